/- Walk of package extra's Put. -/
import Derived.Test.YtlbijehgoiknjaaZExtra
import Derived.Test.YtlbijehgoiknjaaZPutLit
import Derived.Test.YtlbijehgoiknjaaZExtraBig
import Derived.Lib.AppendStr
set_option linter.unusedVariables false
set_option linter.unusedSimpArgs false
namespace Go.Proofs.Ytlbijehgoiknjaa.Z
open Go.RowKit Go.Proofs.YtlbijehgoiknjaaW.PrintWords Go.Proofs.YtlbijehgoiknjaaW.PrintLast Go.Proofs.YtlbijehgoiknjaaW.PrintMore Go.Proofs.Ytlbijehgoiknjaa.PZipdirHeaders

theorem append_str (W : World) (base : Nat) (v : Value) (xs : List Int) (y : ByteArray) (HR : Kd.R (Kd.int .u8) 5 W base (fun _ => True) v xs) (hbase : base ≤ W.heap.size) (hl : xs.length + y.size ≤ 140737488355328) :
    ∃ v' w', (Builtin.append_ #[22, 9] 22 #[v, .string y]).run Try.prog W = .ok v' w' ∧ Kd.R (Kd.int .u8) 5 w' base (fun _ => True) v' (xs ++ bytesOf y) ∧ (∀ W0, Below base W0 W → Below base W0 w') ∧ W.grownBy w' v.ownBlock := by
  obtain ⟨i0, hi, hz0, hz1, hz2⟩ := info_parts info5
  have ho := Kd.own_of_R HR
  obtain ⟨v', w', hrun, hown, hg, _⟩ := Lib.run_append_own_string (P := Try.prog) W base 22 9 22 5 i0 Try.underlying22 Try.underlying9 hi hz0 hz1 hz2 v xs.length _ ho y (by simp only [maxLen]; omega) hl hbase
  refine ⟨v', w', hrun, ?_, fun W0 h => h.grown hg hbase (own_base ho), hg⟩
  have hl2 : (xs ++ bytesOf y).length = xs.length + y.size := by rw [List.length_append, bytesOf_length]
  refine Kd.R_of_own ?_ (fun _ _ => trivial)
  rw [hl2, show encs (Value.int .u8) (xs ++ bytesOf y) = encs (Value.int .u8) xs ++ Lib.strCells y from by simp [encs, bytesOf, Lib.strCells]]
  exact hown

/-- May the field be put behind n bytes? -/
def fldOk (n : Nat) (f : S80) : Bool := decide (0 ≤ f.f0) && decide (f.f0 ≤ 65535) && decide (f.f1.size ≤ 65535) && decide ((f.f1.size : Int) ≤ 65531 - n)
/-- The bytes that Put lays behind some. -/
def xput (b : List Int) : List S80 → Option (List Int)
  | [] => some b
  | f :: fs => if fldOk b.length f = true then xput (b ++ leb f.f0 2 ++ leb f.f1.size 2 ++ bytesOf f.f1) fs else none
def xputR (l : List S80) : Value := match xput [] l with
  | some b => .tuple #[.string (strOfNums b), .int .i64 0]
  | none => .tuple #[.string ⟨#[]⟩, .int .i64 1]

set_option maxHeartbeats 4000000 in
set_option maxRecDepth 100000 in
theorem xput_calls (A : Option Addr) (c : Nat) (l : List S80) (w : World) (hl : Kd.C k80 w A l.length l) (hls : l.length ≤ 1000000) :
    Calls Try.prog 39 #[.slice A l.length c] w fun e w' => e = .returned (xputR l) ∧ Below w.heap.size w w' := by
  have HL := Lib.hid hl
  clear hl
  go_enter Try.func39, Try.ntmps39
  go_wp2_with fail
  go_loopw [4, 9] (fun tb tk wr => ∃ (k : Nat) (xs : List Int), k ≤ l.length ∧ tk = .int .i64 k ∧ xs.length ≤ 65535 ∧ Hid (xput xs (l.drop k) = xput [] l) ∧ Kd.R (Kd.int .u8) 5 wr w.heap.size (fun _ => True) tb xs ∧ Below w.heap.size w wr) (fun _ tk _ => l.length - (intOf tk).toNat)
  case atStart => exact ⟨0, [], by omega, rfl, by simp, rfl, Kd.R_nil _ _ _ _ _, Below.refl _ _⟩
  case round =>
    obtain ⟨k, xs, hk, rfl, hxs, hgo, hR, hB⟩ := hrel
    obtain ⟨Ab, cb, rfl, hcb, hC⟩ := Kd.R_reads hR
    have HR := Lib.hid hR
    have HC := Lib.hid hC
    have HB := Lib.hid hB
    clear hR hC hB
    by_cases hlt : k < l.length
    · obtain ⟨ad, rfl, hx0, hx1⟩ := s80_at (Kd.C_below HL.out HB.out) k hlt
      have hk0 : (0 : Int) ≤ (k : Int) := Int.natCast_nonneg k
      have hk1 : (k : Int) < (l.length : Int) := by omega
      have hgo' := hgo.out
      rw [List.drop_eq_getElem_cons hlt] at hgo'
      have HGO := Lib.hid hgo'
      clear hgo hgo'
      generalize l[k] = f at *
      obtain ⟨id, d⟩ := f
      simp only at hx0 hx1
      by_cases hok : fldOk xs.length ⟨id, d⟩ = true
      · have hok' := hok
        simp only [fldOk, Bool.and_eq_true, decide_eq_true_eq] at hok'
        obtain ⟨⟨⟨h1, h2⟩, h3⟩, h4⟩ := hok'
        have HN := Lib.hid (show xput (xs ++ leb id 2 ++ leb d.size 2 ++ bytesOf d) (l.drop (k + 1)) = xput [] l from by
          have h := HGO.out
          rw [xput, if_pos hok] at h
          exact h)
        have g1 : ¬ id < 0 := by omega
        have g2 : ¬ id > 65535 := by omega
        have g3 : ¬ (d.size : Int) > 65535 := by omega
        have g4 : ¬ (d.size : Int) > 65531 - (xs.length : Int) := by omega
        clear hok
        have hw1 : IntKind.u64.wrap id = id := IntWalk.u64_in _ (by omega)
        have hw2 : IntKind.u64.wrap (d.size : Int) = (d.size : Int) := IntWalk.u64_in _ (by omega)
        have hC1 := HC.out
        go_wp2_with fail
        have hb0 := HB.out
        have HBr := Lib.hid (hb0.alloc hb0.size (.cells #[.int .i64 id, .string d] 80))
        have HRr := Lib.hid (Kd.R_below HR.out (below_alloc (Below.refl _ _) (.cells #[.int .i64 id, .string d] 80)))
        have HCr := Lib.hid (Kd.C_alloc HC.out (.cells #[.int .i64 id, .string d] 80))
        have HFr := Lib.hid (blk_new wr (.cells #[.int .i64 id, .string d] 80))
        have hc0 := blk_cell HFr.out 0
        have hc1 := blk_cell HFr.out 1
        simp only [List.getElem?_toArray, List.getElem?_cons_zero, List.getElem?_cons_succ] at hc0 hc1
        generalize hr : wr.heap.size = r at *
        generalize hwa : wr.alloc (.cells #[.int .i64 id, .string d] 80) = wa at *
        have hwr : w.heap.size ≤ wa.heap.size := HBr.out.size
        clear hC1 hb0 hx0 hx1 HB HR HC
        go_region_held3 (fun w' => w'.cell? ⟨r, 0, none⟩ = some (.int .i64 id) ∧ w'.cell? ⟨r, 1, none⟩ = some (.string d))
          (first | go_keep | exact keep2 hb1 (by assumption) | exact keep2 hb2 (by assumption))
          (first | (go_at_call 37; refine (num_PutLittle.calls 20 A1 c1 L1 (d.size : Int) 2 _ _ hC1 hl1 (putLittle_f _ _ 2 (by omega) (by omega) (by rw [HL1.out, List.length_append, leb_length]; omega))).mono ?_
                    rintro e w2 ⟨v2, rfl, hR2, hb2⟩
                    obtain ⟨L2, hL2⟩ : ∃ L, L = L1 ++ leb (d.size : Int) 2 := ⟨_, rfl⟩
                    rw [← hL2] at hR2
                    have HL2 := Lib.hid hL2
                    clear hL2
                    obtain ⟨A2, c2, rfl, hl2, hC2⟩ := Kd.R_reads hR2)
                 | (go_at_call 37; refine (num_PutLittle.calls 20 Ab cb xs id 2 _ _ (Kd.C_drew HCr.out) hcb (putLittle_f xs id 2 (by omega) (by omega) (by omega))).mono ?_
                    rintro e w1 ⟨v1, rfl, hR1, hb1⟩
                    obtain ⟨L1, hL1⟩ : ∃ L, L = xs ++ leb id 2 := ⟨_, rfl⟩
                    rw [← hL1] at hR1
                    have HL1 := Lib.hid hL1
                    clear hL1
                    obtain ⟨A1, c1, rfl, hl1, hC1⟩ := Kd.R_reads hR1))
        rename_i hHeld
        have hs1 : wa.heap.size ≤ w1.heap.size := hb1.size
        have hs2 : w1.heap.size ≤ w2.heap.size := hb2.size
        have HB2 := Lib.hid ((HBr.out.trans ((below_undrew hb1).mono hwr)).trans (hb2.mono (by omega)))
        have hL2 : L2.length = xs.length + 4 := by rw [HL2.out, HL1.out]; simp [leb_length]
        have HO2 := Lib.hid (Kd.own_of_R (Kd.R_lower hR2 (show w.heap.size ≤ w1.heap.size by omega)))
        obtain ⟨hh0, hh1⟩ := hHeld
        have HL2L := Lib.hid hL2
        clear hb1 hb2 hR1 hR2 hC1 hC2 hc0 hc1 hh0 hwa hL2
        go_wp2_with (first | ((with_reducible refine gate_builtin (b := .append) (xs := #[.tmp 46, .tmp 48]) rfl ?_); at_builtin
                              refine print_append_str (w0 := w) w.heap.size rfl (.tmp 46) (.tmp 48) 22 9 5 rfl Try.underlying22 Try.underlying9 info5 _ L2 d rfl rfl HO2.out HB2.out (by omega) (by have := HL2L.out; omega) ?_
                              intro v3 w3 hown3 hb3 hg3
                              have HR3 := Lib.hid (show Kd.R (Kd.int .u8) 5 w3 w.heap.size (fun _ => True) v3 (L2 ++ bytesOf d) from Kd.R_of_own hown3 (fun _ _ => trivial))
                              have HB3 := Lib.hid hb3
                              clear hown3 hb3 hg3))
        have hL2 := HL2L.out
        go_roundw
        case rel =>
          refine ⟨k + 1, L2 ++ bytesOf d, by omega, by go_num, by rw [List.length_append, bytesOf_length]; omega, ?_, HR3.out, HB3.out⟩
          have h := HN.out
          rw [← HL1.out, ← HL2.out] at h
          exact h
        case measure => simp [intOf]; omega
      · have HN := Lib.hid (show xput [] l = none from by rw [← HGO.out]; show (if fldOk xs.length ⟨id, d⟩ = true then _ else none) = none; rw [if_neg hok])
        have hok' := hok
        simp only [fldOk, Bool.and_eq_true, decide_eq_true_eq] at hok'
        clear hok
        by_cases g1 : id < 0
        · go_wp2
          go_ret2
          exact ⟨by rw [xputR, HN.out]; rfl, HB.out.alloc HB.out.size _⟩
        · by_cases g2 : id > 65535
          · go_wp2
            go_ret2
            exact ⟨by rw [xputR, HN.out]; rfl, HB.out.alloc HB.out.size _⟩
          · by_cases g3 : (d.size : Int) > 65535
            · go_wp2
              go_ret2
              exact ⟨by rw [xputR, HN.out]; rfl, HB.out.alloc HB.out.size _⟩
            · have g4 : (d.size : Int) > 65531 - (xs.length : Int) := by
                rcases Int.lt_or_le (65531 - (xs.length : Int)) (d.size : Int) with h | h
                · exact h
                · exact absurd ⟨⟨⟨by omega, by omega⟩, by omega⟩, h⟩ hok'
              go_wp2
              go_ret2
              exact ⟨by rw [xputR, HN.out]; rfl, HB.out.alloc HB.out.size _⟩
    · have hkn : k = l.length := by omega
      have HV := Lib.hid (show xput [] l = some xs from by
        have h := hgo.out
        rw [List.drop_of_length_le (by omega)] at h
        exact h.symm)
      have hcv := Kd.C_string (P := Try.prog) (c := cb) Try.underlying22 Try.underlying5 Try.underlying9 HC.out
      clear hgo
      go_wp2
      go_ret2
      exact ⟨by rw [xputR, HV.out]; rfl, HB.out⟩
end Go.Proofs.Ytlbijehgoiknjaa.Z
