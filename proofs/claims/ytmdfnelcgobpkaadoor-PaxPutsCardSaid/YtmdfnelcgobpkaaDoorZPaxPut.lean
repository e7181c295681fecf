/- Walk of pax.Put: records as a text. -/
import Derived.Test.YtmdfnelcgobpkaaDoorZPaxLen
import Derived.Test.YtmdfnelcgobpkaaDoorZKit
set_option linter.unusedVariables false
set_option linter.unusedSimpArgs false
namespace Go.Proofs.YtmdfnelcgobpkaaDoor.Z
open Go.RowKit Go.Shelf Go.Proofs.YtmdfnelcgobpkaaDoorW.PrintWords Go.Proofs.YtmdfnelcgobpkaaDoorW.PrintLast Go.Proofs.YtmdfnelcgobpkaaDoorW.PrintMore Go.Proofs.YtmdfnelcgobpkaaDoor.PPaxPuts

theorem s32_at {w : World} {A : Option Addr} {n : Nat} {xs : List S32} (h : Kd.C k32 w A n xs) (k : Nat) (hk : k < xs.length) : ∃ ad, A = some ad ∧ w.cell? (ad.add (k * 2)) = some (.string xs[k].f0) ∧ w.cell? ⟨(ad.add (k * 2)).block, (ad.add (k * 2)).off + 1, none⟩ = some (.string xs[k].f1) := by
  obtain ⟨ad, e, h0, h1⟩ := at_T32 h (k : Int) (by omega) (by have := h.1; omega)
  refine ⟨ad, e, ?_⟩
  have e1 : rd_T32 xs (k : Int) = xs[k] := by simp [rd_T32, List.getD_eq_getElem?_getD, hk]
  rw [e1] at h0 h1
  rw [Int.toNat_natCast] at h0 h1
  exact ⟨h0, h1⟩
/-- A record's length, and its bytes. -/
def recLen (r : S32) : Nat := lenF (r.f0.size + r.f1.size + 3)
def recB (r : S32) : ByteArray := ((((⟨(Lib.decDigits (recLen r)).toArray⟩ ++ ⟨#[32]⟩) ++ r.f0) ++ ⟨#[61]⟩) ++ r.f1) ++ ⟨#[10]⟩
def has (s : ByteArray) (c : UInt8) : Bool := decide (0 ≤ Lib.indexByte s.data.toList c)
def badKey (s : ByteArray) : Bool := s.toList.isEmpty || (has s 61 || (has s 10 || has s 0))
def pputF (acc : List UInt8) : List S32 → Option (List UInt8)
  | [] => some acc
  | r :: rs => if badKey r.f0 = true ∨ (1048576 : Int) - acc.length < recLen r then none else pputF (acc ++ (recB r).data.toList) rs
def pputR (l : List S32) : Value := if 1000 < l.length then .tuple #[.string ⟨#[]⟩, .int .i64 1] else match pputF [] l with
  | some b => .tuple #[.string ⟨b.toArray⟩, .int .i64 0]
  | none => .tuple #[.string ⟨#[]⟩, .int .i64 1]

theorem lenD_le (bare : Nat) : ∀ (f d : Nat), lenD bare f d ≤ bare + d + f
  | 0, d => by simp [lenD]
  | f + 1, d => by
    rw [lenD]
    split
    · omega
    · have := lenD_le bare f (d + 1); omega
theorem recLen_le (r : S32) : recLen r ≤ r.f0.size + r.f1.size + 34 := by
  have := lenD_le (r.f0.size + r.f1.size + 3) 30 1
  unfold recLen lenF
  omega
theorem recB_size (r : S32) : (recB r).size = Lib.nDigits (recLen r) + r.f0.size + r.f1.size + 3 := by
  unfold recB
  simp only [ByteArray.size_append, dec_size]
  have e : ∀ c : UInt8, (⟨#[c]⟩ : ByteArray).size = 1 := fun _ => rfl
  simp only [e]
  omega

theorem two_below {w w1 : World} (h : Below w.heap.size w w1) {a b : Addr} {x y : Value} (hs : w.cell? a = some x ∧ w.cell? b = some y) : w1.cell? a = some x ∧ w1.cell? b = some y :=
  ⟨pw_cell_below h hs.1, pw_cell_below h hs.2⟩
set_option maxHeartbeats 4000000 in
set_option maxRecDepth 100000 in
theorem pput_calls (A : Option Addr) (c : Nat) (l : List S32) (w : World) (hl : Kd.C k32 w A l.length l) (hsz : ∀ r ∈ l, r.f0.size ≤ 1000000 ∧ r.f1.size ≤ 1000000) (htab : Lib.TabIs Tryd.prog w "internal/strconv.uint64pow10" .u64 Lib.pow10Tab) :
    Calls Tryd.prog 7 #[.slice A l.length c] w fun e w' => e = .returned (pputR l) ∧ Below w.heap.size w w' := by
  have HL := Lib.hid hl
  have HT := Lib.hid htab
  have HSZ := Lib.hid hsz
  clear hl htab hsz
  by_cases hbig : (l.length : Int) > 1000
  · have hR : pputR l = .tuple #[.string ⟨#[]⟩, .int .i64 1] := by unfold pputR; rw [if_pos (by omega)]
    rw [hR]
    go_enter Tryd.func7, Tryd.ntmps7
    go_wp2
    go_ret2
    exact ⟨rfl, Below.refl _ _⟩
  · have hR := Lib.hid (show pputR l = (match pputF [] l with | some b => .tuple #[.string ⟨b.toArray⟩, .int .i64 0] | none => .tuple #[.string ⟨#[]⟩, .int .i64 1]) from by unfold pputR; rw [if_neg (by omega)])
    generalize pputR l = RR at *
    have HN := Lib.hid (show Lib.IsBuilder 44 5 w.heap.size w.heap.size (Lib.byteCells []) (w.alloc (.cells #[.pointer none, .slice none 0 0] 44)) from .inl ⟨Nat.le_refl _, .slice none 0 0, blk_new w _, own_nil _ _ _ _, by simp [Value.ownBlock]⟩)
    have HB0 := Lib.hid (below_alloc (Below.refl w.heap.size w) (.cells #[.pointer none, .slice none 0 0] 44))
    go_enter Tryd.func7, Tryd.ntmps7
    go_wp2_with fail
    go_loopw [12] (fun ti wr => ∃ (k : Nat) (acc : List UInt8), k ≤ l.length ∧ ti = .int .i64 k ∧ acc.length ≤ 3000000 * k ∧ Lib.IsBuilder 44 5 w.heap.size w.heap.size (Lib.byteCells acc) wr ∧ Below w.heap.size w wr ∧ Hid (pputF acc (l.drop k) = pputF [] l)) (fun ti _ => l.length - (intOf ti).toNat)
    case atStart => exact ⟨0, [], by omega, rfl, by simp, HN.out, HB0.out, rfl⟩
    case round =>
      obtain ⟨k, acc, hk, rfl, hacc, hBu, hBw, hgo⟩ := hrel
      have HU := Lib.hid hBu
      have HW := Lib.hid hBw
      clear hBu hBw HN HB0
      by_cases hlt : k < l.length
      · obtain ⟨ad, rfl, hx0, hx1⟩ := s32_at (Kd.C_below HL.out HW.out) k hlt
        have hk0 : (0 : Int) ≤ (k : Int) := Int.natCast_nonneg k
        have hk1 : (k : Int) < (l.length : Int) := by omega
        have hgo' := hgo.out
        rw [List.drop_eq_getElem_cons hlt] at hgo'
        have HGO := Lib.hid hgo'
        have HRS := Lib.hid (HSZ.out l[k] (List.getElem_mem hlt))
        clear hgo hgo'
        generalize l[k] = r at *
        obtain ⟨key, value⟩ := r
        simp only at hx0 hx1
        have HRB := Lib.hid (blk_new wr (.cells #[.string key, .string value] 32))
        have HU1 := Lib.hid (builder_below HU.out (below_alloc (Below.refl wr.heap.size wr) (.cells #[.string key, .string value] 32)))
        have HW1 := Lib.hid (HW.out.alloc HW.out.size (.cells #[.string key, .string value] 32))
        have hbl : w.heap.size < wr.heap.size := by
          rcases HU.out with h | h
          · exact h.lt
          · exact h.lt
        clear HU HW
        have hb0 := blk_cell HRB.out 0
        have hb1 := blk_cell HRB.out 1
        simp only [List.getElem?_toArray, List.getElem?_cons_zero, List.getElem?_cons_succ] at hb0 hb1
        have hbad : badKey key = true → RR = .tuple #[.string ⟨#[]⟩, .int .i64 1] := fun h => by
          have := HGO.out
          rw [pputF, if_pos (.inl h)] at this
          rw [hR.out, ← this]
        have HBAD := Lib.hid hbad
        clear hbad
        go_upto_region 7 with (fail)
        clear hx0 hx1
        generalize hrb : wr.heap.size = rb at *
        generalize (wr.alloc (.cells #[.string key, .string value] 32)) = w0 at *
        clear hrb
        cases he : key.toList.isEmpty with
        | true =>
          have HX := Lib.hid (HBAD.out (by unfold badKey; rw [he]; rfl))
          clear HBAD
          go_wp2_with fail
          rw [HX.out]
          go_ret2
          exact ⟨rfl, HW1.out⟩
        | false =>
          go_wp2_with fail
          refine (Tryd.strings_Contains_one key 61 w0).mono ?_
          rintro e w1 ⟨rfl, rfl⟩
          have h61 : decide (0 ≤ Lib.indexByte key.data.toList 61) = has key 61 := rfl
          rw [h61]
          clear h61
          cases hc1 : has key 61 with
          | true =>
            have HX := Lib.hid (HBAD.out (by unfold badKey; rw [he, hc1]; rfl))
            clear HBAD
            go_wp2_with fail
            rw [HX.out]
            go_ret2
            exact ⟨rfl, HW1.out⟩
          | false =>
            go_wp2_with fail
            refine (Tryd.strings_Contains_one key 10 _).mono ?_
            rintro e w2 ⟨rfl, rfl⟩
            have h10 : decide (0 ≤ Lib.indexByte key.data.toList 10) = has key 10 := rfl
            rw [h10]
            clear h10
            cases hc2 : has key 10 with
            | true =>
              have HX := Lib.hid (HBAD.out (by unfold badKey; rw [he, hc1, hc2]; rfl))
              clear HBAD
              go_wp2_with fail
              rw [HX.out]
              go_ret2
              exact ⟨rfl, HW1.out⟩
            | false =>
              go_wp2_with fail
              refine (Tryd.strings_Contains_one key 0 _).mono ?_
              rintro e w3 ⟨rfl, rfl⟩
              have h00 : decide (0 ≤ Lib.indexByte key.data.toList 0) = has key 0 := rfl
              rw [h00]
              clear h00
              cases hc3 : has key 0 with
              | true =>
                have HX := Lib.hid (HBAD.out (by unfold badKey; rw [he, hc1, hc2, hc3]; rfl))
                clear HBAD
                go_wp2_with fail
                rw [HX.out]
                go_ret2
                exact ⟨rfl, HW1.out⟩
              | false =>
                have HGOOD := Lib.hid (show badKey key = false from by unfold badKey; rw [he, hc1, hc2, hc3]; rfl)
                clear HBAD he hc1 hc2 hc3
                have hks := HRS.out
                have HTW := Lib.hid (tab_below HT.out HW1.out)
                go_wp2_with fail
                refine (len_calls key value (key.size + value.size + 3) w3 rfl (by omega) HTW.out).mono ?_
                rintro e w4 ⟨rfl, hb4⟩
                have HML := Lib.hid (show lenF (key.size + value.size + 3) ≤ 3000000 from by have := recLen_le ⟨key, value⟩; unfold recLen at this; simp only at this; omega)
                have HU4 := Lib.hid (builder_below HU1.out hb4)
                have HW4 := Lib.hid (HW1.out.trans (hb4.mono HW1.out.size))
                have HRB4 := Lib.hid (blk_below HRB.out hb4)
                have HTW4 := Lib.hid (tab_below HTW.out hb4)
                clear HU1 HW1 HRB HTW hb4 hb0 hb1
                have hml0 := HML.out
                obtain ⟨m, hm⟩ : ∃ m, m = lenF (key.size + value.size + 3) := ⟨_, rfl⟩
                rw [← hm] at hml0 ⊢
                have HMM := Lib.hid hm
                clear hm HML
                go_wp2_with fail
                refine (Tryd.Builder_Len w.heap.size w.heap.size (Lib.byteCells acc) w4 HU4.out).mono ?_
                rintro e w5 ⟨rfl, rfl⟩
                have hbl2 := Lib.byteCells_length acc
                rw [hbl2]
                clear hbl2
                have hwr : wrap64 (1048576 - (acc.length : Int)) = 1048576 - (acc.length : Int) := by unfold wrap64; omega
                by_cases hov : (1048576 : Int) - acc.length < m
                · have HX := Lib.hid (show RR = .tuple #[.string ⟨#[]⟩, .int .i64 1] from by
                    have h := HGO.out
                    rw [pputF, if_pos (.inr (by unfold recLen; simp only; rw [← HMM.out]; exact hov))] at h
                    rw [hR.out, ← h])
                  have hov1 : decide ((1048576 : Int) - acc.length < m) = true := decide_eq_true hov
                  go_wp2_with fail
                  rw [HX.out]
                  go_ret2
                  exact ⟨rfl, HW4.out⟩
                · have HG2 := Lib.hid (show pputF (acc ++ (recB ⟨key, value⟩).data.toList) (l.drop (k + 1)) = pputF [] l from by
                    have h := HGO.out
                    rw [pputF, if_neg (fun h => by
                      rcases h with h | h
                      · rw [HGOOD.out] at h; cases h
                      · unfold recLen at h; simp only at h; rw [← HMM.out] at h; exact hov h)] at h
                    exact h)
                  have hov1 : decide ((1048576 : Int) - acc.length < m) = false := decide_eq_false hov
                  clear HGO HGOOD
                  go_upto_region 9 with (fail)
                  have hb0 := blk_cell HRB4.out 0
                  have hb1 := blk_cell HRB4.out 1
                  simp only [List.getElem?_toArray, List.getElem?_cons_zero, List.getElem?_cons_succ] at hb0 hb1
                  clear hov hov1 hwr
                  have HDS := Lib.hid (show (⟨(Lib.decDigits m).toArray⟩ : ByteArray).size ≤ 20 from by rw [dec_size]; exact Lib.nDigits_le20 m (by omega))
                  have HDD := Lib.hid (show recB ⟨key, value⟩ = ((((⟨(Lib.decDigits m).toArray⟩ ++ ⟨#[32]⟩) ++ key) ++ ⟨#[61]⟩) ++ value) ++ ⟨#[10]⟩ from by unfold recB recLen; rw [HMM.out])
                  have HIT := fun (W : World) (h : Lib.TabIs Tryd.prog W "internal/strconv.uint64pow10" .u64 Lib.pow10Tab) => itoa_calls m (by omega) W h
                  generalize (⟨(Lib.decDigits m).toArray⟩ : ByteArray) = ds at *
                  have hds := HDS.out
                  have hz : ∀ c : UInt8, (⟨#[c]⟩ : ByteArray).size = 1 := fun _ => rfl
                  have hs1 : ¬ 9223372036854775807 < ds.size + (⟨#[32]⟩ : ByteArray).size := by rw [hz]; omega
                  have hs2 : ¬ 9223372036854775807 < (ds ++ ⟨#[32]⟩).size + key.size := by rw [ByteArray.size_append, hz]; omega
                  have hs3 : ¬ 9223372036854775807 < ((ds ++ ⟨#[32]⟩) ++ key).size + (⟨#[61]⟩ : ByteArray).size := by rw [ByteArray.size_append, ByteArray.size_append, hz, hz]; omega
                  have hs4 : ¬ 9223372036854775807 < (((ds ++ ⟨#[32]⟩) ++ key) ++ ⟨#[61]⟩).size + value.size := by rw [ByteArray.size_append, ByteArray.size_append, ByteArray.size_append, hz, hz]; omega
                  have hs5 : ¬ 9223372036854775807 < ((((ds ++ ⟨#[32]⟩) ++ key) ++ ⟨#[61]⟩) ++ value).size + (⟨#[10]⟩ : ByteArray).size := by rw [ByteArray.size_append, ByteArray.size_append, ByteArray.size_append, ByteArray.size_append, hz, hz, hz]; omega
                  have ht1 : ¬ 9223372036854775807 < ds.size + 1 := by omega
                  have ht2 : ¬ 9223372036854775807 < ds.size + 1 + key.size := by omega
                  have ht3 : ¬ 9223372036854775807 < ds.size + 1 + key.size + 1 := by omega
                  have ht4 : ¬ 9223372036854775807 < ds.size + 1 + key.size + 1 + value.size := by omega
                  have ht5 : ¬ 9223372036854775807 < ds.size + 1 + key.size + 1 + value.size + 1 := by omega
                  have HSS := Lib.hid (show (((((ds ++ ⟨#[32]⟩) ++ key) ++ ⟨#[61]⟩) ++ value) ++ ⟨#[10]⟩ : ByteArray).size ≤ 2999999 from by rw [ByteArray.size_append, ByteArray.size_append, ByteArray.size_append, ByteArray.size_append, ByteArray.size_append, hz, hz, hz]; omega)
                  go_region_held3 (fun w' => w'.cell? ⟨rb, 0, none⟩ = some (.string key) ∧ w'.cell? ⟨rb, 1, none⟩ = some (.string value))
                    (first | go_keep | exact two_below hb8 (by assumption) | exact two_below hb7 (by assumption) | exact two_below hb6 (by assumption) | exact ⟨hq0, hq1⟩)
                    (first
                      | (go_at_call 19
                         have hu8 := builder_below (builder_below HU4.out (Below.drew (Below.refl _ _))) hb6
                         go_must (refine (write_calls w.heap.size w.heap.size (Lib.byteCells acc) _ _ (builder_below hu8 hb7) (by rw [Lib.byteCells_length]; have := HSS.out; omega) (by have := HW4.out.size; have := hb6.size; have := hb7.size; simp at *; omega)).mono ?_)
                         rintro e w8 ⟨rfl, hU8, hB8, hK8⟩
                         have hq0 := blk_cell (hK8 rb _ _ (by decide) (by omega) (blk_below (blk_below (blk_drew HRB4.out) hb6) hb7)) 0
                         have hq1 := blk_cell (hK8 rb _ _ (by decide) (by omega) (blk_below (blk_below (blk_drew HRB4.out) hb6) hb7)) 1
                         have HU8 := Lib.hid hU8
                         have HB8 := Lib.hid hB8
                         clear hU8 hB8 hK8 hu8)
                      | (go_at_call 20
                         go_must (refine (HIT _ (tab_below (tab_below HTW4.out (Below.drew (Below.refl _ _))) hb6)).mono ?_)
                         rintro e w7 ⟨rfl, hb7⟩)
                      | (go_at_call 9
                         go_must (refine (len_calls key value (key.size + value.size + 3) _ rfl (by omega) (tab_below HTW4.out (Below.drew (Below.refl _ _)))).mono ?_)
                         rintro e w6 ⟨rfl, hb6⟩
                         rw [← HMM.out]))
                  rename_i hHeld
                  clear hHeld hq0 hq1 hs1 hs2 hs3 hs4 hs5 ht1 ht2 ht3 ht4 ht5 hb0 hb1
                  have HW6 := HW4.out.trans ((below_undrew hb6).mono HW4.out.size)
                  have HW7 := HW6.trans (hb7.mono HW6.size)
                  have HW8 := Lib.hid (HW7.trans HB8.out)
                  have HU9 := Lib.hid (show Lib.IsBuilder 44 5 w.heap.size w.heap.size (Lib.byteCells (acc ++ (recB ⟨key, value⟩).data.toList)) w8 from .inr (by
                    rw [Lib.byteCells_append, ← Lib.strCells_eq, HDD.out]
                    exact HU8.out))
                  have HLN := Lib.hid (show (acc ++ (recB ⟨key, value⟩).data.toList).length ≤ 3000000 * (k + 1) from by
                    have h1 : (recB ⟨key, value⟩).data.toList.length = (recB ⟨key, value⟩).size := Array.length_toList
                    rw [List.length_append, h1, HDD.out]
                    have h2 := HSS.out
                    omega)
                  clear HW6 HW7 hb6 hb7 HIT HU4 HW4 HRB4 HTW4 HU8 HB8
                  go_wp2
                  go_roundw
                  case rel => exact ⟨k + 1, acc ++ (recB ⟨key, value⟩).data.toList, by omega, by go_num, HLN.out, HU9.out, HW8.out, HG2⟩
                  case measure => simp [intOf]; omega
      · have hk1 : ¬ (k : Int) < (l.length : Int) := by omega
        have HX := Lib.hid (show RR = .tuple #[.string ⟨acc.toArray⟩, .int .i64 0] from by
          have h := hgo.out
          rw [List.drop_of_length_le (by omega), pputF] at h
          rw [hR.out, ← h])
        go_wp2_with fail
        refine (Tryd.Builder_String_any w.heap.size w.heap.size acc wr HU.out HW.out.size).mono ?_
        rintro e w9 ⟨rfl, hb9⟩
        go_wp2
        rw [HX.out]
        go_ret2
        exact ⟨rfl, HW.out.trans hb9⟩
end Go.Proofs.YtmdfnelcgobpkaaDoor.Z
