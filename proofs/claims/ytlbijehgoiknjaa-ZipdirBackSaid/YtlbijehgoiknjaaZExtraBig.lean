/- Walk of package extra's Big where the great numbers are found. -/
import Derived.Test.YtlbijehgoiknjaaZExtra
import Derived.Test.YtlbijehgoiknjaaZSmall
import Derived.Test.YtlbijehgoiknjaaZExtraRead
set_option linter.unusedVariables false
set_option linter.unusedSimpArgs false
namespace Go.Proofs.Ytlbijehgoiknjaa.Z
open Go.RowKit Go.Proofs.YtlbijehgoiknjaaW.PrintWords Go.Proofs.YtlbijehgoiknjaaW.PrintLast Go.Proofs.YtlbijehgoiknjaaW.PrintMore Go.Proofs.Ytlbijehgoiknjaa.PZipdirHeaders

theorem made_ints (n : Nat) : madeCells #[.int .i64 0] n = ((List.replicate n (0 : Int)).map fun x => Value.int .i64 x).toArray := by
  apply Array.ext
  · simp [madeCells]
  · intro i h1 h2
    simp [madeCells, Nat.mod_one]

/-- The numbers of a field, for those that are wanted. -/
def bigVals (d : ByteArray) : List Bool → Int → Option (List Int)
  | [], _ => some []
  | false :: ws, at_ => (bigVals d ws at_).map (0 :: ·)
  | true :: ws, at_ => match enumF (bytesOf d) at_ 8 with
    | none => none
    | some v => (bigVals d ws (at_ + 8)).map (v :: ·)
/-- What Big returns. -/
def bigF (l : List S80) (wants : List Bool) : Option (List Int) :=
  if wants.countP id = 0 then some (List.replicate wants.length 0) else
  match l.find? (fun f => f.f0 == 1) with
  | none => none
  | some f => if (f.f1.size : Int) = 8 * (wants.countP id : Int) then bigVals f.f1 wants 0 else none
theorem bool_at {w : World} {A : Option Addr} {n : Nat} {xs : List Bool} (h : Kd.bool.C w A n xs) (k : Nat) (hk : k < xs.length) : ∃ ad, A = some ad ∧ w.cell? (ad.add k) = some (.bool xs[k]) := by
  obtain ⟨ad, e, hc⟩ := Kd.at_bool h (k : Int) (by omega) (by have := h.1; omega)
  refine ⟨ad, e, ?_⟩
  rw [Int.toNat_natCast] at hc
  rw [hc]
  simp [rdOf, List.getD_eq_getElem?_getD, hk]
theorem countP_take_succ (ws : List Bool) (k : Nat) (hk : k < ws.length) : (ws.take (k + 1)).countP id = (ws.take k).countP id + (if ws[k] = true then 1 else 0) := by
  rw [List.take_add_one, List.getElem?_eq_getElem hk]
  cases h : ws[k] <;> simp [List.countP_append]

theorem set_row (vs : List Int) (v : Int) (m : Nat) : (((vs ++ List.replicate (m + 1) (0 : Int)).map fun x => Value.int .i64 x).toArray).setIfInBounds vs.length (.int .i64 v) = ((((vs ++ [v]) ++ List.replicate m (0 : Int)).map fun x => Value.int .i64 x).toArray) := by
  rw [List.setIfInBounds_toArray]
  congr 1
  rw [← List.map_set, List.set_append_right _ _ (Nat.le_refl _), Nat.sub_self, List.replicate_succ, List.set_cons_zero, List.append_assoc, List.singleton_append]
theorem bigVals_true (d : ByteArray) (ws : List Bool) (at_ : Int) : bigVals d (true :: ws) at_ = match enumF (bytesOf d) at_ 8 with
    | none => none
    | some v => (bigVals d ws (at_ + 8)).map (v :: ·) := rfl
theorem bigVals_false (d : ByteArray) (ws : List Bool) (at_ : Int) : bigVals d (false :: ws) at_ = (bigVals d ws at_).map (0 :: ·) := rfl
def BigPost (w : World) (vals : List Int) (e : Ending) (w' : World) : Prop := ∃ b c, e = .returned (.tuple #[.slice (some ⟨b, 0, none⟩) vals.length c, .int .i64 0]) ∧ w.heap.size ≤ b ∧ w'.heap[b]? = some (.cells (vals.map fun x => Value.int .i64 x).toArray 3 (0, 0)) ∧ Below w.heap.size w w'
theorem s80_at {w : World} {A : Option Addr} {n : Nat} {xs : List S80} (h : Kd.C k80 w A n xs) (k : Nat) (hk : k < xs.length) : ∃ ad, A = some ad ∧ w.cell? (ad.add (k * 2)) = some (.int .i64 xs[k].f0) ∧ w.cell? ⟨(ad.add (k * 2)).block, (ad.add (k * 2)).off + 1, none⟩ = some (.string xs[k].f1) := by
  obtain ⟨ad, e, h0, h1⟩ := at_T80 h (k : Int) (by omega) (by have := h.1; omega)
  refine ⟨ad, e, ?_⟩
  have e1 : rd_T80 xs (k : Int) = xs[k] := by simp [rd_T80, List.getD_eq_getElem?_getD, hk]
  rw [e1] at h0 h1
  rw [Int.toNat_natCast] at h0 h1
  exact ⟨h0, h1⟩

theorem gap_cell (vs : List Int) (m k : Nat) (h : vs.length = k) (hm : 0 < m) : (((vs ++ List.replicate m (0:Int)).map fun x => Value.int .i64 x).toArray)[k]? = some (.int .i64 0) := by
  subst h
  obtain ⟨m, rfl⟩ : ∃ n, m = n + 1 := ⟨m - 1, by omega⟩
  simp [List.replicate_succ]
theorem keep2 {w w1 : World} (h : Below w.heap.size w w1) {a b : Addr} {x y : Value} (hs : w.cell? a = some x ∧ w.cell? b = some y) : w1.cell? a = some x ∧ w1.cell? b = some y :=
  ⟨pw_cell_below h hs.1, pw_cell_below h hs.2⟩
theorem keep2s {w : World} {a b c : Addr} {x y v : Value} (h1 : a.block ≠ c.block) (h2 : b.block ≠ c.block) (hs : w.cell? a = some x ∧ w.cell? b = some y) : (w.setCell c v).cell? a = some x ∧ (w.setCell c v).cell? b = some y := by
  refine ⟨?_, ?_⟩
  · rw [cell_far h1]; exact hs.1
  · rw [cell_far h2]; exact hs.2
set_option maxHeartbeats 4000000 in
set_option maxRecDepth 100000 in
theorem big_ok (Al Aw : Option Addr) (cl cw : Nat) (l : List S80) (wants : List Bool) (vals : List Int) (w : World) (hl : Kd.C k80 w Al l.length l) (hw : Kd.C Kd.bool w Aw wants.length wants) (hls : l.length ≤ 1000000) (hws : wants.length ≤ 1000) (hds : ∀ f ∈ l, f.f1.size ≤ 1000000) (h : bigF l wants = some vals) :
    Calls Try.prog 46 #[.slice Al l.length cl, .slice Aw wants.length cw] w (BigPost w vals) := by
  have hmf := hmf
  have HL := Lib.hid hl
  have HW := Lib.hid hw
  have HD := Lib.hid hds
  have H := Lib.hid h
  clear hl hw hds h
  go_enter_defers Try.func46, Try.ntmps46
  go_wp2_with fail
  go_loop [6, 17] (fun n i => ∃ k : Nat, k ≤ wants.length ∧ i = .int .i64 k ∧ n = .int .i64 ((wants.take k).countP id)) (fun _ i => wants.length - (intOf i).toNat)
  case atStart => exact ⟨0, by omega, rfl, by simp⟩
  case round =>
    obtain ⟨k, hk, rfl, rfl⟩ := hrel
    have hcp : (wants.take k).countP id ≤ k := by have := List.countP_le_length (p := id) (l := wants.take k); simp at this; omega
    by_cases hlt : k < wants.length
    · obtain ⟨ad, rfl, hx⟩ := bool_at (Kd.C_alloc (Kd.C_alloc HW.out (.cells #[.slice none 0 0] 37)) (.cells #[.int .i64 0] 25)) k hlt
      have HS := Lib.hid (countP_take_succ wants k hlt)
      have hk0 : (0 : Int) ≤ (k : Int) := Int.natCast_nonneg k
      have hk1 : (k : Int) < (wants.length : Int) := by omega
      cases hb : wants[k] with
      | true =>
        rw [hb] at hx HS
        go_wp2
        go_round
        case rel => exact ⟨k + 1, by omega, by go_num, by rw [HS.out]; simp⟩
        case measure => simp [intOf]; omega
      | false =>
        rw [hb] at hx HS
        go_wp2
        go_round
        case rel => exact ⟨k + 1, by omega, by go_num, by rw [HS.out]; simp⟩
        case measure => simp [intOf]; omega
    · have hkn : k = wants.length := by omega
      subst hkn
      rw [List.take_length] at hcp ⊢
      obtain ⟨i0, hi0, hz0, hz1, hz2⟩ := info_parts info3
      obtain ⟨ZC, hZC⟩ : ∃ ZC, ZC = ((List.replicate wants.length (0 : Int)).map fun x => Value.int .i64 x).toArray := ⟨_, rfl⟩
      have hmk : ∀ W : World, (Instr.makeSlice 37 (.int .i64 (wants.length : Int)) (.int .i64 (wants.length : Int))).run Try.prog W = .ok (.slice (some ⟨W.heap.size, 0, none⟩) wants.length wants.length) (W.alloc (.cells ZC 3)) := fun W => by
        have h := run_make (P := Try.prog) W 37 3 i0 _ Try.underlying37 hi0 hz0 .i64 .i64 wants.length wants.length (by omega) (by omega) (by rw [hz2]; omega) (by omega)
        rw [hz1, Int.toNat_natCast, Nat.mul_one] at h
        rw [hZC, ← made_ints]
        exact h
      have HZC := Lib.hid hZC
      clear hZC hi0 hz0 hz1 hz2
      have hw1 : ((w.alloc (.cells #[.slice none 0 0] 37)).alloc (.cells #[.int .i64 0] 25)).heap.size = w.heap.size + 1 + 1 := by simp
      have HP0 := Lib.hid (blk_alloc (blk_alloc (blk_new w (.cells #[.slice (some ⟨w.heap.size + 1 + 1, 0, none⟩) wants.length wants.length] 37)) (.cells #[.int .i64 0] 25)) (.cells ZC 3))
      have HQ0 := Lib.hid (blk_alloc (blk_new' (w.alloc (.cells #[.slice (some ⟨w.heap.size + 1 + 1, 0, none⟩) wants.length wants.length] 37)) (.cells #[.int .i64 0] 25) (w.heap.size + 1) (by simp)) (.cells ZC 3))
      have HG0 := Lib.hid (blk_new' ((w.alloc (.cells #[.slice (some ⟨w.heap.size + 1 + 1, 0, none⟩) wants.length wants.length] 37)).alloc (.cells #[.int .i64 0] 25)) (.cells ZC 3) (w.heap.size + 1 + 1) (by simp))
      have HB0 := Lib.hid (below_alloc (below_alloc (below_alloc (Below.refl w.heap.size w) (.cells #[.slice (some ⟨w.heap.size + 1 + 1, 0, none⟩) wants.length wants.length] 37)) (.cells #[.int .i64 0] 25)) (.cells ZC 3))
      by_cases hn : wants.countP id = 0
      · have hnb : ((wants.countP id : Int) == 0) = true := by rw [hn]; rfl
        have HV := Lib.hid (show vals = List.replicate wants.length 0 from by
          have := H.out
          unfold bigF at this
          rw [if_pos hn] at this
          injection this with this
          exact this.symm)
        clear hn
        go_wp2
        refine xbig_ret _ 0 _ _ _ ⟨w.heap.size, 0, none⟩ ⟨w.heap.size + 1, 0, none⟩ _ rfl rfl (blk_cell HP0.out 0) (blk_cell HQ0.out 0) _ ?_
        have hv := HV.out
        have hl : vals.length = wants.length := by rw [hv, List.length_replicate]
        refine ⟨w.heap.size + 1 + 1, wants.length, by rw [hl], by omega, ?_, HB0.out.alloc HB0.out.size _⟩
        rw [hv, ← HZC.out]
        exact blk_alloc HG0.out _
      · have hnb : ((wants.countP id : Int) == 0) = false := by simpa using hn
        have hB := H.out
        unfold bigF at hB
        rw [if_neg hn] at hB
        cases hf : l.find? (fun f => f.f0 == 1) with
        | none => rw [hf] at hB; cases hB
        | some f =>
          rw [hf] at hB
          simp only at hB
          by_cases hsz : (f.f1.size : Int) = 8 * (wants.countP id : Int)
          · rw [if_pos hsz] at hB
            rw [List.find?_eq_some_iff_getElem] at hf
            obtain ⟨hf1, j, hj, hfj, hfirst⟩ := hf
            have HV := Lib.hid hB
            have HSZ := Lib.hid hsz
            have HFJ := Lib.hid hfj
            have HF1 := Lib.hid hf1
            have HFI := Lib.hid hfirst
            clear hn hB hsz hfj hf1 hfirst
            go_wp2_with fail
            go_loopw [33] (fun t wr => ∃ k : Nat, k ≤ j ∧ t = .int .i64 k ∧ wr.heap[w.heap.size]? = some (.cells #[.slice (some ⟨w.heap.size + 1 + 1, 0, none⟩) wants.length wants.length] 37 (0, 0)) ∧ wr.heap[w.heap.size + 1]? = some (.cells #[.int .i64 0] 25 (0, 0)) ∧ wr.heap[w.heap.size + 1 + 1]? = some (.cells ZC 3 (0, 0)) ∧ Below w.heap.size w wr ∧ w.heap.size + 1 + 1 < wr.heap.size) (fun t _ => l.length - (intOf t).toNat)
            case atStart => exact ⟨0, by omega, rfl, HP0.out, HQ0.out, HG0.out, HB0.out, by simp⟩
            case round =>
              obtain ⟨k, hkj, rfl, hP, hQ, hG, hBel, hsize⟩ := hrel
              have HPr := Lib.hid hP
              have HQr := Lib.hid hQ
              have HGr := Lib.hid hG
              have HBr := Lib.hid hBel
              clear hP hQ hG hBel HP0 HQ0 HG0 HB0
              have hkl : k < l.length := by omega
              obtain ⟨ad, rfl, hx0, hx1⟩ := s80_at (Kd.C_below HL.out HBr.out) k hkl
              have hk0 : (0 : Int) ≤ (k : Int) := Int.natCast_nonneg k
              have hk1 : (k : Int) < (l.length : Int) := by omega
              by_cases hlt : k < j
              · have hne1 : (l[k].f0 != 1) = true := by simpa using HFI.out k hlt
                go_wp2
                go_roundw
                case rel => exact ⟨k + 1, by omega, by go_num, blk_alloc HPr.out (.cells #[.int .i64 l[k].f0, .string l[k].f1] 80), blk_alloc HQr.out (.cells #[.int .i64 l[k].f0, .string l[k].f1] 80), blk_alloc HGr.out (.cells #[.int .i64 l[k].f0, .string l[k].f1] 80), HBr.out.alloc HBr.out.size (.cells #[.int .i64 l[k].f0, .string l[k].f1] 80), by simp; omega⟩
                case measure => simp [intOf]; omega
              · obtain rfl : k = j := by omega
                have hfe := HFJ.out
                rw [hfe] at hx0 hx1
                have hne1 : (f.f0 != 1) = false := by have := HF1.out; simpa using this
                have hsz1 : ((f.f1.size : Int) != 8 * (wants.countP id : Int)) = false := by have := HSZ.out; simpa using this
                clear hkj hfe
                go_wp2_with fail
                have HPs := Lib.hid (blk_alloc HPr.out (.cells #[.int .i64 f.f0, .string f.f1] 80))
                have HQs := Lib.hid (blk_alloc HQr.out (.cells #[.int .i64 f.f0, .string f.f1] 80))
                have HGs := Lib.hid (blk_alloc HGr.out (.cells #[.int .i64 f.f0, .string f.f1] 80))
                have HFs := Lib.hid (blk_new wr (.cells #[.int .i64 f.f0, .string f.f1] 80))
                have HBs := Lib.hid (HBr.out.alloc HBr.out.size (.cells #[.int .i64 f.f0, .string f.f1] 80))
                have hkb := fun W => print_bytes (P := Try.prog) 9 22 5 Try.underlying9 Try.underlying22 Try.underlying5 f.f1 W
                have hkl := bytesOf_length f.f1
                rw [← hkl] at hkb
                have HKL := Lib.hid hkl
                have hbw : ∀ W : World, Below W.heap.size W (Lib.bytesWorld W 5 f.f1) := fun W => bytes_below (Below.refl _ _) (Nat.le_refl _) _ _
                have HBW := Lib.hid hbw
                have hfs : f.f1.size ≤ 1000000 := HD.out f (by rw [← HFJ.out]; exact List.getElem_mem _)
                clear hx0 hx1 hne1 hsz1 hkl hbw
                generalize hr : wr.heap.size = r at *
                have hr0 : w.heap.size + 1 + 1 < r := hsize
                go_loopw [11, 50] (fun ta ti wq => ∃ (k2 : Nat) (vs : List Int), k2 ≤ wants.length ∧ ti = .int .i64 k2 ∧ ta = .int .i64 (8 * ((wants.take k2).countP id : Int)) ∧ Hid (vs.length = k2) ∧ wq.heap[w.heap.size]? = some (.cells #[.slice (some ⟨w.heap.size + 1 + 1, 0, none⟩) wants.length wants.length] 37 (0, 0)) ∧ wq.heap[w.heap.size + 1]? = some (.cells #[.int .i64 0] 25 (0, 0)) ∧ wq.heap[w.heap.size + 1 + 1]? = some (.cells ((vs ++ List.replicate (wants.length - k2) (0 : Int)).map fun x => Value.int .i64 x).toArray 3 (0, 0)) ∧
                    wq.heap[r]? = some (.cells #[.int .i64 f.f0, .string f.f1] 80 (0, 0)) ∧ Below w.heap.size w wq ∧ Hid ((bigVals f.f1 (wants.drop k2) (8 * ((wants.take k2).countP id : Int))).map (vs ++ ·) = some vals)) (fun _ ti _ => wants.length - (intOf ti).toNat)
                case atStart =>
                  refine ⟨0, [], by omega, rfl, by simp, rfl, HPs.out, HQs.out, ?_, HFs.out, HBs.out, ?_⟩
                  · have := HGs.out
                    rw [HZC.out] at this
                    exact this
                  · show _ = _
                    simpa using HV.out
                case round =>
                  obtain ⟨k2, vs, hk2, rfl, rfl, hvl, hP, hQ, hG, hF, hBel, hgo⟩ := hrel
                  have HP2 := Lib.hid hP
                  have HQ2 := Lib.hid hQ
                  have HG2 := Lib.hid hG
                  have HF2 := Lib.hid hF
                  have HB2 := Lib.hid hBel
                  clear hP hQ hG hF hBel HPs HQs HGs HFs HBs HPr HQr HGr HBr
                  have hcp2 : (wants.take k2).countP id ≤ k2 := by have := List.countP_le_length (p := id) (l := wants.take k2); simp at this; omega
                  by_cases hlt2 : k2 < wants.length
                  · obtain ⟨adw, hadw, hxw⟩ := bool_at (Kd.C_below HW.out HB2.out) k2 hlt2
                    cases hadw
                    have hk20 : (0 : Int) ≤ (k2 : Int) := Int.natCast_nonneg k2
                    have hk21 : (k2 : Int) < (wants.length : Int) := by omega
                    have HCS := Lib.hid (countP_take_succ wants k2 hlt2)
                    have hdrop := List.drop_eq_getElem_cons hlt2
                    cases hb : wants[k2] with
                    | false =>
                      rw [hb] at hxw HCS hdrop
                      have HG3 := Lib.hid (show (bigVals f.f1 (wants.drop (k2 + 1)) (8 * ((wants.take (k2 + 1)).countP id : Int))).map ((vs ++ [0]) ++ ·) = some vals from by
                        have h := hgo.out
                        rw [hdrop, bigVals_false] at h
                        rw [HCS.out]
                        simp only [Bool.false_eq_true, if_false, Nat.add_zero]
                        rw [← h]
                        cases bigVals f.f1 (wants.drop (k2 + 1)) (8 * ((wants.take k2).countP id : Int)) <;> simp)
                      clear hgo hdrop hb
                      go_wp2
                      go_roundw
                      case rel =>
                        refine ⟨k2 + 1, vs ++ [0], by omega, by go_num, by rw [HCS.out]; simp, by show _ = _; rw [List.length_append, hvl.out]; rfl, HP2.out, HQ2.out, ?_, HF2.out, HB2.out, HG3.out⟩
                        have := HG2.out
                        rw [show wants.length - k2 = (wants.length - (k2 + 1)) + 1 by omega, List.replicate_succ, ← List.singleton_append, ← List.append_assoc] at this
                        exact this
                      case measure => simp [intOf]; omega
                    | true =>
                      rw [hb] at hxw HCS hdrop
                      cases hen : enumF (bytesOf f.f1) (8 * ((wants.take k2).countP id : Int)) 8 with
                      | none =>
                        have h := hgo.out
                        rw [hdrop, bigVals_true, hen] at h
                        cases h
                      | some v =>
                        have HG3 := Lib.hid (show (bigVals f.f1 (wants.drop (k2 + 1)) (8 * ((wants.take (k2 + 1)).countP id : Int))).map ((vs ++ [v]) ++ ·) = some vals from by
                          have h := hgo.out
                          rw [hdrop, bigVals_true, hen] at h
                          rw [HCS.out]
                          simp only [if_true]
                          rw [show (8 * ((((wants.take k2).countP id + 1 : Nat)) : Int)) = 8 * ((wants.take k2).countP id : Int) + 8 by omega]
                          rw [← h]
                          cases bigVals f.f1 (wants.drop (k2 + 1)) (8 * ((wants.take k2).countP id : Int) + 8) <;> simp)
                        have HEN := Lib.hid hen
                        clear hgo hdrop hb hen
                        have hp := blk_cell HP2.out 0
                        have hfd := blk_cell HF2.out 1
                        simp only [List.getElem?_toArray, List.getElem?_cons_zero, List.getElem?_cons_succ] at hp hfd
                        have hgc : wr.cell? ⟨w.heap.size + 1 + 1, k2, none⟩ = some (.int .i64 0) := by
                          rw [blk_cell HG2.out]
                          exact gap_cell vs _ _ hvl.out (by omega)
                        have hgz : wr.frozen? ⟨w.heap.size + 1 + 1, k2, none⟩ = false := blk_frozen HG2.out _
                        have HP3 := Lib.hid hp
                        have HF3 := Lib.hid hfd
                        go_wp2_with fail
                        refine wp_region_noPanic ?_
                        refine wp_region_held_drew (S := fun w' => w'.cell? ⟨w.heap.size, 0, none⟩ = some (.slice (some ⟨w.heap.size + 1 + 1, 0, none⟩) wants.length wants.length) ∧ w'.cell? ⟨r, 1, none⟩ = some (.string f.f1)) (by kernel_rfl) ?_ (fun hHeld => ?_)
                        · go_keep
                        refine wpAnyH_take (i := 0) (v := ?v0) rfl (by kernel_rfl) (by kernel_rfl) (by kernel_rfl) (fun _ _ _ h => h) (Or.inl ⟨by rfl, ?hy0⟩) (by assumption) ?_
                        case hy0 =>
                          intro w' hSw
                          try dsimp only at hSw
                          go_simp
                          all_goals (with_reducible rfl)
                        try simp only [Act.put, List.setIfInBounds_toArray, List.set_cons_zero, List.set_cons_succ]
                        refine wpAnyH_take (i := 1) (v := ?v1) rfl (by kernel_rfl) (by kernel_rfl) (by kernel_rfl) (fun _ _ _ h => h) (Or.inl ⟨by rfl, ?hy1⟩) (by assumption) ?_
                        case hy1 =>
                          intro w' hSw
                          try dsimp only at hSw
                          go_simp
                          all_goals (with_reducible rfl)
                        try simp only [Act.put, List.setIfInBounds_toArray, List.set_cons_zero, List.set_cons_succ]
                        refine wpAnyH_take (i := 2) (v := ?v2) rfl (by kernel_rfl) (by kernel_rfl) (by kernel_rfl) (fun _ _ _ h => h) (Or.inl ⟨by rfl, ?hy2⟩) (by assumption) ?_
                        case hy2 =>
                          intro w' hSw
                          try dsimp only at hSw
                          go_simp
                          all_goals (with_reducible rfl)
                        try simp only [Act.put, List.setIfInBounds_toArray, List.set_cons_zero, List.set_cons_succ]
                        refine wpAnyH_take (i := 3) (v := ?v3) rfl (by kernel_rfl) (by kernel_rfl) (by kernel_rfl) (fun _ _ _ h => h) (Or.inl ⟨by rfl, ?hy3⟩) (by assumption) ?_
                        case hy3 =>
                          intro w' hSw
                          try dsimp only at hSw
                          go_simp
                          all_goals (with_reducible rfl)
                        try simp only [Act.put, List.setIfInBounds_toArray, List.set_cons_zero, List.set_cons_succ]
                        refine wpAnyH_take (i := 5) (v := ?v5) rfl (by kernel_rfl) (by kernel_rfl) (by kernel_rfl) (fun _ _ _ h => h) (Or.inl ⟨by rfl, ?hy5⟩) (by assumption) ?_
                        case hy5 =>
                          intro w' hSw
                          try dsimp only at hSw
                          go_simp
                          all_goals (with_reducible rfl)
                        try simp only [Act.put, List.setIfInBounds_toArray, List.set_cons_zero, List.set_cons_succ]
                        refine wpAnyH_ready (rs := [4]) (by kernel_rfl) (by simp) ?_
                        refine AllReadyH.cons rfl (fun K hK => ?_) AllReadyH.nil
                        go_simp
                        refine hK.out _ _ ?_ (fun hHeld => ?_)
                        · exact keep2 (HBW.out _) (by assumption)
                        clear hK K
                        try simp only [Act.put, List.setIfInBounds_toArray, List.set_cons_zero, List.set_cons_succ]
                        refine wpAnyH_ready (rs := [6]) (by kernel_rfl) (by simp) ?_
                        refine AllReadyH.cons rfl (fun K hK => ?_) AllReadyH.nil
                        go_simp
                        go_at_call 54
                        refine (enum_some _ _ (bytesOf f.f1) _ 8 _ _ (C_bytes _ f.f1 (by omega)) (bytesOf_range f.f1) (by rw [HKL.out]; omega) HEN.out).mono ?_
                        rintro e w1 ⟨rfl, hb1⟩
                        have hG1 := blk_below (blk_below (blk_drew HG2.out) (HBW.out _)) hb1
                        have hgc1 := (blk_cell hG1 k2).trans (gap_cell vs _ _ hvl.out (by omega))
                        have hgz1 := blk_frozen hG1 k2
                        have HG1 := Lib.hid hG1
                        have HB1 := Lib.hid hb1
                        clear hG1
                        go_wp2_with fail
                        refine hK.out _ _ ?_ (fun hHeld => ?_)
                        · exact keep2 hb1 (by assumption)
                        clear hK K
                        try simp only [Act.put, List.setIfInBounds_toArray, List.set_cons_zero, List.set_cons_succ]
                        refine wpAnyH_take (i := 7) (v := ?v7) rfl (by kernel_rfl) (by kernel_rfl) (by kernel_rfl) (fun _ _ _ h => h) (Or.inl ⟨by rfl, ?hy7⟩) (by assumption) ?_
                        case hy7 =>
                          intro w' hSw
                          try dsimp only at hSw
                          go_simp
                          all_goals (with_reducible rfl)
                        try simp only [Act.put, List.setIfInBounds_toArray, List.set_cons_zero, List.set_cons_succ]
                        refine wpAnyH_ready (rs := [8]) (by kernel_rfl) (by simp) ?_
                        refine AllReadyH.cons rfl (fun K hK => ?_) AllReadyH.nil
                        go_simp
                        refine hK.out _ _ ?_ (fun hHeld => ?_)
                        · exact keep2s (by show w.heap.size ≠ w.heap.size + 1 + 1; omega) (by show r ≠ w.heap.size + 1 + 1; omega) (by assumption)
                        clear hK K
                        try simp only [Act.put, List.setIfInBounds_toArray, List.set_cons_zero, List.set_cons_succ]
                        refine wpAnyH_done (by kernel_rfl) ?_ _
                        refine NoPanic.normal ?_
                        have hst : wr.heap.size ≤ (Lib.bytesWorld wr.drew 5 f.f1).heap.size := (HBW.out wr.drew).size
                        have hB1 : Below w.heap.size w w1 := (HB2.out.trans (Below.mono (below_undrew (HBW.out wr.drew)) HB2.out.size)).trans (HB1.out.mono (Nat.le_trans HB2.out.size hst))
                        have hf1 : w1.heap[r]? = some (.cells #[.int .i64 f.f0, .string f.f1] 80 (0, 0)) := blk_below (blk_below (blk_drew HF2.out) (HBW.out _)) HB1.out
                        have hp1 : w1.heap[w.heap.size]? = some (.cells #[.slice (some ⟨w.heap.size + 1 + 1, 0, none⟩) wants.length wants.length] 37 (0, 0)) := blk_below (blk_below (blk_drew HP2.out) (HBW.out _)) HB1.out
                        have hq1 : w1.heap[w.heap.size + 1]? = some (.cells #[.int .i64 0] 25 (0, 0)) := blk_below (blk_below (blk_drew HQ2.out) (HBW.out _)) HB1.out
                        have HF4 := Lib.hid (blk_far hf1 (p := ⟨w.heap.size + 1 + 1, k2, none⟩) (by show r ≠ w.heap.size + 1 + 1; omega) (.int .i64 v))
                        have HP4 := Lib.hid (blk_far hp1 (p := ⟨w.heap.size + 1 + 1, k2, none⟩) (by show w.heap.size ≠ w.heap.size + 1 + 1; omega) (.int .i64 v))
                        have HQ4 := Lib.hid (blk_far hq1 (p := ⟨w.heap.size + 1 + 1, k2, none⟩) (by show w.heap.size + 1 ≠ w.heap.size + 1 + 1; omega) (.int .i64 v))
                        have HG4 := Lib.hid (blk_set HG1.out k2 (.int .i64 v))
                        have HB4 := Lib.hid (hB1.setCell (p := ⟨w.heap.size + 1 + 1, k2, none⟩) (by show w.heap.size ≤ w.heap.size + 1 + 1; omega) (.int .i64 v))
                        rename_i hHeld
                        clear hHeld hgc hgz hgc1 hgz1 hb1 hf1 hp1 hq1 hB1 hp hfd
                        go_wp2
                        go_roundw
                        case rel =>
                          refine ⟨k2 + 1, vs ++ [v], by omega, by go_num, by rw [HCS.out]; go_num, by show _ = _; rw [List.length_append, hvl.out]; rfl, HP4.out, HQ4.out, ?_, HF4.out, HB4.out, HG3.out⟩
                          have h := HG4.out
                          rw [show wants.length - k2 = (wants.length - (k2 + 1)) + 1 by omega] at h
                          rw [← set_row, hvl.out]
                          exact h
                        case measure => simp [intOf]; omega
                  · have hkn : k2 = wants.length := by omega
                    have HV2 := Lib.hid (show vals = vs from by
                      have h := hgo.out
                      rw [List.drop_of_length_le (by omega)] at h
                      simp [bigVals] at h
                      exact h.symm)
                    clear hgo
                    have hp := blk_cell HP2.out 0
                    have hq := blk_cell HQ2.out 0
                    have hzp := blk_frozen HP2.out 0
                    have hzq := blk_frozen HQ2.out 0
                    simp only [List.getElem?_toArray, List.getElem?_cons_zero, List.getElem?_cons_succ] at hp hq
                    have hne : ¬ w.heap.size = w.heap.size + 1 := by omega
                    have hne' : ¬ w.heap.size + 1 = w.heap.size := by omega
                    have HPX := Lib.hid (blk_far (blk_set HP2.out 0 (.slice (some ⟨w.heap.size + 1 + 1, 0, none⟩) wants.length wants.length)) (p := ⟨w.heap.size + 1, 0, none⟩) (by show w.heap.size ≠ w.heap.size + 1; omega) (.int .i64 0))
                    have HQX := Lib.hid (blk_set (blk_far HQ2.out (p := ⟨w.heap.size, 0, none⟩) (by show w.heap.size + 1 ≠ w.heap.size; omega) (.slice (some ⟨w.heap.size + 1 + 1, 0, none⟩) wants.length wants.length)) 0 (.int .i64 0))
                    have HGX := Lib.hid (blk_far (blk_far HG2.out (p := ⟨w.heap.size, 0, none⟩) (by show w.heap.size + 1 + 1 ≠ w.heap.size; omega) (.slice (some ⟨w.heap.size + 1 + 1, 0, none⟩) wants.length wants.length)) (p := ⟨w.heap.size + 1, 0, none⟩) (by show w.heap.size + 1 + 1 ≠ w.heap.size + 1; omega) (.int .i64 0))
                    have HBX := Lib.hid ((HB2.out.setCell (p := ⟨w.heap.size, 0, none⟩) (Nat.le_refl _) (.slice (some ⟨w.heap.size + 1 + 1, 0, none⟩) wants.length wants.length)).setCell (p := ⟨w.heap.size + 1, 0, none⟩) (by show w.heap.size ≤ w.heap.size + 1; omega) (.int .i64 0))
                    go_wp2_with fail
                    refine xbig_ret _ 0 _ _ _ ⟨w.heap.size, 0, none⟩ ⟨w.heap.size + 1, 0, none⟩ _ rfl rfl (blk_cell HPX.out 0) (blk_cell HQX.out 0) _ ?_
                    have hlv : vals.length = wants.length := by rw [HV2.out, hvl.out]; exact hkn
                    refine ⟨w.heap.size + 1 + 1, wants.length, by rw [hlv], by omega, ?_, HBX.out.alloc HBX.out.size _⟩
                    have h := blk_alloc HGX.out (.cells #[.int .i64 0, .int .i64 0] 106)
                    rw [show wants.length - k2 = 0 by omega, List.replicate_zero, List.append_nil] at h
                    rw [HV2.out]
                    exact h
          · rw [if_neg hsz] at hB; cases hB
end Go.Proofs.Ytlbijehgoiknjaa.Z
