/- Walks of pax.one at the three texts that told reads, by the contracts of Cut and Decimal. -/
import Derived.Test.YtmdfnelcgobpkaaDoorZPaxPut
set_option linter.unusedVariables false
set_option linter.unusedSimpArgs false
namespace Go.Proofs.YtmdfnelcgobpkaaDoor.Z
open Go.RowKit Go.Shelf Go.Proofs.YtmdfnelcgobpkaaDoorW.PrintWords Go.Proofs.YtmdfnelcgobpkaaDoorW.PrintLast Go.Proofs.YtmdfnelcgobpkaaDoorW.PrintMore Go.Proofs.YtmdfnelcgobpkaaDoor.PPaxPuts

theorem cell_alloc_lt {w : World} {a : Addr} {v : Value} (h : w.cell? a = some v) (o : Obj) : (w.alloc o).cell? a = some v := pw_cell_below (below_alloc (Below.refl _ _) o) h
theorem cut_calls {w : World} (m : Int) (hm : w.cell? ⟨0, 0, none⟩ = some (.int .i64 m)) (l sep a b : List UInt8) (ok : Bool) (hs : l.length < 4294967281) (h : Lib.cut l sep = (a, b, ok)) :
    Calls Tryd.prog 32 #[.string ⟨l.toArray⟩, .string ⟨sep.toArray⟩] w fun e w' => e = .returned (.tuple #[.string ⟨a.toArray⟩, .string ⟨b.toArray⟩, .bool ok]) ∧ Below w.heap.size w w' := by
  refine (Tryd.strings_Cut ⟨l.toArray⟩ ⟨sep.toArray⟩ m w hs hm).mono ?_
  rintro e w' ⟨rfl, n, rfl⟩
  refine ⟨?_, pw_below_drewN (Below.refl _ _) n⟩
  show _ = _
  rw [show Lib.cut (⟨l.toArray⟩ : ByteArray).data.toList (⟨sep.toArray⟩ : ByteArray).data.toList = (a, b, ok) from h]

theorem one_a_c1 : Lib.cut [57, 32, 112, 97, 116, 104, 61, 97, 10, 54, 32, 98, 61, 99, 10] [32] = ([57], [112, 97, 116, 104, 61, 97, 10, 54, 32, 98, 61, 99, 10], true) := by decide
theorem one_a_dec : num_Decimal.f 5 ⟨#[57]⟩ = some (9, 0) := by kernel_rfl
theorem one_a_c2 : Lib.cut [112, 97, 116, 104, 61, 97] [61] = ([112, 97, 116, 104], [97], true) := by decide
set_option maxHeartbeats 4000000 in
set_option maxRecDepth 100000 in
theorem one_a (m : Int) (w : World) (hm : w.cell? ⟨0, 0, none⟩ = some (.int .i64 m)) :
    Calls Tryd.prog 26 #[.string ⟨#[57, 32, 112, 97, 116, 104, 61, 97, 10, 54, 32, 98, 61, 99, 10]⟩] w fun e w' => e = .returned (.tuple #[.agg #[.string ⟨#[112, 97, 116, 104]⟩, .string ⟨#[97]⟩], .string ⟨#[54, 32, 98, 61, 99, 10]⟩, .bool true]) ∧ Below w.heap.size w w' := by
  have hm1 := cell_alloc_lt hm (.cells #[.string ⟨#[]⟩, .string ⟨#[]⟩] 32)
  go_enter Tryd.func26, Tryd.ntmps26
  go_wp2_with fail
  refine (cut_calls m hm1 [57, 32, 112, 97, 116, 104, 61, 97, 10, 54, 32, 98, 61, 99, 10] [32] _ _ _ (by decide) one_a_c1).mono ?_
  rintro e w1 ⟨rfl, hb1⟩
  go_wp2_with fail
  refine (num_Decimal.calls 5 ⟨#[57]⟩ 9 0 w1 one_a_dec).mono ?_
  rintro e w2 ⟨rfl, hb2⟩
  have hB2 := hb2.below
  go_wp2_with fail
  rw [show (⟨#[57, 32, 112, 97, 116, 104, 61, 97, 10, 54, 32, 98, 61, 99, 10]⟩ : ByteArray).extract 2 8 = ⟨#[112, 97, 116, 104, 61, 97]⟩ from by decide]
  refine (cut_calls m (pw_cell_below hB2 (pw_cell_below hb1 hm1)) [112, 97, 116, 104, 61, 97] [61] _ _ _ (by decide) one_a_c2).mono ?_
  rintro e w3 ⟨rfl, hb3⟩
  have HR := Lib.hid (blk_below (blk_below (blk_below (blk_new w (.cells #[.string ⟨#[]⟩, .string ⟨#[]⟩] 32)) hb1) hB2) hb3)
  have HBW := Lib.hid (((below_alloc (Below.refl w.heap.size w) (.cells #[.string ⟨#[]⟩, .string ⟨#[]⟩] 32)).trans (hb1.mono (by simp))).trans (hB2.mono (by have := hb1.size; simp at this; omega)))
  have HBX := Lib.hid (HBW.out.trans (hb3.mono HBW.out.size))
  clear hb1 hb2 hB2 hb3 hm hm1 HBW
  have z0 := blk_frozen HR.out 0
  have z1 := blk_frozen HR.out 1
  have d0 := blk_cell HR.out 0
  have d1 := blk_cell HR.out 1
  simp only [List.getElem?_toArray, List.getElem?_cons_zero, List.getElem?_cons_succ] at d0 d1
  go_wp2_with fail
  go_region_held3 (fun _ => True) (trivial) (fail)
  go_wp2_with fail
  rename_i hHeld
  clear hHeld
  refine bodyPost_ret (v := .tuple #[.agg #[.string ⟨#[112, 97, 116, 104]⟩, .string ⟨#[97]⟩], .string ⟨#[54, 32, 98, 61, 99, 10]⟩, .bool true]) ?_ rfl ?_
  · simp [results, Tryd.results26, go_sem, *]
    all_goals first | rfl | decide
  · refine ⟨rfl, ?_⟩
    have hBf := HBX.out
    have hstepB : ∀ (W : World) (i : Nat) (u : Value), Below w.heap.size w W → Below w.heap.size w (W.setCell ⟨w.heap.size, i, none⟩ u) := fun W i u h => h.setCell (p := ⟨w.heap.size, i, none⟩) (Nat.le_refl _) u
    first
      | exact hstepB _ _ _ (hstepB _ _ _ hBf)
      | exact Below.drew (hstepB _ _ _ (hstepB _ _ _ hBf))

theorem one_b_c1 : Lib.cut [54, 32, 98, 61, 99, 10] [32] = ([54], [98, 61, 99, 10], true) := by decide
theorem one_b_dec : num_Decimal.f 5 ⟨#[54]⟩ = some (6, 0) := by kernel_rfl
theorem one_b_c2 : Lib.cut [98, 61, 99] [61] = ([98], [99], true) := by decide
set_option maxHeartbeats 4000000 in
set_option maxRecDepth 100000 in
theorem one_b (m : Int) (w : World) (hm : w.cell? ⟨0, 0, none⟩ = some (.int .i64 m)) :
    Calls Tryd.prog 26 #[.string ⟨#[54, 32, 98, 61, 99, 10]⟩] w fun e w' => e = .returned (.tuple #[.agg #[.string ⟨#[98]⟩, .string ⟨#[99]⟩], .string ⟨#[]⟩, .bool true]) ∧ Below w.heap.size w w' := by
  have hm1 := cell_alloc_lt hm (.cells #[.string ⟨#[]⟩, .string ⟨#[]⟩] 32)
  go_enter Tryd.func26, Tryd.ntmps26
  go_wp2_with fail
  refine (cut_calls m hm1 [54, 32, 98, 61, 99, 10] [32] _ _ _ (by decide) one_b_c1).mono ?_
  rintro e w1 ⟨rfl, hb1⟩
  go_wp2_with fail
  refine (num_Decimal.calls 5 ⟨#[54]⟩ 6 0 w1 one_b_dec).mono ?_
  rintro e w2 ⟨rfl, hb2⟩
  have hB2 := hb2.below
  go_wp2_with fail
  rw [show (⟨#[54, 32, 98, 61, 99, 10]⟩ : ByteArray).extract 2 5 = ⟨#[98, 61, 99]⟩ from by decide]
  refine (cut_calls m (pw_cell_below hB2 (pw_cell_below hb1 hm1)) [98, 61, 99] [61] _ _ _ (by decide) one_b_c2).mono ?_
  rintro e w3 ⟨rfl, hb3⟩
  have HR := Lib.hid (blk_below (blk_below (blk_below (blk_new w (.cells #[.string ⟨#[]⟩, .string ⟨#[]⟩] 32)) hb1) hB2) hb3)
  have HBW := Lib.hid (((below_alloc (Below.refl w.heap.size w) (.cells #[.string ⟨#[]⟩, .string ⟨#[]⟩] 32)).trans (hb1.mono (by simp))).trans (hB2.mono (by have := hb1.size; simp at this; omega)))
  have HBX := Lib.hid (HBW.out.trans (hb3.mono HBW.out.size))
  clear hb1 hb2 hB2 hb3 hm hm1 HBW
  have z0 := blk_frozen HR.out 0
  have z1 := blk_frozen HR.out 1
  have d0 := blk_cell HR.out 0
  have d1 := blk_cell HR.out 1
  simp only [List.getElem?_toArray, List.getElem?_cons_zero, List.getElem?_cons_succ] at d0 d1
  go_wp2_with fail
  go_region_held3 (fun _ => True) (trivial) (fail)
  go_wp2_with fail
  rename_i hHeld
  clear hHeld
  refine bodyPost_ret (v := .tuple #[.agg #[.string ⟨#[98]⟩, .string ⟨#[99]⟩], .string ⟨#[]⟩, .bool true]) ?_ rfl ?_
  · simp [results, Tryd.results26, go_sem, *]
    all_goals first | rfl | decide
  · refine ⟨rfl, ?_⟩
    have hBf := HBX.out
    have hstepB : ∀ (W : World) (i : Nat) (u : Value), Below w.heap.size w W → Below w.heap.size w (W.setCell ⟨w.heap.size, i, none⟩ u) := fun W i u h => h.setCell (p := ⟨w.heap.size, i, none⟩) (Nat.le_refl _) u
    first
      | exact hstepB _ _ _ (hstepB _ _ _ hBf)
      | exact Below.drew (hstepB _ _ _ (hstepB _ _ _ hBf))

theorem one_c_c1 : Lib.cut [56, 32, 112, 97, 116, 104, 61, 97, 10] [32] = ([56], [112, 97, 116, 104, 61, 97, 10], true) := by decide
theorem one_c_dec : num_Decimal.f 5 ⟨#[56]⟩ = some (8, 0) := by kernel_rfl
set_option maxHeartbeats 4000000 in
set_option maxRecDepth 100000 in
theorem one_c (m : Int) (w : World) (hm : w.cell? ⟨0, 0, none⟩ = some (.int .i64 m)) :
    Calls Tryd.prog 26 #[.string ⟨#[56, 32, 112, 97, 116, 104, 61, 97, 10]⟩] w fun e w' => e = .returned (.tuple #[.agg #[.string ⟨#[]⟩, .string ⟨#[]⟩], .string ⟨#[]⟩, .bool false]) ∧ Below w.heap.size w w' := by
  have hm1 := cell_alloc_lt hm (.cells #[.string ⟨#[]⟩, .string ⟨#[]⟩] 32)
  go_enter Tryd.func26, Tryd.ntmps26
  go_wp2_with fail
  refine (cut_calls m hm1 [56, 32, 112, 97, 116, 104, 61, 97, 10] [32] _ _ _ (by decide) one_c_c1).mono ?_
  rintro e w1 ⟨rfl, hb1⟩
  go_wp2_with fail
  refine (num_Decimal.calls 5 ⟨#[56]⟩ 8 0 w1 one_c_dec).mono ?_
  rintro e w2 ⟨rfl, hb2⟩
  have hB2 := hb2.below
  have HR := Lib.hid (blk_below (blk_below (blk_new w (.cells #[.string ⟨#[]⟩, .string ⟨#[]⟩] 32)) hb1) hB2)
  have HBX := Lib.hid (((below_alloc (Below.refl w.heap.size w) (.cells #[.string ⟨#[]⟩, .string ⟨#[]⟩] 32)).trans (hb1.mono (by simp))).trans (hB2.mono (by have := hb1.size; simp at this; omega)))
  clear hb1 hb2 hB2 hm hm1
  have z0 := blk_frozen HR.out 0
  have z1 := blk_frozen HR.out 1
  have d0 := blk_cell HR.out 0
  have d1 := blk_cell HR.out 1
  simp only [List.getElem?_toArray, List.getElem?_cons_zero, List.getElem?_cons_succ] at d0 d1
  go_wp2_with fail
  refine bodyPost_ret (v := .tuple #[.agg #[.string ⟨#[]⟩, .string ⟨#[]⟩], .string ⟨#[]⟩, .bool false]) ?_ rfl ?_
  · simp [results, Tryd.results26, go_sem, *]
  · refine ⟨rfl, ?_⟩
    have hBf := HBX.out
    have hstepB : ∀ (W : World) (i : Nat) (u : Value), Below w.heap.size w W → Below w.heap.size w (W.setCell ⟨w.heap.size, i, none⟩ u) := fun W i u h => h.setCell (p := ⟨w.heap.size, i, none⟩) (Nat.le_refl _) u
    first
      | exact hstepB _ _ _ (hstepB _ _ _ hBf)
      | exact Below.drew (hstepB _ _ _ (hstepB _ _ _ hBf))

end Go.Proofs.YtmdfnelcgobpkaaDoor.Z
