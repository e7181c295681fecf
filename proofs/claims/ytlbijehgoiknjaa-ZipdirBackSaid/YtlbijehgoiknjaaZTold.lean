/- Walk of package stevedorelaw28's told: it answers true. -/
import Derived.Test.YtlbijehgoiknjaaZLocal
import Derived.Test.YtlbijehgoiknjaaZFind2
import Derived.Test.YtlbijehgoiknjaaZPutEnd
set_option linter.unusedVariables false
set_option linter.unusedSimpArgs false
namespace Go.Proofs.Ytlbijehgoiknjaa.Z
open Go.RowKit Go.Proofs.YtlbijehgoiknjaaW.PrintWords Go.Proofs.YtlbijehgoiknjaaW.PrintLast Go.Proofs.YtlbijehgoiknjaaW.PrintMore Go.Proofs.Ytlbijehgoiknjaa.PZipdirHeaders

def tlM : List Int := [1, 0, 8, 0, 0, 0, 0, 0, 0, 1, 0, 0]
def tlB : List Int := localF 0 0 0 0 0 0 1099511627776 ⟨#[97]⟩ tlM
theorem tl_e : endBytes 0 0 0 = [80, 75, 5, 6, 0, 0, 0, 0, 0, 0, 0, 0, 0, 0, 0, 0, 0, 0, 0, 0, 0, 0] := by kernel_rfl
theorem tl_found : foundF [80, 75, 5, 6, 0, 0, 0, 0, 0, 0, 0, 0, 0, 0, 0, 0, 0, 0, 0, 0, 0, 0] = 0 := by kernel_rfl
theorem tl_found0 : foundF [] = -1 := by kernel_rfl
theorem tl_n1 : numsF [80, 75, 5, 6, 0, 0, 0, 0, 0, 0, 0, 0, 0, 0, 0, 0, 0, 0, 0, 0, 0, 0] ⟨0 + 4, false⟩ 2 4 = ([0, 0, 0, 0], ⟨0 + 4 + 8, false⟩) := by kernel_rfl
theorem tl_n2 : numsF [80, 75, 5, 6, 0, 0, 0, 0, 0, 0, 0, 0, 0, 0, 0, 0, 0, 0, 0, 0, 0, 0] ⟨0 + 4 + 8, false⟩ 4 2 = ([0, 0], ⟨0 + 4 + 8 + 8, false⟩) := by kernel_rfl
theorem tl_may : mayB 0 0 0 0 0 0 1099511627776 ⟨#[97]⟩ ⟨#[]⟩ 0 = true := by kernel_rfl
theorem tl_fields : fieldsF [] [1099511627776, 0] = some tlM := by kernel_rfl
theorem tl_len : tlB.length = 43 := by kernel_rfl
theorem tl_range : ∀ x ∈ tlB, 0 ≤ x ∧ x < 256 := by decide +kernel
theorem tl_e0 : numF tlB ⟨0, false⟩ 4 = (67324752, ⟨4, false⟩) := by kernel_rfl
theorem tl_e1 : numsF tlB ⟨4, false⟩ 2 5 = ([0, 0, 0, 0, 0], ⟨14, false⟩) := by kernel_rfl
theorem tl_e2 : numsF tlB ⟨14, false⟩ 4 3 = ([0, 0, 4294967295], ⟨26, false⟩) := by kernel_rfl
theorem tl_e3 : numsF tlB ⟨26, false⟩ 2 2 = ([1, 12], ⟨30, false⟩) := by kernel_rfl
theorem tl_t1 : textF tlB ⟨30, false⟩ 1 = ([97], ⟨31, false⟩) := by kernel_rfl
theorem tl_t2 : textF tlB ⟨31, false⟩ 12 = (tlM, ⟨43, false⟩) := by kernel_rfl
theorem tl_rd : readF (strOfNums tlM) ((strOfNums tlM).size + 1) 0 = some [⟨1, ⟨#[0, 0, 0, 0, 0, 1, 0, 0]⟩⟩] := by kernel_rfl
theorem tl_big : bigF [⟨1, ⟨#[0, 0, 0, 0, 0, 1, 0, 0]⟩⟩] [((4294967295 : Int) == 4294967295), ((0 : Int) == 4294967295)] = some [1099511627776, 0] := by kernel_rfl
end Go.Proofs.Ytlbijehgoiknjaa.Z
set_option linter.unusedVariables false
set_option linter.unusedSimpArgs false
namespace Go.Proofs.Ytlbijehgoiknjaa.Z
open Go.RowKit Go.Proofs.YtlbijehgoiknjaaW.PrintWords Go.Proofs.YtlbijehgoiknjaaW.PrintLast Go.Proofs.YtlbijehgoiknjaaW.PrintMore Go.Proofs.Ytlbijehgoiknjaa.PZipdirHeaders

theorem C_nil {α : Type} (d : Kd α) (w : World) : d.C w none ([] : List α).length [] := by
  obtain ⟨A, c, e, _, h⟩ := Kd.R_reads (Kd.R_nil d 0 w 0 (fun _ => True))
  injection e with e1 e2 e3
  rw [← e1] at h
  exact h
set_option maxHeartbeats 4000000 in
set_option maxRecDepth 100000 in
theorem told_calls (w : World) : Calls Try.prog 6 #[] w fun e w' => e = .returned (.bool true) ∧ Below w.heap.size w w' := by
  go_enter Try.func6, Try.ntmps6
  go_wp2_with fail
  refine (put_end_near 0 0 0 w (by omega) (by omega) (by omega) (by omega) (by omega) (by omega)).mono ?_
  rintro e w1 ⟨v1, rfl, hR1, hb1⟩
  rw [tl_e] at hR1
  obtain ⟨A1, c1, rfl, hc1, hC1⟩ := Kd.R_reads hR1
  have HC1 := Lib.hid hC1
  have HB1 := Lib.hid hb1
  clear hR1 hC1 hb1
  go_wp2_with fail
  refine (find_near A1 c1 [80, 75, 5, 6, 0, 0, 0, 0, 0, 0, 0, 0, 0, 0, 0, 0, 0, 0, 0, 0, 0, 0] 0 0 0 0 w1 HC1.out (by decide) (by simp) tl_found (by omega) (by simp) tl_n1 tl_n2 (by decide) (by decide) (by decide) (by omega) (by omega) (by omega)).mono ?_
  rintro e w2 ⟨rfl, hb2⟩
  have HB2 := Lib.hid (HB1.out.trans (hb2.mono HB1.out.size))
  clear hb2 HC1 HB1
  go_wp2_with fail
  have HF := Lib.hid (blk_new w2 (.cells #[.int .i64 0, .int .i64 0, .int .i64 0, .int .i64 0, .int .i64 0] 29))
  have HB3 := Lib.hid (HB2.out.alloc HB2.out.size (.cells #[.int .i64 0, .int .i64 0, .int .i64 0, .int .i64 0, .int .i64 0] 29))
  have HZ3 := Lib.hid (show w2.heap.size < (w2.alloc (.cells #[.int .i64 0, .int .i64 0, .int .i64 0, .int .i64 0, .int .i64 0] 29)).heap.size from by simp)
  clear HB2
  generalize hr : w2.heap.size = r at *
  generalize hw3 : w2.alloc (.cells #[.int .i64 0, .int .i64 0, .int .i64 0, .int .i64 0, .int .i64 0] 29) = w3 at *
  clear hw3 hr
  refine (put_local_ok 0 0 0 0 0 0 0 1099511627776 ⟨#[97]⟩ ⟨#[]⟩ none 0 [] 0 0 tlM w3 (C_nil _ _) (by simp) (by simp) (by omega) (by omega) tl_may tl_fields).mono ?_
  rintro e w4 ⟨v4, rfl, hR4, hb4⟩
  have hR4 : Kd.R (Kd.int .u8) 5 w4 w3.heap.size (fun _ => True) v4 tlB := hR4
  obtain ⟨A4, c4, rfl, hc4, hC4⟩ := Kd.R_reads hR4
  have HC4 := Lib.hid hC4
  have HF4 := Lib.hid (blk_below HF.out hb4)
  have HB4 := Lib.hid (HB3.out.trans (hb4.mono HB3.out.size))
  clear hR4 hC4 hb4 HF HB3 HZ3
  have hl4 := tl_len
  go_wp2_with fail
  rw [← hl4]
  clear hl4
  refine (local_ok A4 c4 tlB 0 ⟨4, false⟩ ⟨14, false⟩ ⟨26, false⟩ ⟨30, false⟩ ⟨31, false⟩ ⟨43, false⟩ 0 0 0 0 0 0 0 4294967295 1 12 [97] tlM _ _ w4 HC4.out hc4 tl_range (by rw [tl_len]; omega) tl_e0 tl_e1 tl_e2 tl_e3 tl_t1 tl_t2 rfl (by rw [tl_len]; simp) (by rw [tl_len]; simp) (by omega) (by omega) (by omega) (by omega) (by omega) (by omega) (by omega) (by omega) (by omega) (by omega) (by decide) tl_rd (by simp) (by decide) tl_big rfl).mono ?_
  rintro e w5 ⟨v5, ex5, rfl, hx5, hR5, hb5⟩
  obtain ⟨A5, c5, rfl, -, -⟩ := Kd.R_reads hR5
  generalize ex5.length = n5 at *
  unfold memCells
  have HF5 := Lib.hid (blk_below HF4.out hb5)
  have HB5 := Lib.hid (HB4.out.trans (hb5.mono HB4.out.size))
  clear hR5 hb5 HF4 HB4 HC4
  go_wp2_with fail
  have HM6 := Lib.hid (blk_new w5 (.cells #[.int .i64 0, .int .i64 0, .int .i64 0, .int .i64 0, .int .i64 0, .int .u32 0, .int .i64 (pick32 0 0), .int .i64 (pick32 4294967295 1099511627776), .string (strOfNums [97]), .slice A5 n5 c5, .string ⟨#[]⟩, .int .u32 0, .int .i64 0] 36))
  have HF6 := Lib.hid (blk_alloc HF5.out (.cells #[.int .i64 0, .int .i64 0, .int .i64 0, .int .i64 0, .int .i64 0, .int .u32 0, .int .i64 (pick32 0 0), .int .i64 (pick32 4294967295 1099511627776), .string (strOfNums [97]), .slice A5 n5 c5, .string ⟨#[]⟩, .int .u32 0, .int .i64 0] 36))
  have HB6 := Lib.hid (HB5.out.alloc HB5.out.size (.cells #[.int .i64 0, .int .i64 0, .int .i64 0, .int .i64 0, .int .i64 0, .int .u32 0, .int .i64 (pick32 0 0), .int .i64 (pick32 4294967295 1099511627776), .string (strOfNums [97]), .slice A5 n5 c5, .string ⟨#[]⟩, .int .u32 0, .int .i64 0] 36))
  clear HF5 HB5
  generalize hm : w5.heap.size = mb at *
  generalize hw6 : w5.alloc (.cells #[.int .i64 0, .int .i64 0, .int .i64 0, .int .i64 0, .int .i64 0, .int .u32 0, .int .i64 (pick32 0 0), .int .i64 (pick32 4294967295 1099511627776), .string (strOfNums [97]), .slice A5 n5 c5, .string ⟨#[]⟩, .int .u32 0, .int .i64 0] 36) = w6 at *
  clear hw6 hm
  refine (find_none none 0 [] w6 (C_nil _ _) (by simp) (by simp) tl_found0).mono ?_
  rintro e w7 ⟨rfl, hb7⟩
  have HM7 := Lib.hid (blk_alloc (blk_below HM6.out hb7) (.cells #[.int .i64 0, .int .i64 0, .int .i64 0, .int .i64 0, .int .i64 0] 29))
  have HF7 := Lib.hid (blk_alloc (blk_below HF6.out hb7) (.cells #[.int .i64 0, .int .i64 0, .int .i64 0, .int .i64 0, .int .i64 0] 29))
  have HB7 := Lib.hid ((HB6.out.trans (hb7.mono HB6.out.size)).alloc (Nat.le_trans HB6.out.size hb7.size) (.cells #[.int .i64 0, .int .i64 0, .int .i64 0, .int .i64 0, .int .i64 0] 29))
  clear hb7 HM6 HF6 HB6
  have hp : pick32 4294967295 1099511627776 = 1099511627776 := by decide
  have hs : strOfNums [97] = ⟨#[97]⟩ := by kernel_rfl
  rw [hp, hs] at HM7
  have hm7 := blk_cell HM7.out 7
  have hm8 := blk_cell HM7.out 8
  have hf0 := blk_cell HF7.out 0
  have hf1 := blk_cell HF7.out 1
  have hf2 := blk_cell HF7.out 2
  have hf3 := blk_cell HF7.out 3
  have hf4 := blk_cell HF7.out 4
  simp only [List.getElem?_toArray, List.getElem?_cons_zero, List.getElem?_cons_succ] at hm7 hm8 hf0 hf1 hf2 hf3 hf4
  have hl4 := tl_len
  go_wp2
  go_ret
  exact ⟨rfl, HB7.out⟩
end Go.Proofs.Ytlbijehgoiknjaa.Z
