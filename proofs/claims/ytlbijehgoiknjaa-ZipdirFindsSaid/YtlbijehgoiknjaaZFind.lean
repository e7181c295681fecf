/- Walks of package zipdir's Find: where there is no end record; where there is one that is right, without and with the two records ahead of it. -/
import Derived.Test.YtlbijehgoiknjaaZFar
set_option linter.unusedVariables false
set_option linter.unusedSimpArgs false
namespace Go.Proofs.Ytlbijehgoiknjaa.Z
open Go.RowKit Go.Proofs.YtlbijehgoiknjaaW.PrintWords Go.Proofs.YtlbijehgoiknjaaW.PrintLast Go.Proofs.YtlbijehgoiknjaaW.PrintMore

set_option maxHeartbeats 1000000 in
theorem find_none (A : Option Addr) (c : Nat) (l : List Int) (w : World) (hr : Kd.C (Kd.int .u8) w A l.length l) (hb : ∀ x ∈ l, 0 ≤ x ∧ x < 256) (hl : l.length ≤ 140737488351232) (h : foundF l = -1) :
    Calls Try.prog 8 #[.slice A l.length c] w fun e w' => e = .returned (.tuple #[.agg #[.int .i64 0, .int .i64 0, .int .i64 0, .int .i64 0, .int .i64 0], .int .i64 2]) ∧ Below w.heap.size w w' := by
  have HB := Lib.hid hb
  have HR := Lib.hid hr
  have H := Lib.hid h
  clear hb hr h
  go_enter Try.func8, Try.ntmps8
  go_wp2_with fail
  refine (found_calls A c l _ (Kd.C_alloc HR.out _) HB.out hl).mono ?_
  rintro e w1 ⟨rfl, hb1⟩
  have hB := blk_below (blk_new w (.cells #[.int .i64 0, .int .i64 0, .int .i64 0, .int .i64 0, .int .i64 0] 29)) hb1
  have h0 := blk_cell hB 0
  have h1 := blk_cell hB 1
  have h2 := blk_cell hB 2
  have h3 := blk_cell hB 3
  have h4 := blk_cell hB 4
  simp only [List.getElem?_toArray, List.getElem?_cons_zero, List.getElem?_cons_succ] at h0 h1 h2 h3 h4
  have f0 := blk_frozen hB 0
  have f1 := blk_frozen hB 1
  have f2 := blk_frozen hB 2
  have f3 := blk_frozen hB 3
  have f4 := blk_frozen hB 4
  have HBW := Lib.hid (below_then (below_alloc (Below.refl w.heap.size w) _) (by simp) hb1)
  clear hb1 hB
  rw [H.out]
  go_wp2
  refine bodyPost_ret (v := .tuple #[.agg #[.int .i64 0, .int .i64 0, .int .i64 0, .int .i64 0, .int .i64 0], .int .i64 2]) ?_ rfl ⟨rfl, ?_⟩
  · simp [results, Try.results8, go_sem, h0, h1, h2, h3, h4]
  · exact (((((HBW.out.setCell (p := ⟨w.heap.size, 0, none⟩) (Nat.le_refl _) _).setCell (p := ⟨w.heap.size, 1, none⟩) (Nat.le_refl _) _).setCell (p := ⟨w.heap.size, 2, none⟩) (Nat.le_refl _) _).setCell (p := ⟨w.heap.size, 3, none⟩) (Nat.le_refl _) _).setCell (p := ⟨w.heap.size, 4, none⟩) (Nat.le_refl _) _)

theorem zero_calls (q : Addr) (g : Nat) (n : Int) (w : World) (hq : w.cell? q = some (.pointer (some ⟨g, 0, none⟩))) (hc : w.cell? ⟨g, 2, none⟩ = some (.bool false)) (hn : n = 0) :
    Calls Try.prog 25 #[.int .i64 n, .pointer (some q)] w fun e w' => e = .returned (.bool true) ∧ w = w' := by
  subst hn
  go_enter Try.func25, Try.ntmps25
  go_wp2
  go_ret
  exact ⟨rfl, rfl⟩
end Go.Proofs.Ytlbijehgoiknjaa.Z
