/- Walks of package zipdir's Find where an end record stands that is right. -/
import Derived.Test.YtlbijehgoiknjaaZFar
set_option linter.unusedVariables false
set_option linter.unusedSimpArgs false
namespace Go.Proofs.Ytlbijehgoiknjaa.Z
open Go.RowKit Go.Proofs.YtlbijehgoiknjaaW.PrintWords Go.Proofs.YtlbijehgoiknjaaW.PrintLast Go.Proofs.YtlbijehgoiknjaaW.PrintMore

set_option maxHeartbeats 1000000 in
theorem find_none (A : Option Addr) (c : Nat) (l : List Int) (w : World) (hr : Kd.C (Kd.int .u8) w A l.length l) (hb : ∀ x ∈ l, 0 ≤ x ∧ x < 256) (hl : l.length ≤ 140737488351232) (h : foundF l = -1) :
    Calls Try.prog 8 #[.slice A l.length c] w fun e w' => e = .returned (.tuple #[.agg #[.int .i64 0, .int .i64 0, .int .i64 0, .int .i64 0, .int .i64 0], .int .i64 2]) ∧ Below w.heap.size w w' := by
  have HB := Lib.hid hb
  have HR := Lib.hid hr
  have H := Lib.hid h
  clear hb hr h
  go_enter Try.func8, Try.ntmps8
  go_wp2_with fail
  refine (found_calls A c l _ (Kd.C_alloc HR.out _) HB.out hl).mono ?_
  rintro e w1 ⟨rfl, hb1⟩
  have hB := blk_below (blk_new w (.cells #[.int .i64 0, .int .i64 0, .int .i64 0, .int .i64 0, .int .i64 0] 29)) hb1
  have h0 := blk_cell hB 0
  have h1 := blk_cell hB 1
  have h2 := blk_cell hB 2
  have h3 := blk_cell hB 3
  have h4 := blk_cell hB 4
  simp only [List.getElem?_toArray, List.getElem?_cons_zero, List.getElem?_cons_succ] at h0 h1 h2 h3 h4
  have f0 := blk_frozen hB 0
  have f1 := blk_frozen hB 1
  have f2 := blk_frozen hB 2
  have f3 := blk_frozen hB 3
  have f4 := blk_frozen hB 4
  have HBW := Lib.hid (below_then (below_alloc (Below.refl w.heap.size w) _) (by simp) hb1)
  clear hb1 hB
  rw [H.out]
  go_wp2
  refine bodyPost_ret (v := .tuple #[.agg #[.int .i64 0, .int .i64 0, .int .i64 0, .int .i64 0, .int .i64 0], .int .i64 2]) ?_ rfl ⟨rfl, ?_⟩
  · simp [results, Try.results8, go_sem, h0, h1, h2, h3, h4]
  · exact (((((HBW.out.setCell (p := ⟨w.heap.size, 0, none⟩) (Nat.le_refl _) _).setCell (p := ⟨w.heap.size, 1, none⟩) (Nat.le_refl _) _).setCell (p := ⟨w.heap.size, 2, none⟩) (Nat.le_refl _) _).setCell (p := ⟨w.heap.size, 3, none⟩) (Nat.le_refl _) _).setCell (p := ⟨w.heap.size, 4, none⟩) (Nat.le_refl _) _)

theorem zero_calls (q : Addr) (g : Nat) (n : Int) (w : World) (hq : w.cell? q = some (.pointer (some ⟨g, 0, none⟩))) (hc : w.cell? ⟨g, 2, none⟩ = some (.bool false)) (hn : n = 0) :
    Calls Try.prog 25 #[.int .i64 n, .pointer (some q)] w fun e w' => e = .returned (.bool true) ∧ w = w' := by
  subst hn
  go_enter Try.func25, Try.ntmps25
  go_wp2
  go_ret
  exact ⟨rfl, rfl⟩
end Go.Proofs.Ytlbijehgoiknjaa.Z
set_option linter.unusedVariables false
set_option linter.unusedSimpArgs false
namespace Go.Proofs.Ytlbijehgoiknjaa.Z
open Go.RowKit Go.Proofs.YtlbijehgoiknjaaW.PrintWords Go.Proofs.YtlbijehgoiknjaaW.PrintLast Go.Proofs.YtlbijehgoiknjaaW.PrintMore

set_option maxHeartbeats 4000000 in
set_option maxRecDepth 100000 in
theorem find_near (A : Option Addr) (c : Nat) (l : List Int) (start k size off : Int) (w : World) (hr : Kd.C (Kd.int .u8) w A l.length l) (hb : ∀ x ∈ l, 0 ≤ x ∧ x < 256) (hl : l.length ≤ 140737488351232) (hf : foundF l = start) (hst : 0 ≤ start) (hst2 : start ≤ l.length)
    (n1 : numsF l ⟨start + 4, false⟩ 2 4 = ([0, 0, k, k], ⟨start + 4 + 8, false⟩)) (n2 : numsF l ⟨start + 4 + 8, false⟩ 4 2 = ([size, off], ⟨start + 4 + 8 + 8, false⟩)) (hk : k ≠ 65535) (hs1 : size ≠ 4294967295) (hs2 : off ≠ 4294967295) (ho : 0 ≤ off) (ho2 : off ≤ start) (hsz : size = start - off) :
    Calls Try.prog 8 #[.slice A l.length c] w fun e w' => e = .returned (.tuple #[.agg #[.int .i64 k, .int .i64 size, .int .i64 off, .int .i64 start, .int .i64 start], .int .i64 0]) ∧ Below w.heap.size w w' := by
  have HB := Lib.hid hb
  have HR := Lib.hid hr
  have HF := Lib.hid hf
  have N1 := Lib.hid n1
  have N2 := Lib.hid n2
  have hmf := hmf
  clear hb hr hf n1 n2
  have hkb : (k == 65535) = false := by simpa using hk
  have hs1b : (size == 4294967295) = false := by simpa using hs1
  have hs2b : (off == 4294967295) = false := by simpa using hs2
  have hso : ¬ start < off := by omega
  have hsb : (size != start - off) = false := by simpa using hsz
  have HSZ := Lib.hid hsz
  clear hk hs1 hs2 hsz
  go_enter Try.func8, Try.ntmps8
  go_wp2_with fail
  refine (found_calls A c l _ (Kd.C_alloc HR.out _) HB.out hl).mono ?_
  rintro e w1 ⟨rfl, hb1⟩
  rw [HF.out]
  have HFR := Lib.hid (blk_below (blk_new w (.cells #[.int .i64 0, .int .i64 0, .int .i64 0, .int .i64 0, .int .i64 0] 29)) hb1)
  have HBW := Lib.hid (below_then (below_alloc (Below.refl w.heap.size w) _) (by simp) hb1)
  have HC := Lib.hid (Kd.C_below HR.out HBW.out)
  clear hb1
  have hw1 : w.heap.size < w1.heap.size := blk_lt HFR.out
  go_wp2_with fail
  have BR := Lib.hid (blk_alloc (blk_alloc (blk_alloc (blk_alloc (blk_alloc (blk_alloc (blk_new' w1 (.cells #[.slice A l.length c, .int .i64 (start + 4), .bool false] 62) (w1.heap.size) (by simp)) (.cells #[.pointer (some ⟨w1.heap.size, 0, none⟩)] 60)) (.cells #[.int .i64 0, .int .i64 0, .int .i64 0, .int .i64 start, .int .i64 start] 29)) (.cells #[.int .i64 0] 3)) (.cells #[.int .i64 0] 3)) (.cells #[.int .i64 0] 3)) (.cells #[.pointer (some ⟨w1.heap.size + 1 + 1 + 1, 0, none⟩), .pointer (some ⟨w1.heap.size + 1 + 1 + 1 + 1, 0, none⟩), .pointer (some ⟨w1.heap.size + 1 + 1 + 1 + 1 + 1, 0, none⟩), .pointer (some ⟨w1.heap.size + 1 + 1, 0, none⟩)] 64))
  have BP := Lib.hid (blk_alloc (blk_alloc (blk_alloc (blk_alloc (blk_alloc (blk_new' (w1.alloc (.cells #[.slice A l.length c, .int .i64 (start + 4), .bool false] 62)) (.cells #[.pointer (some ⟨w1.heap.size, 0, none⟩)] 60) (w1.heap.size + 1) (by simp)) (.cells #[.int .i64 0, .int .i64 0, .int .i64 0, .int .i64 start, .int .i64 start] 29)) (.cells #[.int .i64 0] 3)) (.cells #[.int .i64 0] 3)) (.cells #[.int .i64 0] 3)) (.cells #[.pointer (some ⟨w1.heap.size + 1 + 1 + 1, 0, none⟩), .pointer (some ⟨w1.heap.size + 1 + 1 + 1 + 1, 0, none⟩), .pointer (some ⟨w1.heap.size + 1 + 1 + 1 + 1 + 1, 0, none⟩), .pointer (some ⟨w1.heap.size + 1 + 1, 0, none⟩)] 64))
  have BE := Lib.hid (blk_alloc (blk_alloc (blk_alloc (blk_alloc (blk_new' ((w1.alloc (.cells #[.slice A l.length c, .int .i64 (start + 4), .bool false] 62)).alloc (.cells #[.pointer (some ⟨w1.heap.size, 0, none⟩)] 60)) (.cells #[.int .i64 0, .int .i64 0, .int .i64 0, .int .i64 start, .int .i64 start] 29) (w1.heap.size + 1 + 1) (by simp)) (.cells #[.int .i64 0] 3)) (.cells #[.int .i64 0] 3)) (.cells #[.int .i64 0] 3)) (.cells #[.pointer (some ⟨w1.heap.size + 1 + 1 + 1, 0, none⟩), .pointer (some ⟨w1.heap.size + 1 + 1 + 1 + 1, 0, none⟩), .pointer (some ⟨w1.heap.size + 1 + 1 + 1 + 1 + 1, 0, none⟩), .pointer (some ⟨w1.heap.size + 1 + 1, 0, none⟩)] 64))
  have B7 := Lib.hid (blk_alloc (blk_alloc (blk_alloc (blk_new' (((w1.alloc (.cells #[.slice A l.length c, .int .i64 (start + 4), .bool false] 62)).alloc (.cells #[.pointer (some ⟨w1.heap.size, 0, none⟩)] 60)).alloc (.cells #[.int .i64 0, .int .i64 0, .int .i64 0, .int .i64 start, .int .i64 start] 29)) (.cells #[.int .i64 0] 3) (w1.heap.size + 1 + 1 + 1) (by simp)) (.cells #[.int .i64 0] 3)) (.cells #[.int .i64 0] 3)) (.cells #[.pointer (some ⟨w1.heap.size + 1 + 1 + 1, 0, none⟩), .pointer (some ⟨w1.heap.size + 1 + 1 + 1 + 1, 0, none⟩), .pointer (some ⟨w1.heap.size + 1 + 1 + 1 + 1 + 1, 0, none⟩), .pointer (some ⟨w1.heap.size + 1 + 1, 0, none⟩)] 64))
  have B8 := Lib.hid (blk_alloc (blk_alloc (blk_new' ((((w1.alloc (.cells #[.slice A l.length c, .int .i64 (start + 4), .bool false] 62)).alloc (.cells #[.pointer (some ⟨w1.heap.size, 0, none⟩)] 60)).alloc (.cells #[.int .i64 0, .int .i64 0, .int .i64 0, .int .i64 start, .int .i64 start] 29)).alloc (.cells #[.int .i64 0] 3)) (.cells #[.int .i64 0] 3) (w1.heap.size + 1 + 1 + 1 + 1) (by simp)) (.cells #[.int .i64 0] 3)) (.cells #[.pointer (some ⟨w1.heap.size + 1 + 1 + 1, 0, none⟩), .pointer (some ⟨w1.heap.size + 1 + 1 + 1 + 1, 0, none⟩), .pointer (some ⟨w1.heap.size + 1 + 1 + 1 + 1 + 1, 0, none⟩), .pointer (some ⟨w1.heap.size + 1 + 1, 0, none⟩)] 64))
  have B9 := Lib.hid (blk_alloc (blk_new' (((((w1.alloc (.cells #[.slice A l.length c, .int .i64 (start + 4), .bool false] 62)).alloc (.cells #[.pointer (some ⟨w1.heap.size, 0, none⟩)] 60)).alloc (.cells #[.int .i64 0, .int .i64 0, .int .i64 0, .int .i64 start, .int .i64 start] 29)).alloc (.cells #[.int .i64 0] 3)).alloc (.cells #[.int .i64 0] 3)) (.cells #[.int .i64 0] 3) (w1.heap.size + 1 + 1 + 1 + 1 + 1) (by simp)) (.cells #[.pointer (some ⟨w1.heap.size + 1 + 1 + 1, 0, none⟩), .pointer (some ⟨w1.heap.size + 1 + 1 + 1 + 1, 0, none⟩), .pointer (some ⟨w1.heap.size + 1 + 1 + 1 + 1 + 1, 0, none⟩), .pointer (some ⟨w1.heap.size + 1 + 1, 0, none⟩)] 64))
  have BT := Lib.hid (blk_new' ((((((w1.alloc (.cells #[.slice A l.length c, .int .i64 (start + 4), .bool false] 62)).alloc (.cells #[.pointer (some ⟨w1.heap.size, 0, none⟩)] 60)).alloc (.cells #[.int .i64 0, .int .i64 0, .int .i64 0, .int .i64 start, .int .i64 start] 29)).alloc (.cells #[.int .i64 0] 3)).alloc (.cells #[.int .i64 0] 3)).alloc (.cells #[.int .i64 0] 3)) (.cells #[.pointer (some ⟨w1.heap.size + 1 + 1 + 1, 0, none⟩), .pointer (some ⟨w1.heap.size + 1 + 1 + 1 + 1, 0, none⟩), .pointer (some ⟨w1.heap.size + 1 + 1 + 1 + 1 + 1, 0, none⟩), .pointer (some ⟨w1.heap.size + 1 + 1, 0, none⟩)] 64) (w1.heap.size + 1 + 1 + 1 + 1 + 1 + 1) (by simp))
  have HC := Lib.hid (Kd.C_alloc (Kd.C_alloc (Kd.C_alloc (Kd.C_alloc (Kd.C_alloc (Kd.C_alloc (Kd.C_alloc HC.out (.cells #[.slice A l.length c, .int .i64 (start + 4), .bool false] 62)) (.cells #[.pointer (some ⟨w1.heap.size, 0, none⟩)] 60)) (.cells #[.int .i64 0, .int .i64 0, .int .i64 0, .int .i64 start, .int .i64 start] 29)) (.cells #[.int .i64 0] 3)) (.cells #[.int .i64 0] 3)) (.cells #[.int .i64 0] 3)) (.cells #[.pointer (some ⟨w1.heap.size + 1 + 1 + 1, 0, none⟩), .pointer (some ⟨w1.heap.size + 1 + 1 + 1 + 1, 0, none⟩), .pointer (some ⟨w1.heap.size + 1 + 1 + 1 + 1 + 1, 0, none⟩), .pointer (some ⟨w1.heap.size + 1 + 1, 0, none⟩)] 64))
  have HFR := Lib.hid (blk_alloc (blk_alloc (blk_alloc (blk_alloc (blk_alloc (blk_alloc (blk_alloc HFR.out (.cells #[.slice A l.length c, .int .i64 (start + 4), .bool false] 62)) (.cells #[.pointer (some ⟨w1.heap.size, 0, none⟩)] 60)) (.cells #[.int .i64 0, .int .i64 0, .int .i64 0, .int .i64 start, .int .i64 start] 29)) (.cells #[.int .i64 0] 3)) (.cells #[.int .i64 0] 3)) (.cells #[.int .i64 0] 3)) (.cells #[.pointer (some ⟨w1.heap.size + 1 + 1 + 1, 0, none⟩), .pointer (some ⟨w1.heap.size + 1 + 1 + 1 + 1, 0, none⟩), .pointer (some ⟨w1.heap.size + 1 + 1 + 1 + 1 + 1, 0, none⟩), .pointer (some ⟨w1.heap.size + 1 + 1, 0, none⟩)] 64))
  have HBW := Lib.hid (HBW.out.trans ((below_alloc (below_alloc (below_alloc (below_alloc (below_alloc (below_alloc (below_alloc (Below.refl w1.heap.size w1) _) _) _) _) _) _) _ : Below w1.heap.size w1 (((((((w1.alloc (.cells #[.slice A l.length c, .int .i64 (start + 4), .bool false] 62)).alloc (.cells #[.pointer (some ⟨w1.heap.size, 0, none⟩)] 60)).alloc (.cells #[.int .i64 0, .int .i64 0, .int .i64 0, .int .i64 start, .int .i64 start] 29)).alloc (.cells #[.int .i64 0] 3)).alloc (.cells #[.int .i64 0] 3)).alloc (.cells #[.int .i64 0] 3)).alloc (.cells #[.pointer (some ⟨w1.heap.size + 1 + 1 + 1, 0, none⟩), .pointer (some ⟨w1.heap.size + 1 + 1 + 1 + 1, 0, none⟩), .pointer (some ⟨w1.heap.size + 1 + 1 + 1 + 1 + 1, 0, none⟩), .pointer (some ⟨w1.heap.size + 1 + 1, 0, none⟩)] 64))).mono (by omega)))
  refine (numbers_calls w1.heap.size (w1.heap.size + 1 + 1 + 1 + 1 + 1 + 1) A c 4 l ⟨start + 4, false⟩ 2 [⟨w1.heap.size + 1 + 1 + 1, 0, none⟩, ⟨w1.heap.size + 1 + 1 + 1 + 1, 0, none⟩, ⟨w1.heap.size + 1 + 1 + 1 + 1 + 1, 0, none⟩, ⟨w1.heap.size + 1 + 1, 0, none⟩] _ BR.out HC.out HB.out hl (by omega) (by omega) (ptrs_at (ts := [⟨w1.heap.size + 1 + 1 + 1, 0, none⟩, ⟨w1.heap.size + 1 + 1 + 1 + 1, 0, none⟩, ⟨w1.heap.size + 1 + 1 + 1 + 1 + 1, 0, none⟩, ⟨w1.heap.size + 1 + 1, 0, none⟩]) BT.out) (fun t ht => ?_) (by omega) (by simp)).mono ?_
  · simp only [List.mem_cons, List.not_mem_nil, or_false] at ht
    rcases ht with rfl | rfl | rfl | rfl
    · exact ⟨⟨_, blk_cell B7.out 0⟩, blk_frozen B7.out 0, by simp; omega⟩
    · exact ⟨⟨_, blk_cell B8.out 0⟩, blk_frozen B8.out 0, by simp; omega⟩
    · exact ⟨⟨_, blk_cell B9.out 0⟩, blk_frozen B9.out 0, by simp; omega⟩
    · exact ⟨⟨_, blk_cell BE.out 0⟩, blk_frozen BE.out 0, by simp; omega⟩
  rintro e w2 ⟨rfl, hS, hK⟩
  rw [show ([⟨w1.heap.size + 1 + 1 + 1, 0, none⟩, ⟨w1.heap.size + 1 + 1 + 1 + 1, 0, none⟩, ⟨w1.heap.size + 1 + 1 + 1 + 1 + 1, 0, none⟩, ⟨w1.heap.size + 1 + 1, 0, none⟩] : List Addr).length = 4 from rfl, N1.out] at hS hK
  have BP := Lib.hid (show w2.heap[w1.heap.size + 1]? = some (.cells #[.pointer (some ⟨w1.heap.size, 0, none⟩)] 60 (0, 0)) from hK.blk (blk_far (blk_far (blk_far (blk_far BP.out (p := ⟨w1.heap.size + 1 + 1 + 1, 0, none⟩) (by simp <;> omega) (.int .i64 0)) (p := ⟨w1.heap.size + 1 + 1 + 1 + 1, 0, none⟩) (by simp <;> omega) (.int .i64 0)) (p := ⟨w1.heap.size + 1 + 1 + 1 + 1 + 1, 0, none⟩) (by simp <;> omega) (.int .i64 k)) (p := ⟨w1.heap.size + 1 + 1, 0, none⟩) (by simp <;> omega) (.int .i64 k)) (by simp <;> omega))
  have BE := Lib.hid (show w2.heap[w1.heap.size + 1 + 1]? = some (.cells #[.int .i64 k, .int .i64 0, .int .i64 0, .int .i64 start, .int .i64 start] 29 (0, 0)) from hK.blk (blk_put (blk_far (blk_far (blk_far BE.out (p := ⟨w1.heap.size + 1 + 1 + 1, 0, none⟩) (by simp <;> omega) (.int .i64 0)) (p := ⟨w1.heap.size + 1 + 1 + 1 + 1, 0, none⟩) (by simp <;> omega) (.int .i64 0)) (p := ⟨w1.heap.size + 1 + 1 + 1 + 1 + 1, 0, none⟩) (by simp <;> omega) (.int .i64 k)) 0 (.int .i64 k) rfl) (by simp <;> omega))
  have B7 := Lib.hid (show w2.heap[w1.heap.size + 1 + 1 + 1]? = some (.cells #[.int .i64 0] 3 (0, 0)) from hK.blk (blk_far (blk_far (blk_far (blk_put B7.out 0 (.int .i64 0) rfl) (p := ⟨w1.heap.size + 1 + 1 + 1 + 1, 0, none⟩) (by simp <;> omega) (.int .i64 0)) (p := ⟨w1.heap.size + 1 + 1 + 1 + 1 + 1, 0, none⟩) (by simp <;> omega) (.int .i64 k)) (p := ⟨w1.heap.size + 1 + 1, 0, none⟩) (by simp <;> omega) (.int .i64 k)) (by simp <;> omega))
  have B8 := Lib.hid (show w2.heap[w1.heap.size + 1 + 1 + 1 + 1]? = some (.cells #[.int .i64 0] 3 (0, 0)) from hK.blk (blk_far (blk_far (blk_put (blk_far B8.out (p := ⟨w1.heap.size + 1 + 1 + 1, 0, none⟩) (by simp <;> omega) (.int .i64 0)) 0 (.int .i64 0) rfl) (p := ⟨w1.heap.size + 1 + 1 + 1 + 1 + 1, 0, none⟩) (by simp <;> omega) (.int .i64 k)) (p := ⟨w1.heap.size + 1 + 1, 0, none⟩) (by simp <;> omega) (.int .i64 k)) (by simp <;> omega))
  have B9 := Lib.hid (show w2.heap[w1.heap.size + 1 + 1 + 1 + 1 + 1]? = some (.cells #[.int .i64 k] 3 (0, 0)) from hK.blk (blk_far (blk_put (blk_far (blk_far B9.out (p := ⟨w1.heap.size + 1 + 1 + 1, 0, none⟩) (by simp <;> omega) (.int .i64 0)) (p := ⟨w1.heap.size + 1 + 1 + 1 + 1, 0, none⟩) (by simp <;> omega) (.int .i64 0)) 0 (.int .i64 k) rfl) (p := ⟨w1.heap.size + 1 + 1, 0, none⟩) (by simp <;> omega) (.int .i64 k)) (by simp <;> omega))
  have HFR := Lib.hid (hK.blk (blk_far (blk_far (blk_far (blk_far HFR.out (p := ⟨w1.heap.size + 1 + 1 + 1, 0, none⟩) (by simp <;> omega) (.int .i64 0)) (p := ⟨w1.heap.size + 1 + 1 + 1 + 1, 0, none⟩) (by simp <;> omega) (.int .i64 0)) (p := ⟨w1.heap.size + 1 + 1 + 1 + 1 + 1, 0, none⟩) (by simp <;> omega) (.int .i64 k)) (p := ⟨w1.heap.size + 1 + 1, 0, none⟩) (by simp <;> omega) (.int .i64 k)) (by simp; omega))
  have HBW := Lib.hid (((((HBW.out.setCell (p := ⟨w1.heap.size + 1 + 1 + 1, 0, none⟩) (by simp; omega) (.int .i64 0)).setCell (p := ⟨w1.heap.size + 1 + 1 + 1 + 1, 0, none⟩) (by simp; omega) (.int .i64 0)).setCell (p := ⟨w1.heap.size + 1 + 1 + 1 + 1 + 1, 0, none⟩) (by simp; omega) (.int .i64 k)).setCell (p := ⟨w1.heap.size + 1 + 1, 0, none⟩) (by simp; omega) (.int .i64 k)).trans (hK.to_below (B := w.heap.size) (by simp [setAll, World.setCell]; omega) (by simp; omega)))
  have BR := Lib.hid hS
  have HC := Lib.hid (Kd.C_below HR.out HBW.out)
  have h12 : w1.heap.size + 1 + 1 + 1 + 1 + 1 + 1 < w2.heap.size := by have := hK.size; simp [setAll, World.setCell] at this; omega
  clear hS hK
  have bpc0 := blk_cell BP.out 0
  have bpf0 := blk_frozen BP.out 0
  simp only [List.getElem?_toArray, List.getElem?_cons_zero, List.getElem?_cons_succ] at bpc0
  go_wp2_with fail
  have BR := Lib.hid (blk_alloc BR.out (.cells #[.pointer (some ⟨w1.heap.size + 1 + 1, 1, none⟩), .pointer (some ⟨w1.heap.size + 1 + 1, 2, none⟩)] 64))
  have BP := Lib.hid (blk_alloc BP.out (.cells #[.pointer (some ⟨w1.heap.size + 1 + 1, 1, none⟩), .pointer (some ⟨w1.heap.size + 1 + 1, 2, none⟩)] 64))
  have BE := Lib.hid (blk_alloc BE.out (.cells #[.pointer (some ⟨w1.heap.size + 1 + 1, 1, none⟩), .pointer (some ⟨w1.heap.size + 1 + 1, 2, none⟩)] 64))
  have B7 := Lib.hid (blk_alloc B7.out (.cells #[.pointer (some ⟨w1.heap.size + 1 + 1, 1, none⟩), .pointer (some ⟨w1.heap.size + 1 + 1, 2, none⟩)] 64))
  have B8 := Lib.hid (blk_alloc B8.out (.cells #[.pointer (some ⟨w1.heap.size + 1 + 1, 1, none⟩), .pointer (some ⟨w1.heap.size + 1 + 1, 2, none⟩)] 64))
  have B9 := Lib.hid (blk_alloc B9.out (.cells #[.pointer (some ⟨w1.heap.size + 1 + 1, 1, none⟩), .pointer (some ⟨w1.heap.size + 1 + 1, 2, none⟩)] 64))
  have HFR := Lib.hid (blk_alloc HFR.out (.cells #[.pointer (some ⟨w1.heap.size + 1 + 1, 1, none⟩), .pointer (some ⟨w1.heap.size + 1 + 1, 2, none⟩)] 64))
  have HC := Lib.hid (Kd.C_alloc HC.out (.cells #[.pointer (some ⟨w1.heap.size + 1 + 1, 1, none⟩), .pointer (some ⟨w1.heap.size + 1 + 1, 2, none⟩)] 64))
  have HBW := Lib.hid (HBW.out.alloc (by omega) (.cells #[.pointer (some ⟨w1.heap.size + 1 + 1, 1, none⟩), .pointer (some ⟨w1.heap.size + 1 + 1, 2, none⟩)] 64))
  refine (numbers_calls w1.heap.size w2.heap.size A c 2 l ⟨start + 4 + 8, false⟩ 4 [⟨w1.heap.size + 1 + 1, 1, none⟩, ⟨w1.heap.size + 1 + 1, 2, none⟩] _ BR.out HC.out HB.out hl (by omega) (by omega) (ptrs_at (ts := [⟨w1.heap.size + 1 + 1, 1, none⟩, ⟨w1.heap.size + 1 + 1, 2, none⟩]) (blk_new w2 (.cells #[.pointer (some ⟨w1.heap.size + 1 + 1, 1, none⟩), .pointer (some ⟨w1.heap.size + 1 + 1, 2, none⟩)] 64))) (fun t ht => ?_) (by omega) (by simp)).mono ?_
  · simp only [List.mem_cons, List.not_mem_nil, or_false] at ht
    rcases ht with rfl | rfl
    · exact ⟨⟨_, blk_cell BE.out 1⟩, blk_frozen BE.out 1, by simp; omega⟩
    · exact ⟨⟨_, blk_cell BE.out 2⟩, blk_frozen BE.out 2, by simp; omega⟩
  rintro e w3 ⟨rfl, hS, hK⟩
  rw [show ([⟨w1.heap.size + 1 + 1, 1, none⟩, ⟨w1.heap.size + 1 + 1, 2, none⟩] : List Addr).length = 2 from rfl, N2.out] at hS hK
  clear bpc0 bpf0
  have BP := Lib.hid (show w3.heap[w1.heap.size + 1]? = some (.cells #[.pointer (some ⟨w1.heap.size, 0, none⟩)] 60 (0, 0)) from hK.blk (blk_far (blk_far BP.out (p := ⟨w1.heap.size + 1 + 1, 1, none⟩) (by simp <;> omega) (.int .i64 size)) (p := ⟨w1.heap.size + 1 + 1, 2, none⟩) (by simp <;> omega) (.int .i64 off)) (by simp <;> omega))
  have BE := Lib.hid (show w3.heap[w1.heap.size + 1 + 1]? = some (.cells #[.int .i64 k, .int .i64 size, .int .i64 off, .int .i64 start, .int .i64 start] 29 (0, 0)) from hK.blk (blk_put (blk_put BE.out 1 (.int .i64 size) rfl) 2 (.int .i64 off) rfl) (by simp <;> omega))
  have B7 := Lib.hid (show w3.heap[w1.heap.size + 1 + 1 + 1]? = some (.cells #[.int .i64 0] 3 (0, 0)) from hK.blk (blk_far (blk_far B7.out (p := ⟨w1.heap.size + 1 + 1, 1, none⟩) (by simp <;> omega) (.int .i64 size)) (p := ⟨w1.heap.size + 1 + 1, 2, none⟩) (by simp <;> omega) (.int .i64 off)) (by simp <;> omega))
  have B8 := Lib.hid (show w3.heap[w1.heap.size + 1 + 1 + 1 + 1]? = some (.cells #[.int .i64 0] 3 (0, 0)) from hK.blk (blk_far (blk_far B8.out (p := ⟨w1.heap.size + 1 + 1, 1, none⟩) (by simp <;> omega) (.int .i64 size)) (p := ⟨w1.heap.size + 1 + 1, 2, none⟩) (by simp <;> omega) (.int .i64 off)) (by simp <;> omega))
  have B9 := Lib.hid (show w3.heap[w1.heap.size + 1 + 1 + 1 + 1 + 1]? = some (.cells #[.int .i64 k] 3 (0, 0)) from hK.blk (blk_far (blk_far B9.out (p := ⟨w1.heap.size + 1 + 1, 1, none⟩) (by simp <;> omega) (.int .i64 size)) (p := ⟨w1.heap.size + 1 + 1, 2, none⟩) (by simp <;> omega) (.int .i64 off)) (by simp <;> omega))
  have HFR := Lib.hid (hK.blk (blk_far (blk_far HFR.out (p := ⟨w1.heap.size + 1 + 1, 1, none⟩) (by simp <;> omega) (.int .i64 size)) (p := ⟨w1.heap.size + 1 + 1, 2, none⟩) (by simp <;> omega) (.int .i64 off)) (by simp; omega))
  have HBW := Lib.hid (((HBW.out.setCell (p := ⟨w1.heap.size + 1 + 1, 1, none⟩) (by simp; omega) (.int .i64 size)).setCell (p := ⟨w1.heap.size + 1 + 1, 2, none⟩) (by simp; omega) (.int .i64 off)).trans (hK.to_below (B := w.heap.size) (by simp [setAll, World.setCell]; omega) (by simp; omega)))
  have BR := Lib.hid hS
  have HC := Lib.hid (Kd.C_below HR.out HBW.out)
  clear hS hK
  obtain ⟨hc0, hc1, hc2, hf0, hf1, hf2⟩ := rds_cells BR.out
  have bpc0 := blk_cell BP.out 0
  have bpf0 := blk_frozen BP.out 0
  have bec0 := blk_cell BE.out 0
  have bef0 := blk_frozen BE.out 0
  have bec1 := blk_cell BE.out 1
  have bef1 := blk_frozen BE.out 1
  have bec2 := blk_cell BE.out 2
  have bef2 := blk_frozen BE.out 2
  have bec3 := blk_cell BE.out 3
  have bef3 := blk_frozen BE.out 3
  have bec4 := blk_cell BE.out 4
  have bef4 := blk_frozen BE.out 4
  have b7c0 := blk_cell B7.out 0
  have b7f0 := blk_frozen B7.out 0
  have b8c0 := blk_cell B8.out 0
  have b8f0 := blk_frozen B8.out 0
  have b9c0 := blk_cell B9.out 0
  have b9f0 := blk_frozen B9.out 0
  have hfrc0 := blk_cell HFR.out 0
  have hfrf0 := blk_frozen HFR.out 0
  have hfrc1 := blk_cell HFR.out 1
  have hfrf1 := blk_frozen HFR.out 1
  have hfrc2 := blk_cell HFR.out 2
  have hfrf2 := blk_frozen HFR.out 2
  have hfrc3 := blk_cell HFR.out 3
  have hfrf3 := blk_frozen HFR.out 3
  have hfrc4 := blk_cell HFR.out 4
  have hfrf4 := blk_frozen HFR.out 4
  simp only [List.getElem?_toArray, List.getElem?_cons_zero, List.getElem?_cons_succ] at bpc0 bec0 bec1 bec2 bec3 bec4 b7c0 b8c0 b9c0 hfrc0 hfrc1 hfrc2 hfrc3 hfrc4
  go_wp2_with (go_at_call 25; refine (zero_calls ⟨w1.heap.size + 1, 0, none⟩ w1.heap.size 0 _ bpc0 hc2 rfl).mono ?_; rintro e w' ⟨rfl, rfl⟩)
  refine bodyPost_ret (v := .tuple #[.agg #[.int .i64 k, .int .i64 size, .int .i64 off, .int .i64 start, .int .i64 start], .int .i64 0]) ?_ rfl ⟨rfl, ?_⟩
  · simp [results, Try.results8, go_sem, hfrc0, hfrc1, hfrc2, hfrc3, hfrc4]
  · exact (((((HBW.out.setCell (p := ⟨w.heap.size, 0, none⟩) (Nat.le_refl _) _).setCell (p := ⟨w.heap.size, 1, none⟩) (Nat.le_refl _) _).setCell (p := ⟨w.heap.size, 2, none⟩) (Nat.le_refl _) _).setCell (p := ⟨w.heap.size, 3, none⟩) (Nat.le_refl _) _).setCell (p := ⟨w.heap.size, 4, none⟩) (Nat.le_refl _) _)

set_option maxHeartbeats 4000000 in
set_option maxRecDepth 100000 in
theorem find_far (A : Option Addr) (c : Nat) (l : List Int) (start k size off : Int) (w : World) (hr : Kd.C (Kd.int .u8) w A l.length l) (hb : ∀ x ∈ l, 0 ≤ x ∧ x < 256) (hl : l.length ≤ 140737488351232) (hf : foundF l = start) (hst : 0 ≤ start) (hst2 : start ≤ l.length)
    (n1 : numsF l ⟨start + 4, false⟩ 2 4 = ([0, 0, k, k], ⟨start + 4 + 8, false⟩)) (n2 : numsF l ⟨start + 4 + 8, false⟩ 4 2 = ([size, off], ⟨start + 4 + 8 + 8, false⟩)) (hk : k = 65535) (size2 off2 k2 x : Int) (h76 : 76 ≤ start)
    (m1 : Num l (start - 20) 4 117853008) (m2 : Num l (start - 20 + 4) 4 0) (m3 : Num l (start - 20 + 4 + 4) 8 (start - 20 - 56)) (m4 : Num l (start - 20 + 4 + 4 + 8) 4 1)
    (m5 : Num l (start - 20 - 56) 4 101075792) (m6 : Num l (start - 20 - 56 + 4) 8 44) (m7 : Num l (start - 20 - 56 + 4 + 8) 4 x) (m8 : Num l (start - 20 - 56 + 4 + 8 + 4) 4 0) (m9 : Num l (start - 20 - 56 + 4 + 8 + 4 + 4) 4 0) (m10 : Num l (start - 20 - 56 + 4 + 8 + 4 + 4 + 4) 8 k2)
    (m11 : numsF l ⟨start - 20 - 56 + 4 + 8 + 4 + 4 + 4 + 8, false⟩ 8 3 = ([k2, size2, off2], ⟨start - 20 - 56 + 4 + 8 + 4 + 4 + 4 + 8 + 24, false⟩)) (ho : 0 ≤ off2) (ho2 : off2 ≤ start - 20 - 56) (hsz : size2 = start - 20 - 56 - off2) :
    Calls Try.prog 8 #[.slice A l.length c] w fun e w' => e = .returned (.tuple #[.agg #[.int .i64 k2, .int .i64 size2, .int .i64 off2, .int .i64 (start - 20 - 56), .int .i64 start], .int .i64 0]) ∧ Below w.heap.size w w' := by
  have HB := Lib.hid hb
  have HR := Lib.hid hr
  have HF := Lib.hid hf
  have N1 := Lib.hid n1
  have N2 := Lib.hid n2
  have hmf := hmf
  have M1 := Lib.hid m1
  have M2 := Lib.hid m2
  have M3 := Lib.hid m3
  have M4 := Lib.hid m4
  have M5 := Lib.hid m5
  have M6 := Lib.hid m6
  have M7 := Lib.hid m7
  have M8 := Lib.hid m8
  have M9 := Lib.hid m9
  have M10 := Lib.hid m10
  have M11 := Lib.hid m11
  clear hb hr hf n1 n2 m1 m2 m3 m4 m5 m6 m7 m8 m9 m10 m11
  have hkb : (k == 65535) = true := by simpa using hk
  have hso : ¬ start - 20 - 56 < off2 := by omega
  have hsb : (size2 != start - 20 - 56 - off2) = false := by simpa using hsz
  have HSZ := Lib.hid hsz
  clear hk hsz
  go_enter Try.func8, Try.ntmps8
  go_wp2_with fail
  refine (found_calls A c l _ (Kd.C_alloc HR.out _) HB.out hl).mono ?_
  rintro e w1 ⟨rfl, hb1⟩
  rw [HF.out]
  have HFR := Lib.hid (blk_below (blk_new w (.cells #[.int .i64 0, .int .i64 0, .int .i64 0, .int .i64 0, .int .i64 0] 29)) hb1)
  have HBW := Lib.hid (below_then (below_alloc (Below.refl w.heap.size w) _) (by simp) hb1)
  have HC := Lib.hid (Kd.C_below HR.out HBW.out)
  clear hb1
  have hw1 : w.heap.size < w1.heap.size := blk_lt HFR.out
  go_wp2_with fail
  have BR := Lib.hid (blk_alloc (blk_alloc (blk_alloc (blk_alloc (blk_alloc (blk_alloc (blk_new' w1 (.cells #[.slice A l.length c, .int .i64 (start + 4), .bool false] 62) (w1.heap.size) (by simp)) (.cells #[.pointer (some ⟨w1.heap.size, 0, none⟩)] 60)) (.cells #[.int .i64 0, .int .i64 0, .int .i64 0, .int .i64 start, .int .i64 start] 29)) (.cells #[.int .i64 0] 3)) (.cells #[.int .i64 0] 3)) (.cells #[.int .i64 0] 3)) (.cells #[.pointer (some ⟨w1.heap.size + 1 + 1 + 1, 0, none⟩), .pointer (some ⟨w1.heap.size + 1 + 1 + 1 + 1, 0, none⟩), .pointer (some ⟨w1.heap.size + 1 + 1 + 1 + 1 + 1, 0, none⟩), .pointer (some ⟨w1.heap.size + 1 + 1, 0, none⟩)] 64))
  have BP := Lib.hid (blk_alloc (blk_alloc (blk_alloc (blk_alloc (blk_alloc (blk_new' (w1.alloc (.cells #[.slice A l.length c, .int .i64 (start + 4), .bool false] 62)) (.cells #[.pointer (some ⟨w1.heap.size, 0, none⟩)] 60) (w1.heap.size + 1) (by simp)) (.cells #[.int .i64 0, .int .i64 0, .int .i64 0, .int .i64 start, .int .i64 start] 29)) (.cells #[.int .i64 0] 3)) (.cells #[.int .i64 0] 3)) (.cells #[.int .i64 0] 3)) (.cells #[.pointer (some ⟨w1.heap.size + 1 + 1 + 1, 0, none⟩), .pointer (some ⟨w1.heap.size + 1 + 1 + 1 + 1, 0, none⟩), .pointer (some ⟨w1.heap.size + 1 + 1 + 1 + 1 + 1, 0, none⟩), .pointer (some ⟨w1.heap.size + 1 + 1, 0, none⟩)] 64))
  have BE := Lib.hid (blk_alloc (blk_alloc (blk_alloc (blk_alloc (blk_new' ((w1.alloc (.cells #[.slice A l.length c, .int .i64 (start + 4), .bool false] 62)).alloc (.cells #[.pointer (some ⟨w1.heap.size, 0, none⟩)] 60)) (.cells #[.int .i64 0, .int .i64 0, .int .i64 0, .int .i64 start, .int .i64 start] 29) (w1.heap.size + 1 + 1) (by simp)) (.cells #[.int .i64 0] 3)) (.cells #[.int .i64 0] 3)) (.cells #[.int .i64 0] 3)) (.cells #[.pointer (some ⟨w1.heap.size + 1 + 1 + 1, 0, none⟩), .pointer (some ⟨w1.heap.size + 1 + 1 + 1 + 1, 0, none⟩), .pointer (some ⟨w1.heap.size + 1 + 1 + 1 + 1 + 1, 0, none⟩), .pointer (some ⟨w1.heap.size + 1 + 1, 0, none⟩)] 64))
  have B7 := Lib.hid (blk_alloc (blk_alloc (blk_alloc (blk_new' (((w1.alloc (.cells #[.slice A l.length c, .int .i64 (start + 4), .bool false] 62)).alloc (.cells #[.pointer (some ⟨w1.heap.size, 0, none⟩)] 60)).alloc (.cells #[.int .i64 0, .int .i64 0, .int .i64 0, .int .i64 start, .int .i64 start] 29)) (.cells #[.int .i64 0] 3) (w1.heap.size + 1 + 1 + 1) (by simp)) (.cells #[.int .i64 0] 3)) (.cells #[.int .i64 0] 3)) (.cells #[.pointer (some ⟨w1.heap.size + 1 + 1 + 1, 0, none⟩), .pointer (some ⟨w1.heap.size + 1 + 1 + 1 + 1, 0, none⟩), .pointer (some ⟨w1.heap.size + 1 + 1 + 1 + 1 + 1, 0, none⟩), .pointer (some ⟨w1.heap.size + 1 + 1, 0, none⟩)] 64))
  have B8 := Lib.hid (blk_alloc (blk_alloc (blk_new' ((((w1.alloc (.cells #[.slice A l.length c, .int .i64 (start + 4), .bool false] 62)).alloc (.cells #[.pointer (some ⟨w1.heap.size, 0, none⟩)] 60)).alloc (.cells #[.int .i64 0, .int .i64 0, .int .i64 0, .int .i64 start, .int .i64 start] 29)).alloc (.cells #[.int .i64 0] 3)) (.cells #[.int .i64 0] 3) (w1.heap.size + 1 + 1 + 1 + 1) (by simp)) (.cells #[.int .i64 0] 3)) (.cells #[.pointer (some ⟨w1.heap.size + 1 + 1 + 1, 0, none⟩), .pointer (some ⟨w1.heap.size + 1 + 1 + 1 + 1, 0, none⟩), .pointer (some ⟨w1.heap.size + 1 + 1 + 1 + 1 + 1, 0, none⟩), .pointer (some ⟨w1.heap.size + 1 + 1, 0, none⟩)] 64))
  have B9 := Lib.hid (blk_alloc (blk_new' (((((w1.alloc (.cells #[.slice A l.length c, .int .i64 (start + 4), .bool false] 62)).alloc (.cells #[.pointer (some ⟨w1.heap.size, 0, none⟩)] 60)).alloc (.cells #[.int .i64 0, .int .i64 0, .int .i64 0, .int .i64 start, .int .i64 start] 29)).alloc (.cells #[.int .i64 0] 3)).alloc (.cells #[.int .i64 0] 3)) (.cells #[.int .i64 0] 3) (w1.heap.size + 1 + 1 + 1 + 1 + 1) (by simp)) (.cells #[.pointer (some ⟨w1.heap.size + 1 + 1 + 1, 0, none⟩), .pointer (some ⟨w1.heap.size + 1 + 1 + 1 + 1, 0, none⟩), .pointer (some ⟨w1.heap.size + 1 + 1 + 1 + 1 + 1, 0, none⟩), .pointer (some ⟨w1.heap.size + 1 + 1, 0, none⟩)] 64))
  have BT := Lib.hid (blk_new' ((((((w1.alloc (.cells #[.slice A l.length c, .int .i64 (start + 4), .bool false] 62)).alloc (.cells #[.pointer (some ⟨w1.heap.size, 0, none⟩)] 60)).alloc (.cells #[.int .i64 0, .int .i64 0, .int .i64 0, .int .i64 start, .int .i64 start] 29)).alloc (.cells #[.int .i64 0] 3)).alloc (.cells #[.int .i64 0] 3)).alloc (.cells #[.int .i64 0] 3)) (.cells #[.pointer (some ⟨w1.heap.size + 1 + 1 + 1, 0, none⟩), .pointer (some ⟨w1.heap.size + 1 + 1 + 1 + 1, 0, none⟩), .pointer (some ⟨w1.heap.size + 1 + 1 + 1 + 1 + 1, 0, none⟩), .pointer (some ⟨w1.heap.size + 1 + 1, 0, none⟩)] 64) (w1.heap.size + 1 + 1 + 1 + 1 + 1 + 1) (by simp))
  have HC := Lib.hid (Kd.C_alloc (Kd.C_alloc (Kd.C_alloc (Kd.C_alloc (Kd.C_alloc (Kd.C_alloc (Kd.C_alloc HC.out (.cells #[.slice A l.length c, .int .i64 (start + 4), .bool false] 62)) (.cells #[.pointer (some ⟨w1.heap.size, 0, none⟩)] 60)) (.cells #[.int .i64 0, .int .i64 0, .int .i64 0, .int .i64 start, .int .i64 start] 29)) (.cells #[.int .i64 0] 3)) (.cells #[.int .i64 0] 3)) (.cells #[.int .i64 0] 3)) (.cells #[.pointer (some ⟨w1.heap.size + 1 + 1 + 1, 0, none⟩), .pointer (some ⟨w1.heap.size + 1 + 1 + 1 + 1, 0, none⟩), .pointer (some ⟨w1.heap.size + 1 + 1 + 1 + 1 + 1, 0, none⟩), .pointer (some ⟨w1.heap.size + 1 + 1, 0, none⟩)] 64))
  have HFR := Lib.hid (blk_alloc (blk_alloc (blk_alloc (blk_alloc (blk_alloc (blk_alloc (blk_alloc HFR.out (.cells #[.slice A l.length c, .int .i64 (start + 4), .bool false] 62)) (.cells #[.pointer (some ⟨w1.heap.size, 0, none⟩)] 60)) (.cells #[.int .i64 0, .int .i64 0, .int .i64 0, .int .i64 start, .int .i64 start] 29)) (.cells #[.int .i64 0] 3)) (.cells #[.int .i64 0] 3)) (.cells #[.int .i64 0] 3)) (.cells #[.pointer (some ⟨w1.heap.size + 1 + 1 + 1, 0, none⟩), .pointer (some ⟨w1.heap.size + 1 + 1 + 1 + 1, 0, none⟩), .pointer (some ⟨w1.heap.size + 1 + 1 + 1 + 1 + 1, 0, none⟩), .pointer (some ⟨w1.heap.size + 1 + 1, 0, none⟩)] 64))
  have HBW := Lib.hid (HBW.out.trans ((below_alloc (below_alloc (below_alloc (below_alloc (below_alloc (below_alloc (below_alloc (Below.refl w1.heap.size w1) _) _) _) _) _) _) _ : Below w1.heap.size w1 (((((((w1.alloc (.cells #[.slice A l.length c, .int .i64 (start + 4), .bool false] 62)).alloc (.cells #[.pointer (some ⟨w1.heap.size, 0, none⟩)] 60)).alloc (.cells #[.int .i64 0, .int .i64 0, .int .i64 0, .int .i64 start, .int .i64 start] 29)).alloc (.cells #[.int .i64 0] 3)).alloc (.cells #[.int .i64 0] 3)).alloc (.cells #[.int .i64 0] 3)).alloc (.cells #[.pointer (some ⟨w1.heap.size + 1 + 1 + 1, 0, none⟩), .pointer (some ⟨w1.heap.size + 1 + 1 + 1 + 1, 0, none⟩), .pointer (some ⟨w1.heap.size + 1 + 1 + 1 + 1 + 1, 0, none⟩), .pointer (some ⟨w1.heap.size + 1 + 1, 0, none⟩)] 64))).mono (by omega)))
  refine (numbers_calls w1.heap.size (w1.heap.size + 1 + 1 + 1 + 1 + 1 + 1) A c 4 l ⟨start + 4, false⟩ 2 [⟨w1.heap.size + 1 + 1 + 1, 0, none⟩, ⟨w1.heap.size + 1 + 1 + 1 + 1, 0, none⟩, ⟨w1.heap.size + 1 + 1 + 1 + 1 + 1, 0, none⟩, ⟨w1.heap.size + 1 + 1, 0, none⟩] _ BR.out HC.out HB.out hl (by omega) (by omega) (ptrs_at (ts := [⟨w1.heap.size + 1 + 1 + 1, 0, none⟩, ⟨w1.heap.size + 1 + 1 + 1 + 1, 0, none⟩, ⟨w1.heap.size + 1 + 1 + 1 + 1 + 1, 0, none⟩, ⟨w1.heap.size + 1 + 1, 0, none⟩]) BT.out) (fun t ht => ?_) (by omega) (by simp)).mono ?_
  · simp only [List.mem_cons, List.not_mem_nil, or_false] at ht
    rcases ht with rfl | rfl | rfl | rfl
    · exact ⟨⟨_, blk_cell B7.out 0⟩, blk_frozen B7.out 0, by simp; omega⟩
    · exact ⟨⟨_, blk_cell B8.out 0⟩, blk_frozen B8.out 0, by simp; omega⟩
    · exact ⟨⟨_, blk_cell B9.out 0⟩, blk_frozen B9.out 0, by simp; omega⟩
    · exact ⟨⟨_, blk_cell BE.out 0⟩, blk_frozen BE.out 0, by simp; omega⟩
  rintro e w2 ⟨rfl, hS, hK⟩
  rw [show ([⟨w1.heap.size + 1 + 1 + 1, 0, none⟩, ⟨w1.heap.size + 1 + 1 + 1 + 1, 0, none⟩, ⟨w1.heap.size + 1 + 1 + 1 + 1 + 1, 0, none⟩, ⟨w1.heap.size + 1 + 1, 0, none⟩] : List Addr).length = 4 from rfl, N1.out] at hS hK
  have BP := Lib.hid (show w2.heap[w1.heap.size + 1]? = some (.cells #[.pointer (some ⟨w1.heap.size, 0, none⟩)] 60 (0, 0)) from hK.blk (blk_far (blk_far (blk_far (blk_far BP.out (p := ⟨w1.heap.size + 1 + 1 + 1, 0, none⟩) (by simp <;> omega) (.int .i64 0)) (p := ⟨w1.heap.size + 1 + 1 + 1 + 1, 0, none⟩) (by simp <;> omega) (.int .i64 0)) (p := ⟨w1.heap.size + 1 + 1 + 1 + 1 + 1, 0, none⟩) (by simp <;> omega) (.int .i64 k)) (p := ⟨w1.heap.size + 1 + 1, 0, none⟩) (by simp <;> omega) (.int .i64 k)) (by simp <;> omega))
  have BE := Lib.hid (show w2.heap[w1.heap.size + 1 + 1]? = some (.cells #[.int .i64 k, .int .i64 0, .int .i64 0, .int .i64 start, .int .i64 start] 29 (0, 0)) from hK.blk (blk_put (blk_far (blk_far (blk_far BE.out (p := ⟨w1.heap.size + 1 + 1 + 1, 0, none⟩) (by simp <;> omega) (.int .i64 0)) (p := ⟨w1.heap.size + 1 + 1 + 1 + 1, 0, none⟩) (by simp <;> omega) (.int .i64 0)) (p := ⟨w1.heap.size + 1 + 1 + 1 + 1 + 1, 0, none⟩) (by simp <;> omega) (.int .i64 k)) 0 (.int .i64 k) rfl) (by simp <;> omega))
  have B7 := Lib.hid (show w2.heap[w1.heap.size + 1 + 1 + 1]? = some (.cells #[.int .i64 0] 3 (0, 0)) from hK.blk (blk_far (blk_far (blk_far (blk_put B7.out 0 (.int .i64 0) rfl) (p := ⟨w1.heap.size + 1 + 1 + 1 + 1, 0, none⟩) (by simp <;> omega) (.int .i64 0)) (p := ⟨w1.heap.size + 1 + 1 + 1 + 1 + 1, 0, none⟩) (by simp <;> omega) (.int .i64 k)) (p := ⟨w1.heap.size + 1 + 1, 0, none⟩) (by simp <;> omega) (.int .i64 k)) (by simp <;> omega))
  have B8 := Lib.hid (show w2.heap[w1.heap.size + 1 + 1 + 1 + 1]? = some (.cells #[.int .i64 0] 3 (0, 0)) from hK.blk (blk_far (blk_far (blk_put (blk_far B8.out (p := ⟨w1.heap.size + 1 + 1 + 1, 0, none⟩) (by simp <;> omega) (.int .i64 0)) 0 (.int .i64 0) rfl) (p := ⟨w1.heap.size + 1 + 1 + 1 + 1 + 1, 0, none⟩) (by simp <;> omega) (.int .i64 k)) (p := ⟨w1.heap.size + 1 + 1, 0, none⟩) (by simp <;> omega) (.int .i64 k)) (by simp <;> omega))
  have B9 := Lib.hid (show w2.heap[w1.heap.size + 1 + 1 + 1 + 1 + 1]? = some (.cells #[.int .i64 k] 3 (0, 0)) from hK.blk (blk_far (blk_put (blk_far (blk_far B9.out (p := ⟨w1.heap.size + 1 + 1 + 1, 0, none⟩) (by simp <;> omega) (.int .i64 0)) (p := ⟨w1.heap.size + 1 + 1 + 1 + 1, 0, none⟩) (by simp <;> omega) (.int .i64 0)) 0 (.int .i64 k) rfl) (p := ⟨w1.heap.size + 1 + 1, 0, none⟩) (by simp <;> omega) (.int .i64 k)) (by simp <;> omega))
  have HFR := Lib.hid (hK.blk (blk_far (blk_far (blk_far (blk_far HFR.out (p := ⟨w1.heap.size + 1 + 1 + 1, 0, none⟩) (by simp <;> omega) (.int .i64 0)) (p := ⟨w1.heap.size + 1 + 1 + 1 + 1, 0, none⟩) (by simp <;> omega) (.int .i64 0)) (p := ⟨w1.heap.size + 1 + 1 + 1 + 1 + 1, 0, none⟩) (by simp <;> omega) (.int .i64 k)) (p := ⟨w1.heap.size + 1 + 1, 0, none⟩) (by simp <;> omega) (.int .i64 k)) (by simp; omega))
  have HBW := Lib.hid (((((HBW.out.setCell (p := ⟨w1.heap.size + 1 + 1 + 1, 0, none⟩) (by simp; omega) (.int .i64 0)).setCell (p := ⟨w1.heap.size + 1 + 1 + 1 + 1, 0, none⟩) (by simp; omega) (.int .i64 0)).setCell (p := ⟨w1.heap.size + 1 + 1 + 1 + 1 + 1, 0, none⟩) (by simp; omega) (.int .i64 k)).setCell (p := ⟨w1.heap.size + 1 + 1, 0, none⟩) (by simp; omega) (.int .i64 k)).trans (hK.to_below (B := w.heap.size) (by simp [setAll, World.setCell]; omega) (by simp; omega)))
  have BR := Lib.hid hS
  have HC := Lib.hid (Kd.C_below HR.out HBW.out)
  have h12 : w1.heap.size + 1 + 1 + 1 + 1 + 1 + 1 < w2.heap.size := by have := hK.size; simp [setAll, World.setCell] at this; omega
  clear hS hK
  have bpc0 := blk_cell BP.out 0
  have bpf0 := blk_frozen BP.out 0
  simp only [List.getElem?_toArray, List.getElem?_cons_zero, List.getElem?_cons_succ] at bpc0
  go_wp2_with fail
  have BR := Lib.hid (blk_alloc BR.out (.cells #[.pointer (some ⟨w1.heap.size + 1 + 1, 1, none⟩), .pointer (some ⟨w1.heap.size + 1 + 1, 2, none⟩)] 64))
  have BP := Lib.hid (blk_alloc BP.out (.cells #[.pointer (some ⟨w1.heap.size + 1 + 1, 1, none⟩), .pointer (some ⟨w1.heap.size + 1 + 1, 2, none⟩)] 64))
  have BE := Lib.hid (blk_alloc BE.out (.cells #[.pointer (some ⟨w1.heap.size + 1 + 1, 1, none⟩), .pointer (some ⟨w1.heap.size + 1 + 1, 2, none⟩)] 64))
  have B7 := Lib.hid (blk_alloc B7.out (.cells #[.pointer (some ⟨w1.heap.size + 1 + 1, 1, none⟩), .pointer (some ⟨w1.heap.size + 1 + 1, 2, none⟩)] 64))
  have B8 := Lib.hid (blk_alloc B8.out (.cells #[.pointer (some ⟨w1.heap.size + 1 + 1, 1, none⟩), .pointer (some ⟨w1.heap.size + 1 + 1, 2, none⟩)] 64))
  have B9 := Lib.hid (blk_alloc B9.out (.cells #[.pointer (some ⟨w1.heap.size + 1 + 1, 1, none⟩), .pointer (some ⟨w1.heap.size + 1 + 1, 2, none⟩)] 64))
  have HFR := Lib.hid (blk_alloc HFR.out (.cells #[.pointer (some ⟨w1.heap.size + 1 + 1, 1, none⟩), .pointer (some ⟨w1.heap.size + 1 + 1, 2, none⟩)] 64))
  have HC := Lib.hid (Kd.C_alloc HC.out (.cells #[.pointer (some ⟨w1.heap.size + 1 + 1, 1, none⟩), .pointer (some ⟨w1.heap.size + 1 + 1, 2, none⟩)] 64))
  have HBW := Lib.hid (HBW.out.alloc (by omega) (.cells #[.pointer (some ⟨w1.heap.size + 1 + 1, 1, none⟩), .pointer (some ⟨w1.heap.size + 1 + 1, 2, none⟩)] 64))
  refine (numbers_calls w1.heap.size w2.heap.size A c 2 l ⟨start + 4 + 8, false⟩ 4 [⟨w1.heap.size + 1 + 1, 1, none⟩, ⟨w1.heap.size + 1 + 1, 2, none⟩] _ BR.out HC.out HB.out hl (by omega) (by omega) (ptrs_at (ts := [⟨w1.heap.size + 1 + 1, 1, none⟩, ⟨w1.heap.size + 1 + 1, 2, none⟩]) (blk_new w2 (.cells #[.pointer (some ⟨w1.heap.size + 1 + 1, 1, none⟩), .pointer (some ⟨w1.heap.size + 1 + 1, 2, none⟩)] 64))) (fun t ht => ?_) (by omega) (by simp)).mono ?_
  · simp only [List.mem_cons, List.not_mem_nil, or_false] at ht
    rcases ht with rfl | rfl
    · exact ⟨⟨_, blk_cell BE.out 1⟩, blk_frozen BE.out 1, by simp; omega⟩
    · exact ⟨⟨_, blk_cell BE.out 2⟩, blk_frozen BE.out 2, by simp; omega⟩
  rintro e w3 ⟨rfl, hS, hK⟩
  rw [show ([⟨w1.heap.size + 1 + 1, 1, none⟩, ⟨w1.heap.size + 1 + 1, 2, none⟩] : List Addr).length = 2 from rfl, N2.out] at hS hK
  clear bpc0 bpf0
  have BP := Lib.hid (show w3.heap[w1.heap.size + 1]? = some (.cells #[.pointer (some ⟨w1.heap.size, 0, none⟩)] 60 (0, 0)) from hK.blk (blk_far (blk_far BP.out (p := ⟨w1.heap.size + 1 + 1, 1, none⟩) (by simp <;> omega) (.int .i64 size)) (p := ⟨w1.heap.size + 1 + 1, 2, none⟩) (by simp <;> omega) (.int .i64 off)) (by simp <;> omega))
  have BE := Lib.hid (show w3.heap[w1.heap.size + 1 + 1]? = some (.cells #[.int .i64 k, .int .i64 size, .int .i64 off, .int .i64 start, .int .i64 start] 29 (0, 0)) from hK.blk (blk_put (blk_put BE.out 1 (.int .i64 size) rfl) 2 (.int .i64 off) rfl) (by simp <;> omega))
  have B7 := Lib.hid (show w3.heap[w1.heap.size + 1 + 1 + 1]? = some (.cells #[.int .i64 0] 3 (0, 0)) from hK.blk (blk_far (blk_far B7.out (p := ⟨w1.heap.size + 1 + 1, 1, none⟩) (by simp <;> omega) (.int .i64 size)) (p := ⟨w1.heap.size + 1 + 1, 2, none⟩) (by simp <;> omega) (.int .i64 off)) (by simp <;> omega))
  have B8 := Lib.hid (show w3.heap[w1.heap.size + 1 + 1 + 1 + 1]? = some (.cells #[.int .i64 0] 3 (0, 0)) from hK.blk (blk_far (blk_far B8.out (p := ⟨w1.heap.size + 1 + 1, 1, none⟩) (by simp <;> omega) (.int .i64 size)) (p := ⟨w1.heap.size + 1 + 1, 2, none⟩) (by simp <;> omega) (.int .i64 off)) (by simp <;> omega))
  have B9 := Lib.hid (show w3.heap[w1.heap.size + 1 + 1 + 1 + 1 + 1]? = some (.cells #[.int .i64 k] 3 (0, 0)) from hK.blk (blk_far (blk_far B9.out (p := ⟨w1.heap.size + 1 + 1, 1, none⟩) (by simp <;> omega) (.int .i64 size)) (p := ⟨w1.heap.size + 1 + 1, 2, none⟩) (by simp <;> omega) (.int .i64 off)) (by simp <;> omega))
  have HFR := Lib.hid (hK.blk (blk_far (blk_far HFR.out (p := ⟨w1.heap.size + 1 + 1, 1, none⟩) (by simp <;> omega) (.int .i64 size)) (p := ⟨w1.heap.size + 1 + 1, 2, none⟩) (by simp <;> omega) (.int .i64 off)) (by simp; omega))
  have HBW := Lib.hid (((HBW.out.setCell (p := ⟨w1.heap.size + 1 + 1, 1, none⟩) (by simp; omega) (.int .i64 size)).setCell (p := ⟨w1.heap.size + 1 + 1, 2, none⟩) (by simp; omega) (.int .i64 off)).trans (hK.to_below (B := w.heap.size) (by simp [setAll, World.setCell]; omega) (by simp; omega)))
  have BR := Lib.hid hS
  have HC := Lib.hid (Kd.C_below HR.out HBW.out)
  clear hS hK
  obtain ⟨hc0, hc1, hc2, hf0, hf1, hf2⟩ := rds_cells BR.out
  have bpc0 := blk_cell BP.out 0
  have bpf0 := blk_frozen BP.out 0
  have bec0 := blk_cell BE.out 0
  have bef0 := blk_frozen BE.out 0
  have bec1 := blk_cell BE.out 1
  have bef1 := blk_frozen BE.out 1
  have bec2 := blk_cell BE.out 2
  have bef2 := blk_frozen BE.out 2
  have bec3 := blk_cell BE.out 3
  have bef3 := blk_frozen BE.out 3
  have bec4 := blk_cell BE.out 4
  have bef4 := blk_frozen BE.out 4
  have b7c0 := blk_cell B7.out 0
  have b7f0 := blk_frozen B7.out 0
  have b8c0 := blk_cell B8.out 0
  have b8f0 := blk_frozen B8.out 0
  have b9c0 := blk_cell B9.out 0
  have b9f0 := blk_frozen B9.out 0
  have hfrc0 := blk_cell HFR.out 0
  have hfrf0 := blk_frozen HFR.out 0
  have hfrc1 := blk_cell HFR.out 1
  have hfrf1 := blk_frozen HFR.out 1
  have hfrc2 := blk_cell HFR.out 2
  have hfrf2 := blk_frozen HFR.out 2
  have hfrc3 := blk_cell HFR.out 3
  have hfrf3 := blk_frozen HFR.out 3
  have hfrc4 := blk_cell HFR.out 4
  have hfrf4 := blk_frozen HFR.out 4
  simp only [List.getElem?_toArray, List.getElem?_cons_zero, List.getElem?_cons_succ] at bpc0 bec0 bec1 bec2 bec3 bec4 b7c0 b8c0 b9c0 hfrc0 hfrc1 hfrc2 hfrc3 hfrc4
  go_wp2_with (go_at_call 25; refine (zero_calls ⟨w1.heap.size + 1, 0, none⟩ w1.heap.size 0 _ bpc0 hc2 rfl).mono ?_; rintro e w' ⟨rfl, rfl⟩)
  refine (far_ok A c l start x k2 size2 off2 _ HC.out HB.out hl h76 hst2 M1.out M2.out M3.out M4.out M5.out M6.out M7.out M8.out M9.out M10.out M11.out).mono ?_
  rintro e w4 ⟨rfl, hb4⟩
  clear bpc0 bpf0 b7c0 b7f0 b8c0 b8f0 b9c0 b9f0
  clear hc0 hc1 hc2 hf0 hf1 hf2
  have BE := Lib.hid (blk_below BE.out hb4)
  have HFR := Lib.hid (blk_below HFR.out hb4)
  have HBW := Lib.hid (HBW.out.trans (hb4.mono HBW.out.size))
  clear hb4
  clear bec0 bef0 bec1 bef1 bec2 bef2 bec3 bef3 bec4 bef4 hfrc0 hfrf0 hfrc1 hfrf1 hfrc2 hfrf2 hfrc3 hfrf3 hfrc4 hfrf4
  have bec0 := blk_cell BE.out 0
  have bef0 := blk_frozen BE.out 0
  have bec1 := blk_cell BE.out 1
  have bef1 := blk_frozen BE.out 1
  have bec2 := blk_cell BE.out 2
  have bef2 := blk_frozen BE.out 2
  have bec3 := blk_cell BE.out 3
  have bef3 := blk_frozen BE.out 3
  have bec4 := blk_cell BE.out 4
  have bef4 := blk_frozen BE.out 4
  have hfrc0 := blk_cell HFR.out 0
  have hfrf0 := blk_frozen HFR.out 0
  have hfrc1 := blk_cell HFR.out 1
  have hfrf1 := blk_frozen HFR.out 1
  have hfrc2 := blk_cell HFR.out 2
  have hfrf2 := blk_frozen HFR.out 2
  have hfrc3 := blk_cell HFR.out 3
  have hfrf3 := blk_frozen HFR.out 3
  have hfrc4 := blk_cell HFR.out 4
  have hfrf4 := blk_frozen HFR.out 4
  simp only [List.getElem?_toArray, List.getElem?_cons_zero, List.getElem?_cons_succ] at bec0 bec1 bec2 bec3 bec4 hfrc0 hfrc1 hfrc2 hfrc3 hfrc4
  have hne : ¬ w.heap.size = w1.heap.size + 1 + 1 := by omega
  go_wp2
  refine bodyPost_ret (v := .tuple #[.agg #[.int .i64 k2, .int .i64 size2, .int .i64 off2, .int .i64 (start - 20 - 56), .int .i64 start], .int .i64 0]) ?_ rfl ⟨rfl, ?_⟩
  · simp [results, Try.results8, go_sem, hfrc0, hfrc1, hfrc2, hfrc3, hfrc4, hne]
  · exact ((((((((((HBW.out.setCell (p := ⟨w1.heap.size + 1 + 1, 0, none⟩) (by simp; omega) _).setCell (p := ⟨w1.heap.size + 1 + 1, 1, none⟩) (by simp; omega) _).setCell (p := ⟨w1.heap.size + 1 + 1, 2, none⟩) (by simp; omega) _).setCell (p := ⟨w1.heap.size + 1 + 1, 3, none⟩) (by simp; omega) _).setCell (p := ⟨w1.heap.size + 1 + 1, 4, none⟩) (by simp; omega) _).setCell (p := ⟨w.heap.size, 0, none⟩) (Nat.le_refl _) _).setCell (p := ⟨w.heap.size, 1, none⟩) (Nat.le_refl _) _).setCell (p := ⟨w.heap.size, 2, none⟩) (Nat.le_refl _) _).setCell (p := ⟨w.heap.size, 3, none⟩) (Nat.le_refl _) _).setCell (p := ⟨w.heap.size, 4, none⟩) (Nat.le_refl _) _)

end Go.Proofs.Ytlbijehgoiknjaa.Z
