/- Walk of package zipdir's far, where both records stand as they must: what it returns. -/
import Derived.Test.YtlbijehgoiknjaaZFound
set_option linter.unusedVariables false
set_option linter.unusedSimpArgs false
namespace Go.Proofs.Ytlbijehgoiknjaa.Z
open Go.RowKit Go.Proofs.YtlbijehgoiknjaaW.PrintWords Go.Proofs.YtlbijehgoiknjaaW.PrintLast Go.Proofs.YtlbijehgoiknjaaW.PrintMore

/-- A number of n bytes that stands at a place. -/
def Num (l : List Int) (a n v : Int) : Prop := numF l ⟨a, false⟩ n = (v, ⟨a + n, false⟩)
theorem number_ok (g : Nat) (A : Option Addr) (c : Nat) (l : List Int) (a n v : Int) (w : World) (hS : RdS w g A l.length c a false) (hr : Kd.C (Kd.int .u8) w A l.length l) (hb : ∀ x ∈ l, 0 ≤ x ∧ x < 256) (hl : l.length ≤ 140737488351232) (hn : 0 ≤ n) (hn8 : n ≤ 8) (h : Num l a n v) :
    Calls Try.prog 36 #[.pointer (some ⟨g, 0, none⟩), .int .i64 n] w fun e w' => e = .returned (.int .i64 v) ∧ (RdS w' g A l.length c (a + n) false ∧ Kd.C (Kd.int .u8) w' A l.length l) ∧ Kp [g] w w' :=
  (number_calls g A c l ⟨a, false⟩ n w hS hr hb hl hn hn8).mono fun e w' ⟨h1, h2, h3⟩ => by
    unfold Num at h
    rw [h] at h1 h2
    exact ⟨h1, ⟨h2, C_rds hr hS h3⟩, h3⟩
theorem C_set {w : World} {g : Nat} {A : Option Addr} {n c : Nat} {at_ : Int} {bad : Bool} {l : List Int} (h : Kd.C (Kd.int .u8) w A n l) (hs : RdS w g A n c at_ bad) (u : Value) : Kd.C (Kd.int .u8) (w.setCell ⟨g, 1, none⟩ u) A n l :=
  C_rds h hs ((Kp.refl [g] w).setCell (p := ⟨g, 1, none⟩) (.inl (by simp)) u)
theorem numsF_ok {l : List Int} {n : Int} : ∀ (k : Nat) (a : Int) (f : Nat → Int), (∀ i, i < k → Num l (a + i * n) n (f i)) → numsF l ⟨a, false⟩ n k = ((List.range k).map f, ⟨a + k * n, false⟩)
  | 0, a, f, _ => by simp [numsF]
  | k + 1, a, f, h => by
    have h1 := numsF_ok k a f (fun i hi => h i (by omega))
    have h2 := h k (by omega)
    unfold Num at h2
    have e : ((k + 1 : Nat) : Int) * n = (k : Int) * n + n := by rw [Int.natCast_add, Int.add_mul]; simp
    rw [numsF, h1]
    simp only [h2, List.range_succ, List.map_append, List.map_cons, List.map_nil]
    rw [e, Int.add_assoc]

set_option maxHeartbeats 4000000 in
set_option maxRecDepth 100000 in
theorem far_ok (A : Option Addr) (c : Nat) (l : List Int) (start x k size off : Int) (w : World) (hr : Kd.C (Kd.int .u8) w A l.length l) (hb : ∀ x ∈ l, 0 ≤ x ∧ x < 256) (hl : l.length ≤ 140737488351232) (h76 : 76 ≤ start) (hs : start ≤ l.length)
    (n1 : Num l (start - 20) 4 117853008) (n2 : Num l (start - 20 + 4) 4 0) (n3 : Num l (start - 20 + 4 + 4) 8 (start - 20 - 56)) (n4 : Num l (start - 20 + 4 + 4 + 8) 4 1)
    (n5 : Num l (start - 20 - 56) 4 101075792) (n6 : Num l (start - 20 - 56 + 4) 8 44) (n7 : Num l (start - 20 - 56 + 4 + 8) 4 x) (n8 : Num l (start - 20 - 56 + 4 + 8 + 4) 4 0) (n9 : Num l (start - 20 - 56 + 4 + 8 + 4 + 4) 4 0) (n10 : Num l (start - 20 - 56 + 4 + 8 + 4 + 4 + 4) 8 k)
    (n11 : numsF l ⟨start - 20 - 56 + 4 + 8 + 4 + 4 + 4 + 8, false⟩ 8 3 = ([k, size, off], ⟨start - 20 - 56 + 4 + 8 + 4 + 4 + 4 + 8 + 24, false⟩)) :
    Calls Try.prog 26 #[.slice A l.length c, .int .i64 start] w fun e w' => e = .returned (.tuple #[.agg #[.int .i64 k, .int .i64 size, .int .i64 off, .int .i64 (start - 20 - 56), .int .i64 start], .bool true]) ∧ Below w.heap.size w w' := by
  have HB := Lib.hid hb
  have HR := Lib.hid hr
  have N1 := Lib.hid n1
  have N2 := Lib.hid n2
  have N3 := Lib.hid n3
  have N4 := Lib.hid n4
  have N5 := Lib.hid n5
  have N6 := Lib.hid n6
  have N7 := Lib.hid n7
  have N8 := Lib.hid n8
  have N9 := Lib.hid n9
  have N10 := Lib.hid n10
  have N11 := Lib.hid n11
  clear hb hr n1 n2 n3 n4 n5 n6 n7 n8 n9 n10 n11
  go_enter Try.func26, Try.ntmps26
  go_wp2_with fail
  have HS := Lib.hid (show RdS ((w.alloc (.cells #[.int .i64 0, .int .i64 0, .int .i64 0, .int .i64 0, .int .i64 0] 29)).alloc (.cells #[.slice A l.length c, .int .i64 (start - 20), .bool false] 62)) (w.heap.size + 1) A l.length c (start - 20) false from by simpa using rds_new (w.alloc (.cells #[.int .i64 0, .int .i64 0, .int .i64 0, .int .i64 0, .int .i64 0] 29)) A l.length c (start - 20) false)
  have HC := Lib.hid (Kd.C_alloc (Kd.C_alloc HR.out (.cells #[.int .i64 0, .int .i64 0, .int .i64 0, .int .i64 0, .int .i64 0] 29)) (.cells #[.slice A l.length c, .int .i64 (start - 20), .bool false] 62))
  have HK := Lib.hid (((Kp.refl [w.heap.size + 1] (w.alloc (.cells #[.int .i64 0, .int .i64 0, .int .i64 0, .int .i64 0, .int .i64 0] 29))).alloc (.cells #[.slice A l.length c, .int .i64 (start - 20), .bool false] 62)))
  refine (number_ok (w.heap.size + 1) A c l _ 4 _ _ HS.out HC.out HB.out hl (by omega) (by omega) N1.out).mono ?_
  rintro e w1 ⟨rfl, hSC, hK⟩
  have HS := Lib.hid hSC.1
  have HC := Lib.hid hSC.2
  have HK := Lib.hid (HK.out.trans hK)
  clear hSC hK
  go_wp2_with fail
  refine (number_ok (w.heap.size + 1) A c l _ 4 _ _ HS.out HC.out HB.out hl (by omega) (by omega) N2.out).mono ?_
  rintro e w2 ⟨rfl, hSC, hK⟩
  have HS := Lib.hid hSC.1
  have HC := Lib.hid hSC.2
  have HK := Lib.hid (HK.out.trans hK)
  clear hSC hK
  go_wp2_with fail
  refine (number_ok (w.heap.size + 1) A c l _ 8 _ _ HS.out HC.out HB.out hl (by omega) (by omega) N3.out).mono ?_
  rintro e w3 ⟨rfl, hSC, hK⟩
  have HS := Lib.hid hSC.1
  have HC := Lib.hid hSC.2
  have HK := Lib.hid (HK.out.trans hK)
  clear hSC hK
  go_wp2_with fail
  refine (number_ok (w.heap.size + 1) A c l _ 4 _ _ HS.out HC.out HB.out hl (by omega) (by omega) N4.out).mono ?_
  rintro e w4 ⟨rfl, hSC, hK⟩
  have HS := Lib.hid hSC.1
  have HC := Lib.hid hSC.2
  have HK := Lib.hid (HK.out.trans hK)
  clear hSC hK
  obtain ⟨hc0, hc1, hc2, hf0, hf1, hf2⟩ := rds_cells HS.out
  go_wp2_with fail
  have HC := Lib.hid (C_set HC.out HS.out (.int .i64 (start - 20 - 56)))
  have HS := Lib.hid (rds_set HS.out (start - 20 - 56))
  have HK := Lib.hid (HK.out.setCell (p := ⟨w.heap.size + 1, 1, none⟩) (.inl (by simp)) (.int .i64 (start - 20 - 56)))
  clear hc0 hc1 hc2 hf0 hf1 hf2
  refine (number_ok (w.heap.size + 1) A c l _ 4 _ _ HS.out HC.out HB.out hl (by omega) (by omega) N5.out).mono ?_
  rintro e w5 ⟨rfl, hSC, hK⟩
  have HS := Lib.hid hSC.1
  have HC := Lib.hid hSC.2
  have HK := Lib.hid (HK.out.trans hK)
  clear hSC hK
  go_wp2_with fail
  refine (number_ok (w.heap.size + 1) A c l _ 8 _ _ HS.out HC.out HB.out hl (by omega) (by omega) N6.out).mono ?_
  rintro e w6 ⟨rfl, hSC, hK⟩
  have HS := Lib.hid hSC.1
  have HC := Lib.hid hSC.2
  have HK := Lib.hid (HK.out.trans hK)
  clear hSC hK
  go_wp2_with fail
  refine (number_ok (w.heap.size + 1) A c l _ 4 _ _ HS.out HC.out HB.out hl (by omega) (by omega) N7.out).mono ?_
  rintro e w7 ⟨rfl, hSC, hK⟩
  have HS := Lib.hid hSC.1
  have HC := Lib.hid hSC.2
  have HK := Lib.hid (HK.out.trans hK)
  clear hSC hK
  go_wp2_with fail
  refine (number_ok (w.heap.size + 1) A c l _ 4 _ _ HS.out HC.out HB.out hl (by omega) (by omega) N8.out).mono ?_
  rintro e w8 ⟨rfl, hSC, hK⟩
  have HS := Lib.hid hSC.1
  have HC := Lib.hid hSC.2
  have HK := Lib.hid (HK.out.trans hK)
  clear hSC hK
  go_wp2_with fail
  refine (number_ok (w.heap.size + 1) A c l _ 4 _ _ HS.out HC.out HB.out hl (by omega) (by omega) N9.out).mono ?_
  rintro e w9 ⟨rfl, hSC, hK⟩
  have HS := Lib.hid hSC.1
  have HC := Lib.hid hSC.2
  have HK := Lib.hid (HK.out.trans hK)
  clear hSC hK
  go_wp2_with fail
  have HK9 := Lib.hid (show w.heap.size + 1 < w9.heap.size from blk_lt HS.out)
  have HC := Lib.hid (Kd.C_alloc HC.out (.cells #[.int .i64 0, .int .i64 0, .int .i64 0, .int .i64 (start - 20 - 56), .int .i64 start] 29))
  have HS := Lib.hid (show RdS _ (w.heap.size + 1) A l.length c _ false from blk_alloc HS.out (.cells #[.int .i64 0, .int .i64 0, .int .i64 0, .int .i64 (start - 20 - 56), .int .i64 start] 29))
  have HE := Lib.hid (blk_new w9 (.cells #[.int .i64 0, .int .i64 0, .int .i64 0, .int .i64 (start - 20 - 56), .int .i64 start] 29))
  have HK := Lib.hid (HK.out.alloc (.cells #[.int .i64 0, .int .i64 0, .int .i64 0, .int .i64 (start - 20 - 56), .int .i64 start] 29))
  refine (number_ok (w.heap.size + 1) A c l _ 8 _ _ HS.out HC.out HB.out hl (by omega) (by omega) N10.out).mono ?_
  rintro e w10 ⟨rfl, hSC, hK⟩
  have h9 : w.heap.size + 1 < w9.heap.size := by have := HK9.out; omega
  have HE := Lib.hid (hK.blk HE.out (by simp; omega))
  have HS := Lib.hid hSC.1
  have HC := Lib.hid hSC.2
  have HK := Lib.hid (HK.out.trans hK)
  clear hSC hK
  have HFR := Lib.hid (blk_alloc (HK.out.blk (g := w.heap.size) (blk_new w (.cells #[.int .i64 0, .int .i64 0, .int .i64 0, .int .i64 0, .int .i64 0] 29)) (by simp)) (.cells #[.pointer (some ⟨w9.heap.size, 0, none⟩), .pointer (some ⟨w9.heap.size, 1, none⟩), .pointer (some ⟨w9.heap.size, 2, none⟩)] 64))
  have h10 : w9.heap.size < w10.heap.size := blk_lt HE.out
  have HE := Lib.hid (blk_alloc HE.out (.cells #[.pointer (some ⟨w9.heap.size, 0, none⟩), .pointer (some ⟨w9.heap.size, 1, none⟩), .pointer (some ⟨w9.heap.size, 2, none⟩)] 64))
  have HS := Lib.hid (show RdS _ (w.heap.size + 1) A l.length c _ false from blk_alloc HS.out (.cells #[.pointer (some ⟨w9.heap.size, 0, none⟩), .pointer (some ⟨w9.heap.size, 1, none⟩), .pointer (some ⟨w9.heap.size, 2, none⟩)] 64))
  have HC := Lib.hid (Kd.C_alloc HC.out (.cells #[.pointer (some ⟨w9.heap.size, 0, none⟩), .pointer (some ⟨w9.heap.size, 1, none⟩), .pointer (some ⟨w9.heap.size, 2, none⟩)] 64))
  have HPT := Lib.hid (ptrs_at (ts := [⟨w9.heap.size, 0, none⟩, ⟨w9.heap.size, 1, none⟩, ⟨w9.heap.size, 2, none⟩]) (blk_new w10 (.cells #[.pointer (some ⟨w9.heap.size, 0, none⟩), .pointer (some ⟨w9.heap.size, 1, none⟩), .pointer (some ⟨w9.heap.size, 2, none⟩)] 64)))
  go_wp2_with fail
  refine (numbers_calls (w.heap.size + 1) w10.heap.size A c 3 l ⟨_, false⟩ 8 [⟨w9.heap.size, 0, none⟩, ⟨w9.heap.size, 1, none⟩, ⟨w9.heap.size, 2, none⟩] _ HS.out HC.out HB.out hl (by omega) (by omega) HPT.out (fun t ht => ?_) (by omega) (by simp)).mono ?_
  · simp only [List.mem_cons, List.not_mem_nil, or_false] at ht
    rcases ht with rfl | rfl | rfl
    · exact ⟨⟨_, blk_cell HE.out 0⟩, blk_frozen HE.out 0, by simp; omega⟩
    · exact ⟨⟨_, blk_cell HE.out 1⟩, blk_frozen HE.out 1, by simp; omega⟩
    · exact ⟨⟨_, blk_cell HE.out 2⟩, blk_frozen HE.out 2, by simp; omega⟩
  rintro e w11 ⟨rfl, hS, hK⟩
  rw [show ([⟨w9.heap.size, 0, none⟩, ⟨w9.heap.size, 1, none⟩, ⟨w9.heap.size, 2, none⟩] : List Addr).length = 3 from rfl, N11.out] at hS hK
  have hE : w11.heap[w9.heap.size]? = some (.cells #[.int .i64 k, .int .i64 size, .int .i64 off, .int .i64 (start - 20 - 56), .int .i64 start] 29 (0, 0)) :=
    hK.blk (blk_put (blk_put (blk_put HE.out 0 (.int .i64 k) rfl) 1 (.int .i64 size) rfl) 2 (.int .i64 off) rfl) (by simp; omega)
  have hF := hK.blk ((heap_setAll w.heap.size [⟨w9.heap.size, 0, none⟩, ⟨w9.heap.size, 1, none⟩, ⟨w9.heap.size, 2, none⟩] [k, size, off] _ (fun t ht => by
    simp only [List.mem_cons, List.not_mem_nil, or_false] at ht
    rcases ht with rfl | rfl | rfl <;> (simp; omega))).trans HFR.out) (by simp)
  have b1 : Below w.heap.size w w10 := (below_alloc (Below.refl w.heap.size w) (.cells #[.int .i64 0, .int .i64 0, .int .i64 0, .int .i64 0, .int .i64 0] 29)).trans (HK.out.to_below (by simp) (by simp))
  have b2 := b1.alloc b1.size (.cells #[.pointer (some ⟨w9.heap.size, 0, none⟩), .pointer (some ⟨w9.heap.size, 1, none⟩), .pointer (some ⟨w9.heap.size, 2, none⟩)] 64)
  have b3 := ((b2.setCell (p := ⟨w9.heap.size, 0, none⟩) (by simp; omega) (.int .i64 k)).setCell (p := ⟨w9.heap.size, 1, none⟩) (by simp; omega) (.int .i64 size)).setCell (p := ⟨w9.heap.size, 2, none⟩) (by simp; omega) (.int .i64 off)
  have HBW := Lib.hid (b3.trans (hK.to_below (B := w.heap.size) (by simp [setAll, World.setCell]; omega) (by simp)))
  clear b1 b2 b3
  obtain ⟨hc0, hc1, hc2, hf0, hf1, hf2⟩ := rds_cells hS
  have he0 := blk_cell hE 0
  have he1 := blk_cell hE 1
  have he2 := blk_cell hE 2
  have he3 := blk_cell hE 3
  have he4 := blk_cell hE 4
  simp only [List.getElem?_toArray, List.getElem?_cons_zero, List.getElem?_cons_succ] at he0 he1 he2 he3 he4
  go_wp2_with fail
  have hr0 := blk_cell hF 0
  have hr1 := blk_cell hF 1
  have hr2 := blk_cell hF 2
  have hr3 := blk_cell hF 3
  have hr4 := blk_cell hF 4
  simp only [List.getElem?_toArray, List.getElem?_cons_zero, List.getElem?_cons_succ] at hr0 hr1 hr2 hr3 hr4
  have hz0 := blk_frozen hF 0
  have hz1 := blk_frozen hF 1
  have hz2 := blk_frozen hF 2
  have hz3 := blk_frozen hF 3
  have hz4 := blk_frozen hF 4
  have hne : ¬ w.heap.size = w9.heap.size := by omega
  have hne' : ¬ w9.heap.size = w.heap.size := by omega
  go_region_held3 (fun w' => w'.cell? ⟨w9.heap.size, 0, none⟩ = some (.int .i64 k) ∧ w'.cell? ⟨w9.heap.size, 1, none⟩ = some (.int .i64 size) ∧ w'.cell? ⟨w9.heap.size, 2, none⟩ = some (.int .i64 off) ∧ w'.cell? ⟨w9.heap.size, 3, none⟩ = some (.int .i64 (start - 20 - 56)) ∧ w'.cell? ⟨w9.heap.size, 4, none⟩ = some (.int .i64 start) ∧ w'.cell? ⟨w.heap.size + 1, 2, none⟩ = some (.bool false))
    (first | go_keep | (refine ⟨?_, ?_, ?_, ?_, ?_, ?_⟩ <;> (simp [go_sem, hne, *]))) (first | fail)
  go_wp2_with fail
  refine bodyPost_ret (v := .tuple #[.agg #[.int .i64 k, .int .i64 size, .int .i64 off, .int .i64 (start - 20 - 56), .int .i64 start], .bool true]) ?_ rfl ⟨rfl, ?_⟩
  · simp [results, Try.results26, go_sem, hr0, hr1, hr2, hr3, hr4]
  · exact (((((HBW.out.setCell (p := ⟨w.heap.size, 0, none⟩) (Nat.le_refl _) _).setCell (p := ⟨w.heap.size, 1, none⟩) (Nat.le_refl _) _).setCell (p := ⟨w.heap.size, 2, none⟩) (Nat.le_refl _) _).setCell (p := ⟨w.heap.size, 3, none⟩) (Nat.le_refl _) _).setCell (p := ⟨w.heap.size, 4, none⟩) (Nat.le_refl _) _).drew
end Go.Proofs.Ytlbijehgoiknjaa.Z
