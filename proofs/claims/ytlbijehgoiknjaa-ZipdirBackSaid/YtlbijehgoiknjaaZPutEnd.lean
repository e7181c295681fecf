/- Walks of package zipdir's PutEnd: few entries; many entries. -/
import Derived.Test.YtlbijehgoiknjaaZWriter
import Derived.Test.YtlbijehgoiknjaaZSmall
set_option linter.unusedVariables false
set_option linter.unusedSimpArgs false
namespace Go.Proofs.Ytlbijehgoiknjaa.Z
open Go.RowKit Go.Proofs.YtlbijehgoiknjaaW.PrintWords Go.Proofs.YtlbijehgoiknjaaW.PrintLast Go.Proofs.YtlbijehgoiknjaaW.PrintMore

attribute [local go_sem] max2_int min2_int max_two min_two max_three min_three max_four min_four
def endBytes (n size offset : Int) : List Int := putF 4 [101010256] ++ putF 2 [0, 0, n, n] ++ putF 4 [size, offset] ++ putF 2 [0]
def farBytes (entries size offset : Int) : List Int := putF 4 [101075792] ++ putF 8 [44] ++ putF 2 [45, 45] ++ putF 4 [0, 0] ++ putF 8 [entries, entries, size, offset] ++ putF 4 [117853008, 0] ++ putF 8 [size + offset] ++ putF 4 [1]

set_option maxHeartbeats 4000000 in
set_option maxRecDepth 100000 in
theorem put_end_near (entries size offset : Int) (w : World) (h0 : 0 ≤ entries) (h0b : entries < 65535) (h1 : 0 ≤ size) (h1b : size < 4294967295) (h2 : 0 ≤ offset) (h2b : offset < 4294967295) :
    Calls Try.prog 7 #[.int .i64 entries, .int .i64 size, .int .i64 offset] w fun e w' => ∃ v, e = .returned (.tuple #[v, .int .i64 0]) ∧ Kd.R (Kd.int .u8) 5 w' w.heap.size (fun _ => True) v (endBytes entries size offset) ∧ Below w.heap.size w w' := by
  have HW := Lib.hid (show withinB 4611686018427387904 [entries, size, offset] = true from by simp [withinB]; omega)

  go_enter Try.func7, Try.ntmps7
  go_wp2_with fail
  refine (within_calls 4611686018427387904 (some ⟨w.heap.size, 0, none⟩) 3 [entries, size, offset] _ (C_of_blk (T := 3) (blk_new w (.cells #[.int .i64 entries, .int .i64 size, .int .i64 offset] 3)) (by simp)) (by simp) (by simp)).mono ?_
  rintro e w1 ⟨rfl, hd⟩
  rw [HW.out]
  obtain ⟨⟨m, rfl⟩⟩ := hd
  go_wp2_with fail
  have HS := Lib.hid (show WrS (((w.alloc (.cells #[.int .i64 entries, .int .i64 size, .int .i64 offset] 3)).drewN m).alloc (.cells #[.slice none 0 0] 54)) (w.heap.size + 1) w.heap.size [] from by simpa using WrS.new ((w.alloc (.cells #[.int .i64 entries, .int .i64 size, .int .i64 offset] 3)).drewN m) w.heap.size (by simp))
  have HK := Lib.hid (Kp.refl [w.heap.size + 1] (((w.alloc (.cells #[.int .i64 entries, .int .i64 size, .int .i64 offset] 3)).drewN m).alloc (.cells #[.slice none 0 0] 54)))
  refine (small_less size _ h1 h1b).mono ?_
  rintro e w2 ⟨rfl, hb2⟩
  go_wp2_with fail
  refine (small_less offset _ h2 h2b).mono ?_
  rintro e w3 ⟨rfl, hb3⟩
  have HS := Lib.hid ((HS.out.below hb2).below hb3)
  have HK := Lib.hid ((HK.out.below hb2).below hb3)
  clear hb2 hb3
  go_wp2_with fail
  refine (put_calls (w.heap.size + 1) _ w.heap.size 1 4 _ [101010256] _ (HS.out.alloc (.cells #[.int .u64 101010256] 55)) (u64s_at (vs := [101010256]) (blk_new _ (.cells #[.int .u64 101010256] 55))) (by omega) (by omega) (by simp) (by simp [putF_length]) (Nat.ne_of_gt HS.out.lt) (by have := HK.out.size; simp at this ⊢; omega)).mono ?_
  rintro e q1 ⟨rfl, hS, hK⟩
  have HS := Lib.hid hS
  have HK := Lib.hid ((HK.out.alloc (.cells #[.int .u64 101010256] 55)).trans hK)
  clear hS hK
  go_wp2_with fail
  refine (put_calls (w.heap.size + 1) _ w.heap.size 4 2 _ [0, 0, entries, entries] _ (HS.out.alloc (.cells #[.int .u64 0, .int .u64 0, .int .u64 (entries), .int .u64 (entries)] 55)) (u64s_at (vs := [0, 0, entries, entries]) (blk_new _ (.cells #[.int .u64 0, .int .u64 0, .int .u64 (entries), .int .u64 (entries)] 55))) (by omega) (by omega) (by simp) (by simp [putF_length]) (Nat.ne_of_gt HS.out.lt) (by have := HK.out.size; simp at this ⊢; omega)).mono ?_
  rintro e q2 ⟨rfl, hS, hK⟩
  have HS := Lib.hid hS
  have HK := Lib.hid ((HK.out.alloc (.cells #[.int .u64 0, .int .u64 0, .int .u64 (entries), .int .u64 (entries)] 55)).trans hK)
  clear hS hK
  go_wp2_with fail
  refine (put_calls (w.heap.size + 1) _ w.heap.size 2 4 _ [size, offset] _ (HS.out.alloc (.cells #[.int .u64 (size), .int .u64 (offset)] 55)) (u64s_at (vs := [size, offset]) (blk_new _ (.cells #[.int .u64 (size), .int .u64 (offset)] 55))) (by omega) (by omega) (by simp) (by simp [putF_length]) (Nat.ne_of_gt HS.out.lt) (by have := HK.out.size; simp at this ⊢; omega)).mono ?_
  rintro e q3 ⟨rfl, hS, hK⟩
  have HS := Lib.hid hS
  have HK := Lib.hid ((HK.out.alloc (.cells #[.int .u64 (size), .int .u64 (offset)] 55)).trans hK)
  clear hS hK
  go_wp2_with fail
  refine (put_calls (w.heap.size + 1) _ w.heap.size 1 2 _ [0] _ (HS.out.alloc (.cells #[.int .u64 0] 55)) (u64s_at (vs := [0]) (blk_new _ (.cells #[.int .u64 0] 55))) (by omega) (by omega) (by simp) (by simp [putF_length]) (Nat.ne_of_gt HS.out.lt) (by have := HK.out.size; simp at this ⊢; omega)).mono ?_
  rintro e q4 ⟨rfl, hS, hK⟩
  have HS := Lib.hid hS
  have HK := Lib.hid ((HK.out.alloc (.cells #[.int .u64 0] 55)).trans hK)
  clear hS hK
  obtain ⟨Av, nv, cv, hnv, hg, hR⟩ := HS.out.row
  have hg0 := blk_cell hg 0
  simp only [List.getElem?_toArray, List.getElem?_cons_zero] at hg0
  have HRR := Lib.hid hR
  clear hg hR
  go_wp2_with fail
  go_ret2
  refine ⟨.slice Av nv cv, rfl, by have := HRR.out; simp only [List.nil_append] at this; simpa only [endBytes, farBytes, List.append_assoc] using this, ?_⟩
  exact (below_alloc (pw_below_drewN (below_alloc (Below.refl w.heap.size w) _) m) _).trans (HK.out.to_below (by simp; omega) (by simp))


set_option maxHeartbeats 4000000 in
set_option maxRecDepth 100000 in
theorem put_end_far (entries size offset : Int) (w : World) (h0 : 65535 ≤ entries) (h0b : entries ≤ 4611686018427387904) (h1 : 0 ≤ size) (h1b : size < 4294967295) (h2 : 0 ≤ offset) (h2b : offset < 4294967295) :
    Calls Try.prog 7 #[.int .i64 entries, .int .i64 size, .int .i64 offset] w fun e w' => ∃ v, e = .returned (.tuple #[v, .int .i64 0]) ∧ Kd.R (Kd.int .u8) 5 w' w.heap.size (fun _ => True) v (farBytes entries size offset ++ endBytes 65535 size offset) ∧ Below w.heap.size w w' := by
  have HW := Lib.hid (show withinB 4611686018427387904 [entries, size, offset] = true from by simp [withinB]; omega)
  have hmin : (if 65535 < entries then (65535 : Int) else entries) = 65535 := by split <;> omega
  go_enter Try.func7, Try.ntmps7
  go_wp2_with fail
  refine (within_calls 4611686018427387904 (some ⟨w.heap.size, 0, none⟩) 3 [entries, size, offset] _ (C_of_blk (T := 3) (blk_new w (.cells #[.int .i64 entries, .int .i64 size, .int .i64 offset] 3)) (by simp)) (by simp) (by simp)).mono ?_
  rintro e w1 ⟨rfl, hd⟩
  rw [HW.out]
  obtain ⟨⟨m, rfl⟩⟩ := hd
  go_wp2_with fail
  have HS := Lib.hid (show WrS (((w.alloc (.cells #[.int .i64 entries, .int .i64 size, .int .i64 offset] 3)).drewN m).alloc (.cells #[.slice none 0 0] 54)) (w.heap.size + 1) w.heap.size [] from by simpa using WrS.new ((w.alloc (.cells #[.int .i64 entries, .int .i64 size, .int .i64 offset] 3)).drewN m) w.heap.size (by simp))
  have HK := Lib.hid (Kp.refl [w.heap.size + 1] (((w.alloc (.cells #[.int .i64 entries, .int .i64 size, .int .i64 offset] 3)).drewN m).alloc (.cells #[.slice none 0 0] 54)))
  refine (small_less size _ h1 h1b).mono ?_
  rintro e w2 ⟨rfl, hb2⟩
  go_wp2_with fail
  refine (small_less offset _ h2 h2b).mono ?_
  rintro e w3 ⟨rfl, hb3⟩
  have HS := Lib.hid ((HS.out.below hb2).below hb3)
  have HK := Lib.hid ((HK.out.below hb2).below hb3)
  clear hb2 hb3
  go_wp2_with fail
  refine (put_calls (w.heap.size + 1) _ w.heap.size 1 4 _ [101075792] _ (HS.out.alloc (.cells #[.int .u64 101075792] 55)) (u64s_at (vs := [101075792]) (blk_new _ (.cells #[.int .u64 101075792] 55))) (by omega) (by omega) (by simp) (by simp [putF_length]) (Nat.ne_of_gt HS.out.lt) (by have := HK.out.size; simp at this ⊢; omega)).mono ?_
  rintro e q1 ⟨rfl, hS, hK⟩
  have HS := Lib.hid hS
  have HK := Lib.hid ((HK.out.alloc (.cells #[.int .u64 101075792] 55)).trans hK)
  clear hS hK
  go_wp2_with fail
  refine (put_calls (w.heap.size + 1) _ w.heap.size 1 8 _ [44] _ (HS.out.alloc (.cells #[.int .u64 44] 55)) (u64s_at (vs := [44]) (blk_new _ (.cells #[.int .u64 44] 55))) (by omega) (by omega) (by simp) (by simp [putF_length]) (Nat.ne_of_gt HS.out.lt) (by have := HK.out.size; simp at this ⊢; omega)).mono ?_
  rintro e q2 ⟨rfl, hS, hK⟩
  have HS := Lib.hid hS
  have HK := Lib.hid ((HK.out.alloc (.cells #[.int .u64 44] 55)).trans hK)
  clear hS hK
  go_wp2_with fail
  refine (put_calls (w.heap.size + 1) _ w.heap.size 2 2 _ [45, 45] _ (HS.out.alloc (.cells #[.int .u64 45, .int .u64 45] 55)) (u64s_at (vs := [45, 45]) (blk_new _ (.cells #[.int .u64 45, .int .u64 45] 55))) (by omega) (by omega) (by simp) (by simp [putF_length]) (Nat.ne_of_gt HS.out.lt) (by have := HK.out.size; simp at this ⊢; omega)).mono ?_
  rintro e q3 ⟨rfl, hS, hK⟩
  have HS := Lib.hid hS
  have HK := Lib.hid ((HK.out.alloc (.cells #[.int .u64 45, .int .u64 45] 55)).trans hK)
  clear hS hK
  go_wp2_with fail
  refine (put_calls (w.heap.size + 1) _ w.heap.size 2 4 _ [0, 0] _ (HS.out.alloc (.cells #[.int .u64 0, .int .u64 0] 55)) (u64s_at (vs := [0, 0]) (blk_new _ (.cells #[.int .u64 0, .int .u64 0] 55))) (by omega) (by omega) (by simp) (by simp [putF_length]) (Nat.ne_of_gt HS.out.lt) (by have := HK.out.size; simp at this ⊢; omega)).mono ?_
  rintro e q4 ⟨rfl, hS, hK⟩
  have HS := Lib.hid hS
  have HK := Lib.hid ((HK.out.alloc (.cells #[.int .u64 0, .int .u64 0] 55)).trans hK)
  clear hS hK
  go_wp2_with fail
  refine (put_calls (w.heap.size + 1) _ w.heap.size 4 8 _ [entries, entries, size, offset] _ (HS.out.alloc (.cells #[.int .u64 (entries), .int .u64 (entries), .int .u64 (size), .int .u64 (offset)] 55)) (u64s_at (vs := [entries, entries, size, offset]) (blk_new _ (.cells #[.int .u64 (entries), .int .u64 (entries), .int .u64 (size), .int .u64 (offset)] 55))) (by omega) (by omega) (by simp) (by simp [putF_length]) (Nat.ne_of_gt HS.out.lt) (by have := HK.out.size; simp at this ⊢; omega)).mono ?_
  rintro e q5 ⟨rfl, hS, hK⟩
  have HS := Lib.hid hS
  have HK := Lib.hid ((HK.out.alloc (.cells #[.int .u64 (entries), .int .u64 (entries), .int .u64 (size), .int .u64 (offset)] 55)).trans hK)
  clear hS hK
  go_wp2_with fail
  refine (put_calls (w.heap.size + 1) _ w.heap.size 2 4 _ [117853008, 0] _ (HS.out.alloc (.cells #[.int .u64 117853008, .int .u64 0] 55)) (u64s_at (vs := [117853008, 0]) (blk_new _ (.cells #[.int .u64 117853008, .int .u64 0] 55))) (by omega) (by omega) (by simp) (by simp [putF_length]) (Nat.ne_of_gt HS.out.lt) (by have := HK.out.size; simp at this ⊢; omega)).mono ?_
  rintro e q6 ⟨rfl, hS, hK⟩
  have HS := Lib.hid hS
  have HK := Lib.hid ((HK.out.alloc (.cells #[.int .u64 117853008, .int .u64 0] 55)).trans hK)
  clear hS hK
  go_wp2_with fail
  refine (put_calls (w.heap.size + 1) _ w.heap.size 1 8 _ [size + offset] _ (HS.out.alloc (.cells #[.int .u64 (size + offset)] 55)) (u64s_at (vs := [size + offset]) (blk_new _ (.cells #[.int .u64 (size + offset)] 55))) (by omega) (by omega) (by simp) (by simp [putF_length]) (Nat.ne_of_gt HS.out.lt) (by have := HK.out.size; simp at this ⊢; omega)).mono ?_
  rintro e q7 ⟨rfl, hS, hK⟩
  have HS := Lib.hid hS
  have HK := Lib.hid ((HK.out.alloc (.cells #[.int .u64 (size + offset)] 55)).trans hK)
  clear hS hK
  go_wp2_with fail
  refine (put_calls (w.heap.size + 1) _ w.heap.size 1 4 _ [1] _ (HS.out.alloc (.cells #[.int .u64 1] 55)) (u64s_at (vs := [1]) (blk_new _ (.cells #[.int .u64 1] 55))) (by omega) (by omega) (by simp) (by simp [putF_length]) (Nat.ne_of_gt HS.out.lt) (by have := HK.out.size; simp at this ⊢; omega)).mono ?_
  rintro e q8 ⟨rfl, hS, hK⟩
  have HS := Lib.hid hS
  have HK := Lib.hid ((HK.out.alloc (.cells #[.int .u64 1] 55)).trans hK)
  clear hS hK
  go_wp2_with fail
  refine (put_calls (w.heap.size + 1) _ w.heap.size 1 4 _ [101010256] _ (HS.out.alloc (.cells #[.int .u64 101010256] 55)) (u64s_at (vs := [101010256]) (blk_new _ (.cells #[.int .u64 101010256] 55))) (by omega) (by omega) (by simp) (by simp [putF_length]) (Nat.ne_of_gt HS.out.lt) (by have := HK.out.size; simp at this ⊢; omega)).mono ?_
  rintro e q9 ⟨rfl, hS, hK⟩
  have HS := Lib.hid hS
  have HK := Lib.hid ((HK.out.alloc (.cells #[.int .u64 101010256] 55)).trans hK)
  clear hS hK
  go_wp2_with fail
  refine (put_calls (w.heap.size + 1) _ w.heap.size 4 2 _ [0, 0, 65535, 65535] _ (HS.out.alloc (.cells #[.int .u64 0, .int .u64 0, .int .u64 65535, .int .u64 65535] 55)) (u64s_at (vs := [0, 0, 65535, 65535]) (blk_new _ (.cells #[.int .u64 0, .int .u64 0, .int .u64 65535, .int .u64 65535] 55))) (by omega) (by omega) (by simp) (by simp [putF_length]) (Nat.ne_of_gt HS.out.lt) (by have := HK.out.size; simp at this ⊢; omega)).mono ?_
  rintro e q10 ⟨rfl, hS, hK⟩
  have HS := Lib.hid hS
  have HK := Lib.hid ((HK.out.alloc (.cells #[.int .u64 0, .int .u64 0, .int .u64 65535, .int .u64 65535] 55)).trans hK)
  clear hS hK
  go_wp2_with fail
  refine (put_calls (w.heap.size + 1) _ w.heap.size 2 4 _ [size, offset] _ (HS.out.alloc (.cells #[.int .u64 (size), .int .u64 (offset)] 55)) (u64s_at (vs := [size, offset]) (blk_new _ (.cells #[.int .u64 (size), .int .u64 (offset)] 55))) (by omega) (by omega) (by simp) (by simp [putF_length]) (Nat.ne_of_gt HS.out.lt) (by have := HK.out.size; simp at this ⊢; omega)).mono ?_
  rintro e q11 ⟨rfl, hS, hK⟩
  have HS := Lib.hid hS
  have HK := Lib.hid ((HK.out.alloc (.cells #[.int .u64 (size), .int .u64 (offset)] 55)).trans hK)
  clear hS hK
  go_wp2_with fail
  refine (put_calls (w.heap.size + 1) _ w.heap.size 1 2 _ [0] _ (HS.out.alloc (.cells #[.int .u64 0] 55)) (u64s_at (vs := [0]) (blk_new _ (.cells #[.int .u64 0] 55))) (by omega) (by omega) (by simp) (by simp [putF_length]) (Nat.ne_of_gt HS.out.lt) (by have := HK.out.size; simp at this ⊢; omega)).mono ?_
  rintro e q12 ⟨rfl, hS, hK⟩
  have HS := Lib.hid hS
  have HK := Lib.hid ((HK.out.alloc (.cells #[.int .u64 0] 55)).trans hK)
  clear hS hK
  obtain ⟨Av, nv, cv, hnv, hg, hR⟩ := HS.out.row
  have hg0 := blk_cell hg 0
  simp only [List.getElem?_toArray, List.getElem?_cons_zero] at hg0
  have HRR := Lib.hid hR
  clear hg hR
  go_wp2_with fail
  go_ret2
  refine ⟨.slice Av nv cv, rfl, by have := HRR.out; simp only [List.nil_append] at this; simpa only [endBytes, farBytes, List.append_assoc] using this, ?_⟩
  exact (below_alloc (pw_below_drewN (below_alloc (Below.refl w.heap.size w) _) m) _).trans (HK.out.to_below (by simp; omega) (by simp))


end Go.Proofs.Ytlbijehgoiknjaa.Z
