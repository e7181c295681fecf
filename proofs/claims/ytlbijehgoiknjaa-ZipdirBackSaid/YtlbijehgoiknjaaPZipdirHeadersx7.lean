-- PRINTED BY print.sh 35421559b90ae4d0a3588c463048766b98c2df88dd9212a6774a882060cdf62d: not written by this session
import Derived.Test.YtlbijehgoiknjaaPZipdirHeadersx0
import Derived.Test.YtlbijehgoiknjaaPZipdirHeadersx1
namespace Go.Proofs.Ytlbijehgoiknjaa.PZipdirHeaders
open Go.RowKit Go.Proofs.YtlbijehgoiknjaaW.PrintWords Go.Proofs.YtlbijehgoiknjaaW.PrintLast Go.Proofs.YtlbijehgoiknjaaW.PrintMore
attribute [local go_sem] max2_int min2_int max_two min_two max_three min_three max_four min_four   -- for this text's walks alone
set_option linter.unusedVariables false
set_option linter.unusedSimpArgs false

attribute [local go_sem high] eqA80
/-! ### stevedoreref27_SameMember: function 17 -/
def stevedoreref27_SameMember.l0 : Nat → Int → Int → Int → Int → Int → Int → Int → Int → Int → ByteArray → List (S80) → ByteArray → Int → Int → Int → Int → Int → Int → Int → Int → Int → Int → ByteArray → List (S80) → ByteArray → Int → Int → Option (Bool)
  | 0, _, _, _, _, _, _, _, _, _, _, _, _, _, _, _, _, _, _, _, _, _, _, _, _, _, _, _ => none
  | k + 1, x5, x311000, x311001, x311002, x311003, x311004, x311005, x311006, x311007, x311008, x311009, x311010, x311011, x311012, x312000, x312001, x312002, x312003, x312004, x312005, x312006, x312007, x312008, x312009, x312010, x312011, x312012 => if x5 < (x311009.length : Int) then (if 0 ≤ x5 then (if x5 < (x312009.length : Int) then (if (!(((rd_T80 x311009 x5).f0) == ((rd_T80 x312009 x5).f0)) || (!((((rd_T80 x311009 x5).f1).toList) == (((rd_T80 x312009 x5).f1).toList)))) = true then (some false) else (stevedoreref27_SameMember.l0 k (wrap64 (x5 + 1)) x311000 x311001 x311002 x311003 x311004 x311005 x311006 x311007 x311008 x311009 x311010 x311011 x311012 x312000 x312001 x312002 x312003 x312004 x312005 x312006 x312007 x312008 x312009 x312010 x312011 x312012)) else (none)) else (none)) else (if x311000 = x312000 then (if x311001 = x312001 then (if x311002 = x312002 then (if x311003 = x312003 then (if x311004 = x312004 then (if x311005 = x312005 then (if x311006 = x312006 then (if x311007 = x312007 then (if x311008.toList = x312008.toList then (if x311010.toList = x312010.toList then (if x311011 = x312011 then (some (x311012 == x312012)) else (some false)) else (some false)) else (some false)) else (some false)) else (some false)) else (some false)) else (some false)) else (some false)) else (some false)) else (some false)) else (some false))
def stevedoreref27_SameMember.f (k : Nat) (a0_0 : Int) (a0_1 : Int) (a0_2 : Int) (a0_3 : Int) (a0_4 : Int) (a0_5 : Int) (a0_6 : Int) (a0_7 : Int) (a0_8 : ByteArray) (l0_9 : List (S80)) (a0_10 : ByteArray) (a0_11 : Int) (a0_12 : Int) (a1_0 : Int) (a1_1 : Int) (a1_2 : Int) (a1_3 : Int) (a1_4 : Int) (a1_5 : Int) (a1_6 : Int) (a1_7 : Int) (a1_8 : ByteArray) (l1_9 : List (S80)) (a1_10 : ByteArray) (a1_11 : Int) (a1_12 : Int) : Option (Bool) := if (l0_9.length : Int) = (l1_9.length : Int) then (stevedoreref27_SameMember.l0 k 0 a0_0 a0_1 a0_2 a0_3 a0_4 a0_5 a0_6 a0_7 a0_8 l0_9 a0_10 a0_11 a0_12 a1_0 a1_1 a1_2 a1_3 a1_4 a1_5 a1_6 a1_7 a1_8 l1_9 a1_10 a1_11 a1_12) else (some false)
theorem stevedoreref27_SameMember.mono_l : ∀ k, (∀ y0 y1 y2 y3 y4 y5 y6 y7 y8 y9 y10 y11 y12 y13 y14 y15 y16 y17 y18 y19 y20 y21 y22 y23 y24 y25 y26, LeO (stevedoreref27_SameMember.l0 k y0 y1 y2 y3 y4 y5 y6 y7 y8 y9 y10 y11 y12 y13 y14 y15 y16 y17 y18 y19 y20 y21 y22 y23 y24 y25 y26) (stevedoreref27_SameMember.l0 (k + 1) y0 y1 y2 y3 y4 y5 y6 y7 y8 y9 y10 y11 y12 y13 y14 y15 y16 y17 y18 y19 y20 y21 y22 y23 y24 y25 y26))
  | 0 => fun _ _ _ _ _ _ _ _ _ _ _ _ _ _ _ _ _ _ _ _ _ _ _ _ _ _ _ r h => by simp [stevedoreref27_SameMember.l0] at h
  | k + 1 => by
    have ih0 := stevedoreref27_SameMember.mono_l k
    · intro y0 y1 y2 y3 y4 y5 y6 y7 y8 y9 y10 y11 y12 y13 y14 y15 y16 y17 y18 y19 y20 y21 y22 y23 y24 y25 y26
      unfold stevedoreref27_SameMember.l0
      repeat' first
      | (with_reducible exact ih0 _ _ _ _ _ _ _ _ _ _ _ _ _ _ _ _ _ _ _ _ _ _ _ _ _ _ _)
      | (with_reducible exact LeO.refl _)
      | (with_reducible exact LeO.none _)
      | (with_reducible refine LeO.ite ?_ ?_)
      | (with_reducible refine LeO.bind ?_ (fun _ => ?_))
      | exact ih0 _ _ _ _ _ _ _ _ _ _ _ _ _ _ _ _ _ _ _ _ _ _ _ _ _ _ _
      | exact LeO.none _
      | refine LeO.ite ?_ ?_
      | refine LeO.bind ?_ (fun _ => ?_)
theorem stevedoreref27_SameMember.mono : ∀ a0 a1 a2 a3 a4 a5 a6 a7 a8 a9 a10 a11 a12 a13 a14 a15 a16 a17 a18 a19 a20 a21 a22 a23 a24 a25 k, LeO (stevedoreref27_SameMember.f k a0 a1 a2 a3 a4 a5 a6 a7 a8 a9 a10 a11 a12 a13 a14 a15 a16 a17 a18 a19 a20 a21 a22 a23 a24 a25) (stevedoreref27_SameMember.f (k + 1) a0 a1 a2 a3 a4 a5 a6 a7 a8 a9 a10 a11 a12 a13 a14 a15 a16 a17 a18 a19 a20 a21 a22 a23 a24 a25) := by
  intro a0 a1 a2 a3 a4 a5 a6 a7 a8 a9 a10 a11 a12 a13 a14 a15 a16 a17 a18 a19 a20 a21 a22 a23 a24 a25 k
  have ih0 := stevedoreref27_SameMember.mono_l k
  unfold stevedoreref27_SameMember.f
  repeat' first
      | (with_reducible exact ih0 _ _ _ _ _ _ _ _ _ _ _ _ _ _ _ _ _ _ _ _ _ _ _ _ _ _ _)
      | (with_reducible exact LeO.refl _)
      | (with_reducible exact LeO.none _)
      | (with_reducible refine LeO.ite ?_ ?_)
      | (with_reducible refine LeO.bind ?_ (fun _ => ?_))
      | exact ih0 _ _ _ _ _ _ _ _ _ _ _ _ _ _ _ _ _ _ _ _ _ _ _ _ _ _ _
      | exact LeO.none _
      | refine LeO.ite ?_ ?_
      | refine LeO.bind ?_ (fun _ => ?_)
set_option maxHeartbeats 8000000 in
set_option maxRecDepth 100000 in
theorem stevedoreref27_SameMember.calls (k : Nat) (a0_0 : Int) (a0_1 : Int) (a0_2 : Int) (a0_3 : Int) (a0_4 : Int) (a0_5 : Int) (a0_6 : Int) (a0_7 : Int) (a0_8 : ByteArray) (A0_9 : Option Addr) (c0_9 : Nat) (l0_9 : List (S80)) (a0_10 : ByteArray) (a0_11 : Int) (a0_12 : Int) (a1_0 : Int) (a1_1 : Int) (a1_2 : Int) (a1_3 : Int) (a1_4 : Int) (a1_5 : Int) (a1_6 : Int) (a1_7 : Int) (a1_8 : ByteArray) (A1_9 : Option Addr) (c1_9 : Nat) (l1_9 : List (S80)) (a1_10 : ByteArray) (a1_11 : Int) (a1_12 : Int) (r : Bool) (w : World) (hr0_9 : Kd.C k80 w A0_9 l0_9.length l0_9) (hc0_9 : l0_9.length ≤ c0_9) (hr1_9 : Kd.C k80 w A1_9 l1_9.length l1_9) (hc1_9 : l1_9.length ≤ c1_9) (h : stevedoreref27_SameMember.f k a0_0 a0_1 a0_2 a0_3 a0_4 a0_5 a0_6 a0_7 a0_8 l0_9 a0_10 a0_11 a0_12 a1_0 a1_1 a1_2 a1_3 a1_4 a1_5 a1_6 a1_7 a1_8 l1_9 a1_10 a1_11 a1_12 = some r) :
    Calls Try.prog 17 #[.agg #[.int .i64 a0_0, .int .i64 a0_1, .int .i64 a0_2, .int .i64 a0_3, .int .i64 a0_4, .int .u32 a0_5, .int .i64 a0_6, .int .i64 a0_7, .string a0_8, .slice A0_9 l0_9.length c0_9, .string a0_10, .int .u32 a0_11, .int .i64 a0_12], .agg #[.int .i64 a1_0, .int .i64 a1_1, .int .i64 a1_2, .int .i64 a1_3, .int .i64 a1_4, .int .u32 a1_5, .int .i64 a1_6, .int .i64 a1_7, .string a1_8, .slice A1_9 l1_9.length c1_9, .string a1_10, .int .u32 a1_11, .int .i64 a1_12]] w fun e w' => e = .returned (.bool r) ∧ Below w.heap.size w w' := by
  have hu36 := Try.underlying36
  have hu80 := Try.underlying80
  have HR0_9 := Aside0.mk hr0_9
  have HC0_9 := Aside0.mk hc0_9
  clear hr0_9 hc0_9
  have HR1_9 := Aside0.mk hr1_9
  have HC1_9 := Aside0.mk hc1_9
  clear hr1_9 hc1_9
  have HB := Aside0.mk (Below.refl w.heap.size w)
  have H : (if (l0_9.length : Int) = (l1_9.length : Int) then (stevedoreref27_SameMember.l0 k 0 a0_0 a0_1 a0_2 a0_3 a0_4 a0_5 a0_6 a0_7 a0_8 l0_9 a0_10 a0_11 a0_12 a1_0 a1_1 a1_2 a1_3 a1_4 a1_5 a1_6 a1_7 a1_8 l1_9 a1_10 a1_11 a1_12) else (some false)) = some r := h
  clear h
  by_cases c3 : (l0_9.length : Int) = (l1_9.length : Int)
  · rw [if_pos c3] at H
    have c3b0 : ((l0_9.length : Int) == (l1_9.length : Int)) = true := beq_iff_eq.mpr c3
    have c3b1 : ((l0_9.length : Int) != (l1_9.length : Int)) = false := bne_eq_false_iff_eq.mpr c3
    have c3b2 : (l0_9.length == l1_9.length) = true := by first | simpa using c3 | (simp at c3 ⊢; omega)
    clear c3
    have H' := Aside0.mk H
    clear H
    go_enter Try.func17, Try.ntmps17
    go_wp2_with (first | ((with_reducible refine gate_dst (N := 2) rfl ?_); refine box_event ?hg (N := 2) ?hd (cs := #[.int .i64 a0_0, .int .i64 a0_1, .int .i64 a0_2, .int .i64 a0_3, .int .i64 a0_4, .int .u32 a0_5, .int .i64 a0_6, .int .i64 a0_7, .string a0_8, .slice A0_9 l0_9.length c0_9, .string a0_10, .int .u32 a0_11, .int .i64 a0_12]) (t := 36) ?hr ?_; (case hd => rfl); (case hg => rfl); (case hr => first | (go_simp; done) | (go_simp; rfl)); intro gb310 hg w4 hbox hb; have n0_ := Aside0.mk (below_step (by repeat (first | (with_reducible first | exact HB.out | apply below_alloc | apply pw_below_drewN | apply below_drew1) | exact HB.out)) hb); have n1_ := Aside0.mk (hbox); have n2_ := Aside0.mk ((by rw [hg]; exact (below_size (by repeat (first | (with_reducible first | exact HB.out | apply below_alloc | apply pw_below_drewN | apply below_drew1) | exact HB.out))) : w.heap.size ≤ gb310)); have n3_ := Aside0.mk ((by rw [hg]; exact (below_size (by repeat (first | (with_reducible first | exact HB.out | apply below_alloc | apply pw_below_drewN | apply below_drew1) | exact HB.out))) : w.heap.size ≤ gb310)); clear HB; have HB := n0_; have BK310 := n1_; have GW310 := n2_; have GE310 := n3_; clear n0_ n1_ n2_ n3_; clear hb hbox hg) | ((with_reducible refine gate_dst (N := 3) rfl ?_); refine box_event ?hg (N := 3) ?hd (cs := #[.int .i64 a1_0, .int .i64 a1_1, .int .i64 a1_2, .int .i64 a1_3, .int .i64 a1_4, .int .u32 a1_5, .int .i64 a1_6, .int .i64 a1_7, .string a1_8, .slice A1_9 l1_9.length c1_9, .string a1_10, .int .u32 a1_11, .int .i64 a1_12]) (t := 36) ?hr ?_; (case hd => rfl); (case hg => rfl); (case hr => first | (go_simp; done) | (go_simp; rfl)); intro gb311 hg w5 hbox hb; have n0_ := Aside0.mk (blk_below (g := gb310) (o := .cells #[.int .i64 a0_0, .int .i64 a0_1, .int .i64 a0_2, .int .i64 a0_3, .int .i64 a0_4, .int .u32 a0_5, .int .i64 a0_6, .int .i64 a0_7, .string a0_8, .slice A0_9 l0_9.length c0_9, .string a0_10, .int .u32 a0_11, .int .i64 a0_12] 36 (0, 0)) (by (with_reducible repeat (first | refine blk_drewN ?_ _ | refine blk_drew ?_ | refine blk_alloc ?_ _)); exact BK310.out) hb); have n1_ := Aside0.mk (below_step (by repeat (first | (with_reducible first | exact HB.out | apply below_alloc | apply pw_below_drewN | apply below_drew1 | refine below_set ?_ GE310.out) | exact HB.out)) hb); have n2_ := Aside0.mk (hbox); have n3_ := Aside0.mk ((by rw [hg]; exact (below_size (by repeat (first | (with_reducible first | exact HB.out | apply below_alloc | apply pw_below_drewN | apply below_drew1 | refine below_set ?_ GE310.out) | exact HB.out))) : w.heap.size ≤ gb311)); have n4_ := Aside0.mk ((by rw [hg]; exact (below_size (by repeat (first | (with_reducible first | exact HB.out | apply below_alloc | apply pw_below_drewN | apply below_drew1 | refine below_set ?_ GE310.out) | exact HB.out))) : w.heap.size ≤ gb311)); have n5_ := Aside0.mk ((by rw [hg]; exact Nat.ne_of_lt (blk_lt (g := gb310) (o := .cells #[.int .i64 a0_0, .int .i64 a0_1, .int .i64 a0_2, .int .i64 a0_3, .int .i64 a0_4, .int .u32 a0_5, .int .i64 a0_6, .int .i64 a0_7, .string a0_8, .slice A0_9 l0_9.length c0_9, .string a0_10, .int .u32 a0_11, .int .i64 a0_12] 36 (0, 0)) (by (with_reducible repeat (first | refine blk_drewN ?_ _ | refine blk_drew ?_ | refine blk_alloc ?_ _)); exact BK310.out)) : gb310 ≠ gb311)); have n6_ := Aside0.mk ((by rw [hg]; exact Nat.ne_of_gt (blk_lt (g := gb310) (o := .cells #[.int .i64 a0_0, .int .i64 a0_1, .int .i64 a0_2, .int .i64 a0_3, .int .i64 a0_4, .int .u32 a0_5, .int .i64 a0_6, .int .i64 a0_7, .string a0_8, .slice A0_9 l0_9.length c0_9, .string a0_10, .int .u32 a0_11, .int .i64 a0_12] 36 (0, 0)) (by (with_reducible repeat (first | refine blk_drewN ?_ _ | refine blk_drew ?_ | refine blk_alloc ?_ _)); exact BK310.out)) : gb311 ≠ gb310)); clear BK310; clear HB; have BK310 := n0_; have HB := n1_; have BK311 := n2_; have GW311 := n3_; have GE311 := n4_; have NB310_311 := n5_; have NB311_310 := n6_; clear n0_ n1_ n2_ n3_ n4_ n5_ n6_; clear hb hbox hg; have hnb6 := NB310_311.out; have hnc6 := NB311_310.out; have hcz7_0 : w5.cell? ⟨gb310, 0, none⟩ = some (.int .i64 a0_0) := (blk_cell BK310.out 0).trans rfl; have hcz7_1 : w5.cell? ⟨gb310, 1, none⟩ = some (.int .i64 a0_1) := (blk_cell BK310.out 1).trans rfl; have hcz7_2 : w5.cell? ⟨gb310, 2, none⟩ = some (.int .i64 a0_2) := (blk_cell BK310.out 2).trans rfl; have hcz7_3 : w5.cell? ⟨gb310, 3, none⟩ = some (.int .i64 a0_3) := (blk_cell BK310.out 3).trans rfl; have hcz7_4 : w5.cell? ⟨gb310, 4, none⟩ = some (.int .i64 a0_4) := (blk_cell BK310.out 4).trans rfl; have hcz7_5 : w5.cell? ⟨gb310, 5, none⟩ = some (.int .u32 a0_5) := (blk_cell BK310.out 5).trans rfl; have hcz7_6 : w5.cell? ⟨gb310, 6, none⟩ = some (.int .i64 a0_6) := (blk_cell BK310.out 6).trans rfl; have hcz7_7 : w5.cell? ⟨gb310, 7, none⟩ = some (.int .i64 a0_7) := (blk_cell BK310.out 7).trans rfl; have hcz7_8 : w5.cell? ⟨gb310, 8, none⟩ = some (.string a0_8) := (blk_cell BK310.out 8).trans rfl; have hcz7_9 : w5.cell? ⟨gb310, 9, none⟩ = some (.slice A0_9 l0_9.length c0_9) := (blk_cell BK310.out 9).trans rfl; have hcz7_10 : w5.cell? ⟨gb310, 10, none⟩ = some (.string a0_10) := (blk_cell BK310.out 10).trans rfl; have hcz7_11 : w5.cell? ⟨gb310, 11, none⟩ = some (.int .u32 a0_11) := (blk_cell BK310.out 11).trans rfl; have hcz7_12 : w5.cell? ⟨gb310, 12, none⟩ = some (.int .i64 a0_12) := (blk_cell BK310.out 12).trans rfl; have hfz7_0 := blk_frozen BK310.out 0; have hfz7_1 := blk_frozen BK310.out 1; have hfz7_2 := blk_frozen BK310.out 2; have hfz7_3 := blk_frozen BK310.out 3; have hfz7_4 := blk_frozen BK310.out 4; have hfz7_5 := blk_frozen BK310.out 5; have hfz7_6 := blk_frozen BK310.out 6; have hfz7_7 := blk_frozen BK310.out 7; have hfz7_8 := blk_frozen BK310.out 8; have hfz7_9 := blk_frozen BK310.out 9; have hfz7_10 := blk_frozen BK310.out 10; have hfz7_11 := blk_frozen BK310.out 11; have hfz7_12 := blk_frozen BK310.out 12; have hcz8_0 : w5.cell? ⟨gb311, 0, none⟩ = some (.int .i64 a1_0) := (blk_cell BK311.out 0).trans rfl; have hcz8_1 : w5.cell? ⟨gb311, 1, none⟩ = some (.int .i64 a1_1) := (blk_cell BK311.out 1).trans rfl; have hcz8_2 : w5.cell? ⟨gb311, 2, none⟩ = some (.int .i64 a1_2) := (blk_cell BK311.out 2).trans rfl; have hcz8_3 : w5.cell? ⟨gb311, 3, none⟩ = some (.int .i64 a1_3) := (blk_cell BK311.out 3).trans rfl; have hcz8_4 : w5.cell? ⟨gb311, 4, none⟩ = some (.int .i64 a1_4) := (blk_cell BK311.out 4).trans rfl; have hcz8_5 : w5.cell? ⟨gb311, 5, none⟩ = some (.int .u32 a1_5) := (blk_cell BK311.out 5).trans rfl; have hcz8_6 : w5.cell? ⟨gb311, 6, none⟩ = some (.int .i64 a1_6) := (blk_cell BK311.out 6).trans rfl; have hcz8_7 : w5.cell? ⟨gb311, 7, none⟩ = some (.int .i64 a1_7) := (blk_cell BK311.out 7).trans rfl; have hcz8_8 : w5.cell? ⟨gb311, 8, none⟩ = some (.string a1_8) := (blk_cell BK311.out 8).trans rfl; have hcz8_9 : w5.cell? ⟨gb311, 9, none⟩ = some (.slice A1_9 l1_9.length c1_9) := (blk_cell BK311.out 9).trans rfl; have hcz8_10 : w5.cell? ⟨gb311, 10, none⟩ = some (.string a1_10) := (blk_cell BK311.out 10).trans rfl; have hcz8_11 : w5.cell? ⟨gb311, 11, none⟩ = some (.int .u32 a1_11) := (blk_cell BK311.out 11).trans rfl; have hcz8_12 : w5.cell? ⟨gb311, 12, none⟩ = some (.int .i64 a1_12) := (blk_cell BK311.out 12).trans rfl; have hfz8_0 := blk_frozen BK311.out 0; have hfz8_1 := blk_frozen BK311.out 1; have hfz8_2 := blk_frozen BK311.out 2; have hfz8_3 := blk_frozen BK311.out 3; have hfz8_4 := blk_frozen BK311.out 4; have hfz8_5 := blk_frozen BK311.out 5; have hfz8_6 := blk_frozen BK311.out 6; have hfz8_7 := blk_frozen BK311.out 7; have hfz8_8 := blk_frozen BK311.out 8; have hfz8_9 := blk_frozen BK311.out 9; have hfz8_10 := blk_frozen BK311.out 10; have hfz8_11 := blk_frozen BK311.out 11; have hfz8_12 := blk_frozen BK311.out 12))
    repeat (go_quiet (first | ((with_reducible refine gate_dst (N := 2) rfl ?_); refine box_event ?hg (N := 2) ?hd (cs := #[.int .i64 a0_0, .int .i64 a0_1, .int .i64 a0_2, .int .i64 a0_3, .int .i64 a0_4, .int .u32 a0_5, .int .i64 a0_6, .int .i64 a0_7, .string a0_8, .slice A0_9 l0_9.length c0_9, .string a0_10, .int .u32 a0_11, .int .i64 a0_12]) (t := 36) ?hr ?_; (case hd => rfl); (case hg => rfl); (case hr => first | (go_simp; done) | (go_simp; rfl)); intro gb310 hg w4 hbox hb; have n0_ := Aside0.mk (below_step (by repeat (first | (with_reducible first | exact HB.out | apply below_alloc | apply pw_below_drewN | apply below_drew1) | exact HB.out)) hb); have n1_ := Aside0.mk (hbox); have n2_ := Aside0.mk ((by rw [hg]; exact (below_size (by repeat (first | (with_reducible first | exact HB.out | apply below_alloc | apply pw_below_drewN | apply below_drew1) | exact HB.out))) : w.heap.size ≤ gb310)); have n3_ := Aside0.mk ((by rw [hg]; exact (below_size (by repeat (first | (with_reducible first | exact HB.out | apply below_alloc | apply pw_below_drewN | apply below_drew1) | exact HB.out))) : w.heap.size ≤ gb310)); clear HB; have HB := n0_; have BK310 := n1_; have GW310 := n2_; have GE310 := n3_; clear n0_ n1_ n2_ n3_; clear hb hbox hg) | ((with_reducible refine gate_dst (N := 3) rfl ?_); refine box_event ?hg (N := 3) ?hd (cs := #[.int .i64 a1_0, .int .i64 a1_1, .int .i64 a1_2, .int .i64 a1_3, .int .i64 a1_4, .int .u32 a1_5, .int .i64 a1_6, .int .i64 a1_7, .string a1_8, .slice A1_9 l1_9.length c1_9, .string a1_10, .int .u32 a1_11, .int .i64 a1_12]) (t := 36) ?hr ?_; (case hd => rfl); (case hg => rfl); (case hr => first | (go_simp; done) | (go_simp; rfl)); intro gb311 hg w5 hbox hb; have n0_ := Aside0.mk (blk_below (g := gb310) (o := .cells #[.int .i64 a0_0, .int .i64 a0_1, .int .i64 a0_2, .int .i64 a0_3, .int .i64 a0_4, .int .u32 a0_5, .int .i64 a0_6, .int .i64 a0_7, .string a0_8, .slice A0_9 l0_9.length c0_9, .string a0_10, .int .u32 a0_11, .int .i64 a0_12] 36 (0, 0)) (by (with_reducible repeat (first | refine blk_drewN ?_ _ | refine blk_drew ?_ | refine blk_alloc ?_ _)); exact BK310.out) hb); have n1_ := Aside0.mk (below_step (by repeat (first | (with_reducible first | exact HB.out | apply below_alloc | apply pw_below_drewN | apply below_drew1 | refine below_set ?_ GE310.out) | exact HB.out)) hb); have n2_ := Aside0.mk (hbox); have n3_ := Aside0.mk ((by rw [hg]; exact (below_size (by repeat (first | (with_reducible first | exact HB.out | apply below_alloc | apply pw_below_drewN | apply below_drew1 | refine below_set ?_ GE310.out) | exact HB.out))) : w.heap.size ≤ gb311)); have n4_ := Aside0.mk ((by rw [hg]; exact (below_size (by repeat (first | (with_reducible first | exact HB.out | apply below_alloc | apply pw_below_drewN | apply below_drew1 | refine below_set ?_ GE310.out) | exact HB.out))) : w.heap.size ≤ gb311)); have n5_ := Aside0.mk ((by rw [hg]; exact Nat.ne_of_lt (blk_lt (g := gb310) (o := .cells #[.int .i64 a0_0, .int .i64 a0_1, .int .i64 a0_2, .int .i64 a0_3, .int .i64 a0_4, .int .u32 a0_5, .int .i64 a0_6, .int .i64 a0_7, .string a0_8, .slice A0_9 l0_9.length c0_9, .string a0_10, .int .u32 a0_11, .int .i64 a0_12] 36 (0, 0)) (by (with_reducible repeat (first | refine blk_drewN ?_ _ | refine blk_drew ?_ | refine blk_alloc ?_ _)); exact BK310.out)) : gb310 ≠ gb311)); have n6_ := Aside0.mk ((by rw [hg]; exact Nat.ne_of_gt (blk_lt (g := gb310) (o := .cells #[.int .i64 a0_0, .int .i64 a0_1, .int .i64 a0_2, .int .i64 a0_3, .int .i64 a0_4, .int .u32 a0_5, .int .i64 a0_6, .int .i64 a0_7, .string a0_8, .slice A0_9 l0_9.length c0_9, .string a0_10, .int .u32 a0_11, .int .i64 a0_12] 36 (0, 0)) (by (with_reducible repeat (first | refine blk_drewN ?_ _ | refine blk_drew ?_ | refine blk_alloc ?_ _)); exact BK310.out)) : gb311 ≠ gb310)); clear BK310; clear HB; have BK310 := n0_; have HB := n1_; have BK311 := n2_; have GW311 := n3_; have GE311 := n4_; have NB310_311 := n5_; have NB311_310 := n6_; clear n0_ n1_ n2_ n3_ n4_ n5_ n6_; clear hb hbox hg; have hnb6 := NB310_311.out; have hnc6 := NB311_310.out; have hcz7_0 : w5.cell? ⟨gb310, 0, none⟩ = some (.int .i64 a0_0) := (blk_cell BK310.out 0).trans rfl; have hcz7_1 : w5.cell? ⟨gb310, 1, none⟩ = some (.int .i64 a0_1) := (blk_cell BK310.out 1).trans rfl; have hcz7_2 : w5.cell? ⟨gb310, 2, none⟩ = some (.int .i64 a0_2) := (blk_cell BK310.out 2).trans rfl; have hcz7_3 : w5.cell? ⟨gb310, 3, none⟩ = some (.int .i64 a0_3) := (blk_cell BK310.out 3).trans rfl; have hcz7_4 : w5.cell? ⟨gb310, 4, none⟩ = some (.int .i64 a0_4) := (blk_cell BK310.out 4).trans rfl; have hcz7_5 : w5.cell? ⟨gb310, 5, none⟩ = some (.int .u32 a0_5) := (blk_cell BK310.out 5).trans rfl; have hcz7_6 : w5.cell? ⟨gb310, 6, none⟩ = some (.int .i64 a0_6) := (blk_cell BK310.out 6).trans rfl; have hcz7_7 : w5.cell? ⟨gb310, 7, none⟩ = some (.int .i64 a0_7) := (blk_cell BK310.out 7).trans rfl; have hcz7_8 : w5.cell? ⟨gb310, 8, none⟩ = some (.string a0_8) := (blk_cell BK310.out 8).trans rfl; have hcz7_9 : w5.cell? ⟨gb310, 9, none⟩ = some (.slice A0_9 l0_9.length c0_9) := (blk_cell BK310.out 9).trans rfl; have hcz7_10 : w5.cell? ⟨gb310, 10, none⟩ = some (.string a0_10) := (blk_cell BK310.out 10).trans rfl; have hcz7_11 : w5.cell? ⟨gb310, 11, none⟩ = some (.int .u32 a0_11) := (blk_cell BK310.out 11).trans rfl; have hcz7_12 : w5.cell? ⟨gb310, 12, none⟩ = some (.int .i64 a0_12) := (blk_cell BK310.out 12).trans rfl; have hfz7_0 := blk_frozen BK310.out 0; have hfz7_1 := blk_frozen BK310.out 1; have hfz7_2 := blk_frozen BK310.out 2; have hfz7_3 := blk_frozen BK310.out 3; have hfz7_4 := blk_frozen BK310.out 4; have hfz7_5 := blk_frozen BK310.out 5; have hfz7_6 := blk_frozen BK310.out 6; have hfz7_7 := blk_frozen BK310.out 7; have hfz7_8 := blk_frozen BK310.out 8; have hfz7_9 := blk_frozen BK310.out 9; have hfz7_10 := blk_frozen BK310.out 10; have hfz7_11 := blk_frozen BK310.out 11; have hfz7_12 := blk_frozen BK310.out 12; have hcz8_0 : w5.cell? ⟨gb311, 0, none⟩ = some (.int .i64 a1_0) := (blk_cell BK311.out 0).trans rfl; have hcz8_1 : w5.cell? ⟨gb311, 1, none⟩ = some (.int .i64 a1_1) := (blk_cell BK311.out 1).trans rfl; have hcz8_2 : w5.cell? ⟨gb311, 2, none⟩ = some (.int .i64 a1_2) := (blk_cell BK311.out 2).trans rfl; have hcz8_3 : w5.cell? ⟨gb311, 3, none⟩ = some (.int .i64 a1_3) := (blk_cell BK311.out 3).trans rfl; have hcz8_4 : w5.cell? ⟨gb311, 4, none⟩ = some (.int .i64 a1_4) := (blk_cell BK311.out 4).trans rfl; have hcz8_5 : w5.cell? ⟨gb311, 5, none⟩ = some (.int .u32 a1_5) := (blk_cell BK311.out 5).trans rfl; have hcz8_6 : w5.cell? ⟨gb311, 6, none⟩ = some (.int .i64 a1_6) := (blk_cell BK311.out 6).trans rfl; have hcz8_7 : w5.cell? ⟨gb311, 7, none⟩ = some (.int .i64 a1_7) := (blk_cell BK311.out 7).trans rfl; have hcz8_8 : w5.cell? ⟨gb311, 8, none⟩ = some (.string a1_8) := (blk_cell BK311.out 8).trans rfl; have hcz8_9 : w5.cell? ⟨gb311, 9, none⟩ = some (.slice A1_9 l1_9.length c1_9) := (blk_cell BK311.out 9).trans rfl; have hcz8_10 : w5.cell? ⟨gb311, 10, none⟩ = some (.string a1_10) := (blk_cell BK311.out 10).trans rfl; have hcz8_11 : w5.cell? ⟨gb311, 11, none⟩ = some (.int .u32 a1_11) := (blk_cell BK311.out 11).trans rfl; have hcz8_12 : w5.cell? ⟨gb311, 12, none⟩ = some (.int .i64 a1_12) := (blk_cell BK311.out 12).trans rfl; have hfz8_0 := blk_frozen BK311.out 0; have hfz8_1 := blk_frozen BK311.out 1; have hfz8_2 := blk_frozen BK311.out 2; have hfz8_3 := blk_frozen BK311.out 3; have hfz8_4 := blk_frozen BK311.out 4; have hfz8_5 := blk_frozen BK311.out 5; have hfz8_6 := blk_frozen BK311.out 6; have hfz8_7 := blk_frozen BK311.out 7; have hfz8_8 := blk_frozen BK311.out 8; have hfz8_9 := blk_frozen BK311.out 9; have hfz8_10 := blk_frozen BK311.out 10; have hfz8_11 := blk_frozen BK311.out 11; have hfz8_12 := blk_frozen BK311.out 12)); try go_wp2_with (first | ((with_reducible refine gate_dst (N := 2) rfl ?_); refine box_event ?hg (N := 2) ?hd (cs := #[.int .i64 a0_0, .int .i64 a0_1, .int .i64 a0_2, .int .i64 a0_3, .int .i64 a0_4, .int .u32 a0_5, .int .i64 a0_6, .int .i64 a0_7, .string a0_8, .slice A0_9 l0_9.length c0_9, .string a0_10, .int .u32 a0_11, .int .i64 a0_12]) (t := 36) ?hr ?_; (case hd => rfl); (case hg => rfl); (case hr => first | (go_simp; done) | (go_simp; rfl)); intro gb310 hg w4 hbox hb; have n0_ := Aside0.mk (below_step (by repeat (first | (with_reducible first | exact HB.out | apply below_alloc | apply pw_below_drewN | apply below_drew1) | exact HB.out)) hb); have n1_ := Aside0.mk (hbox); have n2_ := Aside0.mk ((by rw [hg]; exact (below_size (by repeat (first | (with_reducible first | exact HB.out | apply below_alloc | apply pw_below_drewN | apply below_drew1) | exact HB.out))) : w.heap.size ≤ gb310)); have n3_ := Aside0.mk ((by rw [hg]; exact (below_size (by repeat (first | (with_reducible first | exact HB.out | apply below_alloc | apply pw_below_drewN | apply below_drew1) | exact HB.out))) : w.heap.size ≤ gb310)); clear HB; have HB := n0_; have BK310 := n1_; have GW310 := n2_; have GE310 := n3_; clear n0_ n1_ n2_ n3_; clear hb hbox hg) | ((with_reducible refine gate_dst (N := 3) rfl ?_); refine box_event ?hg (N := 3) ?hd (cs := #[.int .i64 a1_0, .int .i64 a1_1, .int .i64 a1_2, .int .i64 a1_3, .int .i64 a1_4, .int .u32 a1_5, .int .i64 a1_6, .int .i64 a1_7, .string a1_8, .slice A1_9 l1_9.length c1_9, .string a1_10, .int .u32 a1_11, .int .i64 a1_12]) (t := 36) ?hr ?_; (case hd => rfl); (case hg => rfl); (case hr => first | (go_simp; done) | (go_simp; rfl)); intro gb311 hg w5 hbox hb; have n0_ := Aside0.mk (blk_below (g := gb310) (o := .cells #[.int .i64 a0_0, .int .i64 a0_1, .int .i64 a0_2, .int .i64 a0_3, .int .i64 a0_4, .int .u32 a0_5, .int .i64 a0_6, .int .i64 a0_7, .string a0_8, .slice A0_9 l0_9.length c0_9, .string a0_10, .int .u32 a0_11, .int .i64 a0_12] 36 (0, 0)) (by (with_reducible repeat (first | refine blk_drewN ?_ _ | refine blk_drew ?_ | refine blk_alloc ?_ _)); exact BK310.out) hb); have n1_ := Aside0.mk (below_step (by repeat (first | (with_reducible first | exact HB.out | apply below_alloc | apply pw_below_drewN | apply below_drew1 | refine below_set ?_ GE310.out) | exact HB.out)) hb); have n2_ := Aside0.mk (hbox); have n3_ := Aside0.mk ((by rw [hg]; exact (below_size (by repeat (first | (with_reducible first | exact HB.out | apply below_alloc | apply pw_below_drewN | apply below_drew1 | refine below_set ?_ GE310.out) | exact HB.out))) : w.heap.size ≤ gb311)); have n4_ := Aside0.mk ((by rw [hg]; exact (below_size (by repeat (first | (with_reducible first | exact HB.out | apply below_alloc | apply pw_below_drewN | apply below_drew1 | refine below_set ?_ GE310.out) | exact HB.out))) : w.heap.size ≤ gb311)); have n5_ := Aside0.mk ((by rw [hg]; exact Nat.ne_of_lt (blk_lt (g := gb310) (o := .cells #[.int .i64 a0_0, .int .i64 a0_1, .int .i64 a0_2, .int .i64 a0_3, .int .i64 a0_4, .int .u32 a0_5, .int .i64 a0_6, .int .i64 a0_7, .string a0_8, .slice A0_9 l0_9.length c0_9, .string a0_10, .int .u32 a0_11, .int .i64 a0_12] 36 (0, 0)) (by (with_reducible repeat (first | refine blk_drewN ?_ _ | refine blk_drew ?_ | refine blk_alloc ?_ _)); exact BK310.out)) : gb310 ≠ gb311)); have n6_ := Aside0.mk ((by rw [hg]; exact Nat.ne_of_gt (blk_lt (g := gb310) (o := .cells #[.int .i64 a0_0, .int .i64 a0_1, .int .i64 a0_2, .int .i64 a0_3, .int .i64 a0_4, .int .u32 a0_5, .int .i64 a0_6, .int .i64 a0_7, .string a0_8, .slice A0_9 l0_9.length c0_9, .string a0_10, .int .u32 a0_11, .int .i64 a0_12] 36 (0, 0)) (by (with_reducible repeat (first | refine blk_drewN ?_ _ | refine blk_drew ?_ | refine blk_alloc ?_ _)); exact BK310.out)) : gb311 ≠ gb310)); clear BK310; clear HB; have BK310 := n0_; have HB := n1_; have BK311 := n2_; have GW311 := n3_; have GE311 := n4_; have NB310_311 := n5_; have NB311_310 := n6_; clear n0_ n1_ n2_ n3_ n4_ n5_ n6_; clear hb hbox hg; have hnb6 := NB310_311.out; have hnc6 := NB311_310.out; have hcz7_0 : w5.cell? ⟨gb310, 0, none⟩ = some (.int .i64 a0_0) := (blk_cell BK310.out 0).trans rfl; have hcz7_1 : w5.cell? ⟨gb310, 1, none⟩ = some (.int .i64 a0_1) := (blk_cell BK310.out 1).trans rfl; have hcz7_2 : w5.cell? ⟨gb310, 2, none⟩ = some (.int .i64 a0_2) := (blk_cell BK310.out 2).trans rfl; have hcz7_3 : w5.cell? ⟨gb310, 3, none⟩ = some (.int .i64 a0_3) := (blk_cell BK310.out 3).trans rfl; have hcz7_4 : w5.cell? ⟨gb310, 4, none⟩ = some (.int .i64 a0_4) := (blk_cell BK310.out 4).trans rfl; have hcz7_5 : w5.cell? ⟨gb310, 5, none⟩ = some (.int .u32 a0_5) := (blk_cell BK310.out 5).trans rfl; have hcz7_6 : w5.cell? ⟨gb310, 6, none⟩ = some (.int .i64 a0_6) := (blk_cell BK310.out 6).trans rfl; have hcz7_7 : w5.cell? ⟨gb310, 7, none⟩ = some (.int .i64 a0_7) := (blk_cell BK310.out 7).trans rfl; have hcz7_8 : w5.cell? ⟨gb310, 8, none⟩ = some (.string a0_8) := (blk_cell BK310.out 8).trans rfl; have hcz7_9 : w5.cell? ⟨gb310, 9, none⟩ = some (.slice A0_9 l0_9.length c0_9) := (blk_cell BK310.out 9).trans rfl; have hcz7_10 : w5.cell? ⟨gb310, 10, none⟩ = some (.string a0_10) := (blk_cell BK310.out 10).trans rfl; have hcz7_11 : w5.cell? ⟨gb310, 11, none⟩ = some (.int .u32 a0_11) := (blk_cell BK310.out 11).trans rfl; have hcz7_12 : w5.cell? ⟨gb310, 12, none⟩ = some (.int .i64 a0_12) := (blk_cell BK310.out 12).trans rfl; have hfz7_0 := blk_frozen BK310.out 0; have hfz7_1 := blk_frozen BK310.out 1; have hfz7_2 := blk_frozen BK310.out 2; have hfz7_3 := blk_frozen BK310.out 3; have hfz7_4 := blk_frozen BK310.out 4; have hfz7_5 := blk_frozen BK310.out 5; have hfz7_6 := blk_frozen BK310.out 6; have hfz7_7 := blk_frozen BK310.out 7; have hfz7_8 := blk_frozen BK310.out 8; have hfz7_9 := blk_frozen BK310.out 9; have hfz7_10 := blk_frozen BK310.out 10; have hfz7_11 := blk_frozen BK310.out 11; have hfz7_12 := blk_frozen BK310.out 12; have hcz8_0 : w5.cell? ⟨gb311, 0, none⟩ = some (.int .i64 a1_0) := (blk_cell BK311.out 0).trans rfl; have hcz8_1 : w5.cell? ⟨gb311, 1, none⟩ = some (.int .i64 a1_1) := (blk_cell BK311.out 1).trans rfl; have hcz8_2 : w5.cell? ⟨gb311, 2, none⟩ = some (.int .i64 a1_2) := (blk_cell BK311.out 2).trans rfl; have hcz8_3 : w5.cell? ⟨gb311, 3, none⟩ = some (.int .i64 a1_3) := (blk_cell BK311.out 3).trans rfl; have hcz8_4 : w5.cell? ⟨gb311, 4, none⟩ = some (.int .i64 a1_4) := (blk_cell BK311.out 4).trans rfl; have hcz8_5 : w5.cell? ⟨gb311, 5, none⟩ = some (.int .u32 a1_5) := (blk_cell BK311.out 5).trans rfl; have hcz8_6 : w5.cell? ⟨gb311, 6, none⟩ = some (.int .i64 a1_6) := (blk_cell BK311.out 6).trans rfl; have hcz8_7 : w5.cell? ⟨gb311, 7, none⟩ = some (.int .i64 a1_7) := (blk_cell BK311.out 7).trans rfl; have hcz8_8 : w5.cell? ⟨gb311, 8, none⟩ = some (.string a1_8) := (blk_cell BK311.out 8).trans rfl; have hcz8_9 : w5.cell? ⟨gb311, 9, none⟩ = some (.slice A1_9 l1_9.length c1_9) := (blk_cell BK311.out 9).trans rfl; have hcz8_10 : w5.cell? ⟨gb311, 10, none⟩ = some (.string a1_10) := (blk_cell BK311.out 10).trans rfl; have hcz8_11 : w5.cell? ⟨gb311, 11, none⟩ = some (.int .u32 a1_11) := (blk_cell BK311.out 11).trans rfl; have hcz8_12 : w5.cell? ⟨gb311, 12, none⟩ = some (.int .i64 a1_12) := (blk_cell BK311.out 12).trans rfl; have hfz8_0 := blk_frozen BK311.out 0; have hfz8_1 := blk_frozen BK311.out 1; have hfz8_2 := blk_frozen BK311.out 2; have hfz8_3 := blk_frozen BK311.out 3; have hfz8_4 := blk_frozen BK311.out 4; have hfz8_5 := blk_frozen BK311.out 5; have hfz8_6 := blk_frozen BK311.out 6; have hfz8_7 := blk_frozen BK311.out 7; have hfz8_8 := blk_frozen BK311.out 8; have hfz8_9 := blk_frozen BK311.out 9; have hfz8_10 := blk_frozen BK311.out 10; have hfz8_11 := blk_frozen BK311.out 11; have hfz8_12 := blk_frozen BK311.out 12)))
    go_loopg [5] k (fun kq v5 w' => ∃ (x5_1 : Int), v5 = .int .i64 x5_1 ∧ Aside0 (stevedoreref27_SameMember.l0 kq x5_1 a0_0 a0_1 a0_2 a0_3 a0_4 a0_5 a0_6 a0_7 a0_8 l0_9 a0_10 a0_11 a0_12 a1_0 a1_1 a1_2 a1_3 a1_4 a1_5 a1_6 a1_7 a1_8 l1_9 a1_10 a1_11 a1_12 = some r) ∧ Aside0 (kq ≤ k) ∧ Aside0 (w'.heap[gb310]? = some (.cells #[.int .i64 a0_0, .int .i64 a0_1, .int .i64 a0_2, .int .i64 a0_3, .int .i64 a0_4, .int .u32 a0_5, .int .i64 a0_6, .int .i64 a0_7, .string a0_8, (.slice A0_9 l0_9.length c0_9), .string a0_10, .int .u32 a0_11, .int .i64 a0_12] 36 (0, 0))) ∧ Aside0 (w'.heap[gb311]? = some (.cells #[.int .i64 a1_0, .int .i64 a1_1, .int .i64 a1_2, .int .i64 a1_3, .int .i64 a1_4, .int .u32 a1_5, .int .i64 a1_6, .int .i64 a1_7, .string a1_8, (.slice A1_9 l1_9.length c1_9), .string a1_10, .int .u32 a1_11, .int .i64 a1_12] 36 (0, 0))) ∧ Aside0 (Below w.heap.size w w'))
    case atStart => exact ⟨(0), (by first | rfl | (simp; done) | (simp [*]; done)), H', ⟨Nat.le_refl _⟩, ⟨by (with_reducible repeat (first | refine blk_drewN ?_ _ | refine blk_drew ?_ | refine blk_alloc ?_ _)); exact BK310.out⟩, ⟨by (with_reducible repeat (first | refine blk_drewN ?_ _ | refine blk_drew ?_ | refine blk_alloc ?_ _)); exact BK311.out⟩, ⟨by repeat (first | (with_reducible first | exact HB.out | apply below_alloc | apply pw_below_drewN | apply below_drew1 | refine below_set ?_ GE310.out | refine below_set ?_ GE311.out) | exact HB.out)⟩⟩
    case round =>
      clear H'
      try clear c1
      try clear p2
      try clear c3
      try clear c3b0
      try clear c3b1
      try clear c3b2
      try clear c6
      try clear hcz7_0
      try clear hcz7_1
      try clear hcz7_10
      try clear hcz7_11
      try clear hcz7_12
      try clear hcz7_2
      try clear hcz7_3
      try clear hcz7_4
      try clear hcz7_5
      try clear hcz7_6
      try clear hcz7_7
      try clear hcz7_8
      try clear hcz7_9
      try clear hcz8_0
      try clear hcz8_1
      try clear hcz8_10
      try clear hcz8_11
      try clear hcz8_12
      try clear hcz8_2
      try clear hcz8_3
      try clear hcz8_4
      try clear hcz8_5
      try clear hcz8_6
      try clear hcz8_7
      try clear hcz8_8
      try clear hcz8_9
      try clear hfz7_0
      try clear hfz7_1
      try clear hfz7_10
      try clear hfz7_11
      try clear hfz7_12
      try clear hfz7_2
      try clear hfz7_3
      try clear hfz7_4
      try clear hfz7_5
      try clear hfz7_6
      try clear hfz7_7
      try clear hfz7_8
      try clear hfz7_9
      try clear hfz8_0
      try clear hfz8_1
      try clear hfz8_10
      try clear hfz8_11
      try clear hfz8_12
      try clear hfz8_2
      try clear hfz8_3
      try clear hfz8_4
      try clear hfz8_5
      try clear hfz8_6
      try clear hfz8_7
      try clear hfz8_8
      try clear hfz8_9
      obtain ⟨x5_1, rfl, HA, HK1, BK310, BK311, HB⟩ := hrel
      cases gk with
      | zero => exact absurd HA.out (by simp [stevedoreref27_SameMember.l0])
      | succ k1 =>
        have H := HA.out
        clear HA
        simp only [stevedoreref27_SameMember.l0] at H
        by_cases c9 : x5_1 < (l0_9.length : Int)
        · rw [if_pos c9] at H
          have c9b0 : decide (x5_1 < (l0_9.length : Int)) = true := decide_eq_true c9
          clear c9
          by_cases c10 : 0 ≤ x5_1
          · rw [if_pos c10] at H
            have c10b0 : decide (0 ≤ x5_1) = true := decide_eq_true c10
            clear c10
            by_cases c11 : x5_1 < (l1_9.length : Int)
            · rw [if_pos c11] at H
              have c11b0 : decide (x5_1 < (l1_9.length : Int)) = true := decide_eq_true c11
              clear c11
              by_cases c12 : (!(((rd_T80 l0_9 x5_1).f0) == ((rd_T80 l1_9 x5_1).f0)) || (!((((rd_T80 l0_9 x5_1).f1).toList) == (((rd_T80 l1_9 x5_1).f1).toList)))) = true
              · rw [if_pos c12] at H
                have c12b0 : (!(((rd_T80 l0_9 x5_1).f0) == ((rd_T80 l1_9 x5_1).f0)) || (!((((rd_T80 l0_9 x5_1).f1).toList) == (((rd_T80 l1_9 x5_1).f1).toList)))) = true := c12
                clear c12
                obtain rfl := Option.some.inj H
                have hnb13 := NB310_311.out
                have hnc13 := NB311_310.out
                have hcz14_0 : wr.cell? ⟨gb310, 0, none⟩ = some (.int .i64 a0_0) := (blk_cell BK310.out 0).trans rfl
                have hcz14_1 : wr.cell? ⟨gb310, 1, none⟩ = some (.int .i64 a0_1) := (blk_cell BK310.out 1).trans rfl
                have hcz14_2 : wr.cell? ⟨gb310, 2, none⟩ = some (.int .i64 a0_2) := (blk_cell BK310.out 2).trans rfl
                have hcz14_3 : wr.cell? ⟨gb310, 3, none⟩ = some (.int .i64 a0_3) := (blk_cell BK310.out 3).trans rfl
                have hcz14_4 : wr.cell? ⟨gb310, 4, none⟩ = some (.int .i64 a0_4) := (blk_cell BK310.out 4).trans rfl
                have hcz14_5 : wr.cell? ⟨gb310, 5, none⟩ = some (.int .u32 a0_5) := (blk_cell BK310.out 5).trans rfl
                have hcz14_6 : wr.cell? ⟨gb310, 6, none⟩ = some (.int .i64 a0_6) := (blk_cell BK310.out 6).trans rfl
                have hcz14_7 : wr.cell? ⟨gb310, 7, none⟩ = some (.int .i64 a0_7) := (blk_cell BK310.out 7).trans rfl
                have hcz14_8 : wr.cell? ⟨gb310, 8, none⟩ = some (.string a0_8) := (blk_cell BK310.out 8).trans rfl
                have hcz14_9 : wr.cell? ⟨gb310, 9, none⟩ = some (.slice A0_9 l0_9.length c0_9) := (blk_cell BK310.out 9).trans rfl
                have hcz14_10 : wr.cell? ⟨gb310, 10, none⟩ = some (.string a0_10) := (blk_cell BK310.out 10).trans rfl
                have hcz14_11 : wr.cell? ⟨gb310, 11, none⟩ = some (.int .u32 a0_11) := (blk_cell BK310.out 11).trans rfl
                have hcz14_12 : wr.cell? ⟨gb310, 12, none⟩ = some (.int .i64 a0_12) := (blk_cell BK310.out 12).trans rfl
                have hfz14_0 := blk_frozen BK310.out 0
                have hfz14_1 := blk_frozen BK310.out 1
                have hfz14_2 := blk_frozen BK310.out 2
                have hfz14_3 := blk_frozen BK310.out 3
                have hfz14_4 := blk_frozen BK310.out 4
                have hfz14_5 := blk_frozen BK310.out 5
                have hfz14_6 := blk_frozen BK310.out 6
                have hfz14_7 := blk_frozen BK310.out 7
                have hfz14_8 := blk_frozen BK310.out 8
                have hfz14_9 := blk_frozen BK310.out 9
                have hfz14_10 := blk_frozen BK310.out 10
                have hfz14_11 := blk_frozen BK310.out 11
                have hfz14_12 := blk_frozen BK310.out 12
                have p312 : 0 ≤ (x5_1 : Int) := of_decide_eq_true (by first | (with_reducible assumption) | assumption)
                have q312 : x5_1 < (l0_9.length : Int) := of_decide_eq_true (by first | (with_reducible assumption) | assumption)
                obtain ⟨ad312, e312, hx312_0, hx312_1⟩ := at_T80 HR0_9.out x5_1 p312 q312
                cases e312
                replace hx312_0 := (HB.out.cell (World.block_lt_of_cell? w _ hx312_0)).trans hx312_0
                replace hx312_1 := (HB.out.cell (World.block_lt_of_cell? w _ hx312_1)).trans hx312_1
                replace p312 := eq_true p312
                replace q312 := eq_true q312
                have hcz15_0 : wr.cell? ⟨gb311, 0, none⟩ = some (.int .i64 a1_0) := (blk_cell BK311.out 0).trans rfl
                have hcz15_1 : wr.cell? ⟨gb311, 1, none⟩ = some (.int .i64 a1_1) := (blk_cell BK311.out 1).trans rfl
                have hcz15_2 : wr.cell? ⟨gb311, 2, none⟩ = some (.int .i64 a1_2) := (blk_cell BK311.out 2).trans rfl
                have hcz15_3 : wr.cell? ⟨gb311, 3, none⟩ = some (.int .i64 a1_3) := (blk_cell BK311.out 3).trans rfl
                have hcz15_4 : wr.cell? ⟨gb311, 4, none⟩ = some (.int .i64 a1_4) := (blk_cell BK311.out 4).trans rfl
                have hcz15_5 : wr.cell? ⟨gb311, 5, none⟩ = some (.int .u32 a1_5) := (blk_cell BK311.out 5).trans rfl
                have hcz15_6 : wr.cell? ⟨gb311, 6, none⟩ = some (.int .i64 a1_6) := (blk_cell BK311.out 6).trans rfl
                have hcz15_7 : wr.cell? ⟨gb311, 7, none⟩ = some (.int .i64 a1_7) := (blk_cell BK311.out 7).trans rfl
                have hcz15_8 : wr.cell? ⟨gb311, 8, none⟩ = some (.string a1_8) := (blk_cell BK311.out 8).trans rfl
                have hcz15_9 : wr.cell? ⟨gb311, 9, none⟩ = some (.slice A1_9 l1_9.length c1_9) := (blk_cell BK311.out 9).trans rfl
                have hcz15_10 : wr.cell? ⟨gb311, 10, none⟩ = some (.string a1_10) := (blk_cell BK311.out 10).trans rfl
                have hcz15_11 : wr.cell? ⟨gb311, 11, none⟩ = some (.int .u32 a1_11) := (blk_cell BK311.out 11).trans rfl
                have hcz15_12 : wr.cell? ⟨gb311, 12, none⟩ = some (.int .i64 a1_12) := (blk_cell BK311.out 12).trans rfl
                have hfz15_0 := blk_frozen BK311.out 0
                have hfz15_1 := blk_frozen BK311.out 1
                have hfz15_2 := blk_frozen BK311.out 2
                have hfz15_3 := blk_frozen BK311.out 3
                have hfz15_4 := blk_frozen BK311.out 4
                have hfz15_5 := blk_frozen BK311.out 5
                have hfz15_6 := blk_frozen BK311.out 6
                have hfz15_7 := blk_frozen BK311.out 7
                have hfz15_8 := blk_frozen BK311.out 8
                have hfz15_9 := blk_frozen BK311.out 9
                have hfz15_10 := blk_frozen BK311.out 10
                have hfz15_11 := blk_frozen BK311.out 11
                have hfz15_12 := blk_frozen BK311.out 12
                have p313 : 0 ≤ (x5_1 : Int) := of_decide_eq_true (by first | (with_reducible assumption) | assumption)
                have q313 : x5_1 < (l1_9.length : Int) := of_decide_eq_true (by first | (with_reducible assumption) | assumption)
                obtain ⟨ad313, e313, hx313_0, hx313_1⟩ := at_T80 HR1_9.out x5_1 p313 q313
                cases e313
                replace hx313_0 := (HB.out.cell (World.block_lt_of_cell? w _ hx313_0)).trans hx313_0
                replace hx313_1 := (HB.out.cell (World.block_lt_of_cell? w _ hx313_1)).trans hx313_1
                replace p313 := eq_true p313
                replace q313 := eq_true q313
                go_wp2
                repeat (go_quiet (fail); try go_wp2)
                go_ret
                exact ⟨by first | rfl | (simp [errW_none, errW_some] <;> rfl) | (simp [*, errW_none, errW_some] <;> rfl), by repeat (first | (with_reducible first | exact HB.out | apply below_alloc | apply pw_below_drewN | apply below_drew1 | refine below_set ?_ GE310.out | refine below_set ?_ GE311.out) | exact HB.out)⟩
              · rw [if_neg c12] at H
                have c12b0 : (!(((rd_T80 l0_9 x5_1).f0) == ((rd_T80 l1_9 x5_1).f0)) || (!((((rd_T80 l0_9 x5_1).f1).toList) == (((rd_T80 l1_9 x5_1).f1).toList)))) = false := by simpa using c12
                clear c12
                have H' := Aside0.mk H
                clear H
                have hnb16 := NB310_311.out
                have hnc16 := NB311_310.out
                have hcz17_0 : wr.cell? ⟨gb310, 0, none⟩ = some (.int .i64 a0_0) := (blk_cell BK310.out 0).trans rfl
                have hcz17_1 : wr.cell? ⟨gb310, 1, none⟩ = some (.int .i64 a0_1) := (blk_cell BK310.out 1).trans rfl
                have hcz17_2 : wr.cell? ⟨gb310, 2, none⟩ = some (.int .i64 a0_2) := (blk_cell BK310.out 2).trans rfl
                have hcz17_3 : wr.cell? ⟨gb310, 3, none⟩ = some (.int .i64 a0_3) := (blk_cell BK310.out 3).trans rfl
                have hcz17_4 : wr.cell? ⟨gb310, 4, none⟩ = some (.int .i64 a0_4) := (blk_cell BK310.out 4).trans rfl
                have hcz17_5 : wr.cell? ⟨gb310, 5, none⟩ = some (.int .u32 a0_5) := (blk_cell BK310.out 5).trans rfl
                have hcz17_6 : wr.cell? ⟨gb310, 6, none⟩ = some (.int .i64 a0_6) := (blk_cell BK310.out 6).trans rfl
                have hcz17_7 : wr.cell? ⟨gb310, 7, none⟩ = some (.int .i64 a0_7) := (blk_cell BK310.out 7).trans rfl
                have hcz17_8 : wr.cell? ⟨gb310, 8, none⟩ = some (.string a0_8) := (blk_cell BK310.out 8).trans rfl
                have hcz17_9 : wr.cell? ⟨gb310, 9, none⟩ = some (.slice A0_9 l0_9.length c0_9) := (blk_cell BK310.out 9).trans rfl
                have hcz17_10 : wr.cell? ⟨gb310, 10, none⟩ = some (.string a0_10) := (blk_cell BK310.out 10).trans rfl
                have hcz17_11 : wr.cell? ⟨gb310, 11, none⟩ = some (.int .u32 a0_11) := (blk_cell BK310.out 11).trans rfl
                have hcz17_12 : wr.cell? ⟨gb310, 12, none⟩ = some (.int .i64 a0_12) := (blk_cell BK310.out 12).trans rfl
                have hfz17_0 := blk_frozen BK310.out 0
                have hfz17_1 := blk_frozen BK310.out 1
                have hfz17_2 := blk_frozen BK310.out 2
                have hfz17_3 := blk_frozen BK310.out 3
                have hfz17_4 := blk_frozen BK310.out 4
                have hfz17_5 := blk_frozen BK310.out 5
                have hfz17_6 := blk_frozen BK310.out 6
                have hfz17_7 := blk_frozen BK310.out 7
                have hfz17_8 := blk_frozen BK310.out 8
                have hfz17_9 := blk_frozen BK310.out 9
                have hfz17_10 := blk_frozen BK310.out 10
                have hfz17_11 := blk_frozen BK310.out 11
                have hfz17_12 := blk_frozen BK310.out 12
                have p312 : 0 ≤ (x5_1 : Int) := of_decide_eq_true (by first | (with_reducible assumption) | assumption)
                have q312 : x5_1 < (l0_9.length : Int) := of_decide_eq_true (by first | (with_reducible assumption) | assumption)
                obtain ⟨ad312, e312, hx312_0, hx312_1⟩ := at_T80 HR0_9.out x5_1 p312 q312
                cases e312
                replace hx312_0 := (HB.out.cell (World.block_lt_of_cell? w _ hx312_0)).trans hx312_0
                replace hx312_1 := (HB.out.cell (World.block_lt_of_cell? w _ hx312_1)).trans hx312_1
                replace p312 := eq_true p312
                replace q312 := eq_true q312
                have hcz18_0 : wr.cell? ⟨gb311, 0, none⟩ = some (.int .i64 a1_0) := (blk_cell BK311.out 0).trans rfl
                have hcz18_1 : wr.cell? ⟨gb311, 1, none⟩ = some (.int .i64 a1_1) := (blk_cell BK311.out 1).trans rfl
                have hcz18_2 : wr.cell? ⟨gb311, 2, none⟩ = some (.int .i64 a1_2) := (blk_cell BK311.out 2).trans rfl
                have hcz18_3 : wr.cell? ⟨gb311, 3, none⟩ = some (.int .i64 a1_3) := (blk_cell BK311.out 3).trans rfl
                have hcz18_4 : wr.cell? ⟨gb311, 4, none⟩ = some (.int .i64 a1_4) := (blk_cell BK311.out 4).trans rfl
                have hcz18_5 : wr.cell? ⟨gb311, 5, none⟩ = some (.int .u32 a1_5) := (blk_cell BK311.out 5).trans rfl
                have hcz18_6 : wr.cell? ⟨gb311, 6, none⟩ = some (.int .i64 a1_6) := (blk_cell BK311.out 6).trans rfl
                have hcz18_7 : wr.cell? ⟨gb311, 7, none⟩ = some (.int .i64 a1_7) := (blk_cell BK311.out 7).trans rfl
                have hcz18_8 : wr.cell? ⟨gb311, 8, none⟩ = some (.string a1_8) := (blk_cell BK311.out 8).trans rfl
                have hcz18_9 : wr.cell? ⟨gb311, 9, none⟩ = some (.slice A1_9 l1_9.length c1_9) := (blk_cell BK311.out 9).trans rfl
                have hcz18_10 : wr.cell? ⟨gb311, 10, none⟩ = some (.string a1_10) := (blk_cell BK311.out 10).trans rfl
                have hcz18_11 : wr.cell? ⟨gb311, 11, none⟩ = some (.int .u32 a1_11) := (blk_cell BK311.out 11).trans rfl
                have hcz18_12 : wr.cell? ⟨gb311, 12, none⟩ = some (.int .i64 a1_12) := (blk_cell BK311.out 12).trans rfl
                have hfz18_0 := blk_frozen BK311.out 0
                have hfz18_1 := blk_frozen BK311.out 1
                have hfz18_2 := blk_frozen BK311.out 2
                have hfz18_3 := blk_frozen BK311.out 3
                have hfz18_4 := blk_frozen BK311.out 4
                have hfz18_5 := blk_frozen BK311.out 5
                have hfz18_6 := blk_frozen BK311.out 6
                have hfz18_7 := blk_frozen BK311.out 7
                have hfz18_8 := blk_frozen BK311.out 8
                have hfz18_9 := blk_frozen BK311.out 9
                have hfz18_10 := blk_frozen BK311.out 10
                have hfz18_11 := blk_frozen BK311.out 11
                have hfz18_12 := blk_frozen BK311.out 12
                have p313 : 0 ≤ (x5_1 : Int) := of_decide_eq_true (by first | (with_reducible assumption) | assumption)
                have q313 : x5_1 < (l1_9.length : Int) := of_decide_eq_true (by first | (with_reducible assumption) | assumption)
                obtain ⟨ad313, e313, hx313_0, hx313_1⟩ := at_T80 HR1_9.out x5_1 p313 q313
                cases e313
                replace hx313_0 := (HB.out.cell (World.block_lt_of_cell? w _ hx313_0)).trans hx313_0
                replace hx313_1 := (HB.out.cell (World.block_lt_of_cell? w _ hx313_1)).trans hx313_1
                replace p313 := eq_true p313
                replace q313 := eq_true q313
                go_wp2
                repeat (go_quiet (fail); try go_wp2)
                go_roundg k1
                case measure => have := HK1.out; omega
                case rel => exact ⟨(wrap64 (x5_1 + 1)), (by first | rfl | (simp; done) | (simp [*]; done)), H', ⟨by have := HK1.out; omega⟩, ⟨by (with_reducible repeat (first | refine blk_drewN ?_ _ | refine blk_drew ?_ | refine blk_alloc ?_ _)); exact BK310.out⟩, ⟨by (with_reducible repeat (first | refine blk_drewN ?_ _ | refine blk_drew ?_ | refine blk_alloc ?_ _)); exact BK311.out⟩, ⟨by repeat (first | (with_reducible first | exact HB.out | apply below_alloc | apply pw_below_drewN | apply below_drew1 | refine below_set ?_ GE310.out | refine below_set ?_ GE311.out) | exact HB.out)⟩⟩
            · rw [if_neg c11] at H
              exact absurd H (by simp)
          · rw [if_neg c10] at H
            exact absurd H (by simp)
        · rw [if_neg c9] at H
          have c9b0 : decide (x5_1 < (l0_9.length : Int)) = false := decide_eq_false c9
          clear c9
          by_cases c19 : a0_0 = a1_0
          · rw [if_pos c19] at H
            have c19b0 : (a0_0 == a1_0) = true := beq_iff_eq.mpr c19
            have c19b1 : (a0_0 != a1_0) = false := bne_eq_false_iff_eq.mpr c19
            clear c19
            by_cases c20 : a0_1 = a1_1
            · rw [if_pos c20] at H
              have c20b0 : (a0_1 == a1_1) = true := beq_iff_eq.mpr c20
              have c20b1 : (a0_1 != a1_1) = false := bne_eq_false_iff_eq.mpr c20
              clear c20
              by_cases c21 : a0_2 = a1_2
              · rw [if_pos c21] at H
                have c21b0 : (a0_2 == a1_2) = true := beq_iff_eq.mpr c21
                have c21b1 : (a0_2 != a1_2) = false := bne_eq_false_iff_eq.mpr c21
                clear c21
                by_cases c22 : a0_3 = a1_3
                · rw [if_pos c22] at H
                  have c22b0 : (a0_3 == a1_3) = true := beq_iff_eq.mpr c22
                  have c22b1 : (a0_3 != a1_3) = false := bne_eq_false_iff_eq.mpr c22
                  clear c22
                  by_cases c23 : a0_4 = a1_4
                  · rw [if_pos c23] at H
                    have c23b0 : (a0_4 == a1_4) = true := beq_iff_eq.mpr c23
                    have c23b1 : (a0_4 != a1_4) = false := bne_eq_false_iff_eq.mpr c23
                    clear c23
                    by_cases c24 : a0_5 = a1_5
                    · rw [if_pos c24] at H
                      have c24b0 : (a0_5 == a1_5) = true := beq_iff_eq.mpr c24
                      have c24b1 : (a0_5 != a1_5) = false := bne_eq_false_iff_eq.mpr c24
                      clear c24
                      by_cases c25 : a0_6 = a1_6
                      · rw [if_pos c25] at H
                        have c25b0 : (a0_6 == a1_6) = true := beq_iff_eq.mpr c25
                        have c25b1 : (a0_6 != a1_6) = false := bne_eq_false_iff_eq.mpr c25
                        clear c25
                        by_cases c26 : a0_7 = a1_7
                        · rw [if_pos c26] at H
                          have c26b0 : (a0_7 == a1_7) = true := beq_iff_eq.mpr c26
                          have c26b1 : (a0_7 != a1_7) = false := bne_eq_false_iff_eq.mpr c26
                          clear c26
                          by_cases c27 : a0_8.toList = a1_8.toList
                          · rw [if_pos c27] at H
                            have c27b0 : (a0_8.toList == a1_8.toList) = true := beq_iff_eq.mpr c27
                            have c27b1 : (a0_8.toList != a1_8.toList) = false := bne_eq_false_iff_eq.mpr c27
                            clear c27
                            by_cases c28 : a0_10.toList = a1_10.toList
                            · rw [if_pos c28] at H
                              have c28b0 : (a0_10.toList == a1_10.toList) = true := beq_iff_eq.mpr c28
                              have c28b1 : (a0_10.toList != a1_10.toList) = false := bne_eq_false_iff_eq.mpr c28
                              clear c28
                              by_cases c29 : a0_11 = a1_11
                              · rw [if_pos c29] at H
                                have c29b0 : (a0_11 == a1_11) = true := beq_iff_eq.mpr c29
                                have c29b1 : (a0_11 != a1_11) = false := bne_eq_false_iff_eq.mpr c29
                                clear c29
                                obtain rfl := Option.some.inj H
                                have hnb30 := NB310_311.out
                                have hnc30 := NB311_310.out
                                have hcz31_0 : wr.cell? ⟨gb310, 0, none⟩ = some (.int .i64 a0_0) := (blk_cell BK310.out 0).trans rfl
                                have hcz31_1 : wr.cell? ⟨gb310, 1, none⟩ = some (.int .i64 a0_1) := (blk_cell BK310.out 1).trans rfl
                                have hcz31_2 : wr.cell? ⟨gb310, 2, none⟩ = some (.int .i64 a0_2) := (blk_cell BK310.out 2).trans rfl
                                have hcz31_3 : wr.cell? ⟨gb310, 3, none⟩ = some (.int .i64 a0_3) := (blk_cell BK310.out 3).trans rfl
                                have hcz31_4 : wr.cell? ⟨gb310, 4, none⟩ = some (.int .i64 a0_4) := (blk_cell BK310.out 4).trans rfl
                                have hcz31_5 : wr.cell? ⟨gb310, 5, none⟩ = some (.int .u32 a0_5) := (blk_cell BK310.out 5).trans rfl
                                have hcz31_6 : wr.cell? ⟨gb310, 6, none⟩ = some (.int .i64 a0_6) := (blk_cell BK310.out 6).trans rfl
                                have hcz31_7 : wr.cell? ⟨gb310, 7, none⟩ = some (.int .i64 a0_7) := (blk_cell BK310.out 7).trans rfl
                                have hcz31_8 : wr.cell? ⟨gb310, 8, none⟩ = some (.string a0_8) := (blk_cell BK310.out 8).trans rfl
                                have hcz31_9 : wr.cell? ⟨gb310, 9, none⟩ = some (.slice A0_9 l0_9.length c0_9) := (blk_cell BK310.out 9).trans rfl
                                have hcz31_10 : wr.cell? ⟨gb310, 10, none⟩ = some (.string a0_10) := (blk_cell BK310.out 10).trans rfl
                                have hcz31_11 : wr.cell? ⟨gb310, 11, none⟩ = some (.int .u32 a0_11) := (blk_cell BK310.out 11).trans rfl
                                have hcz31_12 : wr.cell? ⟨gb310, 12, none⟩ = some (.int .i64 a0_12) := (blk_cell BK310.out 12).trans rfl
                                have hfz31_0 := blk_frozen BK310.out 0
                                have hfz31_1 := blk_frozen BK310.out 1
                                have hfz31_2 := blk_frozen BK310.out 2
                                have hfz31_3 := blk_frozen BK310.out 3
                                have hfz31_4 := blk_frozen BK310.out 4
                                have hfz31_5 := blk_frozen BK310.out 5
                                have hfz31_6 := blk_frozen BK310.out 6
                                have hfz31_7 := blk_frozen BK310.out 7
                                have hfz31_8 := blk_frozen BK310.out 8
                                have hfz31_9 := blk_frozen BK310.out 9
                                have hfz31_10 := blk_frozen BK310.out 10
                                have hfz31_11 := blk_frozen BK310.out 11
                                have hfz31_12 := blk_frozen BK310.out 12
                                have hcz32_0 : wr.cell? ⟨gb311, 0, none⟩ = some (.int .i64 a1_0) := (blk_cell BK311.out 0).trans rfl
                                have hcz32_1 : wr.cell? ⟨gb311, 1, none⟩ = some (.int .i64 a1_1) := (blk_cell BK311.out 1).trans rfl
                                have hcz32_2 : wr.cell? ⟨gb311, 2, none⟩ = some (.int .i64 a1_2) := (blk_cell BK311.out 2).trans rfl
                                have hcz32_3 : wr.cell? ⟨gb311, 3, none⟩ = some (.int .i64 a1_3) := (blk_cell BK311.out 3).trans rfl
                                have hcz32_4 : wr.cell? ⟨gb311, 4, none⟩ = some (.int .i64 a1_4) := (blk_cell BK311.out 4).trans rfl
                                have hcz32_5 : wr.cell? ⟨gb311, 5, none⟩ = some (.int .u32 a1_5) := (blk_cell BK311.out 5).trans rfl
                                have hcz32_6 : wr.cell? ⟨gb311, 6, none⟩ = some (.int .i64 a1_6) := (blk_cell BK311.out 6).trans rfl
                                have hcz32_7 : wr.cell? ⟨gb311, 7, none⟩ = some (.int .i64 a1_7) := (blk_cell BK311.out 7).trans rfl
                                have hcz32_8 : wr.cell? ⟨gb311, 8, none⟩ = some (.string a1_8) := (blk_cell BK311.out 8).trans rfl
                                have hcz32_9 : wr.cell? ⟨gb311, 9, none⟩ = some (.slice A1_9 l1_9.length c1_9) := (blk_cell BK311.out 9).trans rfl
                                have hcz32_10 : wr.cell? ⟨gb311, 10, none⟩ = some (.string a1_10) := (blk_cell BK311.out 10).trans rfl
                                have hcz32_11 : wr.cell? ⟨gb311, 11, none⟩ = some (.int .u32 a1_11) := (blk_cell BK311.out 11).trans rfl
                                have hcz32_12 : wr.cell? ⟨gb311, 12, none⟩ = some (.int .i64 a1_12) := (blk_cell BK311.out 12).trans rfl
                                have hfz32_0 := blk_frozen BK311.out 0
                                have hfz32_1 := blk_frozen BK311.out 1
                                have hfz32_2 := blk_frozen BK311.out 2
                                have hfz32_3 := blk_frozen BK311.out 3
                                have hfz32_4 := blk_frozen BK311.out 4
                                have hfz32_5 := blk_frozen BK311.out 5
                                have hfz32_6 := blk_frozen BK311.out 6
                                have hfz32_7 := blk_frozen BK311.out 7
                                have hfz32_8 := blk_frozen BK311.out 8
                                have hfz32_9 := blk_frozen BK311.out 9
                                have hfz32_10 := blk_frozen BK311.out 10
                                have hfz32_11 := blk_frozen BK311.out 11
                                have hfz32_12 := blk_frozen BK311.out 12
                                go_wp2
                                repeat (go_quiet (fail); try go_wp2)
                                go_ret
                                exact ⟨by first | rfl | (simp [errW_none, errW_some] <;> rfl) | (simp [*, errW_none, errW_some] <;> rfl), by repeat (first | (with_reducible first | exact HB.out | apply below_alloc | apply pw_below_drewN | apply below_drew1 | refine below_set ?_ GE310.out | refine below_set ?_ GE311.out) | exact HB.out)⟩
                              · rw [if_neg c29] at H
                                have c29b0 : (a0_11 == a1_11) = false := beq_eq_false_iff_ne.mpr c29
                                have c29b1 : (a0_11 != a1_11) = true := bne_iff_ne.mpr c29
                                obtain rfl := Option.some.inj H
                                have hnb33 := NB310_311.out
                                have hnc33 := NB311_310.out
                                have hcz34_0 : wr.cell? ⟨gb310, 0, none⟩ = some (.int .i64 a0_0) := (blk_cell BK310.out 0).trans rfl
                                have hcz34_1 : wr.cell? ⟨gb310, 1, none⟩ = some (.int .i64 a0_1) := (blk_cell BK310.out 1).trans rfl
                                have hcz34_2 : wr.cell? ⟨gb310, 2, none⟩ = some (.int .i64 a0_2) := (blk_cell BK310.out 2).trans rfl
                                have hcz34_3 : wr.cell? ⟨gb310, 3, none⟩ = some (.int .i64 a0_3) := (blk_cell BK310.out 3).trans rfl
                                have hcz34_4 : wr.cell? ⟨gb310, 4, none⟩ = some (.int .i64 a0_4) := (blk_cell BK310.out 4).trans rfl
                                have hcz34_5 : wr.cell? ⟨gb310, 5, none⟩ = some (.int .u32 a0_5) := (blk_cell BK310.out 5).trans rfl
                                have hcz34_6 : wr.cell? ⟨gb310, 6, none⟩ = some (.int .i64 a0_6) := (blk_cell BK310.out 6).trans rfl
                                have hcz34_7 : wr.cell? ⟨gb310, 7, none⟩ = some (.int .i64 a0_7) := (blk_cell BK310.out 7).trans rfl
                                have hcz34_8 : wr.cell? ⟨gb310, 8, none⟩ = some (.string a0_8) := (blk_cell BK310.out 8).trans rfl
                                have hcz34_9 : wr.cell? ⟨gb310, 9, none⟩ = some (.slice A0_9 l0_9.length c0_9) := (blk_cell BK310.out 9).trans rfl
                                have hcz34_10 : wr.cell? ⟨gb310, 10, none⟩ = some (.string a0_10) := (blk_cell BK310.out 10).trans rfl
                                have hcz34_11 : wr.cell? ⟨gb310, 11, none⟩ = some (.int .u32 a0_11) := (blk_cell BK310.out 11).trans rfl
                                have hcz34_12 : wr.cell? ⟨gb310, 12, none⟩ = some (.int .i64 a0_12) := (blk_cell BK310.out 12).trans rfl
                                have hfz34_0 := blk_frozen BK310.out 0
                                have hfz34_1 := blk_frozen BK310.out 1
                                have hfz34_2 := blk_frozen BK310.out 2
                                have hfz34_3 := blk_frozen BK310.out 3
                                have hfz34_4 := blk_frozen BK310.out 4
                                have hfz34_5 := blk_frozen BK310.out 5
                                have hfz34_6 := blk_frozen BK310.out 6
                                have hfz34_7 := blk_frozen BK310.out 7
                                have hfz34_8 := blk_frozen BK310.out 8
                                have hfz34_9 := blk_frozen BK310.out 9
                                have hfz34_10 := blk_frozen BK310.out 10
                                have hfz34_11 := blk_frozen BK310.out 11
                                have hfz34_12 := blk_frozen BK310.out 12
                                have hcz35_0 : wr.cell? ⟨gb311, 0, none⟩ = some (.int .i64 a1_0) := (blk_cell BK311.out 0).trans rfl
                                have hcz35_1 : wr.cell? ⟨gb311, 1, none⟩ = some (.int .i64 a1_1) := (blk_cell BK311.out 1).trans rfl
                                have hcz35_2 : wr.cell? ⟨gb311, 2, none⟩ = some (.int .i64 a1_2) := (blk_cell BK311.out 2).trans rfl
                                have hcz35_3 : wr.cell? ⟨gb311, 3, none⟩ = some (.int .i64 a1_3) := (blk_cell BK311.out 3).trans rfl
                                have hcz35_4 : wr.cell? ⟨gb311, 4, none⟩ = some (.int .i64 a1_4) := (blk_cell BK311.out 4).trans rfl
                                have hcz35_5 : wr.cell? ⟨gb311, 5, none⟩ = some (.int .u32 a1_5) := (blk_cell BK311.out 5).trans rfl
                                have hcz35_6 : wr.cell? ⟨gb311, 6, none⟩ = some (.int .i64 a1_6) := (blk_cell BK311.out 6).trans rfl
                                have hcz35_7 : wr.cell? ⟨gb311, 7, none⟩ = some (.int .i64 a1_7) := (blk_cell BK311.out 7).trans rfl
                                have hcz35_8 : wr.cell? ⟨gb311, 8, none⟩ = some (.string a1_8) := (blk_cell BK311.out 8).trans rfl
                                have hcz35_9 : wr.cell? ⟨gb311, 9, none⟩ = some (.slice A1_9 l1_9.length c1_9) := (blk_cell BK311.out 9).trans rfl
                                have hcz35_10 : wr.cell? ⟨gb311, 10, none⟩ = some (.string a1_10) := (blk_cell BK311.out 10).trans rfl
                                have hcz35_11 : wr.cell? ⟨gb311, 11, none⟩ = some (.int .u32 a1_11) := (blk_cell BK311.out 11).trans rfl
                                have hcz35_12 : wr.cell? ⟨gb311, 12, none⟩ = some (.int .i64 a1_12) := (blk_cell BK311.out 12).trans rfl
                                have hfz35_0 := blk_frozen BK311.out 0
                                have hfz35_1 := blk_frozen BK311.out 1
                                have hfz35_2 := blk_frozen BK311.out 2
                                have hfz35_3 := blk_frozen BK311.out 3
                                have hfz35_4 := blk_frozen BK311.out 4
                                have hfz35_5 := blk_frozen BK311.out 5
                                have hfz35_6 := blk_frozen BK311.out 6
                                have hfz35_7 := blk_frozen BK311.out 7
                                have hfz35_8 := blk_frozen BK311.out 8
                                have hfz35_9 := blk_frozen BK311.out 9
                                have hfz35_10 := blk_frozen BK311.out 10
                                have hfz35_11 := blk_frozen BK311.out 11
                                have hfz35_12 := blk_frozen BK311.out 12
                                go_wp2
                                repeat (go_quiet (fail); try go_wp2)
                                go_ret
                                exact ⟨by first | rfl | (simp [errW_none, errW_some] <;> rfl) | (simp [*, errW_none, errW_some] <;> rfl), by repeat (first | (with_reducible first | exact HB.out | apply below_alloc | apply pw_below_drewN | apply below_drew1 | refine below_set ?_ GE310.out | refine below_set ?_ GE311.out) | exact HB.out)⟩
                            · rw [if_neg c28] at H
                              have c28b0 : (a0_10.toList == a1_10.toList) = false := beq_eq_false_iff_ne.mpr c28
                              have c28b1 : (a0_10.toList != a1_10.toList) = true := bne_iff_ne.mpr c28
                              obtain rfl := Option.some.inj H
                              have hnb36 := NB310_311.out
                              have hnc36 := NB311_310.out
                              have hcz37_0 : wr.cell? ⟨gb310, 0, none⟩ = some (.int .i64 a0_0) := (blk_cell BK310.out 0).trans rfl
                              have hcz37_1 : wr.cell? ⟨gb310, 1, none⟩ = some (.int .i64 a0_1) := (blk_cell BK310.out 1).trans rfl
                              have hcz37_2 : wr.cell? ⟨gb310, 2, none⟩ = some (.int .i64 a0_2) := (blk_cell BK310.out 2).trans rfl
                              have hcz37_3 : wr.cell? ⟨gb310, 3, none⟩ = some (.int .i64 a0_3) := (blk_cell BK310.out 3).trans rfl
                              have hcz37_4 : wr.cell? ⟨gb310, 4, none⟩ = some (.int .i64 a0_4) := (blk_cell BK310.out 4).trans rfl
                              have hcz37_5 : wr.cell? ⟨gb310, 5, none⟩ = some (.int .u32 a0_5) := (blk_cell BK310.out 5).trans rfl
                              have hcz37_6 : wr.cell? ⟨gb310, 6, none⟩ = some (.int .i64 a0_6) := (blk_cell BK310.out 6).trans rfl
                              have hcz37_7 : wr.cell? ⟨gb310, 7, none⟩ = some (.int .i64 a0_7) := (blk_cell BK310.out 7).trans rfl
                              have hcz37_8 : wr.cell? ⟨gb310, 8, none⟩ = some (.string a0_8) := (blk_cell BK310.out 8).trans rfl
                              have hcz37_9 : wr.cell? ⟨gb310, 9, none⟩ = some (.slice A0_9 l0_9.length c0_9) := (blk_cell BK310.out 9).trans rfl
                              have hcz37_10 : wr.cell? ⟨gb310, 10, none⟩ = some (.string a0_10) := (blk_cell BK310.out 10).trans rfl
                              have hcz37_11 : wr.cell? ⟨gb310, 11, none⟩ = some (.int .u32 a0_11) := (blk_cell BK310.out 11).trans rfl
                              have hcz37_12 : wr.cell? ⟨gb310, 12, none⟩ = some (.int .i64 a0_12) := (blk_cell BK310.out 12).trans rfl
                              have hfz37_0 := blk_frozen BK310.out 0
                              have hfz37_1 := blk_frozen BK310.out 1
                              have hfz37_2 := blk_frozen BK310.out 2
                              have hfz37_3 := blk_frozen BK310.out 3
                              have hfz37_4 := blk_frozen BK310.out 4
                              have hfz37_5 := blk_frozen BK310.out 5
                              have hfz37_6 := blk_frozen BK310.out 6
                              have hfz37_7 := blk_frozen BK310.out 7
                              have hfz37_8 := blk_frozen BK310.out 8
                              have hfz37_9 := blk_frozen BK310.out 9
                              have hfz37_10 := blk_frozen BK310.out 10
                              have hfz37_11 := blk_frozen BK310.out 11
                              have hfz37_12 := blk_frozen BK310.out 12
                              have hcz38_0 : wr.cell? ⟨gb311, 0, none⟩ = some (.int .i64 a1_0) := (blk_cell BK311.out 0).trans rfl
                              have hcz38_1 : wr.cell? ⟨gb311, 1, none⟩ = some (.int .i64 a1_1) := (blk_cell BK311.out 1).trans rfl
                              have hcz38_2 : wr.cell? ⟨gb311, 2, none⟩ = some (.int .i64 a1_2) := (blk_cell BK311.out 2).trans rfl
                              have hcz38_3 : wr.cell? ⟨gb311, 3, none⟩ = some (.int .i64 a1_3) := (blk_cell BK311.out 3).trans rfl
                              have hcz38_4 : wr.cell? ⟨gb311, 4, none⟩ = some (.int .i64 a1_4) := (blk_cell BK311.out 4).trans rfl
                              have hcz38_5 : wr.cell? ⟨gb311, 5, none⟩ = some (.int .u32 a1_5) := (blk_cell BK311.out 5).trans rfl
                              have hcz38_6 : wr.cell? ⟨gb311, 6, none⟩ = some (.int .i64 a1_6) := (blk_cell BK311.out 6).trans rfl
                              have hcz38_7 : wr.cell? ⟨gb311, 7, none⟩ = some (.int .i64 a1_7) := (blk_cell BK311.out 7).trans rfl
                              have hcz38_8 : wr.cell? ⟨gb311, 8, none⟩ = some (.string a1_8) := (blk_cell BK311.out 8).trans rfl
                              have hcz38_9 : wr.cell? ⟨gb311, 9, none⟩ = some (.slice A1_9 l1_9.length c1_9) := (blk_cell BK311.out 9).trans rfl
                              have hcz38_10 : wr.cell? ⟨gb311, 10, none⟩ = some (.string a1_10) := (blk_cell BK311.out 10).trans rfl
                              have hcz38_11 : wr.cell? ⟨gb311, 11, none⟩ = some (.int .u32 a1_11) := (blk_cell BK311.out 11).trans rfl
                              have hcz38_12 : wr.cell? ⟨gb311, 12, none⟩ = some (.int .i64 a1_12) := (blk_cell BK311.out 12).trans rfl
                              have hfz38_0 := blk_frozen BK311.out 0
                              have hfz38_1 := blk_frozen BK311.out 1
                              have hfz38_2 := blk_frozen BK311.out 2
                              have hfz38_3 := blk_frozen BK311.out 3
                              have hfz38_4 := blk_frozen BK311.out 4
                              have hfz38_5 := blk_frozen BK311.out 5
                              have hfz38_6 := blk_frozen BK311.out 6
                              have hfz38_7 := blk_frozen BK311.out 7
                              have hfz38_8 := blk_frozen BK311.out 8
                              have hfz38_9 := blk_frozen BK311.out 9
                              have hfz38_10 := blk_frozen BK311.out 10
                              have hfz38_11 := blk_frozen BK311.out 11
                              have hfz38_12 := blk_frozen BK311.out 12
                              go_wp2
                              repeat (go_quiet (fail); try go_wp2)
                              go_ret
                              exact ⟨by first | rfl | (simp [errW_none, errW_some] <;> rfl) | (simp [*, errW_none, errW_some] <;> rfl), by repeat (first | (with_reducible first | exact HB.out | apply below_alloc | apply pw_below_drewN | apply below_drew1 | refine below_set ?_ GE310.out | refine below_set ?_ GE311.out) | exact HB.out)⟩
                          · rw [if_neg c27] at H
                            have c27b0 : (a0_8.toList == a1_8.toList) = false := beq_eq_false_iff_ne.mpr c27
                            have c27b1 : (a0_8.toList != a1_8.toList) = true := bne_iff_ne.mpr c27
                            obtain rfl := Option.some.inj H
                            have hnb39 := NB310_311.out
                            have hnc39 := NB311_310.out
                            have hcz40_0 : wr.cell? ⟨gb310, 0, none⟩ = some (.int .i64 a0_0) := (blk_cell BK310.out 0).trans rfl
                            have hcz40_1 : wr.cell? ⟨gb310, 1, none⟩ = some (.int .i64 a0_1) := (blk_cell BK310.out 1).trans rfl
                            have hcz40_2 : wr.cell? ⟨gb310, 2, none⟩ = some (.int .i64 a0_2) := (blk_cell BK310.out 2).trans rfl
                            have hcz40_3 : wr.cell? ⟨gb310, 3, none⟩ = some (.int .i64 a0_3) := (blk_cell BK310.out 3).trans rfl
                            have hcz40_4 : wr.cell? ⟨gb310, 4, none⟩ = some (.int .i64 a0_4) := (blk_cell BK310.out 4).trans rfl
                            have hcz40_5 : wr.cell? ⟨gb310, 5, none⟩ = some (.int .u32 a0_5) := (blk_cell BK310.out 5).trans rfl
                            have hcz40_6 : wr.cell? ⟨gb310, 6, none⟩ = some (.int .i64 a0_6) := (blk_cell BK310.out 6).trans rfl
                            have hcz40_7 : wr.cell? ⟨gb310, 7, none⟩ = some (.int .i64 a0_7) := (blk_cell BK310.out 7).trans rfl
                            have hcz40_8 : wr.cell? ⟨gb310, 8, none⟩ = some (.string a0_8) := (blk_cell BK310.out 8).trans rfl
                            have hcz40_9 : wr.cell? ⟨gb310, 9, none⟩ = some (.slice A0_9 l0_9.length c0_9) := (blk_cell BK310.out 9).trans rfl
                            have hcz40_10 : wr.cell? ⟨gb310, 10, none⟩ = some (.string a0_10) := (blk_cell BK310.out 10).trans rfl
                            have hcz40_11 : wr.cell? ⟨gb310, 11, none⟩ = some (.int .u32 a0_11) := (blk_cell BK310.out 11).trans rfl
                            have hcz40_12 : wr.cell? ⟨gb310, 12, none⟩ = some (.int .i64 a0_12) := (blk_cell BK310.out 12).trans rfl
                            have hfz40_0 := blk_frozen BK310.out 0
                            have hfz40_1 := blk_frozen BK310.out 1
                            have hfz40_2 := blk_frozen BK310.out 2
                            have hfz40_3 := blk_frozen BK310.out 3
                            have hfz40_4 := blk_frozen BK310.out 4
                            have hfz40_5 := blk_frozen BK310.out 5
                            have hfz40_6 := blk_frozen BK310.out 6
                            have hfz40_7 := blk_frozen BK310.out 7
                            have hfz40_8 := blk_frozen BK310.out 8
                            have hfz40_9 := blk_frozen BK310.out 9
                            have hfz40_10 := blk_frozen BK310.out 10
                            have hfz40_11 := blk_frozen BK310.out 11
                            have hfz40_12 := blk_frozen BK310.out 12
                            have hcz41_0 : wr.cell? ⟨gb311, 0, none⟩ = some (.int .i64 a1_0) := (blk_cell BK311.out 0).trans rfl
                            have hcz41_1 : wr.cell? ⟨gb311, 1, none⟩ = some (.int .i64 a1_1) := (blk_cell BK311.out 1).trans rfl
                            have hcz41_2 : wr.cell? ⟨gb311, 2, none⟩ = some (.int .i64 a1_2) := (blk_cell BK311.out 2).trans rfl
                            have hcz41_3 : wr.cell? ⟨gb311, 3, none⟩ = some (.int .i64 a1_3) := (blk_cell BK311.out 3).trans rfl
                            have hcz41_4 : wr.cell? ⟨gb311, 4, none⟩ = some (.int .i64 a1_4) := (blk_cell BK311.out 4).trans rfl
                            have hcz41_5 : wr.cell? ⟨gb311, 5, none⟩ = some (.int .u32 a1_5) := (blk_cell BK311.out 5).trans rfl
                            have hcz41_6 : wr.cell? ⟨gb311, 6, none⟩ = some (.int .i64 a1_6) := (blk_cell BK311.out 6).trans rfl
                            have hcz41_7 : wr.cell? ⟨gb311, 7, none⟩ = some (.int .i64 a1_7) := (blk_cell BK311.out 7).trans rfl
                            have hcz41_8 : wr.cell? ⟨gb311, 8, none⟩ = some (.string a1_8) := (blk_cell BK311.out 8).trans rfl
                            have hcz41_9 : wr.cell? ⟨gb311, 9, none⟩ = some (.slice A1_9 l1_9.length c1_9) := (blk_cell BK311.out 9).trans rfl
                            have hcz41_10 : wr.cell? ⟨gb311, 10, none⟩ = some (.string a1_10) := (blk_cell BK311.out 10).trans rfl
                            have hcz41_11 : wr.cell? ⟨gb311, 11, none⟩ = some (.int .u32 a1_11) := (blk_cell BK311.out 11).trans rfl
                            have hcz41_12 : wr.cell? ⟨gb311, 12, none⟩ = some (.int .i64 a1_12) := (blk_cell BK311.out 12).trans rfl
                            have hfz41_0 := blk_frozen BK311.out 0
                            have hfz41_1 := blk_frozen BK311.out 1
                            have hfz41_2 := blk_frozen BK311.out 2
                            have hfz41_3 := blk_frozen BK311.out 3
                            have hfz41_4 := blk_frozen BK311.out 4
                            have hfz41_5 := blk_frozen BK311.out 5
                            have hfz41_6 := blk_frozen BK311.out 6
                            have hfz41_7 := blk_frozen BK311.out 7
                            have hfz41_8 := blk_frozen BK311.out 8
                            have hfz41_9 := blk_frozen BK311.out 9
                            have hfz41_10 := blk_frozen BK311.out 10
                            have hfz41_11 := blk_frozen BK311.out 11
                            have hfz41_12 := blk_frozen BK311.out 12
                            go_wp2
                            repeat (go_quiet (fail); try go_wp2)
                            go_ret
                            exact ⟨by first | rfl | (simp [errW_none, errW_some] <;> rfl) | (simp [*, errW_none, errW_some] <;> rfl), by repeat (first | (with_reducible first | exact HB.out | apply below_alloc | apply pw_below_drewN | apply below_drew1 | refine below_set ?_ GE310.out | refine below_set ?_ GE311.out) | exact HB.out)⟩
                        · rw [if_neg c26] at H
                          have c26b0 : (a0_7 == a1_7) = false := beq_eq_false_iff_ne.mpr c26
                          have c26b1 : (a0_7 != a1_7) = true := bne_iff_ne.mpr c26
                          obtain rfl := Option.some.inj H
                          have hnb42 := NB310_311.out
                          have hnc42 := NB311_310.out
                          have hcz43_0 : wr.cell? ⟨gb310, 0, none⟩ = some (.int .i64 a0_0) := (blk_cell BK310.out 0).trans rfl
                          have hcz43_1 : wr.cell? ⟨gb310, 1, none⟩ = some (.int .i64 a0_1) := (blk_cell BK310.out 1).trans rfl
                          have hcz43_2 : wr.cell? ⟨gb310, 2, none⟩ = some (.int .i64 a0_2) := (blk_cell BK310.out 2).trans rfl
                          have hcz43_3 : wr.cell? ⟨gb310, 3, none⟩ = some (.int .i64 a0_3) := (blk_cell BK310.out 3).trans rfl
                          have hcz43_4 : wr.cell? ⟨gb310, 4, none⟩ = some (.int .i64 a0_4) := (blk_cell BK310.out 4).trans rfl
                          have hcz43_5 : wr.cell? ⟨gb310, 5, none⟩ = some (.int .u32 a0_5) := (blk_cell BK310.out 5).trans rfl
                          have hcz43_6 : wr.cell? ⟨gb310, 6, none⟩ = some (.int .i64 a0_6) := (blk_cell BK310.out 6).trans rfl
                          have hcz43_7 : wr.cell? ⟨gb310, 7, none⟩ = some (.int .i64 a0_7) := (blk_cell BK310.out 7).trans rfl
                          have hcz43_8 : wr.cell? ⟨gb310, 8, none⟩ = some (.string a0_8) := (blk_cell BK310.out 8).trans rfl
                          have hcz43_9 : wr.cell? ⟨gb310, 9, none⟩ = some (.slice A0_9 l0_9.length c0_9) := (blk_cell BK310.out 9).trans rfl
                          have hcz43_10 : wr.cell? ⟨gb310, 10, none⟩ = some (.string a0_10) := (blk_cell BK310.out 10).trans rfl
                          have hcz43_11 : wr.cell? ⟨gb310, 11, none⟩ = some (.int .u32 a0_11) := (blk_cell BK310.out 11).trans rfl
                          have hcz43_12 : wr.cell? ⟨gb310, 12, none⟩ = some (.int .i64 a0_12) := (blk_cell BK310.out 12).trans rfl
                          have hfz43_0 := blk_frozen BK310.out 0
                          have hfz43_1 := blk_frozen BK310.out 1
                          have hfz43_2 := blk_frozen BK310.out 2
                          have hfz43_3 := blk_frozen BK310.out 3
                          have hfz43_4 := blk_frozen BK310.out 4
                          have hfz43_5 := blk_frozen BK310.out 5
                          have hfz43_6 := blk_frozen BK310.out 6
                          have hfz43_7 := blk_frozen BK310.out 7
                          have hfz43_8 := blk_frozen BK310.out 8
                          have hfz43_9 := blk_frozen BK310.out 9
                          have hfz43_10 := blk_frozen BK310.out 10
                          have hfz43_11 := blk_frozen BK310.out 11
                          have hfz43_12 := blk_frozen BK310.out 12
                          have hcz44_0 : wr.cell? ⟨gb311, 0, none⟩ = some (.int .i64 a1_0) := (blk_cell BK311.out 0).trans rfl
                          have hcz44_1 : wr.cell? ⟨gb311, 1, none⟩ = some (.int .i64 a1_1) := (blk_cell BK311.out 1).trans rfl
                          have hcz44_2 : wr.cell? ⟨gb311, 2, none⟩ = some (.int .i64 a1_2) := (blk_cell BK311.out 2).trans rfl
                          have hcz44_3 : wr.cell? ⟨gb311, 3, none⟩ = some (.int .i64 a1_3) := (blk_cell BK311.out 3).trans rfl
                          have hcz44_4 : wr.cell? ⟨gb311, 4, none⟩ = some (.int .i64 a1_4) := (blk_cell BK311.out 4).trans rfl
                          have hcz44_5 : wr.cell? ⟨gb311, 5, none⟩ = some (.int .u32 a1_5) := (blk_cell BK311.out 5).trans rfl
                          have hcz44_6 : wr.cell? ⟨gb311, 6, none⟩ = some (.int .i64 a1_6) := (blk_cell BK311.out 6).trans rfl
                          have hcz44_7 : wr.cell? ⟨gb311, 7, none⟩ = some (.int .i64 a1_7) := (blk_cell BK311.out 7).trans rfl
                          have hcz44_8 : wr.cell? ⟨gb311, 8, none⟩ = some (.string a1_8) := (blk_cell BK311.out 8).trans rfl
                          have hcz44_9 : wr.cell? ⟨gb311, 9, none⟩ = some (.slice A1_9 l1_9.length c1_9) := (blk_cell BK311.out 9).trans rfl
                          have hcz44_10 : wr.cell? ⟨gb311, 10, none⟩ = some (.string a1_10) := (blk_cell BK311.out 10).trans rfl
                          have hcz44_11 : wr.cell? ⟨gb311, 11, none⟩ = some (.int .u32 a1_11) := (blk_cell BK311.out 11).trans rfl
                          have hcz44_12 : wr.cell? ⟨gb311, 12, none⟩ = some (.int .i64 a1_12) := (blk_cell BK311.out 12).trans rfl
                          have hfz44_0 := blk_frozen BK311.out 0
                          have hfz44_1 := blk_frozen BK311.out 1
                          have hfz44_2 := blk_frozen BK311.out 2
                          have hfz44_3 := blk_frozen BK311.out 3
                          have hfz44_4 := blk_frozen BK311.out 4
                          have hfz44_5 := blk_frozen BK311.out 5
                          have hfz44_6 := blk_frozen BK311.out 6
                          have hfz44_7 := blk_frozen BK311.out 7
                          have hfz44_8 := blk_frozen BK311.out 8
                          have hfz44_9 := blk_frozen BK311.out 9
                          have hfz44_10 := blk_frozen BK311.out 10
                          have hfz44_11 := blk_frozen BK311.out 11
                          have hfz44_12 := blk_frozen BK311.out 12
                          go_wp2
                          repeat (go_quiet (fail); try go_wp2)
                          go_ret
                          exact ⟨by first | rfl | (simp [errW_none, errW_some] <;> rfl) | (simp [*, errW_none, errW_some] <;> rfl), by repeat (first | (with_reducible first | exact HB.out | apply below_alloc | apply pw_below_drewN | apply below_drew1 | refine below_set ?_ GE310.out | refine below_set ?_ GE311.out) | exact HB.out)⟩
                      · rw [if_neg c25] at H
                        have c25b0 : (a0_6 == a1_6) = false := beq_eq_false_iff_ne.mpr c25
                        have c25b1 : (a0_6 != a1_6) = true := bne_iff_ne.mpr c25
                        obtain rfl := Option.some.inj H
                        have hnb45 := NB310_311.out
                        have hnc45 := NB311_310.out
                        have hcz46_0 : wr.cell? ⟨gb310, 0, none⟩ = some (.int .i64 a0_0) := (blk_cell BK310.out 0).trans rfl
                        have hcz46_1 : wr.cell? ⟨gb310, 1, none⟩ = some (.int .i64 a0_1) := (blk_cell BK310.out 1).trans rfl
                        have hcz46_2 : wr.cell? ⟨gb310, 2, none⟩ = some (.int .i64 a0_2) := (blk_cell BK310.out 2).trans rfl
                        have hcz46_3 : wr.cell? ⟨gb310, 3, none⟩ = some (.int .i64 a0_3) := (blk_cell BK310.out 3).trans rfl
                        have hcz46_4 : wr.cell? ⟨gb310, 4, none⟩ = some (.int .i64 a0_4) := (blk_cell BK310.out 4).trans rfl
                        have hcz46_5 : wr.cell? ⟨gb310, 5, none⟩ = some (.int .u32 a0_5) := (blk_cell BK310.out 5).trans rfl
                        have hcz46_6 : wr.cell? ⟨gb310, 6, none⟩ = some (.int .i64 a0_6) := (blk_cell BK310.out 6).trans rfl
                        have hcz46_7 : wr.cell? ⟨gb310, 7, none⟩ = some (.int .i64 a0_7) := (blk_cell BK310.out 7).trans rfl
                        have hcz46_8 : wr.cell? ⟨gb310, 8, none⟩ = some (.string a0_8) := (blk_cell BK310.out 8).trans rfl
                        have hcz46_9 : wr.cell? ⟨gb310, 9, none⟩ = some (.slice A0_9 l0_9.length c0_9) := (blk_cell BK310.out 9).trans rfl
                        have hcz46_10 : wr.cell? ⟨gb310, 10, none⟩ = some (.string a0_10) := (blk_cell BK310.out 10).trans rfl
                        have hcz46_11 : wr.cell? ⟨gb310, 11, none⟩ = some (.int .u32 a0_11) := (blk_cell BK310.out 11).trans rfl
                        have hcz46_12 : wr.cell? ⟨gb310, 12, none⟩ = some (.int .i64 a0_12) := (blk_cell BK310.out 12).trans rfl
                        have hfz46_0 := blk_frozen BK310.out 0
                        have hfz46_1 := blk_frozen BK310.out 1
                        have hfz46_2 := blk_frozen BK310.out 2
                        have hfz46_3 := blk_frozen BK310.out 3
                        have hfz46_4 := blk_frozen BK310.out 4
                        have hfz46_5 := blk_frozen BK310.out 5
                        have hfz46_6 := blk_frozen BK310.out 6
                        have hfz46_7 := blk_frozen BK310.out 7
                        have hfz46_8 := blk_frozen BK310.out 8
                        have hfz46_9 := blk_frozen BK310.out 9
                        have hfz46_10 := blk_frozen BK310.out 10
                        have hfz46_11 := blk_frozen BK310.out 11
                        have hfz46_12 := blk_frozen BK310.out 12
                        have hcz47_0 : wr.cell? ⟨gb311, 0, none⟩ = some (.int .i64 a1_0) := (blk_cell BK311.out 0).trans rfl
                        have hcz47_1 : wr.cell? ⟨gb311, 1, none⟩ = some (.int .i64 a1_1) := (blk_cell BK311.out 1).trans rfl
                        have hcz47_2 : wr.cell? ⟨gb311, 2, none⟩ = some (.int .i64 a1_2) := (blk_cell BK311.out 2).trans rfl
                        have hcz47_3 : wr.cell? ⟨gb311, 3, none⟩ = some (.int .i64 a1_3) := (blk_cell BK311.out 3).trans rfl
                        have hcz47_4 : wr.cell? ⟨gb311, 4, none⟩ = some (.int .i64 a1_4) := (blk_cell BK311.out 4).trans rfl
                        have hcz47_5 : wr.cell? ⟨gb311, 5, none⟩ = some (.int .u32 a1_5) := (blk_cell BK311.out 5).trans rfl
                        have hcz47_6 : wr.cell? ⟨gb311, 6, none⟩ = some (.int .i64 a1_6) := (blk_cell BK311.out 6).trans rfl
                        have hcz47_7 : wr.cell? ⟨gb311, 7, none⟩ = some (.int .i64 a1_7) := (blk_cell BK311.out 7).trans rfl
                        have hcz47_8 : wr.cell? ⟨gb311, 8, none⟩ = some (.string a1_8) := (blk_cell BK311.out 8).trans rfl
                        have hcz47_9 : wr.cell? ⟨gb311, 9, none⟩ = some (.slice A1_9 l1_9.length c1_9) := (blk_cell BK311.out 9).trans rfl
                        have hcz47_10 : wr.cell? ⟨gb311, 10, none⟩ = some (.string a1_10) := (blk_cell BK311.out 10).trans rfl
                        have hcz47_11 : wr.cell? ⟨gb311, 11, none⟩ = some (.int .u32 a1_11) := (blk_cell BK311.out 11).trans rfl
                        have hcz47_12 : wr.cell? ⟨gb311, 12, none⟩ = some (.int .i64 a1_12) := (blk_cell BK311.out 12).trans rfl
                        have hfz47_0 := blk_frozen BK311.out 0
                        have hfz47_1 := blk_frozen BK311.out 1
                        have hfz47_2 := blk_frozen BK311.out 2
                        have hfz47_3 := blk_frozen BK311.out 3
                        have hfz47_4 := blk_frozen BK311.out 4
                        have hfz47_5 := blk_frozen BK311.out 5
                        have hfz47_6 := blk_frozen BK311.out 6
                        have hfz47_7 := blk_frozen BK311.out 7
                        have hfz47_8 := blk_frozen BK311.out 8
                        have hfz47_9 := blk_frozen BK311.out 9
                        have hfz47_10 := blk_frozen BK311.out 10
                        have hfz47_11 := blk_frozen BK311.out 11
                        have hfz47_12 := blk_frozen BK311.out 12
                        go_wp2
                        repeat (go_quiet (fail); try go_wp2)
                        go_ret
                        exact ⟨by first | rfl | (simp [errW_none, errW_some] <;> rfl) | (simp [*, errW_none, errW_some] <;> rfl), by repeat (first | (with_reducible first | exact HB.out | apply below_alloc | apply pw_below_drewN | apply below_drew1 | refine below_set ?_ GE310.out | refine below_set ?_ GE311.out) | exact HB.out)⟩
                    · rw [if_neg c24] at H
                      have c24b0 : (a0_5 == a1_5) = false := beq_eq_false_iff_ne.mpr c24
                      have c24b1 : (a0_5 != a1_5) = true := bne_iff_ne.mpr c24
                      obtain rfl := Option.some.inj H
                      have hnb48 := NB310_311.out
                      have hnc48 := NB311_310.out
                      have hcz49_0 : wr.cell? ⟨gb310, 0, none⟩ = some (.int .i64 a0_0) := (blk_cell BK310.out 0).trans rfl
                      have hcz49_1 : wr.cell? ⟨gb310, 1, none⟩ = some (.int .i64 a0_1) := (blk_cell BK310.out 1).trans rfl
                      have hcz49_2 : wr.cell? ⟨gb310, 2, none⟩ = some (.int .i64 a0_2) := (blk_cell BK310.out 2).trans rfl
                      have hcz49_3 : wr.cell? ⟨gb310, 3, none⟩ = some (.int .i64 a0_3) := (blk_cell BK310.out 3).trans rfl
                      have hcz49_4 : wr.cell? ⟨gb310, 4, none⟩ = some (.int .i64 a0_4) := (blk_cell BK310.out 4).trans rfl
                      have hcz49_5 : wr.cell? ⟨gb310, 5, none⟩ = some (.int .u32 a0_5) := (blk_cell BK310.out 5).trans rfl
                      have hcz49_6 : wr.cell? ⟨gb310, 6, none⟩ = some (.int .i64 a0_6) := (blk_cell BK310.out 6).trans rfl
                      have hcz49_7 : wr.cell? ⟨gb310, 7, none⟩ = some (.int .i64 a0_7) := (blk_cell BK310.out 7).trans rfl
                      have hcz49_8 : wr.cell? ⟨gb310, 8, none⟩ = some (.string a0_8) := (blk_cell BK310.out 8).trans rfl
                      have hcz49_9 : wr.cell? ⟨gb310, 9, none⟩ = some (.slice A0_9 l0_9.length c0_9) := (blk_cell BK310.out 9).trans rfl
                      have hcz49_10 : wr.cell? ⟨gb310, 10, none⟩ = some (.string a0_10) := (blk_cell BK310.out 10).trans rfl
                      have hcz49_11 : wr.cell? ⟨gb310, 11, none⟩ = some (.int .u32 a0_11) := (blk_cell BK310.out 11).trans rfl
                      have hcz49_12 : wr.cell? ⟨gb310, 12, none⟩ = some (.int .i64 a0_12) := (blk_cell BK310.out 12).trans rfl
                      have hfz49_0 := blk_frozen BK310.out 0
                      have hfz49_1 := blk_frozen BK310.out 1
                      have hfz49_2 := blk_frozen BK310.out 2
                      have hfz49_3 := blk_frozen BK310.out 3
                      have hfz49_4 := blk_frozen BK310.out 4
                      have hfz49_5 := blk_frozen BK310.out 5
                      have hfz49_6 := blk_frozen BK310.out 6
                      have hfz49_7 := blk_frozen BK310.out 7
                      have hfz49_8 := blk_frozen BK310.out 8
                      have hfz49_9 := blk_frozen BK310.out 9
                      have hfz49_10 := blk_frozen BK310.out 10
                      have hfz49_11 := blk_frozen BK310.out 11
                      have hfz49_12 := blk_frozen BK310.out 12
                      have hcz50_0 : wr.cell? ⟨gb311, 0, none⟩ = some (.int .i64 a1_0) := (blk_cell BK311.out 0).trans rfl
                      have hcz50_1 : wr.cell? ⟨gb311, 1, none⟩ = some (.int .i64 a1_1) := (blk_cell BK311.out 1).trans rfl
                      have hcz50_2 : wr.cell? ⟨gb311, 2, none⟩ = some (.int .i64 a1_2) := (blk_cell BK311.out 2).trans rfl
                      have hcz50_3 : wr.cell? ⟨gb311, 3, none⟩ = some (.int .i64 a1_3) := (blk_cell BK311.out 3).trans rfl
                      have hcz50_4 : wr.cell? ⟨gb311, 4, none⟩ = some (.int .i64 a1_4) := (blk_cell BK311.out 4).trans rfl
                      have hcz50_5 : wr.cell? ⟨gb311, 5, none⟩ = some (.int .u32 a1_5) := (blk_cell BK311.out 5).trans rfl
                      have hcz50_6 : wr.cell? ⟨gb311, 6, none⟩ = some (.int .i64 a1_6) := (blk_cell BK311.out 6).trans rfl
                      have hcz50_7 : wr.cell? ⟨gb311, 7, none⟩ = some (.int .i64 a1_7) := (blk_cell BK311.out 7).trans rfl
                      have hcz50_8 : wr.cell? ⟨gb311, 8, none⟩ = some (.string a1_8) := (blk_cell BK311.out 8).trans rfl
                      have hcz50_9 : wr.cell? ⟨gb311, 9, none⟩ = some (.slice A1_9 l1_9.length c1_9) := (blk_cell BK311.out 9).trans rfl
                      have hcz50_10 : wr.cell? ⟨gb311, 10, none⟩ = some (.string a1_10) := (blk_cell BK311.out 10).trans rfl
                      have hcz50_11 : wr.cell? ⟨gb311, 11, none⟩ = some (.int .u32 a1_11) := (blk_cell BK311.out 11).trans rfl
                      have hcz50_12 : wr.cell? ⟨gb311, 12, none⟩ = some (.int .i64 a1_12) := (blk_cell BK311.out 12).trans rfl
                      have hfz50_0 := blk_frozen BK311.out 0
                      have hfz50_1 := blk_frozen BK311.out 1
                      have hfz50_2 := blk_frozen BK311.out 2
                      have hfz50_3 := blk_frozen BK311.out 3
                      have hfz50_4 := blk_frozen BK311.out 4
                      have hfz50_5 := blk_frozen BK311.out 5
                      have hfz50_6 := blk_frozen BK311.out 6
                      have hfz50_7 := blk_frozen BK311.out 7
                      have hfz50_8 := blk_frozen BK311.out 8
                      have hfz50_9 := blk_frozen BK311.out 9
                      have hfz50_10 := blk_frozen BK311.out 10
                      have hfz50_11 := blk_frozen BK311.out 11
                      have hfz50_12 := blk_frozen BK311.out 12
                      go_wp2
                      repeat (go_quiet (fail); try go_wp2)
                      go_ret
                      exact ⟨by first | rfl | (simp [errW_none, errW_some] <;> rfl) | (simp [*, errW_none, errW_some] <;> rfl), by repeat (first | (with_reducible first | exact HB.out | apply below_alloc | apply pw_below_drewN | apply below_drew1 | refine below_set ?_ GE310.out | refine below_set ?_ GE311.out) | exact HB.out)⟩
                  · rw [if_neg c23] at H
                    have c23b0 : (a0_4 == a1_4) = false := beq_eq_false_iff_ne.mpr c23
                    have c23b1 : (a0_4 != a1_4) = true := bne_iff_ne.mpr c23
                    obtain rfl := Option.some.inj H
                    have hnb51 := NB310_311.out
                    have hnc51 := NB311_310.out
                    have hcz52_0 : wr.cell? ⟨gb310, 0, none⟩ = some (.int .i64 a0_0) := (blk_cell BK310.out 0).trans rfl
                    have hcz52_1 : wr.cell? ⟨gb310, 1, none⟩ = some (.int .i64 a0_1) := (blk_cell BK310.out 1).trans rfl
                    have hcz52_2 : wr.cell? ⟨gb310, 2, none⟩ = some (.int .i64 a0_2) := (blk_cell BK310.out 2).trans rfl
                    have hcz52_3 : wr.cell? ⟨gb310, 3, none⟩ = some (.int .i64 a0_3) := (blk_cell BK310.out 3).trans rfl
                    have hcz52_4 : wr.cell? ⟨gb310, 4, none⟩ = some (.int .i64 a0_4) := (blk_cell BK310.out 4).trans rfl
                    have hcz52_5 : wr.cell? ⟨gb310, 5, none⟩ = some (.int .u32 a0_5) := (blk_cell BK310.out 5).trans rfl
                    have hcz52_6 : wr.cell? ⟨gb310, 6, none⟩ = some (.int .i64 a0_6) := (blk_cell BK310.out 6).trans rfl
                    have hcz52_7 : wr.cell? ⟨gb310, 7, none⟩ = some (.int .i64 a0_7) := (blk_cell BK310.out 7).trans rfl
                    have hcz52_8 : wr.cell? ⟨gb310, 8, none⟩ = some (.string a0_8) := (blk_cell BK310.out 8).trans rfl
                    have hcz52_9 : wr.cell? ⟨gb310, 9, none⟩ = some (.slice A0_9 l0_9.length c0_9) := (blk_cell BK310.out 9).trans rfl
                    have hcz52_10 : wr.cell? ⟨gb310, 10, none⟩ = some (.string a0_10) := (blk_cell BK310.out 10).trans rfl
                    have hcz52_11 : wr.cell? ⟨gb310, 11, none⟩ = some (.int .u32 a0_11) := (blk_cell BK310.out 11).trans rfl
                    have hcz52_12 : wr.cell? ⟨gb310, 12, none⟩ = some (.int .i64 a0_12) := (blk_cell BK310.out 12).trans rfl
                    have hfz52_0 := blk_frozen BK310.out 0
                    have hfz52_1 := blk_frozen BK310.out 1
                    have hfz52_2 := blk_frozen BK310.out 2
                    have hfz52_3 := blk_frozen BK310.out 3
                    have hfz52_4 := blk_frozen BK310.out 4
                    have hfz52_5 := blk_frozen BK310.out 5
                    have hfz52_6 := blk_frozen BK310.out 6
                    have hfz52_7 := blk_frozen BK310.out 7
                    have hfz52_8 := blk_frozen BK310.out 8
                    have hfz52_9 := blk_frozen BK310.out 9
                    have hfz52_10 := blk_frozen BK310.out 10
                    have hfz52_11 := blk_frozen BK310.out 11
                    have hfz52_12 := blk_frozen BK310.out 12
                    have hcz53_0 : wr.cell? ⟨gb311, 0, none⟩ = some (.int .i64 a1_0) := (blk_cell BK311.out 0).trans rfl
                    have hcz53_1 : wr.cell? ⟨gb311, 1, none⟩ = some (.int .i64 a1_1) := (blk_cell BK311.out 1).trans rfl
                    have hcz53_2 : wr.cell? ⟨gb311, 2, none⟩ = some (.int .i64 a1_2) := (blk_cell BK311.out 2).trans rfl
                    have hcz53_3 : wr.cell? ⟨gb311, 3, none⟩ = some (.int .i64 a1_3) := (blk_cell BK311.out 3).trans rfl
                    have hcz53_4 : wr.cell? ⟨gb311, 4, none⟩ = some (.int .i64 a1_4) := (blk_cell BK311.out 4).trans rfl
                    have hcz53_5 : wr.cell? ⟨gb311, 5, none⟩ = some (.int .u32 a1_5) := (blk_cell BK311.out 5).trans rfl
                    have hcz53_6 : wr.cell? ⟨gb311, 6, none⟩ = some (.int .i64 a1_6) := (blk_cell BK311.out 6).trans rfl
                    have hcz53_7 : wr.cell? ⟨gb311, 7, none⟩ = some (.int .i64 a1_7) := (blk_cell BK311.out 7).trans rfl
                    have hcz53_8 : wr.cell? ⟨gb311, 8, none⟩ = some (.string a1_8) := (blk_cell BK311.out 8).trans rfl
                    have hcz53_9 : wr.cell? ⟨gb311, 9, none⟩ = some (.slice A1_9 l1_9.length c1_9) := (blk_cell BK311.out 9).trans rfl
                    have hcz53_10 : wr.cell? ⟨gb311, 10, none⟩ = some (.string a1_10) := (blk_cell BK311.out 10).trans rfl
                    have hcz53_11 : wr.cell? ⟨gb311, 11, none⟩ = some (.int .u32 a1_11) := (blk_cell BK311.out 11).trans rfl
                    have hcz53_12 : wr.cell? ⟨gb311, 12, none⟩ = some (.int .i64 a1_12) := (blk_cell BK311.out 12).trans rfl
                    have hfz53_0 := blk_frozen BK311.out 0
                    have hfz53_1 := blk_frozen BK311.out 1
                    have hfz53_2 := blk_frozen BK311.out 2
                    have hfz53_3 := blk_frozen BK311.out 3
                    have hfz53_4 := blk_frozen BK311.out 4
                    have hfz53_5 := blk_frozen BK311.out 5
                    have hfz53_6 := blk_frozen BK311.out 6
                    have hfz53_7 := blk_frozen BK311.out 7
                    have hfz53_8 := blk_frozen BK311.out 8
                    have hfz53_9 := blk_frozen BK311.out 9
                    have hfz53_10 := blk_frozen BK311.out 10
                    have hfz53_11 := blk_frozen BK311.out 11
                    have hfz53_12 := blk_frozen BK311.out 12
                    go_wp2
                    repeat (go_quiet (fail); try go_wp2)
                    go_ret
                    exact ⟨by first | rfl | (simp [errW_none, errW_some] <;> rfl) | (simp [*, errW_none, errW_some] <;> rfl), by repeat (first | (with_reducible first | exact HB.out | apply below_alloc | apply pw_below_drewN | apply below_drew1 | refine below_set ?_ GE310.out | refine below_set ?_ GE311.out) | exact HB.out)⟩
                · rw [if_neg c22] at H
                  have c22b0 : (a0_3 == a1_3) = false := beq_eq_false_iff_ne.mpr c22
                  have c22b1 : (a0_3 != a1_3) = true := bne_iff_ne.mpr c22
                  obtain rfl := Option.some.inj H
                  have hnb54 := NB310_311.out
                  have hnc54 := NB311_310.out
                  have hcz55_0 : wr.cell? ⟨gb310, 0, none⟩ = some (.int .i64 a0_0) := (blk_cell BK310.out 0).trans rfl
                  have hcz55_1 : wr.cell? ⟨gb310, 1, none⟩ = some (.int .i64 a0_1) := (blk_cell BK310.out 1).trans rfl
                  have hcz55_2 : wr.cell? ⟨gb310, 2, none⟩ = some (.int .i64 a0_2) := (blk_cell BK310.out 2).trans rfl
                  have hcz55_3 : wr.cell? ⟨gb310, 3, none⟩ = some (.int .i64 a0_3) := (blk_cell BK310.out 3).trans rfl
                  have hcz55_4 : wr.cell? ⟨gb310, 4, none⟩ = some (.int .i64 a0_4) := (blk_cell BK310.out 4).trans rfl
                  have hcz55_5 : wr.cell? ⟨gb310, 5, none⟩ = some (.int .u32 a0_5) := (blk_cell BK310.out 5).trans rfl
                  have hcz55_6 : wr.cell? ⟨gb310, 6, none⟩ = some (.int .i64 a0_6) := (blk_cell BK310.out 6).trans rfl
                  have hcz55_7 : wr.cell? ⟨gb310, 7, none⟩ = some (.int .i64 a0_7) := (blk_cell BK310.out 7).trans rfl
                  have hcz55_8 : wr.cell? ⟨gb310, 8, none⟩ = some (.string a0_8) := (blk_cell BK310.out 8).trans rfl
                  have hcz55_9 : wr.cell? ⟨gb310, 9, none⟩ = some (.slice A0_9 l0_9.length c0_9) := (blk_cell BK310.out 9).trans rfl
                  have hcz55_10 : wr.cell? ⟨gb310, 10, none⟩ = some (.string a0_10) := (blk_cell BK310.out 10).trans rfl
                  have hcz55_11 : wr.cell? ⟨gb310, 11, none⟩ = some (.int .u32 a0_11) := (blk_cell BK310.out 11).trans rfl
                  have hcz55_12 : wr.cell? ⟨gb310, 12, none⟩ = some (.int .i64 a0_12) := (blk_cell BK310.out 12).trans rfl
                  have hfz55_0 := blk_frozen BK310.out 0
                  have hfz55_1 := blk_frozen BK310.out 1
                  have hfz55_2 := blk_frozen BK310.out 2
                  have hfz55_3 := blk_frozen BK310.out 3
                  have hfz55_4 := blk_frozen BK310.out 4
                  have hfz55_5 := blk_frozen BK310.out 5
                  have hfz55_6 := blk_frozen BK310.out 6
                  have hfz55_7 := blk_frozen BK310.out 7
                  have hfz55_8 := blk_frozen BK310.out 8
                  have hfz55_9 := blk_frozen BK310.out 9
                  have hfz55_10 := blk_frozen BK310.out 10
                  have hfz55_11 := blk_frozen BK310.out 11
                  have hfz55_12 := blk_frozen BK310.out 12
                  have hcz56_0 : wr.cell? ⟨gb311, 0, none⟩ = some (.int .i64 a1_0) := (blk_cell BK311.out 0).trans rfl
                  have hcz56_1 : wr.cell? ⟨gb311, 1, none⟩ = some (.int .i64 a1_1) := (blk_cell BK311.out 1).trans rfl
                  have hcz56_2 : wr.cell? ⟨gb311, 2, none⟩ = some (.int .i64 a1_2) := (blk_cell BK311.out 2).trans rfl
                  have hcz56_3 : wr.cell? ⟨gb311, 3, none⟩ = some (.int .i64 a1_3) := (blk_cell BK311.out 3).trans rfl
                  have hcz56_4 : wr.cell? ⟨gb311, 4, none⟩ = some (.int .i64 a1_4) := (blk_cell BK311.out 4).trans rfl
                  have hcz56_5 : wr.cell? ⟨gb311, 5, none⟩ = some (.int .u32 a1_5) := (blk_cell BK311.out 5).trans rfl
                  have hcz56_6 : wr.cell? ⟨gb311, 6, none⟩ = some (.int .i64 a1_6) := (blk_cell BK311.out 6).trans rfl
                  have hcz56_7 : wr.cell? ⟨gb311, 7, none⟩ = some (.int .i64 a1_7) := (blk_cell BK311.out 7).trans rfl
                  have hcz56_8 : wr.cell? ⟨gb311, 8, none⟩ = some (.string a1_8) := (blk_cell BK311.out 8).trans rfl
                  have hcz56_9 : wr.cell? ⟨gb311, 9, none⟩ = some (.slice A1_9 l1_9.length c1_9) := (blk_cell BK311.out 9).trans rfl
                  have hcz56_10 : wr.cell? ⟨gb311, 10, none⟩ = some (.string a1_10) := (blk_cell BK311.out 10).trans rfl
                  have hcz56_11 : wr.cell? ⟨gb311, 11, none⟩ = some (.int .u32 a1_11) := (blk_cell BK311.out 11).trans rfl
                  have hcz56_12 : wr.cell? ⟨gb311, 12, none⟩ = some (.int .i64 a1_12) := (blk_cell BK311.out 12).trans rfl
                  have hfz56_0 := blk_frozen BK311.out 0
                  have hfz56_1 := blk_frozen BK311.out 1
                  have hfz56_2 := blk_frozen BK311.out 2
                  have hfz56_3 := blk_frozen BK311.out 3
                  have hfz56_4 := blk_frozen BK311.out 4
                  have hfz56_5 := blk_frozen BK311.out 5
                  have hfz56_6 := blk_frozen BK311.out 6
                  have hfz56_7 := blk_frozen BK311.out 7
                  have hfz56_8 := blk_frozen BK311.out 8
                  have hfz56_9 := blk_frozen BK311.out 9
                  have hfz56_10 := blk_frozen BK311.out 10
                  have hfz56_11 := blk_frozen BK311.out 11
                  have hfz56_12 := blk_frozen BK311.out 12
                  go_wp2
                  repeat (go_quiet (fail); try go_wp2)
                  go_ret
                  exact ⟨by first | rfl | (simp [errW_none, errW_some] <;> rfl) | (simp [*, errW_none, errW_some] <;> rfl), by repeat (first | (with_reducible first | exact HB.out | apply below_alloc | apply pw_below_drewN | apply below_drew1 | refine below_set ?_ GE310.out | refine below_set ?_ GE311.out) | exact HB.out)⟩
              · rw [if_neg c21] at H
                have c21b0 : (a0_2 == a1_2) = false := beq_eq_false_iff_ne.mpr c21
                have c21b1 : (a0_2 != a1_2) = true := bne_iff_ne.mpr c21
                obtain rfl := Option.some.inj H
                have hnb57 := NB310_311.out
                have hnc57 := NB311_310.out
                have hcz58_0 : wr.cell? ⟨gb310, 0, none⟩ = some (.int .i64 a0_0) := (blk_cell BK310.out 0).trans rfl
                have hcz58_1 : wr.cell? ⟨gb310, 1, none⟩ = some (.int .i64 a0_1) := (blk_cell BK310.out 1).trans rfl
                have hcz58_2 : wr.cell? ⟨gb310, 2, none⟩ = some (.int .i64 a0_2) := (blk_cell BK310.out 2).trans rfl
                have hcz58_3 : wr.cell? ⟨gb310, 3, none⟩ = some (.int .i64 a0_3) := (blk_cell BK310.out 3).trans rfl
                have hcz58_4 : wr.cell? ⟨gb310, 4, none⟩ = some (.int .i64 a0_4) := (blk_cell BK310.out 4).trans rfl
                have hcz58_5 : wr.cell? ⟨gb310, 5, none⟩ = some (.int .u32 a0_5) := (blk_cell BK310.out 5).trans rfl
                have hcz58_6 : wr.cell? ⟨gb310, 6, none⟩ = some (.int .i64 a0_6) := (blk_cell BK310.out 6).trans rfl
                have hcz58_7 : wr.cell? ⟨gb310, 7, none⟩ = some (.int .i64 a0_7) := (blk_cell BK310.out 7).trans rfl
                have hcz58_8 : wr.cell? ⟨gb310, 8, none⟩ = some (.string a0_8) := (blk_cell BK310.out 8).trans rfl
                have hcz58_9 : wr.cell? ⟨gb310, 9, none⟩ = some (.slice A0_9 l0_9.length c0_9) := (blk_cell BK310.out 9).trans rfl
                have hcz58_10 : wr.cell? ⟨gb310, 10, none⟩ = some (.string a0_10) := (blk_cell BK310.out 10).trans rfl
                have hcz58_11 : wr.cell? ⟨gb310, 11, none⟩ = some (.int .u32 a0_11) := (blk_cell BK310.out 11).trans rfl
                have hcz58_12 : wr.cell? ⟨gb310, 12, none⟩ = some (.int .i64 a0_12) := (blk_cell BK310.out 12).trans rfl
                have hfz58_0 := blk_frozen BK310.out 0
                have hfz58_1 := blk_frozen BK310.out 1
                have hfz58_2 := blk_frozen BK310.out 2
                have hfz58_3 := blk_frozen BK310.out 3
                have hfz58_4 := blk_frozen BK310.out 4
                have hfz58_5 := blk_frozen BK310.out 5
                have hfz58_6 := blk_frozen BK310.out 6
                have hfz58_7 := blk_frozen BK310.out 7
                have hfz58_8 := blk_frozen BK310.out 8
                have hfz58_9 := blk_frozen BK310.out 9
                have hfz58_10 := blk_frozen BK310.out 10
                have hfz58_11 := blk_frozen BK310.out 11
                have hfz58_12 := blk_frozen BK310.out 12
                have hcz59_0 : wr.cell? ⟨gb311, 0, none⟩ = some (.int .i64 a1_0) := (blk_cell BK311.out 0).trans rfl
                have hcz59_1 : wr.cell? ⟨gb311, 1, none⟩ = some (.int .i64 a1_1) := (blk_cell BK311.out 1).trans rfl
                have hcz59_2 : wr.cell? ⟨gb311, 2, none⟩ = some (.int .i64 a1_2) := (blk_cell BK311.out 2).trans rfl
                have hcz59_3 : wr.cell? ⟨gb311, 3, none⟩ = some (.int .i64 a1_3) := (blk_cell BK311.out 3).trans rfl
                have hcz59_4 : wr.cell? ⟨gb311, 4, none⟩ = some (.int .i64 a1_4) := (blk_cell BK311.out 4).trans rfl
                have hcz59_5 : wr.cell? ⟨gb311, 5, none⟩ = some (.int .u32 a1_5) := (blk_cell BK311.out 5).trans rfl
                have hcz59_6 : wr.cell? ⟨gb311, 6, none⟩ = some (.int .i64 a1_6) := (blk_cell BK311.out 6).trans rfl
                have hcz59_7 : wr.cell? ⟨gb311, 7, none⟩ = some (.int .i64 a1_7) := (blk_cell BK311.out 7).trans rfl
                have hcz59_8 : wr.cell? ⟨gb311, 8, none⟩ = some (.string a1_8) := (blk_cell BK311.out 8).trans rfl
                have hcz59_9 : wr.cell? ⟨gb311, 9, none⟩ = some (.slice A1_9 l1_9.length c1_9) := (blk_cell BK311.out 9).trans rfl
                have hcz59_10 : wr.cell? ⟨gb311, 10, none⟩ = some (.string a1_10) := (blk_cell BK311.out 10).trans rfl
                have hcz59_11 : wr.cell? ⟨gb311, 11, none⟩ = some (.int .u32 a1_11) := (blk_cell BK311.out 11).trans rfl
                have hcz59_12 : wr.cell? ⟨gb311, 12, none⟩ = some (.int .i64 a1_12) := (blk_cell BK311.out 12).trans rfl
                have hfz59_0 := blk_frozen BK311.out 0
                have hfz59_1 := blk_frozen BK311.out 1
                have hfz59_2 := blk_frozen BK311.out 2
                have hfz59_3 := blk_frozen BK311.out 3
                have hfz59_4 := blk_frozen BK311.out 4
                have hfz59_5 := blk_frozen BK311.out 5
                have hfz59_6 := blk_frozen BK311.out 6
                have hfz59_7 := blk_frozen BK311.out 7
                have hfz59_8 := blk_frozen BK311.out 8
                have hfz59_9 := blk_frozen BK311.out 9
                have hfz59_10 := blk_frozen BK311.out 10
                have hfz59_11 := blk_frozen BK311.out 11
                have hfz59_12 := blk_frozen BK311.out 12
                go_wp2
                repeat (go_quiet (fail); try go_wp2)
                go_ret
                exact ⟨by first | rfl | (simp [errW_none, errW_some] <;> rfl) | (simp [*, errW_none, errW_some] <;> rfl), by repeat (first | (with_reducible first | exact HB.out | apply below_alloc | apply pw_below_drewN | apply below_drew1 | refine below_set ?_ GE310.out | refine below_set ?_ GE311.out) | exact HB.out)⟩
            · rw [if_neg c20] at H
              have c20b0 : (a0_1 == a1_1) = false := beq_eq_false_iff_ne.mpr c20
              have c20b1 : (a0_1 != a1_1) = true := bne_iff_ne.mpr c20
              obtain rfl := Option.some.inj H
              have hnb60 := NB310_311.out
              have hnc60 := NB311_310.out
              have hcz61_0 : wr.cell? ⟨gb310, 0, none⟩ = some (.int .i64 a0_0) := (blk_cell BK310.out 0).trans rfl
              have hcz61_1 : wr.cell? ⟨gb310, 1, none⟩ = some (.int .i64 a0_1) := (blk_cell BK310.out 1).trans rfl
              have hcz61_2 : wr.cell? ⟨gb310, 2, none⟩ = some (.int .i64 a0_2) := (blk_cell BK310.out 2).trans rfl
              have hcz61_3 : wr.cell? ⟨gb310, 3, none⟩ = some (.int .i64 a0_3) := (blk_cell BK310.out 3).trans rfl
              have hcz61_4 : wr.cell? ⟨gb310, 4, none⟩ = some (.int .i64 a0_4) := (blk_cell BK310.out 4).trans rfl
              have hcz61_5 : wr.cell? ⟨gb310, 5, none⟩ = some (.int .u32 a0_5) := (blk_cell BK310.out 5).trans rfl
              have hcz61_6 : wr.cell? ⟨gb310, 6, none⟩ = some (.int .i64 a0_6) := (blk_cell BK310.out 6).trans rfl
              have hcz61_7 : wr.cell? ⟨gb310, 7, none⟩ = some (.int .i64 a0_7) := (blk_cell BK310.out 7).trans rfl
              have hcz61_8 : wr.cell? ⟨gb310, 8, none⟩ = some (.string a0_8) := (blk_cell BK310.out 8).trans rfl
              have hcz61_9 : wr.cell? ⟨gb310, 9, none⟩ = some (.slice A0_9 l0_9.length c0_9) := (blk_cell BK310.out 9).trans rfl
              have hcz61_10 : wr.cell? ⟨gb310, 10, none⟩ = some (.string a0_10) := (blk_cell BK310.out 10).trans rfl
              have hcz61_11 : wr.cell? ⟨gb310, 11, none⟩ = some (.int .u32 a0_11) := (blk_cell BK310.out 11).trans rfl
              have hcz61_12 : wr.cell? ⟨gb310, 12, none⟩ = some (.int .i64 a0_12) := (blk_cell BK310.out 12).trans rfl
              have hfz61_0 := blk_frozen BK310.out 0
              have hfz61_1 := blk_frozen BK310.out 1
              have hfz61_2 := blk_frozen BK310.out 2
              have hfz61_3 := blk_frozen BK310.out 3
              have hfz61_4 := blk_frozen BK310.out 4
              have hfz61_5 := blk_frozen BK310.out 5
              have hfz61_6 := blk_frozen BK310.out 6
              have hfz61_7 := blk_frozen BK310.out 7
              have hfz61_8 := blk_frozen BK310.out 8
              have hfz61_9 := blk_frozen BK310.out 9
              have hfz61_10 := blk_frozen BK310.out 10
              have hfz61_11 := blk_frozen BK310.out 11
              have hfz61_12 := blk_frozen BK310.out 12
              have hcz62_0 : wr.cell? ⟨gb311, 0, none⟩ = some (.int .i64 a1_0) := (blk_cell BK311.out 0).trans rfl
              have hcz62_1 : wr.cell? ⟨gb311, 1, none⟩ = some (.int .i64 a1_1) := (blk_cell BK311.out 1).trans rfl
              have hcz62_2 : wr.cell? ⟨gb311, 2, none⟩ = some (.int .i64 a1_2) := (blk_cell BK311.out 2).trans rfl
              have hcz62_3 : wr.cell? ⟨gb311, 3, none⟩ = some (.int .i64 a1_3) := (blk_cell BK311.out 3).trans rfl
              have hcz62_4 : wr.cell? ⟨gb311, 4, none⟩ = some (.int .i64 a1_4) := (blk_cell BK311.out 4).trans rfl
              have hcz62_5 : wr.cell? ⟨gb311, 5, none⟩ = some (.int .u32 a1_5) := (blk_cell BK311.out 5).trans rfl
              have hcz62_6 : wr.cell? ⟨gb311, 6, none⟩ = some (.int .i64 a1_6) := (blk_cell BK311.out 6).trans rfl
              have hcz62_7 : wr.cell? ⟨gb311, 7, none⟩ = some (.int .i64 a1_7) := (blk_cell BK311.out 7).trans rfl
              have hcz62_8 : wr.cell? ⟨gb311, 8, none⟩ = some (.string a1_8) := (blk_cell BK311.out 8).trans rfl
              have hcz62_9 : wr.cell? ⟨gb311, 9, none⟩ = some (.slice A1_9 l1_9.length c1_9) := (blk_cell BK311.out 9).trans rfl
              have hcz62_10 : wr.cell? ⟨gb311, 10, none⟩ = some (.string a1_10) := (blk_cell BK311.out 10).trans rfl
              have hcz62_11 : wr.cell? ⟨gb311, 11, none⟩ = some (.int .u32 a1_11) := (blk_cell BK311.out 11).trans rfl
              have hcz62_12 : wr.cell? ⟨gb311, 12, none⟩ = some (.int .i64 a1_12) := (blk_cell BK311.out 12).trans rfl
              have hfz62_0 := blk_frozen BK311.out 0
              have hfz62_1 := blk_frozen BK311.out 1
              have hfz62_2 := blk_frozen BK311.out 2
              have hfz62_3 := blk_frozen BK311.out 3
              have hfz62_4 := blk_frozen BK311.out 4
              have hfz62_5 := blk_frozen BK311.out 5
              have hfz62_6 := blk_frozen BK311.out 6
              have hfz62_7 := blk_frozen BK311.out 7
              have hfz62_8 := blk_frozen BK311.out 8
              have hfz62_9 := blk_frozen BK311.out 9
              have hfz62_10 := blk_frozen BK311.out 10
              have hfz62_11 := blk_frozen BK311.out 11
              have hfz62_12 := blk_frozen BK311.out 12
              go_wp2
              repeat (go_quiet (fail); try go_wp2)
              go_ret
              exact ⟨by first | rfl | (simp [errW_none, errW_some] <;> rfl) | (simp [*, errW_none, errW_some] <;> rfl), by repeat (first | (with_reducible first | exact HB.out | apply below_alloc | apply pw_below_drewN | apply below_drew1 | refine below_set ?_ GE310.out | refine below_set ?_ GE311.out) | exact HB.out)⟩
          · rw [if_neg c19] at H
            have c19b0 : (a0_0 == a1_0) = false := beq_eq_false_iff_ne.mpr c19
            have c19b1 : (a0_0 != a1_0) = true := bne_iff_ne.mpr c19
            obtain rfl := Option.some.inj H
            have hnb63 := NB310_311.out
            have hnc63 := NB311_310.out
            have hcz64_0 : wr.cell? ⟨gb310, 0, none⟩ = some (.int .i64 a0_0) := (blk_cell BK310.out 0).trans rfl
            have hcz64_1 : wr.cell? ⟨gb310, 1, none⟩ = some (.int .i64 a0_1) := (blk_cell BK310.out 1).trans rfl
            have hcz64_2 : wr.cell? ⟨gb310, 2, none⟩ = some (.int .i64 a0_2) := (blk_cell BK310.out 2).trans rfl
            have hcz64_3 : wr.cell? ⟨gb310, 3, none⟩ = some (.int .i64 a0_3) := (blk_cell BK310.out 3).trans rfl
            have hcz64_4 : wr.cell? ⟨gb310, 4, none⟩ = some (.int .i64 a0_4) := (blk_cell BK310.out 4).trans rfl
            have hcz64_5 : wr.cell? ⟨gb310, 5, none⟩ = some (.int .u32 a0_5) := (blk_cell BK310.out 5).trans rfl
            have hcz64_6 : wr.cell? ⟨gb310, 6, none⟩ = some (.int .i64 a0_6) := (blk_cell BK310.out 6).trans rfl
            have hcz64_7 : wr.cell? ⟨gb310, 7, none⟩ = some (.int .i64 a0_7) := (blk_cell BK310.out 7).trans rfl
            have hcz64_8 : wr.cell? ⟨gb310, 8, none⟩ = some (.string a0_8) := (blk_cell BK310.out 8).trans rfl
            have hcz64_9 : wr.cell? ⟨gb310, 9, none⟩ = some (.slice A0_9 l0_9.length c0_9) := (blk_cell BK310.out 9).trans rfl
            have hcz64_10 : wr.cell? ⟨gb310, 10, none⟩ = some (.string a0_10) := (blk_cell BK310.out 10).trans rfl
            have hcz64_11 : wr.cell? ⟨gb310, 11, none⟩ = some (.int .u32 a0_11) := (blk_cell BK310.out 11).trans rfl
            have hcz64_12 : wr.cell? ⟨gb310, 12, none⟩ = some (.int .i64 a0_12) := (blk_cell BK310.out 12).trans rfl
            have hfz64_0 := blk_frozen BK310.out 0
            have hfz64_1 := blk_frozen BK310.out 1
            have hfz64_2 := blk_frozen BK310.out 2
            have hfz64_3 := blk_frozen BK310.out 3
            have hfz64_4 := blk_frozen BK310.out 4
            have hfz64_5 := blk_frozen BK310.out 5
            have hfz64_6 := blk_frozen BK310.out 6
            have hfz64_7 := blk_frozen BK310.out 7
            have hfz64_8 := blk_frozen BK310.out 8
            have hfz64_9 := blk_frozen BK310.out 9
            have hfz64_10 := blk_frozen BK310.out 10
            have hfz64_11 := blk_frozen BK310.out 11
            have hfz64_12 := blk_frozen BK310.out 12
            have hcz65_0 : wr.cell? ⟨gb311, 0, none⟩ = some (.int .i64 a1_0) := (blk_cell BK311.out 0).trans rfl
            have hcz65_1 : wr.cell? ⟨gb311, 1, none⟩ = some (.int .i64 a1_1) := (blk_cell BK311.out 1).trans rfl
            have hcz65_2 : wr.cell? ⟨gb311, 2, none⟩ = some (.int .i64 a1_2) := (blk_cell BK311.out 2).trans rfl
            have hcz65_3 : wr.cell? ⟨gb311, 3, none⟩ = some (.int .i64 a1_3) := (blk_cell BK311.out 3).trans rfl
            have hcz65_4 : wr.cell? ⟨gb311, 4, none⟩ = some (.int .i64 a1_4) := (blk_cell BK311.out 4).trans rfl
            have hcz65_5 : wr.cell? ⟨gb311, 5, none⟩ = some (.int .u32 a1_5) := (blk_cell BK311.out 5).trans rfl
            have hcz65_6 : wr.cell? ⟨gb311, 6, none⟩ = some (.int .i64 a1_6) := (blk_cell BK311.out 6).trans rfl
            have hcz65_7 : wr.cell? ⟨gb311, 7, none⟩ = some (.int .i64 a1_7) := (blk_cell BK311.out 7).trans rfl
            have hcz65_8 : wr.cell? ⟨gb311, 8, none⟩ = some (.string a1_8) := (blk_cell BK311.out 8).trans rfl
            have hcz65_9 : wr.cell? ⟨gb311, 9, none⟩ = some (.slice A1_9 l1_9.length c1_9) := (blk_cell BK311.out 9).trans rfl
            have hcz65_10 : wr.cell? ⟨gb311, 10, none⟩ = some (.string a1_10) := (blk_cell BK311.out 10).trans rfl
            have hcz65_11 : wr.cell? ⟨gb311, 11, none⟩ = some (.int .u32 a1_11) := (blk_cell BK311.out 11).trans rfl
            have hcz65_12 : wr.cell? ⟨gb311, 12, none⟩ = some (.int .i64 a1_12) := (blk_cell BK311.out 12).trans rfl
            have hfz65_0 := blk_frozen BK311.out 0
            have hfz65_1 := blk_frozen BK311.out 1
            have hfz65_2 := blk_frozen BK311.out 2
            have hfz65_3 := blk_frozen BK311.out 3
            have hfz65_4 := blk_frozen BK311.out 4
            have hfz65_5 := blk_frozen BK311.out 5
            have hfz65_6 := blk_frozen BK311.out 6
            have hfz65_7 := blk_frozen BK311.out 7
            have hfz65_8 := blk_frozen BK311.out 8
            have hfz65_9 := blk_frozen BK311.out 9
            have hfz65_10 := blk_frozen BK311.out 10
            have hfz65_11 := blk_frozen BK311.out 11
            have hfz65_12 := blk_frozen BK311.out 12
            go_wp2
            repeat (go_quiet (fail); try go_wp2)
            go_ret
            exact ⟨by first | rfl | (simp [errW_none, errW_some] <;> rfl) | (simp [*, errW_none, errW_some] <;> rfl), by repeat (first | (with_reducible first | exact HB.out | apply below_alloc | apply pw_below_drewN | apply below_drew1 | refine below_set ?_ GE310.out | refine below_set ?_ GE311.out) | exact HB.out)⟩
  · rw [if_neg c3] at H
    have c3b0 : ((l0_9.length : Int) == (l1_9.length : Int)) = false := beq_eq_false_iff_ne.mpr c3
    have c3b1 : ((l0_9.length : Int) != (l1_9.length : Int)) = true := bne_iff_ne.mpr c3
    have c3b2 : (l0_9.length == l1_9.length) = false := by first | simpa using c3 | (simp at c3 ⊢; omega)
    obtain rfl := Option.some.inj H
    go_enter Try.func17, Try.ntmps17
    go_wp2_with (first | ((with_reducible refine gate_dst (N := 2) rfl ?_); refine box_event ?hg (N := 2) ?hd (cs := #[.int .i64 a0_0, .int .i64 a0_1, .int .i64 a0_2, .int .i64 a0_3, .int .i64 a0_4, .int .u32 a0_5, .int .i64 a0_6, .int .i64 a0_7, .string a0_8, .slice A0_9 l0_9.length c0_9, .string a0_10, .int .u32 a0_11, .int .i64 a0_12]) (t := 36) ?hr ?_; (case hd => rfl); (case hg => rfl); (case hr => first | (go_simp; done) | (go_simp; rfl)); intro gb310 hg w66 hbox hb; have n0_ := Aside0.mk (below_step (by repeat (first | (with_reducible first | exact HB.out | apply below_alloc | apply pw_below_drewN | apply below_drew1) | exact HB.out)) hb); have n1_ := Aside0.mk (hbox); have n2_ := Aside0.mk ((by rw [hg]; exact (below_size (by repeat (first | (with_reducible first | exact HB.out | apply below_alloc | apply pw_below_drewN | apply below_drew1) | exact HB.out))) : w.heap.size ≤ gb310)); have n3_ := Aside0.mk ((by rw [hg]; exact (below_size (by repeat (first | (with_reducible first | exact HB.out | apply below_alloc | apply pw_below_drewN | apply below_drew1) | exact HB.out))) : w.heap.size ≤ gb310)); clear HB; have HB := n0_; have BK310 := n1_; have GW310 := n2_; have GE310 := n3_; clear n0_ n1_ n2_ n3_; clear hb hbox hg) | ((with_reducible refine gate_dst (N := 3) rfl ?_); refine box_event ?hg (N := 3) ?hd (cs := #[.int .i64 a1_0, .int .i64 a1_1, .int .i64 a1_2, .int .i64 a1_3, .int .i64 a1_4, .int .u32 a1_5, .int .i64 a1_6, .int .i64 a1_7, .string a1_8, .slice A1_9 l1_9.length c1_9, .string a1_10, .int .u32 a1_11, .int .i64 a1_12]) (t := 36) ?hr ?_; (case hd => rfl); (case hg => rfl); (case hr => first | (go_simp; done) | (go_simp; rfl)); intro gb311 hg w67 hbox hb; have n0_ := Aside0.mk (blk_below (g := gb310) (o := .cells #[.int .i64 a0_0, .int .i64 a0_1, .int .i64 a0_2, .int .i64 a0_3, .int .i64 a0_4, .int .u32 a0_5, .int .i64 a0_6, .int .i64 a0_7, .string a0_8, .slice A0_9 l0_9.length c0_9, .string a0_10, .int .u32 a0_11, .int .i64 a0_12] 36 (0, 0)) (by (with_reducible repeat (first | refine blk_drewN ?_ _ | refine blk_drew ?_ | refine blk_alloc ?_ _)); exact BK310.out) hb); have n1_ := Aside0.mk (below_step (by repeat (first | (with_reducible first | exact HB.out | apply below_alloc | apply pw_below_drewN | apply below_drew1 | refine below_set ?_ GE310.out) | exact HB.out)) hb); have n2_ := Aside0.mk (hbox); have n3_ := Aside0.mk ((by rw [hg]; exact (below_size (by repeat (first | (with_reducible first | exact HB.out | apply below_alloc | apply pw_below_drewN | apply below_drew1 | refine below_set ?_ GE310.out) | exact HB.out))) : w.heap.size ≤ gb311)); have n4_ := Aside0.mk ((by rw [hg]; exact (below_size (by repeat (first | (with_reducible first | exact HB.out | apply below_alloc | apply pw_below_drewN | apply below_drew1 | refine below_set ?_ GE310.out) | exact HB.out))) : w.heap.size ≤ gb311)); have n5_ := Aside0.mk ((by rw [hg]; exact Nat.ne_of_lt (blk_lt (g := gb310) (o := .cells #[.int .i64 a0_0, .int .i64 a0_1, .int .i64 a0_2, .int .i64 a0_3, .int .i64 a0_4, .int .u32 a0_5, .int .i64 a0_6, .int .i64 a0_7, .string a0_8, .slice A0_9 l0_9.length c0_9, .string a0_10, .int .u32 a0_11, .int .i64 a0_12] 36 (0, 0)) (by (with_reducible repeat (first | refine blk_drewN ?_ _ | refine blk_drew ?_ | refine blk_alloc ?_ _)); exact BK310.out)) : gb310 ≠ gb311)); have n6_ := Aside0.mk ((by rw [hg]; exact Nat.ne_of_gt (blk_lt (g := gb310) (o := .cells #[.int .i64 a0_0, .int .i64 a0_1, .int .i64 a0_2, .int .i64 a0_3, .int .i64 a0_4, .int .u32 a0_5, .int .i64 a0_6, .int .i64 a0_7, .string a0_8, .slice A0_9 l0_9.length c0_9, .string a0_10, .int .u32 a0_11, .int .i64 a0_12] 36 (0, 0)) (by (with_reducible repeat (first | refine blk_drewN ?_ _ | refine blk_drew ?_ | refine blk_alloc ?_ _)); exact BK310.out)) : gb311 ≠ gb310)); clear BK310; clear HB; have BK310 := n0_; have HB := n1_; have BK311 := n2_; have GW311 := n3_; have GE311 := n4_; have NB310_311 := n5_; have NB311_310 := n6_; clear n0_ n1_ n2_ n3_ n4_ n5_ n6_; clear hb hbox hg; have hnb68 := NB310_311.out; have hnc68 := NB311_310.out; have hcz69_0 : w67.cell? ⟨gb310, 0, none⟩ = some (.int .i64 a0_0) := (blk_cell BK310.out 0).trans rfl; have hcz69_1 : w67.cell? ⟨gb310, 1, none⟩ = some (.int .i64 a0_1) := (blk_cell BK310.out 1).trans rfl; have hcz69_2 : w67.cell? ⟨gb310, 2, none⟩ = some (.int .i64 a0_2) := (blk_cell BK310.out 2).trans rfl; have hcz69_3 : w67.cell? ⟨gb310, 3, none⟩ = some (.int .i64 a0_3) := (blk_cell BK310.out 3).trans rfl; have hcz69_4 : w67.cell? ⟨gb310, 4, none⟩ = some (.int .i64 a0_4) := (blk_cell BK310.out 4).trans rfl; have hcz69_5 : w67.cell? ⟨gb310, 5, none⟩ = some (.int .u32 a0_5) := (blk_cell BK310.out 5).trans rfl; have hcz69_6 : w67.cell? ⟨gb310, 6, none⟩ = some (.int .i64 a0_6) := (blk_cell BK310.out 6).trans rfl; have hcz69_7 : w67.cell? ⟨gb310, 7, none⟩ = some (.int .i64 a0_7) := (blk_cell BK310.out 7).trans rfl; have hcz69_8 : w67.cell? ⟨gb310, 8, none⟩ = some (.string a0_8) := (blk_cell BK310.out 8).trans rfl; have hcz69_9 : w67.cell? ⟨gb310, 9, none⟩ = some (.slice A0_9 l0_9.length c0_9) := (blk_cell BK310.out 9).trans rfl; have hcz69_10 : w67.cell? ⟨gb310, 10, none⟩ = some (.string a0_10) := (blk_cell BK310.out 10).trans rfl; have hcz69_11 : w67.cell? ⟨gb310, 11, none⟩ = some (.int .u32 a0_11) := (blk_cell BK310.out 11).trans rfl; have hcz69_12 : w67.cell? ⟨gb310, 12, none⟩ = some (.int .i64 a0_12) := (blk_cell BK310.out 12).trans rfl; have hfz69_0 := blk_frozen BK310.out 0; have hfz69_1 := blk_frozen BK310.out 1; have hfz69_2 := blk_frozen BK310.out 2; have hfz69_3 := blk_frozen BK310.out 3; have hfz69_4 := blk_frozen BK310.out 4; have hfz69_5 := blk_frozen BK310.out 5; have hfz69_6 := blk_frozen BK310.out 6; have hfz69_7 := blk_frozen BK310.out 7; have hfz69_8 := blk_frozen BK310.out 8; have hfz69_9 := blk_frozen BK310.out 9; have hfz69_10 := blk_frozen BK310.out 10; have hfz69_11 := blk_frozen BK310.out 11; have hfz69_12 := blk_frozen BK310.out 12; have hcz70_0 : w67.cell? ⟨gb311, 0, none⟩ = some (.int .i64 a1_0) := (blk_cell BK311.out 0).trans rfl; have hcz70_1 : w67.cell? ⟨gb311, 1, none⟩ = some (.int .i64 a1_1) := (blk_cell BK311.out 1).trans rfl; have hcz70_2 : w67.cell? ⟨gb311, 2, none⟩ = some (.int .i64 a1_2) := (blk_cell BK311.out 2).trans rfl; have hcz70_3 : w67.cell? ⟨gb311, 3, none⟩ = some (.int .i64 a1_3) := (blk_cell BK311.out 3).trans rfl; have hcz70_4 : w67.cell? ⟨gb311, 4, none⟩ = some (.int .i64 a1_4) := (blk_cell BK311.out 4).trans rfl; have hcz70_5 : w67.cell? ⟨gb311, 5, none⟩ = some (.int .u32 a1_5) := (blk_cell BK311.out 5).trans rfl; have hcz70_6 : w67.cell? ⟨gb311, 6, none⟩ = some (.int .i64 a1_6) := (blk_cell BK311.out 6).trans rfl; have hcz70_7 : w67.cell? ⟨gb311, 7, none⟩ = some (.int .i64 a1_7) := (blk_cell BK311.out 7).trans rfl; have hcz70_8 : w67.cell? ⟨gb311, 8, none⟩ = some (.string a1_8) := (blk_cell BK311.out 8).trans rfl; have hcz70_9 : w67.cell? ⟨gb311, 9, none⟩ = some (.slice A1_9 l1_9.length c1_9) := (blk_cell BK311.out 9).trans rfl; have hcz70_10 : w67.cell? ⟨gb311, 10, none⟩ = some (.string a1_10) := (blk_cell BK311.out 10).trans rfl; have hcz70_11 : w67.cell? ⟨gb311, 11, none⟩ = some (.int .u32 a1_11) := (blk_cell BK311.out 11).trans rfl; have hcz70_12 : w67.cell? ⟨gb311, 12, none⟩ = some (.int .i64 a1_12) := (blk_cell BK311.out 12).trans rfl; have hfz70_0 := blk_frozen BK311.out 0; have hfz70_1 := blk_frozen BK311.out 1; have hfz70_2 := blk_frozen BK311.out 2; have hfz70_3 := blk_frozen BK311.out 3; have hfz70_4 := blk_frozen BK311.out 4; have hfz70_5 := blk_frozen BK311.out 5; have hfz70_6 := blk_frozen BK311.out 6; have hfz70_7 := blk_frozen BK311.out 7; have hfz70_8 := blk_frozen BK311.out 8; have hfz70_9 := blk_frozen BK311.out 9; have hfz70_10 := blk_frozen BK311.out 10; have hfz70_11 := blk_frozen BK311.out 11; have hfz70_12 := blk_frozen BK311.out 12))
    repeat (go_quiet (first | ((with_reducible refine gate_dst (N := 2) rfl ?_); refine box_event ?hg (N := 2) ?hd (cs := #[.int .i64 a0_0, .int .i64 a0_1, .int .i64 a0_2, .int .i64 a0_3, .int .i64 a0_4, .int .u32 a0_5, .int .i64 a0_6, .int .i64 a0_7, .string a0_8, .slice A0_9 l0_9.length c0_9, .string a0_10, .int .u32 a0_11, .int .i64 a0_12]) (t := 36) ?hr ?_; (case hd => rfl); (case hg => rfl); (case hr => first | (go_simp; done) | (go_simp; rfl)); intro gb310 hg w66 hbox hb; have n0_ := Aside0.mk (below_step (by repeat (first | (with_reducible first | exact HB.out | apply below_alloc | apply pw_below_drewN | apply below_drew1) | exact HB.out)) hb); have n1_ := Aside0.mk (hbox); have n2_ := Aside0.mk ((by rw [hg]; exact (below_size (by repeat (first | (with_reducible first | exact HB.out | apply below_alloc | apply pw_below_drewN | apply below_drew1) | exact HB.out))) : w.heap.size ≤ gb310)); have n3_ := Aside0.mk ((by rw [hg]; exact (below_size (by repeat (first | (with_reducible first | exact HB.out | apply below_alloc | apply pw_below_drewN | apply below_drew1) | exact HB.out))) : w.heap.size ≤ gb310)); clear HB; have HB := n0_; have BK310 := n1_; have GW310 := n2_; have GE310 := n3_; clear n0_ n1_ n2_ n3_; clear hb hbox hg) | ((with_reducible refine gate_dst (N := 3) rfl ?_); refine box_event ?hg (N := 3) ?hd (cs := #[.int .i64 a1_0, .int .i64 a1_1, .int .i64 a1_2, .int .i64 a1_3, .int .i64 a1_4, .int .u32 a1_5, .int .i64 a1_6, .int .i64 a1_7, .string a1_8, .slice A1_9 l1_9.length c1_9, .string a1_10, .int .u32 a1_11, .int .i64 a1_12]) (t := 36) ?hr ?_; (case hd => rfl); (case hg => rfl); (case hr => first | (go_simp; done) | (go_simp; rfl)); intro gb311 hg w67 hbox hb; have n0_ := Aside0.mk (blk_below (g := gb310) (o := .cells #[.int .i64 a0_0, .int .i64 a0_1, .int .i64 a0_2, .int .i64 a0_3, .int .i64 a0_4, .int .u32 a0_5, .int .i64 a0_6, .int .i64 a0_7, .string a0_8, .slice A0_9 l0_9.length c0_9, .string a0_10, .int .u32 a0_11, .int .i64 a0_12] 36 (0, 0)) (by (with_reducible repeat (first | refine blk_drewN ?_ _ | refine blk_drew ?_ | refine blk_alloc ?_ _)); exact BK310.out) hb); have n1_ := Aside0.mk (below_step (by repeat (first | (with_reducible first | exact HB.out | apply below_alloc | apply pw_below_drewN | apply below_drew1 | refine below_set ?_ GE310.out) | exact HB.out)) hb); have n2_ := Aside0.mk (hbox); have n3_ := Aside0.mk ((by rw [hg]; exact (below_size (by repeat (first | (with_reducible first | exact HB.out | apply below_alloc | apply pw_below_drewN | apply below_drew1 | refine below_set ?_ GE310.out) | exact HB.out))) : w.heap.size ≤ gb311)); have n4_ := Aside0.mk ((by rw [hg]; exact (below_size (by repeat (first | (with_reducible first | exact HB.out | apply below_alloc | apply pw_below_drewN | apply below_drew1 | refine below_set ?_ GE310.out) | exact HB.out))) : w.heap.size ≤ gb311)); have n5_ := Aside0.mk ((by rw [hg]; exact Nat.ne_of_lt (blk_lt (g := gb310) (o := .cells #[.int .i64 a0_0, .int .i64 a0_1, .int .i64 a0_2, .int .i64 a0_3, .int .i64 a0_4, .int .u32 a0_5, .int .i64 a0_6, .int .i64 a0_7, .string a0_8, .slice A0_9 l0_9.length c0_9, .string a0_10, .int .u32 a0_11, .int .i64 a0_12] 36 (0, 0)) (by (with_reducible repeat (first | refine blk_drewN ?_ _ | refine blk_drew ?_ | refine blk_alloc ?_ _)); exact BK310.out)) : gb310 ≠ gb311)); have n6_ := Aside0.mk ((by rw [hg]; exact Nat.ne_of_gt (blk_lt (g := gb310) (o := .cells #[.int .i64 a0_0, .int .i64 a0_1, .int .i64 a0_2, .int .i64 a0_3, .int .i64 a0_4, .int .u32 a0_5, .int .i64 a0_6, .int .i64 a0_7, .string a0_8, .slice A0_9 l0_9.length c0_9, .string a0_10, .int .u32 a0_11, .int .i64 a0_12] 36 (0, 0)) (by (with_reducible repeat (first | refine blk_drewN ?_ _ | refine blk_drew ?_ | refine blk_alloc ?_ _)); exact BK310.out)) : gb311 ≠ gb310)); clear BK310; clear HB; have BK310 := n0_; have HB := n1_; have BK311 := n2_; have GW311 := n3_; have GE311 := n4_; have NB310_311 := n5_; have NB311_310 := n6_; clear n0_ n1_ n2_ n3_ n4_ n5_ n6_; clear hb hbox hg; have hnb68 := NB310_311.out; have hnc68 := NB311_310.out; have hcz69_0 : w67.cell? ⟨gb310, 0, none⟩ = some (.int .i64 a0_0) := (blk_cell BK310.out 0).trans rfl; have hcz69_1 : w67.cell? ⟨gb310, 1, none⟩ = some (.int .i64 a0_1) := (blk_cell BK310.out 1).trans rfl; have hcz69_2 : w67.cell? ⟨gb310, 2, none⟩ = some (.int .i64 a0_2) := (blk_cell BK310.out 2).trans rfl; have hcz69_3 : w67.cell? ⟨gb310, 3, none⟩ = some (.int .i64 a0_3) := (blk_cell BK310.out 3).trans rfl; have hcz69_4 : w67.cell? ⟨gb310, 4, none⟩ = some (.int .i64 a0_4) := (blk_cell BK310.out 4).trans rfl; have hcz69_5 : w67.cell? ⟨gb310, 5, none⟩ = some (.int .u32 a0_5) := (blk_cell BK310.out 5).trans rfl; have hcz69_6 : w67.cell? ⟨gb310, 6, none⟩ = some (.int .i64 a0_6) := (blk_cell BK310.out 6).trans rfl; have hcz69_7 : w67.cell? ⟨gb310, 7, none⟩ = some (.int .i64 a0_7) := (blk_cell BK310.out 7).trans rfl; have hcz69_8 : w67.cell? ⟨gb310, 8, none⟩ = some (.string a0_8) := (blk_cell BK310.out 8).trans rfl; have hcz69_9 : w67.cell? ⟨gb310, 9, none⟩ = some (.slice A0_9 l0_9.length c0_9) := (blk_cell BK310.out 9).trans rfl; have hcz69_10 : w67.cell? ⟨gb310, 10, none⟩ = some (.string a0_10) := (blk_cell BK310.out 10).trans rfl; have hcz69_11 : w67.cell? ⟨gb310, 11, none⟩ = some (.int .u32 a0_11) := (blk_cell BK310.out 11).trans rfl; have hcz69_12 : w67.cell? ⟨gb310, 12, none⟩ = some (.int .i64 a0_12) := (blk_cell BK310.out 12).trans rfl; have hfz69_0 := blk_frozen BK310.out 0; have hfz69_1 := blk_frozen BK310.out 1; have hfz69_2 := blk_frozen BK310.out 2; have hfz69_3 := blk_frozen BK310.out 3; have hfz69_4 := blk_frozen BK310.out 4; have hfz69_5 := blk_frozen BK310.out 5; have hfz69_6 := blk_frozen BK310.out 6; have hfz69_7 := blk_frozen BK310.out 7; have hfz69_8 := blk_frozen BK310.out 8; have hfz69_9 := blk_frozen BK310.out 9; have hfz69_10 := blk_frozen BK310.out 10; have hfz69_11 := blk_frozen BK310.out 11; have hfz69_12 := blk_frozen BK310.out 12; have hcz70_0 : w67.cell? ⟨gb311, 0, none⟩ = some (.int .i64 a1_0) := (blk_cell BK311.out 0).trans rfl; have hcz70_1 : w67.cell? ⟨gb311, 1, none⟩ = some (.int .i64 a1_1) := (blk_cell BK311.out 1).trans rfl; have hcz70_2 : w67.cell? ⟨gb311, 2, none⟩ = some (.int .i64 a1_2) := (blk_cell BK311.out 2).trans rfl; have hcz70_3 : w67.cell? ⟨gb311, 3, none⟩ = some (.int .i64 a1_3) := (blk_cell BK311.out 3).trans rfl; have hcz70_4 : w67.cell? ⟨gb311, 4, none⟩ = some (.int .i64 a1_4) := (blk_cell BK311.out 4).trans rfl; have hcz70_5 : w67.cell? ⟨gb311, 5, none⟩ = some (.int .u32 a1_5) := (blk_cell BK311.out 5).trans rfl; have hcz70_6 : w67.cell? ⟨gb311, 6, none⟩ = some (.int .i64 a1_6) := (blk_cell BK311.out 6).trans rfl; have hcz70_7 : w67.cell? ⟨gb311, 7, none⟩ = some (.int .i64 a1_7) := (blk_cell BK311.out 7).trans rfl; have hcz70_8 : w67.cell? ⟨gb311, 8, none⟩ = some (.string a1_8) := (blk_cell BK311.out 8).trans rfl; have hcz70_9 : w67.cell? ⟨gb311, 9, none⟩ = some (.slice A1_9 l1_9.length c1_9) := (blk_cell BK311.out 9).trans rfl; have hcz70_10 : w67.cell? ⟨gb311, 10, none⟩ = some (.string a1_10) := (blk_cell BK311.out 10).trans rfl; have hcz70_11 : w67.cell? ⟨gb311, 11, none⟩ = some (.int .u32 a1_11) := (blk_cell BK311.out 11).trans rfl; have hcz70_12 : w67.cell? ⟨gb311, 12, none⟩ = some (.int .i64 a1_12) := (blk_cell BK311.out 12).trans rfl; have hfz70_0 := blk_frozen BK311.out 0; have hfz70_1 := blk_frozen BK311.out 1; have hfz70_2 := blk_frozen BK311.out 2; have hfz70_3 := blk_frozen BK311.out 3; have hfz70_4 := blk_frozen BK311.out 4; have hfz70_5 := blk_frozen BK311.out 5; have hfz70_6 := blk_frozen BK311.out 6; have hfz70_7 := blk_frozen BK311.out 7; have hfz70_8 := blk_frozen BK311.out 8; have hfz70_9 := blk_frozen BK311.out 9; have hfz70_10 := blk_frozen BK311.out 10; have hfz70_11 := blk_frozen BK311.out 11; have hfz70_12 := blk_frozen BK311.out 12)); try go_wp2_with (first | ((with_reducible refine gate_dst (N := 2) rfl ?_); refine box_event ?hg (N := 2) ?hd (cs := #[.int .i64 a0_0, .int .i64 a0_1, .int .i64 a0_2, .int .i64 a0_3, .int .i64 a0_4, .int .u32 a0_5, .int .i64 a0_6, .int .i64 a0_7, .string a0_8, .slice A0_9 l0_9.length c0_9, .string a0_10, .int .u32 a0_11, .int .i64 a0_12]) (t := 36) ?hr ?_; (case hd => rfl); (case hg => rfl); (case hr => first | (go_simp; done) | (go_simp; rfl)); intro gb310 hg w66 hbox hb; have n0_ := Aside0.mk (below_step (by repeat (first | (with_reducible first | exact HB.out | apply below_alloc | apply pw_below_drewN | apply below_drew1) | exact HB.out)) hb); have n1_ := Aside0.mk (hbox); have n2_ := Aside0.mk ((by rw [hg]; exact (below_size (by repeat (first | (with_reducible first | exact HB.out | apply below_alloc | apply pw_below_drewN | apply below_drew1) | exact HB.out))) : w.heap.size ≤ gb310)); have n3_ := Aside0.mk ((by rw [hg]; exact (below_size (by repeat (first | (with_reducible first | exact HB.out | apply below_alloc | apply pw_below_drewN | apply below_drew1) | exact HB.out))) : w.heap.size ≤ gb310)); clear HB; have HB := n0_; have BK310 := n1_; have GW310 := n2_; have GE310 := n3_; clear n0_ n1_ n2_ n3_; clear hb hbox hg) | ((with_reducible refine gate_dst (N := 3) rfl ?_); refine box_event ?hg (N := 3) ?hd (cs := #[.int .i64 a1_0, .int .i64 a1_1, .int .i64 a1_2, .int .i64 a1_3, .int .i64 a1_4, .int .u32 a1_5, .int .i64 a1_6, .int .i64 a1_7, .string a1_8, .slice A1_9 l1_9.length c1_9, .string a1_10, .int .u32 a1_11, .int .i64 a1_12]) (t := 36) ?hr ?_; (case hd => rfl); (case hg => rfl); (case hr => first | (go_simp; done) | (go_simp; rfl)); intro gb311 hg w67 hbox hb; have n0_ := Aside0.mk (blk_below (g := gb310) (o := .cells #[.int .i64 a0_0, .int .i64 a0_1, .int .i64 a0_2, .int .i64 a0_3, .int .i64 a0_4, .int .u32 a0_5, .int .i64 a0_6, .int .i64 a0_7, .string a0_8, .slice A0_9 l0_9.length c0_9, .string a0_10, .int .u32 a0_11, .int .i64 a0_12] 36 (0, 0)) (by (with_reducible repeat (first | refine blk_drewN ?_ _ | refine blk_drew ?_ | refine blk_alloc ?_ _)); exact BK310.out) hb); have n1_ := Aside0.mk (below_step (by repeat (first | (with_reducible first | exact HB.out | apply below_alloc | apply pw_below_drewN | apply below_drew1 | refine below_set ?_ GE310.out) | exact HB.out)) hb); have n2_ := Aside0.mk (hbox); have n3_ := Aside0.mk ((by rw [hg]; exact (below_size (by repeat (first | (with_reducible first | exact HB.out | apply below_alloc | apply pw_below_drewN | apply below_drew1 | refine below_set ?_ GE310.out) | exact HB.out))) : w.heap.size ≤ gb311)); have n4_ := Aside0.mk ((by rw [hg]; exact (below_size (by repeat (first | (with_reducible first | exact HB.out | apply below_alloc | apply pw_below_drewN | apply below_drew1 | refine below_set ?_ GE310.out) | exact HB.out))) : w.heap.size ≤ gb311)); have n5_ := Aside0.mk ((by rw [hg]; exact Nat.ne_of_lt (blk_lt (g := gb310) (o := .cells #[.int .i64 a0_0, .int .i64 a0_1, .int .i64 a0_2, .int .i64 a0_3, .int .i64 a0_4, .int .u32 a0_5, .int .i64 a0_6, .int .i64 a0_7, .string a0_8, .slice A0_9 l0_9.length c0_9, .string a0_10, .int .u32 a0_11, .int .i64 a0_12] 36 (0, 0)) (by (with_reducible repeat (first | refine blk_drewN ?_ _ | refine blk_drew ?_ | refine blk_alloc ?_ _)); exact BK310.out)) : gb310 ≠ gb311)); have n6_ := Aside0.mk ((by rw [hg]; exact Nat.ne_of_gt (blk_lt (g := gb310) (o := .cells #[.int .i64 a0_0, .int .i64 a0_1, .int .i64 a0_2, .int .i64 a0_3, .int .i64 a0_4, .int .u32 a0_5, .int .i64 a0_6, .int .i64 a0_7, .string a0_8, .slice A0_9 l0_9.length c0_9, .string a0_10, .int .u32 a0_11, .int .i64 a0_12] 36 (0, 0)) (by (with_reducible repeat (first | refine blk_drewN ?_ _ | refine blk_drew ?_ | refine blk_alloc ?_ _)); exact BK310.out)) : gb311 ≠ gb310)); clear BK310; clear HB; have BK310 := n0_; have HB := n1_; have BK311 := n2_; have GW311 := n3_; have GE311 := n4_; have NB310_311 := n5_; have NB311_310 := n6_; clear n0_ n1_ n2_ n3_ n4_ n5_ n6_; clear hb hbox hg; have hnb68 := NB310_311.out; have hnc68 := NB311_310.out; have hcz69_0 : w67.cell? ⟨gb310, 0, none⟩ = some (.int .i64 a0_0) := (blk_cell BK310.out 0).trans rfl; have hcz69_1 : w67.cell? ⟨gb310, 1, none⟩ = some (.int .i64 a0_1) := (blk_cell BK310.out 1).trans rfl; have hcz69_2 : w67.cell? ⟨gb310, 2, none⟩ = some (.int .i64 a0_2) := (blk_cell BK310.out 2).trans rfl; have hcz69_3 : w67.cell? ⟨gb310, 3, none⟩ = some (.int .i64 a0_3) := (blk_cell BK310.out 3).trans rfl; have hcz69_4 : w67.cell? ⟨gb310, 4, none⟩ = some (.int .i64 a0_4) := (blk_cell BK310.out 4).trans rfl; have hcz69_5 : w67.cell? ⟨gb310, 5, none⟩ = some (.int .u32 a0_5) := (blk_cell BK310.out 5).trans rfl; have hcz69_6 : w67.cell? ⟨gb310, 6, none⟩ = some (.int .i64 a0_6) := (blk_cell BK310.out 6).trans rfl; have hcz69_7 : w67.cell? ⟨gb310, 7, none⟩ = some (.int .i64 a0_7) := (blk_cell BK310.out 7).trans rfl; have hcz69_8 : w67.cell? ⟨gb310, 8, none⟩ = some (.string a0_8) := (blk_cell BK310.out 8).trans rfl; have hcz69_9 : w67.cell? ⟨gb310, 9, none⟩ = some (.slice A0_9 l0_9.length c0_9) := (blk_cell BK310.out 9).trans rfl; have hcz69_10 : w67.cell? ⟨gb310, 10, none⟩ = some (.string a0_10) := (blk_cell BK310.out 10).trans rfl; have hcz69_11 : w67.cell? ⟨gb310, 11, none⟩ = some (.int .u32 a0_11) := (blk_cell BK310.out 11).trans rfl; have hcz69_12 : w67.cell? ⟨gb310, 12, none⟩ = some (.int .i64 a0_12) := (blk_cell BK310.out 12).trans rfl; have hfz69_0 := blk_frozen BK310.out 0; have hfz69_1 := blk_frozen BK310.out 1; have hfz69_2 := blk_frozen BK310.out 2; have hfz69_3 := blk_frozen BK310.out 3; have hfz69_4 := blk_frozen BK310.out 4; have hfz69_5 := blk_frozen BK310.out 5; have hfz69_6 := blk_frozen BK310.out 6; have hfz69_7 := blk_frozen BK310.out 7; have hfz69_8 := blk_frozen BK310.out 8; have hfz69_9 := blk_frozen BK310.out 9; have hfz69_10 := blk_frozen BK310.out 10; have hfz69_11 := blk_frozen BK310.out 11; have hfz69_12 := blk_frozen BK310.out 12; have hcz70_0 : w67.cell? ⟨gb311, 0, none⟩ = some (.int .i64 a1_0) := (blk_cell BK311.out 0).trans rfl; have hcz70_1 : w67.cell? ⟨gb311, 1, none⟩ = some (.int .i64 a1_1) := (blk_cell BK311.out 1).trans rfl; have hcz70_2 : w67.cell? ⟨gb311, 2, none⟩ = some (.int .i64 a1_2) := (blk_cell BK311.out 2).trans rfl; have hcz70_3 : w67.cell? ⟨gb311, 3, none⟩ = some (.int .i64 a1_3) := (blk_cell BK311.out 3).trans rfl; have hcz70_4 : w67.cell? ⟨gb311, 4, none⟩ = some (.int .i64 a1_4) := (blk_cell BK311.out 4).trans rfl; have hcz70_5 : w67.cell? ⟨gb311, 5, none⟩ = some (.int .u32 a1_5) := (blk_cell BK311.out 5).trans rfl; have hcz70_6 : w67.cell? ⟨gb311, 6, none⟩ = some (.int .i64 a1_6) := (blk_cell BK311.out 6).trans rfl; have hcz70_7 : w67.cell? ⟨gb311, 7, none⟩ = some (.int .i64 a1_7) := (blk_cell BK311.out 7).trans rfl; have hcz70_8 : w67.cell? ⟨gb311, 8, none⟩ = some (.string a1_8) := (blk_cell BK311.out 8).trans rfl; have hcz70_9 : w67.cell? ⟨gb311, 9, none⟩ = some (.slice A1_9 l1_9.length c1_9) := (blk_cell BK311.out 9).trans rfl; have hcz70_10 : w67.cell? ⟨gb311, 10, none⟩ = some (.string a1_10) := (blk_cell BK311.out 10).trans rfl; have hcz70_11 : w67.cell? ⟨gb311, 11, none⟩ = some (.int .u32 a1_11) := (blk_cell BK311.out 11).trans rfl; have hcz70_12 : w67.cell? ⟨gb311, 12, none⟩ = some (.int .i64 a1_12) := (blk_cell BK311.out 12).trans rfl; have hfz70_0 := blk_frozen BK311.out 0; have hfz70_1 := blk_frozen BK311.out 1; have hfz70_2 := blk_frozen BK311.out 2; have hfz70_3 := blk_frozen BK311.out 3; have hfz70_4 := blk_frozen BK311.out 4; have hfz70_5 := blk_frozen BK311.out 5; have hfz70_6 := blk_frozen BK311.out 6; have hfz70_7 := blk_frozen BK311.out 7; have hfz70_8 := blk_frozen BK311.out 8; have hfz70_9 := blk_frozen BK311.out 9; have hfz70_10 := blk_frozen BK311.out 10; have hfz70_11 := blk_frozen BK311.out 11; have hfz70_12 := blk_frozen BK311.out 12)))
    go_ret
    exact ⟨by first | rfl | (simp [errW_none, errW_some] <;> rfl) | (simp [*, errW_none, errW_some] <;> rfl), by repeat (first | (with_reducible first | exact HB.out | apply below_alloc | apply pw_below_drewN | apply below_drew1 | refine below_set ?_ GE310.out | refine below_set ?_ GE311.out) | exact HB.out)⟩

end Go.Proofs.Ytlbijehgoiknjaa.PZipdirHeaders
