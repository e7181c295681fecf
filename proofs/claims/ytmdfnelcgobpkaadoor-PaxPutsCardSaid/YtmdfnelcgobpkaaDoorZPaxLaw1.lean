/- Walk of the law PaxMerges. -/
import Derived.Test.YtmdfnelcgobpkaaDoorZPaxPlain
set_option linter.unusedVariables false
set_option linter.unusedSimpArgs false
namespace Go.Proofs.YtmdfnelcgobpkaaDoor.Z
open Go.RowKit Go.Shelf Go.Proofs.YtmdfnelcgobpkaaDoorW.PrintWords Go.Proofs.YtmdfnelcgobpkaaDoorW.PrintLast Go.Proofs.YtmdfnelcgobpkaaDoorW.PrintMore Go.Proofs.YtmdfnelcgobpkaaDoor.PPaxPuts

theorem R_lower {w : World} {base base' : Nat} {ok : Nat → Prop} {v : Value} {xs : List S32} (h : Kd.R k32 32 w base ok v xs) (hb : base' ≤ base) : Kd.R k32 32 w base' ok v xs := by
  rcases row_open h with ⟨rfl, rfl⟩ | ⟨g, cap, T, rfl, hbg, hokg, hnc, hcap, hT, hg⟩
  · exact Kd.R_nil _ _ _ _ _
  · exact row_close (Nat.le_trans hb hbg) hokg hnc hcap hT hg
theorem C_at {w : World} {ad : Addr} {n : Nat} {xs : List S32} (h : Kd.C k32 w (some ad) n xs) (k : Nat) (hk : k < xs.length) : Kd.C k32 w (some (ad.add (k * 2))) 1 [xs[k]] := by
  refine ⟨rfl, by decide, fun _ => ⟨_, rfl, fun j p hj => ?_⟩⟩
  obtain ⟨ad', e, hc⟩ := h.2.2 (by have := h.1; omega)
  cases e
  cases j with
  | zero =>
    simp only [List.getElem?_cons_zero, Option.some.injEq] at hj
    subst hj
    obtain ⟨c, hl, hK, hcell⟩ := hc k xs[k] (List.getElem?_eq_getElem hk)
    refine ⟨c, hl, hK, fun i u hu => ?_⟩
    have := hcell i u hu
    rw [Nat.zero_mul, Nat.zero_add, add_add]
    exact this
  | succ j => simp at hj
/-- What the law wants of the world: MaxLen's cell, the table of powers of ten. -/
structure Wd (m : Int) (w : World) : Prop where
  hm : w.cell? ⟨0, 0, none⟩ = some (.int .i64 m)
  htab : Lib.TabIs Tryd.prog w "internal/strconv.uint64pow10" .u64 Lib.pow10Tab
theorem Wd.below {m : Int} {w w' : World} (h : Wd m w) {B : Nat} (hb : Below w.heap.size w w') : Wd m w' := ⟨pw_cell_below hb h.hm, tab_below h.htab hb⟩
set_option maxHeartbeats 8000000 in
set_option maxRecDepth 100000 in
theorem merges_calls (m : Int) (A : Option Addr) (c : Nat) (l : List S32) (r : S32) (key : ByteArray) (w : World) (hW : Wd m w) (hC : Kd.C k32 w A l.length l) (hc : l.length ≤ c) :
    Calls Tryd.prog 4 #[.slice A l.length c, .agg #[.string r.f0, .string r.f1], .string key] w fun e w' => e = .returned (.bool true) ∧ Below w.heap.size w w' := by
  have HM := Lib.hid (hW.below (B := 0) (below_alloc (Below.refl _ _) (.cells #[.string r.f0, .string r.f1] 32)))
  have HC := Lib.hid (Kd.C_alloc hC (.cells #[.string r.f0, .string r.f1] 32))
  have hbox := Lib.hid (blk_new w (.cells #[.string r.f0, .string r.f1] 32))
  have HB0 := Lib.hid (below_alloc (Below.refl w.heap.size w) (.cells #[.string r.f0, .string r.f1] 32))
  clear hW hC
  go_enter Tryd.func4, Tryd.ntmps4
  go_wp2_with fail
  have HF := Lib.hid (few_calls A c l _ HC.out hc)
  refine HF.out.mono ?_
  clear HF
  rintro e w1 ⟨rfl, hb1⟩
  have HM1 := Lib.hid (HM.out.below (B := 0) hb1)
  have HC1 := Lib.hid (Kd.C_below HC.out hb1)
  have hbox1 := Lib.hid (blk_below hbox.out hb1)
  have HB1 := Lib.hid (HB0.out.trans (hb1.mono HB0.out.size))
  clear HM HC hbox HB0 hb1
  cases hf : fewB l with
  | false =>
    have HT := Lib.hid (told_calls m w1 HM1.out.hm HM1.out.htab)
    go_wp2_with fail
    refine HT.out.mono ?_
    rintro e w2 ⟨rfl, hb2⟩
    have HB2 := Lib.hid (HB1.out.trans (hb2.mono HB1.out.size))
    clear hb2
    go_wp2_with fail
    go_ret
    exact ⟨rfl, HB2.out⟩
  | true =>
    have hx0 := blk_cell hbox1.out 0
    have hx1 := blk_cell hbox1.out 1
    simp only [List.getElem?_toArray, List.getElem?_cons_zero, List.getElem?_cons_succ] at hx0 hx1
    have hl := few_length hf
    have HV := Lib.hid (below_alloc HB1.out (.cells #[.string r.f0, .string r.f1] 32))
    have HMV := Lib.hid (HM1.out.below (B := 0) (below_alloc (Below.refl _ _) (.cells #[.string r.f0, .string r.f1] 32)))
    have HCV := Lib.hid (Kd.C_alloc HC1.out (.cells #[.string r.f0, .string r.f1] 32))
    have hboxV := Lib.hid (blk_alloc hbox1.out (.cells #[.string r.f0, .string r.f1] 32))
    have HF := Lib.hid (few_calls (some ⟨w1.heap.size, 0, none⟩) 1 [r] _ (C_one (blk_new w1 (.cells #[.string r.f0, .string r.f1] 32))) (Nat.le_refl _))
    go_wp2_with fail
    refine HF.out.mono ?_
    clear HF
    rintro e w2 ⟨rfl, hb2⟩
    have HM2 := Lib.hid (HMV.out.below (B := 0) hb2)
    have HC2 := Lib.hid (Kd.C_below HCV.out hb2)
    have hbox2 := Lib.hid (blk_below hboxV.out hb2)
    have HB2 := Lib.hid (HV.out.trans (hb2.mono HV.out.size))
    clear HM1 HC1 hbox1 HB1 hb2 HV HMV HCV hboxV hx0 hx1
    by_cases hbad : fewB [r] = true ∧ key.size ≤ 200
    · obtain ⟨hf1, hk⟩ := hbad
      have hk1 : ¬ 200 < (key.size : Int) := by omega
      rw [hf1]
      have hR0 := Lib.hid (Kd.R_nil k32 32 w2 w.heap.size (fun _ => True))
      go_wp2_with fail
      go_loopw [7, 8] (fun t7 t8 wr => ∃ (i : Nat), i ≤ l.length ∧ t8 = .int .i64 i ∧ Hid (Kd.R k32 32 wr w2.heap.size (fun _ => True) t7 (mergeF [] (l.take i))) ∧ Hid (Below w2.heap.size w2 wr)) (fun _ t8 _ => l.length - (intOf t8).toNat)
      case atStart => exact ⟨0, by omega, by go_num, Kd.R_nil _ _ _ _ _, Below.refl _ _⟩
      case round =>
        obtain ⟨i, hi, rfl, HR, HB⟩ := hrel
        by_cases hlt : i < l.length
        · have HCi := Lib.hid (Kd.C_below HC2.out HB.out)
          obtain ⟨ad, rfl, hx0, hx1⟩ := s32_at HCi.out i hlt
          have HS := Lib.hid (C_at HCi.out i hlt)
          have HN := Lib.hid (mergeF_snoc [] l i hlt)
          have HL := Lib.hid (mergeF_length (l.take i) [])
          generalize mergeF [] (l.take i) = xs at *
          generalize l[i] = ri at *
          obtain ⟨A2, c2, rfl, hc2, hC2⟩ := Kd.R_reads HR.out
          have HMg := Lib.hid (merge_calls A2 c2 xs (some (ad.add (i * 2))) (c - i) [ri] wr hC2 hc2 HS.out (by show 1 ≤ c - i; omega) (by have h1 := HL.out; rw [List.length_take] at h1; simp only [List.length_cons, List.length_nil] at h1 ⊢; omega))
          have hi0 : (0 : Int) ≤ (i : Int) := Int.natCast_nonneg i
          have hi1 : (i : Int) < (l.length : Int) := by omega
          clear hC2 hx0 hx1
          go_wp2_with fail
          refine HMg.out.mono ?_
          clear HMg
          rintro e w3 ⟨v3, rfl, hR3, hb3⟩
          have HR3 := Lib.hid (R_lower hR3 HB.out.size)
          have HB3 := Lib.hid (HB.out.trans (hb3.mono HB.out.size))
          clear hR3 hb3
          go_wp2_with fail
          go_roundw
          case rel => exact ⟨i + 1, by omega, by go_num, by rw [HN.out]; exact HR3.out, HB3.out⟩
          case measure => simp [intOf]; omega
        · obtain rfl : i = l.length := by omega
          have hn : ¬ ((l.length : Int) < (l.length : Int)) := by omega
          rw [List.take_length] at HR
          have HL : (mergeF [] l).length ≤ 12 := by have := mergeF_length l []; simp only [List.length_nil] at this; omega
          have HA := Lib.hid (mergeF_apart l [] List.Pairwise.nil)
          generalize mergeF [] l = M at *
          have HMr := Lib.hid (HM2.out.below (B := 0) HB.out)
          have hboxr := Lib.hid (blk_below hbox2.out HB.out)
          have hx0 := blk_cell hboxr.out 0
          have hx1 := blk_cell hboxr.out 1
          simp only [List.getElem?_toArray, List.getElem?_cons_zero, List.getElem?_cons_succ] at hx0 hx1
          obtain ⟨A2, c2, rfl, hc2, hC2⟩ := Kd.R_reads HR.out
          have HB4 := Lib.hid (HB2.out.trans (HB.out.mono HB2.out.size))
          have HB5 := Lib.hid (below_alloc HB4.out (.cells #[.string r.f0, .string r.f1] 32))
          have HMg := Lib.hid (merge_calls A2 c2 M (some ⟨wr.heap.size, 0, none⟩) 1 [r] (wr.alloc (.cells #[.string r.f0, .string r.f1] 32)) (Kd.C_alloc hC2 _) hc2 (C_one (blk_new wr _)) (Nat.le_refl _) (by simp only [List.length_cons, List.length_nil]; omega))
          have HCM := Lib.hid hC2
          have HBn := Lib.hid (below_alloc (Below.refl wr.heap.size wr) (.cells #[.string r.f0, .string r.f1] 32))
          clear hC2 HB4 HR
          go_wp2_with fail
          refine HMg.out.mono ?_
          clear HMg
          rintro e w3 ⟨v3, rfl, hR3, hb3⟩
          have HB3 := Lib.hid (HBn.out.trans (hb3.mono HBn.out.size))
          have HW3 := Lib.hid (HB5.out.trans (hb3.mono HB5.out.size))
          clear HBn HB5 hb3 hx0 hx1
          have HX : (mstep M r).length ≤ 13 := by have := mstep_length M r; omega
          have hR3' : Kd.R k32 32 w3 (wr.alloc (.cells #[.string r.f0, .string r.f1] 32)).heap.size (fun _ => True) v3 (mstep M r) := hR3
          clear hR3
          obtain ⟨A3, c3, rfl, hc3, hC3⟩ := Kd.R_reads hR3'
          have HC3 := Lib.hid hC3
          have HXA := Lib.hid (mstep_apart M r HA.out)
          have HXX := Lib.hid (mstep_again M r)
          have HGP := Lib.hid (get_put M r)
          have HGO := Lib.hid (get_other M r key)
          generalize mstep M r = X at *
          have HM3 := Lib.hid (HMr.out.below (B := 0) HB3.out)
          have HCM3 := Lib.hid (Kd.C_below HCM.out HB3.out)
          have hbox3 := Lib.hid (blk_below hboxr.out HB3.out)
          have hx0 := blk_cell hbox3.out 0
          have hx1 := blk_cell hbox3.out 1
          simp only [List.getElem?_toArray, List.getElem?_cons_zero, List.getElem?_cons_succ] at hx0 hx1
          clear hC3 hR3' HM2 HC2 hbox2 HMr hboxr HCM HB HB2
          obtain ⟨v, hv, hg⟩ : ∃ v : ByteArray, v.toList = r.f1.toList ∧ getV X r.f0 noV = (v, !r.f1.toList.isEmpty) := by
            rw [HGP.out]
            cases hz : r.f1.toList.isEmpty with
            | true => exact ⟨⟨#[]⟩, by rw [List.isEmpty_iff.1 hz]; first | decide | simp | rfl, rfl⟩
            | false => exact ⟨r.f1, rfl, rfl⟩
          have HG := get_calls A3 c3 X r.f0 w3 HC3.out hc3
          rw [hg] at HG
          have HG := Lib.hid HG
          go_wp2_with fail
          refine HG.out.mono ?_
          clear HG HGP hg
          rintro e w4 ⟨rfl, hb4⟩
          have HB4 := Lib.hid hb4
          have hy0 := pw_cell_below hb4 hx0
          have hy1 := pw_cell_below hb4 hx1
          have HM4 := Lib.hid (HM3.out.below (B := 0) hb4)
          have HC4 := Lib.hid (Kd.C_below HC3.out hb4)
          have HCM4 := Lib.hid (Kd.C_below HCM3.out hb4)
          have hbox4 := Lib.hid (blk_below hbox3.out hb4)
          have HW4 := Lib.hid (HW3.out.trans (hb4.mono HW3.out.size))
          clear hb4 hx0 hx1 HM3 HC3 HCM3 hbox3 HW3 HB3
          go_upto_if 71 with (fail)
          go_cut [12, 13, 14, 15] (fun s12 s13 s14 s15 wx => Below w4.heap.size w4 wx)
          case first =>
            cases hkb : (!key.toList == r.f0.toList) with
            | false =>
              go_wp2_with fail
              go_meet
              exact Below.refl _ _
            | true =>
              have hgo := HGO.out (by simpa using hkb)
              have HG1 := get_calls A2 c2 M key w4 HCM4.out hc2
              generalize getV M key noV = q at *
              have HG1 := Lib.hid HG1
              go_wp2_with fail
              refine HG1.out.mono ?_
              clear HG1
              rintro e w5 ⟨rfl, hb5⟩
              have HB5 := Lib.hid hb5
              have HG2 := get_calls A3 c3 X key w5 (Kd.C_below HC4.out hb5) hc3
              rw [hgo] at HG2
              have HG2 := Lib.hid HG2
              clear hb5
              go_wp2_with fail
              refine HG2.out.mono ?_
              clear HG2
              rintro e w6 ⟨rfl, hb6⟩
              have HB6 := Lib.hid (HB5.out.trans (hb6.mono HB5.out.size))
              clear hb6
              go_wp2_with fail
              go_meet
              exact HB6.out
          case rest =>
            have HMc := Lib.hid (HM4.out.below (B := 0) hcut)
            have HCc := Lib.hid (Kd.C_below HC4.out hcut)
            have hboxc := Lib.hid (blk_below hbox4.out hcut)
            have HWc := Lib.hid (HW4.out.trans (hcut.mono HW4.out.size))
            clear hcut HM4 HC4 HCM4 hbox4 HW4 hy0 hy1 HGO
            go_wp2_with fail
            go_loopw [16, 17] (fun t16 t17 wr => ∃ (i : Nat), i ≤ X.length ∧ t16 = .int .i64 i ∧ Hid (Below wc.heap.size wc wr)) (fun t16 _ _ => X.length - (intOf t16).toNat)
            case atStart => exact ⟨0, by omega, by go_num, Below.refl _ _⟩
            case round =>
              obtain ⟨i, hi, rfl, HB⟩ := hrel
              by_cases hlt : i < X.length
              · have hi0 : (0 : Int) ≤ (i : Int) := Int.natCast_nonneg i
                have hi1 : (i : Int) < (X.length : Int) := by omega
                go_wp2_with fail
                go_loopw [17] (fun t17 wq => ∃ (j : Nat), j ≤ i ∧ t17 = .int .i64 j ∧ Hid (Below wc.heap.size wc wq)) (fun t17 _ => i - (intOf t17).toNat)
                case atStart => exact ⟨0, by omega, by go_num, HB.out⟩
                case round =>
                  obtain ⟨j, hj, rfl, HBq⟩ := hrel
                  by_cases hjt : j < i
                  · have hj0 : (0 : Int) ≤ (j : Int) := Int.natCast_nonneg j
                    have hj1 : (j : Int) < (i : Int) := by omega
                    have hj2 : (j : Int) < (X.length : Int) := by omega
                    have HCq := Lib.hid (Kd.C_below HCc.out HBq.out)
                    obtain ⟨ad, rfl, hx0, hx1⟩ := s32_at HCq.out i hlt
                    obtain ⟨ad', e', hz0, hz1⟩ := s32_at HCq.out j (by omega)
                    cases e'
                    have hap := List.pairwise_iff_getElem.1 HXA.out j i (by omega) hlt hjt
                    have hne : (X[i].f0.toList == X[j].f0.toList) = false := beq_eq_false_iff_ne.2 (Ne.symm hap)
                    have hne' : ¬ X[i].f0.toList = X[j].f0.toList := Ne.symm hap
                    clear hap
                    generalize X[i].f0 = ki at *
                    generalize X[j].f0 = kj at *
                    go_wp2_with fail
                    go_quiet (fail)
                    go_wp2_with fail
                    go_roundw
                    case rel => exact ⟨j + 1, by omega, by go_num, ⟨HBq.out.os, HBq.out.tape, HBq.out.output, HBq.out.size, HBq.out.block⟩⟩
                    case measure => simp [intOf]; omega
                  · obtain rfl : j = i := by omega
                    have hn : ¬ ((j : Int) < (j : Int)) := by omega
                    go_wp2_with fail
                    go_roundw
                    case rel => exact ⟨j + 1, by omega, by go_num, HBq.out⟩
                    case measure => simp [intOf]; omega
              · obtain rfl : i = X.length := by omega
                have hn : ¬ ((X.length : Int) < (X.length : Int)) := by omega
                have HMr := HMc.out.below (B := 0) HB.out
                have HT := Lib.hid (told_calls m wr HMr.hm HMr.htab)
                clear HMr
                go_wp2_with fail
                refine HT.out.mono ?_
                clear HT
                rintro e w7 ⟨rfl, hb7⟩
                have hb7' := HB.out.trans (hb7.mono HB.out.size)
                have hbox7 := blk_below hboxc.out hb7'
                have hx0 := blk_cell hbox7 0
                have hx1 := blk_cell hbox7 1
                simp only [List.getElem?_toArray, List.getElem?_cons_zero, List.getElem?_cons_succ] at hx0 hx1
                have HC7 := Lib.hid (Kd.C_below HCc.out hb7')
                have HW7 := Lib.hid (below_alloc (HWc.out.trans (hb7'.mono HWc.out.size)) (.cells #[.string r.f0, .string r.f1] 32))
                have HMg := Lib.hid (merge_calls A3 c3 X (some ⟨w7.heap.size, 0, none⟩) 1 [r] (w7.alloc (.cells #[.string r.f0, .string r.f1] 32)) (Kd.C_alloc HC7.out _) hc3 (C_one (blk_new w7 _)) (Nat.le_refl _) (by simp only [List.length_cons, List.length_nil]; omega))
                have HC7a := Lib.hid (Kd.C_alloc HC7.out (.cells #[.string r.f0, .string r.f1] 32))
                clear hb7 hb7' hbox7
                go_wp2_with fail
                refine HMg.out.mono ?_
                clear HMg
                rintro e w8 ⟨v8, rfl, hR8, hb8⟩
                have hX : mergeF X [r] = X := HXX.out
                rw [hX] at hR8
                obtain ⟨A8, c8, rfl, hc8, hC8⟩ := Kd.R_reads hR8
                have HS := Lib.hid (same_calls A8 c8 A3 c3 X w8 hC8 hc8 (Kd.C_below HC7a.out hb8) hc3)
                have HW8 := Lib.hid (HW7.out.trans (hb8.mono HW7.out.size))
                clear hR8 hb8 hC8 hX
                go_wp2_with fail
                refine HS.out.mono ?_
                rintro e w9 ⟨rfl, hb9⟩
                have HW9 := Lib.hid (HW8.out.trans (hb9.mono HW8.out.size))
                clear hb9
                go_wp2_with fail
                go_ret
                exact ⟨rfl, HW9.out⟩
    · have HT := Lib.hid (told_calls m w2 HM2.out.hm HM2.out.htab)
      have hend : ∀ w3, Below w2.heap.size w2 w3 → Below w.heap.size w w3 := fun w3 h => HB2.out.trans (h.mono HB2.out.size)
      have HEnd := Lib.hid hend
      clear hend
      cases hf1 : fewB [r] with
      | false =>
        go_wp2_with fail
        refine HT.out.mono ?_
        rintro e w3 ⟨rfl, hb3⟩
        have HB3 := Lib.hid (HEnd.out w3 hb3)
        clear hb3
        go_wp2_with fail
        go_ret
        exact ⟨rfl, HB3.out⟩
      | true =>
        have hk : 200 < (key.size : Int) := by
          rcases Nat.lt_or_ge 200 key.size with h | h
          · omega
          · exact absurd ⟨hf1, h⟩ hbad
        go_wp2_with fail
        refine HT.out.mono ?_
        rintro e w3 ⟨rfl, hb3⟩
        have HB3 := Lib.hid (HEnd.out w3 hb3)
        clear hb3
        go_wp2_with fail
        go_ret
        exact ⟨rfl, HB3.out⟩
end Go.Proofs.YtmdfnelcgobpkaaDoor.Z
