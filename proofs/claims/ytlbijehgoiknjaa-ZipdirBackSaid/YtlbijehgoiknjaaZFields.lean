/- Walk of package zipdir's fields: a member's extra fields as a text, the one of great numbers ahead. -/
import Derived.Test.YtlbijehgoiknjaaZExtraPut
import Derived.Test.YtlbijehgoiknjaaZSmall
import Derived.Test.YtlbijehgoiknjaaZWriter
set_option linter.unusedVariables false
set_option linter.unusedSimpArgs false
namespace Go.Proofs.Ytlbijehgoiknjaa.Z
open Go.RowKit Go.Proofs.YtlbijehgoiknjaaW.PrintWords Go.Proofs.YtlbijehgoiknjaaW.PrintLast Go.Proofs.YtlbijehgoiknjaaW.PrintMore Go.Proofs.Ytlbijehgoiknjaa.PZipdirHeaders

theorem putLittle_f' (l : List Int) (v : Int) (n d : Nat) (h1 : 1 ≤ n) (h8 : n ≤ 8) (hl : l.length + 8 < 140737488355328) : num_PutLittle.f (d + 20) l v n = some (l ++ leb v n) := by
  induction d with
  | zero => rw [Nat.zero_add]; exact putLittle_f l v n h1 h8 hl
  | succ d ih => rw [show d + 1 + 20 = (d + 20) + 1 by omega]; exact num_PutLittle.mono _ _ _ _ _ ih
theorem putLittle_k (K : Nat) (l : List Int) (v : Int) (hK : 20 ≤ K) (hl : l.length + 8 < 140737488355328) : num_PutLittle.f K l v 8 = some (l ++ leb v 8) := by
  obtain ⟨d, rfl⟩ : ∃ d, K = d + 20 := ⟨K - 20, by omega⟩
  exact putLittle_f' l v 8 d (by omega) (by omega) hl
theorem putBig_loop (vs : List Int) (hv : ∀ v ∈ vs, 0 ≤ v ∧ v ≤ 9223372036854775807) (hl : vs.length ≤ 1000) (d : Nat) : ∀ (K i : Nat) (xs : List Int), d + 20 < K → i + d = vs.length → xs.length ≤ 8 * i →
    extra_PutBig.l0 K xs vs (vs.length : Int) i = some (1, strOfNums (xs ++ putF 8 (vs.drop i))) := by
  induction d with
  | zero =>
    intro K i xs hK hi hx
    obtain ⟨K, rfl⟩ : ∃ m, K = m + 1 := ⟨K - 1, by omega⟩
    simp only [extra_PutBig.l0]
    rw [if_neg (by omega), List.drop_of_length_le (by omega)]
    simp [putF]
  | succ d ih =>
    intro K i xs hK hi hx
    obtain ⟨K, rfl⟩ : ∃ m, K = m + 1 := ⟨K - 1, by omega⟩
    simp only [extra_PutBig.l0]
    have hlt : i < vs.length := by omega
    have e3 : rd vs (i : Int) = vs[i] := by
      unfold rd
      rw [List.getD_eq_getElem?_getD, Int.toNat_natCast, List.getElem?_eq_getElem hlt]
      rfl
    have hvi := hv vs[i] (List.getElem_mem _)
    have e1 : IntKind.u64.wrap vs[i] = vs[i] := IntWalk.u64_in _ (by omega)
    have e2 : wrap64 ((i : Int) + 1) = ((i + 1 : Nat) : Int) := by unfold wrap64; omega
    rw [if_pos (by omega), if_pos (by omega), if_pos (by omega), e3, e1, e2, putLittle_k K xs _ (by omega) (by omega)]
    simp only [Option.bind_some]
    rw [ih K (i + 1) _ (by omega) (by omega) (by rw [List.length_append, leb_length]; omega), List.drop_eq_getElem_cons hlt]
    simp only [putF, List.flatMap_cons, List.append_assoc]
theorem putBig_calls (A : Option Addr) (c : Nat) (vs : List Int) (w : World) (hr : Kd.C (Kd.int .i64) w A vs.length vs) (hc : vs.length ≤ c) (hv : ∀ v ∈ vs, 0 ≤ v ∧ v ≤ 9223372036854775807) (hl : vs.length ≤ 1000) :
    Calls Try.prog 38 #[.slice A vs.length c] w fun e w' => e = .returned (.agg #[.int .i64 1, .string (strOfNums (putF 8 vs))]) ∧ Below w.heap.size w w' :=
  extra_PutBig.calls (vs.length + 21) A c vs 1 _ w hr hc (by
    have := putBig_loop vs hv hl vs.length (vs.length + 21) 0 [] (by omega) (by omega) (by simp)
    simpa [extra_PutBig.f] using this)

/-- The numbers that are too great for a header. -/
def greats (l : List Int) : List Int := l.filter fun n => decide (4294967295 ≤ n)
/-- The fields that are put. -/
def outs (ex : List S80) (l : List Int) : List S80 := if greats l = [] then ex else ⟨1, strOfNums (putF 8 (greats l))⟩ :: ex
def fieldsF (ex : List S80) (l : List Int) : Option (List Int) := if (ex.any fun f => f.f0 == 1) = true then none else xput [] (outs ex l)
def fieldsR (ex : List S80) (l : List Int) : Value := match fieldsF ex l with
  | some b => .tuple #[.string (strOfNums b), .bool true]
  | none => .tuple #[.string ⟨#[]⟩, .bool false]
theorem greats_take (l : List Int) (k : Nat) (hk : k < l.length) : greats (l.take (k + 1)) = if 4294967295 ≤ l[k] then greats (l.take k) ++ [l[k]] else greats (l.take k) := by
  unfold greats
  rw [List.take_add_one, List.getElem?_eq_getElem hk, List.filter_append]
  by_cases h : 4294967295 ≤ l[k]
  · rw [if_pos h]; simp [h]
  · rw [if_neg h]; simp [h]
theorem any_take_false (ex : List S80) (k : Nat) (hk : k < ex.length) (h0 : ex[k].f0 ≠ 1) (h : ((ex.take k).any fun f => f.f0 == 1) = false) : ((ex.take (k + 1)).any fun f => f.f0 == 1) = false := by
  rw [List.take_add_one, List.getElem?_eq_getElem hk, List.any_append, h]
  simp [h0]
theorem any_at (ex : List S80) (k : Nat) (hk : k < ex.length) (h0 : ex[k].f0 = 1) : (ex.any fun f => f.f0 == 1) = true := by
  rw [List.any_eq_true]
  exact ⟨ex[k], List.getElem_mem _, by simp [h0]⟩

theorem int_at {k : IntKind} {w : World} {A : Option Addr} {n : Nat} {xs : List Int} (h : Kd.C (Kd.int k) w A n xs) (j : Nat) (hj : j < xs.length) : ∃ ad, A = some ad ∧ w.cell? (ad.add j) = some (.int k xs[j]) := by
  obtain ⟨ad, e, hc⟩ := Kd.at_int h (j : Int) (by omega) (by have := h.1; omega)
  refine ⟨ad, e, ?_⟩
  rw [Int.toNat_natCast] at hc
  rw [hc, show rd xs (j : Int) = xs[j] from by
    unfold rd
    rw [List.getD_eq_getElem?_getD, Int.toNat_natCast, List.getElem?_eq_getElem hj]
    rfl]

set_option maxHeartbeats 4000000 in
set_option maxRecDepth 100000 in
theorem fields_calls (a0 a1 a2 a3 a4 a5 a6 a7 a8 a10 a11 a12 : Value) (Ae Al : Option Addr) (ce cl : Nat) (ex : List S80) (l : List Int) (w : World) (he : Kd.C k80 w Ae ex.length ex) (hec : ex.length ≤ ce) (hl : Kd.C (Kd.int .i64) w Al l.length l) (hlc : l.length ≤ cl) (hes : ex.length ≤ 100000) (hls : l.length ≤ 1000) (hlv : ∀ v ∈ l, 0 ≤ v ∧ v ≤ 9223372036854775807) :
    Calls Try.prog 29 #[.agg #[a0, a1, a2, a3, a4, a5, a6, a7, a8, .slice Ae ex.length ce, a10, a11, a12], .slice Al l.length cl] w fun e w' => e = .returned (fieldsR ex l) ∧ Below w.heap.size w w' := by
  have HE := Lib.hid he
  have HL := Lib.hid hl
  have HV := Lib.hid hlv
  clear he hl hlv
  go_enter Try.func29, Try.ntmps29
  go_wp2_with fail
  have hw0s : (w.alloc (.cells #[a0, a1, a2, a3, a4, a5, a6, a7, a8, .slice Ae ex.length ce, a10, a11, a12] 36)).heap.size = w.heap.size + 1 := by simp
  have HE0 := Lib.hid (Kd.C_alloc HE.out (.cells #[a0, a1, a2, a3, a4, a5, a6, a7, a8, .slice Ae ex.length ce, a10, a11, a12] 36))
  have HL0 := Lib.hid (Kd.C_alloc HL.out (.cells #[a0, a1, a2, a3, a4, a5, a6, a7, a8, .slice Ae ex.length ce, a10, a11, a12] 36))
  have HM0 := Lib.hid (show (w.alloc (.cells #[a0, a1, a2, a3, a4, a5, a6, a7, a8, .slice Ae ex.length ce, a10, a11, a12] 36)).cell? ⟨w.heap.size, 9, none⟩ = some (.slice Ae ex.length ce) from by rw [blk_cell (blk_new w _)]; rfl)
  have HB0 := Lib.hid (below_alloc (Below.refl w.heap.size w) (.cells #[a0, a1, a2, a3, a4, a5, a6, a7, a8, .slice Ae ex.length ce, a10, a11, a12] 36))
  clear HE HL
  generalize w.alloc (.cells #[a0, a1, a2, a3, a4, a5, a6, a7, a8, .slice Ae ex.length ce, a10, a11, a12] 36) = w0 at *
  go_loopw [6, 18] (fun tv tk wr => ∃ (k : Nat) (vs : List Int), k ≤ l.length ∧ tk = .int .i64 k ∧ Hid (vs = greats (l.take k)) ∧ vs.length ≤ k ∧ Kd.R (Kd.int .i64) 3 wr w0.heap.size (fun _ => True) tv vs ∧ Below w0.heap.size w0 wr) (fun _ tk _ => l.length - (intOf tk).toNat)
  case atStart => exact ⟨0, [], by omega, rfl, rfl, by simp, Kd.R_nil _ _ _ _ _, Below.refl _ _⟩
  case round =>
    obtain ⟨k, vs, hk, rfl, hvs, hvk, hR, hB⟩ := hrel
    have HR := Lib.hid hR
    have HB := Lib.hid hB
    clear hR hB
    by_cases hlt : k < l.length
    · obtain ⟨ad, rfl, hx⟩ := int_at (Kd.C_below HL0.out HB.out) k hlt
      have hk0 : (0 : Int) ≤ (k : Int) := Int.natCast_nonneg k
      have hk1 : (k : Int) < (l.length : Int) := by omega
      have HT := Lib.hid (greats_take l k hlt)
      have hvv := HV.out l[k] (List.getElem_mem _)
      generalize l[k] = v at *
      by_cases hg : 4294967295 ≤ v
      · have HT2 := Lib.hid (show greats (l.take (k + 1)) = vs ++ [v] from by rw [HT.out, if_pos hg, hvs.out])
        clear HT hvs
        go_wp2_with fail
        refine (small_more v _ hg).mono ?_
        rintro e w1 ⟨rfl, hb1⟩
        have HR1 := Lib.hid (Kd.R_below HR.out hb1)
        have HB1 := Lib.hid (HB.out.trans (hb1.mono HB.out.size))
        clear hb1 HR HB
        go_wp2_with (first | ((with_reducible refine gate_builtin (b := .append) (xs := #[.tmp 28, .tmp 30]) rfl ?_); at_builtin
                              refine Kd.R_append (Kd.int .i64) (w0 := w0) w0.heap.size rfl (.tmp 28) (.tmp 30) 37 3 (.int .i64 0) 8 rfl Try.underlying37 info3 rfl (by decide) (by omega) _ vs v [.int .i64 v] (fun _ => True) (fun _ => False) rfl rfl rfl (fun _ hk => hk.elim) (fun _ _ => trivial) HR1.out HB1.out HB1.out.size (by omega) ?_
                              intro v3 w3 ho hb hg3 hat
                              have HR3 := Lib.hid ho
                              have HB3 := Lib.hid hb
                              clear ho hb hg3 hat))
        go_roundw
        case rel => exact ⟨k + 1, vs ++ [v], by omega, by go_num, HT2.out.symm, by simp; omega, HR3.out, HB3.out⟩
        case measure => simp [intOf]; omega
      · have HT2 := Lib.hid (show greats (l.take (k + 1)) = vs from by rw [HT.out, if_neg hg, hvs.out])
        clear HT hvs
        go_wp2_with fail
        refine (small_less v _ hvv.1 (by omega)).mono ?_
        rintro e w1 ⟨rfl, hb1⟩
        have HR1 := Lib.hid (Kd.R_below HR.out hb1)
        have HB1 := Lib.hid (HB.out.trans (hb1.mono HB.out.size))
        clear hb1 HR HB
        go_wp2
        go_roundw
        case rel => exact ⟨k + 1, vs, by omega, by go_num, HT2.out.symm, by omega, HR1.out, HB1.out⟩
        case measure => simp [intOf]; omega
    · have hkn : k = l.length := by omega
      have HVS := Lib.hid (show vs = greats l from by rw [hvs.out, List.take_of_length_le (by omega)])
      have hm9 : wr.cell? ⟨w.heap.size, 9, none⟩ = some (.slice Ae ex.length ce) := pw_cell_below HB.out HM0.out
      have HE1 := Lib.hid (Kd.C_below HE0.out HB.out)
      clear hvs HM0 HE0
      go_wp2_with fail
      go_loopw [37] (fun tj wq => ∃ j : Nat, j ≤ ex.length ∧ tj = .int .i64 j ∧ Hid (((ex.take j).any fun f => f.f0 == 1) = false) ∧ Below wr.heap.size wr wq) (fun tj _ => ex.length - (intOf tj).toNat)
      case atStart => exact ⟨0, by omega, rfl, (by show _ = _; rfl), Below.refl _ _⟩
      case round =>
        obtain ⟨j, hj, rfl, hany, hBq⟩ := hrel
        have HBq := Lib.hid hBq
        have HBw := Lib.hid (HB0.out.trans ((HB.out.trans (hBq.mono HB.out.size)).mono HB0.out.size))
        clear hBq
        by_cases hltj : j < ex.length
        · obtain ⟨ad, rfl, hx0, hx1⟩ := s80_at (Kd.C_below HE1.out HBq.out) j hltj
          have hj0 : (0 : Int) ≤ (j : Int) := Int.natCast_nonneg j
          have hj1 : (j : Int) < (ex.length : Int) := by omega
          by_cases h1 : ex[j].f0 = 1
          · have HN := Lib.hid (show fieldsF ex l = none from by rw [fieldsF, if_pos (any_at ex j hltj h1)])
            have hb1 : (ex[j].f0 == 1) = true := by simpa using h1
            clear h1 hany
            go_wp2
            go_ret2
            exact ⟨by rw [fieldsR, HN.out]; rfl, HBw.out.alloc HBw.out.size _⟩
          · have HN := Lib.hid (any_take_false ex j hltj h1 hany.out)
            have hb1 : (ex[j].f0 == 1) = false := by simpa using h1
            clear h1 hany
            go_wp2
            go_roundw
            case rel => exact ⟨j + 1, by omega, by go_num, HN.out, HBq.out.alloc HBq.out.size _⟩
            case measure => simp [intOf]; omega
        · have HAny := Lib.hid (show (ex.any fun f => f.f0 == 1) = false from by have := hany.out; rwa [List.take_of_length_le (by omega)] at this)
          have HRq := Lib.hid (Kd.R_below HR.out HBq.out)
          obtain ⟨Av, cv, rfl, hcv, hCv⟩ := Kd.R_reads HRq.out
          have HCv := Lib.hid hCv
          have HEq := Lib.hid (Kd.C_below HE1.out HBq.out)
          clear hany hCv HR HE1
          by_cases hvs0 : vs = []
          · subst hvs0
            have HO := Lib.hid (show outs ex l = ex from by rw [outs, if_pos HVS.out.symm])
            go_wp2_with fail
            refine (xput_calls Ae ce ex _ HEq.out (by omega)).mono ?_
            rintro e w1 ⟨rfl, hb1⟩
            have HB1 := Lib.hid (HBw.out.trans (hb1.mono HBw.out.size))
            clear hb1
            have hfr : fieldsR ex l = match xput [] ex with
              | some b => .tuple #[.string (strOfNums b), .bool true]
              | none => .tuple #[.string ⟨#[]⟩, .bool false] := by
              rw [fieldsR, fieldsF, if_neg (by rw [HAny.out]; simp), HO.out]
            have HFR := Lib.hid hfr
            clear hfr
            unfold xputR
            cases hx : xput [] ex with
            | some b =>
              have HX := Lib.hid hx
              clear hx
              go_wp2
              go_ret2
              exact ⟨by rw [HFR.out, HX.out]; rfl, HB1.out⟩
            | none =>
              have HX := Lib.hid hx
              clear hx
              go_wp2
              go_ret2
              exact ⟨by rw [HFR.out, HX.out]; rfl, HB1.out⟩
          · have hpos : 0 < vs.length := by cases vs with
              | nil => exact absurd rfl hvs0
              | cons _ _ => simp
            have HO := Lib.hid (show outs ex l = ⟨1, strOfNums (putF 8 vs)⟩ :: ex from by rw [outs, ← HVS.out, if_neg hvs0])
            have hp1 : (vs.length : Int) > 0 := by omega
            clear hvs0
            go_wp2_with fail
            refine (putBig_calls Av cv vs _ HCv.out hcv (fun v hv => HV.out v (by rw [HVS.out] at hv; exact (List.mem_filter.1 hv).1)) (by omega)).mono ?_
            rintro e w1 ⟨rfl, hb1⟩
            have HB1 := Lib.hid (HBw.out.trans (hb1.mono HBw.out.size))
            have HE3 := Lib.hid (Kd.C_below HEq.out hb1)
            clear hb1
            obtain ⟨S, hS⟩ : ∃ S, S = strOfNums (putF 8 vs) := ⟨_, rfl⟩
            rw [← hS]
            have HS := Lib.hid hS
            clear hS
            go_wp2_with (first
              | ((with_reducible refine gate_dst (N := 50) rfl ?_)
                 refine Kd.R_lit k80 (w0 := w) w.heap.size 80 ?hg (N := 50) ?hd (xs := [⟨1, S⟩]) (inner := [.int .i64 1, .string S]) (ok := fun _ => True) (okp := fun _ => True) ?hr ?hp (fun _ hk => hk) trivial HB1.out HB1.out.size (by simp) ?_
                 (case hd => rfl)
                 (case hg => rfl)
                 (case hr => first | (go_simp; done) | (go_simp; rfl))
                 (case hp => exact Reps.c2 (k80_mkM _ _ _ _) (Reps.none _ _))
                 intro v2 w2 ho2 hb2 hg2 hnew2
                 have HE4 := Lib.hid (show Kd.C k80 w2 Ae ex.length ex from Kd.C_below HE3.out ((Below.refl _ _).grown hg2 (Nat.le_refl _) (fun k hk => by cases hk)))
                 have HO2 := Lib.hid ho2
                 have HB2 := Lib.hid hb2
                 clear ho2 hb2 hg2 hnew2)
              | ((with_reducible refine gate_builtin (b := .append) (xs := #[.tmp 50, .tmp 51]) rfl ?_); at_builtin
                 refine Kd.R_append_rows k80 (w0 := w) w.heap.size rfl (.tmp 50) (.tmp 51) 34 80 (.agg #[.int .i64 0, .string ⟨#[]⟩]) 24 rfl Try.underlying34 info80 rfl (by decide) (by omega) _ [⟨1, S⟩] ex Ae ex.length ce (fun _ => True) (fun _ => False) rfl rfl HO2.out HE4.out (fun x cs h => by rw [k80_open h]; exact k80_mkM _ _ _ x) (fun _ h => h.elim) (fun _ _ => trivial) HB2.out HB2.out.size (by simp; omega) ?_
                 intro v3 w3 ho3 hb3 hg3 hat3
                 have HO3 := Lib.hid ho3
                 have HB3 := Lib.hid hb3
                 clear ho3 hb3 hg3 hat3))
            obtain ⟨A3, c3, rfl, hc3, hC3⟩ := Kd.R_reads HO3.out
            obtain ⟨ys, hys⟩ : ∃ ys, ys = [⟨1, S⟩] ++ ex := ⟨_, rfl⟩
            rw [← hys] at hc3 hC3
            have hyl : ys.length ≤ 1000000 := by rw [hys]; simp; omega
            rw [← hys]
            have HYS := Lib.hid hys
            clear hys HO3
            refine (xput_calls A3 c3 ys _ hC3 hyl).mono ?_
            rintro e w4 ⟨rfl, hb4⟩
            have HB4 := Lib.hid (HB3.out.trans (hb4.mono HB3.out.size))
            clear hb4 hC3
            have hfr : fieldsR ex l = match xput [] ys with
              | some b => .tuple #[.string (strOfNums b), .bool true]
              | none => .tuple #[.string ⟨#[]⟩, .bool false] := by
              rw [fieldsR, fieldsF, if_neg (by rw [HAny.out]; simp), HO.out, ← HS.out, HYS.out, List.singleton_append]
            have HFR := Lib.hid hfr
            clear hfr
            unfold xputR
            cases hx : xput [] ys with
            | some b =>
              have HX := Lib.hid hx
              clear hx
              go_wp2
              go_ret2
              exact ⟨by rw [HFR.out, HX.out]; rfl, HB4.out⟩
            | none =>
              have HX := Lib.hid hx
              clear hx
              go_wp2
              go_ret2
              exact ⟨by rw [HFR.out, HX.out]; rfl, HB4.out⟩
end Go.Proofs.Ytlbijehgoiknjaa.Z
