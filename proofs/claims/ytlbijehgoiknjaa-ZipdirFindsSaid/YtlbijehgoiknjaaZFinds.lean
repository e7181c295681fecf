/- Walk of package stevedorelaw28's ZipdirFinds: it answers true. -/
import Derived.Test.YtlbijehgoiknjaaZTold
import Derived.Test.YtlbijehgoiknjaaZFarLaw
set_option linter.unusedVariables false
set_option linter.unusedSimpArgs false
namespace Go.Proofs.Ytlbijehgoiknjaa.Z
open Go.RowKit Go.Proofs.YtlbijehgoiknjaaW.PrintWords Go.Proofs.YtlbijehgoiknjaaW.PrintLast Go.Proofs.YtlbijehgoiknjaaW.PrintMore Go.Proofs.Ytlbijehgoiknjaa.PZipdirHeaders

theorem small_mod (x m : Int) (h0 : 0 < m) (h1 : m ≤ 2000000) : ∃ n, wrap64 ((IntKind.u64.wrap x).tmod m) = n ∧ 0 ≤ n ∧ n < m := by
  have hx : 0 ≤ IntKind.u64.wrap x := by rw [IntKind.wrap_u64]; omega
  refine ⟨_, rfl, ?_⟩
  rw [Int.tmod_eq_emod_of_nonneg hx]
  have g0 := Int.emod_nonneg (IntKind.u64.wrap x) (show m ≠ 0 by omega)
  have g1 := Int.emod_lt_of_pos (IntKind.u64.wrap x) h0
  unfold wrap64
  omega

set_option maxHeartbeats 4000000 in
set_option maxRecDepth 100000 in
theorem finds_calls (A : Option Addr) (c : Nat) (front : List Int) (size entries : Int) (twice : Bool) (w : World) (hr : Kd.C (Kd.int .u8) w A front.length front) (hc : front.length ≤ c) (hb : ∀ x ∈ front, 0 ≤ x ∧ x < 256) (hl : front.length ≤ 140737488351232) :
    Calls Try.prog 3 #[.slice A front.length c, .int .i64 size, .int .i64 entries, .bool twice] w fun e w' => e = .returned (.bool true) ∧ Below w.heap.size w w' := by
  have HB := Lib.hid hb
  have HC := Lib.hid hr
  clear hb hr
  by_cases hbig : (front.length : Int) > 100
  · go_enter Try.func3, Try.ntmps3
    go_wp2_with fail
    refine (told_calls w).mono ?_
    rintro e w1 ⟨rfl, hb1⟩
    go_wp2
    go_ret
    exact ⟨rfl, hb1⟩
  · go_enter Try.func3, Try.ntmps3
    go_upto_if 32 with (fail)
    go_cut [0, 11, 12] (fun s0 s11 s12 wx => ∃ (F : List Int) (A' : Option Addr) (c' : Nat), s0 = .slice A' F.length c' ∧ F.length ≤ c' ∧ F.length ≤ 122 ∧ Kd.C (Kd.int .u8) wx A' F.length F ∧ (∀ x ∈ F, 0 ≤ x ∧ x < 256) ∧ Below w.heap.size w wx)
    case first =>
      cases twice with
      | false =>
        go_wp2_with fail
        go_meet
        exact ⟨front, A, c, rfl, hc, by omega, HC.out, HB.out, Below.refl _ _⟩
      | true =>
        go_wp2_with fail
        refine (put_end_near 9 0 0 w (by omega) (by omega) (by omega) (by omega) (by omega) (by omega)).mono ?_
        rintro e w11 ⟨v11, rfl, hR11, hb11⟩
        have HC11 := Lib.hid (Kd.C_below HC.out hb11)
        have HB11 := Lib.hid hb11
        obtain ⟨A11, c11, rfl, hc11, hC11⟩ := Kd.R_reads hR11
        have HE11 := Lib.hid hC11
        have hE22 := endBytes_length 9 0 0
        have HE22 := Lib.hid hE22
        obtain ⟨E9, hE9⟩ : ∃ E9, E9 = endBytes 9 0 0 := ⟨_, rfl⟩
        rw [← hE9] at HE11 HE22
        rw [← hE9]
        have HE9 := Lib.hid hE9
        have HRE11 := Lib.hid (Kd.R_mono (Kd.R_bound hR11) (ok' := fun q => q < w11.heap.size) (fun q h => h.2.2.1))
        rw [← hE9] at HRE11
        clear hR11 hb11 hC11 hE22 hE9 hc11
        go_wp2_with (first
          | ((with_reducible refine gate_dst (N := 39) rfl ?_)
             refine Kd.R_lit (Kd.int .u8) (w0 := w) w.heap.size 5 ?hg (N := 39) ?hd (xs := []) (inner := []) (ok := fun _ => True) (okp := fun _ => True) ?hr ?hp (fun _ hk => hk) trivial HB11.out HB11.out.size (by simp) ?_
             (case hd => rfl)
             (case hg => rfl)
             (case hr => first | (go_simp; done) | (go_simp; rfl))
             (case hp => exact Reps.none _ _)
             intro v12 w12 ho2 hb2 hg2 hnew2
             have hup := ((Below.refl w11.heap.size w11).grown hg2 (Nat.le_refl _) (fun k hk => by cases hk))
             have HC12 := Lib.hid (Kd.C_below HC11.out hup)
             have HRE12 := Lib.hid (Kd.R_below HRE11.out hup)
             have hnb := hnew2
             have HO12 := Lib.hid ho2
             have HB12 := Lib.hid hb2
             clear ho2 hb2 hg2 hnew2 hup)
          | ((with_reducible refine gate_builtin (b := .append) (xs := #[.tmp 39, .tmp 40]) rfl ?_); at_builtin
             refine Kd.R_append_rows (Kd.int .u8) (w0 := w) w.heap.size rfl (.tmp 39) (.tmp 40) 22 5 (.int .u8 0) 1 rfl Try.underlying22 info5 rfl (by decide) (by omega) v12 [] front A front.length c (fun _ => True) (fun _ => False) rfl rfl HO12.out HC12.out (fun _ _ h => h) (fun _ h => h.elim) (fun _ _ => trivial) HB12.out HB12.out.size (by simp; omega) ?_
             intro v13 w13 ho3 hb3 hg3 hat3
             have HRE13 := Lib.hid (Kd.R_grown HRE12.out hg3 (fun q hq e => by obtain ⟨b, e1, e2⟩ := hnb; rw [e1] at e; injection e with e; exact absurd (show q < w11.heap.size from hq) (by omega)))
             have HO13 := Lib.hid ho3
             have HB13 := Lib.hid hb3
             clear ho3 hb3 hg3 hat3)
          | ((with_reducible refine gate_builtin (b := .append) (xs := #[.tmp 41, .tmp 42]) rfl ?_); at_builtin
             refine Kd.R_append_rows (Kd.int .u8) (w0 := w) w.heap.size rfl (.tmp 41) (.tmp 42) 22 5 (.int .u8 0) 1 rfl Try.underlying22 info5 rfl (by decide) (by omega) v13 ([] ++ front) E9 A11 E9.length c11 (fun _ => True) (fun _ => False) rfl rfl HO13.out (R_C HRE13.out) (fun _ _ h => h) (fun _ h => h.elim) (fun _ _ => trivial) HB13.out HB13.out.size (by have := HE22.out; simp; omega) ?_
             intro v14 w14 ho4 hb4 hg4 hat4
             have HO14 := Lib.hid ho4
             have HB14 := Lib.hid hb4
             clear ho4 hb4 hg4 hat4))
        have hfl : ([] ++ front ++ E9).length = front.length + 22 := by rw [List.length_append, HE22.out]; simp
        have hfr : ∀ x ∈ [] ++ front ++ E9, 0 ≤ x ∧ x < 256 := by
          intro x hx
          rw [List.nil_append, List.mem_append] at hx
          rcases hx with hx | hx
          · exact HB.out x hx
          · rw [HE9.out] at hx; exact ends_range 0 0 0 9 0 0 (List.mem_append_right _ hx)
        obtain ⟨A14, c14, rfl, hc14, hC14⟩ := Kd.R_reads HO14.out
        go_meet
        exact ⟨[] ++ front ++ E9, A14, c14, rfl, hc14, by omega, hC14, hfr, HB14.out⟩
    case rest =>
      obtain ⟨F, A', c', rfl, hcF, hlF, hCF, hbF, hbw⟩ := hcut
      clear HB HC hc hbig
      have HB := Lib.hid hbF
      have HC := Lib.hid hCF
      have HB0 := Lib.hid hbw
      clear hbF hCF hbw
      go_upto_region 9 with (fail)
      obtain ⟨n, hn, hn0, hn1⟩ := small_mod size 201 (by omega) (by omega)
      obtain ⟨k, hk, hk0, hk1⟩ := small_mod entries 1048577 (by omega) (by omega)
      try rw [hn]
      try rw [hk]
      clear hn hk
      go_wp2_with (first
        | ((with_reducible refine gate_dst (N := 44) rfl ?_)
           refine Kd.R_lit (Kd.int .u8) (w0 := w) w.heap.size 5 ?hg (N := 44) ?hd (xs := []) (inner := []) (ok := fun _ => True) (okp := fun _ => True) ?hr ?hp (fun _ hk => hk) trivial HB0.out HB0.out.size (by simp) ?_
           (case hd => rfl)
           (case hg => rfl)
           (case hr => first | (go_simp; done) | (go_simp; rfl))
           (case hp => exact Reps.none _ _)
           intro v2 w2 ho2 hb2 hg2 hnew2
           have HC2 := Lib.hid (show Kd.C (Kd.int .u8) w2 A' F.length F from Kd.C_below HC.out ((Below.refl _ _).grown hg2 (Nat.le_refl _) (fun k hk => by cases hk)))
           have HO2 := Lib.hid ho2
           have HB2 := Lib.hid hb2
           clear ho2 hb2 hg2 hnew2)
        | ((with_reducible refine gate_builtin (b := .append) (xs := #[.tmp 44, .tmp 45]) rfl ?_); at_builtin
           refine Kd.R_append_rows (Kd.int .u8) (w0 := w) w.heap.size rfl (.tmp 44) (.tmp 45) 22 5 (.int .u8 0) 1 rfl Try.underlying22 info5 rfl (by decide) (by omega) _ [] F A' F.length c' (fun _ => True) (fun _ => False) rfl rfl HO2.out HC2.out (fun _ _ h => h) (fun _ h => h.elim) (fun _ _ => trivial) HB2.out HB2.out.size (by simp; omega) ?_
           intro v3 w3 ho3 hb3 hg3 hat3
           have HO3 := Lib.hid ho3
           have HB3 := Lib.hid hb3
           clear ho3 hb3 hg3 hat3)
        | ((with_reducible refine gate_builtin (b := .append) (xs := #[.tmp 46, .tmp 47]) rfl ?_); at_builtin
           refine Kd.R_append_zeros (Kd.int .u8) (w0 := w) w.heap.size rfl (.tmp 46) (.tmp 47) 22 3 5 (.int .u8 0) 1 rfl Try.underlying22 Try.underlying3 info5 rfl (by decide) (by omega) v3 ([] ++ F) 0 n (fun _ => True) rfl rfl rfl (fun _ _ => trivial) HO3.out hn0 HB3.out HB3.out.size (by simp; omega) ?_
           intro v4 w4 ho4 hb4 hg4 hat4
           have HO4 := Lib.hid ho4
           have HB4 := Lib.hid hb4
           clear ho4 hb4 hg4 hat4))
      obtain ⟨bl, hbl⟩ : ∃ bl, bl = [] ++ F ++ List.replicate n.toNat (0 : Int) := ⟨_, rfl⟩
      rw [← hbl] at HO4
      have hbll : bl.length = F.length + n.toNat := by rw [hbl]; simp
      have HBL := Lib.hid hbl
      have HBLL := Lib.hid hbll
      obtain ⟨A4, c4, rfl, hc4, hC4⟩ := Kd.R_reads HO4.out
      clear hbl hbll hC4 HO2 HB2 HO3 HB3 HC2
      by_cases hnear : k < 65535
      · refine (put_end_near k n F.length w4 hk0 hnear hn0 (by omega) (by omega) (by omega)).mono ?_
        rintro e w5 ⟨v5, rfl, hR5, hb5⟩
        have HO5 := Lib.hid (Kd.R_below HO4.out hb5)
        have HB5 := Lib.hid (HB4.out.trans (hb5.mono HB4.out.size))
        have hw5 : w.heap.size ≤ w4.heap.size := HB4.out.size
        obtain ⟨A5, c5, rfl, hc5, hC5⟩ := Kd.R_reads hR5
        have HC5 := Lib.hid hC5
        have HEL := Lib.hid (endBytes_length k n F.length)
        generalize hel : endBytes k n F.length = el at *
        clear hR5 hb5 HO4 HB4 hC5
        go_wp2_with (first
          | ((with_reducible refine gate_builtin (b := .append) (xs := #[.tmp 58, .tmp 59]) rfl ?_); at_builtin
             refine Kd.R_append_rows (Kd.int .u8) (w0 := w) w.heap.size rfl (.tmp 58) (.tmp 59) 22 5 (.int .u8 0) 1 rfl Try.underlying22 info5 rfl (by decide) (by omega) _ bl el A5 el.length c5 (fun _ => True) (fun _ => False) rfl rfl HO5.out HC5.out (fun _ _ h => h) (fun _ h => h.elim) (fun _ _ => trivial) HB5.out HB5.out.size (by have := HEL.out; have := HBLL.out; omega) ?_
             intro v6 w6 ho6 hb6 hg6 hat6
             have HO6 := Lib.hid ho6
             have HB6 := Lib.hid hb6
             clear ho6 hb6 hg6 hat6))
        obtain ⟨A6, c6, rfl, hc6, hC6⟩ := Kd.R_reads HO6.out
        have hends := end_facts bl k n F.length hk0 (by omega) hn0 (by omega) (by omega) (by omega)
        rw [hel] at hends
        have hbr : ∀ x ∈ bl ++ el, 0 ≤ x ∧ x < 256 := by
          intro x hx
          rw [← hel, HBL.out, endBytes_eq] at hx
          simp only [List.nil_append, List.append_nil, List.mem_append, List.mem_replicate, leb, List.mem_map] at hx
          rcases hx with (hx | hx) | hx
          · exact HB.out x hx
          · obtain ⟨_, rfl⟩ := hx; omega
          · rcases hx with ⟨i, _, rfl⟩ | ⟨i, _, rfl⟩ | ⟨i, _, rfl⟩ | ⟨i, _, rfl⟩ | ⟨i, _, rfl⟩ | ⟨i, _, rfl⟩ | ⟨i, _, rfl⟩ | ⟨i, _, rfl⟩ <;> omega
        have hll : (bl ++ el).length = F.length + n.toNat + 22 := by rw [List.length_append, HBLL.out, HEL.out]
        refine (find_near A6 c6 (bl ++ el) bl.length k n F.length w6 hC6 hbr (by omega) hends.1 (by omega) (by rw [List.length_append]; omega) hends.2.1 hends.2.2 (by omega) (by omega) (by omega) (by omega) (by have := HBLL.out; omega) (by have := HBLL.out; omega)).mono ?_
        rintro e w7 ⟨rfl, hb7⟩
        have HB7 := Lib.hid (HB6.out.trans (hb7.mono HB6.out.size))
        clear hb7 hC6 hends hbr hll HO5 HC5 HO6 HB6 HB5
        go_wp2_with fail
        have HF := Lib.hid (blk_new w7 (.cells #[.int .i64 k, .int .i64 n, .int .i64 (F.length : Int), .int .i64 (bl.length : Int), .int .i64 (bl.length : Int)] 29))
        have HB8 := Lib.hid (HB7.out.alloc HB7.out.size (.cells #[.int .i64 k, .int .i64 n, .int .i64 (F.length : Int), .int .i64 (bl.length : Int), .int .i64 (bl.length : Int)] 29))
        clear HB7
        generalize hm : w7.heap.size = r at *
        generalize hw8 : w7.alloc (.cells #[.int .i64 k, .int .i64 n, .int .i64 (F.length : Int), .int .i64 (bl.length : Int), .int .i64 (bl.length : Int)] 29) = w8 at *
        clear hw8 hm
        refine (told_calls w8).mono ?_
        rintro e w9 ⟨rfl, hb9⟩
        have HF9 := Lib.hid (blk_below HF.out hb9)
        have HB9 := Lib.hid (HB8.out.trans (hb9.mono HB8.out.size))
        clear hb9 HF HB8
        have hf0 := blk_cell HF9.out 0
        have hf1 := blk_cell HF9.out 1
        have hf2 := blk_cell HF9.out 2
        have hf3 := blk_cell HF9.out 3
        have hf4 := blk_cell HF9.out 4
        simp only [List.getElem?_toArray, List.getElem?_cons_zero, List.getElem?_cons_succ] at hf0 hf1 hf2 hf3 hf4
        clear hel hc4 hc5 hc6 hw5 hcF hl
        have hq : wrap64 (wrap64 ((bl.length : Int) + (el.length : Int)) - 22) = (bl.length : Int) := by
          have h1 := HEL.out
          have h2 := HBLL.out
          unfold wrap64
          omega
        rw [hq]
        clear hq
        go_wp2
        go_ret
        exact ⟨rfl, HB9.out⟩
      · refine (put_end_far k n F.length w4 (by omega) (by omega) hn0 (by omega) (by omega) (by omega)).mono ?_
        rintro e w5 ⟨v5, rfl, hR5, hb5⟩
        have HO5 := Lib.hid (Kd.R_below HO4.out hb5)
        have HB5 := Lib.hid (HB4.out.trans (hb5.mono HB4.out.size))
        have hw5 : w.heap.size ≤ w4.heap.size := HB4.out.size
        obtain ⟨A5, c5, rfl, hc5, hC5⟩ := Kd.R_reads hR5
        have HC5 := Lib.hid hC5
        have HEL := Lib.hid (show (farBytes k n F.length ++ endBytes 65535 n F.length).length = 98 from by rw [List.length_append, farBytes_length, endBytes_length])
        generalize hel : farBytes k n F.length ++ endBytes 65535 n F.length = el at *
        clear hR5 hb5 HO4 HB4 hC5
        go_wp2_with (first
          | ((with_reducible refine gate_builtin (b := .append) (xs := #[.tmp 58, .tmp 59]) rfl ?_); at_builtin
             refine Kd.R_append_rows (Kd.int .u8) (w0 := w) w.heap.size rfl (.tmp 58) (.tmp 59) 22 5 (.int .u8 0) 1 rfl Try.underlying22 info5 rfl (by decide) (by omega) _ bl el A5 el.length c5 (fun _ => True) (fun _ => False) rfl rfl HO5.out HC5.out (fun _ _ h => h) (fun _ h => h.elim) (fun _ _ => trivial) HB5.out HB5.out.size (by have := HEL.out; have := HBLL.out; omega) ?_
             intro v6 w6 ho6 hb6 hg6 hat6
             have HO6 := Lib.hid ho6
             have HB6 := Lib.hid hb6
             clear ho6 hb6 hg6 hat6))
        obtain ⟨A6, c6, rfl, hc6, hC6⟩ := Kd.R_reads HO6.out
        have hends := end_facts (bl ++ farBytes k n F.length) 65535 n F.length (by omega) (by omega) hn0 (by omega) (by omega) (by omega)
        rw [List.append_assoc, hel, List.length_append, farBytes_length] at hends
        have hfar := far_facts bl (endBytes 65535 n F.length) k n F.length hk0 (by omega) hn0 (by omega) (by omega) (by omega) bl.length rfl (bl ++ el) (by rw [← hel])
        obtain ⟨f5, f6, f7, f8, f9, f10, f11, f1, f2, f3, f4⟩ := hfar
        have hbr : ∀ x ∈ bl ++ el, 0 ≤ x ∧ x < 256 := by
          intro x hx
          rw [List.mem_append] at hx
          rcases hx with hx | hx
          · rw [HBL.out, List.nil_append, List.mem_append, List.mem_replicate] at hx
            rcases hx with hx | hx
            · exact HB.out x hx
            · obtain ⟨_, rfl⟩ := hx; omega
          · rw [← hel] at hx; exact ends_range _ _ _ _ _ _ hx
        have hll : (bl ++ el).length = F.length + n.toNat + 98 := by rw [List.length_append, HBLL.out, HEL.out]
        have hs20 : ((bl.length + 76 : Nat) : Int) - 20 = (bl.length : Int) + 56 := by omega
        have hs56 : (bl.length : Int) + 56 - 56 = (bl.length : Int) := by omega
        have hso : n + (F.length : Int) = (bl.length : Int) := by have := HBLL.out; omega
        rw [hso] at f3
        have hfind := find_far A6 c6 (bl ++ el) ((bl.length + 76 : Nat) : Int) 65535 n F.length w6 hC6 hbr (by omega) hends.1 (by omega) (by rw [List.length_append, HEL.out]; omega) hends.2.1 hends.2.2 rfl n F.length k 2949165 (by omega)
        rw [hs20, hs56] at hfind
        refine (hfind f1 f2 f3 f4 f5 f6 f7 f8 f9 f10 f11 (by omega) (by omega) (by omega)).mono ?_
        rintro e w7 ⟨rfl, hb7⟩
        have HB7 := Lib.hid (HB6.out.trans (hb7.mono HB6.out.size))
        clear hb7 hC6 hends hbr hll HO5 HC5 HO6 HB6 HB5
        go_wp2_with fail
        have HF := Lib.hid (blk_new w7 (.cells #[.int .i64 k, .int .i64 n, .int .i64 (F.length : Int), .int .i64 (bl.length : Int), .int .i64 ((bl.length : Int) + 76)] 29))
        have HB8 := Lib.hid (HB7.out.alloc HB7.out.size (.cells #[.int .i64 k, .int .i64 n, .int .i64 (F.length : Int), .int .i64 (bl.length : Int), .int .i64 ((bl.length : Int) + 76)] 29))
        clear HB7
        generalize hm : w7.heap.size = r at *
        generalize hw8 : w7.alloc (.cells #[.int .i64 k, .int .i64 n, .int .i64 (F.length : Int), .int .i64 (bl.length : Int), .int .i64 ((bl.length : Int) + 76)] 29) = w8 at *
        clear hw8 hm
        refine (told_calls w8).mono ?_
        rintro e w9 ⟨rfl, hb9⟩
        have HF9 := Lib.hid (blk_below HF.out hb9)
        have HB9 := Lib.hid (HB8.out.trans (hb9.mono HB8.out.size))
        clear hb9 HF HB8
        have hf0 := blk_cell HF9.out 0
        have hf1 := blk_cell HF9.out 1
        have hf2 := blk_cell HF9.out 2
        have hf3 := blk_cell HF9.out 3
        have hf4 := blk_cell HF9.out 4
        simp only [List.getElem?_toArray, List.getElem?_cons_zero, List.getElem?_cons_succ] at hf0 hf1 hf2 hf3 hf4
        clear hel hc4 hc5 hc6 hw5 hcF hl
        have hq : wrap64 (wrap64 ((bl.length : Int) + (el.length : Int)) - 22) = ((bl.length : Int) + 76) := by
          have h1 := HEL.out
          have h2 := HBLL.out
          unfold wrap64
          omega
        have hq2 : wrap64 (((bl.length : Int) + 76) - 76) = (bl.length : Int) := by
          have h2 := HBLL.out
          unfold wrap64
          omega
        rw [hq, hq2]
        clear hq hq2
        go_wp2
        go_ret
        exact ⟨rfl, HB9.out⟩
end Go.Proofs.Ytlbijehgoiknjaa.Z
