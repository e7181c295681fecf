/- Walk of package stevedorelaw28's ZipdirBack: it answers true. -/
import Derived.Test.YtlbijehgoiknjaaZBack
import Derived.Test.YtlbijehgoiknjaaZTold
set_option linter.unusedVariables false
set_option linter.unusedSimpArgs false
namespace Go.Proofs.Ytlbijehgoiknjaa.Z
open Go.RowKit Go.Proofs.YtlbijehgoiknjaaW.PrintWords Go.Proofs.YtlbijehgoiknjaaW.PrintLast Go.Proofs.YtlbijehgoiknjaaW.PrintMore Go.Proofs.Ytlbijehgoiknjaa.PZipdirHeaders

theorem central_range (made need flags method date sum packed size : Int) (name : ByteArray) (more : List Int) (comment : ByteArray) (attr offset : Int) (hmr : ∀ x ∈ more, 0 ≤ x ∧ x < 256) : ∀ x ∈ centralF made need flags method date sum packed size name more comment attr offset, 0 ≤ x ∧ x < 256 := by
  intro x hx
  have e := centralF_eq made need flags method date sum packed size name more comment attr offset [] hmr
  rw [List.append_nil] at e
  rw [e] at hx
  simp only [List.mem_append, List.append_nil] at hx
  rcases hx with h | h | h | h | h | h | h | h | h | h
  any_goals exact putF_range h
  · exact bytesOf_range _ x h
  · exact hmr x h
  · exact bytesOf_range _ x h
theorem local_range (need flags method date sum packed size : Int) (name : ByteArray) (more : List Int) (hmr : ∀ x ∈ more, 0 ≤ x ∧ x < 256) : ∀ x ∈ localF need flags method date sum packed size name more, 0 ≤ x ∧ x < 256 := by
  intro x hx
  have e := localF_eq need flags method date sum packed size name more [] hmr
  rw [List.append_nil] at e
  rw [e] at hx
  simp only [List.mem_append, List.append_nil] at hx
  rcases hx with h | h | h | h | h | h
  · exact leb_range h
  · exact putF_range h
  · exact putF_range h
  · exact putF_range h
  · exact bytesOf_range _ x h
  · exact hmr x h

set_option maxHeartbeats 8000000 in
set_option maxRecDepth 100000 in
theorem backs_calls (made need flags method date sum packed size : Int) (name comment : ByteArray) (Ae : Option Addr) (ce : Nat) (ex : List S80) (attr offset : Int) (Aa : Option Addr) (ca : Nat) (ahead : List Int) (w : World)
    (he : Kd.C k80 w Ae ex.length ex) (hec : ex.length ≤ ce) (hr : Kd.C (Kd.int .u8) w Aa ahead.length ahead) (hac : ahead.length ≤ ca) (hb : ∀ x ∈ ahead, 0 ≤ x ∧ x < 256) (hl : ahead.length ≤ 140737488351232)
    (hs0 : 0 ≤ sum) (hs1 : sum ≤ 4294967295) (ha0 : 0 ≤ attr) (ha1 : attr ≤ 4294967295) :
    Calls Try.prog 5 #[.agg (memCells made need flags method date sum packed size name (.slice Ae ex.length ce) comment attr offset), .slice Aa ahead.length ca] w fun e w' => e = .returned (.bool true) ∧ Below w.heap.size w w' := by
  have hel : ex.length ≤ 9223372036854775807 := he.2.1
  have HE := Lib.hid (Kd.C_alloc he (.cells (memCells made need flags method date sum packed size name (.slice Ae ex.length ce) comment attr offset) 36))
  have HA := Lib.hid (Kd.C_alloc hr (.cells (memCells made need flags method date sum packed size name (.slice Ae ex.length ce) comment attr offset) 36))
  have HM := Lib.hid (blk_new w (.cells (memCells made need flags method date sum packed size name (.slice Ae ex.length ce) comment attr offset) 36))
  have HB := Lib.hid (below_alloc (Below.refl w.heap.size w) (.cells (memCells made need flags method date sum packed size name (.slice Ae ex.length ce) comment attr offset) 36))
  have HF := Lib.hid (few_calls made need flags method date sum packed size name comment Ae ce ex attr offset _ HE.out hec hel)
  have hw0 : (w.alloc (.cells (memCells made need flags method date sum packed size name (.slice Ae ex.length ce) comment attr offset) 36)).heap.size = w.heap.size + 1 := by simp
  have HBA := Lib.hid hb
  clear he hr hb
  unfold memCells at HE HA HM HB HF hw0 ⊢
  generalize hfw : fewB name comment ex = fw at *
  obtain ⟨c0, c1, c2, c3, c4, c5, c6, c7, c8, c9, c10, c11, c12⟩ := mem_at HM.out
  go_enter Try.func5, Try.ntmps5
  go_wp2_with fail
  refine HF.out.mono ?_
  rintro e w1 ⟨rfl, hb1⟩
  cases fw with
  | false =>
    go_wp2_with fail
    refine (told_calls w1).mono ?_
    rintro e w2 ⟨rfl, hb2⟩
    go_wp2
    go_ret
    exact ⟨rfl, (HB.out.trans (hb1.mono HB.out.size)).trans (hb2.mono (HB.out.trans (hb1.mono HB.out.size)).size)⟩
  | true =>
    by_cases hbig : (ahead.length : Int) > 100
    · go_wp2_with fail
      refine (told_calls w1).mono ?_
      rintro e w2 ⟨rfl, hb2⟩
      go_wp2
      go_ret
      exact ⟨rfl, (HB.out.trans (hb1.mono HB.out.size)).trans (hb2.mono (HB.out.trans (hb1.mono HB.out.size)).size)⟩
    · have HE1 := Lib.hid (Kd.C_below HE.out hb1)
      have HA1 := Lib.hid (Kd.C_below HA.out hb1)
      have HM1 := Lib.hid (blk_below HM.out hb1)
      have HB1 := Lib.hid (HB.out.trans (hb1.mono HB.out.size))
      have hw1 : w.heap.size < w1.heap.size := by have := hb1.size; omega
      clear HE HA HM HB HF hb1 hw0 c0 c1 c2 c3 c4 c5 c6 c7 c8 c9 c10 c11 c12
      obtain ⟨c0, c1, c2, c3, c4, c5, c6, c7, c8, c9, c10, c11, c12⟩ := mem_at HM1.out
      obtain ⟨fn0, fn1, fn2, fn3⟩ : name.size ≤ 300 ∧ comment.size ≤ 300 ∧ (∀ f ∈ ex, f.f1.size ≤ 300) ∧ ex.length ≤ 10 := by
        simp only [fewB, Bool.and_eq_true, decide_eq_true_eq, List.all_eq_true] at hfw
        exact ⟨hfw.1, hfw.2.1, hfw.2.2.1, hfw.2.2.2⟩
      have HD := Lib.hid fn2
      clear fn2 hfw
      by_cases hno : mayB made need flags method date packed size name comment offset = false ∨ (mayB made need flags method date packed size name comment offset = true ∧ fieldsF ex [size, packed, offset] = none)
      · have HP := Lib.hid (put_central_no made need flags method date sum packed size name comment Ae ce ex attr offset w1 HE1.out hec (by omega) hno)
        unfold memCells at HP
        clear hno
        go_wp2_with fail
        refine HP.out.mono ?_
        rintro e w2 ⟨rfl, hb2⟩
        have HB2 := Lib.hid (HB1.out.trans (hb2.mono HB1.out.size))
        clear hb2 HP HE1 HA1 HM1 HB1 c0 c1 c2 c3 c4 c5 c6 c7 c8 c9 c10 c11 c12
        go_wp2_with fail
        refine (told_calls w2).mono ?_
        rintro e w3 ⟨rfl, hb3⟩
        go_wp2
        go_ret
        exact ⟨rfl, HB2.out.trans (hb3.mono HB2.out.size)⟩
      · obtain ⟨hmay, more, hF⟩ : mayB made need flags method date packed size name comment offset = true ∧ ∃ more, fieldsF ex [size, packed, offset] = some more := by
          cases hm : mayB made need flags method date packed size name comment offset with
          | false => exact absurd (.inl hm) hno
          | true =>
            cases hf : fieldsF ex [size, packed, offset] with
            | none => exact absurd (.inr ⟨hm, hf⟩) hno
            | some more => exact ⟨rfl, more, rfl⟩
        clear hno
        have hml := fields_len hF
        have HP := Lib.hid (put_central_ok made need flags method date sum packed size name comment Ae ce ex attr offset more w1 HE1.out hec (by omega) hs0 hs1 ha0 ha1 hmay hF)
        have HCL := Lib.hid (central_len made need flags method date sum packed size name more comment attr offset)
        have HCR := Lib.hid (show ∀ x ∈ centralF made need flags method date sum packed size name more comment attr offset, 0 ≤ x ∧ x < 256 from central_range _ _ _ _ _ _ _ _ _ _ _ _ _ (more_range hF))
        have HMY := Lib.hid hmay
        have HFF := Lib.hid hF
        clear hmay hF
        generalize hcb : centralF made need flags method date sum packed size name more comment attr offset = cb at *
        have HCB := Lib.hid hcb
        clear hcb
        unfold memCells at HP
        go_wp2_with fail
        refine HP.out.mono ?_
        rintro e w2 ⟨v2, rfl, hR2, hb2⟩
        obtain ⟨A2, k2, rfl, hk2, hC2⟩ := Kd.R_reads hR2
        have HE2 := Lib.hid (Kd.C_below HE1.out hb2)
        have HA2 := Lib.hid (Kd.C_below HA1.out hb2)
        have HM2 := Lib.hid (blk_below HM1.out hb2)
        have HB2 := Lib.hid (HB1.out.trans (hb2.mono HB1.out.size))
        have HC2 := Lib.hid hC2
        have hw2 : w.heap.size < w2.heap.size := by have := hb2.size; omega
        clear HE1 HA1 HM1 HB1 HP hb2 hR2 hC2 hw1 c0 c1 c2 c3 c4 c5 c6 c7 c8 c9 c10 c11 c12
        go_wp2_with (first
          | ((with_reducible refine gate_dst (N := 43) rfl ?_)
             go_must (refine Kd.R_lit (Kd.int .u8) (w0 := w2) w2.heap.size 5 ?hg (N := 43) ?hd (xs := []) (inner := []) (ok := fun _ => True) (okp := fun _ => True) ?hr ?hp (fun _ hk => hk) trivial (Below.refl _ _) (Nat.le_refl _) (by simp) ?_)
             (case hd => rfl)
             (case hg => rfl)
             (case hr => first | (go_simp; done) | (go_simp; rfl))
             (case hp => exact Reps.none _ _)
             intro v3 w3 ho3 hb3 hg3 hnew3
             have HO3 := Lib.hid ho3
             have HB3 := Lib.hid hb3
             clear ho3 hb3 hg3 hnew3)
          | ((with_reducible refine gate_builtin (b := .append) (xs := #[.tmp 43, .tmp 44]) rfl ?_); at_builtin
             go_must (refine Kd.R_append_rows (Kd.int .u8) (w0 := w2) w2.heap.size rfl (.tmp 43) (.tmp 44) 22 5 (.int .u8 0) 1 rfl Try.underlying22 info5 rfl (by decide) (by omega) v3 [] ahead Aa ahead.length ca (fun _ => True) (fun _ => False) rfl rfl HO3.out (Kd.C_below HA2.out HB3.out) (fun _ _ h => h) (fun _ h => h.elim) (fun _ _ => trivial) HB3.out HB3.out.size (by simp; omega) ?_)
             intro v4 w4 ho4 hb4 hg4 hat4
             have HO4 := Lib.hid ho4
             have HB4 := Lib.hid hb4
             clear ho4 hb4 hg4 hat4 HO3 HB3)
          | ((with_reducible refine gate_builtin (b := .append) (xs := #[.tmp 45, .tmp 46]) rfl ?_); at_builtin
             go_must (refine Kd.R_append_rows (Kd.int .u8) (w0 := w2) w2.heap.size rfl (.tmp 45) (.tmp 46) 22 5 (.int .u8 0) 1 rfl Try.underlying22 info5 rfl (by decide) (by omega) v4 ([] ++ ahead) cb A2 cb.length k2 (fun _ => True) (fun _ => False) rfl rfl HO4.out (Kd.C_below HC2.out HB4.out) (fun _ _ h => h) (fun _ h => h.elim) (fun _ _ => trivial) HB4.out HB4.out.size (by have := HCL.out; simp; omega) ?_)
             intro v5 w5 ho5 hb5 hg5 hat5
             have HO5 := Lib.hid ho5
             have HB5 := Lib.hid hb5
             clear ho5 hb5 hg5 hat5 HO4 HB4)
          | ((with_reducible refine gate_dst (N := 48) rfl ?_)
             go_must (refine Kd.R_lit (Kd.int .u8) (w0 := w2) w2.heap.size 5 ?hg (N := 48) ?hd (xs := [7]) (inner := [.int .u8 7]) (ok := fun _ => True) (okp := fun _ => True) ?hr ?hp (fun _ hk => hk) trivial HB5.out HB5.out.size (by simp) ?_)
             (case hd => rfl)
             (case hg => rfl)
             (case hr => first | (go_simp; done) | (go_simp; rfl))
             (case hp => exact Reps.one (p := (7 : Int)) rfl (Reps.none _ _))
             intro v6 w6 ho6 hb6 hg6 hnew6
             have HO6 := Lib.hid ho6
             have HO5b := Lib.hid (Kd.R_grown HO5.out hg6 (fun k _ h => by cases h))
             have HB6 := Lib.hid hb6
             clear ho6 hb6 hg6 hnew6 HO5 HB5
             obtain ⟨A6, k6, rfl, hk6, hC6⟩ := Kd.R_reads HO6.out
             have HC6 := Lib.hid hC6
             clear hC6 hk6)
          | ((with_reducible refine gate_builtin (b := .append) (xs := #[.tmp 47, .tmp 48]) rfl ?_); at_builtin
             go_must (refine Kd.R_append_rows (Kd.int .u8) (w0 := w2) w2.heap.size rfl (.tmp 47) (.tmp 48) 22 5 (.int .u8 0) 1 rfl Try.underlying22 info5 rfl (by decide) (by omega) v5 ([] ++ ahead ++ cb) [7] A6 1 k6 (fun _ => True) (fun _ => False) rfl rfl HO5b.out HC6.out (fun _ _ h => h) (fun _ h => h.elim) (fun _ _ => trivial) HB6.out HB6.out.size (by have := HCL.out; simp; omega) ?_)
             intro v7 w7 ho7 hb7 hg7 hat7
             have HO7 := Lib.hid ho7
             have HB7 := Lib.hid hb7
             clear ho7 hb7 hg7 hat7 HO6 HO5b HB6 HC6))
        obtain ⟨A7, k7, rfl, hk7, hC7⟩ := Kd.R_reads HO7.out
        have HX := Lib.hid (central_back A7 k7 ([] ++ ahead ++ cb ++ [7]) ahead [7] made need flags method date sum packed size name comment ex attr offset more w7 (by rw [HCB.out]; simp) hC7 hk7 (by
          intro x hx
          simp only [List.nil_append, List.mem_append, List.mem_singleton] at hx
          rcases hx with (hx | hx) | hx
          · exact HBA.out x hx
          · exact HCR.out x hx
          · omega) (by have := HCL.out; simp; omega) hs0 hs1 ha0 ha1 (by omega) (fun f hf => by have := HD.out f hf; omega) HMY.out HFF.out)
        have HE7 := Lib.hid (Kd.C_below HE2.out HB7.out)
        have HA7 := Lib.hid (Kd.C_below HA2.out HB7.out)
        have HM7 := Lib.hid (blk_below HM2.out HB7.out)
        have HC7 := Lib.hid (Kd.C_below HC2.out HB7.out)
        have HBB7 := Lib.hid (HB2.out.trans (HB7.out.mono HB2.out.size))
        have hw7 : w.heap.size < w7.heap.size := by have := HB7.out.size; omega
        clear HE2 HA2 HM2 HB2 HC2 hw2 HO7 HB7 hC7 hk7
        rw [HCB.out] at HX
        unfold memCells at HX
        refine HX.out.mono ?_
        rintro e w8 ⟨hb8, v8, rfl, hR8⟩
        obtain ⟨A8, k8, rfl, hk8, hC8⟩ := Kd.R_reads hR8
        have HX8 := Lib.hid hC8
        have HE8 := Lib.hid (Kd.C_below HE7.out hb8)
        have HA8 := Lib.hid (Kd.C_below HA7.out hb8)
        have HM8 := Lib.hid (blk_below HM7.out hb8)
        have HC8 := Lib.hid (Kd.C_below HC7.out hb8)
        have HB8 := Lib.hid (HBB7.out.trans (hb8.mono HBB7.out.size))
        have hw8 : w.heap.size < w8.heap.size := by have := hb8.size; omega
        clear HX HE7 HA7 HM7 HC7 HBB7 hw7 hb8 hR8 hC8
        go_upto_region 7 with (fail)
        have HE9 := Lib.hid (Kd.C_alloc HE8.out (.cells #[.int .i64 made, .int .i64 need, .int .i64 flags, .int .i64 method, .int .i64 date, .int .u32 sum, .int .i64 packed, .int .i64 size, .string name, .slice A8 ex.length k8, .string comment, .int .u32 attr, .int .i64 offset] 36))
        have HA9 := Lib.hid (Kd.C_alloc HA8.out (.cells #[.int .i64 made, .int .i64 need, .int .i64 flags, .int .i64 method, .int .i64 date, .int .u32 sum, .int .i64 packed, .int .i64 size, .string name, .slice A8 ex.length k8, .string comment, .int .u32 attr, .int .i64 offset] 36))
        have HM9 := Lib.hid (blk_alloc HM8.out (.cells #[.int .i64 made, .int .i64 need, .int .i64 flags, .int .i64 method, .int .i64 date, .int .u32 sum, .int .i64 packed, .int .i64 size, .string name, .slice A8 ex.length k8, .string comment, .int .u32 attr, .int .i64 offset] 36))
        have HC9 := Lib.hid (Kd.C_alloc HC8.out (.cells #[.int .i64 made, .int .i64 need, .int .i64 flags, .int .i64 method, .int .i64 date, .int .u32 sum, .int .i64 packed, .int .i64 size, .string name, .slice A8 ex.length k8, .string comment, .int .u32 attr, .int .i64 offset] 36))
        have HX9 := Lib.hid (Kd.C_alloc HX8.out (.cells #[.int .i64 made, .int .i64 need, .int .i64 flags, .int .i64 method, .int .i64 date, .int .u32 sum, .int .i64 packed, .int .i64 size, .string name, .slice A8 ex.length k8, .string comment, .int .u32 attr, .int .i64 offset] 36))
        have HY9 := Lib.hid (blk_new w8 (.cells #[.int .i64 made, .int .i64 need, .int .i64 flags, .int .i64 method, .int .i64 date, .int .u32 sum, .int .i64 packed, .int .i64 size, .string name, .slice A8 ex.length k8, .string comment, .int .u32 attr, .int .i64 offset] 36))
        have HB9 := Lib.hid (HB8.out.alloc HB8.out.size (.cells #[.int .i64 made, .int .i64 need, .int .i64 flags, .int .i64 method, .int .i64 date, .int .u32 sum, .int .i64 packed, .int .i64 size, .string name, .slice A8 ex.length k8, .string comment, .int .u32 attr, .int .i64 offset] 36))
        have hw9 : w.heap.size < (w8.alloc (.cells #[.int .i64 made, .int .i64 need, .int .i64 flags, .int .i64 method, .int .i64 date, .int .u32 sum, .int .i64 packed, .int .i64 size, .string name, .slice A8 ex.length k8, .string comment, .int .u32 attr, .int .i64 offset] 36)).heap.size := by simp; omega
        clear HE8 HA8 HM8 HC8 HX8 HB8
        generalize hx8 : w8.heap.size = x8 at *
        generalize (w8.alloc (.cells #[.int .i64 made, .int .i64 need, .int .i64 flags, .int .i64 method, .int .i64 date, .int .u32 sum, .int .i64 packed, .int .i64 size, .string name, .slice A8 ex.length k8, .string comment, .int .u32 attr, .int .i64 offset] 36)) = w9 at *
        have hwr : wrap64 ((ahead.length : Int) + (cb.length : Int)) = (ahead.length : Int) + (cb.length : Int) := by have := HCL.out; unfold wrap64; omega
        have HSM := Lib.hid (same_calls made need flags method date sum packed size name comment A8 Ae k8 ce ex attr offset w9 HX9.out hk8 HE9.out hec (by omega))
        unfold memCells at HSM
        obtain ⟨c0, c1, c2, c3, c4, c5, c6, c7, c8, c9, c10, c11, c12⟩ := mem_at HM9.out
        obtain ⟨d0, d1, d2, d3, d4, d5, d6, d7, d8, d9, d10, d11, d12⟩ := mem_at HY9.out
        go_wp2_with fail
        refine HSM.out.mono ?_
        rintro e w10 ⟨rfl, hb10⟩
        have HE10 := Lib.hid (Kd.C_below HE9.out hb10)
        have HA10 := Lib.hid (Kd.C_below HA9.out hb10)
        have HM10 := Lib.hid (blk_below HM9.out hb10)
        have HC10 := Lib.hid (Kd.C_below HC9.out hb10)
        have HB10 := Lib.hid (HB9.out.trans (hb10.mono HB9.out.size))
        have hw10 : w.heap.size < w10.heap.size := by have := hb10.size; omega
        clear HSM HX9 HY9 HE9 HA9 HM9 HC9 HB9 hw9 hb10 hwr hw8 c0 c1 c2 c3 c4 c5 c6 c7 c8 c9 c10 c11 c12 d0 d1 d2 d3 d4 d5 d6 d7 d8 d9 d10 d11 d12
        obtain ⟨more2, hF2⟩ := fields_less HFF.out
        have hml2 := fields_len hF2
        have HP := Lib.hid (put_local_ok made need flags method date sum packed size name comment Ae ce ex attr offset more2 w10 HE10.out hec (by omega) hs0 hs1 HMY.out hF2)
        have HLL := Lib.hid (local_len need flags method date sum packed size name more2)
        have HLR := Lib.hid (local_range need flags method date sum packed size name more2 (more_range hF2))
        have HF2 := Lib.hid hF2
        clear hF2
        generalize hlb : localF need flags method date sum packed size name more2 = lb at *
        have HLB := Lib.hid hlb
        clear hlb
        unfold memCells at HP
        obtain ⟨c0, c1, c2, c3, c4, c5, c6, c7, c8, c9, c10, c11, c12⟩ := mem_at HM10.out
        go_wp2_with fail
        refine HP.out.mono ?_
        rintro e w11 ⟨v11, rfl, hR11, hb11⟩
        obtain ⟨A11, k11, rfl, hk11, hC11⟩ := Kd.R_reads hR11
        have HE11 := Lib.hid (Kd.C_below HE10.out hb11)
        have HA11 := Lib.hid (Kd.C_below HA10.out hb11)
        have HM11 := Lib.hid (blk_below HM10.out hb11)
        have HC11 := Lib.hid (Kd.C_below HC10.out hb11)
        have HB11 := Lib.hid (HB10.out.trans (hb11.mono HB10.out.size))
        have HL11 := Lib.hid hC11
        have hw11 : w.heap.size < w11.heap.size := by have := hb11.size; omega
        clear HP HE10 HA10 HM10 HC10 HB10 hw10 hb11 hR11 hC11 c0 c1 c2 c3 c4 c5 c6 c7 c8 c9 c10 c11 c12
        go_wp2_with (first
          | ((with_reducible refine gate_dst (N := 79) rfl ?_)
             go_must (refine Kd.R_lit (Kd.int .u8) (w0 := w11) w11.heap.size 5 ?hg (N := 79) ?hd (xs := []) (inner := []) (ok := fun _ => True) (okp := fun _ => True) ?hr ?hp (fun _ hk => hk) trivial (Below.refl _ _) (Nat.le_refl _) (by simp) ?_)
             (case hd => rfl)
             (case hg => rfl)
             (case hr => first | (go_simp; done) | (go_simp; rfl))
             (case hp => exact Reps.none _ _)
             intro v3 w3 ho3 hb3 hg3 hnew3
             have HO3 := Lib.hid ho3
             have HB3 := Lib.hid hb3
             clear ho3 hb3 hg3 hnew3)
          | ((with_reducible refine gate_builtin (b := .append) (xs := #[.tmp 79, .tmp 80]) rfl ?_); at_builtin
             go_must (refine Kd.R_append_rows (Kd.int .u8) (w0 := w11) w11.heap.size rfl (.tmp 79) (.tmp 80) 22 5 (.int .u8 0) 1 rfl Try.underlying22 info5 rfl (by decide) (by omega) v3 [] ahead Aa ahead.length ca (fun _ => True) (fun _ => False) rfl rfl HO3.out (Kd.C_below HA11.out HB3.out) (fun _ _ h => h) (fun _ h => h.elim) (fun _ _ => trivial) HB3.out HB3.out.size (by simp; omega) ?_)
             intro v4 w4 ho4 hb4 hg4 hat4
             have HO4 := Lib.hid ho4
             have HB4 := Lib.hid hb4
             clear ho4 hb4 hg4 hat4 HO3 HB3)
          | ((with_reducible refine gate_builtin (b := .append) (xs := #[.tmp 81, .tmp 82]) rfl ?_); at_builtin
             go_must (refine Kd.R_append_rows (Kd.int .u8) (w0 := w11) w11.heap.size rfl (.tmp 81) (.tmp 82) 22 5 (.int .u8 0) 1 rfl Try.underlying22 info5 rfl (by decide) (by omega) v4 ([] ++ ahead) lb A11 lb.length k11 (fun _ => True) (fun _ => False) rfl rfl HO4.out (Kd.C_below HL11.out HB4.out) (fun _ _ h => h) (fun _ h => h.elim) (fun _ _ => trivial) HB4.out HB4.out.size (by have := HLL.out; simp; omega) ?_)
             intro v5 w5 ho5 hb5 hg5 hat5
             have HO5 := Lib.hid ho5
             have HB5 := Lib.hid hb5
             clear ho5 hb5 hg5 hat5 HO4 HB4))
        obtain ⟨A5, k5, rfl, hk5, hC5⟩ := Kd.R_reads HO5.out
        have HX := Lib.hid (local_back A5 k5 ([] ++ ahead ++ lb) ahead [] made need flags method date sum packed size name comment ex offset more2 w5 (by rw [HLB.out]; simp) hC5 hk5 (by
          intro x hx
          simp only [List.nil_append, List.mem_append] at hx
          rcases hx with hx | hx
          · exact HBA.out x hx
          · exact HLR.out x hx) (by have := HLL.out; simp; omega) hs0 hs1 (by omega) (fun f hf => by have := HD.out f hf; omega) HMY.out HF2.out)
        have HE12 := Lib.hid (Kd.C_below HE11.out HB5.out)
        have HM12 := Lib.hid (blk_below HM11.out HB5.out)
        have HC12 := Lib.hid (Kd.C_below HC11.out HB5.out)
        have HBB12 := Lib.hid (HB11.out.trans (HB5.out.mono HB11.out.size))
        have hw12 : w.heap.size < w5.heap.size := by have := HB5.out.size; omega
        clear HE11 HA11 HM11 HB11 HC11 HL11 hw11 HO5 HB5 hC5 hk5
        rw [HLB.out] at HX
        unfold memCells at HX
        refine HX.out.mono ?_
        rintro e w13 ⟨hb13, v13, rfl, hR13⟩
        obtain ⟨A13, k13, rfl, hk13, hC13⟩ := Kd.R_reads hR13
        have HY13 := Lib.hid hC13
        have HE13 := Lib.hid (Kd.C_below HE12.out hb13)
        have HM13 := Lib.hid (blk_below HM12.out hb13)
        have HC13 := Lib.hid (Kd.C_below HC12.out hb13)
        have HB13 := Lib.hid (HBB12.out.trans (hb13.mono HBB12.out.size))
        have hw13 : w.heap.size < w13.heap.size := by have := hb13.size; omega
        clear HX HE12 HM12 HC12 HBB12 hw12 hb13 hR13 hC13
        go_upto_region 11 with (fail)
        have HE14 := Lib.hid (Kd.C_alloc HE13.out (.cells #[.int .i64 0, .int .i64 need, .int .i64 flags, .int .i64 method, .int .i64 date, .int .u32 sum, .int .i64 packed, .int .i64 size, .string name, .slice A13 ex.length k13, .string ⟨#[]⟩, .int .u32 0, .int .i64 0] 36))
        have HM14 := Lib.hid (blk_alloc HM13.out (.cells #[.int .i64 0, .int .i64 need, .int .i64 flags, .int .i64 method, .int .i64 date, .int .u32 sum, .int .i64 packed, .int .i64 size, .string name, .slice A13 ex.length k13, .string ⟨#[]⟩, .int .u32 0, .int .i64 0] 36))
        have HC14 := Lib.hid (Kd.C_alloc HC13.out (.cells #[.int .i64 0, .int .i64 need, .int .i64 flags, .int .i64 method, .int .i64 date, .int .u32 sum, .int .i64 packed, .int .i64 size, .string name, .slice A13 ex.length k13, .string ⟨#[]⟩, .int .u32 0, .int .i64 0] 36))
        have HX14 := Lib.hid (Kd.C_alloc HY13.out (.cells #[.int .i64 0, .int .i64 need, .int .i64 flags, .int .i64 method, .int .i64 date, .int .u32 sum, .int .i64 packed, .int .i64 size, .string name, .slice A13 ex.length k13, .string ⟨#[]⟩, .int .u32 0, .int .i64 0] 36))
        have HY14 := Lib.hid (blk_new w13 (.cells #[.int .i64 0, .int .i64 need, .int .i64 flags, .int .i64 method, .int .i64 date, .int .u32 sum, .int .i64 packed, .int .i64 size, .string name, .slice A13 ex.length k13, .string ⟨#[]⟩, .int .u32 0, .int .i64 0] 36))
        have HB14 := Lib.hid (HB13.out.alloc HB13.out.size (.cells #[.int .i64 0, .int .i64 need, .int .i64 flags, .int .i64 method, .int .i64 date, .int .u32 sum, .int .i64 packed, .int .i64 size, .string name, .slice A13 ex.length k13, .string ⟨#[]⟩, .int .u32 0, .int .i64 0] 36))
        have hw14 : w.heap.size < (w13.alloc (.cells #[.int .i64 0, .int .i64 need, .int .i64 flags, .int .i64 method, .int .i64 date, .int .u32 sum, .int .i64 packed, .int .i64 size, .string name, .slice A13 ex.length k13, .string ⟨#[]⟩, .int .u32 0, .int .i64 0] 36)).heap.size := by simp; omega
        have hy14 : w13.heap.size < (w13.alloc (.cells #[.int .i64 0, .int .i64 need, .int .i64 flags, .int .i64 method, .int .i64 date, .int .u32 sum, .int .i64 packed, .int .i64 size, .string name, .slice A13 ex.length k13, .string ⟨#[]⟩, .int .u32 0, .int .i64 0] 36)).heap.size := by simp
        clear HE13 HM13 HC13 HY13 HB13 hw13
        generalize hx13 : w13.heap.size = y13 at *
        generalize (w13.alloc (.cells #[.int .i64 0, .int .i64 need, .int .i64 flags, .int .i64 method, .int .i64 date, .int .u32 sum, .int .i64 packed, .int .i64 size, .string name, .slice A13 ex.length k13, .string ⟨#[]⟩, .int .u32 0, .int .i64 0] 36)) = w14 at *
        obtain ⟨c0, c1, c2, c3, c4, c5, c6, c7, c8, c9, c10, c11, c12⟩ := mem_at HM14.out
        go_upto_region 13 with (fail)
        have HE15 := Lib.hid (Kd.C_alloc HE14.out (.cells #[.int .i64 0, .int .i64 need, .int .i64 flags, .int .i64 method, .int .i64 date, .int .u32 sum, .int .i64 packed, .int .i64 size, .string name, .slice Ae ex.length ce, .string ⟨#[]⟩, .int .u32 0, .int .i64 0] 36))
        have HC15 := Lib.hid (Kd.C_alloc HC14.out (.cells #[.int .i64 0, .int .i64 need, .int .i64 flags, .int .i64 method, .int .i64 date, .int .u32 sum, .int .i64 packed, .int .i64 size, .string name, .slice Ae ex.length ce, .string ⟨#[]⟩, .int .u32 0, .int .i64 0] 36))
        have HX15 := Lib.hid (Kd.C_alloc HX14.out (.cells #[.int .i64 0, .int .i64 need, .int .i64 flags, .int .i64 method, .int .i64 date, .int .u32 sum, .int .i64 packed, .int .i64 size, .string name, .slice Ae ex.length ce, .string ⟨#[]⟩, .int .u32 0, .int .i64 0] 36))
        have HY15 := Lib.hid (blk_alloc HY14.out (.cells #[.int .i64 0, .int .i64 need, .int .i64 flags, .int .i64 method, .int .i64 date, .int .u32 sum, .int .i64 packed, .int .i64 size, .string name, .slice Ae ex.length ce, .string ⟨#[]⟩, .int .u32 0, .int .i64 0] 36))
        have HZ15 := Lib.hid (blk_new w14 (.cells #[.int .i64 0, .int .i64 need, .int .i64 flags, .int .i64 method, .int .i64 date, .int .u32 sum, .int .i64 packed, .int .i64 size, .string name, .slice Ae ex.length ce, .string ⟨#[]⟩, .int .u32 0, .int .i64 0] 36))
        have HB15 := Lib.hid (HB14.out.alloc HB14.out.size (.cells #[.int .i64 0, .int .i64 need, .int .i64 flags, .int .i64 method, .int .i64 date, .int .u32 sum, .int .i64 packed, .int .i64 size, .string name, .slice Ae ex.length ce, .string ⟨#[]⟩, .int .u32 0, .int .i64 0] 36))
        clear HE14 HM14 HC14 HX14 HY14 HB14 hw14 c0 c1 c2 c3 c4 c5 c6 c7 c8 c9 c10 c11 c12
        generalize hz14 : w14.heap.size = z14 at *
        generalize (w14.alloc (.cells #[.int .i64 0, .int .i64 need, .int .i64 flags, .int .i64 method, .int .i64 date, .int .u32 sum, .int .i64 packed, .int .i64 size, .string name, .slice Ae ex.length ce, .string ⟨#[]⟩, .int .u32 0, .int .i64 0] 36)) = w15 at *
        clear hz14 hy14
        go_wp2_with fail
        go_loopw [16] (fun ti wr => ∃ k : Nat, k ≤ cb.length ∧ ti = .int .i64 k ∧ Kd.C k80 wr Ae ex.length ex ∧ Kd.C (Kd.int .u8) wr A2 cb.length cb ∧ Kd.C k80 wr A13 ex.length ex ∧ wr.heap[y13]? = some (.cells #[.int .i64 0, .int .i64 need, .int .i64 flags, .int .i64 method, .int .i64 date, .int .u32 sum, .int .i64 packed, .int .i64 size, .string name, .slice A13 ex.length k13, .string ⟨#[]⟩, .int .u32 0, .int .i64 0] 36 (0, 0)) ∧ wr.heap[z14]? = some (.cells #[.int .i64 0, .int .i64 need, .int .i64 flags, .int .i64 method, .int .i64 date, .int .u32 sum, .int .i64 packed, .int .i64 size, .string name, .slice Ae ex.length ce, .string ⟨#[]⟩, .int .u32 0, .int .i64 0] 36 (0, 0)) ∧ Below w.heap.size w wr) (fun ti _ => cb.length - (intOf ti).toNat)
        case atStart => exact ⟨0, by omega, rfl, HE15.out, HC15.out, HX15.out, HY15.out, HZ15.out, HB15.out⟩
        case round =>
          obtain ⟨k, hk, rfl, hE, hC, hX, hY, hZ, hBw⟩ := hrel
          have HE16 := Lib.hid hE
          have HC16 := Lib.hid hC
          have HX16 := Lib.hid hX
          have HY16 := Lib.hid hY
          have HZ16 := Lib.hid hZ
          have HB16 := Lib.hid hBw
          clear hE hC hX hY hZ hBw HE15 HC15 HX15 HY15 HZ15 HB15
          have hk0 : (0 : Int) ≤ (k : Int) := Int.natCast_nonneg k
          have hclb : cb.length ≤ 70000 := by have := HCL.out; omega
          by_cases hlt : k < cb.length
          · have hk1 : (k : Int) < (cb.length : Int) := by omega
            obtain ⟨i0, hi0, hz0, hz1, hz2⟩ := info_parts Tryinfo5
            have hcut : ∀ W, (Instr.slice 22 (.slice A2 cb.length k2) none (some (.int .i64 (k : Int))) none).run Try.prog W = .ok (.slice A2 k k2) W := fun W => by
              have h := cut_to (P := Try.prog) 22 5 .i64 Try.underlying22 hi0 A2 cb.length k2 (k : Int) (by omega) (by omega) hk2 W
              rw [Int.toNat_natCast] at h
              exact h
            clear hi0 hz0 hz1 hz2
            have hlk : (cb.take k).length = k := by rw [List.length_take]; omega
            have HXC := Lib.hid (central_cut A2 k2 k (cb.take k) made need flags method date sum packed size name comment ex attr offset more wr (by rw [HCB.out]) (by rw [HCB.out]; exact hlt) (Kd.C_take HC16.out (by omega)) (by omega) (fun x hx => HCR.out x (List.mem_of_mem_take hx)) (by have := HCL.out; omega) hs0 hs1 ha0 ha1 HMY.out HFF.out)
            rw [hlk] at HXC
            unfold memCells at HXC
            clear hlk
            go_wp2_with fail
            refine HXC.out.mono ?_
            rintro e w17 ⟨hb17, rfl⟩
            have HE17 := Lib.hid (Kd.C_alloc (Kd.C_below HE16.out hb17) (.cells #[.int .i64 0, .int .i64 0, .int .i64 0, .int .i64 0, .int .i64 0, .int .u32 0, .int .i64 0, .int .i64 0, .string ⟨#[]⟩, .slice none 0 0, .string ⟨#[]⟩, .int .u32 0, .int .i64 0] 36))
            have HC17 := Lib.hid (Kd.C_alloc (Kd.C_below HC16.out hb17) (.cells #[.int .i64 0, .int .i64 0, .int .i64 0, .int .i64 0, .int .i64 0, .int .u32 0, .int .i64 0, .int .i64 0, .string ⟨#[]⟩, .slice none 0 0, .string ⟨#[]⟩, .int .u32 0, .int .i64 0] 36))
            have HX17 := Lib.hid (Kd.C_alloc (Kd.C_below HX16.out hb17) (.cells #[.int .i64 0, .int .i64 0, .int .i64 0, .int .i64 0, .int .i64 0, .int .u32 0, .int .i64 0, .int .i64 0, .string ⟨#[]⟩, .slice none 0 0, .string ⟨#[]⟩, .int .u32 0, .int .i64 0] 36))
            have HY17 := Lib.hid (blk_alloc (blk_below HY16.out hb17) (.cells #[.int .i64 0, .int .i64 0, .int .i64 0, .int .i64 0, .int .i64 0, .int .u32 0, .int .i64 0, .int .i64 0, .string ⟨#[]⟩, .slice none 0 0, .string ⟨#[]⟩, .int .u32 0, .int .i64 0] 36))
            have HZ17 := Lib.hid (blk_alloc (blk_below HZ16.out hb17) (.cells #[.int .i64 0, .int .i64 0, .int .i64 0, .int .i64 0, .int .i64 0, .int .u32 0, .int .i64 0, .int .i64 0, .string ⟨#[]⟩, .slice none 0 0, .string ⟨#[]⟩, .int .u32 0, .int .i64 0] 36))
            have HB17a := HB16.out.trans (hb17.mono HB16.out.size)
            have HB17 := Lib.hid (HB17a.alloc HB17a.size (.cells #[.int .i64 0, .int .i64 0, .int .i64 0, .int .i64 0, .int .i64 0, .int .u32 0, .int .i64 0, .int .i64 0, .string ⟨#[]⟩, .slice none 0 0, .string ⟨#[]⟩, .int .u32 0, .int .i64 0] 36))
            clear HE16 HC16 HX16 HY16 HZ16 HB16 hb17 HB17a HXC hcut
            go_wp2
            go_roundw
            case rel => exact ⟨k + 1, by omega, by go_num, HE17.out, HC17.out, HX17.out, HY17.out, HZ17.out, HB17.out⟩
            case measure => simp [intOf]; omega
          · have hk1 : ¬ (k : Int) < (cb.length : Int) := by omega
            go_wp2_with fail
            refine (told_calls wr).mono ?_
            rintro e w18 ⟨rfl, hb18⟩
            have HE18 := Lib.hid (Kd.C_below HE16.out hb18)
            have HX18 := Lib.hid (Kd.C_below HX16.out hb18)
            have HY18 := Lib.hid (blk_below HY16.out hb18)
            have HZ18 := Lib.hid (blk_below HZ16.out hb18)
            have HB18 := Lib.hid (HB16.out.trans (hb18.mono HB16.out.size))
            clear HE16 HC16 HX16 HY16 HZ16 HB16 hb18
            have hwr : wrap64 ((ahead.length : Int) + (lb.length : Int)) = (ahead.length : Int) + (lb.length : Int) := by have := HLL.out; unfold wrap64; omega
            have HSM := Lib.hid (same_calls 0 need flags method date sum packed size name ⟨#[]⟩ A13 Ae k13 ce ex 0 0 w18 HX18.out hk13 HE18.out hec (by omega))
            unfold memCells at HSM
            obtain ⟨c0, c1, c2, c3, c4, c5, c6, c7, c8, c9, c10, c11, c12⟩ := mem_at HY18.out
            obtain ⟨d0, d1, d2, d3, d4, d5, d6, d7, d8, d9, d10, d11, d12⟩ := mem_at HZ18.out
            go_wp2_with fail
            refine HSM.out.mono ?_
            rintro e w19 ⟨rfl, hb19⟩
            have HB19 := Lib.hid (HB18.out.trans (hb19.mono HB18.out.size))
            go_wp2
            go_ret
            exact ⟨rfl, HB19.out⟩
end Go.Proofs.Ytlbijehgoiknjaa.Z
