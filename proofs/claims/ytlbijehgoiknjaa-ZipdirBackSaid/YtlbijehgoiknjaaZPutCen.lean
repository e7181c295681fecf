/- Walk of package zipdir's PutCentral. -/
import Derived.Test.YtlbijehgoiknjaaZCommon
set_option linter.unusedVariables false
set_option linter.unusedSimpArgs false
namespace Go.Proofs.Ytlbijehgoiknjaa.Z
open Go.RowKit Go.Proofs.YtlbijehgoiknjaaW.PrintWords Go.Proofs.YtlbijehgoiknjaaW.PrintLast Go.Proofs.YtlbijehgoiknjaaW.PrintMore Go.Proofs.Ytlbijehgoiknjaa.PZipdirHeaders

/-- May a member be put? -/
def mayB (made need flags method date packed size : Int) (name comment : ByteArray) (offset : Int) : Bool :=
  withinB 65535 [made, need, flags, method, (name.size : Int), (comment.size : Int)] && (withinB 4294967295 [date] && withinB 4611686018427387904 [packed, size, offset])
theorem within_f (K : Nat) (most : Int) (l : List Int) (hl : l.length ≤ 1000) (hK : l.length < K) : zipdir_within.f K most l = some (withinB most l) := by
  have := within_loop most l hl l.length K 0 (by omega) hK
  simpa [zipdir_within.f] using this
theorem may_calls (made need flags method date sum packed size : Int) (name comment : ByteArray) (Ae : Option Addr) (ce : Nat) (ex : List S80) (attr offset : Int) (w : World) (he : Kd.C k80 w Ae ex.length ex) (hec : ex.length ≤ ce) :
    Calls Try.prog 28 #[.agg (memCells made need flags method date sum packed size name (.slice Ae ex.length ce) comment attr offset)] w fun e w' => e = .returned (.bool (mayB made need flags method date packed size name comment offset)) ∧ Below w.heap.size w w' := by
  refine zipdir_may.calls 10 made need flags method date sum packed size name Ae ce ex comment attr offset _ w he hec ?_
  unfold zipdir_may.f
  rw [within_f 10 _ _ (by simp) (by simp), within_f 10 _ _ (by simp) (by simp), within_f 10 _ _ (by simp) (by simp)]
  simp only [Option.bind_some, mayB]
  cases withinB 65535 [made, need, flags, method, (name.size : Int), (comment.size : Int)] <;> cases withinB 4294967295 [date] <;> simp
theorem strOfNums_size (b : List Int) : (strOfNums b).size = b.length := by simp [strOfNums, ByteArray.size]
theorem xput_len : ∀ (l : List S80) (xs b : List Int), xs.length ≤ 65535 → xput xs l = some b → b.length ≤ 65535
  | [], xs, b, hx, h => by
    simp only [xput, Option.some.injEq] at h
    subst h; exact hx
  | f :: fs, xs, b, hx, h => by
    rw [xput] at h
    by_cases hok : fldOk xs.length f = true
    · rw [if_pos hok] at h
      simp only [fldOk, Bool.and_eq_true, decide_eq_true_eq] at hok
      refine xput_len fs _ b ?_ h
      simp only [List.length_append, leb_length, bytesOf_length]
      omega
    · rw [if_neg hok] at h; cases h
theorem fields_len {ex : List S80} {l b : List Int} (h : fieldsF ex l = some b) : b.length ≤ 65535 := by
  unfold fieldsF at h
  split at h
  · cases h
  · exact xput_len _ [] b (by simp) h

theorem mem_at {w : World} {b : Nat} {T : TypeId} {made need flags method date sum packed size : Int} {name : ByteArray} {ex : Value} {comment : ByteArray} {attr offset : Int}
    (h : w.heap[b]? = some (.cells #[.int .i64 made, .int .i64 need, .int .i64 flags, .int .i64 method, .int .i64 date, .int .u32 sum, .int .i64 packed, .int .i64 size, .string name, ex, .string comment, .int .u32 attr, .int .i64 offset] T (0, 0))) :
    w.cell? ⟨b, 0, none⟩ = some (Value.int .i64 made) ∧ w.cell? ⟨b, 1, none⟩ = some (Value.int .i64 need) ∧ w.cell? ⟨b, 2, none⟩ = some (Value.int .i64 flags) ∧ w.cell? ⟨b, 3, none⟩ = some (Value.int .i64 method) ∧ w.cell? ⟨b, 4, none⟩ = some (Value.int .i64 date) ∧ w.cell? ⟨b, 5, none⟩ = some (Value.int .u32 sum) ∧ w.cell? ⟨b, 6, none⟩ = some (Value.int .i64 packed) ∧ w.cell? ⟨b, 7, none⟩ = some (Value.int .i64 size) ∧ w.cell? ⟨b, 8, none⟩ = some (Value.string name) ∧ w.cell? ⟨b, 9, none⟩ = some (ex) ∧ w.cell? ⟨b, 10, none⟩ = some (Value.string comment) ∧ w.cell? ⟨b, 11, none⟩ = some (Value.int .u32 attr) ∧ w.cell? ⟨b, 12, none⟩ = some (Value.int .i64 offset) :=
  ⟨by rw [blk_cell h]; rfl, by rw [blk_cell h]; rfl, by rw [blk_cell h]; rfl, by rw [blk_cell h]; rfl, by rw [blk_cell h]; rfl, by rw [blk_cell h]; rfl, by rw [blk_cell h]; rfl, by rw [blk_cell h]; rfl, by rw [blk_cell h]; rfl, by rw [blk_cell h]; rfl, by rw [blk_cell h]; rfl, by rw [blk_cell h]; rfl, by rw [blk_cell h]; rfl⟩
def centralF (made need flags method date sum packed size : Int) (name : ByteArray) (more : List Int) (comment : ByteArray) (attr offset : Int) : List Int :=
  putF 4 [33639248] ++ putF 2 [made] ++ commonF need flags method date sum packed size name (strOfNums more) ++ putF 2 [(comment.size : Int), 0, 0] ++ putF 4 [attr, smallF offset] ++ bytesOf ((name ++ strOfNums more) ++ comment)

set_option maxHeartbeats 4000000 in
set_option maxRecDepth 100000 in
theorem put_central_no (made need flags method date sum packed size : Int) (name comment : ByteArray) (Ae : Option Addr) (ce : Nat) (ex : List S80) (attr offset : Int) (w : World) (he : Kd.C k80 w Ae ex.length ex) (hec : ex.length ≤ ce) (hes : ex.length ≤ 1000)
    (h : mayB made need flags method date packed size name comment offset = false ∨ (mayB made need flags method date packed size name comment offset = true ∧ fieldsF ex [size, packed, offset] = none)) :
    Calls Try.prog 10 #[.agg (memCells made need flags method date sum packed size name (.slice Ae ex.length ce) comment attr offset)] w fun e w' => e = .returned (.tuple #[.slice none 0 0, .int .i64 1]) ∧ Below w.heap.size w w' := by
  have HE := Lib.hid (Kd.C_alloc he (.cells (memCells made need flags method date sum packed size name (.slice Ae ex.length ce) comment attr offset) 36))
  have HMC := Lib.hid (may_calls made need flags method date sum packed size name comment Ae ce ex attr offset _ HE.out hec)
  have HM0 := Lib.hid (blk_new w (.cells (memCells made need flags method date sum packed size name (.slice Ae ex.length ce) comment attr offset) 36))
  have HB0 := Lib.hid (below_alloc (Below.refl w.heap.size w) (.cells (memCells made need flags method date sum packed size name (.slice Ae ex.length ce) comment attr offset) 36))
  have HH := Lib.hid h
  clear he h
  unfold memCells at HMC HM0 HE HB0 ⊢
  go_enter Try.func10, Try.ntmps10
  go_wp2_with fail
  refine HMC.out.mono ?_
  rintro e w1 ⟨rfl, hb1⟩
  have HM1 := Lib.hid (blk_below HM0.out hb1)
  have HB1 := Lib.hid (HB0.out.trans (hb1.mono HB0.out.size))
  have HE1 := Lib.hid (Kd.C_below HE.out hb1)
  clear hb1 HMC HM0 HB0 HE
  cases hm : mayB made need flags method date packed size name comment offset with
  | false =>
    clear hm
    go_wp2
    go_ret2
    exact ⟨rfl, HB1.out⟩
  | true =>
    have HF := Lib.hid (show fieldsF ex [size, packed, offset] = none from by
      rcases HH.out with h | h
      · rw [hm] at h; cases h
      · exact h.2)
    simp only [mayB, withinB, List.all_cons, List.all_nil, Bool.and_true, Bool.and_eq_true, decide_eq_true_eq] at hm
    clear HH
    obtain ⟨c0, c1, c2, c3, c4, c5, c6, c7, c8, c9, c10, c11, c12⟩ := mem_at HM1.out
    go_wp2_with fail
    refine (fields_calls (.int .i64 made) (.int .i64 need) (.int .i64 flags) (.int .i64 method) (.int .i64 date) (.int .u32 sum) (.int .i64 packed) (.int .i64 size) (.string name) (.string comment) (.int .u32 attr) (.int .i64 offset) Ae (some ⟨w1.heap.size, 0, none⟩) ce 3 ex [size, packed, offset] _ (Kd.C_alloc HE1.out _) hec (C_of_blk (T := 3) (blk_new w1 (.cells #[.int .i64 size, .int .i64 packed, .int .i64 offset] 3)) (by simp)) (by simp) (by omega) (by simp) (by simp; omega)).mono ?_
    rintro e w2 ⟨rfl, hb2⟩
    have HB2 := Lib.hid (HB1.out.trans ((below_alloc (Below.refl _ _) _).trans (hb2.mono (by simp))|>.mono HB1.out.size))
    rw [fieldsR, HF.out]
    clear hb2 HF c0 c1 c2 c3 c4 c5 c6 c7 c8 c9 c10 c11 c12
    go_wp2
    go_ret2
    exact ⟨rfl, HB2.out⟩

set_option maxHeartbeats 4000000 in
set_option maxRecDepth 100000 in
theorem put_central_ok (made need flags method date sum packed size : Int) (name comment : ByteArray) (Ae : Option Addr) (ce : Nat) (ex : List S80) (attr offset : Int) (more : List Int) (w : World) (he : Kd.C k80 w Ae ex.length ex) (hec : ex.length ≤ ce) (hes : ex.length ≤ 1000)
    (hs1 : 0 ≤ sum) (hs2 : sum ≤ 4294967295) (ha1 : 0 ≤ attr) (ha2 : attr ≤ 4294967295)
    (h : mayB made need flags method date packed size name comment offset = true) (hF : fieldsF ex [size, packed, offset] = some more) :
    Calls Try.prog 10 #[.agg (memCells made need flags method date sum packed size name (.slice Ae ex.length ce) comment attr offset)] w fun e w' => ∃ v, e = .returned (.tuple #[v, .int .i64 0]) ∧ Kd.R (Kd.int .u8) 5 w' w.heap.size (fun _ => True) v (centralF made need flags method date sum packed size name more comment attr offset) ∧ Below w.heap.size w w' := by
  have HE := Lib.hid (Kd.C_alloc he (.cells (memCells made need flags method date sum packed size name (.slice Ae ex.length ce) comment attr offset) 36))
  have HMC := Lib.hid (may_calls made need flags method date sum packed size name comment Ae ce ex attr offset _ HE.out hec)
  rw [h] at HMC
  have HM0 := Lib.hid (blk_new w (.cells (memCells made need flags method date sum packed size name (.slice Ae ex.length ce) comment attr offset) 36))
  have HB0 := Lib.hid (below_alloc (Below.refl w.heap.size w) (.cells (memCells made need flags method date sum packed size name (.slice Ae ex.length ce) comment attr offset) 36))
  have HF := Lib.hid hF
  have hm := h
  have hml := fields_len hF
  clear he h hF
  simp only [mayB, withinB, List.all_cons, List.all_nil, Bool.and_true, Bool.and_eq_true, decide_eq_true_eq] at hm
  obtain ⟨⟨⟨m1, m1'⟩, ⟨m2, m2'⟩, ⟨m3, m3'⟩, ⟨m4, m4'⟩, ⟨m5, m5'⟩, m6, m6'⟩, ⟨m7, m7'⟩, ⟨m8, m8'⟩, ⟨m9, m9'⟩, m10, m10'⟩ := hm
  have hmw : w.heap.size < (w.alloc (.cells (memCells made need flags method date sum packed size name (.slice Ae ex.length ce) comment attr offset) 36)).heap.size := by simp
  unfold memCells at HMC HM0 HE HB0 hmw ⊢
  go_enter Try.func10, Try.ntmps10
  go_wp2_with fail
  refine HMC.out.mono ?_
  rintro e w1 ⟨rfl, hb1⟩
  have hw1 : w.heap.size < w1.heap.size := Nat.lt_of_lt_of_le hmw hb1.size
  have HM1 := Lib.hid (blk_below HM0.out hb1)
  have HB1 := Lib.hid (HB0.out.trans (hb1.mono HB0.out.size))
  have HE1 := Lib.hid (Kd.C_below HE.out hb1)
  clear hb1 HMC HM0 HB0 HE hmw
  obtain ⟨c0, c1, c2, c3, c4, c5, c6, c7, c8, c9, c10, c11, c12⟩ := mem_at HM1.out
  go_wp2_with fail
  refine (fields_calls (.int .i64 made) (.int .i64 need) (.int .i64 flags) (.int .i64 method) (.int .i64 date) (.int .u32 sum) (.int .i64 packed) (.int .i64 size) (.string name) (.string comment) (.int .u32 attr) (.int .i64 offset) Ae (some ⟨w1.heap.size, 0, none⟩) ce 3 ex [size, packed, offset] _ (Kd.C_alloc HE1.out _) hec (C_of_blk (T := 3) (blk_new w1 (.cells #[.int .i64 size, .int .i64 packed, .int .i64 offset] 3)) (by simp)) (by simp) (by omega) (by simp) (by simp; omega)).mono ?_
  rintro e w2 ⟨rfl, hb2⟩
  have HM2 := Lib.hid (blk_below (blk_alloc HM1.out (.cells #[.int .i64 size, .int .i64 packed, .int .i64 offset] 3)) hb2)
  have HB2 := Lib.hid (HB1.out.trans ((below_alloc (Below.refl _ _) _).trans (hb2.mono (by simp))|>.mono HB1.out.size))
  have hw2 : w.heap.size < w2.heap.size := Nat.lt_of_lt_of_le (Nat.lt_of_lt_of_le hw1 (by simp)) hb2.size
  rw [fieldsR, HF.out]
  clear hb2 HF c0 c1 c2 c3 c4 c5 c6 c7 c8 c9 c10 c11 c12 HM1 HB1 HE1
  have hMl : (strOfNums more).size ≤ 65535 := by rw [strOfNums_size]; exact hml
  generalize hMore : strOfNums more = M at *
  go_wp2_with fail
  have HS3 := Lib.hid (WrS.new w2 w.heap.size (Nat.le_of_lt hw2))
  have HM3 := Lib.hid (blk_alloc HM2.out (.cells #[.slice none 0 0] 54))
  have HB3 := Lib.hid (HB2.out.alloc HB2.out.size (.cells #[.slice none 0 0] 54))
  have hw3 : w.heap.size ≤ (w2.alloc (.cells #[.slice none 0 0] 54)).heap.size := by simp; omega
  have hw3s : (w2.alloc (.cells #[.slice none 0 0] 54)).heap.size = w2.heap.size + 1 := by simp
  clear HB2 HM2
  generalize hg : w2.heap.size = g at *
  generalize w2.alloc (.cells #[.slice none 0 0] 54) = w3 at *
  rw [← hw3s]
  clear hw3s
  refine (put_lit g w.heap.size 4 _ [33639248] _ HS3.out (by omega) (by omega) (by simp) (by simp [putF_length, commonF, hMl]; try omega) hw3).mono ?_
  rintro e w4 ⟨rfl, hS, hK⟩
  have HS4 := Lib.hid hS
  have HM4 := Lib.hid (hK.blk HM3.out (by simp; omega))
  have HB4 := Lib.hid (HB3.out.trans (hK.to_below hw3 (by simp; omega)))
  have hw4 : w.heap.size ≤ w4.heap.size := Nat.le_trans hw3 hK.size
  clear hS hK HS3 HM3 HB3 hw3
  have hc := (mem_at HM4.out).1
  have u1 : IntKind.u64.wrap made = made := IntWalk.u64_in _ (by omega)
  go_wp2_with fail
  clear hc u1
  refine (put_lit g w.heap.size 2 _ [made] _ HS4.out (by omega) (by omega) (by simp) (by simp [putF_length, commonF, hMl]; try omega) hw4).mono ?_
  rintro e w5 ⟨rfl, hS, hK⟩
  have HS5 := Lib.hid hS
  have HM5 := Lib.hid (hK.blk HM4.out (by simp; omega))
  have HB5 := Lib.hid (HB4.out.trans (hK.to_below hw4 (by simp; omega)))
  have hw5 : w.heap.size ≤ w5.heap.size := Nat.le_trans hw4 hK.size
  clear hS hK HS4 HM4 HB4 hw4
  obtain ⟨c0, c1, c2, c3, c4, c5, c6, c7, c8, c9, c10, c11, c12⟩ := mem_at HM5.out
  go_wp2_with fail
  clear c0 c1 c2 c3 c4 c5 c6 c7 c8 c9 c10 c11 c12
  refine (common_calls g w.heap.size _ made need flags method date sum packed size name M (.slice Ae ex.length ce) comment attr offset _ HS5.out (by simp [putF_length]) hw5 m2 m2' m3 m3' m4 m4' m7 m7' hs1 hs2 m8 m8' m9 m9' (by omega) (by omega)).mono ?_
  rintro e w6 ⟨rfl, hS, hK⟩
  have HS6 := Lib.hid hS
  have HM6 := Lib.hid (hK.blk HM5.out (by simp; omega))
  have HB6 := Lib.hid (HB5.out.trans (hK.to_below hw5 (by simp; omega)))
  have hw6 : w.heap.size ≤ w6.heap.size := Nat.le_trans hw5 hK.size
  clear hS hK HS5 HM5 HB5 hw5
  obtain ⟨c0, c1, c2, c3, c4, c5, c6, c7, c8, c9, c10, c11, c12⟩ := mem_at HM6.out
  go_wp2_with fail
  clear c0 c1 c2 c3 c4 c5 c6 c7 c8 c9 c10 c11 c12
  refine (small_calls offset _ m10).mono ?_
  rintro e w7 ⟨rfl, hb⟩
  have HS7 := Lib.hid (HS6.out.below hb)
  have HM7 := Lib.hid (blk_below HM6.out hb)
  have HB7 := Lib.hid (HB6.out.trans (hb.mono hw6))
  have hw7 : w.heap.size ≤ w7.heap.size := Nat.le_trans hw6 hb.size
  clear hb HS6 HM6 HB6 hw6
  obtain ⟨c0, c1, c2, c3, c4, c5, c6, c7, c8, c9, c10, c11, c12⟩ := mem_at HM7.out
  have u1 : IntKind.u64.wrap (comment.size : Int) = (comment.size : Int) := IntWalk.u64_in _ (by omega)
  go_wp2_with fail
  clear c0 c1 c2 c3 c4 c5 c6 c7 c8 c9 c10 c11 c12 u1
  refine (put_lit g w.heap.size 2 _ [(comment.size : Int), 0, 0] _ HS7.out (by omega) (by omega) (by simp) (by simp [putF_length, commonF, hMl]; try omega) hw7).mono ?_
  rintro e w8 ⟨rfl, hS, hK⟩
  have HS8 := Lib.hid hS
  have HM8 := Lib.hid (hK.blk HM7.out (by simp; omega))
  have HB8 := Lib.hid (HB7.out.trans (hK.to_below hw7 (by simp; omega)))
  have hw8 : w.heap.size ≤ w8.heap.size := Nat.le_trans hw7 hK.size
  clear hS hK HS7 HM7 HB7 hw7
  obtain ⟨c0, c1, c2, c3, c4, c5, c6, c7, c8, c9, c10, c11, c12⟩ := mem_at HM8.out
  have u1 : IntKind.u64.wrap attr = attr := IntWalk.u64_in _ (by omega)
  go_wp2_with fail
  clear c0 c1 c2 c3 c4 c5 c6 c7 c8 c9 c10 c11 c12 u1
  refine (put_lit g w.heap.size 4 _ [attr, smallF offset] _ HS8.out (by omega) (by omega) (by simp) (by simp [putF_length, commonF, hMl]; try omega) hw8).mono ?_
  rintro e w9 ⟨rfl, hS, hK⟩
  have HS9 := Lib.hid hS
  have HM9 := Lib.hid (hK.blk HM8.out (by simp; omega))
  have HB9 := Lib.hid (HB8.out.trans (hK.to_below hw8 (by simp; omega)))
  have hw9 : w.heap.size ≤ w9.heap.size := Nat.le_trans hw8 hK.size
  clear hS hK HS8 HM8 HB8 hw8
  obtain ⟨Av, nv, cv, hnv, hg1, hR⟩ := HS9.out.row
  have hg0 := blk_cell hg1 0
  simp only [List.getElem?_toArray, List.getElem?_cons_zero] at hg0
  obtain ⟨-, -, -, -, -, -, -, -, c8, -, c10, -, -⟩ := mem_at HM9.out
  have HRR := Lib.hid hR
  clear hg1 hR HS9 HM9
  go_wp2_with fail
  refine region_tail 11 (by kernel_rfl) (by kernel_rfl) ?_
  have hq1 : ¬ 9223372036854775807 < name.size + M.size := by omega
  have hq2 : ¬ 9223372036854775807 < name.size + M.size + comment.size := by omega
  have hq3 : (name ++ M).size = name.size + M.size := ByteArray.size_append
  repeat still_step
  refine wpStill_nil ?_
  refine print_append_str (w0 := w) w.heap.size rfl (.tmp 64) (.tmp 71) 22 9 5 rfl Try.underlying22 Try.underlying9 info5 (.slice Av nv cv) _ ((name ++ M) ++ comment) rfl rfl (Kd.own_of_R (Kd.R_drew HRR.out)) HB9.out.drew hw9 (by simp [putF_length, commonF, ByteArray.size_append]; omega) ?_
  intro v1 w10 hown hb hgr
  have HR := Lib.hid (show Kd.R (Kd.int .u8) 5 w10 w.heap.size (fun _ => True) v1 _ from Kd.R_of_own hown (fun _ _ => trivial))
  have HB := Lib.hid hb
  clear hown hb hgr HRR HB9
  go_wp2
  go_ret2
  refine ⟨v1, rfl, ?_, HB.out⟩
  have h := HR.out
  simp only [List.nil_append] at h
  unfold centralF
  rw [hMore]
  exact h
end Go.Proofs.Ytlbijehgoiknjaa.Z
