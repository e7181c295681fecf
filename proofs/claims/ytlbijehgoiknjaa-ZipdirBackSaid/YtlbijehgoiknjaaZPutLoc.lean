/- Walk of package zipdir's PutLocal. -/
import Derived.Test.YtlbijehgoiknjaaZPutCen
set_option linter.unusedVariables false
set_option linter.unusedSimpArgs false
namespace Go.Proofs.Ytlbijehgoiknjaa.Z
open Go.RowKit Go.Proofs.YtlbijehgoiknjaaW.PrintWords Go.Proofs.YtlbijehgoiknjaaW.PrintLast Go.Proofs.YtlbijehgoiknjaaW.PrintMore Go.Proofs.Ytlbijehgoiknjaa.PZipdirHeaders

def localF (need flags method date sum packed size : Int) (name : ByteArray) (more : List Int) : List Int :=
  putF 4 [67324752] ++ commonF need flags method date sum packed size name (strOfNums more) ++ bytesOf (name ++ strOfNums more)

set_option maxHeartbeats 4000000 in
set_option maxRecDepth 100000 in
theorem put_local_ok (made need flags method date sum packed size : Int) (name comment : ByteArray) (Ae : Option Addr) (ce : Nat) (ex : List S80) (attr offset : Int) (more : List Int) (w : World) (he : Kd.C k80 w Ae ex.length ex) (hec : ex.length ≤ ce) (hes : ex.length ≤ 1000)
    (hs1 : 0 ≤ sum) (hs2 : sum ≤ 4294967295)
    (h : mayB made need flags method date packed size name comment offset = true) (hF : fieldsF ex [size, packed] = some more) :
    Calls Try.prog 12 #[.agg (memCells made need flags method date sum packed size name (.slice Ae ex.length ce) comment attr offset)] w fun e w' => ∃ v, e = .returned (.tuple #[v, .int .i64 0]) ∧ Kd.R (Kd.int .u8) 5 w' w.heap.size (fun _ => True) v (localF need flags method date sum packed size name more) ∧ Below w.heap.size w w' := by
  have HE := Lib.hid (Kd.C_alloc he (.cells (memCells made need flags method date sum packed size name (.slice Ae ex.length ce) comment attr offset) 36))
  have HMC := Lib.hid (may_calls made need flags method date sum packed size name comment Ae ce ex attr offset _ HE.out hec)
  rw [h] at HMC
  have HM0 := Lib.hid (blk_new w (.cells (memCells made need flags method date sum packed size name (.slice Ae ex.length ce) comment attr offset) 36))
  have HB0 := Lib.hid (below_alloc (Below.refl w.heap.size w) (.cells (memCells made need flags method date sum packed size name (.slice Ae ex.length ce) comment attr offset) 36))
  have HF := Lib.hid hF
  have hm := h
  have hml := fields_len hF
  clear he h hF
  simp only [mayB, withinB, List.all_cons, List.all_nil, Bool.and_true, Bool.and_eq_true, decide_eq_true_eq] at hm
  obtain ⟨⟨⟨m1, m1'⟩, ⟨m2, m2'⟩, ⟨m3, m3'⟩, ⟨m4, m4'⟩, ⟨m5, m5'⟩, m6, m6'⟩, ⟨m7, m7'⟩, ⟨m8, m8'⟩, ⟨m9, m9'⟩, m10, m10'⟩ := hm
  have hmw : w.heap.size < (w.alloc (.cells (memCells made need flags method date sum packed size name (.slice Ae ex.length ce) comment attr offset) 36)).heap.size := by simp
  unfold memCells at HMC HM0 HE HB0 hmw ⊢
  go_enter Try.func12, Try.ntmps12
  go_wp2_with fail
  refine HMC.out.mono ?_
  rintro e w1 ⟨rfl, hb1⟩
  have hw1 : w.heap.size < w1.heap.size := Nat.lt_of_lt_of_le hmw hb1.size
  have HM1 := Lib.hid (blk_below HM0.out hb1)
  have HB1 := Lib.hid (HB0.out.trans (hb1.mono HB0.out.size))
  have HE1 := Lib.hid (Kd.C_below HE.out hb1)
  clear hb1 HMC HM0 HB0 HE hmw
  obtain ⟨c0, c1, c2, c3, c4, c5, c6, c7, c8, c9, c10, c11, c12⟩ := mem_at HM1.out
  go_wp2_with fail
  refine (fields_calls (.int .i64 made) (.int .i64 need) (.int .i64 flags) (.int .i64 method) (.int .i64 date) (.int .u32 sum) (.int .i64 packed) (.int .i64 size) (.string name) (.string comment) (.int .u32 attr) (.int .i64 offset) Ae (some ⟨w1.heap.size, 0, none⟩) ce 2 ex [size, packed] _ (Kd.C_alloc HE1.out _) hec (C_of_blk (T := 3) (blk_new w1 (.cells #[.int .i64 size, .int .i64 packed] 3)) (by simp)) (by simp) (by omega) (by simp) (by simp; omega)).mono ?_
  rintro e w2 ⟨rfl, hb2⟩
  have HM2 := Lib.hid (blk_below (blk_alloc HM1.out (.cells #[.int .i64 size, .int .i64 packed] 3)) hb2)
  have HB2 := Lib.hid (HB1.out.trans ((below_alloc (Below.refl _ _) _).trans (hb2.mono (by simp))|>.mono HB1.out.size))
  have hw2 : w.heap.size < w2.heap.size := Nat.lt_of_lt_of_le (Nat.lt_of_lt_of_le hw1 (by simp)) hb2.size
  rw [fieldsR, HF.out]
  clear hb2 HF c0 c1 c2 c3 c4 c5 c6 c7 c8 c9 c10 c11 c12 HM1 HB1 HE1
  have hMl : (strOfNums more).size ≤ 65535 := by rw [strOfNums_size]; exact hml
  generalize hMore : strOfNums more = M at *
  go_wp2_with fail
  have HS3 := Lib.hid (WrS.new w2 w.heap.size (Nat.le_of_lt hw2))
  have HM3 := Lib.hid (blk_alloc HM2.out (.cells #[.slice none 0 0] 54))
  have HB3 := Lib.hid (HB2.out.alloc HB2.out.size (.cells #[.slice none 0 0] 54))
  have hw3 : w.heap.size ≤ (w2.alloc (.cells #[.slice none 0 0] 54)).heap.size := by simp; omega
  have hw3s : (w2.alloc (.cells #[.slice none 0 0] 54)).heap.size = w2.heap.size + 1 := by simp
  clear HB2 HM2
  generalize hg : w2.heap.size = g at *
  generalize w2.alloc (.cells #[.slice none 0 0] 54) = w3 at *
  rw [← hw3s]
  clear hw3s
  refine (put_lit g w.heap.size 4 _ [67324752] _ HS3.out (by omega) (by omega) (by simp) (by simp [putF_length, commonF, hMl]; try omega) hw3).mono ?_
  rintro e w4 ⟨rfl, hS, hK⟩
  have HS4 := Lib.hid hS
  have HM4 := Lib.hid (hK.blk HM3.out (by simp; omega))
  have HB4 := Lib.hid (HB3.out.trans (hK.to_below hw3 (by simp; omega)))
  have hw4 : w.heap.size ≤ w4.heap.size := Nat.le_trans hw3 hK.size
  clear hS hK HS3 HM3 HB3 hw3
  obtain ⟨c0, c1, c2, c3, c4, c5, c6, c7, c8, c9, c10, c11, c12⟩ := mem_at HM4.out
  go_wp2_with fail
  clear c0 c1 c2 c3 c4 c5 c6 c7 c8 c9 c10 c11 c12
  refine (common_calls g w.heap.size _ made need flags method date sum packed size name M (.slice Ae ex.length ce) comment attr offset _ HS4.out (by simp [putF_length]) hw4 m2 m2' m3 m3' m4 m4' m7 m7' hs1 hs2 m8 m8' m9 m9' (by omega) (by omega)).mono ?_
  rintro e w5 ⟨rfl, hS, hK⟩
  have HS5 := Lib.hid hS
  have HM5 := Lib.hid (hK.blk HM4.out (by simp; omega))
  have HB5 := Lib.hid (HB4.out.trans (hK.to_below hw4 (by simp; omega)))
  have hw5 : w.heap.size ≤ w5.heap.size := Nat.le_trans hw4 hK.size
  clear hS hK HS4 HM4 HB4 hw4
  obtain ⟨Av, nv, cv, hnv, hg1, hR⟩ := HS5.out.row
  have hg0 := blk_cell hg1 0
  simp only [List.getElem?_toArray, List.getElem?_cons_zero] at hg0
  obtain ⟨-, -, -, -, -, -, -, -, c8, -, -, -, -⟩ := mem_at HM5.out
  have HRR := Lib.hid hR
  clear hg1 hR HS5 HM5
  go_wp2_with fail
  refine region_tail 8 (by kernel_rfl) (by kernel_rfl) ?_
  have hq1 : ¬ 9223372036854775807 < name.size + M.size := by omega
  have hq3 : (name ++ M).size = name.size + M.size := ByteArray.size_append
  repeat still_step
  refine wpStill_nil ?_
  refine print_append_str (w0 := w) w.heap.size rfl (.tmp 34) (.tmp 38) 22 9 5 rfl Try.underlying22 Try.underlying9 info5 (.slice Av nv cv) _ (name ++ M) rfl rfl (Kd.own_of_R (Kd.R_drew HRR.out)) HB5.out.drew hw5 (by simp [putF_length, commonF, ByteArray.size_append]; omega) ?_
  intro v1 w6 hown hb hgr
  have HR := Lib.hid (show Kd.R (Kd.int .u8) 5 w6 w.heap.size (fun _ => True) v1 _ from Kd.R_of_own hown (fun _ _ => trivial))
  have HB := Lib.hid hb
  clear hown hb hgr HRR HB5
  go_wp2
  go_ret2
  refine ⟨v1, rfl, ?_, HB.out⟩
  have h := HR.out
  simp only [List.nil_append] at h
  unfold localF
  rw [hMore]
  exact h
end Go.Proofs.Ytlbijehgoiknjaa.Z
