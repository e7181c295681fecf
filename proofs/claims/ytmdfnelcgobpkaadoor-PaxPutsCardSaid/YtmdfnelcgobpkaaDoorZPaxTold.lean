/- Walks of pax.Read at the two texts that told reads, and of told. -/
import Derived.Test.YtmdfnelcgobpkaaDoorZPaxOne
set_option linter.unusedVariables false
set_option linter.unusedSimpArgs false
namespace Go.Proofs.YtmdfnelcgobpkaaDoor.Z
open Go.RowKit Go.Shelf Go.Proofs.YtmdfnelcgobpkaaDoorW.PrintWords Go.Proofs.YtmdfnelcgobpkaaDoorW.PrintLast Go.Proofs.YtmdfnelcgobpkaaDoorW.PrintMore Go.Proofs.YtmdfnelcgobpkaaDoor.PPaxPuts

def tx : Nat → ByteArray
  | 0 => ⟨#[57, 32, 112, 97, 116, 104, 61, 97, 10, 54, 32, 98, 61, 99, 10]⟩
  | 1 => ⟨#[54, 32, 98, 61, 99, 10]⟩
  | _ => ⟨#[]⟩
def rws : List S32 := [⟨⟨#[112, 97, 116, 104]⟩, ⟨#[97]⟩⟩, ⟨⟨#[98]⟩, ⟨#[99]⟩⟩]
def strSize : Value → Nat
  | .string s => s.size
  | _ => 0
set_option maxHeartbeats 4000000 in
set_option maxRecDepth 100000 in
theorem read_ab (m : Int) (w : World) (hm : w.cell? ⟨0, 0, none⟩ = some (.int .i64 m)) :
    Calls Tryd.prog 16 #[.string ⟨#[57, 32, 112, 97, 116, 104, 61, 97, 10, 54, 32, 98, 61, 99, 10]⟩] w fun e w' => ∃ v, e = .returned (.tuple #[v, .int .i64 0]) ∧ Kd.R k32 32 w' w.heap.size (fun _ => True) v rws ∧ Below w.heap.size w w' := by
  go_enter Tryd.func16, Tryd.ntmps16
  go_wp2_with fail
  go_loopw [0, 4] (fun t0 t4 wr => ∃ j : Nat, j ≤ 2 ∧ t0 = .string (tx j) ∧ Kd.R k32 32 wr w.heap.size (fun _ => True) t4 (rws.take j) ∧ Below w.heap.size w wr) (fun t0 _ _ => strSize t0)
  case atStart => exact ⟨0, by omega, rfl, Kd.R_nil _ _ _ _ _, Below.refl _ _⟩
  case round =>
    obtain ⟨j, hj, rfl, hR, hB⟩ := hrel
    have HR := Lib.hid hR
    have HW := Lib.hid hB
    clear hR hB
    match j, hj with
    | 0, _ =>
      rw [show tx 0 = ⟨#[57, 32, 112, 97, 116, 104, 61, 97, 10, 54, 32, 98, 61, 99, 10]⟩ from rfl]
      go_wp2_with fail
      refine (one_a m wr (pw_cell_below HW.out hm)).mono ?_
      rintro e w1 ⟨rfl, hb1⟩
      have HR1 := Lib.hid (Kd.R_alloc (Kd.R_below HR.out hb1) (.cells #[.string ⟨#[112, 97, 116, 104]⟩, .string ⟨#[97]⟩] 32))
      have HW1 := HW.out.trans (hb1.mono HW.out.size)
      have HW2 := Lib.hid (HW1.alloc HW1.size (.cells #[.string ⟨#[112, 97, 116, 104]⟩, .string ⟨#[97]⟩] 32))
      clear HR HW hb1 HW1
      go_wp2_with ((with_reducible refine gate_builtin (b := .append) (xs := #[.tmp 18, .tmp 20]) rfl ?_); at_builtin
                   go_must (refine Kd.R_append k32 (w0 := w) w.heap.size rfl (.tmp 18) (.tmp 20) 22 32 (.agg #[(.string ⟨#[]⟩), (.string ⟨#[]⟩)]) 32 rfl Tryd.underlying22 info32 rfl (by decide) (by omega) u4 (rws.take 0) (⟨⟨#[112, 97, 116, 104]⟩, ⟨#[97]⟩⟩ : S32) [.string ⟨#[112, 97, 116, 104]⟩, .string ⟨#[97]⟩] (fun _ => True) (fun _ => False) rfl (by simp [Act.eval]) (k32_mkM _ _ _ (⟨⟨#[112, 97, 116, 104]⟩, ⟨#[97]⟩⟩ : S32)) (fun _ h => h.elim) (fun _ _ => trivial) HR1.out HW2.out HW2.out.size (by decide) ?_)
                   intro v2 w2 ho2 hb2 hg2 hat2
                   have HR2 := Lib.hid ho2
                   have HW3 := Lib.hid hb2
                   clear ho2 hb2 hg2 hat2)
      go_roundw
      case rel => exact ⟨1, by omega, rfl, HR2.out, HW3.out⟩
      case measure => decide
    | 1, _ =>
      rw [show tx 1 = ⟨#[54, 32, 98, 61, 99, 10]⟩ from rfl]
      go_wp2_with fail
      refine (one_b m wr (pw_cell_below HW.out hm)).mono ?_
      rintro e w1 ⟨rfl, hb1⟩
      have HR1 := Lib.hid (Kd.R_alloc (Kd.R_below HR.out hb1) (.cells #[.string ⟨#[98]⟩, .string ⟨#[99]⟩] 32))
      have HW1 := HW.out.trans (hb1.mono HW.out.size)
      have HW2 := Lib.hid (HW1.alloc HW1.size (.cells #[.string ⟨#[98]⟩, .string ⟨#[99]⟩] 32))
      clear HR HW hb1 HW1
      go_wp2_with ((with_reducible refine gate_builtin (b := .append) (xs := #[.tmp 18, .tmp 20]) rfl ?_); at_builtin
                   go_must (refine Kd.R_append k32 (w0 := w) w.heap.size rfl (.tmp 18) (.tmp 20) 22 32 (.agg #[(.string ⟨#[]⟩), (.string ⟨#[]⟩)]) 32 rfl Tryd.underlying22 info32 rfl (by decide) (by omega) u4 (rws.take 1) (⟨⟨#[98]⟩, ⟨#[99]⟩⟩ : S32) [.string ⟨#[98]⟩, .string ⟨#[99]⟩] (fun _ => True) (fun _ => False) rfl (by simp [Act.eval]) (k32_mkM _ _ _ (⟨⟨#[98]⟩, ⟨#[99]⟩⟩ : S32)) (fun _ h => h.elim) (fun _ _ => trivial) HR1.out HW2.out HW2.out.size (by decide) ?_)
                   intro v2 w2 ho2 hb2 hg2 hat2
                   have HR2 := Lib.hid ho2
                   have HW3 := Lib.hid hb2
                   clear ho2 hb2 hg2 hat2)
      go_roundw
      case rel => exact ⟨2, by omega, rfl, HR2.out, HW3.out⟩
      case measure => decide
    | 2, _ =>
      rw [show tx 2 = ⟨#[]⟩ from rfl]
      go_wp2_with fail
      obtain ⟨A4, c4, rfl, -, -⟩ := Kd.R_reads HR.out
      go_wp2
      go_ret2
      exact ⟨_, rfl, HR.out, HW.out⟩
set_option maxHeartbeats 4000000 in
set_option maxRecDepth 100000 in
theorem read_c (m : Int) (w : World) (hm : w.cell? ⟨0, 0, none⟩ = some (.int .i64 m)) :
    Calls Tryd.prog 16 #[.string ⟨#[56, 32, 112, 97, 116, 104, 61, 97, 10]⟩] w fun e w' => e = .returned (.tuple #[.slice none 0 0, .int .i64 2]) ∧ Below w.heap.size w w' := by
  go_enter Tryd.func16, Tryd.ntmps16
  go_wp2_with fail
  go_loopw [0] (fun t0 wr => t0 = .string ⟨#[56, 32, 112, 97, 116, 104, 61, 97, 10]⟩ ∧ Below w.heap.size w wr) (fun t0 _ => strSize t0)
  case atStart => exact ⟨rfl, Below.refl _ _⟩
  case round =>
    obtain ⟨rfl, hB⟩ := hrel
    go_wp2_with fail
    refine (one_c m wr (pw_cell_below hB hm)).mono ?_
    rintro e w1 ⟨rfl, hb1⟩
    have HW1 := hB.trans (hb1.mono hB.size)
    go_wp2
    go_ret2
    exact ⟨rfl, HW1.alloc HW1.size _⟩
theorem told_put : pputR [⟨⟨#[112, 97, 116, 104]⟩, ⟨#[97]⟩⟩] = .tuple #[.string ⟨#[57, 32, 112, 97, 116, 104, 61, 97, 10]⟩, .int .i64 0] := by kernel_rfl
theorem told_len : lenF 8 = 9 := by kernel_rfl
set_option maxHeartbeats 4000000 in
set_option maxRecDepth 100000 in
theorem told_calls (m : Int) (w : World) (hm : w.cell? ⟨0, 0, none⟩ = some (.int .i64 m)) (htab : Lib.TabIs Tryd.prog w "internal/strconv.uint64pow10" .u64 Lib.pow10Tab) :
    Calls Tryd.prog 6 #[] w fun e w' => e = .returned (.bool true) ∧ Below w.heap.size w w' := by
  have HM := Lib.hid hm
  have HT := Lib.hid htab
  clear hm htab
  go_enter Tryd.func6, Tryd.ntmps6
  go_wp2_with ((with_reducible refine gate_dst (N := 9) rfl ?_)
               go_must (refine Kd.R_lit k32 (w0 := w) w.heap.size 32 ?hg (N := 9) ?hd (xs := [⟨⟨#[112, 97, 116, 104]⟩, ⟨#[97]⟩⟩]) (inner := [.string ⟨#[112, 97, 116, 104]⟩, .string ⟨#[97]⟩]) (ok := fun _ => True) (okp := fun _ => True) ?hr ?hp (fun _ hk => hk) trivial (Below.refl _ _) (Nat.le_refl _) (by simp) ?_)
               (case hd => rfl)
               (case hg => rfl)
               (case hr => first | (go_simp; done) | (go_simp; rfl))
               (case hp => exact Reps.c2 (p := (⟨⟨#[112, 97, 116, 104]⟩, ⟨#[97]⟩⟩ : S32)) (k32_mkM _ _ _ ⟨⟨#[112, 97, 116, 104]⟩, ⟨#[97]⟩⟩) (Reps.none _ _))
               intro v1 w1 ho1 hb1 hg1 hnew1
               have HO1 := Lib.hid ho1
               have HB1 := Lib.hid hb1
               clear ho1 hb1 hg1 hnew1)
  obtain ⟨A1, c1, rfl, hc1, hC1⟩ := Kd.R_reads HO1.out
  refine (pput_calls A1 c1 _ w1 hC1 (by simp; decide) (tab_below HT.out HB1.out)).mono ?_
  rw [told_put]
  rintro e w2 ⟨rfl, hb2⟩
  have HB2 := Lib.hid (HB1.out.trans (hb2.mono HB1.out.size))
  clear hb2 hC1 HO1 HB1
  go_wp2_with fail
  refine (read_ab m w2 (pw_cell_below HB2.out HM.out)).mono ?_
  rintro e w3 ⟨v3, rfl, hR3, hb3⟩
  have HR3 := Lib.hid hR3
  have HB3 := Lib.hid (HB2.out.trans (hb3.mono HB2.out.size))
  clear hR3 hb3
  go_wp2_with fail
  refine (read_c m w3 (pw_cell_below HB3.out HM.out)).mono ?_
  rintro e w4 ⟨rfl, hb4⟩
  obtain ⟨A3, c3, rfl, hc3, hC3⟩ := Kd.R_reads (Kd.R_below HR3.out hb4)
  have HB4 := Lib.hid (HB3.out.trans (hb4.mono HB3.out.size))
  obtain ⟨ad, had, h0, h1⟩ := s32_at hC3 1 (by decide)
  subst had
  clear hb4 HR3
  have hl2 : rws.length = 2 := rfl
  have e1 : rws[1] = ⟨⟨#[98]⟩, ⟨#[99]⟩⟩ := rfl
  rw [e1] at h0 h1
  simp [Addr.add] at h0 h1
  rw [hl2] at hC3 hc3 ⊢
  go_wp2_with fail
  refine (len_calls ⟨#[112, 97, 116, 104]⟩ ⟨#[97]⟩ 8 w4 rfl (by omega) (tab_below HT.out HB4.out)).mono ?_
  rw [told_len]
  rintro e w5 ⟨rfl, hb5⟩
  have HB5 := Lib.hid (HB4.out.trans (hb5.mono HB4.out.size))
  go_wp2
  go_ret
  exact ⟨rfl, HB5.out⟩
end Go.Proofs.YtmdfnelcgobpkaaDoor.Z
