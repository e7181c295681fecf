/- Walks of package zipdir's reader: number, text. -/
import Derived.Test.YtlbijehgoiknjaaZNum2
set_option linter.unusedVariables false
set_option linter.unusedSimpArgs false
namespace Go.Proofs.Ytlbijehgoiknjaa.Z
open Go.RowKit Go.Proofs.YtlbijehgoiknjaaW.PrintWords Go.Proofs.YtlbijehgoiknjaaW.PrintLast Go.Proofs.YtlbijehgoiknjaaW.PrintMore

/-- The reader at block g: its three cells. -/
def RdS (w : World) (g : Nat) (A : Option Addr) (n c : Nat) (at_ : Int) (bad : Bool) : Prop := w.heap[g]? = some (.cells #[.slice A n c, .int .i64 at_, .bool bad] 62 (0, 0))
/-- A reader's state: where it stands, and whether something was wrong. -/
structure RS where
  at_ : Int
  bad : Bool
/-- number: the number, and the state behind it. -/
def numF (l : List Int) (s : RS) (n : Int) : Int × RS :=
  if (littleF l s.at_ n).2 ≠ 0 ∨ 4611686018427387904 < (littleF l s.at_ n).1 ∨ s.bad = true then (0, ⟨s.at_, s.bad || decide ((littleF l s.at_ n).2 ≠ 0 ∨ 4611686018427387904 < (littleF l s.at_ n).1)⟩)
  else ((littleF l s.at_ n).1, ⟨s.at_ + n, false⟩)

theorem littleF_end (l : List Int) (at_ n : Int) (h : (littleF l at_ n).2 = 0) : 0 ≤ at_ ∧ 1 ≤ n ∧ n ≤ 8 ∧ at_ + n ≤ l.length := by
  unfold littleF at h
  split at h
  · simp at h
  · split at h
    · simp at h
    · omega
theorem littleF_nonneg {l : List Int} (hb : ∀ x ∈ l, 0 ≤ x ∧ x < 256) (at_ n : Int) : 0 ≤ (littleF l at_ n).1 := by
  unfold littleF
  split
  · simp
  · split
    · simp
    · exact (vF_range l hb at_ _ _ (fun j hj => by omega)).1

set_option maxHeartbeats 1000000 in
set_option maxRecDepth 100000 in
theorem number_calls (g : Nat) (A : Option Addr) (c : Nat) (l : List Int) (s : RS) (n : Int) (w : World) (hS : RdS w g A l.length c s.at_ s.bad) (hr : Kd.C (Kd.int .u8) w A l.length l) (hb : ∀ x ∈ l, 0 ≤ x ∧ x < 256) (hl : l.length ≤ 140737488351232) (hn : 0 ≤ n) (hn8 : n ≤ 8) :
    Calls Try.prog 36 #[.pointer (some ⟨g, 0, none⟩), .int .i64 n] w fun e w' => e = .returned (.int .i64 (numF l s n).1) ∧ RdS w' g A l.length c (numF l s n).2.at_ (numF l s n).2.bad ∧ Kp [g] w w' := by
  have HB := Lib.hid hb
  have HR := Lib.hid hr
  have HS := Lib.hid hS
  obtain ⟨at_, bad⟩ := s
  have hc0 := blk_cell hS 0
  have hc1 := blk_cell hS 1
  have hc2 := blk_cell hS 2
  simp only [List.getElem?_toArray, List.getElem?_cons_zero, List.getElem?_cons_succ] at hc0 hc1 hc2
  clear hb hr hS
  go_enter Try.func36, Try.ntmps36
  go_wp2_with fail
  go_region_held3 (fun w' => w'.cell? ⟨g, 0, none⟩ = some (.slice A l.length c) ∧ w'.cell? ⟨g, 1, none⟩ = some (.int .i64 at_))
    (first | go_keep | (exact ⟨pw_cell_below hb1 hc0, pw_cell_below hb1 hc1⟩))
    (first | (go_at_call 51; refine (little_calls A c l at_ n _ (Kd.C_drew HR.out) HB.out hl).mono ?_; rintro e w1 ⟨rfl, hb1⟩))
  have hB1 : Below w.heap.size w w1 := below_undrew hb1
  have hS1 := Lib.hid (blk_below HS.out hB1)
  have hd2 : w1.cell? ⟨g, 2, none⟩ = some (.bool bad) := pw_cell_below hB1 hc2
  have hd1 : w1.cell? ⟨g, 1, none⟩ = some (.int .i64 at_) := pw_cell_below hB1 hc1
  have hf1 : w1.frozen? ⟨g, 1, none⟩ = false := blk_frozen hS1.out 1
  have hf2 : w1.frozen? ⟨g, 2, none⟩ = false := blk_frozen hS1.out 2
  have HB1 := Lib.hid hB1
  have hnum : numF l ⟨at_, bad⟩ n = if (littleF l at_ n).2 ≠ 0 ∨ 4611686018427387904 < (littleF l at_ n).1 ∨ bad = true then (0, ⟨at_, bad || decide ((littleF l at_ n).2 ≠ 0 ∨ 4611686018427387904 < (littleF l at_ n).1)⟩)
    else ((littleF l at_ n).1, ⟨at_ + n, false⟩) := rfl
  have HLe := Lib.hid (littleF_end l at_ n)
  have HL0 := littleF_nonneg HB.out at_ n
  rename_i hHeld
  clear hb1 hB1 hc0 hc1 hc2 hHeld
  generalize littleF l at_ n = L at *
  obtain ⟨v, er⟩ := L
  simp only at hnum HLe HL0 ⊢
  have HNum := Lib.hid hnum; clear hnum
  by_cases he : er ≠ 0
  · have HE : (er != 0) = true := by simpa using he
    have HN := Lib.hid (show numF l ⟨at_, bad⟩ n = (0, ⟨at_, true⟩) from by rw [HNum.out, if_pos (Or.inl he)]; simp [he])
    clear he
    go_wp2
    go_ret
    rw [HN.out]
    exact ⟨rfl, blk_put hS1.out 2 _ rfl, ((Kp.of_below HB1.out [g]).setCell (.inl (by simp)) _)⟩
  · have HE : (er != 0) = false := by simpa using he
    have he0 : er = 0 := by omega
    by_cases hv : 4611686018427387904 < v
    · have HV : decide (4611686018427387904 < v) = true := by simpa using hv
      have HN := Lib.hid (show numF l ⟨at_, bad⟩ n = (0, ⟨at_, true⟩) from by rw [HNum.out, if_pos (Or.inr (Or.inl hv))]; simp [hv])
      clear he he0 hv
      go_wp2
      go_ret
      rw [HN.out]
      exact ⟨rfl, blk_put hS1.out 2 _ rfl, ((Kp.of_below HB1.out [g]).setCell (.inl (by simp)) _)⟩
    · have HV : decide (4611686018427387904 < v) = false := by simpa using hv
      cases bad with
      | true =>
        have HN := Lib.hid (show numF l ⟨at_, true⟩ n = (0, ⟨at_, true⟩) from by rw [HNum.out, if_pos (Or.inr (Or.inr rfl))]; simp)
        clear he he0 hv
        go_wp2
        go_ret
        rw [HN.out]
        exact ⟨rfl, hS1.out, Kp.of_below HB1.out [g]⟩
      | false =>
        have HN := Lib.hid (show numF l ⟨at_, false⟩ n = (v, ⟨at_ + n, false⟩) from by rw [HNum.out, if_neg (by simp [he0, hv])])
        have hrng : -9223372036854775808 ≤ at_ + n ∧ at_ + n ≤ 9223372036854775807 := by have := HLe.out he0; omega
        obtain ⟨hr1, hr2⟩ := hrng
        have hv2 : v ≤ 4611686018427387904 := by omega
        clear he he0 hv
        go_wp2
        go_ret
        rw [HN.out]
        exact ⟨rfl, blk_put hS1.out 1 _ rfl, ((Kp.of_below HB1.out [g]).setCell (.inl (by simp)) _)⟩

/-- text: the next n bytes, and the state behind them. -/
def textF (l : List Int) (s : RS) (n : Int) : List Int × RS :=
  if s.bad = true ∨ (l.length : Int) - s.at_ < n then ([], ⟨s.at_, true⟩) else ((l.take (s.at_ + n).toNat).drop s.at_.toNat, ⟨s.at_ + n, false⟩)

theorem Tryinfo5 : (Try.prog.info? 5).map (fun i => (i.zero, i.size, i.bytes)) = some (some (.int .u8 0), 1, 1) := by kernel_rfl

/-- 'string(b[lo:hi])' of bytes that are read: the cut's value under names of its own, and its text. -/
theorem cut_text {A : Option Addr} {c : Nat} {l : List Int} {w : World} (hr : Kd.C (Kd.int .u8) w A l.length l) (hc : l.length ≤ c) (lo hi : Int) (h0 : 0 ≤ lo) (h1 : lo ≤ hi) (h2 : hi ≤ l.length) :
    ∃ (A2 : Option Addr) (n2 c2 : Nat), (∀ W : World, (Instr.slice 22 (.slice A l.length c) (some (.int .i64 lo)) (some (.int .i64 hi)) none).run Try.prog W = .ok (.slice A2 n2 c2) W) ∧
      (∀ m, (convert 22 9 (.slice A2 n2 c2)).run Try.prog (w.drewN m) = .ok (.string (strOfNums ((l.take hi.toNat).drop lo.toNat))) (w.drewN m)) := by
  obtain ⟨i0, hi0, hz0, hz1, hz2⟩ := info_parts Tryinfo5
  refine ⟨_, _, _, cut_mid (P := Try.prog) 22 5 .i64 .i64 Try.underlying22 hi0 1 hz1 A l.length c lo hi h0 h1 h2 hc, fun m => ?_⟩
  refine Kd.C_string (P := Try.prog) Try.underlying22 Try.underlying5 Try.underlying9 ?_
  have := Kd.C_mid (lo := lo.toNat) (hi := hi.toNat) (Kd.C_drewN hr m) (by omega) (by omega) hc
  have e : ((l.take hi.toNat).drop lo.toNat).length = hi.toNat - lo.toNat := by rw [List.length_drop, List.length_take]; omega
  rw [e] at this
  exact this

set_option maxHeartbeats 1000000 in
set_option maxRecDepth 100000 in
theorem text_calls (g : Nat) (A : Option Addr) (c : Nat) (l : List Int) (s : RS) (n : Int) (w : World) (hS : RdS w g A l.length c s.at_ s.bad) (hr : Kd.C (Kd.int .u8) w A l.length l) (hc : l.length ≤ c) (hl : l.length ≤ 140737488351232) (hn : 0 ≤ n) (hn2 : n ≤ 4611686018427387904) (hat : s.bad = false → 0 ≤ s.at_ ∧ s.at_ ≤ l.length) :
    Calls Try.prog 33 #[.pointer (some ⟨g, 0, none⟩), .int .i64 n] w fun e w' => e = .returned (.string (strOfNums (textF l s n).1)) ∧ RdS w' g A l.length c (textF l s n).2.at_ (textF l s n).2.bad ∧ Kp [g] w w' := by
  have HR := Lib.hid hr
  have HS := Lib.hid hS
  obtain ⟨at_, bad⟩ := s
  have hc0 := blk_cell hS 0
  have hc1 := blk_cell hS 1
  have hc2 := blk_cell hS 2
  have hf1 : w.frozen? ⟨g, 1, none⟩ = false := blk_frozen hS 1
  have hf2 : w.frozen? ⟨g, 2, none⟩ = false := blk_frozen hS 2
  simp only [List.getElem?_toArray, List.getElem?_cons_zero, List.getElem?_cons_succ] at hc0 hc1 hc2 hat
  clear hr hS
  cases bad with
  | true =>
    have HN := Lib.hid (show textF l ⟨at_, true⟩ n = ([], ⟨at_, true⟩) from by unfold textF; rw [if_pos (Or.inl rfl)])
    clear hat
    go_enter Try.func33, Try.ntmps33
    go_wp2_with fail
    go_quiet (fail)
    go_wp2
    go_ret
    rw [HN.out]
    exact ⟨rfl, blk_put (blk_drewN HS.out _) 2 _ rfl, ((Kp.refl [g] w).drewN _).setCell (.inl (by simp)) _⟩
  | false =>
    obtain ⟨h0, h1⟩ := hat rfl
    have hw1 : IntKind.i64.wrap ((l.length : Int) - at_) = (l.length : Int) - at_ := IntWalk.i64_in _ (by omega)
    by_cases hlt : (l.length : Int) - at_ < n
    · have hltb : decide ((l.length : Int) - at_ < n) = true := by simpa using hlt
      have HN := Lib.hid (show textF l ⟨at_, false⟩ n = ([], ⟨at_, true⟩) from by unfold textF; rw [if_pos (Or.inr hlt)])
      clear hat hlt
      go_enter Try.func33, Try.ntmps33
      go_wp2_with fail
      go_quiet (fail)
      go_wp2
      go_ret
      rw [HN.out]
      exact ⟨rfl, blk_put (blk_drewN HS.out _) 2 _ rfl, ((Kp.refl [g] w).drewN _).setCell (.inl (by simp)) _⟩
    · have hltb : decide ((l.length : Int) - at_ < n) = false := by simpa using hlt
      have HN := Lib.hid (show textF l ⟨at_, false⟩ n = ((l.take (at_ + n).toNat).drop at_.toNat, ⟨at_ + n, false⟩) from by unfold textF; rw [if_neg (by simp [hlt])])
      have h2 : at_ + n ≤ l.length := by omega
      have hw2 : IntKind.i64.wrap (at_ + n) = at_ + n := IntWalk.i64_in _ (by omega)
      obtain ⟨A2, n2, c2, hcut, hconv⟩ := cut_text HR.out hc at_ (at_ + n) h0 (by omega) h2
      clear hat hlt
      go_enter Try.func33, Try.ntmps33
      go_wp2_with fail
      go_quiet (fail)
      go_wp2_with fail
      go_quiet (fail)
      go_wp2
      go_ret
      rw [HN.out]
      exact ⟨rfl, blk_put (blk_drewN HS.out _) 1 _ rfl, ((Kp.refl [g] w).drewN _).setCell (.inl (by simp)) _⟩
end Go.Proofs.Ytlbijehgoiknjaa.Z
