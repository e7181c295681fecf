/- Walk of package zipdir's found: the last place at which an end record stands whose comment ends with all. -/
import Derived.Test.YtlbijehgoiknjaaZNumbers
set_option linter.unusedVariables false
set_option linter.unusedSimpArgs false
namespace Go.Proofs.Ytlbijehgoiknjaa.Z
open Go.RowKit Go.Proofs.YtlbijehgoiknjaaW.PrintWords Go.Proofs.YtlbijehgoiknjaaW.PrintLast Go.Proofs.YtlbijehgoiknjaaW.PrintMore

theorem rds_cells {w : World} {g : Nat} {A : Option Addr} {n c : Nat} {at_ : Int} {bad : Bool} (h : RdS w g A n c at_ bad) :
    w.cell? ⟨g, 0, none⟩ = some (.slice A n c) ∧ w.cell? ⟨g, 1, none⟩ = some (.int .i64 at_) ∧ w.cell? ⟨g, 2, none⟩ = some (.bool bad) ∧ w.frozen? ⟨g, 0, none⟩ = false ∧ w.frozen? ⟨g, 1, none⟩ = false ∧ w.frozen? ⟨g, 2, none⟩ = false :=
  ⟨blk_cell h 0, blk_cell h 1, blk_cell h 2, blk_frozen h 0, blk_frozen h 1, blk_frozen h 2⟩
theorem rds_set {w : World} {g : Nat} {A : Option Addr} {n c : Nat} {at_ : Int} {bad : Bool} (h : RdS w g A n c at_ bad) (x : Int) : RdS (w.setCell ⟨g, 1, none⟩ (.int .i64 x)) g A n c x bad := blk_put h 1 _ rfl
theorem rds_new (w : World) (A : Option Addr) (n c : Nat) (at_ : Int) (bad : Bool) : RdS (w.alloc (.cells #[.slice A n c, .int .i64 at_, .bool bad] 62)) w.heap.size A n c at_ bad := blk_new w _
/-- Bytes that are read beside a reader's block. -/
theorem C_rds {w w1 : World} {g : Nat} {A A' : Option Addr} {n n' c : Nat} {at_ : Int} {bad : Bool} {l : List Int} (h : Kd.C (Kd.int .u8) w A n l) (hs : RdS w g A' n' c at_ bad) (hk : Kp [g] w w1) : Kd.C (Kd.int .u8) w1 A n l :=
  C_kp h hk (fun g' hg' => by
    obtain rfl : g' = g := by simpa using hg'
    exact no_byte3 hs (by simp) (by simp) (by simp))

def isEnd (l : List Int) (at_ : Int) : Bool :=
  !(numF l ⟨at_ + 20, (numF l ⟨at_, false⟩ 4).2.bad⟩ 2).2.bad && ((numF l ⟨at_, false⟩ 4).1 == 101010256 && (numF l ⟨at_ + 20, (numF l ⟨at_, false⟩ 4).2.bad⟩ 2).1 == (l.length : Int) - at_ - 22)
def foundGo (l : List Int) : Nat → Int → Int
  | 0, _ => -1
  | k + 1, at_ => if 0 ≤ at_ ∧ (l.length : Int) - at_ ≤ 65557 then (if isEnd l at_ = true then at_ else foundGo l k (at_ - 1)) else -1
theorem foundGo_succ (l : List Int) (k : Nat) (at_ : Int) : foundGo l (k + 1) at_ = if 0 ≤ at_ ∧ (l.length : Int) - at_ ≤ 65557 then (if isEnd l at_ = true then at_ else foundGo l k (at_ - 1)) else -1 := rfl
def foundF (l : List Int) : Int := foundGo l (((l.length : Int) - 22 + 1).toNat + 1) ((l.length : Int) - 22)

set_option maxHeartbeats 2000000 in
set_option maxRecDepth 100000 in
theorem found_calls (A : Option Addr) (c : Nat) (l : List Int) (w : World) (hr : Kd.C (Kd.int .u8) w A l.length l) (hb : ∀ x ∈ l, 0 ≤ x ∧ x < 256) (hl : l.length ≤ 140737488351232) :
    Calls Try.prog 23 #[.slice A l.length c] w fun e w' => e = .returned (.int .i64 (foundF l)) ∧ Below w.heap.size w w' := by
  have HB := Lib.hid hb
  have HR := Lib.hid hr
  clear hb hr
  go_enter Try.func23, Try.ntmps23
  go_wp2_with fail
  go_loopw [3] (fun t wr => ∃ at_ : Int, at_ ≤ (l.length : Int) - 22 ∧ -23 ≤ at_ ∧ t = .int .i64 at_ ∧ Hid (foundGo l ((at_ + 1).toNat + 1) at_ = foundF l) ∧ Below w.heap.size w wr) (fun t _ => (intOf t + 1).toNat)
  case atStart => exact ⟨_, by omega, by omega, rfl, rfl, Below.refl _ _⟩
  case round =>
    obtain ⟨at_, ha1, ha2, rfl, hgo, hbel⟩ := hrel
    have HBel := Lib.hid hbel
    clear hbel
    by_cases h0 : 0 ≤ at_
    · by_cases h1 : (l.length : Int) - at_ ≤ 65557
      · have HGo := Lib.hid (show (if isEnd l at_ = true then at_ else foundGo l ((at_ - 1 + 1).toNat + 1) (at_ - 1)) = foundF l from by
          have e : (at_ - 1 + 1).toNat + 1 = (at_ + 1).toNat := by omega
          rw [e, ← hgo.out, foundGo_succ l (at_ + 1).toNat, if_pos (show 0 ≤ at_ ∧ (l.length : Int) - at_ ≤ 65557 from ⟨h0, h1⟩)])
        clear hgo
        go_wp2_with fail
        have HC0 := Lib.hid (Kd.C_alloc (Kd.C_below HR.out HBel.out) (.cells #[.slice A l.length c, .int .i64 at_, .bool false] 62))
        refine (number_calls wr.heap.size A c l ⟨at_, false⟩ 4 _ (rds_new wr A l.length c at_ false) HC0.out HB.out hl (by omega) (by omega)).mono ?_
        rintro e w1 ⟨rfl, hS1, hK1⟩
        have HK1 := Lib.hid ((Kp.of_below (below_alloc (Below.refl wr.heap.size wr) (.cells #[.slice A l.length c, .int .i64 at_, .bool false] 62)) [wr.heap.size]).trans hK1)
        have HC1 := Lib.hid (C_rds HC0.out (rds_new wr A l.length c at_ false) hK1)
        obtain ⟨hc0, hc1, hc2, hf0, hf1, hf2⟩ := rds_cells hS1
        have HS1 := Lib.hid hS1
        clear hS1 hK1
        go_wp2_with fail
        have HC2 := Lib.hid (C_rds HC1.out HS1.out (((Kp.refl [wr.heap.size] w1).setCell (p := ⟨wr.heap.size, 1, none⟩) (.inl (by simp)) (.int .i64 (at_ + 20)))))
        refine (number_calls wr.heap.size A c l ⟨at_ + 20, (numF l ⟨at_, false⟩ 4).2.bad⟩ 2 _ (rds_set HS1.out (at_ + 20)) HC2.out HB.out hl (by omega) (by omega)).mono ?_
        rintro e w2 ⟨rfl, hS2, hK2⟩
        have HK2 := Lib.hid ((HK1.out.setCell (p := ⟨wr.heap.size, 1, none⟩) (.inl (by simp)) (.int .i64 (at_ + 20))).trans hK2)
        clear hc0 hc1 hc2 hf0 hf1 hf2
        obtain ⟨hc0, hc1, hc2, hf0, hf1, hf2⟩ := rds_cells hS2
        clear hS2 hK2
        have hE : isEnd l at_ = (!(numF l ⟨at_ + 20, (numF l ⟨at_, false⟩ 4).2.bad⟩ 2).2.bad && ((numF l ⟨at_, false⟩ 4).1 == 101010256 && (numF l ⟨at_ + 20, (numF l ⟨at_, false⟩ 4).2.bad⟩ 2).1 == (l.length : Int) - at_ - 22)) := rfl
        have hB2 : Below w.heap.size w w2 := HBel.out.trans (HK2.out.to_below HBel.out.size (by simpa using HBel.out.size))
        have HB2 := Lib.hid hB2
        clear hB2
        generalize numF l ⟨at_ + 20, (numF l ⟨at_, false⟩ 4).2.bad⟩ 2 = R2 at *
        generalize numF l ⟨at_, false⟩ 4 = R1 at *
        obtain ⟨v2, s2⟩ := R2
        obtain ⟨v1, s1⟩ := R1
        obtain ⟨a2, b2⟩ := s2
        simp only at hE hc0 hc1 hc2
        have HE := Lib.hid hE
        clear hE
        have hgoon : ∀ x : Bool, x = isEnd l at_ → x = false → Hid (foundGo l ((at_ - 1 + 1).toNat + 1) (at_ - 1) = foundF l) := fun x hx hf => by
          have := HGo.out
          rw [← hx, hf] at this
          exact this
        cases b2 with
        | true =>
          have HG2 := hgoon _ HE.out.symm rfl
          clear hgoon
          go_wp2
          go_roundw
          case rel => exact ⟨at_ - 1, by omega, by omega, rfl, HG2, HB2.out⟩
          case measure => simp [intOf]; omega
        | false =>
          by_cases hm : (v1 == 101010256) = true
          · by_cases hq : (v2 == (l.length : Int) - at_ - 22) = true
            · have HR2 := Lib.hid (show foundF l = at_ from by
                have := HGo.out
                rw [HE.out, hm, hq] at this
                exact this.symm)
              clear hgoon
              go_wp2
              go_ret
              rw [HR2.out]
              exact ⟨rfl, HB2.out⟩
            · have hq' : (v2 == (l.length : Int) - at_ - 22) = false := by simpa using hq
              have HG2 := hgoon _ HE.out.symm (by rw [hm, hq']; rfl)
              clear hgoon hq
              go_wp2
              go_roundw
              case rel => exact ⟨at_ - 1, by omega, by omega, rfl, HG2, HB2.out⟩
              case measure => simp [intOf]; omega
          · have hm' : (v1 == 101010256) = false := by simpa using hm
            have HG2 := hgoon _ HE.out.symm (by rw [hm']; rfl)
            clear hgoon hm
            go_wp2
            go_roundw
            case rel => exact ⟨at_ - 1, by omega, by omega, rfl, HG2, HB2.out⟩
            case measure => simp [intOf]; omega
      · have HGo := Lib.hid (show -1 = foundF l from by rw [← hgo.out, foundGo_succ, if_neg (by omega)])
        clear hgo
        go_wp2
        go_ret
        rw [← HGo.out]
        exact ⟨rfl, HBel.out⟩
    · have HGo := Lib.hid (show -1 = foundF l from by rw [← hgo.out, foundGo_succ, if_neg (by omega)])
      clear hgo
      go_wp2
      go_ret
      rw [← HGo.out]
      exact ⟨rfl, HBel.out⟩
end Go.Proofs.Ytlbijehgoiknjaa.Z
