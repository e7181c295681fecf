/- within and small, as the printed contracts tell them, in plain words. -/
import Derived.Test.YtlbijehgoiknjaaPZipdirHeadersx2
import Derived.Test.YtlbijehgoiknjaaZKit
set_option linter.unusedVariables false
set_option linter.unusedSimpArgs false
namespace Go.Proofs.Ytlbijehgoiknjaa.Z
open Go.RowKit Go.Proofs.YtlbijehgoiknjaaW.PrintWords Go.Proofs.YtlbijehgoiknjaaW.PrintLast Go.Proofs.YtlbijehgoiknjaaW.PrintMore Go.Proofs.Ytlbijehgoiknjaa.PZipdirHeaders

/-- A row of whole numbers that a block holds, from its head on. -/
theorem C_of_blk {k : IntKind} {w : World} {b : Nat} {T : TypeId} {l : List Int} (h : w.heap[b]? = some (.cells (l.map (fun t => Value.int k t)).toArray T (0, 0))) (hl : l.length ≤ 9223372036854775807) : Kd.C (Kd.int k) w (some ⟨b, 0, none⟩) l.length l := by
  refine ⟨rfl, hl, fun _ => ⟨_, rfl, fun j p hj => ⟨[.int k p], rfl, rfl, fun i u hu => ?_⟩⟩⟩
  rcases i with _ | i
  · obtain rfl : .int k p = u := by simpa using hu
    have e : (⟨b, 0, none⟩ : Addr).add (j * (Kd.int k).sz + 0) = ⟨b, j, none⟩ := by
      rw [show (Kd.int k).sz = 1 from rfl, Nat.mul_one, Nat.add_zero]
      exact add_plain b j |>.trans rfl
    rw [e, blk_cell h]
    simp [hj]
  · simp at hu

def withinB (most : Int) (l : List Int) : Bool := l.all fun x => decide (0 ≤ x) && decide (x ≤ most)
theorem within_loop (most : Int) (l : List Int) (hl : l.length ≤ 1000) (d : Nat) : ∀ (k i : Nat), i + d = l.length → d < k → zipdir_within.l0 k most l (l.length : Int) (i : Int) = some (withinB most (l.drop i)) := by
  induction d with
  | zero =>
    intro k i hi hk
    obtain ⟨k, rfl⟩ : ∃ m, k = m + 1 := ⟨k - 1, by omega⟩
    simp only [zipdir_within.l0]
    rw [if_neg (by omega), List.drop_of_length_le (by omega)]
    rfl
  | succ d ih =>
    intro k i hi hk
    obtain ⟨k, rfl⟩ : ∃ m, k = m + 1 := ⟨k - 1, by omega⟩
    have e2 : wrap64 ((i : Int) + 1) = ((i + 1 : Nat) : Int) := by unfold wrap64; omega
    have e3 : rd l (i : Int) = l[i] := by
      unfold rd
      rw [List.getD_eq_getElem?_getD, List.getElem?_eq_getElem (by omega)]
      simp
    simp only [zipdir_within.l0]
    rw [if_pos (by omega), if_pos (by omega), if_pos (by omega), e3, e2, ih k (i + 1) (by omega) (by omega), List.drop_eq_getElem_cons (show i < l.length by omega)]
    by_cases h1 : l[i] < 0
    · rw [if_pos h1]
      rw [withinB, List.all_cons, show decide (0 ≤ l[i]) = false by simp; omega]; rfl
    · rw [if_neg h1]
      by_cases h2 : l[i] > most
      · rw [if_pos h2]
        rw [withinB, List.all_cons, show decide (l[i] ≤ most) = false by simp; omega, Bool.and_false]; rfl
      · rw [if_neg h2]
        rw [withinB, withinB, List.all_cons, show decide (0 ≤ l[i]) = true by simp; omega, show decide (l[i] ≤ most) = true by simp; omega]; rfl
theorem within_calls (most : Int) (A : Option Addr) (c : Nat) (l : List Int) (w : World) (hr : Kd.C (Kd.int .i64) w A l.length l) (hc : l.length ≤ c) (hl : l.length ≤ 1000) :
    Calls Try.prog 20 #[.int .i64 most, .slice A l.length c] w fun e w' => e = .returned (.bool (withinB most l)) ∧ Drawn0 w w' :=
  zipdir_within.calls (l.length + 1) most A c l _ w hr hc (by
    have := within_loop most l hl l.length (l.length + 1) 0 (by omega) (by omega)
    simpa [zipdir_within.f] using this)

theorem small_less (n : Int) (w : World) (h0 : 0 ≤ n) (h : n < 4294967295) :
    Calls Try.prog 21 #[.int .i64 n] w fun e w' => e = .returned (.tuple #[.int .u64 n, .bool false]) ∧ Below w.heap.size w w' :=
  zipdir_small.calls n n false w (by
    unfold zipdir_small.f mn
    rw [if_neg (by omega), show IntKind.u64.wrap n = n from IntWalk.u64_in _ (by omega)]
    simp; omega)
theorem small_more (n : Int) (w : World) (h : 4294967295 ≤ n) :
    Calls Try.prog 21 #[.int .i64 n] w fun e w' => e = .returned (.tuple #[.int .u64 4294967295, .bool true]) ∧ Below w.heap.size w w' :=
  zipdir_small.calls n 4294967295 true w (by
    unfold zipdir_small.f mn
    by_cases h2 : n = 4294967295
    · subst h2; decide
    · rw [if_pos (by omega), show IntKind.u64.wrap 4294967295 = 4294967295 from IntWalk.u64_in _ (by omega)]
      simp; omega)
/-- small: the number as it stands in a header, and whether it is too great. -/
def smallF (n : Int) : Int := if n < 4294967295 then n else 4294967295
theorem small_calls (n : Int) (w : World) (h0 : 0 ≤ n) :
    Calls Try.prog 21 #[.int .i64 n] w fun e w' => e = .returned (.tuple #[.int .u64 (smallF n), .bool (decide (4294967295 ≤ n))]) ∧ Below w.heap.size w w' := by
  by_cases h : n < 4294967295
  · rw [show smallF n = n from if_pos h, show decide (4294967295 ≤ n) = false by simp; omega]
    exact small_less n w h0 h
  · rw [show smallF n = 4294967295 from if_neg h, show decide (4294967295 ≤ n) = true by simp; omega]
    exact small_more n w (by omega)
end Go.Proofs.Ytlbijehgoiknjaa.Z
