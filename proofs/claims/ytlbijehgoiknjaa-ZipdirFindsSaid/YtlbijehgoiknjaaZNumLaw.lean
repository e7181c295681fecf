/- Plain: a number that was laid is read back, wherever it stands. -/
import Derived.Test.YtlbijehgoiknjaaZFar
import Derived.Test.YtlbijehgoiknjaaZPutLit
import Derived.Test.YtlbijehgoiknjaaZWriter
set_option linter.unusedVariables false
set_option linter.unusedSimpArgs false
namespace Go.Proofs.Ytlbijehgoiknjaa.Z
open Go.RowKit Go.Proofs.YtlbijehgoiknjaaW.PrintWords Go.Proofs.YtlbijehgoiknjaaW.PrintLast Go.Proofs.YtlbijehgoiknjaaW.PrintMore

theorem rd_leb (pre post : List Int) (v : Int) (n i : Nat) (hi : i < n) : rd (pre ++ (leb v n ++ post)) ((pre.length : Int) + i) = v / 256 ^ i % 256 := by
  unfold rd
  rw [List.getD_eq_getElem?_getD, show ((pre.length : Int) + i).toNat = pre.length + i by omega, List.getElem?_append_right (by omega), Nat.add_sub_cancel_left, List.getElem?_append_left (by rw [leb_length]; exact hi)]
  unfold leb
  rw [List.getElem?_map, List.getElem?_range hi]
  rfl
theorem vF_leb (pre post : List Int) (v : Int) (n : Nat) (h0 : 0 ≤ v) (hv : v < 256 ^ n) : ∀ k : Nat, k ≤ n → vF (pre ++ (leb v n ++ post)) (pre.length : Int) (fun i => (n : Int) - 1 - i) k = v / 256 ^ (n - k)
  | 0, _ => by
    rw [vF, Nat.sub_zero]
    exact (Int.ediv_eq_zero_of_lt h0 hv).symm
  | k + 1, hk => by
    rw [vF, vF_leb pre post v n h0 hv k (by omega)]
    have e1 : (pre.length : Int) + ((n : Int) - 1 - (k : Int)) = (pre.length : Int) + ((n - (k + 1) : Nat) : Int) := by omega
    rw [e1, rd_leb pre post v n (n - (k + 1)) (by omega)]
    have e2 : n - k = (n - (k + 1)) + 1 := by omega
    rw [e2, Int.pow_succ, ← Int.ediv_ediv_of_nonneg (Int.le_of_lt (Int.pow_pos (by decide)))]
    have := Int.mul_ediv_add_emod (v / 256 ^ (n - (k + 1))) 256
    omega
theorem little_leb (pre post : List Int) (v : Int) (n : Nat) (h1 : 1 ≤ n) (h8 : n ≤ 8) (h0 : 0 ≤ v) (hv : v < 256 ^ n) : littleF (pre ++ (leb v n ++ post)) (pre.length : Int) (n : Int) = (v, 0) := by
  unfold littleF
  rw [if_neg (by omega), if_neg (by simp [leb_length]; omega)]
  have := vF_leb pre post v n h0 hv n (Nat.le_refl _)
  rw [Int.toNat_natCast]
  rw [this, Nat.sub_self]
  simp
theorem num_leb (pre post : List Int) (v : Int) (n : Nat) (h1 : 1 ≤ n) (h8 : n ≤ 8) (h0 : 0 ≤ v) (hv : v < 256 ^ n) (hm : v ≤ 4611686018427387904) : Num (pre ++ (leb v n ++ post)) (pre.length : Int) (n : Int) v := by
  unfold Num numF
  rw [little_leb pre post v n h1 h8 h0 hv, if_neg (by simp; omega)]
end Go.Proofs.Ytlbijehgoiknjaa.Z
