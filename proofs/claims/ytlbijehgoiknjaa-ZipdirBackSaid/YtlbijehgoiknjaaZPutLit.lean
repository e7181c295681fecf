/- What num.PutLittle's printed function answers: the bytes, and behind them the number's, the lowest first. -/
import Derived.Test.YtlbijehgoiknjaaPZipdirHeadersx2
import Derived.Test.YtlbijehgoiknjaaZKit
set_option linter.unusedVariables false
set_option linter.unusedSimpArgs false
namespace Go.Proofs.Ytlbijehgoiknjaa.Z
open Go.RowKit Go.Proofs.YtlbijehgoiknjaaW.PrintWords Go.Proofs.YtlbijehgoiknjaaW.PrintLast Go.Proofs.YtlbijehgoiknjaaW.PrintMore Go.Proofs.Ytlbijehgoiknjaa.PZipdirHeaders

/-- A number's bytes, the lowest first. -/
def leb (v : Int) (n : Nat) : List Int := (List.range n).map fun i => v / 256 ^ i % 256
theorem leb_length (v : Int) (n : Nat) : (leb v n).length = n := by simp [leb]
theorem leb_succ (v : Int) (n : Nat) : leb v (n + 1) = leb v n ++ [v / 256 ^ n % 256] := by simp [leb, List.range_succ]

theorem putLittle_loop (v : Int) (n : Nat) (hn : n ≤ 8) (d : Nat) : ∀ (k i : Nat) (xs : List Int), i + d = n → d < k → xs.length + d < 140737488355328 →
    num_PutLittle.l0 k v xs n i = some (xs ++ (List.range' i d).map fun j => v / 256 ^ j % 256) := by
  induction d with
  | zero =>
    intro k i xs hi hk hx
    obtain ⟨k, rfl⟩ : ∃ m, k = m + 1 := ⟨k - 1, by omega⟩
    simp only [num_PutLittle.l0]
    rw [if_neg (by omega)]
    simp
  | succ d ih =>
    intro k i xs hi hk hx
    obtain ⟨k, rfl⟩ : ∃ m, k = m + 1 := ⟨k - 1, by omega⟩
    have e1 : IntKind.u64.wrap (wrap64 (8 * (i : Int))) = 8 * (i : Int) := by
      rw [show wrap64 (8 * (i : Int)) = 8 * (i : Int) from by unfold wrap64; omega]
      exact IntWalk.u64_in _ (by omega)
    have e2 : wrap64 ((i : Int) + 1) = ((i + 1 : Nat) : Int) := by unfold wrap64; omega
    have e3 : shr .u64 v (8 * (i : Int)) = v / 256 ^ i := by
      rw [← shr_small (k := .u64) (x := v) (y := 8 * (i : Int)) rfl (by simp [IntKind.bits]; omega)]
      rw [show (8 * (i : Int)).toNat = 8 * i from by omega, Int.pow_mul]
      rfl
    simp only [num_PutLittle.l0]
    rw [if_pos (by omega), e1, if_pos (by omega), if_pos (by omega), e2, e3, ih k (i + 1) _ (by omega) (by omega) (by simp; omega)]
    rw [List.range'_succ]
    simp
theorem putLittle_f (l : List Int) (v : Int) (n : Nat) (h1 : 1 ≤ n) (h8 : n ≤ 8) (hl : l.length + 8 < 140737488355328) : num_PutLittle.f 20 l v n = some (l ++ leb v n) := by
  unfold num_PutLittle.f
  simp only [Option.bind_some]
  rw [if_pos (by simp; omega), if_neg (by omega)]
  simp only [List.nil_append]
  rw [show decide ((n : Int) > 8) = false from by simp; omega]
  simp only [num_PutLittle.j0]
  rw [if_neg (by simp), show (0 : Int) = ((0 : Nat) : Int) from rfl, putLittle_loop v n h8 n 19 0 l (by omega) (by omega) (by omega)]
  simp [leb, List.range_eq_range']
end Go.Proofs.Ytlbijehgoiknjaa.Z
