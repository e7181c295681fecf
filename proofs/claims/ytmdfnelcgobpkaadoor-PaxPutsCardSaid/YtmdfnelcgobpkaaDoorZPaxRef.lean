/- ref23.Merge answers as mergeF does. -/
import Derived.Test.YtmdfnelcgobpkaaDoorZPaxPlain
import Derived.Test.YtmdfnelcgobpkaaDoorPPaxPutsx5
set_option linter.unusedVariables false
set_option linter.unusedSimpArgs false
namespace Go.Proofs.YtmdfnelcgobpkaaDoor.Z
open Go.RowKit Go.Shelf Go.Proofs.YtmdfnelcgobpkaaDoorW.PrintWords Go.Proofs.YtmdfnelcgobpkaaDoorW.PrintLast Go.Proofs.YtmdfnelcgobpkaaDoorW.PrintMore Go.Proofs.YtmdfnelcgobpkaaDoor.PPaxPuts

def refMid (r : S32) : List S32 → Bool → List S32
  | [], d => if r.f1.toList = [] then [] else if d = true then [] else [r]
  | y :: ys, d => if y.f0.toList = r.f0.toList then (if r.f1.toList = [] then refMid r ys d else if d = true then refMid r ys d else r :: refMid r ys true) else y :: refMid r ys d
theorem has_iff (key : ByteArray) (y : S32) : (hasKey key y = true) ↔ y.f0.toList = key.toList := by unfold hasKey; exact beq_iff_eq
theorem refMid_true (r : S32) : ∀ ys, refMid r ys true = ys.filter (fun x => !hasKey r.f0 x)
  | [] => by unfold refMid; split <;> rfl
  | y :: ys => by
    unfold refMid
    by_cases h : y.f0.toList = r.f0.toList
    · rw [if_pos h, if_pos rfl, List.filter_cons_of_neg (by rw [(has_iff _ _).2 h]; decide), refMid_true r ys]
      split <;> rfl
    · rw [if_neg h, List.filter_cons_of_pos (by simp [hasKey, h]), refMid_true r ys]
theorem refMid_none (r : S32) (hz : r.f1.toList = []) (d : Bool) : ∀ ys, refMid r ys d = ys.filter (fun x => !hasKey r.f0 x)
  | [] => by unfold refMid; rw [if_pos hz]; rfl
  | y :: ys => by
    unfold refMid
    by_cases h : y.f0.toList = r.f0.toList
    · rw [if_pos h, if_pos hz, List.filter_cons_of_neg (by rw [(has_iff _ _).2 h]; decide), refMid_none r hz d ys]
    · rw [if_neg h, List.filter_cons_of_pos (by simp [hasKey, h]), refMid_none r hz d ys]
theorem refMid_mstep (r : S32) : ∀ ys, refMid r ys false = mstep ys r := by
  intro ys
  by_cases hz : r.f1.toList = []
  · rw [refMid_none r hz, mstep_none (by rw [hz]; rfl)]
  · have hz' : r.f1.toList.isEmpty = false := by
      cases h : r.f1.toList.isEmpty with
      | false => rfl
      | true => exact absurd (List.isEmpty_iff.1 h) hz
    induction ys with
    | nil =>
      unfold refMid mstep
      simp [hz]
    | cons y ys ih =>
      unfold refMid
      by_cases h : y.f0.toList = r.f0.toList
      · rw [if_pos h, if_neg hz, if_neg (by decide), refMid_true]
        unfold mstep
        simp only [List.findIdx?_cons, (has_iff _ _).2 h, hz', List.filter_cons]
        simp
      · have hk : hasKey r.f0 y = false := by simp [hasKey, h]
        rw [if_neg h, ih]
        unfold mstep
        simp only [List.findIdx?_cons, hk, hz', List.filter_cons]
        cases ys.findIdx? (hasKey r.f0) <;> simp
theorem ref_inner (x1 x5 : List S32) (i : Int) (r : S32) : ∀ (n j k : Nat) (x8 : List S32) (d : Bool), j + n = x5.length → n < k → x5.length ≤ 9223372036854775806 → x8.length + n + 1 < 4398046511104 →
    stevedoreref23_Merge.l1 k x1 x5 i x8 d (j : Int) r.f0 r.f1 = stevedoreref23_Merge.l0 (k - n - 1) x1 (x8 ++ refMid r (x5.drop j) d) (wrap64 (i + 1))
  | 0, j, k, x8, d, hj, hk, hm, hb => by
    obtain ⟨k, rfl⟩ : ∃ m, k = m + 1 := ⟨k - 1, by omega⟩
    simp only [stevedoreref23_Merge.l1]
    rw [if_neg (by omega), List.drop_of_length_le (by omega)]
    unfold refMid
    by_cases hz : r.f1.toList = []
    · rw [if_pos hz, if_pos hz, List.append_nil]
      rfl
    · rw [if_neg hz, if_neg hz]
      cases d with
      | true => simp only [if_true, List.append_nil]; rfl
      | false => simp only [Bool.false_eq_true, if_false]; rw [if_pos (by omega)]; rfl
  | n + 1, j, k, x8, d, hj, hk, hm, hb => by
    obtain ⟨k, rfl⟩ : ∃ m, k = m + 1 := ⟨k - 1, by omega⟩
    have hlt : j < x5.length := by omega
    have ih := ref_inner x1 x5 i r n (j + 1) k
    simp only [stevedoreref23_Merge.l1]
    rw [if_pos (by omega), if_pos (by omega), rd32 hlt, List.drop_eq_getElem_cons hlt, show wrap64 ((j : Int) + 1) = ((j + 1 : Nat) : Int) from by unfold wrap64; omega, show k + 1 - (n + 1) - 1 = k - n - 1 by omega]
    unfold refMid
    by_cases h : x5[j].f0.toList = r.f0.toList
    · rw [if_pos h, if_pos h]
      by_cases hz : r.f1.toList = []
      · rw [if_pos hz, if_pos hz, ih x8 d (by omega) (by omega) hm (by omega)]
      · rw [if_neg hz, if_neg hz]
        cases d with
        | true => simp only [if_true]; rw [ih x8 true (by omega) (by omega) hm (by omega)]
        | false =>
          simp only [Bool.false_eq_true, if_false]
          rw [if_pos (by omega), ih _ true (by omega) (by omega) hm (by rw [List.length_append, List.length_singleton]; omega), List.append_assoc]
          rfl
    · rw [if_neg h, if_neg h, if_pos (by omega), ih _ d (by omega) (by omega) hm (by rw [List.length_append, List.length_singleton]; omega), List.append_assoc]
      rfl
theorem ref_outer (x1 : List S32) : ∀ (n i : Nat) (x5 : List S32), i + n = x1.length → x1.length ≤ 1000 → x5.length + n ≤ 1000000 → ∃ K, ∀ k, K ≤ k → stevedoreref23_Merge.l0 k x1 x5 (i : Int) = some (mergeF x5 (x1.drop i))
  | 0, i, x5, hi, _, _ => ⟨1, fun k hk => by
    obtain ⟨k, rfl⟩ : ∃ m, k = m + 1 := ⟨k - 1, by omega⟩
    simp only [stevedoreref23_Merge.l0]
    rw [if_neg (by omega), List.drop_of_length_le (by omega)]
    rfl⟩
  | n + 1, i, x5, hi, h1, h5 => by
    have hlt : i < x1.length := by omega
    have hml := mstep_length x5 x1[i]
    obtain ⟨K, hK⟩ := ref_outer x1 n (i + 1) (mstep x5 x1[i]) (by omega) h1 (by omega)
    refine ⟨K + x5.length + 2, fun k hk => ?_⟩
    obtain ⟨k, rfl⟩ : ∃ m, k = m + 1 := ⟨k - 1, by omega⟩
    simp only [stevedoreref23_Merge.l0]
    rw [if_pos (by omega), if_pos (by omega), rd32 hlt]
    have hin := ref_inner x1 x5 (i : Int) x1[i] x5.length 0 k [] false (by omega) (by omega) (by omega) (by simp only [List.length_nil]; omega)
    rw [Int.natCast_zero] at hin
    rw [hin, List.drop_zero, List.nil_append, refMid_mstep, show wrap64 ((i : Int) + 1) = ((i + 1 : Nat) : Int) from by unfold wrap64; omega, hK _ (by omega), List.drop_eq_getElem_cons hlt]
    rfl
end Go.Proofs.YtmdfnelcgobpkaaDoor.Z
