/- Rows of records as cells; walk of slices.DeleteFunc over Merge's predicate. -/
import Derived.Test.YtmdfnelcgobpkaaDoorZPaxIdx
import Derived.Laws.CopyRow
import Derived.Laws.CopyOwn
set_option linter.unusedVariables false
set_option linter.unusedSimpArgs false
namespace Go.Proofs.YtmdfnelcgobpkaaDoor.Z
open Go.RowKit Go.Shelf Go.Proofs.YtmdfnelcgobpkaaDoorW.PrintWords Go.Proofs.YtmdfnelcgobpkaaDoorW.PrintLast Go.Proofs.YtmdfnelcgobpkaaDoorW.PrintMore Go.Proofs.YtmdfnelcgobpkaaDoor.PPaxPuts

def cellsOf (D : List S32) : List Value := D.flatMap fun r => [.string r.f0, .string r.f1]
theorem cellsOf_cons (r : S32) (D : List S32) : cellsOf (r :: D) = .string r.f0 :: .string r.f1 :: cellsOf D := rfl
theorem cellsOf_length : ∀ D : List S32, (cellsOf D).length = D.length * 2
  | [] => rfl
  | r :: D => by rw [cellsOf_cons, List.length_cons, List.length_cons, cellsOf_length D, List.length_cons]; omega
theorem cellsOf_append (A B : List S32) : cellsOf (A ++ B) = cellsOf A ++ cellsOf B := by simp [cellsOf]
theorem cellsOf_take : ∀ (D : List S32) (i : Nat), cellsOf (D.take i) = (cellsOf D).take (i * 2)
  | [], i => by simp [cellsOf]
  | r :: D, 0 => rfl
  | r :: D, i + 1 => by
    rw [List.take_succ_cons, cellsOf_cons, cellsOf_cons, cellsOf_take D i, show (i + 1) * 2 = i * 2 + 1 + 1 by omega, List.take_succ_cons, List.take_succ_cons]
theorem cellsOf_drop : ∀ (D : List S32) (i : Nat), cellsOf (D.drop i) = (cellsOf D).drop (i * 2)
  | [], i => by simp [cellsOf]
  | r :: D, 0 => rfl
  | r :: D, i + 1 => by
    rw [List.drop_succ_cons, cellsOf_cons, cellsOf_drop D i, show (i + 1) * 2 = i * 2 + 1 + 1 by omega, List.drop_succ_cons, List.drop_succ_cons]
theorem cellsOf_one (D : List S32) : ∀ v ∈ cellsOf D, v.oneCell' = true := by
  intro v hv
  simp only [cellsOf, List.mem_flatMap, List.mem_cons, List.not_mem_nil, or_false] at hv
  obtain ⟨r, _, h | h⟩ := hv <;> (subst h; rfl)
theorem cellsOf_get0 : ∀ (D : List S32) (i : Nat) (h : i < D.length), (cellsOf D)[i * 2]? = some (.string D[i].f0)
  | r :: D, 0, _ => rfl
  | r :: D, i + 1, h => by
    rw [cellsOf_cons, show (i + 1) * 2 = i * 2 + 1 + 1 by omega, List.getElem?_cons_succ, List.getElem?_cons_succ, cellsOf_get0 D i (by simpa using h)]
    rfl
theorem cellsOf_get1 : ∀ (D : List S32) (i : Nat) (h : i < D.length), (cellsOf D)[i * 2 + 1]? = some (.string D[i].f1)
  | r :: D, 0, _ => rfl
  | r :: D, i + 1, h => by
    rw [cellsOf_cons, show (i + 1) * 2 + 1 = (i * 2 + 1) + 1 + 1 by omega, List.getElem?_cons_succ, List.getElem?_cons_succ, cellsOf_get1 D i (by simpa using h)]
    rfl
theorem cellsOf_set : ∀ (D : List S32) (T : List Value) (i : Nat) (r : S32), i < D.length → ((cellsOf D ++ T).set (i * 2) (.string r.f0)).set (i * 2 + 1) (.string r.f1) = cellsOf (D.set i r) ++ T
  | x :: D, T, 0, r, _ => rfl
  | x :: D, T, i + 1, r, h => by
    rw [cellsOf_cons, show (i + 1) * 2 = i * 2 + 1 + 1 by omega, show i * 2 + 1 + 1 + 1 = (i * 2 + 1) + 1 + 1 by omega]
    simp only [List.cons_append, List.set_cons_succ]
    rw [cellsOf_set D T i r (by simpa using h)]
    rfl
theorem reps_cells {w : World} {base : Nat} {ok : Nat → Prop} : ∀ (xs : List S32) (cs : List Value), Reps (k32.M w base ok) 2 xs cs → cs = cellsOf xs
  | [], cs, h => by
    have := h.1
    simp at this
    rw [this]; rfl
  | x :: xs, cs, h => by
    have hl := h.1
    simp only [List.length_cons] at hl
    have h0 := k32_openM (h.2 0 x rfl)
    have ht : Reps (k32.M w base ok) 2 xs (cs.drop 2) := ⟨by rw [List.length_drop]; omega, fun j p hj => by
      have := h.2 (j + 1) p (by simpa using hj)
      rw [List.drop_drop, show 2 + j * 2 = (j + 1) * 2 by omega]
      exact this⟩
    have hi := reps_cells xs _ ht
    rw [cellsOf_cons, ← hi]
    have : cs = cs.take 2 ++ cs.drop 2 := (List.take_append_drop 2 cs).symm
    rw [this]
    simp only [Nat.zero_mul, List.drop_zero] at h0
    rw [h0]
    simp
theorem cells_reps {w : World} {base : Nat} {ok : Nat → Prop} : ∀ (xs : List S32), Reps (k32.M w base ok) 2 xs (cellsOf xs)
  | [] => Reps.none _ _
  | x :: xs => Reps.c2 (p := x) (k32_mkM _ _ _ x) (cells_reps xs)
theorem row_open {w : World} {base : Nat} {ok : Nat → Prop} {v : Value} {xs : List S32} (h : Kd.R k32 32 w base ok v xs) :
    (v = .slice none 0 0 ∧ xs = []) ∨ ∃ (g cap : Nat) (T : List Value), v = .slice (some ⟨g, 0, none⟩) xs.length cap ∧ base ≤ g ∧ ok g ∧ xs.length ≤ cap ∧ cap ≤ maxLen ∧ T.length = (cap - xs.length) * 2 ∧ w.heap[g]? = some (.cells (cellsOf xs ++ T).toArray 32 (0, 0)) := by
  obtain ⟨hok, inner, ho, hr⟩ := h
  have hi := reps_cells xs inner hr
  subst hi
  rcases ho.2 with ⟨rfl, h0⟩ | ⟨g, cap, cur, rfl, hb, hg, hn, hc, hs, ht⟩
  · exact .inl ⟨rfl, List.length_eq_zero_iff.1 h0⟩
  · have ht : cur.toList.take (xs.length * 2) = cellsOf xs := ht
    have hs : cur.size = cap * 2 := hs
    refine .inr ⟨g, cap, cur.toList.drop (xs.length * 2), rfl, hb, hok g (by simp [Value.ownBlock]), hn, hc, ?_, ?_⟩
    · rw [List.length_drop, Array.length_toList, hs, Nat.sub_mul]
    · rw [← ht, List.take_append_drop]
      exact hg
theorem row_close {w : World} {base : Nat} {ok : Nat → Prop} {g cap : Nat} {xs : List S32} {T : List Value} (hb : base ≤ g) (hok : ok g) (hn : xs.length ≤ cap) (hc : cap ≤ maxLen) (hT : T.length = (cap - xs.length) * 2)
    (hg : w.heap[g]? = some (.cells (cellsOf xs ++ T).toArray 32 (0, 0))) : Kd.R k32 32 w base ok (.slice (some ⟨g, 0, none⟩) xs.length cap) xs := by
  refine ⟨fun k hk => ?_, cellsOf xs, ⟨cellsOf_length xs, .inr ⟨g, cap, _, rfl, hb, hg, hn, hc, ?_, ?_⟩⟩, cells_reps xs⟩
  · have : g = k := by simpa [Value.ownBlock] using hk
    exact this ▸ hok
  · show (cellsOf xs ++ T).toArray.size = cap * 2
    rw [List.size_toArray, List.length_append, cellsOf_length, hT, Nat.sub_mul]
    have := Nat.mul_le_mul_right 2 hn
    omega
  · show (cellsOf xs ++ T).toArray.toList.take (xs.length * 2) = cellsOf xs
    rw [show (cellsOf xs ++ T).toArray.toList = cellsOf xs ++ T from rfl, ← cellsOf_length, List.take_left]
/-- clear of a piece of a row of records. -/
theorem run_clear_rec (w : World) (g o n c : Nat) (L : List Value) (hn : 0 < n) (hg : w.heap[g]? = some (.cells L.toArray 32 (0, 0))) (hfit : o + n * 2 ≤ L.length) :
    ∃ Z : List Value, Z.length = n * 2 ∧ ∀ ty, (Builtin.clear_ #[22] ty #[.slice (some ⟨g, o, none⟩) n c]).run Tryd.prog w = .ok (.tuple #[]) (w.setRow g (L.take o ++ Z ++ L.drop (o + n * 2)).toArray) := by
  have hz1 : ∀ x ∈ (Builtin.zeroCells (Value.agg #[.string ⟨#[]⟩, .string ⟨#[]⟩]).cells n).toList, x.oneCell' = true := by
    intro x hx
    simp only [Builtin.zeroCells, Array.toList_map, List.mem_map] at hx
    obtain ⟨i, -, rfl⟩ := hx
    have h2 : i % 2 = 0 ∨ i % 2 = 1 := by omega
    rcases h2 with h2 | h2 <;> simp [Value.cells, h2] <;> rfl
  have hzl : (Builtin.zeroCells (Value.agg #[.string ⟨#[]⟩, .string ⟨#[]⟩]).cells n).toList.length = n * 2 := by simp [Builtin.zeroCells, Value.cells]
  refine ⟨_, hzl, fun ty => ?_⟩
  have hst := run_storeCells_at Tryd.prog g o 32 (Builtin.zeroCells (Value.agg #[.string ⟨#[]⟩, .string ⟨#[]⟩]).cells n).toList 0 L.toArray w hg (by rw [hzl]; simpa using hfit) hz1
  simp only [Nat.add_zero] at hst
  rw [hzl] at hst
  obtain ⟨m, rfl⟩ : ∃ m, n = m + 1 := ⟨n - 1, by omega⟩
  simp [Builtin.clear_, run_underlying Tryd.underlying22, Tryd.zeroValue32, hst]
end Go.Proofs.YtmdfnelcgobpkaaDoor.Z
