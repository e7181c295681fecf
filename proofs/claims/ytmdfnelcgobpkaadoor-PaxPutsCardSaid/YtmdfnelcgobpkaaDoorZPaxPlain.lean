/- What few, Get, SameRecords answer; laws of mstep. -/
import Derived.Test.YtmdfnelcgobpkaaDoorZPaxMer
set_option linter.unusedVariables false
set_option linter.unusedSimpArgs false
namespace Go.Proofs.YtmdfnelcgobpkaaDoor.Z
open Go.RowKit Go.Shelf Go.Proofs.YtmdfnelcgobpkaaDoorW.PrintWords Go.Proofs.YtmdfnelcgobpkaaDoorW.PrintLast Go.Proofs.YtmdfnelcgobpkaaDoorW.PrintMore Go.Proofs.YtmdfnelcgobpkaaDoor.PPaxPuts

theorem rd32 {xs : List S32} {i : Nat} (h : i < xs.length) : rd_T32 xs (i : Int) = xs[i] := by simp [rd_T32, List.getD_eq_getElem?_getD, h]
theorem drawn_below {w w' : World} (h : Drawn0 w w') : Below w.heap.size w w' := h.below
/-! ### few -/
def fewB (l : List S32) : Bool := (l.all fun r => decide (r.f0.size ≤ 200) && decide (r.f1.size ≤ 1200)) && decide (l.length ≤ 12)
theorem few_loop (l : List S32) (hl : l.length ≤ 9223372036854775807) (d : Nat) : ∀ (k i : Nat), i + d = l.length → d < k → stevedorelaw24_few.l0 k l (i : Int) = some (((l.drop i).all fun r => decide (r.f0.size ≤ 200) && decide (r.f1.size ≤ 1200)) && decide (l.length ≤ 12)) := by
  induction d with
  | zero =>
    intro k i hi hk
    obtain ⟨k, rfl⟩ : ∃ m, k = m + 1 := ⟨k - 1, by omega⟩
    simp only [stevedorelaw24_few.l0]
    rw [if_neg (by omega), List.drop_of_length_le (by omega)]
    simp
    omega
  | succ d ih =>
    intro k i hi hk
    obtain ⟨k, rfl⟩ : ∃ m, k = m + 1 := ⟨k - 1, by omega⟩
    have hlt : i < l.length := by omega
    simp only [stevedorelaw24_few.l0]
    rw [if_pos (by omega), if_pos (by omega), List.drop_eq_getElem_cons hlt, List.all_cons, rd32 hlt]
    by_cases h : l[i].f0.size ≤ 200
    · by_cases h2 : l[i].f1.size ≤ 1200
      · rw [if_neg (by omega), if_neg (by omega), show wrap64 ((i : Int) + 1) = ((i + 1 : Nat) : Int) from by unfold wrap64; omega, ih k (i + 1) (by omega) (by omega), decide_eq_true h, decide_eq_true h2, Bool.true_and, Bool.true_and]
      · rw [if_neg (by omega), if_pos (by omega), decide_eq_false h2, Bool.and_false]
        rfl
    · rw [if_pos (by omega), decide_eq_false h]
      rfl
theorem few_calls (A : Option Addr) (c : Nat) (l : List S32) (w : World) (he : Kd.C k32 w A l.length l) (hec : l.length ≤ c) :
    Calls Tryd.prog 5 #[.slice A l.length c] w fun e w' => e = .returned (.bool (fewB l)) ∧ Below w.heap.size w w' := by
  refine (stevedorelaw24_few.calls (l.length + 1) A c l _ w he hec (few_loop l he.2.1 l.length (l.length + 1) 0 (by omega) (by omega))).mono ?_
  rintro e w' ⟨rfl, h⟩
  exact ⟨rfl, drawn_below h⟩
theorem few_length {l : List S32} (h : fewB l = true) : l.length ≤ 12 := by
  unfold fewB at h
  simp at h
  exact h.2
theorem few_sizes {l : List S32} (h : fewB l = true) : ∀ r ∈ l, r.f0.size ≤ 200 ∧ r.f1.size ≤ 1200 := by
  unfold fewB at h
  simp at h
  exact h.1
/-! ### Get -/
def getV (xs : List S32) (key : ByteArray) (acc : ByteArray × Bool) : ByteArray × Bool := xs.foldl (fun a r => if hasKey key r then (r.f1, true) else a) acc
def noV : ByteArray × Bool := (⟨#[]⟩, false)
theorem getV_snoc (xs : List S32) (r : S32) (key : ByteArray) (acc : ByteArray × Bool) : getV (xs ++ [r]) key acc = if hasKey key r then (r.f1, true) else getV xs key acc := by simp [getV]
theorem getV_append (xs ys : List S32) (key : ByteArray) (acc : ByteArray × Bool) : getV (xs ++ ys) key acc = getV ys key (getV xs key acc) := by simp [getV]
theorem getV_none : ∀ (xs : List S32) (key : ByteArray) (acc : ByteArray × Bool), (∀ x ∈ xs, hasKey key x = false) → getV xs key acc = acc
  | [], _, _, _ => rfl
  | x :: xs, key, acc, h => by
    show getV xs key (if hasKey key x then (x.f1, true) else acc) = acc
    rw [h x List.mem_cons_self]
    exact getV_none xs key acc (fun y hy => h y (List.mem_cons_of_mem _ hy))
theorem getV_filter : ∀ (xs : List S32) (key : ByteArray) (p : S32 → Bool) (acc : ByteArray × Bool), (∀ x, hasKey key x = true → p x = true) → getV (xs.filter p) key acc = getV xs key acc
  | [], _, _, _, _ => rfl
  | x :: xs, key, p, acc, h => by
    show _ = getV xs key (if hasKey key x then (x.f1, true) else acc)
    cases hp : p x with
    | true =>
      rw [List.filter_cons_of_pos hp]
      exact getV_filter xs key p _ h
    | false =>
      rw [List.filter_cons_of_neg (by rw [hp]; decide)]
      cases hk : hasKey key x with
      | true => rw [h x hk] at hp; cases hp
      | false => exact getV_filter xs key p _ h
theorem get_same (xs : List S32) (key : ByteArray) : ∀ (k : Nat) (i : Int), stevedoreref23_Get.l0 k xs key i = pax_Get.l0 k xs key i
  | 0, _ => rfl
  | k + 1, i => by simp only [stevedoreref23_Get.l0, pax_Get.l0, get_same xs key k]
theorem get_loop (xs : List S32) (key : ByteArray) (hl : xs.length ≤ 9223372036854775807) : ∀ (i k : Nat), i ≤ xs.length → i < k → pax_Get.l0 k xs key ((i : Int) - 1) = some (getV (xs.take i) key noV)
  | 0, k, _, hk => by
    obtain ⟨k, rfl⟩ : ∃ m, k = m + 1 := ⟨k - 1, by omega⟩
    simp only [pax_Get.l0]
    rw [if_neg (by omega)]
    rfl
  | i + 1, k, hi, hk => by
    obtain ⟨k, rfl⟩ : ∃ m, k = m + 1 := ⟨k - 1, by omega⟩
    have hlt : i < xs.length := by omega
    have ih1 := get_loop xs key hl i k (by omega) (by omega)
    rw [show (((i + 1 : Nat) : Int) - 1) = (i : Int) by omega, List.take_succ_eq_append_getElem hlt, getV_snoc]
    simp only [pax_Get.l0]
    rw [if_pos (by omega), if_pos (by omega), if_pos (by omega), rd32 hlt]
    have hk : hasKey key xs[i] = decide (xs[i].f0.toList = key.toList) := by unfold hasKey; rw [Bool.eq_iff_iff]; simp
    by_cases h : xs[i].f0.toList = key.toList
    · rw [if_pos h, hk, decide_eq_true h]
      rfl
    · rw [if_neg h, hk, decide_eq_false h, show wrap64 ((i : Int) - 1) = (i : Int) - 1 from by unfold wrap64; omega, ih1]
      rfl
theorem get_calls (A : Option Addr) (c : Nat) (l : List S32) (key : ByteArray) (w : World) (he : Kd.C k32 w A l.length l) (hec : l.length ≤ c) :
    Calls Tryd.prog 11 #[.slice A l.length c, .string key] w fun e w' => e = .returned (.tuple #[.string (getV l key noV).1, .bool (getV l key noV).2]) ∧ Below w.heap.size w w' := by
  refine (pax_Get.calls (l.length + 1) A c l key (getV l key noV).1 (getV l key noV).2 w he hec ?_).mono ?_
  · have h := (get_loop l key he.2.1 l.length (l.length + 1) (by omega) (by omega))
    have hm := he.2.1
    unfold pax_Get.f
    rw [show wrap64 ((l.length : Int) - 1) = (l.length : Int) - 1 from by unfold wrap64; omega, h, List.take_length]
  · rintro e w' ⟨rfl, h⟩
    exact ⟨rfl, drawn_below h⟩
theorem rget_calls (A : Option Addr) (c : Nat) (l : List S32) (key : ByteArray) (w : World) (he : Kd.C k32 w A l.length l) (hec : l.length ≤ c) :
    Calls Tryd.prog 12 #[.slice A l.length c, .string key] w fun e w' => e = .returned (.tuple #[.string (getV l key noV).1, .bool (getV l key noV).2]) ∧ Below w.heap.size w w' := by
  refine (stevedoreref23_Get.calls (l.length + 1) A c l key (getV l key noV).1 (getV l key noV).2 w he hec ?_).mono ?_
  · have h := (get_loop l key he.2.1 l.length (l.length + 1) (by omega) (by omega))
    have hm := he.2.1
    unfold stevedoreref23_Get.f
    rw [get_same, show wrap64 ((l.length : Int) - 1) = (l.length : Int) - 1 from by unfold wrap64; omega, h, List.take_length]
  · rintro e w' ⟨rfl, h⟩
    exact ⟨rfl, drawn_below h⟩
/-! ### SameRecords -/
theorem same_loop (l : List S32) (hl : l.length ≤ 9223372036854775807) (d : Nat) : ∀ (k i : Nat), i + d = l.length → d < k → stevedoreref23_SameRecords.l0 k l l (i : Int) = some true := by
  induction d with
  | zero =>
    intro k i hi hk
    obtain ⟨k, rfl⟩ : ∃ m, k = m + 1 := ⟨k - 1, by omega⟩
    simp only [stevedoreref23_SameRecords.l0]
    rw [if_neg (by omega)]
  | succ d ih =>
    intro k i hi hk
    obtain ⟨k, rfl⟩ : ∃ m, k = m + 1 := ⟨k - 1, by omega⟩
    simp only [stevedoreref23_SameRecords.l0]
    rw [if_pos (by omega), if_pos (by omega), if_pos (by omega), if_neg (by simp), show wrap64 ((i : Int) + 1) = ((i + 1 : Nat) : Int) from by unfold wrap64; omega, ih k (i + 1) (by omega) (by omega)]
theorem same_calls (A : Option Addr) (c : Nat) (A' : Option Addr) (c' : Nat) (l : List S32) (w : World) (h : Kd.C k32 w A l.length l) (hc : l.length ≤ c) (h' : Kd.C k32 w A' l.length l) (hc' : l.length ≤ c') :
    Calls Tryd.prog 13 #[.slice A l.length c, .slice A' l.length c'] w fun e w' => e = .returned (.bool true) ∧ Below w.heap.size w w' := by
  refine (stevedoreref23_SameRecords.calls (l.length + 1) A c l A' c' l true w h hc h' hc' ?_).mono ?_
  · unfold stevedoreref23_SameRecords.f
    rw [if_pos rfl]
    exact same_loop l h.2.1 l.length (l.length + 1) 0 (by omega) (by omega)
  · rintro e w' ⟨rfl, h⟩
    exact ⟨rfl, drawn_below h⟩
/-! ### mstep -/
def keysApart (xs : List S32) : Prop := xs.Pairwise fun a b => a.f0.toList ≠ b.f0.toList
theorem mstep_shape (M : List S32) (r : S32) (h : r.f1.toList.isEmpty = false) : ∃ A B, mstep M r = A ++ [r] ++ B ∧ A ++ B = M.filter (fun x => !hasKey r.f0 x) := by
  unfold mstep
  dsimp only
  rw [if_neg (by rw [h]; decide)]
  split
  · exact ⟨M.filter (fun x => !hasKey r.f0 x), [], by simp, by simp⟩
  · exact ⟨_, _, rfl, List.take_append_drop _ _⟩
theorem filt_has {M : List S32} {key : ByteArray} : ∀ x ∈ M.filter (fun x => !hasKey key x), hasKey key x = false := by
  intro x hx
  have := (List.mem_filter.1 hx).2
  simpa using this
theorem hasKey_self (r : S32) : hasKey r.f0 r = true := by simp [hasKey]
theorem get_put (M : List S32) (r : S32) : getV (mstep M r) r.f0 noV = if r.f1.toList.isEmpty then noV else (r.f1, true) := by
  cases h : r.f1.toList.isEmpty with
  | true =>
    rw [mstep_none h, getV_none _ _ _ filt_has]
    rfl
  | false =>
    obtain ⟨A, B, e, hAB⟩ := mstep_shape M r h
    have hno := filt_has (M := M) (key := r.f0)
    rw [← hAB] at hno
    rw [e, getV_append, getV_none B _ _ (fun x hx => hno x (List.mem_append_right _ hx)), getV_snoc, if_pos (hasKey_self r)]
    rfl
theorem get_other (M : List S32) (r : S32) (key : ByteArray) (hne : key.toList ≠ r.f0.toList) : getV (mstep M r) key noV = getV M key noV := by
  have hf : ∀ acc, getV (M.filter (fun x => !hasKey r.f0 x)) key acc = getV M key acc := fun acc => getV_filter M key _ acc (fun x hx => by
    unfold hasKey at hx ⊢
    have hx := eq_of_beq hx
    rw [hx, Bool.not_eq_true', beq_eq_false_iff_ne]
    exact hne)
  cases h : r.f1.toList.isEmpty with
  | true => rw [mstep_none h, hf]
  | false =>
    obtain ⟨A, B, e, hAB⟩ := mstep_shape M r h
    have hr : hasKey key r = false := by unfold hasKey; rw [beq_eq_false_iff_ne]; exact Ne.symm hne
    rw [e, getV_append, getV_snoc, hr, if_neg (by decide), ← getV_append, hAB, hf]
theorem mstep_apart (M : List S32) (r : S32) (h : keysApart M) : keysApart (mstep M r) := by
  have hf : keysApart (M.filter (fun x => !hasKey r.f0 x)) := List.Pairwise.filter _ h
  cases hz : r.f1.toList.isEmpty with
  | true => rw [mstep_none hz]; exact hf
  | false =>
    obtain ⟨A, B, e, hAB⟩ := mstep_shape M r hz
    have hno := filt_has (M := M) (key := r.f0)
    rw [← hAB] at hno hf
    rw [e]
    have hne : ∀ x ∈ A ++ B, x.f0.toList ≠ r.f0.toList := fun x hx => by
      have := hno x hx
      unfold hasKey at this
      exact beq_eq_false_iff_ne.1 this
    unfold keysApart at hf ⊢
    rw [List.pairwise_append] at hf
    rw [List.append_assoc, List.pairwise_append, List.singleton_append, List.pairwise_cons]
    refine ⟨hf.1, ⟨fun b hb => (hne b (List.mem_append_right _ hb)).symm, hf.2.1⟩, fun a ha b hb => ?_⟩
    rcases List.mem_cons.1 hb with rfl | hb
    · exact hne a (List.mem_append_left _ ha)
    · exact hf.2.2 a ha b hb
theorem mergeF_apart : ∀ (more l : List S32), keysApart l → keysApart (mergeF l more)
  | [], _, h => h
  | r :: more, l, h => mergeF_apart more (mstep l r) (mstep_apart l r h)
theorem mstep_again (M : List S32) (r : S32) : mstep (mstep M r) r = mstep M r := by
  cases hz : r.f1.toList.isEmpty with
  | true =>
    rw [mstep_none hz, mstep_none hz, List.filter_filter]
    congr 1
    funext x
    rw [Bool.and_self]
  | false =>
    obtain ⟨A, B, e, hAB⟩ := mstep_shape M r hz
    have hno := filt_has (M := M) (key := r.f0)
    rw [← hAB] at hno
    have hA : A.filter (fun x => !hasKey r.f0 x) = A := List.filter_eq_self.2 (fun x hx => by rw [hno x (List.mem_append_left _ hx)]; rfl)
    have hB : B.filter (fun x => !hasKey r.f0 x) = B := List.filter_eq_self.2 (fun x hx => by rw [hno x (List.mem_append_right _ hx)]; rfl)
    have hF : (A ++ [r] ++ B).filter (fun x => !hasKey r.f0 x) = A ++ B := by
      rw [List.filter_append, List.filter_append, hA, hB]
      simp [hasKey_self]
    have hI : idxF r.f0 (A ++ [r] ++ B) = (A.length : Int) := by
      unfold idxF
      rw [show (A ++ [r] ++ B).findIdx? (hasKey r.f0) = some A.length from List.findIdx?_eq_some_iff_getElem.2 ⟨by simp, by simp [hasKey_self], fun j hj => by
        rw [List.getElem_append_left (show j < (A ++ [r]).length by simp; omega), List.getElem_append_left hj, hno _ (List.mem_append_left _ (List.getElem_mem hj))]
        decide⟩]
    rw [e, mstep_put hz hI, hF, List.take_left, List.drop_left]
end Go.Proofs.YtmdfnelcgobpkaaDoor.Z
