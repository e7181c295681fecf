/- Walks of Merge's predicate and of slices.IndexFunc over it. -/
import Derived.Test.YtmdfnelcgobpkaaDoorZPaxTold
set_option linter.unusedVariables false
set_option linter.unusedSimpArgs false
namespace Go.Proofs.YtmdfnelcgobpkaaDoor.Z
open Go.RowKit Go.Shelf Go.Proofs.YtmdfnelcgobpkaaDoorW.PrintWords Go.Proofs.YtmdfnelcgobpkaaDoorW.PrintLast Go.Proofs.YtmdfnelcgobpkaaDoorW.PrintMore Go.Proofs.YtmdfnelcgobpkaaDoor.PPaxPuts

/-- Has the record that key? -/
def hasKey (key : ByteArray) (r : S32) : Bool := r.f0.toList == key.toList
def idxF (key : ByteArray) (xs : List S32) : Int := match xs.findIdx? (hasKey key) with
  | some i => i
  | none => -1
def fnV (b : Nat) : Value := .func (.func 22) #[] #[.pointer (some ⟨b, 0, none⟩)]
set_option maxHeartbeats 1000000 in
set_option maxRecDepth 100000 in
theorem pred_calls (b : Nat) (key val : ByteArray) (r : S32) (w : World) (hb : w.heap[b]? = some (.cells #[.string key, .string val] 32 (0, 0))) :
    Calls Tryd.prog 22 #[.agg #[.string r.f0, .string r.f1], .pointer (some ⟨b, 0, none⟩)] w fun e w' => e = .returned (.bool (hasKey key r)) ∧ Below w.heap.size w w' := by
  have hc := blk_cell (blk_alloc hb (.cells #[.string r.f0, .string r.f1] 32)) 0
  simp only [List.getElem?_toArray, List.getElem?_cons_zero] at hc
  go_enter Tryd.func22, Tryd.ntmps22
  go_wp2_with fail
  go_ret
  exact ⟨rfl, below_alloc (Below.refl _ _) _⟩

set_option maxHeartbeats 4000000 in
set_option maxRecDepth 100000 in
theorem index_calls (A : Option Addr) (c : Nat) (xs : List S32) (b : Nat) (key val : ByteArray) (w : World) (hC : Kd.C k32 w A xs.length xs) (hb : w.heap[b]? = some (.cells #[.string key, .string val] 32 (0, 0))) :
    Calls Tryd.prog 23 #[.slice A xs.length c, fnV b] w fun e w' => e = .returned (.int .i64 (idxF key xs)) ∧ Below w.heap.size w w' := by
  have HC := Lib.hid hC
  have HB := Lib.hid hb
  have hml := hC.2.1
  clear hC hb
  unfold fnV
  go_enter Tryd.func23, Tryd.ntmps23
  go_wp2_with fail
  go_loopw [8] (fun t8 wr => ∃ k : Nat, k ≤ xs.length ∧ t8 = .int .i64 k ∧ Hid (∀ j (hj : j < xs.length), j < k → hasKey key xs[j] = false) ∧ Below w.heap.size w wr) (fun t8 _ => xs.length - (intOf t8).toNat)
  case atStart => exact ⟨0, by omega, rfl, (fun j _ h => absurd h (Nat.not_lt_zero _)), Below.refl _ _⟩
  case round =>
    obtain ⟨k, hk, rfl, hno, hBw⟩ := hrel
    have HW := Lib.hid hBw
    clear hBw
    by_cases hlt : k < xs.length
    · obtain ⟨ad, rfl, hx0, hx1⟩ := s32_at (Kd.C_below HC.out HW.out) k hlt
      have hk0 : (0 : Int) ≤ (k : Int) := Int.natCast_nonneg k
      have hk1 : (k : Int) < (xs.length : Int) := by omega
      have HP := Lib.hid (pred_calls b key val xs[k] wr (blk_below HB.out HW.out))
      cases hp : hasKey key xs[k] with
      | true =>
        rw [hp] at HP
        have HI := Lib.hid (show idxF key xs = k from by
          unfold idxF
          rw [show xs.findIdx? (hasKey key) = some k from List.findIdx?_eq_some_iff_getElem.2 ⟨hlt, hp, fun j hj => by rw [hno.out j (by omega) hj]; decide⟩])
        clear hno
        go_wp2_with fail
        refine HP.out.mono ?_
        rintro e w1 ⟨rfl, hb1⟩
        have HW1 := HW.out.trans (hb1.mono HW.out.size)
        go_wp2_with fail
        rw [HI.out]
        go_ret
        exact ⟨rfl, HW1⟩
      | false =>
        rw [hp] at HP
        have HN := Lib.hid (show ∀ j (hj : j < xs.length), j < k + 1 → hasKey key xs[j] = false from fun j hj h => by
          rcases Nat.lt_or_ge j k with h1 | h1
          · exact hno.out j hj h1
          · obtain rfl : j = k := by omega
            exact hp)
        clear hno
        go_wp2_with fail
        refine HP.out.mono ?_
        rintro e w1 ⟨rfl, hb1⟩
        have HW1 := HW.out.trans (hb1.mono HW.out.size)
        go_wp2_with fail
        go_roundw
        case rel => exact ⟨k + 1, by omega, by go_num, HN.out, HW1⟩
        case measure => simp [intOf]; omega
    · have hk1 : ¬ (k : Int) < (xs.length : Int) := by omega
      have HI := Lib.hid (show idxF key xs = -1 from by
        unfold idxF
        rw [show xs.findIdx? (hasKey key) = none from List.findIdx?_eq_none_iff.2 (fun x hx => by
          obtain ⟨j, hj, rfl⟩ := List.getElem_of_mem hx
          exact hno.out j hj (by omega))])
      go_wp2_with fail
      rw [HI.out]
      go_ret
      exact ⟨rfl, HW.out⟩
end Go.Proofs.YtmdfnelcgobpkaaDoor.Z
