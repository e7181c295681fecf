/- Walk of package zipdir's (*writer).put: numbers of n bytes each, one behind the other. -/
import Derived.Test.YtlbijehgoiknjaaZPutLit
import Derived.Test.YtlbijehgoiknjaaZNum2
set_option linter.unusedVariables false
set_option linter.unusedSimpArgs false
namespace Go.Proofs.Ytlbijehgoiknjaa.Z
open Go.RowKit Go.Proofs.YtlbijehgoiknjaaW.PrintWords Go.Proofs.YtlbijehgoiknjaaW.PrintLast Go.Proofs.YtlbijehgoiknjaaW.PrintMore Go.Proofs.Ytlbijehgoiknjaa.PZipdirHeaders

/-- The writer at block g has put these bytes; its row is one of the call's own, from block B on. -/
def WrS (w : World) (g B : Nat) (xs : List Int) : Prop := ∃ v, w.heap[g]? = some (.cells #[v] 54 (0, 0)) ∧ Kd.R (Kd.int .u8) 5 w B (fun _ => True) v xs
theorem u64s_at {w : World} {b : Nat} {T : TypeId} {vs : List Int} (h : w.heap[b]? = some (.cells (vs.map (fun t => Value.int .u64 t)).toArray T (0, 0))) : ∀ j v, vs[j]? = some v → w.cell? ⟨b, j, none⟩ = some (.int .u64 v) := by
  intro j t hj
  rw [blk_cell h]
  simp [hj]
theorem WrS.new (w : World) (B : Nat) (h : B ≤ w.heap.size) : WrS (w.alloc (.cells #[.slice none 0 0] 54)) w.heap.size B [] := ⟨_, blk_new w _, Kd.R_nil _ _ _ _ _⟩
theorem WrS.below {w w1 : World} {g B : Nat} {xs : List Int} (h : WrS w g B xs) (hb : Below w.heap.size w w1) : WrS w1 g B xs := by
  obtain ⟨v, h1, h2⟩ := h
  exact ⟨v, blk_below h1 hb, Kd.R_below h2 hb⟩
theorem WrS.alloc {w : World} {g B : Nat} {xs : List Int} (h : WrS w g B xs) (o : Obj) : WrS (w.alloc o) g B xs := h.below (below_alloc (Below.refl _ _) o)
theorem WrS.lt {w : World} {g B : Nat} {xs : List Int} (h : WrS w g B xs) : g < w.heap.size := by
  obtain ⟨v, h1, _⟩ := h
  exact blk_lt h1
theorem WrS.row {w : World} {g B : Nat} {xs : List Int} (h : WrS w g B xs) : ∃ (A : Option Addr) (n c : Nat), Hid (n = xs.length) ∧ w.heap[g]? = some (.cells #[.slice A n c] 54 (0, 0)) ∧ Kd.R (Kd.int .u8) 5 w B (fun _ => True) (.slice A n c) xs := by
  obtain ⟨v, hg, hR⟩ := h
  obtain ⟨A, c, rfl, _, _⟩ := Kd.R_reads hR
  exact ⟨A, _, c, rfl, hg, hR⟩
def putF (n : Nat) (vs : List Int) : List Int := vs.flatMap fun v => leb v n
theorem putF_length (n : Nat) (vs : List Int) : (putF n vs).length = n * vs.length := by
  induction vs with
  | nil => rfl
  | cons v vs ih => simp only [putF, List.flatMap_cons, List.length_append, leb_length, List.length_cons] at *; rw [ih, Nat.mul_add]; omega

set_option maxHeartbeats 1000000 in
set_option maxRecDepth 100000 in
theorem put_calls (g b B cv : Nat) (n : Nat) (xs vs : List Int) (w : World) (hS : WrS w g B xs) (hv : ∀ j v, vs[j]? = some v → w.cell? ⟨b, j, none⟩ = some (.int .u64 v)) (hn1 : 1 ≤ n) (hn8 : n ≤ 8) (hlen : vs.length ≤ 1000) (hx : xs.length + n * vs.length + 8 < 140737488355328) (hbg : b ≠ g) (hB : B ≤ w.heap.size) :
    Calls Try.prog 22 #[.pointer (some ⟨g, 0, none⟩), .int .i64 n, .slice (some ⟨b, 0, none⟩) vs.length cv] w fun e w' => e = .returned (.tuple #[]) ∧ WrS w' g B (xs ++ putF n vs) ∧ Kp [g] w w' := by
  have HS := Lib.hid hS
  have HV := Lib.hid hv
  clear hS hv
  go_enter Try.func22, Try.ntmps22
  go_wp2_with fail
  go_loopw [10] (fun t wr => ∃ k : Nat, k ≤ vs.length ∧ t = .int .i64 k ∧ WrS wr g B (xs ++ putF n (vs.take k)) ∧ Kp [g] w wr) (fun t _ => vs.length - (intOf t).toNat)
  case atStart => exact ⟨0, by omega, rfl, by simpa [putF] using HS.out, Kp.refl _ _⟩
  case round =>
    obtain ⟨k, hk, rfl, hSk, hKk⟩ := hrel
    have HKk := Lib.hid hKk
    clear hKk
    by_cases hlt : k < vs.length
    · obtain ⟨x, hex⟩ : ∃ t, vs[k]? = some t := ⟨_, List.getElem?_eq_getElem hlt⟩
      have hcell : wr.cell? ⟨b, k, none⟩ = some (.int .u64 x) := HKk.out.cell (HV.out k x hex) (by simpa using hbg)
      have HE := Lib.hid (show putF n (vs.take (k + 1)) = putF n (vs.take k) ++ leb x n from by rw [List.take_add_one, hex]; simp [putF])
      have HL := Lib.hid (show (xs ++ putF n (vs.take k)).length + 8 < 140737488355328 from by
        rw [List.length_append, putF_length, List.length_take, Nat.min_eq_left (by omega)]
        have := Nat.mul_le_mul_left n hk
        omega)
      clear hex
      obtain ⟨v, hg, hR⟩ := hSk
      obtain ⟨Av, cv', rfl, hlc, hC⟩ := Kd.R_reads hR
      have hg0 := blk_cell hg 0
      have hgf := blk_frozen hg 0
      simp only [List.getElem?_toArray, List.getElem?_cons_zero] at hg0
      have HG := Lib.hid hg
      have HR := Lib.hid hR
      have HC := Lib.hid hC
      have HBs := Lib.hid (show B ≤ wr.heap.size from by have := HKk.out.size; omega)
      clear hg hR hC
      have hk0 : (0 : Int) ≤ (k : Int) := Int.natCast_nonneg k
      have hk1 : (k : Int) < (vs.length : Int) := by omega
      generalize hys : xs ++ putF n (vs.take k) = ys at *
      have HYS := Lib.hid hys
      clear hys
      go_wp2_with fail
      refine (num_PutLittle.calls 20 Av cv' ys x n _ _ HC.out hlc (putLittle_f ys x n hn1 hn8 HL.out)).mono ?_
      rintro e w1 ⟨v1, rfl, hR1, hb1⟩
      obtain ⟨zs, hzs⟩ : ∃ zs, zs = ys ++ leb x n := ⟨_, rfl⟩
      rw [← hzs] at hR1
      have HZS := Lib.hid hzs
      clear hzs
      obtain ⟨A1, c1, rfl, hl1, hC1⟩ := Kd.R_reads hR1
      clear hC1
      have hg1 := blk_below HG.out hb1
      have h10 := blk_cell hg1 0
      have h1f := blk_frozen hg1 0
      simp only [List.getElem?_toArray, List.getElem?_cons_zero] at h10
      have HG1 := Lib.hid hg1
      have HR1 := Lib.hid hR1
      have HB1 := Lib.hid hb1
      clear hg1 hR1 hb1 hg0 hgf
      go_wp2
      go_roundw
      case rel =>
        refine ⟨k + 1, by omega, by go_num, ⟨_, blk_put HG1.out 0 _ rfl, ?_⟩, (HKk.out.below HB1.out).setCell (.inl (by simp)) _⟩
        rw [HE.out, ← List.append_assoc, HYS.out, ← HZS.out]
        exact Kd.R_lower (Kd.R_set HR1.out HG1.out (by simp [Kd.int, Kd.scalar]) 0 _) HBs.out
      case measure => simp [intOf]; omega
    · have hkn : k = vs.length := by omega
      subst hkn
      have HSk := Lib.hid hSk
      clear hSk
      go_wp2
      go_end0
      exact ⟨rfl, by have := HSk.out; rw [List.take_length] at this; exact this, HKk.out⟩
end Go.Proofs.Ytlbijehgoiknjaa.Z
