/- Walk of package zipdir's (*reader).numbers: numbers of n bytes each, laid where pointers lead. -/
import Derived.Test.YtlbijehgoiknjaaZReader
set_option linter.unusedVariables false
set_option linter.unusedSimpArgs false
namespace Go.Proofs.Ytlbijehgoiknjaa.Z
open Go.RowKit Go.Proofs.YtlbijehgoiknjaaW.PrintWords Go.Proofs.YtlbijehgoiknjaaW.PrintLast Go.Proofs.YtlbijehgoiknjaaW.PrintMore

/-- numbers: the first k numbers, and the state behind them. -/
def numsF (l : List Int) (s : RS) (n : Int) : Nat → List Int × RS
  | 0 => ([], s)
  | k + 1 => ((numsF l s n k).1 ++ [(numF l (numsF l s n k).2 n).1], (numF l (numsF l s n k).2 n).2)
theorem numsF_length (l : List Int) (s : RS) (n : Int) : ∀ k, (numsF l s n k).1.length = k
  | 0 => rfl
  | k + 1 => by simp [numsF, numsF_length l s n k]

/-- A world in which numbers have been laid at places, one behind the other. -/
def setAll (w : World) (ts : List Addr) (vs : List Int) : World := (ts.zip vs).foldl (fun w p => w.setCell p.1 (.int .i64 p.2)) w
theorem setAll_snoc (w : World) (ts : List Addr) (vs : List Int) (t : Addr) (v : Int) (h : ts.length = vs.length) : setAll w (ts ++ [t]) (vs ++ [v]) = (setAll w ts vs).setCell t (.int .i64 v) := by
  unfold setAll
  rw [List.zip_append h, List.foldl_append]
  rfl

theorem cell_setInt {w : World} {t p : Addr} {v : Int} (h : ∃ x, w.cell? t = some (.int .i64 x)) : ∃ x, (w.setCell p (.int .i64 v)).cell? t = some (.int .i64 x) := by
  by_cases e : p = t
  · subst e
    obtain ⟨x, hx⟩ := h
    exact ⟨v, World.cell?_setCell_same _ _ _ hx⟩
  · obtain ⟨x, hx⟩ := h
    exact ⟨x, by rw [World.cell?_setCell_other _ _ _ _ e]; exact hx⟩
/-- What numbers are laid over keeps: each such place holds a number still, no mark turns, no block goes, what holds none is as it was. -/
structure Over (w w1 : World) : Prop where
  os : w1.os = w.os
  tape : w1.tape = w.tape
  output : w1.output = w.output
  size : w1.heap.size = w.heap.size
  ints : ∀ t x, w.cell? t = some (.int .i64 x) → ∃ y, w1.cell? t = some (.int .i64 y)
  frozen : ∀ t, w1.frozen? t = w.frozen? t
  others : ∀ t v, w.cell? t = some v → (∀ x, v ≠ .int .i64 x) → w1.cell? t = some v
theorem Over.refl (w : World) : Over w w := ⟨rfl, rfl, rfl, rfl, fun _ x h => ⟨x, h⟩, fun _ => rfl, fun _ _ h _ => h⟩
theorem Over.step {w w1 : World} (h : Over w w1) {p : Addr} {x0 : Int} (hp : w.cell? p = some (.int .i64 x0)) (v : Int) : Over w (w1.setCell p (.int .i64 v)) := by
  refine ⟨h.os, h.tape, h.output, by simpa [World.setCell] using h.size, fun t x ht => cell_setInt (h.ints t x ht), fun t => (World.frozen?_setCell _ _ _ _).trans (h.frozen t), fun t v' ht hv => ?_⟩
  have e : ¬ p = t := by
    rintro rfl
    rw [hp] at ht
    injection ht with ht
    exact hv x0 ht.symm
  rw [World.cell?_setCell_other _ _ _ _ e]
  exact h.others t v' ht hv
theorem over_setAll (w : World) : ∀ (ts : List Addr) (vs : List Int) (w1 : World), Over w w1 → (∀ t, t ∈ ts → ∃ x, w.cell? t = some (.int .i64 x)) → Over w (setAll w1 ts vs)
  | [], _, _, h, _ => h
  | _ :: _, [], _, h, _ => h
  | t :: ts, v :: vs, w1, h, ht => by
    obtain ⟨x, hx⟩ := ht t List.mem_cons_self
    exact over_setAll w ts vs (w1.setCell t (.int .i64 v)) (h.step hx v) (fun t' h' => ht t' (List.mem_cons_of_mem _ h'))
theorem heap_setAll (g : Nat) : ∀ (ts : List Addr) (vs : List Int) (w : World), (∀ t, t ∈ ts → t.block ≠ g) → (setAll w ts vs).heap[g]? = w.heap[g]?
  | [], _, _, _ => rfl
  | _ :: _, [], _, _ => rfl
  | t :: ts, v :: vs, w, h => by
    have h1 := heap_setAll g ts vs (w.setCell t (.int .i64 v)) (fun t' h' => h t' (List.mem_cons_of_mem _ h'))
    exact h1.trans (Below.heap_setCell w t _ g (Ne.symm (h t List.mem_cons_self)))
theorem C_over {w w1 : World} {A : Option Addr} {n : Nat} {l : List Int} (h : Kd.C (Kd.int .u8) w A n l) (ho : Over w w1) : Kd.C (Kd.int .u8) w1 A n l := by
  refine ⟨h.1, h.2.1, fun hn => ?_⟩
  obtain ⟨ad, e, hc⟩ := h.2.2 hn
  refine ⟨ad, e, fun j p hj => ?_⟩
  obtain ⟨c, hl, hK, hcell⟩ := hc j p hj
  refine ⟨c, hl, hK, fun i u hu => ho.others _ u (hcell i u hu) (fun x => ?_)⟩
  have hK' : c = [.int .u8 p] := hK
  rw [hK'] at hu
  rcases i with _ | i
  · have : u = .int .u8 p := by simpa using hu.symm
    rw [this]
    simp
  · simp at hu
/-- A row of pointers. -/
theorem ptrs_at {w : World} {b : Nat} {T : TypeId} {ts : List Addr} (h : w.heap[b]? = some (.cells (ts.map (fun t => Value.pointer (some t))).toArray T (0, 0))) : ∀ j t, ts[j]? = some t → w.cell? ⟨b, j, none⟩ = some (.pointer (some t)) := by
  intro j t hj
  rw [blk_cell h]
  simp [hj]
/-- A store on both sides. -/
theorem Kp.both {S : List Nat} {w w1 : World} (h : Kp S w w1) (p : Addr) (u : Value) : Kp S (w.setCell p u) (w1.setCell p u) := by
  refine ⟨h.os, h.tape, h.output, by simpa [World.setCell] using h.size, fun k hk hn => ?_⟩
  have hk' : k < w.heap.size := by simpa [World.setCell] using hk
  by_cases e : k = p.block
  · have := h.block k hk' hn
    simp only [World.setCell, Array.getElem?_modify, this]
  · rw [Below.heap_setCell _ _ _ _ e, Below.heap_setCell _ _ _ _ e]
    exact h.block k hk' hn

set_option maxHeartbeats 1000000 in
set_option maxRecDepth 100000 in
theorem numbers_calls (g b : Nat) (A : Option Addr) (c cto : Nat) (l : List Int) (s : RS) (n : Int) (ts : List Addr) (w : World) (hS : RdS w g A l.length c s.at_ s.bad) (hr : Kd.C (Kd.int .u8) w A l.length l) (hb : ∀ x ∈ l, 0 ≤ x ∧ x < 256) (hl : l.length ≤ 140737488351232) (hn : 0 ≤ n) (hn8 : n ≤ 8)
    (hto : ∀ j t, ts[j]? = some t → w.cell? ⟨b, j, none⟩ = some (.pointer (some t))) (ht : ∀ t, t ∈ ts → (∃ x, w.cell? t = some (.int .i64 x)) ∧ w.frozen? t = false ∧ t.block ≠ g) (hbg : b ≠ g) (hsz : ts.length ≤ 1000) :
    Calls Try.prog 24 #[.pointer (some ⟨g, 0, none⟩), .int .i64 n, .slice (some ⟨b, 0, none⟩) ts.length cto] w fun e w' => e = .returned (.tuple #[]) ∧ RdS w' g A l.length c (numsF l s n ts.length).2.at_ (numsF l s n ts.length).2.bad ∧ Kp [g] (setAll w ts (numsF l s n ts.length).1) w' := by
  have HB := Lib.hid hb
  have HR := Lib.hid hr
  have HS := Lib.hid hS
  have HTO := Lib.hid hto
  have HT := Lib.hid ht
  clear hb hr hS hto ht
  go_enter Try.func24, Try.ntmps24
  go_wp2_with fail
  go_loopw [10] (fun t wr => ∃ k : Nat, k ≤ ts.length ∧ t = .int .i64 k ∧ RdS wr g A l.length c (numsF l s n k).2.at_ (numsF l s n k).2.bad ∧ Kp [g] (setAll w (ts.take k) (numsF l s n k).1) wr) (fun t _ => ts.length - (intOf t).toNat)
  case atStart => exact ⟨0, by omega, rfl, HS.out, Kp.refl _ _⟩
  case round =>
    obtain ⟨k, hk, rfl, hSk, hKk⟩ := hrel
    have HSk := Lib.hid hSk
    have HKk := Lib.hid hKk
    clear hSk hKk
    by_cases hlt : k < ts.length
    · obtain ⟨t, het⟩ : ∃ t, ts[k]? = some t := ⟨_, List.getElem?_eq_getElem hlt⟩
      have hmem : t ∈ ts := List.mem_of_getElem? het
      obtain ⟨⟨x0, hx0⟩, hfz, htg⟩ := HT.out t hmem
      have hO := over_setAll w (ts.take k) (numsF l s n k).1 w (Over.refl w) (fun t' h' => (HT.out t' (List.mem_of_mem_take h')).1)
      obtain ⟨x1, hx1⟩ := hO.ints t x0 hx0
      have hcell : wr.cell? ⟨b, k, none⟩ = some (.pointer (some t)) := HKk.out.cell (hO.others _ _ (HTO.out k t het) (fun x => by simp)) (by simpa using hbg)
      have hblk : (setAll w (ts.take k) (numsF l s n k).1).heap[g]? = _ := (heap_setAll g (ts.take k) (numsF l s n k).1 w (fun t' h' => (HT.out t' (List.mem_of_mem_take h')).2.2)).trans HS.out
      have HC := Lib.hid (C_kp (C_over HR.out hO) HKk.out (fun g' hg' => by
        obtain rfl : g' = g := by simpa using hg'
        exact no_byte3 hblk (by simp) (by simp) (by simp)))
      have hwt : wr.cell? t = some (.int .i64 x1) := HKk.out.cell hx1 (by simpa using htg)
      have hwf : wr.frozen? t = false := by
        have h1 := HKk.out.block t.block (World.block_lt_of_cell? _ t hx1) (by simpa using htg)
        rw [World.frozen?_of_block h1, hO.frozen t]
        exact hfz
      have hbb : wr.cell? ⟨b, k, none⟩ = some (.pointer (some t)) := hcell
      have HO := Lib.hid hO
      have HE := Lib.hid (show ts.take (k + 1) = ts.take k ++ [t] from by rw [List.take_add_one, het]; rfl)
      clear hblk hO hx0 hx1 hmem het hcell
      have hk0 : (0 : Int) ≤ (k : Int) := Int.natCast_nonneg k
      have hk1 : (k : Int) < (ts.length : Int) := by omega
      go_wp2_with fail
      refine (number_calls g A c l (numsF l s n k).2 n _ HSk.out HC.out HB.out hl hn hn8).mono ?_
      rintro e w1 ⟨rfl, hS1, hK1⟩
      have h1t : w1.cell? t = some (.int .i64 x1) := hK1.cell hwt (by simpa using htg)
      have h1f : w1.frozen? t = false := by
        rw [World.frozen?_of_block (hK1.block t.block (World.block_lt_of_cell? _ t hwt) (by simpa using htg))]
        exact hwf
      have HS1 := Lib.hid hS1
      have HK1 := Lib.hid hK1
      clear hS1 hK1
      go_wp2
      go_roundw
      case rel =>
        refine ⟨k + 1, by omega, by go_num, blk_far HS1.out (Ne.symm htg) _, ?_⟩
        rw [HE.out, show (numsF l s n (k + 1)).1 = (numsF l s n k).1 ++ [(numF l (numsF l s n k).2 n).1] from rfl, setAll_snoc _ _ _ _ _ (by rw [numsF_length, List.length_take]; omega)]
        exact (HKk.out.trans HK1.out).both t _
      case measure => simp [intOf]; omega
    · have hkn : k = ts.length := by omega
      subst hkn
      go_wp2
      go_end0
      exact ⟨rfl, HSk.out, by rw [List.take_length] at HKk; exact HKk.out⟩
end Go.Proofs.Ytlbijehgoiknjaa.Z
