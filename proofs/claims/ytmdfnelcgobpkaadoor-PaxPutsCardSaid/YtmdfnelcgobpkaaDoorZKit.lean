/- Small laws on worlds that the walks share: what a call keeps but for some blocks (Kp); cells and marks out of a block's row; rows that are read beside a state. -/
import Derived.Test.YtmdfnelcgobpkaaDoorProg
import Derived.Below
import Derived.Deep.Draws
import Derived.Deep.AppendLies
import Derived.Maps.AppendAt
import Derived.OwnWalk
import Derived.Laws.BytesArg
import Derived.Laws.MakeOwn
import Derived.Laws.OwnMore
import Derived.Deep.OwnRows
import Derived.Tactics
import Derived.Lib.ConvBytes
import Derived.Laws.Slices
import Derived.WalkKit
import Derived.KernelRfl
import Derived.RowKit3
import Derived.Deep.LoopGhost
import Derived.Deep.QuietTactic
import Derived.BigQuiet
import Derived.WideLaws
import Derived.Deep.DeepCutAuto
import Derived.Deep.CutBlock
import Derived.Deep.RegionHeld3
import Derived.Laws.Rows
import Derived.Lib.AppendStr
import Derived.ArgAppend
import Derived.Laws.IdiomCopy
import Derived.OrdersHeld
import Derived.Laws.BitsLemmas
import Derived.RowKit
import Derived.Defers
import Derived.Recover
import Derived.WalkLawsBesides
import Derived.WalkSpells
import Derived.Lib.Hide
import Derived.Outline
import Derived.Test.YtmdfnelcgobpkaaDoorWWords
import Derived.Test.YtmdfnelcgobpkaaDoorWLast
import Derived.Test.YtmdfnelcgobpkaaDoorWTab
import Derived.Test.YtmdfnelcgobpkaaDoorWFour
import Derived.Test.YtmdfnelcgobpkaaDoorWQPut
import Derived.Test.YtmdfnelcgobpkaaDoorWApart
import Derived.Test.YtmdfnelcgobpkaaDoorWArr
import Derived.Test.YtmdfnelcgobpkaaDoorWZeros
import Derived.Test.YtmdfnelcgobpkaaDoorWFoot
import Derived.Test.YtmdfnelcgobpkaaDoorWKept
import Derived.Test.YtmdfnelcgobpkaaDoorWShare
import Derived.Test.YtmdfnelcgobpkaaDoorWN
import Derived.Test.YtmdfnelcgobpkaaDoorWFootNe
import Derived.Test.YtmdfnelcgobpkaaDoorWAt
import Derived.Test.YtmdfnelcgobpkaaDoorWEqStruct
import Derived.Test.YtmdfnelcgobpkaaDoorWRepsOne
import Derived.Test.YtmdfnelcgobpkaaDoorWInv
import Derived.Test.YtmdfnelcgobpkaaDoorWInvWords
import Derived.Test.YtmdfnelcgobpkaaDoorWGuard
import Derived.Test.YtmdfnelcgobpkaaDoorWNEv
import Derived.Test.YtmdfnelcgobpkaaDoorWMore
import Derived.Test.YtmdfnelcgobpkaaDoorWSized
import Derived.StillTailTactics
set_option linter.unusedVariables false
set_option linter.unusedSimpArgs false
namespace Go.Proofs.YtmdfnelcgobpkaaDoor.Z
open Go.RowKit Go.Proofs.YtmdfnelcgobpkaaDoorW.PrintWords Go.Proofs.YtmdfnelcgobpkaaDoorW.PrintLast Go.Proofs.YtmdfnelcgobpkaaDoorW.PrintMore

/-- All is kept but for the blocks of S, and what is new. -/
structure Kp (S : List Nat) (w w' : World) : Prop where
  os : w'.os = w.os
  tape : w'.tape = w.tape
  output : w'.output = w.output
  size : w.heap.size ≤ w'.heap.size
  block : ∀ k, k < w.heap.size → k ∉ S → w'.heap[k]? = w.heap[k]?

namespace Kp
variable {S S' : List Nat} {w w1 w2 : World}
theorem refl (S : List Nat) (w : World) : Kp S w w := ⟨rfl, rfl, rfl, Nat.le_refl _, fun _ _ _ => rfl⟩
theorem then_ (h : Kp S w w1) (k : Kp S' w1 w2) (hs : ∀ x, x ∈ S' → x ∈ S ∨ w.heap.size ≤ x) : Kp S w w2 :=
  ⟨k.os.trans h.os, k.tape.trans h.tape, k.output.trans h.output, Nat.le_trans h.size k.size, fun i hi hn =>
    (k.block i (Nat.lt_of_lt_of_le hi h.size) (fun hm => by rcases hs i hm with h1 | h1; exact hn h1; omega)).trans (h.block i hi hn)⟩
theorem trans (h : Kp S w w1) (k : Kp S w1 w2) : Kp S w w2 := h.then_ k (fun _ hx => .inl hx)
theorem mono (h : Kp S w w1) (hs : ∀ x, x ∈ S → x ∈ S') : Kp S' w w1 := ⟨h.os, h.tape, h.output, h.size, fun i hi hn => h.block i hi (fun hm => hn (hs i hm))⟩
theorem of_below (h : Below w.heap.size w w1) (S : List Nat) : Kp S w w1 := ⟨h.os, h.tape, h.output, h.size, fun i hi _ => h.block i hi⟩
theorem below (h : Kp S w w1) (k : Below w1.heap.size w1 w2) : Kp S w w2 := h.then_ (of_below k []) (fun _ hx => by cases hx)
theorem alloc (h : Kp S w w1) (o : Obj) : Kp S w (w1.alloc o) := h.below (below_alloc (Below.refl _ _) o)
theorem drew (h : Kp S w w1) : Kp S w w1.drew := ⟨h.os, h.tape, h.output, h.size, h.block⟩
theorem drewN (h : Kp S w w1) (n : Nat) : Kp S w (w1.drewN n) := ⟨h.os, h.tape, h.output, h.size, h.block⟩
theorem setCell (h : Kp S w w1) {p : Addr} (hp : p.block ∈ S ∨ w.heap.size ≤ p.block) (u : Value) : Kp S w (w1.setCell p u) :=
  ⟨h.os, h.tape, h.output, by simpa [World.setCell] using h.size, fun i hi hn => (Below.heap_setCell w1 p u i (by
    rintro rfl
    rcases hp with hp | hp
    · exact hn hp
    · omega)).trans (h.block i hi hn)⟩
theorem grown {row : Option Nat} (h : Kp S w w1) (hg : w1.grownBy w2 row) (hr : ∀ k, row = some k → k ∈ S ∨ w.heap.size ≤ k) : Kp S w w2 :=
  ⟨hg.os.trans h.os, hg.tape.trans h.tape, hg.output.trans h.output, Nat.le_trans h.size hg.size, fun i hi hn =>
    (hg.block i (Nat.lt_of_lt_of_le hi h.size) (fun e => by rcases hr i e.symm with h1 | h1; exact hn h1; omega)).trans (h.block i hi hn)⟩
theorem to_below (h : Kp S w w1) {B : Nat} (hB : B ≤ w.heap.size) (hs : ∀ x, x ∈ S → B ≤ x) : Below B w w1 :=
  ⟨h.os, h.tape, h.output, h.size, fun k hk => h.block k (by omega) (fun hm => by have := hs k hm; omega)⟩
/-- From the world u on: what was made since counts as new. -/
theorem under {u : World} (hu : Below u.heap.size u w) (h : Kp S w w1) (hs : ∀ x, x ∈ S → u.heap.size ≤ x) : Below u.heap.size u w1 :=
  hu.trans (h.to_below hu.size hs)
theorem blk (h : Kp S w w1) {g : Nat} {o : Obj} (hb : w.heap[g]? = some o) (hn : g ∉ S) : w1.heap[g]? = some o := (h.block g (blk_lt hb) hn).trans hb
theorem cell (h : Kp S w w1) {a : Addr} {v : Value} (hc : w.cell? a = some v) (hn : a.block ∉ S) : w1.cell? a = some v :=
  (World.cell?_of_block (w := w) (h.block a.block (World.block_lt_of_cell? w a hc) hn)).trans hc
end Kp

theorem kp_new {w w1 : World} {S : List Nat} (h : Kp S w w1) {u : World} (hle : u.heap.size ≤ w.heap.size) (hs : ∀ x, x ∈ S → u.heap.size ≤ x) : Below u.heap.size w w1 := h.to_below hle hs

/-- A row of bytes that is read lies in no block that holds none. -/
theorem C_kp {k : IntKind} {w w1 : World} {S : List Nat} {A : Option Addr} {n : Nat} {l : List Int} (h : Kd.C (Kd.int k) w A n l) (hk : Kp S w w1)
    (hs : ∀ g, g ∈ S → ∀ o x, w.cell? ⟨g, o, none⟩ ≠ some (.int k x)) : Kd.C (Kd.int k) w1 A n l := by
  refine ⟨h.1, h.2.1, fun hn => ?_⟩
  obtain ⟨ad, e, hc⟩ := h.2.2 hn
  refine ⟨ad, e, fun j p hj => ?_⟩
  obtain ⟨c, hl, hK, hcell⟩ := hc j p hj
  refine ⟨c, hl, hK, fun i u hu => ?_⟩
  have h1 := hcell i u hu
  refine hk.cell h1 (fun hm => ?_)
  have hu' : u = .int k p := by
    have hK' : c = [.int k p] := hK
    rw [hK'] at hu
    rcases i with _ | i
    · simpa using hu.symm
    · simp at hu
  subst hu'
  generalize ad.add (j * (Kd.int k).sz + i) = q at h1 hm
  obtain ⟨b, o, s⟩ := q
  have hsp : s = none := by
    unfold World.cell? at h1
    split at h1
    · split at h1
      · cases h1
      · cases s with
        | none => rfl
        | some x => simp at *
    · cases h1
  subst hsp
  exact hs b hm o p h1

/-- A row that is read at the head of one block lives on where that block does. -/
theorem C_blk {α : Type} {enc : α → Value} {h1 : ∀ x, (enc x).oneCell' = true} {w w1 : World} {B n : Nat} {l : List α} (h : Kd.C (Kd.scalar enc h1) w (some ⟨B, 0, none⟩) n l) (hb : w1.heap[B]? = w.heap[B]?) : Kd.C (Kd.scalar enc h1) w1 (some ⟨B, 0, none⟩) n l := by
  refine ⟨h.1, h.2.1, fun hn => ?_⟩
  obtain ⟨ad, e, hc⟩ := h.2.2 hn
  obtain rfl : (⟨B, 0, none⟩ : Addr) = ad := by injection e
  refine ⟨_, rfl, fun j p hj => ?_⟩
  obtain ⟨c, hl, hK, hcell⟩ := hc j p hj
  refine ⟨c, hl, hK, fun i u hu => ?_⟩
  rw [← hcell i u hu]
  exact World.cell?_of_block (w := w) (by rw [add_plain]; exact hb)

theorem no_byte3 {k : IntKind} {w : World} {g : Nat} {t : TypeId} {v0 v1 v2 : Value} (hb : w.heap[g]? = some (.cells #[v0, v1, v2] t (0, 0))) (h0 : ∀ x, v0 ≠ .int k x) (h1 : ∀ x, v1 ≠ .int k x) (h2 : ∀ x, v2 ≠ .int k x) :
    ∀ o x, w.cell? ⟨g, o, none⟩ ≠ some (.int k x) := by
  intro o x
  rw [blk_cell hb]
  match o with
  | 0 => simpa using h0 x
  | 1 => simpa using h1 x
  | 2 => simpa using h2 x
  | o + 3 => simp

theorem blk_eq {w : World} {g : Nat} {t : TypeId} {cs cs' : Array Value} (h : w.heap[g]? = some (.cells cs t (0, 0))) (e : cs = cs') : w.heap[g]? = some (.cells cs' t (0, 0)) := e ▸ h
theorem blk_new' (w : World) (o : Obj) (n : Nat) (h : w.heap.size = n) : (w.alloc o).heap[n]? = some o := h ▸ blk_new w o
theorem below_undrew {w w1 : World} (h : Below w.drew.heap.size w.drew w1) : Below w.heap.size w w1 := ⟨h.os, h.tape, h.output, h.size, h.block⟩
theorem below_undrewN {w w1 : World} {n : Nat} (h : Below (w.drewN n).heap.size (w.drewN n) w1) : Below w.heap.size w w1 := ⟨h.os, h.tape, h.output, h.size, h.block⟩
theorem setCell_drewN (w : World) (a : Addr) (v : Value) (m : Nat) : (w.drewN m).setCell a v = (w.setCell a v).drewN m := rfl
/-- A region that draws: reads and quiet calls, then a forced tail from operation n on. -/
theorem region_tail {P : Program} {id : Nat} {Q : Exit → Act → World → Prop} {a : Act} {w : World} {l : List Oper} (n : Nat) (hm : P.follows .mixedOrders = true) (hB : Region.lexTailB .any l.toArray n = true)
    (h : wpStill P l.toArray w.drew (fun a' => wpList P l.toArray Q (l.drop n) a' w.drew) (l.take n) a) : (Code.region id l.toArray true).wp P Q a w := wp_region_still_tail n hm hB h
end Go.Proofs.YtmdfnelcgobpkaaDoor.Z
