/- Walks of package num: fail, at, read (with its deferred closure), Little: what each returns, over any memory in which the bytes are read. -/
import Derived.Test.YtlbijehgoiknjaaProg
import Derived.Below
import Derived.Deep.Draws
import Derived.Deep.AppendLies
import Derived.Maps.AppendAt
import Derived.OwnWalk
import Derived.Laws.BytesArg
import Derived.Laws.MakeOwn
import Derived.Laws.OwnMore
import Derived.Deep.OwnRows
import Derived.Tactics
import Derived.Lib.ConvBytes
import Derived.Laws.Slices
import Derived.WalkKit
import Derived.KernelRfl
import Derived.RowKit3
import Derived.Deep.LoopGhost
import Derived.Deep.QuietTactic
import Derived.BigQuiet
import Derived.WideLaws
import Derived.Deep.DeepCutAuto
import Derived.Deep.CutBlock
import Derived.Deep.RegionHeld3
import Derived.Laws.Rows
import Derived.Lib.AppendStr
import Derived.ArgAppend
import Derived.Laws.IdiomCopy
import Derived.OrdersHeld
import Derived.Laws.BitsLemmas
import Derived.RowKit
import Derived.Defers
import Derived.Recover
import Derived.WalkLawsBesides
import Derived.WalkSpells
import Derived.Lib.Hide
import Derived.Outline
import Derived.Test.YtlbijehgoiknjaaWWords
import Derived.Test.YtlbijehgoiknjaaWLast
import Derived.Test.YtlbijehgoiknjaaWTab
import Derived.Test.YtlbijehgoiknjaaWFour
import Derived.Test.YtlbijehgoiknjaaWQPut
import Derived.Test.YtlbijehgoiknjaaWApart
import Derived.Test.YtlbijehgoiknjaaWArr
import Derived.Test.YtlbijehgoiknjaaWZeros
import Derived.Test.YtlbijehgoiknjaaWFoot
import Derived.Test.YtlbijehgoiknjaaWKept
import Derived.Test.YtlbijehgoiknjaaWShare
import Derived.Test.YtlbijehgoiknjaaWN
import Derived.Test.YtlbijehgoiknjaaWFootNe
import Derived.Test.YtlbijehgoiknjaaWAt
import Derived.Test.YtlbijehgoiknjaaWEqStruct
import Derived.Test.YtlbijehgoiknjaaWRepsOne
import Derived.Test.YtlbijehgoiknjaaWInv
import Derived.Test.YtlbijehgoiknjaaWInvWords
import Derived.Test.YtlbijehgoiknjaaWGuard
import Derived.Test.YtlbijehgoiknjaaWNEv
import Derived.Test.YtlbijehgoiknjaaWMore
import Derived.Test.YtlbijehgoiknjaaWSized
set_option linter.unusedVariables false
set_option linter.unusedSimpArgs false
namespace Go.Proofs.Ytlbijehgoiknjaa.Z
open Go.RowKit Go.Proofs.YtlbijehgoiknjaaW.PrintWords Go.Proofs.YtlbijehgoiknjaaW.PrintLast Go.Proofs.YtlbijehgoiknjaaW.PrintMore

/-- What is thrown: an api.Fault of one code. -/
def fault (c : Int) : List PanicEntry := [{ v := .iface 106 (.agg #[.int .i64 c, .int .i64 0]), recovered := false }]
def caught (c : Int) : List PanicEntry := [{ v := .iface 106 (.agg #[.int .i64 c, .int .i64 0]), recovered := true }]

theorem hmf : ∀ (fn : Fn) (first cap : Array Value) (w : World), (Instr.makeFunc fn first cap).run Try.prog w = .ok (.func fn first cap) w := fun _ _ _ _ => rfl
theorem cell_alloc_lt {w : World} {a : Addr} {v : Value} (h : w.cell? a = some v) (o : Obj) : (w.alloc o).cell? a = some v := pw_cell_below (below_alloc (Below.refl _ _) o) h
theorem frozen_alloc_lt {w : World} {a : Addr} {v : Value} (hc : w.cell? a = some v) (h : w.frozen? a = false) (o : Obj) : (w.alloc o).frozen? a = false := (World.frozen?_of_block (w := w) (Below.heap_alloc _ _ _ (World.block_lt_of_cell? w _ hc))).trans h

theorem ta_nil (w : World) : (Instr.typeAssert Value.nilIface 20 106 true).run Try.prog w = .ok (.tuple #[.agg #[.int .i64 0, .int .i64 0], .bool false]) w := by kernel_rfl
theorem ta_fault (c : Int) (w : World) : (Instr.typeAssert (.iface 106 (.agg #[.int .i64 c, .int .i64 0])) 20 106 true).run Try.prog w = .ok (.tuple #[.agg #[.int .i64 c, .int .i64 0], .bool true]) w := by kernel_rfl
theorem lit12 (p q a b d e f g h : Value) : #[p, q] ++ (((((((Array.replicate 10 undef).setIfInBounds 3 a).setIfInBounds 4 b).setIfInBounds 2 h).setIfInBounds 5 d).setIfInBounds 6 e).setIfInBounds 0 f).setIfInBounds 1 g = #[p, q, f, g, h, a, b, d, e, undef, undef, undef] := by kernel_rfl

/-! ### fail -/
theorem fail_calls (c : Int) (w : World) :
    Calls Try.prog 60 #[.int .i64 c] w fun e w' => e = .panicked (fault c) ∧ w = w' := by
  go_enter Try.func60, Try.ntmps60
  go_wp2
  exact ⟨rfl, rfl, rfl⟩

/-! ### at -/
theorem at_in (A : Option Addr) (c : Nat) (l : List Int) (i : Int) (w : World) (hr : Kd.C (Kd.int .u8) w A l.length l) (h0 : 0 ≤ i) (h1 : i < l.length) :
    Calls Try.prog 61 #[.slice A l.length c, .int .i64 i] w fun e w' => e = .returned (.int .u8 (rd l i)) ∧ w = w' := by
  obtain ⟨ad, rfl, hx⟩ := Kd.at_int hr i h0 h1
  go_enter Try.func61, Try.ntmps61
  go_wp2_with fail
  go_ret
  exact ⟨rfl, rfl⟩

theorem at_out (A : Option Addr) (c : Nat) (l : List Int) (i : Int) (w : World) (h1 : i < 0 ∨ l.length ≤ i) :
    Calls Try.prog 61 #[.slice A l.length c, .int .i64 i] w fun e w' => e = .panicked (fault 5) ∧ w = w' := by
  by_cases h0 : i < 0
  · go_enter Try.func61, Try.ntmps61
    go_wp2_with (go_at_call 60; refine (fail_calls _ _).mono ?_; rintro e w' ⟨rfl, rfl⟩)
    exact ⟨rfl, rfl, rfl⟩
  · have h2 : (l.length : Int) ≤ i := by omega
    go_enter Try.func61, Try.ntmps61
    go_wp2_with (go_at_call 60; refine (fail_calls _ _).mono ?_; rintro e w' ⟨rfl, rfl⟩)
    exact ⟨rfl, rfl, rfl⟩

/-! ### read's deferred closure -/
set_option maxHeartbeats 400000 in
theorem read_idle (p q : Addr) (w : World) :
    CallsD Try.prog 59 #[.pointer (some p), .pointer (some q)] .returning w fun e u' w' => e = .returned (.tuple #[]) ∧ u' = .returning ∧ w' = w.alloc (.cells #[.int .i64 0, .int .i64 0] 106) := by
  refine callsD_of_wpS Try.func59 rfl fun c₀ cs hu => ?_
  have h1 := ta_nil
  apply wpS_seq
  apply wpS_region
  simp [wpOpsS, go_sem, recoverD, hu, Try.ntmps59, Exit.thenS, h1]
  refine wpS_of_wp ?_
  simp only [List.replicate, Array.replicate, List.toArray_replicate, Array.setIfInBounds]
  go_wp2
  cases c₀
  simp_all [bodyPostS, results, Try.results59]

set_option maxHeartbeats 400000 in
theorem read_catch (p q : Addr) (c x y : Int) (w : World) (hp : w.cell? p = some (.int .u64 x)) (hq : w.cell? q = some (.int .i64 y)) (fp : w.frozen? p = false) (fq : w.frozen? q = false) (hpq : ¬ p = q) :
    CallsD Try.prog 59 #[.pointer (some p), .pointer (some q)] (.panicking (fault c)) w fun e u' w' => e = .returned (.tuple #[]) ∧ u' = .panicking (caught c) ∧
      w' = (((w.alloc (.cells #[.int .i64 c, .int .i64 0] 106)).drew.setCell p (.int .u64 0)).setCell q (.int .i64 c)) := by
  refine callsD_of_wpS Try.func59 rfl fun c₀ cs hu => ?_
  have h1 := ta_fault c
  unfold fault at hu
  unfold caught
  apply wpS_seq
  apply wpS_region
  simp [wpOpsS, go_sem, recoverD, hu, Try.ntmps59, Exit.thenS, h1]
  have hp' := cell_alloc_lt hp (.cells #[.int .i64 c, .int .i64 0] 106)
  have hq' := cell_alloc_lt hq (.cells #[.int .i64 c, .int .i64 0] 106)
  have fp' := frozen_alloc_lt hp fp (.cells #[.int .i64 c, .int .i64 0] 106)
  have fq' := frozen_alloc_lt hq fq (.cells #[.int .i64 c, .int .i64 0] 106)
  have hn : (w.alloc (.cells #[.int .i64 c, .int .i64 0] 106)).cell? ⟨w.heap.size, 0, none⟩ = some (.int .i64 c) := by simp [go_sem]
  have hpn : ¬ p = ⟨w.heap.size, 0, none⟩ := by
    rintro rfl
    have := World.block_lt_of_cell? w _ hp
    simp at this
  clear hp hq fp fq
  generalize w.alloc (.cells #[.int .i64 c, .int .i64 0] 106) = W at *
  generalize (⟨w.heap.size, 0, none⟩ : Addr) = N at *
  have hpq' : ¬ q = p := fun e => hpq e.symm
  have hnp : ¬ N = p := fun e => hpn e.symm
  have hq2 : (W.drew.setCell p (.int .u64 0)).cell? q = some (.int .i64 y) := by rw [World.cell?_setCell_other _ _ _ _ hpq]; exact hq'
  have hn2 : (W.drew.setCell p (.int .u64 0)).cell? N = some (.int .i64 c) := by rw [World.cell?_setCell_other _ _ _ _ hpn]; exact hn
  refine wpS_of_wp ?_
  rw [lit12]
  have hQ : ∀ (Q : Exit → Act → World → Prop) (a : Act), a.defers = [] → Q = (fun e a' w' =>
      bodyPostS Try.prog Try.f59 c₀ cs
        (fun e u' w' => e = Ending.returned (Value.tuple #[]) ∧ u' = FrameMode.panicking [{ v := Value.iface 106 (Value.agg #[Value.int IntKind.i64 c, Value.int IntKind.i64 0]), recovered := true }] ∧ w' = ((W.setCell p (Value.int IntKind.u64 0)).setCell q (Value.int IntKind.i64 c)).drew)
        e a' ({ fn := c₀.fn, tmps := c₀.tmps, todo := c₀.todo, defers := c₀.defers, mode := FrameMode.panicking [{ v := Value.iface 106 (Value.agg #[Value.int IntKind.i64 c, Value.int IntKind.i64 0]), recovered := true }], kind := c₀.kind, roundOf := c₀.roundOf } :: cs) w') → Q .normal a ((W.setCell p (Value.int IntKind.u64 0)).setCell q (Value.int IntKind.i64 c)).drew := by
    rintro Q a ha rfl
    simp [bodyPostS, results, Try.results59, ha]
  generalize hQ' : (fun (e : Exit) (a' : Act) (w' : World) =>
      bodyPostS Try.prog Try.f59 c₀ cs
        (fun e u' w' => e = Ending.returned (Value.tuple #[]) ∧ u' = FrameMode.panicking [{ v := Value.iface 106 (Value.agg #[Value.int IntKind.i64 c, Value.int IntKind.i64 0]), recovered := true }] ∧ w' = ((W.setCell p (Value.int IntKind.u64 0)).setCell q (Value.int IntKind.i64 c)).drew)
        e a' ({ fn := c₀.fn, tmps := c₀.tmps, todo := c₀.todo, defers := c₀.defers, mode := FrameMode.panicking [{ v := Value.iface 106 (Value.agg #[Value.int IntKind.i64 c, Value.int IntKind.i64 0]), recovered := true }], kind := c₀.kind, roundOf := c₀.roundOf } :: cs) w') = Q
  have HQ : Hid (∀ (a : Act), a.defers = [] → Q .normal a ((W.setCell p (Value.int IntKind.u64 0)).setCell q (Value.int IntKind.i64 c)).drew) := fun a h => hQ Q a h hQ'.symm
  clear hQ hQ' h1 hu
  go_wp2
  go_region
  all_goals exact HQ.out _ rfl

/-! ### read -/
def vF (l : List Int) (from_ : Int) (f : Int → Int) : Nat → Int
  | 0 => 0
  | i + 1 => vF l from_ f i * 256 + rd l (from_ + f i)

/-- The way out by a panic: what read returns then. -/
theorem read_door (w : World) (c : Int) (t0 t1 t2 t3 u4 u5 u6 u7 u10 : Value) (ts : List Value) (x y : Int) :
    bodyPostD Try.prog Try.f57 (fun e w' => e = .returned (.tuple #[.int .u64 0, .int .i64 c]) ∧ Below w.heap.size w w') (.panic (fault c))
      { tmps := (t0 :: t1 :: t2 :: t3 :: u4 :: u5 :: u6 :: u7 :: .pointer (some ⟨w.heap.size, 0, none⟩) :: .pointer (some ⟨w.heap.size + 1, 0, none⟩) :: u10 :: ts).toArray,
        defers := [{ target := .fn (.func 59) #[.pointer (some ⟨w.heap.size, 0, none⟩), .pointer (some ⟨w.heap.size + 1, 0, none⟩)], args := #[] }] }
      ((w.alloc (.cells #[.int .u64 x] 55)).alloc (.cells #[.int .i64 y] 25)) := by
  refine leaves_cons (f := 59) (args := #[.pointer (some ⟨w.heap.size, 0, none⟩), .pointer (some ⟨w.heap.size + 1, 0, none⟩)]) (by simp) (by simp [go_sem]) ?_
  refine (read_catch ⟨w.heap.size, 0, none⟩ ⟨w.heap.size + 1, 0, none⟩ c x y _ ?_ ?_ ?_ ?_ ?_).mono ?_
  · simp [go_sem]
  · simp [go_sem]
  · simp [go_sem]
  · simp [go_sem]
  · simp
  rintro e u' w'' ⟨rfl, rfl, rfl⟩
  unfold caught
  simp [Leaves, settle, results, Try.results57, go_sem]
  repeat (first | exact Below.refl _ _ | apply below_alloc | apply pw_below_drewN | apply below_drew1)

set_option maxHeartbeats 400000 in
theorem read_arg (A : Option Addr) (c : Nat) (l : List Int) (from_ n : Int) (K : Nat) (caps : Array Value) (w : World) (h : n < 1 ∨ 8 < n) :
    Calls Try.prog 57 #[.slice A l.length c, .int .i64 from_, .int .i64 n, .func (.func K) #[] caps] w fun e w' => e = .returned (.tuple #[.int .u64 0, .int .i64 1]) ∧ Below w.heap.size w w' := by
  have hmf := hmf
  by_cases h0 : n < 1
  · go_enter_defers Try.func57, Try.ntmps57
    go_wp2_with (go_at_call 60; refine (fail_calls _ _).mono ?_; rintro e w' ⟨rfl, rfl⟩)
    exact read_door ..
  · have h1 : 8 < n := by omega
    go_enter_defers Try.func57, Try.ntmps57
    go_wp2_with (go_at_call 60; refine (fail_calls _ _).mono ?_; rintro e w' ⟨rfl, rfl⟩)
    exact read_door ..

set_option maxHeartbeats 400000 in
theorem read_short (A : Option Addr) (c : Nat) (l : List Int) (from_ n : Int) (K : Nat) (caps : Array Value) (w : World) (h1 : 1 ≤ n) (h8 : n ≤ 8) (hl : l.length ≤ 140737488351232) (h : from_ < 0 ∨ (l.length : Int) < from_ + n) :
    Calls Try.prog 57 #[.slice A l.length c, .int .i64 from_, .int .i64 n, .func (.func K) #[] caps] w fun e w' => e = .returned (.tuple #[.int .u64 0, .int .i64 5]) ∧ Below w.heap.size w w' := by
  have hmf := hmf
  by_cases h0 : from_ < 0
  · go_enter_defers Try.func57, Try.ntmps57
    go_wp2_with (go_at_call 60; refine (fail_calls _ _).mono ?_; rintro e w' ⟨rfl, rfl⟩)
    exact read_door ..
  · by_cases h2 : (l.length : Int) < from_
    · go_enter_defers Try.func57, Try.ntmps57
      go_wp2_with (go_at_call 60; refine (fail_calls _ _).mono ?_; rintro e w' ⟨rfl, rfl⟩)
      exact read_door ..
    · have h3 : (l.length : Int) ≤ from_ + n - 1 := by omega
      go_enter_defers Try.func57, Try.ntmps57
      go_wp2_with (go_at_call 61; refine (at_out _ _ _ _ _ (Or.inr (by omega))).mono ?_; rintro e w' ⟨rfl, rfl⟩)
      exact read_door ..
end Go.Proofs.Ytlbijehgoiknjaa.Z
