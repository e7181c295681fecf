/- Walks of package num: read where it returns a number; Little. -/
import Derived.Test.YtlbijehgoiknjaaProg
import Derived.Below
import Derived.Deep.Draws
import Derived.Deep.AppendLies
import Derived.Maps.AppendAt
import Derived.OwnWalk
import Derived.Laws.BytesArg
import Derived.Laws.MakeOwn
import Derived.Laws.OwnMore
import Derived.Deep.OwnRows
import Derived.Tactics
import Derived.Lib.ConvBytes
import Derived.Laws.Slices
import Derived.WalkKit
import Derived.KernelRfl
import Derived.RowKit3
import Derived.Deep.LoopGhost
import Derived.Deep.QuietTactic
import Derived.BigQuiet
import Derived.WideLaws
import Derived.Deep.DeepCutAuto
import Derived.Deep.CutBlock
import Derived.Deep.RegionHeld3
import Derived.Laws.Rows
import Derived.Lib.AppendStr
import Derived.ArgAppend
import Derived.Laws.IdiomCopy
import Derived.OrdersHeld
import Derived.Laws.BitsLemmas
import Derived.RowKit
import Derived.Defers
import Derived.Recover
import Derived.WalkLawsBesides
import Derived.WalkSpells
import Derived.Lib.Hide
import Derived.Outline
import Derived.Test.YtlbijehgoiknjaaWWords
import Derived.Test.YtlbijehgoiknjaaWLast
import Derived.Test.YtlbijehgoiknjaaWTab
import Derived.Test.YtlbijehgoiknjaaWFour
import Derived.Test.YtlbijehgoiknjaaWQPut
import Derived.Test.YtlbijehgoiknjaaWApart
import Derived.Test.YtlbijehgoiknjaaWArr
import Derived.Test.YtlbijehgoiknjaaWZeros
import Derived.Test.YtlbijehgoiknjaaWFoot
import Derived.Test.YtlbijehgoiknjaaWKept
import Derived.Test.YtlbijehgoiknjaaWShare
import Derived.Test.YtlbijehgoiknjaaWN
import Derived.Test.YtlbijehgoiknjaaWFootNe
import Derived.Test.YtlbijehgoiknjaaWAt
import Derived.Test.YtlbijehgoiknjaaWEqStruct
import Derived.Test.YtlbijehgoiknjaaWRepsOne
import Derived.Test.YtlbijehgoiknjaaWInv
import Derived.Test.YtlbijehgoiknjaaWInvWords
import Derived.Test.YtlbijehgoiknjaaWGuard
import Derived.Test.YtlbijehgoiknjaaWNEv
import Derived.Test.YtlbijehgoiknjaaWMore
import Derived.Test.YtlbijehgoiknjaaWSized
import Derived.Test.YtlbijehgoiknjaaZKit
set_option linter.unusedVariables false
set_option linter.unusedSimpArgs false
namespace Go.Proofs.Ytlbijehgoiknjaa.Z
open Go.RowKit Go.Proofs.YtlbijehgoiknjaaW.PrintWords Go.Proofs.YtlbijehgoiknjaaW.PrintLast Go.Proofs.YtlbijehgoiknjaaW.PrintMore

/-- What is thrown: an api.Fault of one code. -/
def fault (c : Int) : List PanicEntry := [{ v := .iface 106 (.agg #[.int .i64 c, .int .i64 0]), recovered := false }]
def caught (c : Int) : List PanicEntry := [{ v := .iface 106 (.agg #[.int .i64 c, .int .i64 0]), recovered := true }]

theorem hmf : ∀ (fn : Fn) (first cap : Array Value) (w : World), (Instr.makeFunc fn first cap).run Try.prog w = .ok (.func fn first cap) w := fun _ _ _ _ => rfl
theorem cell_alloc_lt {w : World} {a : Addr} {v : Value} (h : w.cell? a = some v) (o : Obj) : (w.alloc o).cell? a = some v := pw_cell_below (below_alloc (Below.refl _ _) o) h
theorem frozen_alloc_lt {w : World} {a : Addr} {v : Value} (hc : w.cell? a = some v) (h : w.frozen? a = false) (o : Obj) : (w.alloc o).frozen? a = false := (World.frozen?_of_block (w := w) (Below.heap_alloc _ _ _ (World.block_lt_of_cell? w _ hc))).trans h

theorem ta_nil (w : World) : (Instr.typeAssert Value.nilIface 20 106 true).run Try.prog w = .ok (.tuple #[.agg #[.int .i64 0, .int .i64 0], .bool false]) w := by kernel_rfl
theorem ta_fault (c : Int) (w : World) : (Instr.typeAssert (.iface 106 (.agg #[.int .i64 c, .int .i64 0])) 20 106 true).run Try.prog w = .ok (.tuple #[.agg #[.int .i64 c, .int .i64 0], .bool true]) w := by kernel_rfl
theorem lit12 (p q a b d e f g h : Value) : #[p, q] ++ (((((((Array.replicate 10 undef).setIfInBounds 3 a).setIfInBounds 4 b).setIfInBounds 2 h).setIfInBounds 5 d).setIfInBounds 6 e).setIfInBounds 0 f).setIfInBounds 1 g = #[p, q, f, g, h, a, b, d, e, undef, undef, undef] := by kernel_rfl

/-! ### fail -/
theorem fail_calls (c : Int) (w : World) :
    Calls Try.prog 60 #[.int .i64 c] w fun e w' => e = .panicked (fault c) ∧ w = w' := by
  go_enter Try.func60, Try.ntmps60
  go_wp2
  exact ⟨rfl, rfl, rfl⟩

/-! ### at -/
theorem at_in (A : Option Addr) (c : Nat) (l : List Int) (i : Int) (w : World) (hr : Kd.C (Kd.int .u8) w A l.length l) (h0 : 0 ≤ i) (h1 : i < l.length) :
    Calls Try.prog 61 #[.slice A l.length c, .int .i64 i] w fun e w' => e = .returned (.int .u8 (rd l i)) ∧ w = w' := by
  obtain ⟨ad, rfl, hx⟩ := Kd.at_int hr i h0 h1
  go_enter Try.func61, Try.ntmps61
  go_wp2_with fail
  go_ret
  exact ⟨rfl, rfl⟩

theorem at_out (A : Option Addr) (c : Nat) (l : List Int) (i : Int) (w : World) (h1 : i < 0 ∨ l.length ≤ i) :
    Calls Try.prog 61 #[.slice A l.length c, .int .i64 i] w fun e w' => e = .panicked (fault 5) ∧ w = w' := by
  by_cases h0 : i < 0
  · go_enter Try.func61, Try.ntmps61
    go_wp2_with (go_at_call 60; refine (fail_calls _ _).mono ?_; rintro e w' ⟨rfl, rfl⟩)
    exact ⟨rfl, rfl, rfl⟩
  · have h2 : (l.length : Int) ≤ i := by omega
    go_enter Try.func61, Try.ntmps61
    go_wp2_with (go_at_call 60; refine (fail_calls _ _).mono ?_; rintro e w' ⟨rfl, rfl⟩)
    exact ⟨rfl, rfl, rfl⟩

/-! ### read's deferred closure -/
set_option maxHeartbeats 400000 in
theorem read_idle (p q : Addr) (w : World) :
    CallsD Try.prog 59 #[.pointer (some p), .pointer (some q)] .returning w fun e u' w' => e = .returned (.tuple #[]) ∧ u' = .returning ∧ w' = w.alloc (.cells #[.int .i64 0, .int .i64 0] 106) := by
  refine callsD_of_wpS Try.func59 rfl fun c₀ cs hu => ?_
  have h1 := ta_nil
  apply wpS_seq
  apply wpS_region
  simp [wpOpsS, go_sem, recoverD, hu, Try.ntmps59, Exit.thenS, h1]
  refine wpS_of_wp ?_
  simp only [List.replicate, Array.replicate, List.toArray_replicate, Array.setIfInBounds]
  go_wp2
  cases c₀
  simp_all [bodyPostS, results, Try.results59]

set_option maxHeartbeats 400000 in
theorem read_catch (p q : Addr) (c x y : Int) (w : World) (hp : w.cell? p = some (.int .u64 x)) (hq : w.cell? q = some (.int .i64 y)) (fp : w.frozen? p = false) (fq : w.frozen? q = false) (hpq : ¬ p = q) :
    CallsD Try.prog 59 #[.pointer (some p), .pointer (some q)] (.panicking (fault c)) w fun e u' w' => e = .returned (.tuple #[]) ∧ u' = .panicking (caught c) ∧
      w' = (((w.alloc (.cells #[.int .i64 c, .int .i64 0] 106)).drew.setCell p (.int .u64 0)).setCell q (.int .i64 c)) := by
  refine callsD_of_wpS Try.func59 rfl fun c₀ cs hu => ?_
  have h1 := ta_fault c
  unfold fault at hu
  unfold caught
  apply wpS_seq
  apply wpS_region
  simp [wpOpsS, go_sem, recoverD, hu, Try.ntmps59, Exit.thenS, h1]
  have hp' := cell_alloc_lt hp (.cells #[.int .i64 c, .int .i64 0] 106)
  have hq' := cell_alloc_lt hq (.cells #[.int .i64 c, .int .i64 0] 106)
  have fp' := frozen_alloc_lt hp fp (.cells #[.int .i64 c, .int .i64 0] 106)
  have fq' := frozen_alloc_lt hq fq (.cells #[.int .i64 c, .int .i64 0] 106)
  have hn : (w.alloc (.cells #[.int .i64 c, .int .i64 0] 106)).cell? ⟨w.heap.size, 0, none⟩ = some (.int .i64 c) := by simp [go_sem]
  have hpn : ¬ p = ⟨w.heap.size, 0, none⟩ := by
    rintro rfl
    have := World.block_lt_of_cell? w _ hp
    simp at this
  clear hp hq fp fq
  generalize w.alloc (.cells #[.int .i64 c, .int .i64 0] 106) = W at *
  generalize (⟨w.heap.size, 0, none⟩ : Addr) = N at *
  have hpq' : ¬ q = p := fun e => hpq e.symm
  have hnp : ¬ N = p := fun e => hpn e.symm
  have hq2 : (W.drew.setCell p (.int .u64 0)).cell? q = some (.int .i64 y) := by rw [World.cell?_setCell_other _ _ _ _ hpq]; exact hq'
  have hn2 : (W.drew.setCell p (.int .u64 0)).cell? N = some (.int .i64 c) := by rw [World.cell?_setCell_other _ _ _ _ hpn]; exact hn
  refine wpS_of_wp ?_
  rw [lit12]
  have hQ : ∀ (Q : Exit → Act → World → Prop) (a : Act), a.defers = [] → Q = (fun e a' w' =>
      bodyPostS Try.prog Try.f59 c₀ cs
        (fun e u' w' => e = Ending.returned (Value.tuple #[]) ∧ u' = FrameMode.panicking [{ v := Value.iface 106 (Value.agg #[Value.int IntKind.i64 c, Value.int IntKind.i64 0]), recovered := true }] ∧ w' = ((W.setCell p (Value.int IntKind.u64 0)).setCell q (Value.int IntKind.i64 c)).drew)
        e a' ({ fn := c₀.fn, tmps := c₀.tmps, todo := c₀.todo, defers := c₀.defers, mode := FrameMode.panicking [{ v := Value.iface 106 (Value.agg #[Value.int IntKind.i64 c, Value.int IntKind.i64 0]), recovered := true }], kind := c₀.kind, roundOf := c₀.roundOf } :: cs) w') → Q .normal a ((W.setCell p (Value.int IntKind.u64 0)).setCell q (Value.int IntKind.i64 c)).drew := by
    rintro Q a ha rfl
    simp [bodyPostS, results, Try.results59, ha]
  generalize hQ' : (fun (e : Exit) (a' : Act) (w' : World) =>
      bodyPostS Try.prog Try.f59 c₀ cs
        (fun e u' w' => e = Ending.returned (Value.tuple #[]) ∧ u' = FrameMode.panicking [{ v := Value.iface 106 (Value.agg #[Value.int IntKind.i64 c, Value.int IntKind.i64 0]), recovered := true }] ∧ w' = ((W.setCell p (Value.int IntKind.u64 0)).setCell q (Value.int IntKind.i64 c)).drew)
        e a' ({ fn := c₀.fn, tmps := c₀.tmps, todo := c₀.todo, defers := c₀.defers, mode := FrameMode.panicking [{ v := Value.iface 106 (Value.agg #[Value.int IntKind.i64 c, Value.int IntKind.i64 0]), recovered := true }], kind := c₀.kind, roundOf := c₀.roundOf } :: cs) w') = Q
  have HQ : Hid (∀ (a : Act), a.defers = [] → Q .normal a ((W.setCell p (Value.int IntKind.u64 0)).setCell q (Value.int IntKind.i64 c)).drew) := fun a h => hQ Q a h hQ'.symm
  clear hQ hQ' h1 hu
  go_wp2
  go_region
  all_goals exact HQ.out _ rfl

/-! ### read -/
def vF (l : List Int) (from_ : Int) (f : Int → Int) : Nat → Int
  | 0 => 0
  | i + 1 => vF l from_ f i * 256 + rd l (from_ + f i)

/-- The way out by a panic: what read returns then. -/
theorem read_door (w : World) (c : Int) (t0 t1 t2 t3 u4 u5 u6 u7 u10 : Value) (ts : List Value) (x y : Int) :
    bodyPostD Try.prog Try.f57 (fun e w' => e = .returned (.tuple #[.int .u64 0, .int .i64 c]) ∧ Below w.heap.size w w') (.panic (fault c))
      { tmps := (t0 :: t1 :: t2 :: t3 :: u4 :: u5 :: u6 :: u7 :: .pointer (some ⟨w.heap.size, 0, none⟩) :: .pointer (some ⟨w.heap.size + 1, 0, none⟩) :: u10 :: ts).toArray,
        defers := [{ target := .fn (.func 59) #[.pointer (some ⟨w.heap.size, 0, none⟩), .pointer (some ⟨w.heap.size + 1, 0, none⟩)], args := #[] }] }
      ((w.alloc (.cells #[.int .u64 x] 55)).alloc (.cells #[.int .i64 y] 25)) := by
  refine leaves_cons (f := 59) (args := #[.pointer (some ⟨w.heap.size, 0, none⟩), .pointer (some ⟨w.heap.size + 1, 0, none⟩)]) (by simp) (by simp [go_sem]) ?_
  refine (read_catch ⟨w.heap.size, 0, none⟩ ⟨w.heap.size + 1, 0, none⟩ c x y _ ?_ ?_ ?_ ?_ ?_).mono ?_
  · simp [go_sem]
  · simp [go_sem]
  · simp [go_sem]
  · simp [go_sem]
  · simp
  rintro e u' w'' ⟨rfl, rfl, rfl⟩
  unfold caught
  simp [Leaves, settle, results, Try.results57, go_sem]
  repeat (first | exact Below.refl _ _ | apply below_alloc | apply pw_below_drewN | apply below_drew1)

set_option maxHeartbeats 400000 in
theorem read_arg (A : Option Addr) (c : Nat) (l : List Int) (from_ n : Int) (K : Nat) (caps : Array Value) (w : World) (h : n < 1 ∨ 8 < n) :
    Calls Try.prog 57 #[.slice A l.length c, .int .i64 from_, .int .i64 n, .func (.func K) #[] caps] w fun e w' => e = .returned (.tuple #[.int .u64 0, .int .i64 1]) ∧ Below w.heap.size w w' := by
  have hmf := hmf
  by_cases h0 : n < 1
  · go_enter_defers Try.func57, Try.ntmps57
    go_wp2_with (go_at_call 60; refine (fail_calls _ _).mono ?_; rintro e w' ⟨rfl, rfl⟩)
    exact read_door ..
  · have h1 : 8 < n := by omega
    go_enter_defers Try.func57, Try.ntmps57
    go_wp2_with (go_at_call 60; refine (fail_calls _ _).mono ?_; rintro e w' ⟨rfl, rfl⟩)
    exact read_door ..

set_option maxHeartbeats 400000 in
theorem read_short (A : Option Addr) (c : Nat) (l : List Int) (from_ n : Int) (K : Nat) (caps : Array Value) (w : World) (h1 : 1 ≤ n) (h8 : n ≤ 8) (hl : l.length ≤ 140737488351232) (h : from_ < 0 ∨ (l.length : Int) < from_ + n) :
    Calls Try.prog 57 #[.slice A l.length c, .int .i64 from_, .int .i64 n, .func (.func K) #[] caps] w fun e w' => e = .returned (.tuple #[.int .u64 0, .int .i64 5]) ∧ Below w.heap.size w w' := by
  have hmf := hmf
  by_cases h0 : from_ < 0
  · go_enter_defers Try.func57, Try.ntmps57
    go_wp2_with (go_at_call 60; refine (fail_calls _ _).mono ?_; rintro e w' ⟨rfl, rfl⟩)
    exact read_door ..
  · by_cases h2 : (l.length : Int) < from_
    · go_enter_defers Try.func57, Try.ntmps57
      go_wp2_with (go_at_call 60; refine (fail_calls _ _).mono ?_; rintro e w' ⟨rfl, rfl⟩)
      exact read_door ..
    · have h3 : (l.length : Int) ≤ from_ + n - 1 := by omega
      go_enter_defers Try.func57, Try.ntmps57
      go_wp2_with (go_at_call 61; refine (at_out _ _ _ _ _ (Or.inr (by omega))).mono ?_; rintro e w' ⟨rfl, rfl⟩)
      exact read_door ..
end Go.Proofs.Ytlbijehgoiknjaa.Z
set_option linter.unusedVariables false
set_option linter.unusedSimpArgs false
namespace Go.Proofs.Ytlbijehgoiknjaa.Z
open Go.RowKit Go.Proofs.YtlbijehgoiknjaaW.PrintWords Go.Proofs.YtlbijehgoiknjaaW.PrintLast Go.Proofs.YtlbijehgoiknjaaW.PrintMore

theorem rd_byte {l : List Int} (hb : ∀ x ∈ l, 0 ≤ x ∧ x < 256) {i : Int} (h0 : 0 ≤ i) (h1 : i < l.length) : 0 ≤ rd l i ∧ rd l i < 256 := by
  refine hb _ ?_
  unfold rd
  rw [List.getD_eq_getElem?_getD, List.getElem?_eq_getElem (by omega)]
  exact List.getElem_mem _
theorem pow_seven {v : Int} {k : Nat} (h : v < 256 ^ k) (hk : k ≤ 7) : v < 72057594037927936 := by
  have h1 : ((256 ^ k : Nat) : Int) ≤ ((256 ^ 7 : Nat) : Int) := Int.ofNat_le.2 (Nat.pow_le_pow_right (n := 256) (by omega) hk)
  rw [Int.natCast_pow] at h1
  have h2 : v < ((256 ^ 7 : Nat) : Int) := Int.lt_of_lt_of_le h h1
  exact h2
theorem vF_range (l : List Int) (hb : ∀ x ∈ l, 0 ≤ x ∧ x < 256) (from_ : Int) (f : Int → Int) : ∀ i : Nat, (∀ j : Nat, j < i → 0 ≤ from_ + f j ∧ from_ + f j < l.length) → 0 ≤ vF l from_ f i ∧ vF l from_ f i < 256 ^ i
  | 0, _ => by simp [vF]
  | i + 1, h => by
    obtain ⟨h0, h1⟩ := vF_range l hb from_ f i (fun j hj => h j (by omega))
    obtain ⟨g0, g1⟩ := h i (by omega)
    have hr : 0 ≤ rd l (from_ + f i) ∧ rd l (from_ + f i) < 256 := rd_byte hb g0 g1
    simp only [vF, Int.pow_succ]
    omega

theorem or_byte (a b : Int) (ha : 0 ≤ a) (ha2 : a < 72057594037927936) (hb : 0 ≤ b) (hb2 : b < 256) :
    bits .or .u64 (IntKind.u64.wrap (a * 256)) (IntKind.u64.wrap b) = a * 256 + b := by
  have e1 : IntKind.u64.wrap (a * 256) = a * 256 := IntWalk.u64_in _ (by omega)
  have e2 : IntKind.u64.wrap b = b := IntWalk.u64_in _ (by omega)
  rw [e1, e2]
  obtain ⟨x, rfl⟩ := Int.eq_ofNat_of_zero_le ha
  obtain ⟨y, rfl⟩ := Int.eq_ofNat_of_zero_le hb
  have e3 : ((x : Int) * 256) = ((x * 256 : Nat) : Int) := by omega
  rw [e3, u64_or_nat _ _ (by omega) (by omega)]
  have h := Nat.shiftLeft_add_eq_or_of_lt (b := y) (i := 8) (by omega) x
  rw [Nat.shiftLeft_eq] at h
  have h2 : x * 256 ||| y = x * 256 + y := h.symm
  rw [h2]
  omega

set_option maxHeartbeats 1000000 in
set_option maxRecDepth 100000 in
theorem read_ok (A : Option Addr) (c : Nat) (l : List Int) (from_ n : Int) (K : Nat) (caps : Array Value) (f : Int → Int) (w : World) (hr : Kd.C (Kd.int .u8) w A l.length l) (hb : ∀ x ∈ l, 0 ≤ x ∧ x < 256) (h1 : 1 ≤ n) (h8 : n ≤ 8) (hl : l.length ≤ 140737488351232) (h0 : 0 ≤ from_) (h2 : from_ + n ≤ l.length)
    (hK : ∀ args w, (callFunc K args).run Try.prog w = .ok (.enter K args) w) (hf : ∀ i : Int, 0 ≤ i → i < n → 0 ≤ f i ∧ f i < n)
    (hplace : ∀ (W : World) (i : Int), Below w.heap.size w W → 0 ≤ i → i < n → Calls Try.prog K (#[.int .i64 i] ++ caps) W fun e w' => e = .returned (.int .i64 (f i)) ∧ w' = W) :
    Calls Try.prog 57 #[.slice A l.length c, .int .i64 from_, .int .i64 n, .func (.func K) #[] caps] w fun e w' => e = .returned (.tuple #[.int .u64 (vF l from_ f n.toNat), .int .i64 0]) ∧ Below w.heap.size w w' := by
  have hmf := hmf
  have HP := Lib.hid hplace
  have HF := Lib.hid hf
  have HB := Lib.hid hb
  have HR := Lib.hid hr
  clear hplace hf hb hr
  go_enter_defers Try.func57, Try.ntmps57
  go_wp2_with (go_at_call 61; refine (at_in _ _ _ _ _ (Kd.C_alloc (Kd.C_alloc HR.out _) _) (by omega) (by omega)).mono ?_; rintro e w' ⟨rfl, rfl⟩)
  go_loopw [35] (fun t wr => ∃ (k m : Nat), k ≤ n.toNat ∧ t = .int .i64 k ∧ wr = ((w.alloc (.cells #[.int .u64 (vF l from_ f k)] 55)).alloc (.cells #[.int .i64 0] 25)).drewN m) (fun t _ => n.toNat - (intOf t).toNat)
  case atStart => exact ⟨0, 0, by omega, rfl, rfl⟩
  case round =>
    obtain ⟨k, m, hk, rfl, rfl⟩ := hrel
    have hrng := Lib.hid (vF_range l HB.out from_ f k (fun j hj => by have := HF.out j (by omega) (by omega); omega))
    by_cases hlt : (k : Int) < n
    · obtain ⟨hf0, hf1⟩ := HF.out k (by omega) hlt
      have hv1 := Lib.hid (show vF l from_ f (k + 1) = vF l from_ f k * 256 + rd l (from_ + f k) from rfl)
      have hor := Lib.hid (or_byte (vF l from_ f k) (rd l (from_ + f k)) hrng.out.1 (pow_seven hrng.out.2 (by omega)) (rd_byte HB.out (by omega) (by omega)).1 (rd_byte HB.out (by omega) (by omega)).2)
      have HP1 := Lib.hid (fun W hW => HP.out W k hW (by omega) hlt)
      have HA1 := Lib.hid (fun W hW => at_in A c l (from_ + f k) W hW (by omega) (by omega))
      go_wp2_with fail
      have hwr : IntKind.i64.wrap (from_ + f k) = from_ + f k := IntWalk.i64_in _ (by omega)
      refine region_tail 11 (by kernel_rfl) (by kernel_rfl) ?_
      simp only [List.take_succ_cons, List.take_zero, List.drop_succ_cons, List.drop_zero]
      repeat still_step
      still_call (HP1.out _ (below_drew1 (pw_below_drewN (below_alloc (below_alloc (Below.refl _ _) _) _) _)))
      repeat still_step
      still_call ((HA1.out _ (Kd.C_drew (Kd.C_drewN (Kd.C_alloc (Kd.C_alloc HR.out _) _) _))).mono (fun _ _ h => ⟨h.1, h.2.symm⟩))
      repeat still_step
      clear hwr
      refine wpStill_nil ?_
      rw [hor.out]
      go_wp2
      go_roundw
      case rel => exact ⟨k + 1, m + 1, by omega, by go_num, by rw [hv1.out, setCell_drewN]; simp [go_sem]⟩
      case measure => simp [intOf]; omega
    · have hkn : k = n.toNat := by omega
      subst hkn
      go_wp2_with fail
      refine leaves_cons (f := 59) (args := #[.pointer (some ⟨w.heap.size, 0, none⟩), .pointer (some ⟨w.heap.size + 1, 0, none⟩)]) (by simp) (by simp [go_sem]) ?_
      refine (read_idle _ _ _).mono ?_
      rintro e u' w'' ⟨rfl, rfl, rfl⟩
      simp [Leaves, settle, results, Try.results57, go_sem]
      repeat (first | exact Below.refl _ _ | apply below_alloc | apply pw_below_drewN | apply below_drew1 | refine Below.setCell ?_ (by simp) _)

theorem little_place (p : Addr) (n i : Int) (W : World) (hc : W.cell? p = some (.int .i64 n)) (h1 : 1 ≤ n) (h8 : n ≤ 8) (h0 : 0 ≤ i) (hi : i < n) :
    Calls Try.prog 58 #[.int .i64 i, .pointer (some p)] W fun e w' => e = .returned (.int .i64 (n - 1 - i)) ∧ w' = W := by
  go_enter Try.func58, Try.ntmps58
  go_wp2
  go_ret
  exact ⟨rfl, rfl⟩

/-- What Little returns. -/
def littleF (l : List Int) (at_ n : Int) : Int × Int :=
  if n < 1 ∨ 8 < n then (0, 1) else if at_ < 0 ∨ (l.length : Int) < at_ + n then (0, 5) else (vF l at_ (fun i => n - 1 - i) n.toNat, 0)

set_option maxHeartbeats 400000 in
theorem little_calls (A : Option Addr) (c : Nat) (l : List Int) (at_ n : Int) (w : World) (hr : Kd.C (Kd.int .u8) w A l.length l) (hb : ∀ x ∈ l, 0 ≤ x ∧ x < 256) (hl : l.length ≤ 140737488351232) :
    Calls Try.prog 51 #[.slice A l.length c, .int .i64 at_, .int .i64 n] w fun e w' => e = .returned (.tuple #[.int .u64 (littleF l at_ n).1, .int .i64 (littleF l at_ n).2]) ∧ Below w.heap.size w w' := by
  have hmf := hmf
  have HB := Lib.hid hb
  have HR := Lib.hid hr
  clear hb hr
  by_cases hn : n < 1 ∨ 8 < n
  · have HF := Lib.hid (show littleF l at_ n = (0, 1) from by unfold littleF; rw [if_pos hn])
    have HN := Lib.hid hn
    clear hn
    go_enter Try.func51, Try.ntmps51
    go_wp2_with fail
    refine (read_arg _ _ _ _ _ _ _ _ HN.out).mono ?_
    rintro e w1 ⟨rfl, hb1⟩
    go_wp2_with fail
    go_ret2
    rw [HF.out]
    exact ⟨rfl, below_then (below_alloc (Below.refl _ _) _) (by simp) hb1⟩
  · by_cases ha : at_ < 0 ∨ (l.length : Int) < at_ + n
    · have HF := Lib.hid (show littleF l at_ n = (0, 5) from by unfold littleF; rw [if_neg hn, if_pos ha])
      have HN := Lib.hid hn
      have HA := Lib.hid ha
      clear hn ha
      go_enter Try.func51, Try.ntmps51
      go_wp2_with fail
      refine (read_short _ _ _ _ _ _ _ _ (by have := HN.out; omega) (by have := HN.out; omega) hl HA.out).mono ?_
      rintro e w1 ⟨rfl, hb1⟩
      go_wp2_with fail
      go_ret2
      rw [HF.out]
      exact ⟨rfl, below_then (below_alloc (Below.refl _ _) _) (by simp) hb1⟩
    · have HF := Lib.hid (show littleF l at_ n = (vF l at_ (fun i => n - 1 - i) n.toNat, 0) from by unfold littleF; rw [if_neg hn, if_neg ha])
      have HN := Lib.hid hn
      have HA := Lib.hid ha
      clear hn ha
      go_enter Try.func51, Try.ntmps51
      go_wp2_with fail
      refine (read_ok _ _ _ _ _ 58 #[.pointer (some ⟨w.heap.size, 0, none⟩)] (fun i => n - 1 - i) _ (Kd.C_alloc HR.out _) HB.out (by have := HN.out; omega) (by have := HN.out; omega) hl (by have := HA.out; omega) (by have := HA.out; omega) (enters_ Try.func58 rfl rfl) (fun i h0 h1 => by omega) (fun W i hW h0 h1 => little_place ⟨w.heap.size, 0, none⟩ n i W ?_ (by have := HN.out; omega) (by have := HN.out; omega) h0 h1)).mono ?_
      · exact pw_cell_below hW (by simp [go_sem])
      rintro e w1 ⟨rfl, hb1⟩
      go_wp2_with fail
      go_ret2
      rw [HF.out]
      exact ⟨rfl, below_then (below_alloc (Below.refl _ _) _) (by simp) hb1⟩
end Go.Proofs.Ytlbijehgoiknjaa.Z
