/- Walks of package extra's deferred closures; and number. -/
import Derived.Test.YtlbijehgoiknjaaZReader
set_option linter.unusedVariables false
set_option linter.unusedSimpArgs false
namespace Go.Proofs.Ytlbijehgoiknjaa.Z
open Go.RowKit Go.Proofs.YtlbijehgoiknjaaW.PrintWords Go.Proofs.YtlbijehgoiknjaaW.PrintLast Go.Proofs.YtlbijehgoiknjaaW.PrintMore


set_option maxHeartbeats 400000 in
theorem xread_idle (p q : Addr) (w : World) :
    CallsD Try.prog 53 #[.pointer (some p), .pointer (some q)] .returning w fun e u' w' => e = .returned (.tuple #[]) ∧ u' = .returning ∧ w' = w.alloc (.cells #[.int .i64 0, .int .i64 0] 106) := by
  refine callsD_of_wpS Try.func53 rfl fun c₀ cs hu => ?_
  have h1 := ta_nil
  apply wpS_seq
  apply wpS_region
  simp [wpOpsS, go_sem, recoverD, hu, Try.ntmps53, Exit.thenS, h1]
  refine wpS_of_wp ?_
  simp only [List.replicate, Array.replicate, List.toArray_replicate, Array.setIfInBounds]
  go_wp2
  cases c₀
  simp_all [bodyPostS, results, Try.results53]

set_option maxHeartbeats 400000 in
theorem xread_catch (p q : Addr) (c y : Int) (A0 : Option Addr) (n0 c0 : Nat) (w : World) (hp : w.cell? p = some (.slice A0 n0 c0)) (hq : w.cell? q = some (.int .i64 y)) (fp : w.frozen? p = false) (fq : w.frozen? q = false) (hpq : ¬ p = q) :
    CallsD Try.prog 53 #[.pointer (some p), .pointer (some q)] (.panicking (fault c)) w fun e u' w' => e = .returned (.tuple #[]) ∧ u' = .panicking (caught c) ∧
      w' = (((w.alloc (.cells #[.int .i64 c, .int .i64 0] 106)).drew.setCell p (.slice none 0 0)).setCell q (.int .i64 c)) := by
  refine callsD_of_wpS Try.func53 rfl fun c₀ cs hu => ?_
  have h1 := ta_fault c
  unfold fault at hu
  unfold caught
  apply wpS_seq
  apply wpS_region
  simp [wpOpsS, go_sem, recoverD, hu, Try.ntmps53, Exit.thenS, h1]
  have hp' := cell_alloc_lt hp (.cells #[.int .i64 c, .int .i64 0] 106)
  have hq' := cell_alloc_lt hq (.cells #[.int .i64 c, .int .i64 0] 106)
  have fp' := frozen_alloc_lt hp fp (.cells #[.int .i64 c, .int .i64 0] 106)
  have fq' := frozen_alloc_lt hq fq (.cells #[.int .i64 c, .int .i64 0] 106)
  have hn : (w.alloc (.cells #[.int .i64 c, .int .i64 0] 106)).cell? ⟨w.heap.size, 0, none⟩ = some (.int .i64 c) := by simp [go_sem]
  have hpn : ¬ p = ⟨w.heap.size, 0, none⟩ := by
    rintro rfl
    have := World.block_lt_of_cell? w _ hp
    simp at this
  clear hp hq fp fq
  generalize w.alloc (.cells #[.int .i64 c, .int .i64 0] 106) = W at *
  generalize (⟨w.heap.size, 0, none⟩ : Addr) = N at *
  have hpq' : ¬ q = p := fun e => hpq e.symm
  have hnp : ¬ N = p := fun e => hpn e.symm
  have hq2 : (W.drew.setCell p (.slice none 0 0)).cell? q = some (.int .i64 y) := by rw [World.cell?_setCell_other _ _ _ _ hpq]; exact hq'
  have hn2 : (W.drew.setCell p (.slice none 0 0)).cell? N = some (.int .i64 c) := by rw [World.cell?_setCell_other _ _ _ _ hpn]; exact hn
  refine wpS_of_wp ?_
  rw [lit12]
  have hQ : ∀ (Q : Exit → Act → World → Prop) (a : Act), a.defers = [] → Q = (fun e a' w' =>
      bodyPostS Try.prog Try.f53 c₀ cs
        (fun e u' w' => e = Ending.returned (Value.tuple #[]) ∧ u' = FrameMode.panicking [{ v := Value.iface 106 (Value.agg #[Value.int IntKind.i64 c, Value.int IntKind.i64 0]), recovered := true }] ∧ w' = ((W.setCell p (.slice none 0 0)).setCell q (Value.int IntKind.i64 c)).drew)
        e a' ({ fn := c₀.fn, tmps := c₀.tmps, todo := c₀.todo, defers := c₀.defers, mode := FrameMode.panicking [{ v := Value.iface 106 (Value.agg #[Value.int IntKind.i64 c, Value.int IntKind.i64 0]), recovered := true }], kind := c₀.kind, roundOf := c₀.roundOf } :: cs) w') → Q .normal a ((W.setCell p (.slice none 0 0)).setCell q (Value.int IntKind.i64 c)).drew := by
    rintro Q a ha rfl
    simp [bodyPostS, results, Try.results53, ha]
  generalize hQ' : (fun (e : Exit) (a' : Act) (w' : World) =>
      bodyPostS Try.prog Try.f53 c₀ cs
        (fun e u' w' => e = Ending.returned (Value.tuple #[]) ∧ u' = FrameMode.panicking [{ v := Value.iface 106 (Value.agg #[Value.int IntKind.i64 c, Value.int IntKind.i64 0]), recovered := true }] ∧ w' = ((W.setCell p (.slice none 0 0)).setCell q (Value.int IntKind.i64 c)).drew)
        e a' ({ fn := c₀.fn, tmps := c₀.tmps, todo := c₀.todo, defers := c₀.defers, mode := FrameMode.panicking [{ v := Value.iface 106 (Value.agg #[Value.int IntKind.i64 c, Value.int IntKind.i64 0]), recovered := true }], kind := c₀.kind, roundOf := c₀.roundOf } :: cs) w') = Q
  have HQ : Hid (∀ (a : Act), a.defers = [] → Q .normal a ((W.setCell p (.slice none 0 0)).setCell q (Value.int IntKind.i64 c)).drew) := fun a h => hQ Q a h hQ'.symm
  clear hQ hQ' h1 hu
  go_wp2
  go_region
  all_goals exact HQ.out _ rfl

/-- The way out by a panic. -/
theorem xread_door (w W : World) (c y : Int) (A0 : Option Addr) (n0 c0 : Nat) (p q : Addr) (tmps : Array Value) (htp : tmps.getD 2 undef = .pointer (some p)) (htq : tmps.getD 3 undef = .pointer (some q))
    (hp : W.cell? p = some (.slice A0 n0 c0)) (hq : W.cell? q = some (.int .i64 y)) (fp : W.frozen? p = false) (fq : W.frozen? q = false) (hpq : ¬ p = q) (hb : Below w.heap.size w W) (hpb : w.heap.size ≤ p.block) (hqb : w.heap.size ≤ q.block) (R : Ending → World → Prop) (hR : ∀ W', Below w.heap.size w W' → R (.returned (.tuple #[.slice none 0 0, .int .i64 c])) W') :
    bodyPostD Try.prog Try.f45 R (.panic (fault c))
      { tmps := tmps, defers := [{ target := .fn (.func 53) #[.pointer (some p), .pointer (some q)], args := #[] }] } W := by
  refine leaves_cons (f := 53) (args := #[.pointer (some p), .pointer (some q)]) (by simp) (by simp [go_sem]) ?_
  refine (xread_catch p q c y A0 n0 c0 _ hp hq fp fq hpq).mono ?_
  rintro e u' w'' ⟨rfl, rfl, rfl⟩
  have hp1 := cell_alloc_lt hp (.cells #[.int .i64 c, .int .i64 0] 106)
  have hq1 := cell_alloc_lt hq (.cells #[.int .i64 c, .int .i64 0] 106)
  have hB := ((hb.alloc hb.size (.cells #[.int .i64 c, .int .i64 0] 106)).drew.setCell hpb (.slice none 0 0)).setCell hqb (.int .i64 c)
  generalize W.alloc (.cells #[.int .i64 c, .int .i64 0] 106) = W1 at *
  have hqp : ¬ q = p := fun e => hpq e.symm
  have hp2 : ((W1.drew.setCell p (.slice none 0 0)).setCell q (.int .i64 c)).cell? p = some (.slice none 0 0) := by
    rw [World.cell?_setCell_other _ _ _ _ hqp]
    exact World.cell?_setCell_same _ _ _ hp1
  have hq2 : ((W1.drew.setCell p (.slice none 0 0)).setCell q (.int .i64 c)).cell? q = some (.int .i64 c) :=
    World.cell?_setCell_same _ _ _ (show (W1.drew.setCell p (.slice none 0 0)).cell? q = some (.int .i64 y) by rw [World.cell?_setCell_other _ _ _ _ hpq]; exact hq1)
  generalize (W1.drew.setCell p (.slice none 0 0)).setCell q (.int .i64 c) = W2 at *
  unfold caught
  have htp' : tmps[2]?.getD undef = .pointer (some p) := by simpa using htp
  have htq' : tmps[3]?.getD undef = .pointer (some q) := by simpa using htq
  simp [Leaves, settle, results, Try.results45, go_sem, htp', htq', hp2, hq2]
  exact hR _ hB

/-- The way out by a return. -/
theorem xread_ret (W : World) (y : Int) (A0 : Option Addr) (n0 c0 : Nat) (p q : Addr) (tmps : Array Value) (htp : tmps.getD 2 undef = .pointer (some p)) (htq : tmps.getD 3 undef = .pointer (some q))
    (hp : W.cell? p = some (.slice A0 n0 c0)) (hq : W.cell? q = some (.int .i64 y)) (R : Ending → World → Prop) (hR : R (.returned (.tuple #[.slice A0 n0 c0, .int .i64 y])) (W.alloc (.cells #[.int .i64 0, .int .i64 0] 106))) :
    bodyPostD Try.prog Try.f45 R .ret
      { tmps := tmps, defers := [{ target := .fn (.func 53) #[.pointer (some p), .pointer (some q)], args := #[] }] } W := by
  refine leaves_cons (f := 53) (args := #[.pointer (some p), .pointer (some q)]) (by simp) (by simp [go_sem]) ?_
  refine (xread_idle p q _).mono ?_
  rintro e u' w'' ⟨rfl, rfl, rfl⟩
  have hp1 := cell_alloc_lt hp (.cells #[.int .i64 0, .int .i64 0] 106)
  have hq1 := cell_alloc_lt hq (.cells #[.int .i64 0, .int .i64 0] 106)
  generalize W.alloc (.cells #[.int .i64 0, .int .i64 0] 106) = W1 at *
  have htp' : tmps[2]?.getD undef = .pointer (some p) := by simpa using htp
  have htq' : tmps[3]?.getD undef = .pointer (some q) := by simpa using htq
  simp [Leaves, settle, results, Try.results45, go_sem, htp', htq', hp1, hq1]
  exact hR


set_option maxHeartbeats 400000 in
theorem xbig_idle (p q : Addr) (w : World) :
    CallsD Try.prog 55 #[.pointer (some p), .pointer (some q)] .returning w fun e u' w' => e = .returned (.tuple #[]) ∧ u' = .returning ∧ w' = w.alloc (.cells #[.int .i64 0, .int .i64 0] 106) := by
  refine callsD_of_wpS Try.func55 rfl fun c₀ cs hu => ?_
  have h1 := ta_nil
  apply wpS_seq
  apply wpS_region
  simp [wpOpsS, go_sem, recoverD, hu, Try.ntmps55, Exit.thenS, h1]
  refine wpS_of_wp ?_
  simp only [List.replicate, Array.replicate, List.toArray_replicate, Array.setIfInBounds]
  go_wp2
  cases c₀
  simp_all [bodyPostS, results, Try.results55]

set_option maxHeartbeats 400000 in
theorem xbig_catch (p q : Addr) (c y : Int) (A0 : Option Addr) (n0 c0 : Nat) (w : World) (hp : w.cell? p = some (.slice A0 n0 c0)) (hq : w.cell? q = some (.int .i64 y)) (fp : w.frozen? p = false) (fq : w.frozen? q = false) (hpq : ¬ p = q) :
    CallsD Try.prog 55 #[.pointer (some p), .pointer (some q)] (.panicking (fault c)) w fun e u' w' => e = .returned (.tuple #[]) ∧ u' = .panicking (caught c) ∧
      w' = (((w.alloc (.cells #[.int .i64 c, .int .i64 0] 106)).drew.setCell p (.slice none 0 0)).setCell q (.int .i64 c)) := by
  refine callsD_of_wpS Try.func55 rfl fun c₀ cs hu => ?_
  have h1 := ta_fault c
  unfold fault at hu
  unfold caught
  apply wpS_seq
  apply wpS_region
  simp [wpOpsS, go_sem, recoverD, hu, Try.ntmps55, Exit.thenS, h1]
  have hp' := cell_alloc_lt hp (.cells #[.int .i64 c, .int .i64 0] 106)
  have hq' := cell_alloc_lt hq (.cells #[.int .i64 c, .int .i64 0] 106)
  have fp' := frozen_alloc_lt hp fp (.cells #[.int .i64 c, .int .i64 0] 106)
  have fq' := frozen_alloc_lt hq fq (.cells #[.int .i64 c, .int .i64 0] 106)
  have hn : (w.alloc (.cells #[.int .i64 c, .int .i64 0] 106)).cell? ⟨w.heap.size, 0, none⟩ = some (.int .i64 c) := by simp [go_sem]
  have hpn : ¬ p = ⟨w.heap.size, 0, none⟩ := by
    rintro rfl
    have := World.block_lt_of_cell? w _ hp
    simp at this
  clear hp hq fp fq
  generalize w.alloc (.cells #[.int .i64 c, .int .i64 0] 106) = W at *
  generalize (⟨w.heap.size, 0, none⟩ : Addr) = N at *
  have hpq' : ¬ q = p := fun e => hpq e.symm
  have hnp : ¬ N = p := fun e => hpn e.symm
  have hq2 : (W.drew.setCell p (.slice none 0 0)).cell? q = some (.int .i64 y) := by rw [World.cell?_setCell_other _ _ _ _ hpq]; exact hq'
  have hn2 : (W.drew.setCell p (.slice none 0 0)).cell? N = some (.int .i64 c) := by rw [World.cell?_setCell_other _ _ _ _ hpn]; exact hn
  refine wpS_of_wp ?_
  rw [lit12]
  have hQ : ∀ (Q : Exit → Act → World → Prop) (a : Act), a.defers = [] → Q = (fun e a' w' =>
      bodyPostS Try.prog Try.f55 c₀ cs
        (fun e u' w' => e = Ending.returned (Value.tuple #[]) ∧ u' = FrameMode.panicking [{ v := Value.iface 106 (Value.agg #[Value.int IntKind.i64 c, Value.int IntKind.i64 0]), recovered := true }] ∧ w' = ((W.setCell p (.slice none 0 0)).setCell q (Value.int IntKind.i64 c)).drew)
        e a' ({ fn := c₀.fn, tmps := c₀.tmps, todo := c₀.todo, defers := c₀.defers, mode := FrameMode.panicking [{ v := Value.iface 106 (Value.agg #[Value.int IntKind.i64 c, Value.int IntKind.i64 0]), recovered := true }], kind := c₀.kind, roundOf := c₀.roundOf } :: cs) w') → Q .normal a ((W.setCell p (.slice none 0 0)).setCell q (Value.int IntKind.i64 c)).drew := by
    rintro Q a ha rfl
    simp [bodyPostS, results, Try.results55, ha]
  generalize hQ' : (fun (e : Exit) (a' : Act) (w' : World) =>
      bodyPostS Try.prog Try.f55 c₀ cs
        (fun e u' w' => e = Ending.returned (Value.tuple #[]) ∧ u' = FrameMode.panicking [{ v := Value.iface 106 (Value.agg #[Value.int IntKind.i64 c, Value.int IntKind.i64 0]), recovered := true }] ∧ w' = ((W.setCell p (.slice none 0 0)).setCell q (Value.int IntKind.i64 c)).drew)
        e a' ({ fn := c₀.fn, tmps := c₀.tmps, todo := c₀.todo, defers := c₀.defers, mode := FrameMode.panicking [{ v := Value.iface 106 (Value.agg #[Value.int IntKind.i64 c, Value.int IntKind.i64 0]), recovered := true }], kind := c₀.kind, roundOf := c₀.roundOf } :: cs) w') = Q
  have HQ : Hid (∀ (a : Act), a.defers = [] → Q .normal a ((W.setCell p (.slice none 0 0)).setCell q (Value.int IntKind.i64 c)).drew) := fun a h => hQ Q a h hQ'.symm
  clear hQ hQ' h1 hu
  go_wp2
  go_region
  all_goals exact HQ.out _ rfl

/-- The way out by a panic. -/
theorem xbig_door (w W : World) (c y : Int) (A0 : Option Addr) (n0 c0 : Nat) (p q : Addr) (tmps : Array Value) (htp : tmps.getD 4 undef = .pointer (some p)) (htq : tmps.getD 5 undef = .pointer (some q))
    (hp : W.cell? p = some (.slice A0 n0 c0)) (hq : W.cell? q = some (.int .i64 y)) (fp : W.frozen? p = false) (fq : W.frozen? q = false) (hpq : ¬ p = q) (hb : Below w.heap.size w W) (hpb : w.heap.size ≤ p.block) (hqb : w.heap.size ≤ q.block) (R : Ending → World → Prop) (hR : ∀ W', Below w.heap.size w W' → R (.returned (.tuple #[.slice none 0 0, .int .i64 c])) W') :
    bodyPostD Try.prog Try.f46 R (.panic (fault c))
      { tmps := tmps, defers := [{ target := .fn (.func 55) #[.pointer (some p), .pointer (some q)], args := #[] }] } W := by
  refine leaves_cons (f := 55) (args := #[.pointer (some p), .pointer (some q)]) (by simp) (by simp [go_sem]) ?_
  refine (xbig_catch p q c y A0 n0 c0 _ hp hq fp fq hpq).mono ?_
  rintro e u' w'' ⟨rfl, rfl, rfl⟩
  have hp1 := cell_alloc_lt hp (.cells #[.int .i64 c, .int .i64 0] 106)
  have hq1 := cell_alloc_lt hq (.cells #[.int .i64 c, .int .i64 0] 106)
  have hB := ((hb.alloc hb.size (.cells #[.int .i64 c, .int .i64 0] 106)).drew.setCell hpb (.slice none 0 0)).setCell hqb (.int .i64 c)
  generalize W.alloc (.cells #[.int .i64 c, .int .i64 0] 106) = W1 at *
  have hqp : ¬ q = p := fun e => hpq e.symm
  have hp2 : ((W1.drew.setCell p (.slice none 0 0)).setCell q (.int .i64 c)).cell? p = some (.slice none 0 0) := by
    rw [World.cell?_setCell_other _ _ _ _ hqp]
    exact World.cell?_setCell_same _ _ _ hp1
  have hq2 : ((W1.drew.setCell p (.slice none 0 0)).setCell q (.int .i64 c)).cell? q = some (.int .i64 c) :=
    World.cell?_setCell_same _ _ _ (show (W1.drew.setCell p (.slice none 0 0)).cell? q = some (.int .i64 y) by rw [World.cell?_setCell_other _ _ _ _ hpq]; exact hq1)
  generalize (W1.drew.setCell p (.slice none 0 0)).setCell q (.int .i64 c) = W2 at *
  unfold caught
  have htp' : tmps[4]?.getD undef = .pointer (some p) := by simpa using htp
  have htq' : tmps[5]?.getD undef = .pointer (some q) := by simpa using htq
  simp [Leaves, settle, results, Try.results46, go_sem, htp', htq', hp2, hq2]
  exact hR _ hB

/-- The way out by a return. -/
theorem xbig_ret (W : World) (y : Int) (A0 : Option Addr) (n0 c0 : Nat) (p q : Addr) (tmps : Array Value) (htp : tmps.getD 4 undef = .pointer (some p)) (htq : tmps.getD 5 undef = .pointer (some q))
    (hp : W.cell? p = some (.slice A0 n0 c0)) (hq : W.cell? q = some (.int .i64 y)) (R : Ending → World → Prop) (hR : R (.returned (.tuple #[.slice A0 n0 c0, .int .i64 y])) (W.alloc (.cells #[.int .i64 0, .int .i64 0] 106))) :
    bodyPostD Try.prog Try.f46 R .ret
      { tmps := tmps, defers := [{ target := .fn (.func 55) #[.pointer (some p), .pointer (some q)], args := #[] }] } W := by
  refine leaves_cons (f := 55) (args := #[.pointer (some p), .pointer (some q)]) (by simp) (by simp [go_sem]) ?_
  refine (xbig_idle p q _).mono ?_
  rintro e u' w'' ⟨rfl, rfl, rfl⟩
  have hp1 := cell_alloc_lt hp (.cells #[.int .i64 0, .int .i64 0] 106)
  have hq1 := cell_alloc_lt hq (.cells #[.int .i64 0, .int .i64 0] 106)
  generalize W.alloc (.cells #[.int .i64 0, .int .i64 0] 106) = W1 at *
  have htp' : tmps[4]?.getD undef = .pointer (some p) := by simpa using htp
  have htq' : tmps[5]?.getD undef = .pointer (some q) := by simpa using htq
  simp [Leaves, settle, results, Try.results46, go_sem, htp', htq', hp1, hq1]
  exact hR


/-- number: the number, or none. -/
def enumF (l : List Int) (at_ n : Int) : Option Int := if (littleF l at_ n).2 = 0 ∧ (littleF l at_ n).1 ≤ 4611686018427387904 then some (littleF l at_ n).1 else none

set_option maxHeartbeats 400000 in
theorem enum_some (A : Option Addr) (c : Nat) (l : List Int) (at_ n v : Int) (w : World) (hr : Kd.C (Kd.int .u8) w A l.length l) (hb : ∀ x ∈ l, 0 ≤ x ∧ x < 256) (hl : l.length ≤ 140737488351232) (h : enumF l at_ n = some v) :
    Calls Try.prog 54 #[.slice A l.length c, .int .i64 at_, .int .i64 n] w fun e w' => e = .returned (.int .i64 v) ∧ Below w.heap.size w w' := by
  unfold enumF at h
  have h0 := littleF_nonneg hb at_ n
  split at h
  · rename_i h1
    obtain ⟨h1, h2⟩ := h1
    have hv : (littleF l at_ n).1 = v := by simpa using h
    have HB := Lib.hid hb
    have HR := Lib.hid hr
    have hq : ((littleF l at_ n).2 != 0) = false := by simpa using h1
    clear hb hr h h1
    go_enter Try.func54, Try.ntmps54
    go_wp2_with fail
    refine (little_calls A c l at_ n _ HR.out HB.out hl).mono ?_
    rintro e w1 ⟨rfl, hb1⟩
    generalize littleF l at_ n = L at *
    obtain ⟨x, y⟩ := L
    simp only at h0 h2 hq hv
    obtain rfl := hv
    have HB1 := Lib.hid hb1
    clear hb1
    go_wp2
    go_ret
    exact ⟨rfl, HB1.out⟩
  · cases h

set_option maxHeartbeats 400000 in
theorem enum_none (A : Option Addr) (c : Nat) (l : List Int) (at_ n : Int) (w : World) (hr : Kd.C (Kd.int .u8) w A l.length l) (hb : ∀ x ∈ l, 0 ≤ x ∧ x < 256) (hl : l.length ≤ 140737488351232) (h : enumF l at_ n = none) :
    Calls Try.prog 54 #[.slice A l.length c, .int .i64 at_, .int .i64 n] w fun e w' => e = .panicked (fault 2) ∧ Below w.heap.size w w' := by
  unfold enumF at h
  have h0 := littleF_nonneg hb at_ n
  split at h
  · cases h
  · rename_i h1
    have HB := Lib.hid hb
    have HR := Lib.hid hr
    clear hb hr h
    by_cases h2 : (littleF l at_ n).2 = 0
    · have h3 : 4611686018427387904 < (littleF l at_ n).1 := by omega
      have hq : ((littleF l at_ n).2 != 0) = false := by simpa using h2
      clear h1 h2
      go_enter Try.func54, Try.ntmps54
      go_wp2_with fail
      refine (little_calls A c l at_ n _ HR.out HB.out hl).mono ?_
      rintro e w1 ⟨rfl, hb1⟩
      generalize littleF l at_ n = L at *
      obtain ⟨x, y⟩ := L
      simp only at h0 h3 hq
      have HB1 := Lib.hid hb1
      clear hb1
      go_wp2
      exact ⟨rfl, rfl, HB1.out⟩
    · have hq : ((littleF l at_ n).2 != 0) = true := by simpa using h2
      clear h1 h2
      go_enter Try.func54, Try.ntmps54
      go_wp2_with fail
      refine (little_calls A c l at_ n _ HR.out HB.out hl).mono ?_
      rintro e w1 ⟨rfl, hb1⟩
      generalize littleF l at_ n = L at *
      obtain ⟨x, y⟩ := L
      simp only at h0 hq
      have HB1 := Lib.hid hb1
      clear hb1
      go_wp2
      exact ⟨rfl, rfl, HB1.out⟩
end Go.Proofs.Ytlbijehgoiknjaa.Z
