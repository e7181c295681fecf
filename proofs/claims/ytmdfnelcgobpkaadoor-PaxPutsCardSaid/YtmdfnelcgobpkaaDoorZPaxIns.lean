/- Walk of slices.Insert of one record, where there is room. -/
import Derived.Test.YtmdfnelcgobpkaaDoorZPaxDel2
import Derived.Lib.Overlaps
import Derived.Laws.Externs
import Derived.Deep.RegionLaw
set_option linter.unusedVariables false
set_option linter.unusedSimpArgs false
namespace Go.Proofs.YtmdfnelcgobpkaaDoor.Z
open Go.RowKit Go.Shelf Go.Proofs.YtmdfnelcgobpkaaDoorW.PrintWords Go.Proofs.YtmdfnelcgobpkaaDoorW.PrintLast Go.Proofs.YtmdfnelcgobpkaaDoorW.PrintMore Go.Proofs.YtmdfnelcgobpkaaDoor.PPaxPuts

theorem run_copy_rec (w : World) (ty g o dLen dCap : Nat) (a : Addr) (sLen sCap : Nat) (L cs : List Value) (m : Nat) (hg : w.heap[g]? = some (.cells L.toArray 32 (0, 0))) (hm : m = Nat.min sLen dLen) (hcs : cs.length = m * 2)
    (hsrc : ∀ j v, cs[j]? = some v → w.cell? (a.add j) = some v) (hfit : o + m * 2 ≤ L.length) (h1 : ∀ v ∈ cs, v.oneCell' = true) :
    (Builtin.copy_ #[22, 22] ty #[.slice (some ⟨g, o, none⟩) dLen dCap, .slice (some a) sLen sCap]).run Tryd.prog w = .ok (goInt m) (w.setRow g (L.take o ++ cs ++ L.drop (o + m * 2)).toArray) := by
  have hl := run_loadCells_list (P := Tryd.prog) w a cs hsrc
  have hst := run_storeCells_at Tryd.prog g o 32 cs 0 L.toArray w hg (by rw [hcs]; simpa using hfit) h1
  simp only [Nat.add_zero] at hst
  rw [hcs] at hl hst
  have hi := info32
  cases hq : Tryd.prog.info? 32 with
  | none => rw [hq] at hi; simp at hi
  | some i =>
    rw [hq] at hi
    simp only [Option.map_some, Option.some.injEq, Prod.mk.injEq] at hi
    have hi2 : i.size = 2 := hi.2.1
    simp [Builtin.copy_, run_underlying Tryd.underlying22, Builtin.lenOf, Builtin.firstCells, sizeOf, typeInfo, hq, hi2, ← hm, hl, hst]

theorem wpList_copy_run' {P : Program} (w : World) {ops : Array Oper} {rest : List Oper} {o : Oper} {a : Act} {Q : Exit → Act → World → Prop} (hgd : o.guard = none) (d s : Operand) (t t' : TypeId)
    (ho : o.op = .call { callee := .builtin .copy, args := #[d, s], argTypes := #[t, t'] }) (v u : Value) (hd : a.eval d = v) (hs : a.eval s = u) {v' : Value} {w' : World}
    (hr : (Builtin.copy_ #[t, t'] o.type #[v, u]).run P w = .ok v' w') (h : wpList P ops Q rest (a.put o.dst v') w') : wpList P ops Q (o :: rest) a w :=
  wpList_plain hgd fun _ hK => by
    unfold Oper.wp
    simp [execOp, ho, resolve, invoke, builtin, hd, hs, hr, Result.andThen]
    exact hK _ _ h
theorem step_copy_run' {P : Program} {ops : Array Oper} {o : Oper} {a : Act} {w : World} {K : Act → World → Prop} {Q : Exit → Act → World → Prop} {E : Prop}
    (hg : o.guard = none) (d x : Operand) (dT sT : TypeId) (hop : o.op = Op.call { callee := Callee.builtin Builtin.copy, args := #[d, x], argTypes := #[dT, sT] })
    (v u : Value) (hd : a.eval d = v) (hx : a.eval x = u) {v' : Value} {w' : World} (hr : (Builtin.copy_ #[dT, sT] o.type #[v, u]).run P w = .ok v' w') (hK : K (a.put o.dst v') w') :
    if Region.wanted o (yielded ops a.tmps) = true then Oper.wp P o a w K Q else E := by
  have hw : Region.wanted o (yielded ops a.tmps) = true := by simp [Region.wanted, hg]
  rw [if_pos hw]
  unfold Oper.wp
  simp [execOp, hop, resolve, invoke, builtin, hd, hx, hr, Result.andThen]
  exact hK

def InsPost (w : World) (v : Value) (r : S32) (xs : List S32) (i base : Nat) (ok : Nat → Prop) (e : Ending) (w' : World) : Prop :=
  ∃ v', e = .returned v' ∧ Kd.R k32 32 w' base ok v' (xs.take i ++ [r] ++ xs.drop i) ∧ w.grownBy w' v.ownBlock ∧ (v'.ownBlock = v.ownBlock ∨ ∃ b, v'.ownBlock = some b ∧ w.heap.size ≤ b)

theorem ins_cells (xs : List S32) (T : List Value) (i : Nat) (r : S32) (hi : i < xs.length) (hT : 2 ≤ T.length) :
    ((((cellsOf xs ++ T).take ((i + 1) * 2) ++ cellsOf (xs.drop i) ++ (cellsOf xs ++ T).drop ((i + 1) * 2 + (xs.length - i) * 2)).take (i * 2)) ++ [Value.string r.f0, Value.string r.f1] ++
      ((cellsOf xs ++ T).take ((i + 1) * 2) ++ cellsOf (xs.drop i) ++ (cellsOf xs ++ T).drop ((i + 1) * 2 + (xs.length - i) * 2)).drop (i * 2 + 1 * 2)) = cellsOf (xs.take i ++ [r] ++ xs.drop i) ++ T.drop 2 := by
  have hc := cellsOf_length xs
  have h1 : (cellsOf xs ++ T).take ((i + 1) * 2) = cellsOf (xs.take (i + 1)) := by rw [List.take_append_of_le_length (by omega), cellsOf_take]
  have h2 : (cellsOf xs ++ T).drop ((i + 1) * 2 + (xs.length - i) * 2) = T.drop 2 := by
    rw [show (i + 1) * 2 + (xs.length - i) * 2 = (cellsOf xs).length + 2 by omega, List.drop_append]
    simp
  have hl1 : (cellsOf (xs.take (i + 1))).length = (i + 1) * 2 := by rw [cellsOf_length, List.length_take]; omega
  rw [h1, h2, List.append_assoc (cellsOf (xs.take (i + 1))), List.take_append_of_le_length (by omega), ← cellsOf_take, List.take_take, show min i (i + 1) = i by omega,
    show i * 2 + 1 * 2 = (cellsOf (xs.take (i + 1))).length by omega, List.drop_left, cellsOf_append, cellsOf_append]
  simp [cellsOf]

theorem C_one {w : World} {vb : Nat} {r : S32} (hb : w.heap[vb]? = some (.cells #[Value.string r.f0, Value.string r.f1] 32 (0, 0))) : Kd.C k32 w (some ⟨vb, 0, none⟩) 1 [r] :=
  (Kd.R_reads' (row_close (base := 0) (ok := fun _ => True) (cap := 1) (xs := [r]) (T := []) (Nat.zero_le _) trivial (Nat.le_refl _) (by decide) rfl hb)).2.2
set_option maxHeartbeats 4000000 in
set_option maxRecDepth 100000 in
theorem insert_end (base : Nat) (ok : Nat → Prop) (g cap : Nat) (xs : List S32) (vb : Nat) (r : S32) (w : World) (hR : Kd.R k32 32 w base ok (.slice (some ⟨g, 0, none⟩) xs.length cap) xs) (hroom : xs.length + 1 ≤ cap) (hbase : base ≤ w.heap.size) (hfresh : ∀ k, w.heap.size ≤ k → ok k)
    (hb : w.heap[vb]? = some (.cells #[Value.string r.f0, Value.string r.f1] 32 (0, 0))) (hl : (xs.length + 1) * 32 ≤ 140737488355328) :
    Calls Tryd.prog 25 #[.slice (some ⟨g, 0, none⟩) xs.length cap, .int .i64 xs.length, .slice (some ⟨vb, 0, none⟩) 1 1] w (InsPost w (.slice (some ⟨g, 0, none⟩) xs.length cap) r xs xs.length base ok) := by
  have HR := Lib.hid hR
  have hmx := (Kd.R_reads' hR).2.2.2.1
  have HC1 := Lib.hid (C_one hb)
  have HP := Lib.hid (show ∀ v1 w1, Kd.R k32 32 w1 base ok v1 (xs ++ [r]) → w.grownBy w1 (some g) → (v1.ownBlock = some g ∨ ∃ b, v1.ownBlock = some b ∧ w.heap.size ≤ b) → InsPost w (.slice (some ⟨g, 0, none⟩) xs.length cap) r xs xs.length base ok (.returned v1) w1 from
    fun v1 w1 h1 h2 h3 => ⟨v1, rfl, by rw [List.take_length, List.drop_length, List.append_nil]; exact h1, h2, h3⟩)
  have hne : ¬ cap = xs.length := by omega
  have hnc : xs.length ≤ cap := by omega
  clear hR hb
  go_enter Tryd.func25, Tryd.ntmps25
  go_wp2_with (at_builtin; go_must (refine Kd.R_append_rows k32 (w0 := w) base rfl (.tmp 23) (.tmp 24) 22 32 (.agg #[(.string ⟨#[]⟩), (.string ⟨#[]⟩)]) 32 rfl Tryd.underlying22 info32 rfl (by decide) (by omega) (.slice (some ⟨g, 0, none⟩) xs.length cap) xs [r] (some ⟨vb, 0, none⟩) 1 1 ok (fun _ => False) rfl rfl HR.out HC1.out (fun x cs h => by rw [k32_open h]; exact k32_mkM _ _ _ x) (fun _ h => h.elim) hfresh (Below.refl _ _) hbase hl ?_))
  intro v1 w1 h1 hb1 h2 h3
  have H := Lib.hid (HP.out v1 w1 h1 h2 h3)
  clear h1 hb1 h2 h3
  go_wp2_with fail
  go_ret
  exact H.out
set_option maxHeartbeats 8000000 in
set_option maxRecDepth 100000 in
theorem insert_mid (base : Nat) (ok : Nat → Prop) (g cap : Nat) (xs : List S32) (i vb : Nat) (r : S32) (w : World) (hR : Kd.R k32 32 w base ok (.slice (some ⟨g, 0, none⟩) xs.length cap) xs) (hi : i < xs.length) (hroom : xs.length + 1 ≤ cap)
    (hb : w.heap[vb]? = some (.cells #[Value.string r.f0, Value.string r.f1] 32 (0, 0))) (hvb : vb ≠ g) :
    Calls Tryd.prog 25 #[.slice (some ⟨g, 0, none⟩) xs.length cap, .int .i64 i, .slice (some ⟨vb, 0, none⟩) 1 1] w (InsPost w (.slice (some ⟨g, 0, none⟩) xs.length cap) r xs i base ok) := by
  have hmx := (Kd.R_reads' hR).2.2.2.1
  rcases row_open hR with ⟨h0, -⟩ | ⟨g', cap', T, h0, hbg, hokg, hnc', hcap, hT, hg⟩
  · simp at h0
  injection h0 with h1 h2 h3
  injection h1 with h1
  injection h1 with h1
  subst h1; subst h3
  have hcl := cellsOf_length xs
  have hml : maxLen = 9223372036854775807 := rfl
  have hsz : ∀ w, (Go.sizeOf 32).run Tryd.prog w = .ok 2 w := fun w => by
    have hi := info32
    cases hq : Tryd.prog.info? 32 with
    | none => rw [hq] at hi; simp at hi
    | some i =>
      rw [hq] at hi
      simp only [Option.map_some, Option.some.injEq, Prod.mk.injEq] at hi
      have hi2 : i.size = 2 := hi.2.1
      simp [sizeOf, typeInfo, hq, hi2]
  have hov : ∀ o lb cb, (callFunc 30 #[.slice (some ⟨vb, 0, none⟩) 1 1, .slice (some ⟨g, o, none⟩) lb cb]).run Tryd.prog w = .ok (.value (.bool false)) w := fun o lb cb => by
    rw [run_callFunc_extern Tryd.func30 (by kernel_rfl) (by kernel_rfl) (by kernel_rfl) (e := Extern.SlicesOverlaps.overlaps #[22, 22] #[4]) (by kernel_rfl),
      Lib.run_overlaps_apart w 22 4 32 Tryd.underlying22 2 hsz ⟨vb, 0, none⟩ ⟨g, o, none⟩ 1 1 lb cb hvb 32 32 2 ((cellsOf xs ++ T).length) (by simp [World.shape?, hb]) (by simp [World.shape?, hg]) (by rw [List.length_append]; omega) (blk_frozen hb 0) (blk_frozen hb 2)]
    rfl
  have hcp1 : ∀ ty dc sc, (Builtin.copy_ #[22, 22] ty #[.slice (some ⟨g, (i + 1) * 2, none⟩) (xs.length - i) dc, .slice (some ⟨g, i * 2, none⟩) (xs.length + 1 - i) sc]).run Tryd.prog w.drew = .ok (goInt ((xs.length - i : Nat) : Int)) (w.drew.setRow g ((cellsOf xs ++ T).take ((i + 1) * 2) ++ cellsOf (xs.drop i) ++ (cellsOf xs ++ T).drop ((i + 1) * 2 + (xs.length - i) * 2)).toArray) := fun ty dc sc =>
    run_copy_rec w.drew ty g ((i + 1) * 2) _ dc ⟨g, i * 2, none⟩ _ sc _ (cellsOf (xs.drop i)) (xs.length - i) hg (by simp only [Nat.min_def]; split <;> omega) (by rw [cellsOf_length, List.length_drop])
      (fun j v hj => by
        have hj' : j < (cellsOf (xs.drop i)).length := by
          rcases Nat.lt_or_ge j (cellsOf (xs.drop i)).length with h | h
          · exact h
          · rw [List.getElem?_eq_none h] at hj; cases hj
        rw [cellsOf_length, List.length_drop] at hj'
        rw [cellsOf_drop, List.getElem?_drop] at hj
        have h1 := blk_cell hg (i * 2 + j)
        rw [List.getElem?_toArray, List.getElem?_append_left (by omega), hj] at h1
        rw [Addr.add_lit]
        exact h1) (by rw [List.length_append]; omega) (cellsOf_one _)
  obtain ⟨L1, hL1⟩ : ∃ L1, L1 = (cellsOf xs ++ T).take ((i + 1) * 2) ++ cellsOf (xs.drop i) ++ (cellsOf xs ++ T).drop ((i + 1) * 2 + (xs.length - i) * 2) := ⟨_, rfl⟩
  have hL1l : L1.length = cap * 2 := by
    rw [hL1]
    simp only [List.length_append, List.length_take, List.length_drop, cellsOf_length]
    omega
  obtain ⟨W1, hW1⟩ : ∃ W1, W1 = w.drew.setRow g L1.toArray := ⟨_, rfl⟩
  have hG1 : W1.heap[g]? = some (.cells L1.toArray 32 (0, 0)) := by rw [hW1]; exact setRow_heap w.drew g _ _ _ _ hg
  have hV1 : W1.heap[vb]? = some (.cells #[Value.string r.f0, Value.string r.f1] 32 (0, 0)) := by rw [hW1]; exact (setRow_other w.drew g vb _ hvb).trans hb
  have hcp2 : ∀ ty dc, (Builtin.copy_ #[22, 22] ty #[.slice (some ⟨g, i * 2, none⟩) (xs.length + 1 - i) dc, .slice (some ⟨vb, 0, none⟩) 1 1]).run Tryd.prog W1 = .ok (goInt ((1 : Nat) : Int)) (W1.setRow g (L1.take (i * 2) ++ [Value.string r.f0, Value.string r.f1] ++ L1.drop (i * 2 + 1 * 2)).toArray) := fun ty dc =>
    run_copy_rec W1 ty g (i * 2) _ dc ⟨vb, 0, none⟩ 1 1 _ [Value.string r.f0, Value.string r.f1] 1 hG1 (by simp only [Nat.min_def]; split <;> omega) rfl
      (fun j v hj => by
        have h1 := blk_cell hV1 j
        rw [Addr.add_lit, Nat.zero_add]
        exact h1.trans (by simpa using hj)) (by omega) (by intro v hv; simp at hv; rcases hv with rfl | rfl <;> rfl)
  rw [← hL1, ← hW1] at hcp1
  have hEnd : InsPost w (.slice (some ⟨g, 0, none⟩) xs.length cap) r xs i base ok (.returned (.slice (some ⟨g, 0, none⟩) (xs.length + 1) cap)) (W1.setRow g (L1.take (i * 2) ++ [Value.string r.f0, Value.string r.f1] ++ L1.drop (i * 2 + 1 * 2)).toArray) := by
    have hrow := setRow_heap W1 g _ (L1.take (i * 2) ++ [Value.string r.f0, Value.string r.f1] ++ L1.drop (i * 2 + 1 * 2)).toArray _ _ hG1
    have e := ins_cells xs T i r hi (by omega)
    rw [← hL1] at e
    rw [e] at hrow ⊢
    have hnl : (xs.take i ++ [r] ++ xs.drop i).length = xs.length + 1 := by simp; omega
    have := row_close (T := T.drop 2) hbg hokg (by omega : (xs.take i ++ [r] ++ xs.drop i).length ≤ cap) hcap (by rw [List.length_drop]; omega) hrow
    rw [hnl] at this
    refine ⟨_, rfl, this, grown_kp ?_, .inl rfl⟩
    have k1 : Kp [g] w W1 := by rw [hW1]; exact (Kp.refl [g] w).drew.trans ⟨rfl, rfl, rfl, by simp [World.setRow], fun k hk hn => setRow_other w.drew g k _ (by simpa using hn)⟩
    exact k1.trans ⟨rfl, rfl, rfl, by simp [World.setRow], fun k hk hn => setRow_other W1 g k _ (by simpa using hn)⟩
  have HE := Lib.hid hEnd
  have hw1 : IntKind.i64.wrap ((i : Int) + 1) = (i : Int) + 1 := by rw [IntKind.wrap_i64]; omega
  have hne : ¬ ((i : Int) = (xs.length : Int)) := by omega
  have htn : ((i : Int) + 1).toNat = i + 1 := by omega
  have hb2 : ¬ (cap = i + 1) := by omega
  have hb3 : (i : Int) ≤ (xs.length : Int) + 1 := by omega
  have hb4 : ¬ (cap = i) := by omega
  have hb5 : (0 : Int) ≤ (i : Int) := Int.natCast_nonneg i
  have hi1 : (i : Int) ≤ (xs.length : Int) := by omega
  have hb6 : (0 : Int) ≤ (i : Int) + 1 := by omega
  obtain ⟨L2, hL2⟩ : ∃ L2, L2 = (L1.take (i * 2) ++ [Value.string r.f0, Value.string r.f1] ++ L1.drop (i * 2 + 1 * 2)).toArray := ⟨_, rfl⟩
  rw [← hL2] at hcp2 HE hEnd
  clear hR hg hb hL1 hW1 hG1 hV1 hEnd hL2
  go_enter Tryd.func25, Tryd.ntmps25
  go_wp2_with (simp only [hov])
  go_region_law (refine step_copy_run' rfl _ _ 22 22 rfl _ _ (by simp [Act.eval, Act.put]) (by simp [Act.eval, Act.put]) (hcp1 _ _ _) ?_)
  go_wp2_with (at_builtin; go_must (refine wpList_copy_run' _ rfl _ _ 22 22 rfl _ _ rfl rfl (hcp2 _ _) ?_))
  go_ret
  exact HE.out
end Go.Proofs.YtmdfnelcgobpkaaDoor.Z
