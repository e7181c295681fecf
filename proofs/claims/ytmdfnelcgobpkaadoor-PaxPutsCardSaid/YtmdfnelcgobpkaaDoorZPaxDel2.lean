/- Walk of slices.DeleteFunc over Merge's predicate. -/
import Derived.Test.YtmdfnelcgobpkaaDoorZPaxDel
set_option linter.unusedVariables false
set_option linter.unusedSimpArgs false
namespace Go.Proofs.YtmdfnelcgobpkaaDoor.Z
open Go.RowKit Go.Shelf Go.Proofs.YtmdfnelcgobpkaaDoorW.PrintWords Go.Proofs.YtmdfnelcgobpkaaDoorW.PrintLast Go.Proofs.YtmdfnelcgobpkaaDoorW.PrintMore Go.Proofs.YtmdfnelcgobpkaaDoor.PPaxPuts

theorem filt_take {xs : List S32} {key : ByteArray} : ∀ {k : Nat} {h : k < xs.length}, hasKey key xs[k] = true → (xs.take (k + 1)).filter (fun r => !hasKey key r) = (xs.take k).filter (fun r => !hasKey key r) := by
  intro k h hp
  rw [List.take_succ_eq_append_getElem h, List.filter_append]
  simp [hp]
theorem filt_take' {xs : List S32} {key : ByteArray} : ∀ {k : Nat} {h : k < xs.length}, hasKey key xs[k] = false → (xs.take (k + 1)).filter (fun r => !hasKey key r) = (xs.take k).filter (fun r => !hasKey key r) ++ [xs[k]] := by
  intro k h hp
  rw [List.take_succ_eq_append_getElem h, List.filter_append]
  simp [hp]
theorem filt_none {xs : List S32} {key : ByteArray} (h : idxF key xs = -1) : xs.filter (fun r => !hasKey key r) = xs := by
  unfold idxF at h
  split at h
  · omega
  · next hn => exact List.filter_eq_self.2 (fun r hr => by rw [List.findIdx?_eq_none_iff.1 hn r hr]; rfl)
theorem idx_cases (key : ByteArray) (xs : List S32) : idxF key xs = -1 ∨ ∃ (k : Nat) (h : k < xs.length), idxF key xs = k ∧ hasKey key xs[k] = true ∧ (xs.take k).filter (fun r => !hasKey key r) = xs.take k := by
  unfold idxF
  split
  · next i hi =>
    obtain ⟨h, hp, hno⟩ := List.findIdx?_eq_some_iff_getElem.1 hi
    refine .inr ⟨i, h, rfl, hp, List.filter_eq_self.2 (fun r hr => ?_)⟩
    obtain ⟨j, hj, rfl⟩ := List.getElem_of_mem hr
    rw [List.length_take] at hj
    rw [List.getElem_take]
    have := hno j (by omega)
    simp at this
    simp [this]
  · exact .inl rfl
theorem row_cell {w : World} {g : Nat} {D : List S32} {T : List Value} {t : TypeId} (h : w.heap[g]? = some (.cells (cellsOf D ++ T).toArray t (0, 0))) (k : Nat) (hk : k < D.length) :
    w.cell? ⟨g, k * 2, none⟩ = some (.string D[k].f0) ∧ w.cell? ⟨g, k * 2 + 1, none⟩ = some (.string D[k].f1) := by
  have hl := cellsOf_length D
  have h0 := blk_cell h (k * 2)
  have h1 := blk_cell h (k * 2 + 1)
  rw [List.getElem?_toArray, List.getElem?_append_left (by omega)] at h0 h1
  exact ⟨h0.trans (cellsOf_get0 D k hk), h1.trans (cellsOf_get1 D k hk)⟩
theorem take_set_one {D : List S32} {i : Nat} {r : S32} (h : i < D.length) : (D.set i r).take (i + 1) = D.take i ++ [r] := by
  rw [List.take_succ_eq_append_getElem (by rw [List.length_set]; exact h), List.getElem_set_self, List.take_set, List.set_eq_of_length_le (by rw [List.length_take]; omega)]
def DelPost (w : World) (v : Value) (key : ByteArray) (xs : List S32) (base : Nat) (ok : Nat → Prop) (e : Ending) (w' : World) : Prop :=
  ∃ v', e = .returned v' ∧ Kd.R k32 32 w' base ok v' (xs.filter (fun r => !hasKey key r)) ∧ w.grownBy w' v.ownBlock ∧ v'.ownBlock = v.ownBlock ∧
    (idxF key xs ≠ -1 → ∃ (g n c : Nat), v' = .slice (some ⟨g, 0, none⟩) n c ∧ n + 1 ≤ c)
theorem grown_kp {g : Nat} {w w' : World} (h : Kp [g] w w') : w.grownBy w' (some g) := ⟨h.os, h.tape, h.output, h.size, fun k hk hn => h.block k hk (by simpa using fun e => hn (by rw [e]))⟩
theorem del_end {base g cap i : Nat} {ok : Nat → Prop} {w wr : World} {xs D : List S32} {T Z : List Value} {key : ByteArray} (hF : D.take i = xs.filter (fun r => !hasKey key r)) (hi : i < xs.length) (hnc : xs.length ≤ cap) (hcap : cap ≤ maxLen) (hT : T.length = (cap - xs.length) * 2)
    (hbg : base ≤ g) (hok : ok g) (hDl : D.length = xs.length) (hZ : Z.length = (xs.length - i) * 2) (hg : wr.heap[g]? = some (.cells (cellsOf D ++ T).toArray 32 (0, 0))) (hK : Kp [g] w wr) :
    DelPost w (.slice (some ⟨g, 0, none⟩) xs.length cap) key xs base ok (.returned (.slice (some ⟨g, 0, none⟩) i cap)) (wr.setRow g (List.take (i * 2) (cellsOf D ++ T) ++ (Z ++ List.drop (i * 2 + (xs.length - i) * 2) (cellsOf D ++ T))).toArray) := by
  have hl : (xs.filter (fun r => !hasKey key r)).length = i := by rw [← hF, List.length_take]; omega
  have hc := cellsOf_length D
  refine ⟨_, rfl, ?_, ?_, rfl, fun _ => ⟨g, i, cap, rfl, by omega⟩⟩
  · have hrow := setRow_heap wr g _ (List.take (i * 2) (cellsOf D ++ T) ++ (Z ++ List.drop (i * 2 + (xs.length - i) * 2) (cellsOf D ++ T))).toArray _ _ hg
    have e : List.take (i * 2) (cellsOf D ++ T) = cellsOf (xs.filter (fun r => !hasKey key r)) := by rw [List.take_append_of_le_length (by omega), ← cellsOf_take, hF]
    obtain ⟨Y, hY⟩ : ∃ Y, Y = Z ++ List.drop (i * 2 + (xs.length - i) * 2) (cellsOf D ++ T) := ⟨_, rfl⟩
    have hYl : Y.length = (cap - i) * 2 := by rw [hY, List.length_append, List.length_drop, List.length_append, hZ, hc, hT, hDl]; omega
    rw [e, ← hY] at hrow ⊢
    have := row_close (T := Y) hbg hok (by omega : (xs.filter (fun r => !hasKey key r)).length ≤ cap) hcap (by omega) hrow
    rw [hl] at this
    exact this
  · exact grown_kp (hK.trans ⟨rfl, rfl, rfl, by simp [World.setRow], fun k hk hn => setRow_other wr g k _ (by simpa using hn)⟩)
set_option maxHeartbeats 4000000 in
set_option maxRecDepth 100000 in
theorem del_calls (base : Nat) (ok : Nat → Prop) (v : Value) (xs : List S32) (b : Nat) (key val : ByteArray) (w : World) (hR : Kd.R k32 32 w base ok v xs) (hbk : ∀ k, ok k → k ≠ b)
    (hb : w.heap[b]? = some (.cells #[.string key, .string val] 32 (0, 0))) :
    Calls Tryd.prog 24 #[v, fnV b] w (DelPost w v key xs base ok) := by
  have HB := Lib.hid hb
  have HR := Lib.hid hR
  have HI := fun A c h => Lib.hid (index_calls A c xs b key val w h hb)
  obtain ⟨A0, c0, hv0, hnc, hC⟩ := Kd.R_reads hR
  have HIC := HI A0 c0 hC
  clear HI
  have hmx := hC.2.1
  rcases idx_cases key xs with hneg | ⟨k, hk, hpos, hkey, hpre⟩
  · rw [hneg] at HIC
    have hf := filt_none hneg
    have HP := Lib.hid (show ∀ w', Below w.heap.size w w' → DelPost w v key xs base ok (.returned v) w' from fun w' hB => ⟨v, rfl, by rw [hf]; exact Kd.R_below hR hB, ⟨hB.os, hB.tape, hB.output, hB.size, fun k hk _ => hB.block k hk⟩, rfl, fun h => absurd hneg h⟩)
    subst hv0
    clear hR hb hC hneg hf
    unfold fnV at HIC ⊢
    go_enter Tryd.func24, Tryd.ntmps24
    go_wp2_with fail
    refine HIC.out.mono ?_
    rintro e w1 ⟨rfl, hb1⟩
    have HW1 := Lib.hid hb1
    clear hb1
    go_wp2_with fail
    go_ret
    exact HP.out _ HW1.out
  · rcases row_open hR with ⟨rfl, rfl⟩ | ⟨g, cap, T, rfl, hbg, hokg, hnc', hcap, hT, hg⟩
    · simp at hk
    rw [hpos] at HIC
    injection hv0 with h1 h2 h3
    subst h1; subst h3
    have hgb : g ≠ b := hbk g hokg
    have HG := Lib.hid hg
    have hcl := cellsOf_length xs
    clear hR hb hC hg
    unfold fnV at HIC ⊢
    go_enter Tryd.func24, Tryd.ntmps24
    go_wp2_with fail
    refine HIC.out.mono ?_
    rintro e w1 ⟨rfl, hb1⟩
    have HW1 := Lib.hid hb1
    clear hb1
    have HK := Lib.hid (Kp.of_below HW1.out [g])
    have hg1 := HK.out
    have HB1 := Lib.hid (blk_below HB.out HW1.out)
    have HG1 := Lib.hid (blk_below HG.out HW1.out)
    clear hg1 HB HG
    dsimp only
    go_wp2_with fail
    rw [show ((k : Int) == -1) = false from beq_false_of_ne (by omega)]
    go_loopw [5, 6] (fun t5 t6 wr => ∃ (i j : Nat) (D : List S32), i < j ∧ j ≤ xs.length ∧ t5 = .int .i64 i ∧ t6 = .int .i64 j ∧ D.length = xs.length ∧ Hid (D.take i = (xs.take j).filter (fun r => !hasKey key r)) ∧ Hid (D.drop j = xs.drop j) ∧
      Hid (wr.heap[g]? = some (.cells (cellsOf D ++ T).toArray 32 (0, 0))) ∧ Hid (Kp [g] w wr) ∧ Hid (wr.heap[b]? = some (.cells #[.string key, .string val] 32 (0, 0)))) (fun t5 t6 _ => xs.length - (intOf t6).toNat)
    case atStart => exact ⟨k, k + 1, xs, by omega, by omega, rfl, by go_num, rfl, Lib.hid (by rw [filt_take (h := hk) hkey, hpre]), rfl, HG1.out, HK.out, HB1.out⟩
    case round =>
      obtain ⟨i, j, D, hij, hjn, rfl, rfl, hDl, HDT, HDD, HGr, HKr, HBr⟩ := hrel
      have hDc := cellsOf_length D
      by_cases hlt : j < xs.length
      · have hjD : j < D.length := by omega
        have hxj : D[j] = xs[j] := by
          have := congrArg List.head? HDD.out
          rw [List.head?_drop, List.head?_drop, List.getElem?_eq_getElem hjD, List.getElem?_eq_getElem hlt] at this
          exact Option.some.inj this
        obtain ⟨hx0, hx1⟩ := row_cell HGr.out j hjD
        rw [hxj] at hx0 hx1
        have hj0 : (0 : Int) ≤ (j : Int) := Int.natCast_nonneg j
        have hi0 : (0 : Int) ≤ (i : Int) := Int.natCast_nonneg i
        have hj1 : (j : Int) < (xs.length : Int) := by omega
        have hi1 : (i : Int) < (xs.length : Int) := by omega
        have HBa := Lib.hid (blk_alloc HBr.out (.cells #[.string xs[j].f0, .string xs[j].f1] 32))
        have HP := Lib.hid (pred_calls b key val xs[j] _ HBa.out)
        have HGa := Lib.hid (blk_alloc HGr.out (.cells #[.string xs[j].f0, .string xs[j].f1] 32))
        have HKa := Lib.hid (HKr.out.alloc (.cells #[.string xs[j].f0, .string xs[j].f1] 32))
        cases hp : hasKey key xs[j] with
        | true =>
          rw [hp] at HP
          go_wp2_with fail
          refine HP.out.mono ?_
          rintro e w2 ⟨rfl, hb2⟩
          have HB2 := Lib.hid (blk_below HBa.out hb2)
          have HG2 := Lib.hid (blk_below HGa.out hb2)
          have HK2 := Lib.hid (HKa.out.below hb2)
          clear hb2
          go_wp2_with fail
          go_roundw
          case rel => exact ⟨i, j + 1, D, by omega, by omega, rfl, by go_num, hDl, Lib.hid (by rw [HDT.out, filt_take (h := hlt) hp]), Lib.hid (by rw [← List.drop_drop, HDD.out, List.drop_drop]), HG2.out, HK2.out, HB2.out⟩
          case measure => simp [intOf]; omega
        | false =>
          rw [hp] at HP
          go_wp2_with fail
          refine HP.out.mono ?_
          rintro e w2 ⟨rfl, hb2⟩
          have HB2 := Lib.hid (blk_below HBa.out hb2)
          have HG2 := Lib.hid (blk_below HGa.out hb2)
          have HK2 := Lib.hid (HKa.out.below hb2)
          have hbx := blk_below (blk_new wr (.cells #[.string xs[j].f0, .string xs[j].f1] 32)) hb2
          have hbx0 := blk_cell hbx 0
          have hbx1 := blk_cell hbx 1
          simp only [List.getElem?_toArray, List.getElem?_cons_zero, List.getElem?_cons_succ] at hbx0 hbx1
          obtain ⟨hy0, hy1⟩ := row_cell HG2.out i (by omega)
          have hf0 := blk_frozen HG2.out (i * 2)
          have hf1 := blk_frozen HG2.out (i * 2 + 1)
          clear hb2 hbx
          go_wp2_with fail
          go_roundw
          case rel => exact ⟨i + 1, j + 1, D.set i xs[j], by omega, by omega, by go_num, by go_num, by rw [List.length_set]; exact hDl,
            Lib.hid (by rw [take_set_one (by omega), HDT.out, filt_take' (h := hlt) hp]),
            Lib.hid (by rw [List.drop_set_of_lt (by omega), ← List.drop_drop, HDD.out, List.drop_drop]),
            blk_put (blk_put HG2.out (i * 2) _ rfl) (i * 2 + 1) _ (by rw [← cellsOf_set D T i xs[j] (by omega)]; simp),
            Lib.hid ((HK2.out.setCell (.inl List.mem_cons_self) _).setCell (.inl List.mem_cons_self) _),
            blk_far (blk_far HB2.out (p := ⟨g, i * 2, none⟩) (Ne.symm hgb) _) (p := ⟨g, i * 2 + 1, none⟩) (Ne.symm hgb) _⟩
          case measure => simp [intOf]; omega
      · obtain rfl : j = xs.length := by omega
        have hT' := HDT.out
        rw [List.take_length] at hT'
        have hF := Lib.hid hT'
        obtain ⟨Z, hZl, hZ⟩ := run_clear_rec wr g (i * 2) (xs.length - i) (cap - i) (cellsOf D ++ T) (by omega) HGr.out (by rw [List.length_append]; omega)
        have hjn' : ¬ ((xs.length : Int) < (xs.length : Int)) := by omega
        have hi1 : (i : Int) ≤ (xs.length : Int) := by omega
        have hi0 : (0 : Int) ≤ (i : Int) := Int.natCast_nonneg i
        clear hT'
        go_wp2_with fail
        go_ret
        exact del_end hF.out (by omega) hnc' hcap hT hbg hokg hDl hZl HGr.out HKr.out
end Go.Proofs.YtmdfnelcgobpkaaDoor.Z
