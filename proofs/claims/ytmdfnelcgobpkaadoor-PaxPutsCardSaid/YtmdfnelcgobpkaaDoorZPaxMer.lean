/- Walk of pax.Merge. -/
import Derived.Test.YtmdfnelcgobpkaaDoorZPaxIns
set_option linter.unusedVariables false
set_option linter.unusedSimpArgs false
namespace Go.Proofs.YtmdfnelcgobpkaaDoor.Z
open Go.RowKit Go.Shelf Go.Proofs.YtmdfnelcgobpkaaDoorW.PrintWords Go.Proofs.YtmdfnelcgobpkaaDoorW.PrintLast Go.Proofs.YtmdfnelcgobpkaaDoorW.PrintMore Go.Proofs.YtmdfnelcgobpkaaDoor.PPaxPuts

def mstep (out : List S32) (r : S32) : List S32 :=
  let rest := out.filter (fun x => !hasKey r.f0 x)
  if r.f1.toList.isEmpty then rest else
  match out.findIdx? (hasKey r.f0) with
  | none => rest ++ [r]
  | some k => rest.take k ++ [r] ++ rest.drop k
def mergeF (l more : List S32) : List S32 := more.foldl mstep l
theorem mstep_length (out : List S32) (r : S32) : (mstep out r).length ≤ out.length + 1 := by
  have h := List.length_filter_le (fun x => !hasKey r.f0 x) out
  unfold mstep
  dsimp only
  split
  · omega
  · split
    · simp; omega
    · simp only [List.length_append, List.length_take, List.length_drop, List.length_singleton]; omega
theorem mergeF_length : ∀ (more l : List S32), (mergeF l more).length ≤ l.length + more.length
  | [], l => Nat.le_refl _
  | r :: more, l => by
    have h1 := mergeF_length more (mstep l r)
    have h2 := mstep_length l r
    show (mergeF (mstep l r) more).length ≤ _
    rw [List.length_cons]
    omega
theorem mergeF_snoc (l more : List S32) (k : Nat) (h : k < more.length) : mergeF l (more.take (k + 1)) = mstep (mergeF l (more.take k)) more[k] := by
  unfold mergeF
  rw [List.take_succ_eq_append_getElem h, List.foldl_append]
  rfl
theorem mstep_none {out : List S32} {r : S32} (h : r.f1.toList.isEmpty = true) : mstep out r = out.filter (fun x => !hasKey r.f0 x) := by unfold mstep; simp [h]
theorem mstep_add {out : List S32} {r : S32} (h : r.f1.toList.isEmpty = false) (hi : idxF r.f0 out = -1) : mstep out r = out.filter (fun x => !hasKey r.f0 x) ++ [r] := by
  unfold idxF at hi
  unfold mstep
  dsimp only
  split at hi
  · omega
  · next hn => rw [if_neg (by rw [h]; decide), hn]
theorem mstep_put {out : List S32} {r : S32} {k : Nat} (h : r.f1.toList.isEmpty = false) (hi : idxF r.f0 out = k) : mstep out r = (out.filter (fun x => !hasKey r.f0 x)).take k ++ [r] ++ (out.filter (fun x => !hasKey r.f0 x)).drop k := by
  unfold idxF at hi
  unfold mstep
  dsimp only
  split at hi
  · next i hn =>
    have : i = k := by omega
    subst this
    rw [if_neg (by rw [h]; decide), hn]
  · omega

set_option maxHeartbeats 8000000 in
set_option maxRecDepth 100000 in
theorem merge_calls (A : Option Addr) (c : Nat) (l : List S32) (A' : Option Addr) (c' : Nat) (more : List S32) (w : World) (hC : Kd.C k32 w A l.length l) (hc : l.length ≤ c) (hC' : Kd.C k32 w A' more.length more) (hc' : more.length ≤ c') (hbig : (l.length + more.length) * 32 ≤ 140737488355328) :
    Calls Tryd.prog 14 #[.slice A l.length c, .slice A' more.length c'] w fun e w' => ∃ v', e = .returned v' ∧ Kd.R k32 32 w' w.heap.size (fun _ => True) v' (mergeF l more) ∧ Below w.heap.size w w' := by
  have HC := Lib.hid hC
  have HC' := Lib.hid hC'
  have hml' := hC'.2.1
  have hR0 := Kd.R_nil k32 32 w w.heap.size (fun _ => True)
  have HR0 := Lib.hid hR0
  clear hC hC' hR0
  go_enter Tryd.func14, Tryd.ntmps14
  go_wp2_with (at_builtin; go_must (refine Kd.R_append_rows k32 (w0 := w) w.heap.size rfl (.const (.slice none 0 0)) (.tmp 10) 22 32 (.agg #[(.string ⟨#[]⟩), (.string ⟨#[]⟩)]) 32 rfl Tryd.underlying22 info32 rfl (by decide) (by omega) (.slice none 0 0) [] l A l.length c (fun _ => True) (fun _ => False) rfl rfl HR0.out HC.out (fun x cs h => by rw [k32_open h]; exact k32_mkM _ _ _ x) (fun _ h => h.elim) (fun _ _ => trivial) (Below.refl _ _) (Nat.le_refl _) (by simp only [List.length_nil]; omega) ?_))
  intro v1 w1 h1 hb1 h2 h3
  have HR1 := Lib.hid (show Kd.R k32 32 w1 w.heap.size (fun _ => True) v1 (mergeF l (more.take 0)) from h1)
  have HB1 := Lib.hid hb1
  clear h1 hb1 h2 h3
  go_wp2_with fail
  go_loopw [5, 14] (fun t5 t14 wr => ∃ (k : Nat), k ≤ more.length ∧ t14 = .int .i64 k ∧ Hid (Kd.R k32 32 wr w.heap.size (fun _ => True) t5 (mergeF l (more.take k))) ∧ Hid (Below w.heap.size w wr)) (fun _ t14 _ => more.length - (intOf t14).toNat)
  case atStart => exact ⟨0, by omega, by go_num, HR1.out, HB1.out⟩
  case round =>
    obtain ⟨k, hk, rfl, HR, HB⟩ := hrel
    by_cases hlt : k < more.length
    · obtain ⟨ad, rfl, hx0, hx1⟩ := s32_at (Kd.C_below HC'.out HB.out) k hlt
      have hk0 : (0 : Int) ≤ (k : Int) := Int.natCast_nonneg k
      have hk1 : (k : Int) < (more.length : Int) := by omega
      have HN := Lib.hid (mergeF_snoc l more k hlt)
      have HL := Lib.hid (mergeF_length (more.take k) l)
      generalize mergeF l (more.take k) = xs at *
      generalize more[k] = r at *
      obtain ⟨A2, c2, rfl, hc2, hC2⟩ := Kd.R_reads HR.out
      have hbox := blk_new wr (.cells #[.string r.f0, .string r.f1] 32)
      have HBX := Lib.hid hbox
      have HI := Lib.hid (index_calls A2 c2 xs wr.heap.size r.f0 r.f1 _ (Kd.C_alloc hC2 _) hbox)
      have HRB := Lib.hid (show Kd.R k32 32 (wr.alloc (.cells #[.string r.f0, .string r.f1] 32)) w.heap.size (fun j => j ≠ wr.heap.size) (.slice A2 xs.length c2) xs from
        Kd.R_below (Kd.R_mono (Kd.R_bound HR.out) (fun j hj => by have := hj.2.2.1; omega)) (below_alloc (Below.refl _ _) _))
      have HOW := Lib.hid (show ∀ j, (Value.slice A2 xs.length c2).ownBlock = some j → w.heap.size ≤ j ∧ j < wr.heap.size from fun j hj => ⟨((Kd.R_bound HR.out).1 j hj).2.1, ((Kd.R_bound HR.out).1 j hj).2.2.1⟩)
      have HBa := Lib.hid (below_alloc HB.out (.cells #[.string r.f0, .string r.f1] 32))
      clear hbox hC2
      unfold fnV at HI
      go_wp2_with fail
      refine HI.out.mono ?_
      rintro e w2 ⟨rfl, hbw⟩
      have HB2 := Lib.hid (HBa.out.trans (hbw.mono HBa.out.size))
      have HRB2 := Lib.hid (Kd.R_below HRB.out hbw)
      have hbox2 := blk_below HBX.out hbw
      have HBX2 := Lib.hid hbox2
      have HD := Lib.hid (del_calls w.heap.size (fun j => j ≠ wr.heap.size) _ xs wr.heap.size r.f0 r.f1 w2 HRB2.out (fun _ h => h) hbox2)
      clear hbw hbox2
      unfold fnV at HD
      go_wp2_with fail
      refine HD.out.mono ?_
      rintro e w3 ⟨v3, rfl, hR3, hg3, hown3, hroom⟩
      have hbox3 := blk_grown HBX2.out hg3 (fun e => (HRB2.out.1 _ e.symm) rfl)
      have HBX3 := Lib.hid hbox3
      have HR3 := Lib.hid hR3
      have HB3 := Lib.hid (HB2.out.grown hg3 HB2.out.size (fun j hj => (HOW.out j hj).1))
      have HRM := Lib.hid hroom
      have hbx0 := blk_cell hbox3 0
      have hbx1 := blk_cell hbox3 1
      simp only [List.getElem?_toArray, List.getElem?_cons_zero, List.getElem?_cons_succ] at hbx0 hbx1
      clear hbox3 hR3 hg3 hroom HD HI
      have HL2 := Lib.hid (show xs.length + 1 ≤ l.length + more.length by have := HL.out; rw [List.length_take] at this; omega)
      have hfl := List.length_filter_le (fun x => !hasKey r.f0 x) xs
      cases hz : r.f1.toList.isEmpty with
      | true =>
        rw [mstep_none hz] at HN
        go_wp2_with fail
        go_roundw
        case rel => exact ⟨k + 1, by omega, by go_num, by rw [HN.out]; exact Kd.R_mono HR3.out (fun _ _ => trivial), HB3.out⟩
        case measure => simp [intOf]; omega
      | false =>
        rcases idx_cases r.f0 xs with hneg | ⟨k0, hk0', hpos, hkey, hpre⟩
        · rw [mstep_add hz hneg] at HN
          rw [hneg]
          have hR4 := Lib.hid (Kd.R_mono (ok' := fun _ => True) HR3.out (fun _ _ => trivial))
          have hos := Kd.R_bound HR3.out
          go_wp2_with (at_builtin; go_must (refine Kd.R_append k32 (w0 := w) w.heap.size rfl (.tmp 37) (.tmp 39) 22 32 (.agg #[(.string ⟨#[]⟩), (.string ⟨#[]⟩)]) 32 rfl Tryd.underlying22 info32 rfl (by decide) (by omega) v3 (xs.filter (fun x => !hasKey r.f0 x)) r [.string r.f0, .string r.f1] (fun _ => True) (fun _ => False) rfl rfl (k32_mkM _ _ _ r) (fun _ h => h.elim) (fun _ _ => trivial) hR4.out HB3.out HB3.out.size (by have := HL2.out; omega) ?_))
          intro v4 w4 h1 hb1 h2 h3
          have HR4 := Lib.hid h1
          have HB4 := Lib.hid hb1
          clear h1 hb1 h2 h3
          go_wp2_with fail
          go_roundw
          case rel => exact ⟨k + 1, by omega, by go_num, by rw [HN.out]; exact HR4.out, HB4.out⟩
          case measure => simp [intOf]; omega
        · rw [mstep_put hz hpos] at HN
          rw [hpos]
          obtain ⟨g, n3, c3, rfl, hn3⟩ := HRM.out (by omega)
          obtain rfl : n3 = (xs.filter (fun x => !hasKey r.f0 x)).length := (Kd.R_reads' HR3.out).1
          have hkf : k0 ≤ (xs.filter (fun x => !hasKey r.f0 x)).length := by
            have := (List.take_sublist k0 xs).filter (fun x => !hasKey r.f0 x) |>.length_le
            rw [hpre, List.length_take] at this
            omega
          have hneg0 : ¬ (k0 : Int) < 0 := by omega
          have hgl : g < w3.heap.size ∧ w.heap.size ≤ g := ⟨((Kd.R_bound HR3.out).1 g rfl).2.2.1, ((Kd.R_bound HR3.out).1 g rfl).2.1⟩
          have HR4 := Lib.hid (Kd.R_below (Kd.R_mono (ok' := fun _ => True) HR3.out (fun _ _ => trivial)) (below_alloc (Below.refl _ _) (.cells #[.string r.f0, .string r.f1] 32)))
          have HB4 := Lib.hid (below_alloc HB3.out (.cells #[.string r.f0, .string r.f1] 32))
          have hins := Lib.hid (show Calls Tryd.prog 25 #[.slice (some ⟨g, 0, none⟩) (xs.filter (fun x => !hasKey r.f0 x)).length c3, .int .i64 k0, .slice (some ⟨w3.heap.size, 0, none⟩) 1 1] (w3.alloc (.cells #[.string r.f0, .string r.f1] 32)) (InsPost (w3.alloc (.cells #[.string r.f0, .string r.f1] 32)) (.slice (some ⟨g, 0, none⟩) (xs.filter (fun x => !hasKey r.f0 x)).length c3) r (xs.filter (fun x => !hasKey r.f0 x)) k0 w.heap.size (fun _ => True)) from by
            rcases Nat.lt_or_ge k0 (xs.filter (fun x => !hasKey r.f0 x)).length with h | h
            · exact insert_mid w.heap.size _ g c3 _ k0 w3.heap.size r _ HR4.out h hn3 (blk_new w3 _) (by omega)
            · obtain rfl : k0 = (xs.filter (fun x => !hasKey r.f0 x)).length := by omega
              exact insert_end w.heap.size _ g c3 _ w3.heap.size r _ HR4.out hn3 HB4.out.size (fun _ _ => trivial) (blk_new w3 _) (by have := HL2.out; omega))
          go_wp2_with fail
          refine hins.out.mono ?_
          rintro e w5 ⟨v5, rfl, hR5, hg5, hown5⟩
          have HR5 := Lib.hid hR5
          have HB5 := Lib.hid (HB4.out.grown hg5 HB4.out.size (fun j hj => by cases hj; exact hgl.2))
          clear hR5 hg5 hown5
          go_wp2_with fail
          go_roundw
          case rel => exact ⟨k + 1, by omega, by go_num, by rw [HN.out]; exact HR5.out, HB5.out⟩
          case measure => simp [intOf]; omega
    · obtain rfl : k = more.length := by omega
      have hn : ¬ ((more.length : Int) < (more.length : Int)) := by omega
      rw [List.take_length] at HR
      go_wp2_with fail
      go_ret
      exact ⟨_, rfl, HR.out, HB.out⟩
end Go.Proofs.YtmdfnelcgobpkaaDoor.Z
