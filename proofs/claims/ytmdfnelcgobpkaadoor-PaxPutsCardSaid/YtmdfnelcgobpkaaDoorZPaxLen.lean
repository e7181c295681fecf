/- How long a record is: the plain function, and the walks of pax.Len and of the reference's Len. -/
import Derived.Test.YtmdfnelcgobpkaaDoorZBuild24
import Derived.Lib.ItoaLen
import Derived.Lib.LaidTab
import Derived.Lib.AppendIntMem
import Derived.WalkMore
import Derived.ScopeJumps
import Derived.Deep.LoopGhost
set_option linter.unusedVariables false
set_option linter.unusedSimpArgs false
namespace Go.Proofs.YtmdfnelcgobpkaaDoor.Z
open Go.RowKit Go.Shelf Go.Proofs.YtmdfnelcgobpkaaDoorW.PrintWords Go.Proofs.YtmdfnelcgobpkaaDoorW.PrintLast Go.Proofs.YtmdfnelcgobpkaaDoorW.PrintMore Go.Proofs.YtmdfnelcgobpkaaDoor.PPaxPuts

theorem digits_mono : ∀ (b a : Nat), a ≤ b → Lib.nDigits a ≤ Lib.nDigits b := by
  intro b
  induction b using Nat.strongRecOn with
  | _ b ih =>
    intro a h
    by_cases hb : b < 10
    · rw [Lib.nDigits_small hb, Lib.nDigits_small (by omega)]
      exact Nat.le_refl _
    · by_cases ha : a < 10
      · rw [Lib.nDigits_small ha]
        exact Lib.nDigits_pos b
      · rw [Lib.nDigits_big hb, Lib.nDigits_big ha]
        have := ih (b / 10) (by omega) (a / 10) (by omega)
        omega
theorem itoa_len (n : Nat) : (Lib.itoa (n : Int)).length = Lib.nDigits n := by
  unfold Lib.itoa
  rw [if_neg (by omega), Int.toNat_natCast, Lib.decDigits_length]
/-- The least length from d digits on that says itself. -/
def lenD (bare : Nat) : Nat → Nat → Nat
  | 0, d => bare + d
  | f + 1, d => if Lib.nDigits (bare + d) = d then bare + d else lenD bare f (d + 1)
def lenF (bare : Nat) : Nat := lenD bare 30 1
theorem lenD_skip (bare : Nat) : ∀ (k d f : Nat), (∀ e, d ≤ e → e < d + k → Lib.nDigits (bare + e) ≠ e) → k ≤ f → lenD bare f d = lenD bare (f - k) (d + k)
  | 0, d, f, _, _ => rfl
  | k + 1, d, f, h, hk => by
    obtain ⟨f, rfl⟩ : ∃ m, f = m + 1 := ⟨f - 1, by omega⟩
    rw [lenD, if_neg (h d (Nat.le_refl _) (by omega)), lenD_skip bare k (d + 1) f (fun e h1 h2 => h e (by omega) (by omega)) (by omega)]
    congr 1 <;> omega
theorem tab_below {w w' : World} (h : Lib.TabIs Tryd.prog w "internal/strconv.uint64pow10" .u64 Lib.pow10Tab) (hb : Below w.heap.size w w') : Lib.TabIs Tryd.prog w' "internal/strconv.uint64pow10" .u64 Lib.pow10Tab := by
  have hg : Tryd.prog.globalNamed "internal/strconv.uint64pow10" = some 1 := by kernel_rfl
  unfold Lib.TabIs World.var? at h ⊢
  rw [hg] at h ⊢
  simp only [Option.bind_some] at h ⊢
  have hlt : 1 < w.heap.size := by
    rcases Nat.lt_or_ge 1 w.heap.size with h' | h'
    · exact h'
    · rw [Array.getElem?_eq_none h'] at h; cases h
  rw [hb.block 1 hlt]
  exact h
theorem itoa_calls (n : Nat) (hn : n ≤ 9223372036854775807) (w : World) (htab : Lib.TabIs Tryd.prog w "internal/strconv.uint64pow10" .u64 Lib.pow10Tab) :
    Calls Tryd.prog 20 #[.int .i64 (n : Int)] w fun e w' => e = .returned (.string ⟨(Lib.decDigits n).toArray⟩) ∧ Below w.heap.size w w' := by
  refine (Tryd.strconv_Itoa (n : Int) (by omega) (by omega) w htab).mono ?_
  rintro e w' ⟨rfl, k, os, rfl⟩
  refine ⟨?_, Lib.below_grow _ _ (Nat.le_refl _) k os⟩
  unfold Lib.itoa
  rw [if_neg (by omega), Int.toNat_natCast]
theorem dec_size (n : Nat) : (⟨(Lib.decDigits n).toArray⟩ : ByteArray).size = Lib.nDigits n := by
  show (Lib.decDigits n).toArray.size = _
  rw [List.size_toArray, Lib.decDigits_length]

set_option maxHeartbeats 4000000 in
set_option maxRecDepth 100000 in
theorem len_calls (key value : ByteArray) (bare : Nat) (w : World) (hbare : key.size + value.size + 3 = bare) (hbb : bare ≤ 3000000000000000000) (htab : Lib.TabIs Tryd.prog w "internal/strconv.uint64pow10" .u64 Lib.pow10Tab) :
    Calls Tryd.prog 9 #[.agg #[.string key, .string value]] w fun e w' => e = .returned (.int .i64 (lenF bare : Int)) ∧ Below w.heap.size w w' := by
  have HT1 := Lib.hid (tab_below htab (below_alloc (Below.refl w.heap.size w) (.cells #[.string key, .string value] 32)))
  have HB1 := Lib.hid (below_alloc (Below.refl w.heap.size w) (.cells #[.string key, .string value] 32))
  have e1 : wrap64 ((key.size : Int) + (value.size : Int)) = (key.size : Int) + (value.size : Int) := by unfold wrap64; omega
  have e2 : wrap64 ((key.size : Int) + (value.size : Int) + 3) = (bare : Int) := by unfold wrap64; omega
  have e3 : wrap64 ((bare : Int) + 1) = ((bare + 1 : Nat) : Int) := by unfold wrap64; omega
  clear htab
  go_enter Tryd.func9, Tryd.ntmps9
  go_wp2_with fail
  go_step3
  go_wp2_with fail
  go_step3
  go_wp2_with fail
  have e4 : (key.size : Int) + (value.size : Int) + 3 = (bare : Int) := by omega
  rw [e4]
  go_loopw [4] (fun t4 wr => ∃ d : Nat, 1 ≤ d ∧ d ≤ 20 ∧ d ≤ Lib.nDigits (bare + d) ∧ t4 = .int .i64 ((bare : Int) + (d : Int)) ∧ Hid (lenD bare (31 - d) d = lenF bare) ∧ Hid (Lib.TabIs Tryd.prog wr "internal/strconv.uint64pow10" .u64 Lib.pow10Tab) ∧ Below w.heap.size w wr) (fun t4 _ => bare + 31 - (intOf t4).toNat)
  case atStart => exact ⟨1, by omega, by omega, Lib.nDigits_pos _, rfl, rfl, HT1, HB1.out⟩
  case round =>
    obtain ⟨d, h1, hd20, hd, rfl, hF, hT, hB⟩ := hrel
    have HB := Lib.hid hB
    have h20 := Lib.nDigits_le20 (bare + d) (by omega)
    clear HT1 HB1 hB
    go_wp2_with fail
    refine (itoa_calls (bare + d) (by omega) _ hT.out).mono ?_
    rintro e w1 ⟨rfl, hb1⟩
    have hsz := dec_size (bare + d)
    have hm : wrap64 ((bare : Int) + ((Lib.nDigits (bare + d) : Nat) : Int)) = (bare : Int) + ((Lib.nDigits (bare + d) : Nat) : Int) := by unfold wrap64; omega
    obtain ⟨dd, hdd⟩ : ∃ dd, dd = Lib.nDigits (bare + d) := ⟨_, rfl⟩
    rw [← hdd] at hsz hm hd h20
    generalize (⟨(Lib.decDigits (bare + d)).toArray⟩ : ByteArray) = txt at *
    have HT2 := Lib.hid (tab_below hT.out hb1)
    have HB2 := Lib.hid (HB.out.trans (hb1.mono HB.out.size))
    clear hT HB hb1
    by_cases hfix : dd = d
    · subst hfix
      have HL := Lib.hid (show lenF bare = bare + dd from by
        rw [← hF.out]
        obtain ⟨f, hf⟩ : ∃ f, 31 - dd = f + 1 := ⟨30 - dd, by omega⟩
        rw [hf, lenD, if_pos hdd.symm])
      clear hF hdd
      have hne : ((bare : Int) + (dd : Int) != (bare : Int) + (dd : Int)) = false := by simp
      go_wp2_with fail
      rw [Exit.noGoto_ret]
      go_ret
      rw [HL.out]
      exact ⟨rfl, HB2.out⟩
    · have HL := Lib.hid (show lenD bare (31 - dd) dd = lenF bare from by
        rw [← hF.out, lenD_skip bare (dd - d) d (31 - d) (fun e he1 he2 => ?_) (by omega)]
        · congr 1 <;> omega
        · have := digits_mono (bare + e) (bare + d) (by omega)
          omega)
      have HM := Lib.hid (show dd ≤ Lib.nDigits (bare + dd) from by
        have := digits_mono (bare + dd) (bare + d) (by omega)
        omega)
      clear hF hdd
      have hne : ((bare : Int) + (dd : Int) != (bare : Int) + (d : Int)) = true := by
        have : (bare : Int) + (dd : Int) ≠ (bare : Int) + (d : Int) := by omega
        simpa using this
      go_wp2_with fail
      go_roundw
      case rel => exact ⟨dd, by omega, h20, HM.out, rfl, HL, HT2, HB2.out⟩
      case measure => simp [intOf]; omega

set_option maxHeartbeats 4000000 in
set_option maxRecDepth 100000 in
theorem rlen_calls (key value : ByteArray) (bare : Nat) (w : World) (hbare : key.size + value.size + 3 = bare) (hbb : bare ≤ 3000000000000000000) (htab : Lib.TabIs Tryd.prog w "internal/strconv.uint64pow10" .u64 Lib.pow10Tab) :
    Calls Tryd.prog 10 #[.agg #[.string key, .string value]] w fun e w' => e = .returned (.int .i64 (lenF bare : Int)) ∧ Below w.heap.size w w' := by
  have HT1 := Lib.hid (tab_below htab (below_alloc (Below.refl w.heap.size w) (.cells #[.string key, .string value] 32)))
  have HB1 := Lib.hid (below_alloc (Below.refl w.heap.size w) (.cells #[.string key, .string value] 32))
  have e1 : wrap64 ((key.size : Int) + (value.size : Int)) = (key.size : Int) + (value.size : Int) := by unfold wrap64; omega
  have e2 : wrap64 ((key.size : Int) + (value.size : Int) + 3) = (bare : Int) := by unfold wrap64; omega
  clear htab
  go_enter Tryd.func10, Tryd.ntmps10
  go_wp2_with fail
  have e4 : (key.size : Int) + (value.size : Int) + 3 = (bare : Int) := by omega
  rw [e4]
  go_loopw [4] (fun t4 wr => ∃ d : Nat, 1 ≤ d ∧ d ≤ 20 ∧ (d = 1 ∨ d ≤ Lib.nDigits (bare + (d - 1))) ∧ t4 = .int .i64 (d : Int) ∧ Hid (lenD bare (31 - d) d = lenF bare) ∧ Hid (Lib.TabIs Tryd.prog wr "internal/strconv.uint64pow10" .u64 Lib.pow10Tab) ∧ Below w.heap.size w wr) (fun t4 _ => 31 - (intOf t4).toNat)
  case atStart => exact ⟨1, by omega, by omega, .inl rfl, rfl, rfl, HT1, HB1.out⟩
  case round =>
    obtain ⟨d, h1, hd20, hd, rfl, hF, hT, hB⟩ := hrel
    have HB := Lib.hid hB
    have h20 := Lib.nDigits_le20 (bare + d) (by omega)
    have hge : d ≤ Lib.nDigits (bare + d) := by
      rcases hd with h | h
      · rw [h]; exact Lib.nDigits_pos _
      · have := digits_mono (bare + d) (bare + (d - 1)) (by omega)
        omega
    clear HT1 HB1 hB hd
    have hs : wrap64 ((bare : Int) + (d : Int)) = (bare : Int) + (d : Int) := by unfold wrap64; omega
    go_wp2_with fail
    refine (itoa_calls (bare + d) (by omega) _ hT.out).mono ?_
    rintro e w1 ⟨rfl, hb1⟩
    have hsz := dec_size (bare + d)
    obtain ⟨dd, hdd⟩ : ∃ dd, dd = Lib.nDigits (bare + d) := ⟨_, rfl⟩
    rw [← hdd] at hsz hge h20
    generalize (⟨(Lib.decDigits (bare + d)).toArray⟩ : ByteArray) = txt at *
    have HT2 := Lib.hid (tab_below hT.out hb1)
    have HB2 := Lib.hid (HB.out.trans (hb1.mono HB.out.size))
    clear hT HB hb1
    by_cases hfix : dd = d
    · subst hfix
      have HL := Lib.hid (show lenF bare = bare + dd from by
        rw [← hF.out]
        obtain ⟨f, hf⟩ : ∃ f, 31 - dd = f + 1 := ⟨30 - dd, by omega⟩
        rw [hf, lenD, if_pos hdd.symm])
      clear hF hdd
      have hne : ((dd : Int) == (dd : Int)) = true := by simp
      go_wp2_with fail
      go_ret
      rw [HL.out]
      exact ⟨rfl, HB2.out⟩
    · have HL := Lib.hid (show lenD bare (31 - (d + 1)) (d + 1) = lenF bare from by
        rw [← hF.out]
        obtain ⟨f, hf⟩ : ∃ f, 31 - d = f + 1 := ⟨30 - d, by omega⟩
        rw [hf, lenD, if_neg (by omega)]
        congr 1
        omega)
      have HM := Lib.hid hdd
      clear hF hdd
      have hne : ((dd : Int) == (d : Int)) = false := by
        have : (dd : Int) ≠ (d : Int) := by omega
        simpa using this
      go_wp2_with fail
      go_roundw
      case rel => exact ⟨d + 1, by omega, by omega, .inr (by rw [Nat.add_sub_cancel, ← HM.out]; omega), by go_num, HL, HT2, HB2.out⟩
      case measure => simp [intOf]; omega
end Go.Proofs.YtmdfnelcgobpkaaDoor.Z
