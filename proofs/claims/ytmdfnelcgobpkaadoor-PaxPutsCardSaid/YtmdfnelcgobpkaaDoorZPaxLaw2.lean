/- Walk of the law PaxPuts. -/
import Derived.Test.YtmdfnelcgobpkaaDoorZPaxPutR
import Derived.Test.YtmdfnelcgobpkaaDoorZPaxLaw1
set_option linter.unusedVariables false
set_option linter.unusedSimpArgs false
namespace Go.Proofs.YtmdfnelcgobpkaaDoor.Z
open Go.RowKit Go.Shelf Go.Proofs.YtmdfnelcgobpkaaDoorW.PrintWords Go.Proofs.YtmdfnelcgobpkaaDoorW.PrintLast Go.Proofs.YtmdfnelcgobpkaaDoorW.PrintMore Go.Proofs.YtmdfnelcgobpkaaDoor.PPaxPuts

theorem pputR_tuple (l : List S32) : ∃ (s : ByteArray) (e : Int), pputR l = .tuple #[.string s, .int .i64 e] := by
  unfold pputR
  split
  · exact ⟨_, _, rfl⟩
  · split <;> exact ⟨_, _, rfl⟩
theorem row_empty {w : World} {g : Nat} {base : Nat} (hb : base ≤ g) (hg : w.heap[g]? = some (.cells #[] 32 (0, 0))) : Kd.R k32 32 w base (fun _ => True) (.slice (some ⟨g, 0, none⟩) 0 0) [] :=
  row_close (xs := []) (T := []) (cap := 0) hb trivial (Nat.le_refl _) (by decide) rfl hg
set_option maxHeartbeats 8000000 in
set_option maxRecDepth 100000 in
theorem puts_calls (m : Int) (A : Option Addr) (c : Nat) (l : List S32) (A' : Option Addr) (c' : Nat) (ms : List S32) (key : ByteArray) (w : World) (hW : Wd m w) (hC : Kd.C k32 w A l.length l) (hc : l.length ≤ c) (hC' : Kd.C k32 w A' ms.length ms) (hc' : ms.length ≤ c') :
    Calls Tryd.prog 3 #[.slice A l.length c, .slice A' ms.length c', .string key] w fun e w' => e = .returned (.bool true) ∧ Below w.heap.size w w' := by
  have HM := Lib.hid hW
  have HC := Lib.hid hC
  have HC' := Lib.hid hC'
  clear hW hC hC'
  have HF := Lib.hid (few_calls A c l _ HC.out hc)
  go_enter Tryd.func3, Tryd.ntmps3
  go_wp2_with fail
  refine HF.out.mono ?_
  clear HF
  rintro e w1 ⟨rfl, hb1⟩
  have HM1 := Lib.hid (HM.out.below (B := 0) hb1)
  have HC1 := Lib.hid (Kd.C_below HC.out hb1)
  have HD1 := Lib.hid (Kd.C_below HC'.out hb1)
  have HB1 := Lib.hid hb1
  clear HM HC HC' hb1
  cases hf : fewB l with
  | false =>
    have HT := Lib.hid (told_calls m w1 HM1.out.hm HM1.out.htab)
    go_wp2_with fail
    refine HT.out.mono ?_
    rintro e w2 ⟨rfl, hb2⟩
    have HB2 := Lib.hid (HB1.out.trans (hb2.mono HB1.out.size))
    clear hb2
    go_wp2_with fail
    go_ret
    exact ⟨rfl, HB2.out⟩
  | true =>
    have hl := few_length hf
    have HF := Lib.hid (few_calls A' c' ms _ HD1.out hc')
    go_wp2_with fail
    refine HF.out.mono ?_
    clear HF
    rintro e w2 ⟨rfl, hb2⟩
    have HM2 := Lib.hid (HM1.out.below (B := 0) hb2)
    have HC2 := Lib.hid (Kd.C_below HC1.out hb2)
    have HD2 := Lib.hid (Kd.C_below HD1.out hb2)
    have HB2 := Lib.hid (HB1.out.trans (hb2.mono HB1.out.size))
    clear HM1 HC1 HD1 HB1 hb2
    by_cases hbad : fewB ms = true ∧ key.size ≤ 200
    · obtain ⟨hf1, hk⟩ := hbad
      have hk1 : ¬ 200 < (key.size : Int) := by omega
      have hms := few_length hf1
      rw [hf1]
      have HE := Lib.hid (row_empty (w := w2.alloc (.cells #[] 32)) (Nat.le_refl w2.heap.size) (blk_new w2 _))
      have HBE := Lib.hid (below_alloc (Below.refl w2.heap.size w2) (.cells #[] 32))
      go_wp2_with (at_builtin; go_must (refine Kd.R_append_rows k32 (w0 := w2) w2.heap.size rfl (.tmp 31) (.tmp 32) 22 32 (.agg #[(.string ⟨#[]⟩), (.string ⟨#[]⟩)]) 32 rfl Tryd.underlying22 info32 rfl (by decide) (by omega) (.slice (some ⟨w2.heap.size, 0, none⟩) 0 0) [] l A l.length c (fun _ => True) (fun _ => False) rfl rfl HE.out (Kd.C_alloc HC2.out _) (fun x cs h => by rw [k32_open h]; exact k32_mkM _ _ _ x) (fun _ h => h.elim) (fun _ _ => trivial) HBE.out HBE.out.size (by simp only [List.length_nil]; omega) ?_))
      intro v3 w3 h1 hb3 h2 h3
      have h1' : Kd.R k32 32 w3 w2.heap.size (fun _ => True) v3 l := h1
      obtain ⟨A3, c3, rfl, hc3, hC3⟩ := Kd.R_reads h1'
      have HM3 := Lib.hid (HM2.out.below (B := 0) hb3)
      have HC3 := Lib.hid (Kd.C_below HC2.out hb3)
      have HD3 := Lib.hid (Kd.C_below HD2.out hb3)
      have HW3 := Lib.hid hC3
      have HB3 := Lib.hid (HB2.out.trans (hb3.mono HB2.out.size))
      clear h1 h1' hb3 h2 h3 hC3 HM2 HC2 HD2 HB2 HE HBE
      have HSZ := Lib.hid (few_sizes hf)
      obtain ⟨s, en, hse⟩ := pputR_tuple l
      have HP := pput_calls A c l w3 HC3.out (fun r hr => by have := HSZ.out r hr; omega) HM3.out.htab
      rw [hse] at HP
      have HP := Lib.hid HP
      go_wp2_with fail
      refine HP.out.mono ?_
      clear HP
      rintro e w4 ⟨rfl, hb4⟩
      have HM4 := Lib.hid (HM3.out.below (B := 0) hb4)
      have HC4 := Lib.hid (Kd.C_below HC3.out hb4)
      have HD4 := Lib.hid (Kd.C_below HD3.out hb4)
      have HW4 := Lib.hid (Kd.C_below HW3.out hb4)
      have HB4 := Lib.hid (HB3.out.trans (hb4.mono HB3.out.size))
      clear hb4 HM3 HC3 HD3 HW3 HB3
      have HP := rput_calls A c l w4 HC4.out hf HM4.out.htab
      rw [hse] at HP
      have HP := Lib.hid HP
      go_wp2_with fail
      refine HP.out.mono ?_
      clear HP hse
      rintro e w5 ⟨rfl, hb5⟩
      have HM5 := Lib.hid (HM4.out.below (B := 0) hb5)
      have HC5 := Lib.hid (Kd.C_below HC4.out hb5)
      have HD5 := Lib.hid (Kd.C_below HD4.out hb5)
      have HW5 := Lib.hid (Kd.C_below HW4.out hb5)
      have HB5 := Lib.hid (HB4.out.trans (hb5.mono HB4.out.size))
      clear hb5 HM4 HC4 HD4 HW4 HB4
      go_wp2_with fail
      go_loopw [12] (fun t12 wr => ∃ (i : Nat), i ≤ l.length ∧ t12 = .int .i64 i ∧ Hid (Below w5.heap.size w5 wr)) (fun t12 _ => l.length - (intOf t12).toNat)
      case atStart => exact ⟨0, by omega, by go_num, Below.refl _ _⟩
      case round =>
        obtain ⟨i, hi, rfl, HB⟩ := hrel
        by_cases hlt : i < l.length
        · have HCi := Lib.hid (Kd.C_below HC5.out HB.out)
          obtain ⟨ad, rfl, hx0, hx1⟩ := s32_at HCi.out i hlt
          have hi0 : (0 : Int) ≤ (i : Int) := Int.natCast_nonneg i
          have hi1 : (i : Int) < (l.length : Int) := by omega
          have HRS := HSZ.out l[i] (List.getElem_mem hlt)
          have HTr := Lib.hid (HM5.out.below (B := 0) HB.out).htab
          generalize l[i] = r at *
          obtain ⟨kk, vv⟩ := r
          simp only at hx0 hx1 HRS
          obtain ⟨hs0, hs1⟩ := HRS
          generalize hq : ad.add (i * 2) = aq at *
          go_wp2_with fail
          go_region_held3 (fun w' => w'.cell? aq = some (.string kk) ∧ w'.cell? ⟨aq.block, aq.off + 1, none⟩ = some (.string vv))
            (first | go_keep | exact two_below hb7 (by assumption) | exact two_below hb6 (by assumption))
            (first
              | (go_at_call 10
                 go_must (refine (rlen_calls kk vv (kk.size + vv.size + 3) _ rfl (by omega) (tab_below (tab_below HTr (Below.drew (Below.refl _ _))) hb6)).mono ?_)
                 rintro e w7 ⟨rfl, hb7⟩)
              | (go_at_call 9
                 go_must (refine (len_calls kk vv (kk.size + vv.size + 3) _ rfl (by omega) (tab_below HTr (Below.drew (Below.refl _ _)))).mono ?_)
                 rintro e w6 ⟨rfl, hb6⟩))
          rename_i hHeld
          clear hHeld
          have HB6 := HB.out.trans ((below_undrew hb6).mono HB.out.size)
          have HB7 := Lib.hid (HB6.trans (hb7.mono HB6.size))
          clear HB6 hb6 hb7 hx0 hx1
          go_wp2_with fail
          go_roundw
          case rel => exact ⟨i + 1, by omega, by go_num, HB7.out⟩
          case measure => simp [intOf]; omega
        · obtain rfl : i = l.length := by omega
          have hn : ¬ ((l.length : Int) < (l.length : Int)) := by omega
          have HMr := Lib.hid (HM5.out.below (B := 0) HB.out)
          have HCr := Lib.hid (Kd.C_below HC5.out HB.out)
          have HDr := Lib.hid (Kd.C_below HD5.out HB.out)
          have HWr := Lib.hid (Kd.C_below HW5.out HB.out)
          have HBr := Lib.hid (HB5.out.trans (HB.out.mono HB5.out.size))
          clear HB HM5 HC5 HD5 HW5 HB5
          have HG := Lib.hid (get_calls A c l key wr HCr.out hc)
          have HG2 := fun (w' : World) (h : Kd.C k32 w' A l.length l) => rget_calls A c l key w' h hc
          generalize getV l key noV = gv at *
          go_wp2_with fail
          refine HG.out.mono ?_
          clear HG
          rintro e w6 ⟨rfl, hb6⟩
          have HM6 := Lib.hid (HMr.out.below (B := 0) hb6)
          have HC6 := Lib.hid (Kd.C_below HCr.out hb6)
          have HD6 := Lib.hid (Kd.C_below HDr.out hb6)
          have HW6 := Lib.hid (Kd.C_below HWr.out hb6)
          have HB6 := Lib.hid (HBr.out.trans (hb6.mono HBr.out.size))
          have HG := Lib.hid (HG2 w6 HC6.out)
          clear hb6 HMr HCr HDr HWr HBr HG2
          go_wp2_with fail
          refine HG.out.mono ?_
          clear HG
          rintro e w7 ⟨rfl, hb7⟩
          have HM7 := Lib.hid (HM6.out.below (B := 0) hb7)
          have HC7 := Lib.hid (Kd.C_below HC6.out hb7)
          have HD7 := Lib.hid (Kd.C_below HD6.out hb7)
          have HW7 := Lib.hid (Kd.C_below HW6.out hb7)
          have HB7 := Lib.hid (HB6.out.trans (hb7.mono HB6.out.size))
          clear hb7 HM6 HC6 HD6 HW6 HB6
          have HT := Lib.hid (told_calls m w7 HM7.out.hm HM7.out.htab)
          go_wp2_with fail
          refine HT.out.mono ?_
          clear HT HM7
          rintro e w8 ⟨rfl, hb8⟩
          have HC8 := Lib.hid (Kd.C_below HC7.out hb8)
          have HD8 := Lib.hid (Kd.C_below HD7.out hb8)
          have HW8 := Lib.hid (Kd.C_below HW7.out hb8)
          have HB8 := Lib.hid (HB7.out.trans (hb8.mono HB7.out.size))
          clear hb8 HC7 HD7 HW7 HB7
          have HMg := Lib.hid (merge_calls A c l A' c' ms w8 HC8.out hc HD8.out hc' (by omega))
          go_wp2_with fail
          refine HMg.out.mono ?_
          clear HMg
          rintro e w9 ⟨v9, rfl, hR9, hb9⟩
          have HC9 := Lib.hid (Kd.C_below HC8.out hb9)
          have HD9 := Lib.hid (Kd.C_below HD8.out hb9)
          have HW9 := Lib.hid (Kd.C_below HW8.out hb9)
          have HB9 := Lib.hid (HB8.out.trans (hb9.mono HB8.out.size))
          obtain ⟨A9, c9, rfl, hc9, hX9⟩ := Kd.R_reads hR9
          have HX9 := Lib.hid hX9
          clear hb9 hR9 hX9 HC8 HD8 HW8 HB8
          have HMg := Lib.hid (rmerge_calls A c l A' c' ms w9 HC9.out hc HD9.out hc' (by omega) (by omega))
          go_wp2_with fail
          refine HMg.out.mono ?_
          clear HMg
          rintro e w10 ⟨v10, rfl, hR10, hb10⟩
          have HC10 := Lib.hid (Kd.C_below HC9.out hb10)
          have HW10 := Lib.hid (Kd.C_below HW9.out hb10)
          have HX10 := Lib.hid (Kd.C_below HX9.out hb10)
          have HB10 := Lib.hid (HB9.out.trans (hb10.mono HB9.out.size))
          obtain ⟨A10, c10, rfl, hc10, hX10⟩ := Kd.R_reads hR10
          have HY10 := Lib.hid hX10
          clear hb10 hR10 hX10 HC9 HD9 HW9 HB9 HX9
          have HS := Lib.hid (same_calls A9 c9 A10 c10 (mergeF l ms) w10 HX10.out hc9 HY10.out hc10)
          go_wp2_with fail
          refine HS.out.mono ?_
          clear HS
          rintro e w11 ⟨rfl, hb11⟩
          have HC11 := Lib.hid (Kd.C_below HC10.out hb11)
          have HW11 := Lib.hid (Kd.C_below HW10.out hb11)
          have HB11 := Lib.hid (HB10.out.trans (hb11.mono HB10.out.size))
          clear hb11 HC10 HW10 HB10 HX10 HY10
          have HS := Lib.hid (same_calls A c A3 c3 l w11 HC11.out hc HW11.out hc3)
          go_wp2_with fail
          refine HS.out.mono ?_
          clear HS
          rintro e w12 ⟨rfl, hb12⟩
          have HB12 := Lib.hid (HB11.out.trans (hb12.mono HB11.out.size))
          clear hb12
          go_wp2_with fail
          go_ret
          exact ⟨rfl, HB12.out⟩
    · have HT := Lib.hid (told_calls m w2 HM2.out.hm HM2.out.htab)
      have HEnd := Lib.hid (show ∀ w3, Below w2.heap.size w2 w3 → Below w.heap.size w w3 from fun w3 h => HB2.out.trans (h.mono HB2.out.size))
      cases hf1 : fewB ms with
      | false =>
        go_wp2_with fail
        refine HT.out.mono ?_
        rintro e w3 ⟨rfl, hb3⟩
        have HB3 := Lib.hid (HEnd.out w3 hb3)
        clear hb3
        go_wp2_with fail
        go_ret
        exact ⟨rfl, HB3.out⟩
      | true =>
        have hk : 200 < (key.size : Int) := by
          rcases Nat.lt_or_ge 200 key.size with h | h
          · omega
          · exact absurd ⟨hf1, h⟩ hbad
        go_wp2_with fail
        refine HT.out.mono ?_
        rintro e w3 ⟨rfl, hb3⟩
        have HB3 := Lib.hid (HEnd.out w3 hb3)
        clear hb3
        go_wp2_with fail
        go_ret
        exact ⟨rfl, HB3.out⟩
end Go.Proofs.YtmdfnelcgobpkaaDoor.Z
