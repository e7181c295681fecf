/- Walk of package extra's Read: fields out of a text, or none. -/
import Derived.Test.YtlbijehgoiknjaaZExtra
import Derived.Deep.RegionLaw
import Derived.Test.YtlbijehgoiknjaaPZipdirHeadersx0
set_option linter.unusedVariables false
set_option linter.unusedSimpArgs false
namespace Go.Proofs.Ytlbijehgoiknjaa.Z
open Go.RowKit Go.Proofs.YtlbijehgoiknjaaW.PrintWords Go.Proofs.YtlbijehgoiknjaaW.PrintLast Go.Proofs.YtlbijehgoiknjaaW.PrintMore Go.Proofs.Ytlbijehgoiknjaa.PZipdirHeaders

/-- Read: the fields from a place on, or none. -/
def readF (s : ByteArray) : Nat → Int → Option (List S80)
  | 0, _ => none
  | k + 1, at_ => if at_ < (s.size : Int) then
      match enumF (bytesOf s) at_ 2, enumF (bytesOf s) (at_ + 2) 2 with
      | some id, some n => if (s.size : Int) - (at_ + 4) < n then none else (readF s k (at_ + 4 + n)).map (⟨id, s.extract (at_ + 4).toNat (at_ + 4 + n).toNat⟩ :: ·)
      | _, _ => none
    else some []
/-- What Read returns: a row, and an error. -/
def ReadPost (w : World) (s : ByteArray) (r : Option (List S80)) (e : Ending) (w' : World) : Prop :=
  (∀ l, r = some l → ∃ v, e = .returned (.tuple #[v, .int .i64 0]) ∧ Kd.R k80 80 w' w.heap.size (fun _ => True) v l) ∧ (r = none → e = .returned (.tuple #[.slice none 0 0, .int .i64 2])) ∧ Below w.heap.size w w'
theorem bytesOf_range (s : ByteArray) : ∀ x ∈ bytesOf s, 0 ≤ x ∧ x < 256 := by
  intro x hx
  unfold bytesOf at hx
  simp only [List.mem_map] at hx
  obtain ⟨b, _, rfl⟩ := hx
  have := b.toNat_lt
  omega
theorem C_bytes (W : World) (s : ByteArray) (hs : s.size ≤ 140737488351232) : Kd.C (Kd.int .u8) (Lib.bytesWorld W 5 s) (some ⟨W.heap.size, 0, none⟩) (bytesOf s).length (bytesOf s) := by
  have h := bytes_reads W 5 s (by omega)
  rw [← bytesOf_length] at h
  refine ⟨rfl, h.2.1, fun hn => ?_⟩
  obtain ⟨ad, e, hc⟩ := h.2.2 hn
  refine ⟨ad, e, fun j p hj => ⟨[.int .u8 p], rfl, rfl, fun i u hu => ?_⟩⟩
  rcases i with _ | i
  · obtain rfl : .int .u8 p = u := by simpa using hu
    have := hc j (List.getElem?_eq_some_iff.1 hj).1
    rw [List.getD_eq_getElem?_getD, hj] at this
    simpa [Kd.int, Kd.scalar] using this
  · simp at hu
theorem enumF_some {l : List Int} {at_ n v : Int} (h : enumF l at_ n = some v) : 0 ≤ at_ ∧ 1 ≤ n ∧ n ≤ 8 ∧ at_ + n ≤ l.length ∧ v ≤ 4611686018427387904 ∧ v = (littleF l at_ n).1 := by
  unfold enumF at h
  split at h
  · rename_i h1
    have := littleF_end l at_ n h1.1
    have hv : (littleF l at_ n).1 = v := by simpa using h
    exact ⟨by omega, by omega, by omega, by omega, by omega, hv.symm⟩
  · cases h

set_option maxHeartbeats 4000000 in
set_option maxRecDepth 100000 in
theorem read_calls (s : ByteArray) (w : World) (hs : s.size ≤ 140737488351232) (hs2 : s.size ≤ 1000000) :
    Calls Try.prog 45 #[.string s] w (ReadPost w s (readF s (s.size + 1) 0)) := by
  have hmf := hmf
  have HBY := Lib.hid (bytesOf_range s)
  have hconv := print_bytes (P := Try.prog) 9 22 5 Try.underlying9 Try.underlying22 Try.underlying5 s ((w.alloc (.cells #[.slice none 0 0] 34)).alloc (.cells #[.int .i64 0] 25))
  have HC := Lib.hid (C_bytes ((w.alloc (.cells #[.slice none 0 0] 34)).alloc (.cells #[.int .i64 0] 25)) s hs)
  have hb := bytes_below (Below.refl ((w.alloc (.cells #[.slice none 0 0] 34)).alloc (.cells #[.int .i64 0] 25)).heap.size _) (Nat.le_refl _) 5 s
  have HP := Lib.hid (blk_below (blk_alloc (blk_new w (.cells #[.slice none 0 0] 34)) (.cells #[.int .i64 0] 25)) hb)
  have HQ := Lib.hid (blk_below (blk_new' (w.alloc (.cells #[.slice none 0 0] 34)) (.cells #[.int .i64 0] 25) (w.heap.size + 1) (by simp)) hb)
  have HB := Lib.hid ((below_alloc (below_alloc (Below.refl w.heap.size w) (.cells #[.slice none 0 0] 34)) (.cells #[.int .i64 0] 25)).trans (hb.mono (by simp; omega)))
  clear hb
  have HSZ := Lib.hid (show w.heap.size + 1 + 1 < (Lib.bytesWorld ((w.alloc (.cells #[.slice none 0 0] 34)).alloc (.cells #[.int .i64 0] 25)) 5 s).heap.size from by rw [Lib.bytesWorld_size]; simp)
  rw [← bytesOf_length] at hconv
  generalize hW : Lib.bytesWorld ((w.alloc (.cells #[.slice none 0 0] 34)).alloc (.cells #[.int .i64 0] 25)) 5 s = Wb at *
  generalize hcap : grownCap ((w.alloc (.cells #[.slice none 0 0] 34)).alloc (.cells #[.int .i64 0] 25)) (bytesOf s).length 0 5 = cb at *
  have e2 : ((w.alloc (.cells #[.slice none 0 0] 34)).alloc (.cells #[.int .i64 0] 25)).heap.size = w.heap.size + 1 + 1 := by simp
  rw [e2] at hconv HC
  clear hW hcap e2
  have HL := Lib.hid (bytesOf_length s)
  go_enter_defers Try.func45, Try.ntmps45
  go_wp2_with fail
  go_loopw [5] (fun t wr => ∃ (at_ : Int) (k : Nat) (acc : List S80) (Av : Option Addr) (nv cv : Nat), 0 ≤ at_ ∧ at_ ≤ s.size ∧ (s.size : Int) - at_ < k ∧ t = .int .i64 at_ ∧ wr.heap[w.heap.size]? = some (.cells #[.slice Av nv cv] 34 (0, 0)) ∧ w.heap.size + 1 + 1 < wr.heap.size ∧ Kd.R k80 80 wr w.heap.size (fun k => k ≠ w.heap.size + 1 + 1) (.slice Av nv cv) acc ∧ 4 * (acc.length : Int) ≤ at_ ∧ wr.heap[w.heap.size + 1]? = some (.cells #[.int .i64 0] 25 (0, 0)) ∧
      Kd.C (Kd.int .u8) wr (some ⟨w.heap.size + 1 + 1, 0, none⟩) (bytesOf s).length (bytesOf s) ∧ Below w.heap.size w wr ∧ Hid ((readF s k at_).map (acc ++ ·) = readF s (s.size + 1) 0)) (fun t _ => ((s.size : Int) - intOf t).toNat)
  case atStart => exact ⟨0, s.size + 1, [], none, 0, 0, by omega, by omega, by omega, rfl, HP.out, HSZ.out, Kd.R_nil _ _ _ _ _, by simp, HQ.out, HC.out, HB.out, by show _ = _; cases readF s (s.size + 1) 0 <;> simp⟩
  case round =>
    obtain ⟨at_, k, acc, Av, nv, cv, h0, h1, hk, rfl, hP, hsz, hR, hacc, hQ, hC, hBel, hgo⟩ := hrel
    have HPr := Lib.hid hP
    have HQr := Lib.hid hQ
    have HRr := Lib.hid hR
    have HCr := Lib.hid hC
    have HBr := Lib.hid hBel
    have hp0 := blk_cell hP 0
    have hq0 := blk_cell hQ 0
    have hpf := blk_frozen hP 0
    have hqf := blk_frozen hQ 0
    simp only [List.getElem?_toArray, List.getElem?_cons_zero] at hp0 hq0
    have hl1 : (bytesOf s).length ≤ s.size := by have := HL.out; omega
    have hl2 : s.size ≤ (bytesOf s).length := by have := HL.out; omega
    clear hP hQ hR hC hBel
    obtain ⟨k, rfl⟩ : ∃ m, k = m + 1 := ⟨k - 1, by omega⟩
    by_cases hlt : at_ < (s.size : Int)
    · cases hid : enumF (bytesOf s) at_ 2 with
      | none =>
        have HR2 := Lib.hid (show readF s (s.size + 1) 0 = none from by rw [← hgo.out, readF, if_pos hlt, hid]; rfl)
        have HID := Lib.hid hid
        clear hid hgo
        go_wp2_with fail
        refine (enum_none _ cb _ at_ 2 _ HCr.out HBY.out (by omega) HID.out).mono ?_
        rintro e w1 ⟨rfl, hb1⟩
        have HP1 := blk_below HPr.out hb1
        have HQ1 := blk_below HQr.out hb1
        refine xread_door w w1 2 0 Av nv cv ⟨w.heap.size, 0, none⟩ ⟨w.heap.size + 1, 0, none⟩ _ rfl rfl (blk_cell HP1 0) (blk_cell HQ1 0) (blk_frozen HP1 0) (blk_frozen HQ1 0) (by simp) (HBr.out.trans (hb1.mono HBr.out.size)) (Nat.le_refl _) (by simp) _ (fun W' hW' => ?_)
        exact ⟨(fun l hl => by rw [HR2.out] at hl; cases hl), fun _ => rfl, hW'⟩
      | some id =>
        have hidb := enumF_some hid
        have hid0 : 0 ≤ id := by rw [hidb.2.2.2.2.2]; exact littleF_nonneg HBY.out at_ 2
        cases hn : enumF (bytesOf s) (at_ + 2) 2 with
        | none =>
          have HR2 := Lib.hid (show readF s (s.size + 1) 0 = none from by rw [← hgo.out, readF, if_pos hlt, hid, hn]; rfl)
          have HID := Lib.hid hid
          have HN := Lib.hid hn
          clear hid hn hgo hidb
          go_wp2_with fail
          refine (enum_some _ cb _ at_ 2 id _ HCr.out HBY.out (by omega) HID.out).mono ?_
          rintro e w1 ⟨rfl, hb1⟩
          have HC1 := Lib.hid (Kd.C_below HCr.out hb1)
          have HP1 := Lib.hid (blk_below HPr.out hb1)
          have HQ1 := Lib.hid (blk_below HQr.out hb1)
          have HB1 := Lib.hid (HBr.out.trans (hb1.mono HBr.out.size))
          clear hb1 hp0 hq0 hpf hqf
          go_wp2_with fail
          refine (enum_none _ cb _ (at_ + 2) 2 _ HC1.out HBY.out (by omega) HN.out).mono ?_
          rintro e w2 ⟨rfl, hb2⟩
          have HP2 := blk_below HP1.out hb2
          have HQ2 := blk_below HQ1.out hb2
          refine xread_door w w2 2 0 Av nv cv ⟨w.heap.size, 0, none⟩ ⟨w.heap.size + 1, 0, none⟩ _ rfl rfl (blk_cell HP2 0) (blk_cell HQ2 0) (blk_frozen HP2 0) (blk_frozen HQ2 0) (by simp) (HB1.out.trans (hb2.mono HB1.out.size)) (Nat.le_refl _) (by simp) _ (fun W' hW' => ?_)
          exact ⟨(fun l hl => by rw [HR2.out] at hl; cases hl), fun _ => rfl, hW'⟩
        | some n =>
          have hnb := enumF_some hn
          have hn0 : 0 ≤ n := by rw [hnb.2.2.2.2.2]; exact littleF_nonneg HBY.out (at_ + 2) 2
          have hnm : n ≤ 4611686018427387904 := hnb.2.2.2.2.1
          have ha4 : at_ + 4 ≤ s.size := by have := hnb.2.2.2.1; omega
          have HGo := Lib.hid (show (if (s.size : Int) - (at_ + 4) < n then none else (readF s k (at_ + 4 + n)).map (⟨id, s.extract (at_ + 4).toNat (at_ + 4 + n).toNat⟩ :: ·)).map (acc ++ ·) = readF s (s.size + 1) 0 from by rw [← hgo.out, readF, if_pos hlt, hid, hn])
          have HID := Lib.hid hid
          have HN := Lib.hid hn
          clear hid hn hgo hidb hnb
          go_wp2_with fail
          refine (enum_some _ cb _ at_ 2 id _ HCr.out HBY.out (by omega) HID.out).mono ?_
          rintro e w1 ⟨rfl, hb1⟩
          have HC1 := Lib.hid (Kd.C_below HCr.out hb1)
          have HP1 := Lib.hid (blk_below HPr.out hb1)
          have HQ1 := Lib.hid (blk_below HQr.out hb1)
          have hz1 := hb1.size
          have HR1 := Lib.hid (Kd.R_below HRr.out hb1)
          have HB1 := Lib.hid (HBr.out.trans (hb1.mono HBr.out.size))
          clear hb1 hp0 hq0 hpf hqf
          go_wp2_with fail
          refine (enum_some _ cb _ (at_ + 2) 2 n _ HC1.out HBY.out (by omega) HN.out).mono ?_
          rintro e w2 ⟨rfl, hb2⟩
          have HC2 := Lib.hid (Kd.C_below HC1.out hb2)
          have HP2 := Lib.hid (blk_below HP1.out hb2)
          have HQ2 := Lib.hid (blk_below HQ1.out hb2)
          have HR2 := Lib.hid (Kd.R_below HR1.out hb2)
          have hz2 := hb2.size
          have HB2 := Lib.hid (HB1.out.trans (hb2.mono HB1.out.size))
          clear hb2
          have hp0 := blk_cell HP2.out 0
          have hq0 := blk_cell HQ2.out 0
          have hpf := blk_frozen HP2.out 0
          have hqf := blk_frozen HQ2.out 0
          simp only [List.getElem?_toArray, List.getElem?_cons_zero] at hp0 hq0
          by_cases hbig : (s.size : Int) - (at_ + 4) < n
          · have hbig2 : ((bytesOf s).length : Int) - (at_ + 4) < n := by omega
            have HR3 := Lib.hid (show readF s (s.size + 1) 0 = none from by rw [← HGo.out, if_pos hbig]; rfl)
            go_wp2
            refine xread_door w w2 2 0 Av nv cv ⟨w.heap.size, 0, none⟩ ⟨w.heap.size + 1, 0, none⟩ _ rfl rfl (blk_cell HP2.out 0) (blk_cell HQ2.out 0) (blk_frozen HP2.out 0) (blk_frozen HQ2.out 0) (by simp) HB2.out (Nat.le_refl _) (by simp) _ (fun W' hW' => ?_)
            exact ⟨(fun l hl => by rw [HR3.out] at hl; cases hl), fun _ => rfl, hW'⟩
          · have hbig2 : ¬ ((bytesOf s).length : Int) - (at_ + 4) < n := by omega
            have hfit : at_ + 4 + n ≤ s.size := by omega
            have HG2 := Lib.hid (show ((readF s k (at_ + 4 + n)).map (⟨id, s.extract (at_ + 4).toNat (at_ + 4 + n).toNat⟩ :: ·)).map (acc ++ ·) = readF s (s.size + 1) 0 from by rw [← HGo.out, if_neg hbig])
            clear HGo
            go_wp2_with fail
            obtain ⟨i0, hi0, hz0, hz1, hz2⟩ := info_parts info80
            have hRR := HR2.out
            obtain ⟨hok, inner, hown0, hreps⟩ := hRR
            have hown : w2.ownsRow w.heap.size 80 2 (.slice Av nv cv) acc.length inner := hown0
            have HRP := Lib.hid hreps
            clear hown0 hreps hok
            have hsw : IntKind.i64.wrap (at_ + 4 + n) = at_ + 4 + n := IntWalk.i64_in _ (by omega)
            have hb1 : 0 ≤ at_ + 4 := by omega
            have hb2 : at_ + 4 ≤ at_ + 4 + n := by omega
            have hp0a := cell_alloc_lt hp0 (.cells #[.int .i64 id, .string (s.extract (at_ + 4).toNat (at_ + 4 + n).toNat)] 80)
            have hneB := Kd.R_ne HR2.out HP2.out (by decide)
            refine wp_region_noPanic ?_
            go_region_law ((refine step_append_lies _ (by rfl) _ _ _ (by rfl) w.heap.size 80 i0 _ 2 24 Try.underlying34 hi0 hz0 hz1 hz2 rfl (by omega) (.slice Av nv cv) acc.length inner (by rfl) ((hown.alloc _).drew) ⟨w2.heap.size, 0, none⟩ 1 1 [.int .i64 id, .string (s.extract (at_ + 4).toNat (at_ + 4 + n).toNat)] (by rfl) (by rfl) (World.news_of_block (cs := #[.int .i64 id, .string (s.extract (at_ + 4).toNat (at_ + 4 + n).toNat)]) (t := 80) (fr := (0, 0)) (heap_alloc_new w2 _)) (by simp [Value.oneCell']) (by omega) (by unfold maxLen; omega) (by omega) (by simp; have := HB2.out.size; omega) (w2.heap.size + 1) (by simp) ?_; intro gg cap w3 hown1 hgrow hat hlt3; have hP3 := blk_grown (blk_drew (blk_alloc HP2.out (.cells #[.int .i64 id, .string (s.extract (at_ + 4).toNat (at_ + 4 + n).toNat)] 80))) hgrow hneB; have hp3c : w3.cell? ⟨w.heap.size, 0, none⟩ = some (.slice Av nv cv) := blk_cell hP3 0; have hp3f := blk_frozen hP3 0))
            all_goals
              refine NoPanic.normal ?_
              have hneQ := Kd.R_ne HR2.out HQ2.out (by decide)
              have hneC : some (w.heap.size + 1 + 1) ≠ (Value.slice Av nv cv).ownBlock := fun e => HR2.out.1 _ e.symm rfl
              have hsz2 : w.heap.size + 1 + 1 < w2.heap.size := by omega
              have HR3 := Lib.hid (Kd.R_appended (d := k80) (okp := fun _ => False) HR2.out.1 (HRP.out.imp_ (fun _ _ h => Kd.M_below h (below_drew (below_alloc (Below.refl _ _) (.cells #[.int .i64 id, .string (s.extract (at_ + 4).toNat (at_ + 4 + n).toNat)] 80))))) (k80_mkM _ _ _ ⟨id, s.extract (at_ + 4).toNat (at_ + 4 + n).toNat⟩) (fun _ h => h.elim) (fun q hq => by simp at hq; omega) hown1 hgrow (by
                rcases hat with h | h
                · exact .inl (by rw [h]; rfl)
                · exact .inr ⟨gg, rfl, by simp; omega⟩))
              have HQ3 := Lib.hid (blk_far (blk_grown (blk_drew (blk_alloc HQ2.out (.cells #[.int .i64 id, .string (s.extract (at_ + 4).toNat (at_ + 4 + n).toNat)] 80))) hgrow hneQ) (p := ⟨w.heap.size, 0, none⟩) (by simp) (.slice (some ⟨gg, 0, none⟩) (acc.length + 1) cap))
              have HC3 := Lib.hid (C_blk HC2.out (((Below.heap_setCell w3 ⟨w.heap.size, 0, none⟩ (.slice (some ⟨gg, 0, none⟩) (acc.length + 1) cap) (w.heap.size + 1 + 1) (by show w.heap.size + 1 + 1 ≠ w.heap.size; omega)).trans (hgrow.block _ (by simp; omega) hneC)).trans (Below.heap_alloc w2 _ _ hsz2)))
              have HB3 := Lib.hid ((((HB2.out.alloc HB2.out.size (.cells #[.int .i64 id, .string (s.extract (at_ + 4).toNat (at_ + 4 + n).toNat)] 80)).drew).grown hgrow (by simp; have := HB2.out.size; omega) (fun q hq => own_base hown q hq)).setCell (p := ⟨w.heap.size, 0, none⟩) (Nat.le_refl _) (.slice (some ⟨gg, 0, none⟩) (acc.length + 1) cap))
              have hsz3 : w.heap.size + 1 + 1 < w3.heap.size := by have := hgrow.size; simp at this; omega
              have HP3 := Lib.hid hP3
              clear hown1 hgrow hat hP3 hneB hneC hneQ hp0a hp3c hp3f hown hsw
              go_wp2
              go_roundw
              case rel =>
                refine ⟨at_ + 4 + n, k, acc ++ [⟨id, s.extract (at_ + 4).toNat (at_ + 4 + n).toNat⟩], some ⟨gg, 0, none⟩, acc.length + 1, cap, by omega, by omega, by omega, rfl, blk_put HP3.out 0 _ rfl, by simp [World.setCell]; omega, Kd.R_set HR3.out HP3.out (by simp [k80, Kd.iso, Kd.pair, Kd.int, Kd.string, Kd.scalar]) 0 _, by simp; omega, HQ3.out, HC3.out, HB3.out, ?_⟩
                show _ = _
                rw [← HG2.out]
                cases readF s k (at_ + 4 + n) <;> simp
              case measure => simp [intOf]; omega
    · have hlt2 : ¬ at_ < ((bytesOf s).length : Int) := by omega
      have HR2 := Lib.hid (show readF s (s.size + 1) 0 = some acc from by rw [← hgo.out, readF, if_neg hlt]; simp)
      clear hgo
      have hb := HBr.out
      go_wp2
      have hP := blk_far (blk_put HPr.out 0 (.slice Av nv cv) rfl) (p := ⟨w.heap.size + 1, 0, none⟩) (by simp) (.int .i64 0)
      have hQ := blk_put (blk_far HQr.out (p := ⟨w.heap.size, 0, none⟩) (by simp) (.slice Av nv cv)) 0 (.int .i64 0) rfl
      have hR := Kd.R_set (Kd.R_set HRr.out HPr.out (by simp [k80, Kd.iso, Kd.pair, Kd.int, Kd.string, Kd.scalar]) 0 (.slice Av nv cv)) (blk_far HQr.out (p := ⟨w.heap.size, 0, none⟩) (by simp) (.slice Av nv cv)) (by simp [k80, Kd.iso, Kd.pair, Kd.int, Kd.string, Kd.scalar]) 0 (.int .i64 0)
      have hB := (HBr.out.setCell (p := ⟨w.heap.size, 0, none⟩) (Nat.le_refl _) (.slice Av nv cv)).setCell (p := ⟨w.heap.size + 1, 0, none⟩) (by simp) (.int .i64 0)
      refine xread_ret _ 0 Av nv cv ⟨w.heap.size, 0, none⟩ ⟨w.heap.size + 1, 0, none⟩ _ rfl rfl (blk_cell hP 0) (blk_cell hQ 0) _ ?_
      refine ⟨fun l hl => ?_, (fun h => by rw [HR2.out] at h; cases h), hB.alloc hB.size _⟩
      rw [HR2.out] at hl
      obtain rfl : acc = l := by simpa using hl
      exact ⟨_, rfl, Kd.R_mono (Kd.R_below hR (below_alloc (Below.refl _ _) _)) (fun _ _ => trivial)⟩
end Go.Proofs.Ytlbijehgoiknjaa.Z
