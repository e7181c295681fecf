/- Walk of package zipdir's great, where the great numbers are found. -/
import Derived.Test.YtlbijehgoiknjaaZRCommon
set_option linter.unusedVariables false
set_option linter.unusedSimpArgs false
namespace Go.Proofs.Ytlbijehgoiknjaa.Z
open Go.RowKit Go.Proofs.YtlbijehgoiknjaaW.PrintWords Go.Proofs.YtlbijehgoiknjaaW.PrintLast Go.Proofs.YtlbijehgoiknjaaW.PrintMore Go.Proofs.Ytlbijehgoiknjaa.PZipdirHeaders

theorem infoBool : (Try.prog.info? 4).map (fun i => (i.zero, i.size, i.bytes)) = some (some (.bool false), 1, 1) := by kernel_rfl
/-- The numbers that are wanted, laid in their places. -/
def lay (C : Array Value) (Z : List (Nat × Bool × Int)) : Array Value := Z.foldl (fun C p => if p.2.1 = true then C.setIfInBounds p.1 (.int .i64 p.2.2) else C) C
theorem lay_size (Z : List (Nat × Bool × Int)) : ∀ C : Array Value, (lay C Z).size = C.size := by
  induction Z with
  | nil => intro C; rfl
  | cons p Z ih =>
    intro C
    show (lay (if p.2.1 = true then C.setIfInBounds p.1 (.int .i64 p.2.2) else C) Z).size = C.size
    rw [ih]
    split <;> simp
theorem lay_snoc (C : Array Value) (Z : List (Nat × Bool × Int)) (p : Nat × Bool × Int) : lay C (Z ++ [p]) = if p.2.1 = true then (lay C Z).setIfInBounds p.1 (.int .i64 p.2.2) else lay C Z := by
  unfold lay
  rw [List.foldl_append]
  rfl
theorem lay_far (o : Nat) (Z : List (Nat × Bool × Int)) : ∀ C : Array Value, (∀ p ∈ Z, p.1 ≠ o) → (lay C Z)[o]? = C[o]? := by
  induction Z with
  | nil => intro C _; rfl
  | cons p Z ih =>
    intro C h
    show (lay (if p.2.1 = true then C.setIfInBounds p.1 (.int .i64 p.2.2) else C) Z)[o]? = C[o]?
    rw [ih _ (fun q hq => h q (List.mem_cons_of_mem _ hq))]
    split
    · rw [Array.getElem?_setIfInBounds_ne (h p List.mem_cons_self)]
    · rfl

theorem zip3_take (ts : List Nat) (bs : List Bool) (vs : List Int) (k : Nat) (h1 : k < ts.length) (h2 : k < bs.length) (h3 : k < vs.length) : (ts.zip (bs.zip vs)).take (k + 1) = (ts.zip (bs.zip vs)).take k ++ [(ts[k], bs[k], vs[k])] := by
  rw [List.take_add_one, List.getElem?_eq_getElem (by simp; omega)]
  simp
theorem R_kp {α : Type} {d : Kd α} {e base : Nat} {ok : Nat → Prop} {w w1 : World} {v : Value} {xs : List α} {S : List Nat} (h : d.R e w base ok v xs) (hk : Kp S w w1) (hs : ∀ x, x ∈ S → x < base) : d.R e w1 base ok v xs :=
  Kd.R_mono (Kd.R_step (Kd.R_bound h) (fun k ho _ => hk.block k ho.2.2.1 (fun hm => by have := hs k hm; have := ho.2.1; omega))) (fun k h => h.1)
theorem R_C {α : Type} {d : Kd α} {e base : Nat} {ok : Nat → Prop} {w : World} {A : Option Addr} {n c : Nat} {xs : List α} (h : d.R e w base ok (.slice A n c) xs) : d.C w A xs.length xs := by
  obtain ⟨A', c', e', _, h'⟩ := Kd.R_reads h
  injection e' with e1 e2 e3
  rw [e1]; exact h'
set_option maxHeartbeats 4000000 in
set_option maxRecDepth 100000 in
theorem great_ok (mb b cto : Nat) (ts : List Nat) (xs : List Int) (C : Array Value) (more : ByteArray) (l : List S80) (vals : List Int) (w : World)
    (hM : w.heap[mb]? = some (.cells C 36 (0, 0))) (hC13 : C.size = 13) (h9 : C[9]? = some (Value.slice none 0 0))
    (hx : ∀ (j t : Nat), ts[j]? = some t → ∃ x : Int, xs[j]? = some x ∧ C[t]? = some (Value.int .i64 x)) (hlen : xs.length = ts.length) (htl : ts.length ≤ 10) (ht9 : ∀ t : Nat, t ∈ ts → t ≠ 9 ∧ t < 13)
    (hto : ∀ (j t : Nat), ts[j]? = some t → w.cell? ⟨b, j, none⟩ = some (.pointer (some ⟨mb, t, none⟩))) (hbm : b ≠ mb)
    (hs : more.size ≤ 1000000) (hrd : readF more (more.size + 1) 0 = some l) (hls : l.length ≤ 1000000) (hds : ∀ f ∈ l, f.f1.size ≤ 1000000)
    (hbig : bigF l (xs.map (· == 4294967295)) = some vals) (hvl : vals.length = ts.length) :
    Calls Try.prog 34 #[.pointer (some ⟨mb, 0, none⟩), .string more, .slice (some ⟨b, 0, none⟩) ts.length cto] w fun e w' => e = .returned (.bool true) ∧
      ∃ v, w'.heap[mb]? = some (.cells ((lay C (ts.zip ((xs.map (· == 4294967295)).zip vals))).setIfInBounds 9 v) 36 (0, 0)) ∧ Kd.R k80 80 w' w.heap.size (fun _ => True) v (l.filter fun f => f.f0 != 1) ∧ Kp [mb] w w' := by
  have HM := Lib.hid hM
  have HX := Lib.hid hx
  have HTO := Lib.hid hto
  have HRD := Lib.hid hrd
  have HBG := Lib.hid hbig
  have HDS := Lib.hid hds
  have hmlt : mb < w.heap.size := blk_lt hM
  clear hM hx hto hrd hbig hds
  go_enter Try.func34, Try.ntmps34
  go_wp2_with fail
  refine (read_calls more w (by omega) hs).mono ?_
  rintro e w1 ⟨hr1, -, hb1⟩
  obtain ⟨vl, rfl, hRl⟩ := hr1 l HRD.out
  obtain ⟨Al, cl, rfl, hcl, hCl⟩ := Kd.R_reads hRl
  have HM1 := Lib.hid (blk_below HM.out hb1)
  have HT1 := Lib.hid (fun j t h => pw_cell_below hb1 (HTO.out j t h))
  have HRl := Lib.hid hRl
  have HB1 := Lib.hid hb1
  have hw1 : w.heap.size ≤ w1.heap.size := hb1.size
  clear hr1 hRl hCl hb1 HM HTO
  go_wp2_with fail
  go_loopw [9, 26] (fun tv tk wr => ∃ (k : Nat) (bs : List Bool), k ≤ ts.length ∧ tk = .int .i64 k ∧ Hid (bs = (xs.take k).map (· == 4294967295)) ∧ bs.length = k ∧ Kd.R Kd.bool 4 wr w1.heap.size (fun _ => True) tv bs ∧ Below w1.heap.size w1 wr) (fun _ tk _ => ts.length - (intOf tk).toNat)
  case atStart => exact ⟨0, [], by omega, rfl, (by show _ = _; rfl), rfl, Kd.R_nil _ _ _ _ _, Below.refl _ _⟩
  case round =>
    obtain ⟨k, bs, hk, rfl, hbs, hbk, hR, hB⟩ := hrel
    have HR := Lib.hid hR
    have HB := Lib.hid hB
    clear hR hB
    by_cases hlt : k < ts.length
    · obtain ⟨x, hxk, hcx⟩ := HX.out k ts[k] (List.getElem?_eq_getElem hlt)
      have hp1 := pw_cell_below HB.out (HT1.out k ts[k] (List.getElem?_eq_getElem hlt))
      have hc1 : wr.cell? ⟨mb, ts[k], none⟩ = some (.int .i64 x) := (blk_cell (blk_below HM1.out HB.out) _).trans hcx
      have hk0 : (0 : Int) ≤ (k : Int) := Int.natCast_nonneg k
      have hk1 : (k : Int) < (ts.length : Int) := by omega
      have HN := Lib.hid (show bs ++ [x == 4294967295] = (xs.take (k + 1)).map (· == 4294967295) from by rw [List.take_add_one, hxk, List.map_append, ← hbs.out]; rfl)
      clear hxk hcx hbs
      generalize ts[k] = t at *
      go_wp2_with (first | ((with_reducible refine gate_builtin (b := .append) (xs := #[.tmp 30, .tmp 35]) rfl ?_); at_builtin
                            refine Kd.R_append Kd.bool (w0 := w1) w1.heap.size rfl (.tmp 30) (.tmp 35) 92 4 (.bool false) 1 rfl Try.underlying92 infoBool rfl (by decide) (by omega) _ bs (x == 4294967295) [.bool (x == 4294967295)] (fun _ => True) (fun _ => False) rfl rfl rfl (fun _ hk => hk.elim) (fun _ _ => trivial) HR.out HB.out HB.out.size (by omega) ?_
                            intro v3 w3 ho hb hg3 hat
                            have HR3 := Lib.hid ho
                            have HB3 := Lib.hid hb
                            clear ho hb hg3 hat))
      go_roundw
      case rel => exact ⟨k + 1, bs ++ [x == 4294967295], by omega, by go_num, HN.out, by simp; omega, HR3.out, HB3.out⟩
      case measure => simp [intOf]; omega
    · have hkn : k = ts.length := by omega
      have HBS := Lib.hid (show bs = xs.map (· == 4294967295) from by rw [hbs.out, List.take_of_length_le (by omega)])
      obtain ⟨Av, cv, rfl, hcv, hCv⟩ := Kd.R_reads HR.out
      have hCl2 := (Kd.R_reads (Kd.R_below HRl.out HB.out))
      have HRl2 := Lib.hid (Kd.R_below HRl.out HB.out)
      have HCl2 := Lib.hid (show Kd.C k80 wr Al l.length l from by
        obtain ⟨A', c', e', _, h'⟩ := hCl2
        injection e' with e1 e2 e3
        rw [e1]; exact h')
      have HCv := Lib.hid hCv
      have hbl : bs.length = ts.length := by omega
      have HBL := Lib.hid hbl
      have HMr := Lib.hid (blk_below HM1.out HB.out)
      have HTr := Lib.hid (fun j t h => pw_cell_below HB.out (HT1.out j t h))
      have hwr : w1.heap.size ≤ wr.heap.size := HB.out.size
      clear hCl2 hCv hbs hbk hbl HM1 HT1
      go_wp2_with fail
      refine (big_ok Al Av cl cv l bs vals _ HCl2.out HCv.out hls (by have := HBL.out; omega) HDS.out (by rw [HBS.out]; exact HBG.out)).mono ?_
      rintro e w2 ⟨vb, cvb, rfl, hvb, hVB, hb2⟩
      have HM2 := Lib.hid (blk_below HMr.out hb2)
      have HT2 := Lib.hid (fun j t h => pw_cell_below hb2 (HTr.out j t h))
      have HVB := Lib.hid hVB
      have HRb2 := Lib.hid (Kd.R_below HR.out hb2)
      have HRl3 := Lib.hid (Kd.R_below HRl2.out hb2)
      have HB2 := Lib.hid ((HB1.out.trans (HB.out.mono hw1)).trans (hb2.mono (by omega)))
      have hw2 : wr.heap.size ≤ w2.heap.size := hb2.size
      have hvl2 : (vals.length : Int) = (ts.length : Int) := by omega
      clear hVB hb2 HMr HTr HR HRl2 HB HCl2 HCv HRl HX
      go_wp2_with fail
      go_loopw [48] (fun tk wq => ∃ k : Nat, k ≤ ts.length ∧ tk = .int .i64 k ∧ wq.heap[mb]? = some (.cells (lay C ((ts.zip (bs.zip vals)).take k)) 36 (0, 0)) ∧ Kp [mb] w2 wq) (fun tk _ => ts.length - (intOf tk).toNat)
      case atStart => exact ⟨0, by omega, rfl, HM2.out, Kp.refl _ _⟩
      case round =>
        obtain ⟨k2, hk2, rfl, hMq, hKq⟩ := hrel
        have HMq := Lib.hid hMq
        have HKq := Lib.hid hKq
        clear hMq hKq
        by_cases hlt2 : k2 < ts.length
        · have hltb : k2 < bs.length := by have := HBL.out; omega
          have hltv : k2 < vals.length := by omega
          have hp1 : w1.heap.size ≤ w1.heap.size := Nat.le_refl _
          have hpt := HKq.out.cell (HT2.out k2 ts[k2] (List.getElem?_eq_getElem hlt2)) (by simpa using hbm)
          have hCb := R_C (R_kp HRb2.out HKq.out (by simp; omega))
          obtain ⟨ad, rfl, hwc⟩ := bool_at hCb k2 hltb
          have hval : wr.cell? ⟨vb, k2, none⟩ = some (.int .i64 vals[k2]) := by
            rw [blk_cell (HKq.out.blk HVB.out (by simp; omega))]
            simp [hltv]
          have HZ := Lib.hid (zip3_take ts bs vals k2 hlt2 hltb hltv)
          have hk0 : (0 : Int) ≤ (k2 : Int) := Int.natCast_nonneg k2
          have hk1 : (k2 : Int) < (ts.length : Int) := by omega
          have hk3 : (k2 : Int) < (bs.length : Int) := by omega
          have hk4 : (k2 : Int) < (vals.length : Int) := by omega
          obtain ⟨u, hu⟩ : ∃ u, wr.cell? ⟨mb, ts[k2], none⟩ = some u := by
            rw [blk_cell HMq.out]
            exact ⟨_, Array.getElem?_eq_getElem (by rw [lay_size, hC13]; exact (ht9 _ (List.getElem_mem _)).2)⟩
          have huf := blk_frozen HMq.out ts[k2]
          generalize ts[k2] = t at *
          generalize vals[k2] = x at *
          cases hbk : bs[k2] with
          | true =>
            rw [hbk] at hwc HZ
            clear hbk hCb
            have HMn := Lib.hid (blk_put HMq.out t (.int .i64 x) rfl)
            have HKn := Lib.hid (HKq.out.setCell (p := ⟨mb, t, none⟩) (.inl (by simp)) (.int .i64 x))
            go_wp2
            go_roundw
            case rel => exact ⟨k2 + 1, by omega, by go_num, by rw [HZ.out, lay_snoc, if_pos rfl]; exact HMn.out, HKn.out⟩
            case measure => simp [intOf]; omega
          | false =>
            rw [hbk] at hwc HZ
            clear hbk hCb
            go_wp2
            go_roundw
            case rel => exact ⟨k2 + 1, by omega, by go_num, by rw [HZ.out, lay_snoc, if_neg (by simp)]; exact HMq.out, HKq.out⟩
            case measure => simp [intOf]; omega
        · have hkn2 : k2 = ts.length := by omega
          have HM3 := Lib.hid (show wr.heap[mb]? = some (.cells (lay C (ts.zip (bs.zip vals))) 36 (0, 0)) from by
            have := HMq.out
            rwa [List.take_of_length_le (by simp; omega)] at this)
          have HRl4 := Lib.hid (R_kp HRl3.out HKq.out (by simp; omega))
          have hw3 : w2.heap.size ≤ wr.heap.size := HKq.out.size
          have HK3 := Lib.hid ((Kp.of_below HB2.out [mb]).trans HKq.out)
          have HCl4 := Lib.hid (R_C HRl4.out)
          clear HMq HKq HM2 HT2 HRb2 HRl3 HB2
          go_wp2_with fail
          generalize hCZ : lay C (ts.zip (bs.zip vals)) = CZ at *
          have HCZ := Lib.hid hCZ
          have hCZ13 : CZ.size = 13 := by rw [← hCZ, lay_size, hC13]
          have hCZ9 : CZ[9]? = some (.slice none 0 0) := by
            rw [← hCZ, lay_far 9 _ _ (fun p hp => (ht9 p.1 (List.of_mem_zip hp).1).1)]; exact h9
          clear hCZ
          generalize wr = w3 at *
          go_loopw [66] (fun tk wq => ∃ (k : Nat) (v : Value) (acc : List S80), k ≤ l.length ∧ tk = .int .i64 k ∧ Hid (acc = (l.take k).filter fun f => f.f0 != 1) ∧ acc.length ≤ k ∧ wq.heap[mb]? = some (.cells (CZ.setIfInBounds 9 v) 36 (0, 0)) ∧ Kd.R k80 80 wq w3.heap.size (fun _ => True) v acc ∧ Kp [mb] w3 wq ∧ Kd.R k80 80 wq w.heap.size (fun q => q < w3.heap.size) (.slice Al l.length cl) l) (fun tk _ => l.length - (intOf tk).toNat)
          case atStart =>
            refine ⟨0, .slice none 0 0, [], by omega, rfl, (by show _ = _; rfl), by simp, ?_, Kd.R_nil _ _ _ _ _, Kp.refl _ _, Kd.R_mono (Kd.R_bound HRl4.out) (fun q h => h.2.2.1)⟩
            rw [show CZ.setIfInBounds 9 (.slice none 0 0) = CZ from by
              apply Array.ext_getElem?
              intro i
              rw [Array.getElem?_setIfInBounds]
              split
              · rename_i h; subst h; rw [if_pos (by omega), hCZ9]
              · rfl]
            exact HM3.out
          case round =>
            obtain ⟨k3, v, acc, hk3, rfl, hacc, hak, hMq, hRq, hKq, hRlq⟩ := hrel
            obtain ⟨Aa, ca, rfl, hca, -⟩ := Kd.R_reads hRq
            have HMq := Lib.hid hMq
            have HRq := Lib.hid hRq
            have HKq := Lib.hid hKq
            have HRlq := Lib.hid hRlq
            have hwq : w3.heap.size ≤ wr.heap.size := hKq.size
            clear hMq hRq hKq hRlq
            by_cases hlt3 : k3 < l.length
            · obtain ⟨ad, rfl, hx0, hx1⟩ := s80_at (R_C HRlq.out) k3 hlt3
              have hk0 : (0 : Int) ≤ (k3 : Int) := Int.natCast_nonneg k3
              have hk1 : (k3 : Int) < (l.length : Int) := by omega
              have HT := Lib.hid (show (l.take (k3 + 1)).filter (fun f => f.f0 != 1) = acc ++ (if l[k3].f0 ≠ 1 then [l[k3]] else []) from by
                rw [List.take_add_one, List.getElem?_eq_getElem hlt3, List.filter_append, ← hacc.out]
                by_cases h : l[k3].f0 = 1 <;> simp [h])
              clear hacc
              generalize l[k3] = f at *
              obtain ⟨id, d⟩ := f
              simp only at hx0 hx1
              by_cases h1 : id = 1
              · have hb1 : (id != 1) = false := by simpa using h1
                have HT2 := Lib.hid (show acc = (l.take (k3 + 1)).filter (fun f => f.f0 != 1) from by rw [HT.out]; simp [h1])
                clear h1 HT
                go_wp2
                go_roundw
                case rel => exact ⟨k3 + 1, .slice Aa acc.length ca, acc, by omega, by go_num, HT2.out, by omega, blk_alloc HMq.out _, Kd.R_alloc HRq.out _, HKq.out.alloc _, Kd.R_alloc HRlq.out _⟩
                case measure => simp [intOf]; omega
              · have hb1 : (id != 1) = true := by simpa using h1
                have HT2 := Lib.hid (show acc ++ [⟨id, d⟩] = (l.take (k3 + 1)).filter (fun f => f.f0 != 1) from by rw [HT.out]; simp [h1])
                clear h1 HT
                go_wp2_with fail
                have HMA := Lib.hid (blk_alloc HMq.out (.cells #[.int .i64 id, .string d] 80))
                have HRA := Lib.hid (Kd.R_alloc HRq.out (.cells #[.int .i64 id, .string d] 80))
                have HRlA := Lib.hid (Kd.R_alloc HRlq.out (.cells #[.int .i64 id, .string d] 80))
                have HKA := Lib.hid (HKq.out.alloc (.cells #[.int .i64 id, .string d] 80))
                have HFA := Lib.hid (blk_new wr (.cells #[.int .i64 id, .string d] 80))
                have hwA : w3.heap.size ≤ (wr.alloc (.cells #[.int .i64 id, .string d] 80)).heap.size := by simp; omega
                clear HMq HRq HRlq HKq hx0 hx1
                generalize hr : wr.heap.size = r at *
                generalize hwa : wr.alloc (.cells #[.int .i64 id, .string d] 80) = wA at *
                clear hwa
                obtain ⟨i0, hi0, hz0, hz1, hz2⟩ := info_parts info80
                have hRR := HRA.out
                obtain ⟨hok, inner, hown0, hreps⟩ := hRR
                have hown : wA.ownsRow w3.heap.size 80 2 (.slice Aa acc.length ca) acc.length inner := hown0
                have HRP := Lib.hid hreps
                clear hown0 hreps hok
                have hm9 : wA.cell? ⟨mb, 9, none⟩ = some (.slice Aa acc.length ca) := by
                  rw [blk_cell HMA.out, Array.getElem?_setIfInBounds, if_pos rfl, if_pos (by omega)]
                have hf0 := blk_cell HFA.out 0
                have hf1 := blk_cell HFA.out 1
                simp only [List.getElem?_toArray, List.getElem?_cons_zero, List.getElem?_cons_succ] at hf0 hf1
                have hneB := Kd.R_ne HRA.out HMA.out (by decide)
                have hmlA : mb < wA.heap.size := by omega
                have hm9a := cell_alloc_lt hm9 (.cells #[.int .i64 id, .string d] 80)
                go_region_law ((refine step_append_lies _ (by rfl) _ _ _ (by rfl) w3.heap.size 80 i0 _ 2 24 Try.underlying34 hi0 hz0 hz1 hz2 rfl (by omega) (.slice Aa acc.length ca) acc.length inner (by rfl) ((hown.alloc _).drew) ⟨wA.heap.size, 0, none⟩ 1 1 [.int .i64 id, .string d] (by rfl) (by rfl) (World.news_of_block (cs := #[.int .i64 id, .string d]) (t := 80) (fr := (0, 0)) (heap_alloc_new wA _)) (by simp [Value.oneCell']) (by omega) (by unfold maxLen; omega) (by omega) (by simp; omega) (wA.heap.size + 1) (by simp) ?_; intro gg cap w4 hown1 hgrow hat hlt4; have hM4 := blk_grown (blk_drew (blk_alloc HMA.out (.cells #[.int .i64 id, .string d] 80))) hgrow hneB; have hm4c : w4.cell? ⟨mb, 9, none⟩ = some (.slice Aa acc.length ca) := (by rw [blk_cell hM4, Array.getElem?_setIfInBounds, if_pos rfl, if_pos (by omega)]); have hm4f := blk_frozen hM4 9))
                all_goals
                  have hbase := Kd.R_base HRA.out
                  have HR4 := Lib.hid (Kd.R_appended (d := k80) (okp := fun _ => False) HRA.out.1 (HRP.out.imp_ (fun _ _ h => Kd.M_below h (below_drew (below_alloc (Below.refl _ _) (.cells #[.int .i64 id, .string d] 80))))) (k80_mkM _ _ _ ⟨id, d⟩) (fun _ h => h.elim) (fun q hq => trivial) hown1 hgrow (by
                    rcases hat with h | h
                    · exact .inl (by rw [h]; rfl)
                    · exact .inr ⟨gg, rfl, by simp; omega⟩))
                  have HRl4 := Lib.hid (Kd.R_grown (Kd.R_drew (Kd.R_alloc HRlA.out (.cells #[.int .i64 id, .string d] 80))) hgrow (fun q hq e => by have := hbase q e.symm; omega))
                  have HK4 := Lib.hid (((HKA.out.alloc (.cells #[.int .i64 id, .string d] 80)).drew.grown hgrow (fun q hq => .inr (hbase q hq))).setCell (p := ⟨mb, 9, none⟩) (.inl (by simp)) (.slice (some ⟨gg, 0, none⟩) (acc.length + 1) cap))
                  have HM4 := Lib.hid hM4
                  have ht80 : ∀ q, q ∈ 80 :: k80.E → q ≠ 36 := by simp [k80, Kd.iso, Kd.pair, Kd.int, Kd.string, Kd.scalar]
                  have HR5 := Lib.hid (Kd.R_set HR4.out HM4.out ht80 9 (.slice (some ⟨gg, 0, none⟩) (acc.length + 1) cap))
                  have HRl5 := Lib.hid (Kd.R_set HRl4.out HM4.out ht80 9 (.slice (some ⟨gg, 0, none⟩) (acc.length + 1) cap))
                  have HM5 := Lib.hid (blk_set HM4.out 9 (.slice (some ⟨gg, 0, none⟩) (acc.length + 1) cap))
                  clear hown1 hgrow hat hM4 hneB hm9 hm9a hm4c hm4f hown hf0 hf1 hbase HR4 HRl4 HM4
                  go_wp2
                  go_roundw
                  case rel =>
                    refine ⟨k3 + 1, by omega, by omega, .slice (some ⟨gg, 0, none⟩) (acc.length + 1) cap, acc ++ [(⟨id, d⟩ : S80)], HT2, by simp; omega, ?_, HR5.out, HK4.out, HRl5.out⟩
                    have h := HM5.out
                    rw [show (CZ.setIfInBounds 9 (.slice Aa acc.length ca)).setIfInBounds 9 (.slice (some ⟨gg, 0, none⟩) (acc.length + 1) cap) = CZ.setIfInBounds 9 (.slice (some ⟨gg, 0, none⟩) (acc.length + 1) cap) from by simp] at h
                    exact h
                  case measure => simp [intOf]; omega
            · have hkn3 : k3 = l.length := by omega
              have HA := Lib.hid (show acc = l.filter (fun f => f.f0 != 1) from by rw [hacc.out, List.take_of_length_le (by omega)])
              go_wp2
              go_ret
              refine ⟨rfl, .slice Aa acc.length ca, ?_, ?_, HK3.out.trans HKq.out⟩
              · have h := HMq.out
                rw [← HCZ.out, HBS.out] at h
                exact h
              · have h := Kd.R_lower HRq.out (show w.heap.size ≤ w3.heap.size by omega)
                rw [HA.out] at h
                rw [HA.out]
                exact h
end Go.Proofs.Ytlbijehgoiknjaa.Z
