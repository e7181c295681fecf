/- Walk of ref23.PutRecords. -/
import Derived.Test.YtmdfnelcgobpkaaDoorZPaxRef
set_option linter.unusedVariables false
set_option linter.unusedSimpArgs false
namespace Go.Proofs.YtmdfnelcgobpkaaDoor.Z
open Go.RowKit Go.Shelf Go.Proofs.YtmdfnelcgobpkaaDoorW.PrintWords Go.Proofs.YtmdfnelcgobpkaaDoorW.PrintLast Go.Proofs.YtmdfnelcgobpkaaDoorW.PrintMore Go.Proofs.YtmdfnelcgobpkaaDoor.PPaxPuts

theorem rmerge_calls (A : Option Addr) (c : Nat) (l : List S32) (A' : Option Addr) (c' : Nat) (more : List S32) (w : World) (hC : Kd.C k32 w A l.length l) (hc : l.length ≤ c) (hC' : Kd.C k32 w A' more.length more) (hc' : more.length ≤ c') (hl : l.length ≤ 1000) (hm : more.length ≤ 1000) :
    Calls Tryd.prog 15 #[.slice A l.length c, .slice A' more.length c'] w fun e w' => ∃ v', e = .returned v' ∧ Kd.R k32 32 w' w.heap.size (fun _ => True) v' (mergeF l more) ∧ Below w.heap.size w w' := by
  obtain ⟨K, hK⟩ := ref_outer more more.length 0 l (by omega) hm (by omega)
  refine stevedoreref23_Merge.calls K A c l A' c' more (mergeF l more) w hC hc hC' hc' ?_
  have := hK K (Nat.le_refl _)
  rw [Int.natCast_zero, List.drop_zero] at this
  unfold stevedoreref23_Merge.f
  rw [Option.bind_some, if_pos (by simp only [List.length_nil]; omega), List.nil_append]
  exact this

theorem len_fix : ((List.range 1500).all fun b => Lib.nDigits (lenF b) + b == lenF b) = true := by kernel_rfl
theorem recB_len (r : S32) (h0 : r.f0.size ≤ 200) (h1 : r.f1.size ≤ 1200) : (recB r).size = recLen r := by
  have h := List.all_eq_true.1 len_fix (r.f0.size + r.f1.size + 3) (List.mem_range.2 (by omega))
  have h := beq_iff_eq.1 h
  rw [recB_size]
  unfold recLen
  omega
theorem ba_list (a b : ByteArray) : (a ++ b).data.toList = a.data.toList ++ b.data.toList := by simp
theorem badKey_of {key : ByteArray} {q : Nat} {c : UInt8} (h : key.data.toList[q]? = some c) (hc : c = 61 ∨ c = 10 ∨ c = 0) : badKey key = true := by
  have hh : ∀ c, key.data.toList[q]? = some c → has key c = true := fun c h => by
    unfold has
    have hge := Lib.indexByte_ge key.data.toList c
    have : Lib.indexByte key.data.toList c ≠ -1 := fun e => Lib.indexByte_none e q h
    rw [decide_eq_true_iff]
    omega
  unfold badKey
  rcases hc with rfl | rfl | rfl <;> simp [hh _ h]
theorem badKey_not {key : ByteArray} (he : key.toList.isEmpty = false) (h : ∀ (q : Nat) (c : UInt8), key.data.toList[q]? = some c → ¬ (c = 61 ∨ c = 10 ∨ c = 0)) : badKey key = false := by
  have hh : ∀ c, (c = 61 ∨ c = 10 ∨ c = 0) → has key c = false := fun c hc => by
    unfold has
    rw [decide_eq_false_iff_not]
    intro hge
    obtain ⟨o, ho⟩ := Int.eq_ofNat_of_zero_le hge
    exact h o c (Lib.indexByte_some ho).1 hc
  unfold badKey
  rw [he, hh 61 (.inl rfl), hh 10 (.inr (.inl rfl)), hh 0 (.inr (.inr rfl))]
  rfl
def putOut : Option (List UInt8) → Value
  | some b => .tuple #[.string ⟨b.toArray⟩, .int .i64 0]
  | none => .tuple #[.string ⟨#[]⟩, .int .i64 1]
theorem pputR_out (l : List S32) (h : l.length ≤ 12) : pputR l = putOut (pputF [] l) := by
  unfold pputR
  rw [if_neg (by omega)]
  cases pputF [] l <;> rfl
set_option maxHeartbeats 4000000 in
set_option maxRecDepth 100000 in
theorem rput_calls (A : Option Addr) (c : Nat) (l : List S32) (w : World) (hl : Kd.C k32 w A l.length l) (hf : fewB l = true) (htab : Lib.TabIs Tryd.prog w "internal/strconv.uint64pow10" .u64 Lib.pow10Tab) :
    Calls Tryd.prog 8 #[.slice A l.length c] w fun e w' => e = .returned (pputR l) ∧ Below w.heap.size w w' := by
  have HL := Lib.hid hl
  have HT := Lib.hid htab
  have HSZ := Lib.hid (few_sizes hf)
  have hln := few_length hf
  clear hl htab hf
  have hR := Lib.hid (pputR_out l hln)
  generalize pputR l = RR at *
  go_enter Tryd.func8, Tryd.ntmps8
  go_wp2_with fail
  go_loopw [4, 5] (fun t4 t5 wr => ∃ (k : Nat) (S : ByteArray), k ≤ l.length ∧ t4 = .string S ∧ t5 = .int .i64 k ∧ S.size ≤ 1048576 ∧ Hid (RR = putOut (pputF S.data.toList (l.drop k))) ∧ Hid (Below w.heap.size w wr)) (fun _ t5 _ => l.length - (intOf t5).toNat)
  case atStart => exact ⟨0, ⟨#[]⟩, by omega, rfl, by go_num, by decide, hR.out, Below.refl _ _⟩
  case round =>
    obtain ⟨k, S, hk, rfl, rfl, hS, hgo, HW⟩ := hrel
    by_cases hlt : k < l.length
    · obtain ⟨ad, rfl, hx0, hx1⟩ := s32_at (Kd.C_below HL.out HW.out) k hlt
      have hk0 : (0 : Int) ≤ (k : Int) := Int.natCast_nonneg k
      have hk1 : (k : Int) < (l.length : Int) := by omega
      have hgo' := hgo.out
      rw [List.drop_eq_getElem_cons hlt] at hgo'
      have HGO := Lib.hid hgo'
      have HRS := HSZ.out l[k] (List.getElem_mem hlt)
      clear hgo hgo'
      generalize l[k] = r at *
      obtain ⟨key, value⟩ := r
      simp only at hx0 hx1 HRS
      obtain ⟨hs0, hs1⟩ := HRS
      have hz0 : ¬ (1048576 : Int) < (key.size : Int) := by omega
      have hz1 : ¬ (1048576 : Int) < (value.size : Int) := by omega
      have HRB := Lib.hid (blk_new wr (.cells #[.string key, .string value] 32))
      have HW1 := Lib.hid (HW.out.alloc HW.out.size (.cells #[.string key, .string value] 32))
      have HT1 := Lib.hid (tab_below HT.out (HW1.out))
      have hbad : badKey key = true → RR = .tuple #[.string ⟨#[]⟩, .int .i64 1] := fun h => by
        have := HGO.out
        rw [pputF, if_pos (.inl h)] at this
        exact this
      have HBAD := Lib.hid hbad
      clear hbad
      go_upto_region 8 with (fail)
      have hb0 := blk_cell HRB.out 0
      have hb1 := blk_cell HRB.out 1
      simp only [List.getElem?_toArray, List.getElem?_cons_zero, List.getElem?_cons_succ] at hb0 hb1
      clear hx0 hx1
      generalize hrb : wr.heap.size = rb at *
      generalize (wr.alloc (.cells #[.string key, .string value] 32)) = w0 at *
      cases he : key.toList.isEmpty with
      | true =>
        have HX := Lib.hid (HBAD.out (by unfold badKey; rw [he]; rfl))
        go_wp2_with fail
        go_ret2
        exact ⟨by rw [HX.out]; rfl, HW1.out⟩
      | false =>
        go_wp2_with fail
        go_loopw [7] (fun t7 wq => ∃ (q : Nat), q ≤ key.size ∧ t7 = .int .i64 q ∧ wq = w0 ∧ Hid (∀ (p : Nat) (c : UInt8), p < q → key.data.toList[p]? = some c → ¬ (c = 61 ∨ c = 10 ∨ c = 0))) (fun t7 _ => key.size - (intOf t7).toNat)
        case atStart => exact ⟨0, by omega, by go_num, rfl, fun p c h => absurd h (Nat.not_lt_zero _)⟩
        case round =>
          obtain ⟨q, hq, rfl, rfl, hno⟩ := hrel
          by_cases hqt : q < key.size
          · have hq0 : (0 : Int) ≤ (q : Int) := Int.natCast_nonneg q
            have hq1 : (q : Int) < (key.size : Int) := by omega
            have hget : key.data.toList[q]? = some key[q] := by
              rw [Array.getElem?_toList, Array.getElem?_eq_getElem hqt]
              rfl
            have hF : ((key[q].toNat : Nat) : Int) = 61 ∨ ((key[q].toNat : Nat) : Int) = 10 ∨ ((key[q].toNat : Nat) : Int) = 0 → RR = .tuple #[.string ⟨#[]⟩, .int .i64 1] := fun h => HBAD.out (badKey_of hget (by
              rcases h with h | h | h
              · exact .inl (UInt8.toNat_inj.1 (by show key[q].toNat = 61; omega))
              · exact .inr (.inl (UInt8.toNat_inj.1 (by show key[q].toNat = 10; omega)))
              · exact .inr (.inr (UInt8.toNat_inj.1 (by show key[q].toNat = 0; omega)))))
            have HF := Lib.hid hF
            have HG := Lib.hid hget
            clear hF hget
            go_wp2_with fail
            · rename_i h1
              go_ret2
              exact ⟨by rw [HF.out (.inl h1)]; rfl, HW1.out⟩
            · rename_i h1 h2
              go_ret2
              exact ⟨by rw [HF.out (.inr (.inl h2))]; rfl, HW1.out⟩
            · rename_i h1 h2 h3
              simp only [beq_iff_eq] at h3
              go_ret2
              exact ⟨by rw [HF.out (by omega)]; rfl, HW1.out⟩
            · rename_i h1 h2 h3
              simp only [beq_eq_false_iff_ne] at h3
              have hno' := Lib.hid (show ∀ (p : Nat) (c : UInt8), p < q + 1 → key.data.toList[p]? = some c → ¬ (c = 61 ∨ c = 10 ∨ c = 0) from fun p c hp hc => by
                rcases Nat.lt_or_ge p q with h | h
                · exact hno.out p c h hc
                · obtain rfl : p = q := by omega
                  rw [HG.out] at hc
                  cases hc
                  rintro (h | h | h)
                  · exact h1 (by rw [h]; rfl)
                  · exact h2 (by rw [h]; rfl)
                  · exact h3.2 (by rw [h]; rfl))
              go_roundw
              case rel => exact ⟨q + 1, by omega, by go_num, trivial, hno'⟩
              case measure => simp [intOf]; omega
          · obtain rfl : q = key.size := by omega
            have hn : ¬ ((key.size : Int) < (key.size : Int)) := by omega
            have hgood : badKey key = false := badKey_not he (fun q c h => hno.out q c (by
              have := (List.getElem?_eq_some_iff.1 h).1
              rw [Array.length_toList] at this
              exact this) h)
            have hgo2 := HGO.out
            rw [pputF, hgood] at hgo2
            have HGO2 := Lib.hid hgo2
            have HBL := Lib.hid (recB_len ⟨key, value⟩ hs0 hs1)
            have HRL := Lib.hid (show recLen ⟨key, value⟩ = lenF (key.size + value.size + 3) from rfl)
            have HRE := Lib.hid (recLen_le ⟨key, value⟩)
            clear hgo2 hgood HGO
            go_upto_region 15 with (fail)
            obtain ⟨m, hm⟩ : ∃ m, m = recLen ⟨key, value⟩ := ⟨_, rfl⟩
            have hmle : m ≤ 1500 := by have := HRE.out; rw [← hm] at this; simp only at this; omega
            have HMM := Lib.hid (show lenF (key.size + value.size + 3) = m from hm.symm)
            have HDS := Lib.hid (show (⟨(Lib.decDigits m).toArray⟩ : ByteArray).size ≤ 20 from by rw [dec_size]; exact Lib.nDigits_le20 m (by omega))
            have HDD := Lib.hid (show recB ⟨key, value⟩ = ((((⟨(Lib.decDigits m).toArray⟩ ++ ⟨#[32]⟩) ++ key) ++ ⟨#[61]⟩) ++ value) ++ ⟨#[10]⟩ from by unfold recB; rw [← hm])
            have HIT := fun (W : World) (h : Lib.TabIs Tryd.prog W "internal/strconv.uint64pow10" .u64 Lib.pow10Tab) => itoa_calls m (by omega) W h
            rw [← hm] at HGO2 HBL
            clear hm HRL HRE
            generalize (⟨(Lib.decDigits m).toArray⟩ : ByteArray) = ds at *
            have hds := HDS.out
            have hz : ∀ c : UInt8, (⟨#[c]⟩ : ByteArray).size = 1 := fun _ => rfl
            have ht0 : ¬ 9223372036854775807 < S.size + ds.size := by omega
            have ht1 : ¬ 9223372036854775807 < S.size + ds.size + 1 := by omega
            have ht2 : ¬ 9223372036854775807 < S.size + ds.size + 1 + key.size := by omega
            have ht3 : ¬ 9223372036854775807 < S.size + ds.size + 1 + key.size + 1 := by omega
            have ht4 : ¬ 9223372036854775807 < S.size + ds.size + 1 + key.size + 1 + value.size := by omega
            have ht5 : ¬ 9223372036854775807 < S.size + ds.size + 1 + key.size + 1 + value.size + 1 := by omega
            have hs1' : ¬ 9223372036854775807 < (S ++ ds).size + (⟨#[32]⟩ : ByteArray).size := by rw [ByteArray.size_append, hz]; omega
            have hs2' : ¬ 9223372036854775807 < ((S ++ ds) ++ ⟨#[32]⟩).size + key.size := by rw [ByteArray.size_append, ByteArray.size_append, hz]; omega
            have hs3' : ¬ 9223372036854775807 < (((S ++ ds) ++ ⟨#[32]⟩) ++ key).size + (⟨#[61]⟩ : ByteArray).size := by rw [ByteArray.size_append, ByteArray.size_append, ByteArray.size_append, hz, hz]; omega
            have hs4' : ¬ 9223372036854775807 < ((((S ++ ds) ++ ⟨#[32]⟩) ++ key) ++ ⟨#[61]⟩).size + value.size := by rw [ByteArray.size_append, ByteArray.size_append, ByteArray.size_append, ByteArray.size_append, hz, hz]; omega
            have hs5' : ¬ 9223372036854775807 < (((((S ++ ds) ++ ⟨#[32]⟩) ++ key) ++ ⟨#[61]⟩) ++ value).size + (⟨#[10]⟩ : ByteArray).size := by rw [ByteArray.size_append, ByteArray.size_append, ByteArray.size_append, ByteArray.size_append, ByteArray.size_append, hz, hz, hz]; omega
            go_region_held3 (fun w' => w'.cell? ⟨rb, 0, none⟩ = some (.string key) ∧ w'.cell? ⟨rb, 1, none⟩ = some (.string value))
              (first | go_keep | exact two_below hb7 (by assumption) | exact two_below hb6 (by assumption))
              (first
                | (go_at_call 20
                   go_must (refine (HIT _ (tab_below (tab_below HT1.out (Below.drew (Below.refl _ _))) hb6)).mono ?_)
                   rintro e w7 ⟨rfl, hb7⟩)
                | (go_at_call 10
                   go_must (refine (rlen_calls key value (key.size + value.size + 3) _ rfl (by omega) (tab_below HT1.out (Below.drew (Below.refl _ _)))).mono ?_)
                   rintro e w6 ⟨rfl, hb6⟩
                   rw [HMM.out]))
            rename_i hHeld
            clear hHeld ht0 ht1 ht2 ht3 ht4 ht5 hs1' hs2' hs3' hs4' hs5' hb0 hb1
            have HW6 := HW1.out.trans ((below_undrew hb6).mono HW1.out.size)
            have HW7 := Lib.hid (HW6.trans (hb7.mono HW6.size))
            clear HW6 hb6 hb7 HIT
            obtain ⟨S2, hS2⟩ : ∃ S2, S2 = S ++ ds ++ ⟨#[32]⟩ ++ key ++ ⟨#[61]⟩ ++ value ++ ⟨#[10]⟩ := ⟨_, rfl⟩
            rw [← hS2]
            have hS3 : S2 = S ++ recB ⟨key, value⟩ := by rw [hS2, HDD.out]; simp only [ByteArray.append_assoc]
            have hS4 : S2.size = S.size + m := by rw [hS3, ByteArray.size_append, HBL.out]
            have hS5 : S2.data.toList = S.data.toList ++ (recB ⟨key, value⟩).data.toList := by rw [hS3, ba_list]
            have hS6 : S.data.toList.length = S.size := Array.length_toList
            have hgo3 := HGO2.out
            rw [hS6] at hgo3
            clear HGO2 hS2 hS3 HDD HDS hds
            by_cases hov : 1048576 < S2.size
            · rw [if_pos (.inr (by omega))] at hgo3
              have HX := Lib.hid hgo3
              have hov' : (1048576 : Int) < (S2.size : Int) := by omega
              clear hgo3 hS4 hS5 hS6
              go_wp2_with fail
              go_ret2
              exact ⟨by rw [HX.out]; rfl, HW7.out⟩
            · rw [if_neg (by rintro (h | h); cases h; omega), ← hS5] at hgo3
              have HX := Lib.hid hgo3
              have hov' : ¬ (1048576 : Int) < (S2.size : Int) := by omega
              clear hgo3 hS4 hS5 hS6
              go_wp2_with fail
              go_roundw
              case rel => exact ⟨k + 1, S2, by omega, rfl, by go_num, by omega, HX.out, HW7.out⟩
              case measure => simp [intOf]; omega
    · obtain rfl : k = l.length := by omega
      have hn : ¬ ((l.length : Int) < (l.length : Int)) := by omega
      have hX := hgo.out
      rw [List.drop_length, pputF] at hX
      have HX := Lib.hid hX
      clear hX hgo
      go_wp2_with fail
      go_ret2
      exact ⟨by rw [HX.out]; rfl, HW.out⟩
end Go.Proofs.YtmdfnelcgobpkaaDoor.Z
