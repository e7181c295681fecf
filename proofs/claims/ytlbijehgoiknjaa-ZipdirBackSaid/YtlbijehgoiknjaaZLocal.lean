/- Walk of package zipdir's Local, where a header stands. -/
import Derived.Test.YtlbijehgoiknjaaZGreat
import Derived.Test.YtlbijehgoiknjaaZPutLoc
set_option linter.unusedVariables false
set_option linter.unusedSimpArgs false
namespace Go.Proofs.Ytlbijehgoiknjaa.Z
open Go.RowKit Go.Proofs.YtlbijehgoiknjaaW.PrintWords Go.Proofs.YtlbijehgoiknjaaW.PrintLast Go.Proofs.YtlbijehgoiknjaaW.PrintMore Go.Proofs.Ytlbijehgoiknjaa.PZipdirHeaders

/-- A header's number, or the great one that stands for it. -/
def pick32 (x v : Int) : Int := if x = 4294967295 then v else x

set_option maxHeartbeats 4000000 in
set_option maxRecDepth 100000 in
theorem local_ok (A : Option Addr) (c : Nat) (l : List Int) (at0 : Int) (s0 s1 s2 s3 s4 s5 : RS) (need flags method time date sum packed size nm mo : Int) (nameL moreL : List Int) (fl : List S80) (vals : List Int) (w : World)
    (hr : Kd.C (Kd.int .u8) w A l.length l) (hc : l.length ≤ c) (hb : ∀ x ∈ l, 0 ≤ x ∧ x < 256) (hl : l.length ≤ 1000000)
    (e0 : numF l ⟨at0, false⟩ 4 = (67324752, s0))
    (e1 : numsF l s0 2 5 = ([need, flags, method, time, date], s1)) (e2 : numsF l s1 4 3 = ([sum, packed, size], s2)) (e3 : numsF l s2 2 2 = ([nm, mo], s3))
    (t1 : textF l s3 nm = (nameL, s4)) (t2 : textF l s4 mo = (moreL, s5)) (hbad : s5.bad = false)
    (hs3 : 0 ≤ s3.at_ ∧ s3.at_ ≤ l.length) (hs4 : 0 ≤ s4.at_ ∧ s4.at_ ≤ l.length) (hn0 : 0 ≤ nm) (hn1 : nm ≤ 65535) (hm0 : 0 ≤ mo) (hm1 : mo ≤ 65535)
    (ht0 : 0 ≤ time) (ht1 : time < 65536) (hd0 : 0 ≤ date) (hd1 : date < 65536) (hs0 : 0 ≤ sum) (hs1 : sum < 4294967296)
    (hml : moreL.length ≤ 65535) (hrd : readF (strOfNums moreL) ((strOfNums moreL).size + 1) 0 = some fl) (hls : fl.length ≤ 1000000) (hds : ∀ f ∈ fl, f.f1.size ≤ 1000000)
    (hbig : bigF fl [size == 4294967295, packed == 4294967295] = some vals) (hvl : vals.length = 2) :
    Calls Try.prog 18 #[.slice A l.length c, .int .i64 at0] w fun e w' => ∃ v ex, e = .returned (.tuple #[.agg (memCells 0 need flags method (date * 65536 + time) sum (pick32 packed (vals.getD 1 0)) (pick32 size (vals.getD 0 0)) (strOfNums nameL) v ⟨#[]⟩ 0 0), .int .i64 s5.at_, .int .i64 0]) ∧
      ex = fl.filter (fun f => f.f0 != 1) ∧ Kd.R k80 80 w' w.heap.size (fun _ => True) v ex ∧ Below w.heap.size w w' := by
  have HB := Lib.hid hb
  have HC := Lib.hid hr
  have E0 := Lib.hid e0
  have E1 := Lib.hid e1
  have E2 := Lib.hid e2
  have E3 := Lib.hid e3
  have T1 := Lib.hid t1
  have T2 := Lib.hid t2
  have HRD := Lib.hid hrd
  have HDS := Lib.hid hds
  have HBG := Lib.hid hbig
  clear hb hr e0 e1 e2 e3 t1 t2 hrd hds hbig
  go_enter Try.func18, Try.ntmps18
  go_wp2_with fail
  have HS := Lib.hid (show RdS (((w.alloc (.cells #[.int .i64 0, .int .i64 0, .int .i64 0, .int .i64 0, .int .i64 0, .int .u32 0, .int .i64 0, .int .i64 0, .string ⟨#[]⟩, .slice none 0 0, .string ⟨#[]⟩, .int .u32 0, .int .i64 0] 36)).alloc (.cells #[.slice A l.length c, .int .i64 at0, .bool false] 62)).alloc (.cells #[.int .i64 0, .int .i64 0, .int .i64 0, .int .i64 0, .int .i64 0, .int .u32 0, .int .i64 0, .int .i64 0, .string ⟨#[]⟩, .slice none 0 0, .string ⟨#[]⟩, .int .u32 0, .int .i64 0] 36)) (w.heap.size + 1) A l.length c at0 false from blk_alloc (blk_new' (w.alloc (.cells #[.int .i64 0, .int .i64 0, .int .i64 0, .int .i64 0, .int .i64 0, .int .u32 0, .int .i64 0, .int .i64 0, .string ⟨#[]⟩, .slice none 0 0, .string ⟨#[]⟩, .int .u32 0, .int .i64 0] 36)) (.cells #[.slice A l.length c, .int .i64 at0, .bool false] 62) (w.heap.size + 1) (by simp)) (.cells #[.int .i64 0, .int .i64 0, .int .i64 0, .int .i64 0, .int .i64 0, .int .u32 0, .int .i64 0, .int .i64 0, .string ⟨#[]⟩, .slice none 0 0, .string ⟨#[]⟩, .int .u32 0, .int .i64 0] 36))
  have HM := Lib.hid (blk_new' ((w.alloc (.cells #[.int .i64 0, .int .i64 0, .int .i64 0, .int .i64 0, .int .i64 0, .int .u32 0, .int .i64 0, .int .i64 0, .string ⟨#[]⟩, .slice none 0 0, .string ⟨#[]⟩, .int .u32 0, .int .i64 0] 36)).alloc (.cells #[.slice A l.length c, .int .i64 at0, .bool false] 62)) (.cells #[.int .i64 0, .int .i64 0, .int .i64 0, .int .i64 0, .int .i64 0, .int .u32 0, .int .i64 0, .int .i64 0, .string ⟨#[]⟩, .slice none 0 0, .string ⟨#[]⟩, .int .u32 0, .int .i64 0] 36) (w.heap.size + 1 + 1) (by simp))
  have HC0 := Lib.hid (Kd.C_alloc (Kd.C_alloc (Kd.C_alloc HC.out (.cells #[.int .i64 0, .int .i64 0, .int .i64 0, .int .i64 0, .int .i64 0, .int .u32 0, .int .i64 0, .int .i64 0, .string ⟨#[]⟩, .slice none 0 0, .string ⟨#[]⟩, .int .u32 0, .int .i64 0] 36)) (.cells #[.slice A l.length c, .int .i64 at0, .bool false] 62)) (.cells #[.int .i64 0, .int .i64 0, .int .i64 0, .int .i64 0, .int .i64 0, .int .u32 0, .int .i64 0, .int .i64 0, .string ⟨#[]⟩, .slice none 0 0, .string ⟨#[]⟩, .int .u32 0, .int .i64 0] 36))
  have HR := Lib.hid (blk_alloc (blk_alloc (blk_new w (.cells #[.int .i64 0, .int .i64 0, .int .i64 0, .int .i64 0, .int .i64 0, .int .u32 0, .int .i64 0, .int .i64 0, .string ⟨#[]⟩, .slice none 0 0, .string ⟨#[]⟩, .int .u32 0, .int .i64 0] 36)) (.cells #[.slice A l.length c, .int .i64 at0, .bool false] 62)) (.cells #[.int .i64 0, .int .i64 0, .int .i64 0, .int .i64 0, .int .i64 0, .int .u32 0, .int .i64 0, .int .i64 0, .string ⟨#[]⟩, .slice none 0 0, .string ⟨#[]⟩, .int .u32 0, .int .i64 0] 36))
  have HBe := Lib.hid (below_alloc (below_alloc (below_alloc (Below.refl w.heap.size w) (.cells #[.int .i64 0, .int .i64 0, .int .i64 0, .int .i64 0, .int .i64 0, .int .u32 0, .int .i64 0, .int .i64 0, .string ⟨#[]⟩, .slice none 0 0, .string ⟨#[]⟩, .int .u32 0, .int .i64 0] 36)) (.cells #[.slice A l.length c, .int .i64 at0, .bool false] 62)) (.cells #[.int .i64 0, .int .i64 0, .int .i64 0, .int .i64 0, .int .i64 0, .int .u32 0, .int .i64 0, .int .i64 0, .string ⟨#[]⟩, .slice none 0 0, .string ⟨#[]⟩, .int .u32 0, .int .i64 0] 36))
  have HW := Lib.hid (show w.heap.size + 1 + 1 < (((w.alloc (.cells #[.int .i64 0, .int .i64 0, .int .i64 0, .int .i64 0, .int .i64 0, .int .u32 0, .int .i64 0, .int .i64 0, .string ⟨#[]⟩, .slice none 0 0, .string ⟨#[]⟩, .int .u32 0, .int .i64 0] 36)).alloc (.cells #[.slice A l.length c, .int .i64 at0, .bool false] 62)).alloc (.cells #[.int .i64 0, .int .i64 0, .int .i64 0, .int .i64 0, .int .i64 0, .int .u32 0, .int .i64 0, .int .i64 0, .string ⟨#[]⟩, .slice none 0 0, .string ⟨#[]⟩, .int .u32 0, .int .i64 0] 36)).heap.size from by simp)
  clear HC
  generalize (((w.alloc (.cells #[.int .i64 0, .int .i64 0, .int .i64 0, .int .i64 0, .int .i64 0, .int .u32 0, .int .i64 0, .int .i64 0, .string ⟨#[]⟩, .slice none 0 0, .string ⟨#[]⟩, .int .u32 0, .int .i64 0] 36)).alloc (.cells #[.slice A l.length c, .int .i64 at0, .bool false] 62)).alloc (.cells #[.int .i64 0, .int .i64 0, .int .i64 0, .int .i64 0, .int .i64 0, .int .u32 0, .int .i64 0, .int .i64 0, .string ⟨#[]⟩, .slice none 0 0, .string ⟨#[]⟩, .int .u32 0, .int .i64 0] 36)) = w0 at *
  refine (number_calls (w.heap.size + 1) A c l ⟨at0, false⟩ 4 _ HS.out HC0.out HB.out (by omega) (by omega) (by omega)).mono ?_
  rintro e w1 ⟨rfl, hS, hK⟩
  rw [E0.out] at hS ⊢
  have HC1 := Lib.hid (C_rds HC0.out HS.out hK)
  have HM1 := Lib.hid (hK.blk HM.out (by simp))
  have HR1 := Lib.hid (hK.blk HR.out (by simp))
  have HW1 := Lib.hid (Nat.lt_of_lt_of_le HW.out hK.size)
  have HB1 := Lib.hid (HBe.out.trans (hK.to_below (by have := HW.out; omega) (by simp)))
  have HS1 := Lib.hid hS
  clear hS hK HC0 HS HM HR HW HBe
  go_wp2_with fail
  refine (rcommon_calls (w.heap.size + 1) (w.heap.size + 1 + 1) A c l s0 s1 s2 s3 0 0 0 0 0 0 0 0 ⟨#[]⟩ none 0 0 ⟨#[]⟩ 0 0 need flags method time date sum packed size nm mo _ HS1.out HC1.out HB.out (by omega) HM1.out (by omega) E1.out E2.out E3.out ht0 ht1 hd0 hd1 hs0 hs1).mono ?_
  rintro e w2 ⟨rfl, hS, hC, hM, hK⟩
  have HR2 := Lib.hid (hK.blk HR1.out (by simp; omega))
  have HW2 := Lib.hid (Nat.lt_of_lt_of_le HW1.out hK.size)
  have HB2 := Lib.hid (HB1.out.trans (hK.to_below (by have := HW1.out; omega) (by simp; omega)))
  have HS2 := Lib.hid hS
  have HC2 := Lib.hid hC
  unfold memCells at hM
  have HM2 := Lib.hid hM
  clear hS hK hC hM HC1 HS1 HM1 HR1 HW1 HB1
  go_wp2_with fail
  refine (text_calls (w.heap.size + 1) A c l s3 nm _ HS2.out HC2.out hc (by omega) hn0 (by omega) (fun _ => hs3)).mono ?_
  rintro e w3 ⟨rfl, hS, hK⟩
  rw [T1.out] at hS ⊢
  have HC3 := Lib.hid (C_rds HC2.out HS2.out hK)
  have HM3 := Lib.hid (hK.blk HM2.out (by simp))
  have HR3 := Lib.hid (hK.blk HR2.out (by simp))
  have HW3 := Lib.hid (Nat.lt_of_lt_of_le HW2.out hK.size)
  have HB3 := Lib.hid (HB2.out.trans (hK.to_below (by have := HW2.out; omega) (by simp)))
  have HS3 := Lib.hid hS
  clear hS hK HC2 HS2 HM2 HR2 HW2 HB2
  have hc8 := blk_cell HM3.out 8
  have hz8 := blk_frozen HM3.out 8
  simp only [List.getElem?_toArray, List.getElem?_cons_zero, List.getElem?_cons_succ] at hc8
  have HN := Lib.hid (show (w3.setCell ⟨w.heap.size + 1 + 1, 8, none⟩ (.string (strOfNums nameL))).heap[w.heap.size + 1 + 1]? = some (.cells #[.int .i64 0, .int .i64 need, .int .i64 flags, .int .i64 method, .int .i64 (date * 65536 + time), .int .u32 sum, .int .i64 packed, .int .i64 size, .string (strOfNums nameL), .slice none 0 0, .string ⟨#[]⟩, .int .u32 0, .int .i64 0] 36 (0, 0)) from blk_put HM3.out 8 _ rfl)
  have HCN := Lib.hid (C_mem HC3.out HM3.out 8 (.string (strOfNums nameL)))
  have HSN := Lib.hid (show RdS _ (w.heap.size + 1) A l.length c s4.at_ s4.bad from blk_far HS3.out (p := ⟨w.heap.size + 1 + 1, 8, none⟩) (by show w.heap.size + 1 ≠ w.heap.size + 1 + 1; omega) (.string (strOfNums nameL)))
  have HRN := Lib.hid (blk_far HR3.out (p := ⟨w.heap.size + 1 + 1, 8, none⟩) (by show w.heap.size ≠ w.heap.size + 1 + 1; omega) (.string (strOfNums nameL)))
  have HWN := Lib.hid (show w.heap.size + 1 + 1 < (w3.setCell ⟨w.heap.size + 1 + 1, 8, none⟩ (.string (strOfNums nameL))).heap.size from by have := HW3.out; simpa [World.setCell] using this)
  have HBN := Lib.hid (HB3.out.setCell (p := ⟨w.heap.size + 1 + 1, 8, none⟩) (by show w.heap.size ≤ w.heap.size + 1 + 1; omega) (.string (strOfNums nameL)))
  go_wp2_with fail
  clear hc8 hz8 HC3 HS3 HM3 HR3 HW3 HB3
  generalize (w3.setCell ⟨w.heap.size + 1 + 1, 8, none⟩ (.string (strOfNums nameL))) = w4 at *
  refine (text_calls (w.heap.size + 1) A c l s4 mo _ HSN.out HCN.out hc (by omega) hm0 (by omega) (fun _ => hs4)).mono ?_
  rintro e w5 ⟨rfl, hS, hK⟩
  rw [T2.out] at hS ⊢
  have HM5 := Lib.hid (hK.blk HN.out (by simp))
  have HR5 := Lib.hid (hK.blk HRN.out (by simp))
  have HW5 := Lib.hid (Nat.lt_of_lt_of_le HWN.out hK.size)
  have HB5 := Lib.hid (HBN.out.trans (hK.to_below (by have := HWN.out; omega) (by simp)))
  rw [hbad] at hS
  have HS5 := Lib.hid hS
  clear hS hK HCN HSN HN HRN HWN HBN
  have hb2 := blk_cell HS5.out 2
  simp only [List.getElem?_toArray, List.getElem?_cons_zero, List.getElem?_cons_succ] at hb2
  go_wp2_with fail
  have hpt := ptrs_at (ts := [⟨w.heap.size + 1 + 1, 7, none⟩, ⟨w.heap.size + 1 + 1, 6, none⟩]) (blk_new w5 (.cells #[.pointer (some ⟨w.heap.size + 1 + 1, 7, none⟩), .pointer (some ⟨w.heap.size + 1 + 1, 6, none⟩)] 64))
  refine (great_ok (w.heap.size + 1 + 1) w5.heap.size 2 [7, 6] [size, packed] #[.int .i64 0, .int .i64 need, .int .i64 flags, .int .i64 method, .int .i64 (date * 65536 + time), .int .u32 sum, .int .i64 packed, .int .i64 size, .string (strOfNums nameL), .slice none 0 0, .string ⟨#[]⟩, .int .u32 0, .int .i64 0] (strOfNums moreL) fl vals _ (blk_alloc HM5.out (.cells #[.pointer (some ⟨w.heap.size + 1 + 1, 7, none⟩), .pointer (some ⟨w.heap.size + 1 + 1, 6, none⟩)] 64)) rfl rfl ?_ rfl (by simp) (by simp) ?_ (by have := HW5.out; omega) (by rw [strOfNums_size]; omega) HRD.out hls HDS.out HBG.out hvl).mono ?_
  · intro j t hj
    rcases j with _ | _ | j
    · obtain rfl : 7 = t := by simpa using hj
      exact ⟨size, rfl, rfl⟩
    · obtain rfl : 6 = t := by simpa using hj
      exact ⟨packed, rfl, rfl⟩
    · simp at hj
  · intro j t hj
    rcases j with _ | _ | j
    · obtain rfl : 7 = t := by simpa using hj
      exact hpt 0 _ rfl
    · obtain rfl : 6 = t := by simpa using hj
      exact hpt 1 _ rfl
    · simp at hj
  rintro e w6 ⟨rfl, v, hM, hRv, hK⟩
  obtain ⟨v0, v1, rfl⟩ : ∃ v0 v1, vals = [v0, v1] := by
    match vals, hvl with
    | [v0, v1], _ => exact ⟨v0, v1, rfl⟩
  have hw6 : w.heap.size ≤ (w5.alloc (.cells #[.pointer (some ⟨w.heap.size + 1 + 1, 7, none⟩), .pointer (some ⟨w.heap.size + 1 + 1, 6, none⟩)] 64)).heap.size := by have := HW5.out; simp; omega
  have HM6 := Lib.hid (show w6.heap[w.heap.size + 1 + 1]? = some (.cells #[.int .i64 0, .int .i64 need, .int .i64 flags, .int .i64 method, .int .i64 (date * 65536 + time), .int .u32 sum, .int .i64 (pick32 packed v1), .int .i64 (pick32 size v0), .string (strOfNums nameL), v, .string ⟨#[]⟩, .int .u32 0, .int .i64 0] 36 (0, 0)) from by
    rw [hM]
    by_cases g1 : size = 4294967295 <;> by_cases g2 : packed = 4294967295 <;> simp [lay, pick32, g1, g2])
  have HR6 := Lib.hid (hK.blk (blk_alloc HR5.out (.cells #[.pointer (some ⟨w.heap.size + 1 + 1, 7, none⟩), .pointer (some ⟨w.heap.size + 1 + 1, 6, none⟩)] 64)) (by simp; omega))
  have HS6 := Lib.hid (hK.blk (blk_alloc HS5.out (.cells #[.pointer (some ⟨w.heap.size + 1 + 1, 7, none⟩), .pointer (some ⟨w.heap.size + 1 + 1, 6, none⟩)] 64)) (by simp))
  have HRv := Lib.hid hRv
  have HB6 := Lib.hid ((HB5.out.alloc HB5.out.size (.cells #[.pointer (some ⟨w.heap.size + 1 + 1, 7, none⟩), .pointer (some ⟨w.heap.size + 1 + 1, 6, none⟩)] 64)).trans (hK.to_below hw6 (by simp; omega)))
  clear hM hRv hK HM5 HR5 HS5 HB5 hpt hb2
  obtain ⟨Ax, cx, rfl, -, -⟩ := Kd.R_reads HRv.out
  generalize hnx : (fl.filter fun f => f.f0 != 1).length = nx at *
  go_wp2_with fail
  try simp only [List.getD_cons_zero, List.getD_cons_succ]
  generalize hpk : pick32 packed v1 = pk at *
  generalize hsz : pick32 size v0 = sz at *
  obtain ⟨c0, c1, c2, c3, c4, c5, c6, c7, c8, c9, c10, c11, c12⟩ := mem_at HM6.out
  obtain ⟨d0, d1, d2, d3, d4, d5, d6, d7, d8, d9, d10, d11, d12⟩ := mem_at HR6.out
  have hg1 := blk_cell HS6.out 1
  simp only [List.getElem?_toArray, List.getElem?_cons_zero, List.getElem?_cons_succ] at hg1
  have z0 := blk_frozen HR6.out 0
  have z1 := blk_frozen HR6.out 1
  have z2 := blk_frozen HR6.out 2
  have z3 := blk_frozen HR6.out 3
  have z4 := blk_frozen HR6.out 4
  have z5 := blk_frozen HR6.out 5
  have z6 := blk_frozen HR6.out 6
  have z7 := blk_frozen HR6.out 7
  have z8 := blk_frozen HR6.out 8
  have z9 := blk_frozen HR6.out 9
  have z10 := blk_frozen HR6.out 10
  have z11 := blk_frozen HR6.out 11
  have z12 := blk_frozen HR6.out 12
  have hne1 : ¬ w.heap.size = w.heap.size + 1 := by omega
  have hne2 : ¬ w.heap.size = w.heap.size + 1 + 1 := by omega
  go_region_held3 (fun w' => w'.cell? ⟨w.heap.size + 1 + 1, 0, none⟩ = some (Value.int .i64 0) ∧ w'.cell? ⟨w.heap.size + 1 + 1, 1, none⟩ = some (Value.int .i64 need) ∧ w'.cell? ⟨w.heap.size + 1 + 1, 2, none⟩ = some (Value.int .i64 flags) ∧ w'.cell? ⟨w.heap.size + 1 + 1, 3, none⟩ = some (Value.int .i64 method) ∧ w'.cell? ⟨w.heap.size + 1 + 1, 4, none⟩ = some (Value.int .i64 (date * 65536 + time)) ∧ w'.cell? ⟨w.heap.size + 1 + 1, 5, none⟩ = some (Value.int .u32 sum) ∧ w'.cell? ⟨w.heap.size + 1 + 1, 6, none⟩ = some (Value.int .i64 pk) ∧ w'.cell? ⟨w.heap.size + 1 + 1, 7, none⟩ = some (Value.int .i64 sz) ∧ w'.cell? ⟨w.heap.size + 1 + 1, 8, none⟩ = some (Value.string (strOfNums nameL)) ∧ w'.cell? ⟨w.heap.size + 1 + 1, 9, none⟩ = some (.slice Ax nx cx) ∧ w'.cell? ⟨w.heap.size + 1 + 1, 10, none⟩ = some (Value.string ⟨#[]⟩) ∧ w'.cell? ⟨w.heap.size + 1 + 1, 11, none⟩ = some (Value.int .u32 0) ∧ w'.cell? ⟨w.heap.size + 1 + 1, 12, none⟩ = some (Value.int .i64 0) ∧ w'.cell? ⟨w.heap.size + 1, 1, none⟩ = some (.int .i64 s5.at_))
    (first | go_keep | (simp [go_sem, hne1, hne2, *])) (first | fail)
  go_wp2_with fail
  refine bodyPost_ret (v := .tuple #[.agg #[.int .i64 0, .int .i64 need, .int .i64 flags, .int .i64 method, .int .i64 (date * 65536 + time), .int .u32 sum, .int .i64 pk, .int .i64 sz, .string (strOfNums nameL), .slice Ax nx cx, .string ⟨#[]⟩, .int .u32 0, .int .i64 0], .int .i64 s5.at_, .int .i64 0]) ?_ rfl ?_
  · simp [results, Try.results18, go_sem, *]
  · have hKf := Kp.refl [w.heap.size] w6
    have hBf := HB6.out
    have hstep : ∀ (W : World) (i : Nat) (u : Value), Kp [w.heap.size] w6 W → Kp [w.heap.size] w6 (W.setCell ⟨w.heap.size, i, none⟩ u) := fun W i u h => h.setCell (p := ⟨w.heap.size, i, none⟩) (.inl (by simp)) u
    have hstepB : ∀ (W : World) (i : Nat) (u : Value), Below w.heap.size w W → Below w.heap.size w (W.setCell ⟨w.heap.size, i, none⟩ u) := fun W i u h => h.setCell (p := ⟨w.heap.size, i, none⟩) (Nat.le_refl _) u
    have hltr : w.heap.size < w5.heap.size := by have := HW5.out; omega
    refine ⟨.slice Ax nx cx, _, ?_, rfl, Kd.R_lower (R_kp HRv.out (S := [w.heap.size]) (Kp.drew ?_) (by simp; omega)) hw6, Below.drew ?_⟩
    · rw [← hpk, ← hsz]; rfl
    · with_reducible (iterate 13 refine hstep _ _ _ ?_)
      exact hKf
    · with_reducible (iterate 13 refine hstepB _ _ _ ?_)
      exact hBf
end Go.Proofs.Ytlbijehgoiknjaa.Z
