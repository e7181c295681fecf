/- Walk of package zipdir's Central. -/
import Derived.Test.YtlbijehgoiknjaaZLocal
set_option linter.unusedVariables false
set_option linter.unusedSimpArgs false
namespace Go.Proofs.Ytlbijehgoiknjaa.Z
open Go.RowKit Go.Proofs.YtlbijehgoiknjaaW.PrintWords Go.Proofs.YtlbijehgoiknjaaW.PrintLast Go.Proofs.YtlbijehgoiknjaaW.PrintMore Go.Proofs.Ytlbijehgoiknjaa.PZipdirHeaders

/-- What Central's call comes to: refused, or the member. -/
def CentralPost (s6 : RS) (mark made need flags method time date sum packed size disk attr offset : Int) (nameL moreL commL : List Int) (w : World) (e : Ending) (w' : World) : Prop :=
  Below w.heap.size w w' ∧
      (((s6.bad = true ∨ mark ≠ 33639248 ∨ (disk ≠ 0 ∧ disk ≠ 65535)) ∧ e = .returned (.tuple #[.agg (memCells 0 0 0 0 0 0 0 0 ⟨#[]⟩ (.slice none 0 0) ⟨#[]⟩ 0 0), .int .i64 0, .int .i64 2])) ∨
       (s6.bad = false ∧ mark = 33639248 ∧ (disk = 0 ∨ disk = 65535) ∧ ∃ fl vals v, readF (strOfNums moreL) ((strOfNums moreL).size + 1) 0 = some fl ∧ bigF fl [size == 4294967295, packed == 4294967295, offset == 4294967295] = some vals ∧
        e = .returned (.tuple #[.agg (memCells made need flags method (date * 65536 + time) sum (pick32 packed (vals.getD 1 0)) (pick32 size (vals.getD 0 0)) (strOfNums nameL) v (strOfNums commL) attr (pick32 offset (vals.getD 2 0))), .int .i64 s6.at_, .int .i64 0]) ∧
        Kd.R k80 80 w' w.heap.size (fun _ => True) v (fl.filter (fun f => f.f0 != 1))))
set_option maxHeartbeats 8000000 in
set_option maxRecDepth 100000 in
theorem central_calls (A : Option Addr) (c : Nat) (l : List Int) (at0 : Int) (s0 sa s1 s2 s3 sb sc s4 s5 s6 : RS) (mark made need flags method time date sum packed size nm mo cm disk inner attr offset : Int) (nameL moreL commL : List Int) (w : World)
    (hr : Kd.C (Kd.int .u8) w A l.length l) (hc : l.length ≤ c) (hb : ∀ x ∈ l, 0 ≤ x ∧ x < 256) (hl : l.length ≤ 1000000)
    (e0 : numsF l ⟨at0, false⟩ 4 1 = ([mark], s0)) (e1 : numsF l s0 2 1 = ([made], sa))
    (e2 : numsF l sa 2 5 = ([need, flags, method, time, date], s1)) (e3 : numsF l s1 4 3 = ([sum, packed, size], s2)) (e4 : numsF l s2 2 2 = ([nm, mo], s3))
    (e5 : numsF l s3 2 3 = ([cm, disk, inner], sb)) (e6 : numsF l sb 4 2 = ([attr, offset], sc))
    (t1 : textF l sc nm = (nameL, s4)) (t2 : textF l s4 mo = (moreL, s5)) (t3 : textF l s5 cm = (commL, s6))
    (hsc : sc.bad = false → 0 ≤ sc.at_ ∧ sc.at_ ≤ l.length) (hs4 : s4.bad = false → 0 ≤ s4.at_ ∧ s4.at_ ≤ l.length) (hs5 : s5.bad = false → 0 ≤ s5.at_ ∧ s5.at_ ≤ l.length)
    (hn0 : 0 ≤ nm) (hn1 : nm ≤ 65535) (hm0 : 0 ≤ mo) (hm1 : mo ≤ 65535) (hk0 : 0 ≤ cm) (hk1 : cm ≤ 65535)
    (ht0 : 0 ≤ time) (ht1 : time < 65536) (hd0 : 0 ≤ date) (hd1 : date < 65536) (hs0 : 0 ≤ sum) (hs1 : sum < 4294967296) (ha0 : 0 ≤ attr) (ha1 : attr < 4294967296)
    (hgood : s6.bad = false → mark = 33639248 → (disk = 0 ∨ disk = 65535) → ∃ fl vals, moreL.length ≤ 65535 ∧ readF (strOfNums moreL) ((strOfNums moreL).size + 1) 0 = some fl ∧ fl.length ≤ 1000000 ∧ (∀ f ∈ fl, f.f1.size ≤ 1000000) ∧
      bigF fl [size == 4294967295, packed == 4294967295, offset == 4294967295] = some vals ∧ vals.length = 3) :
    Calls Try.prog 15 #[.slice A l.length c, .int .i64 at0] w fun e w' => CentralPost s6 mark made need flags method time date sum packed size disk attr offset nameL moreL commL w e w' := by
  have HB := Lib.hid hb
  have HC := Lib.hid hr
  have E0 := Lib.hid e0
  have E1 := Lib.hid e1
  have E2 := Lib.hid e2
  have E3 := Lib.hid e3
  have E4 := Lib.hid e4
  have E5 := Lib.hid e5
  have E6 := Lib.hid e6
  have T1 := Lib.hid t1
  have T2 := Lib.hid t2
  have T3 := Lib.hid t3
  have HGD := Lib.hid hgood
  clear hb hr e0 e1 e2 e3 e4 e5 e6 t1 t2 t3 hgood
  go_enter Try.func15, Try.ntmps15
  go_wp2_with fail
  have HS := Lib.hid (show RdS ((((((((w.alloc (.cells #[.int .i64 0, .int .i64 0, .int .i64 0, .int .i64 0, .int .i64 0, .int .u32 0, .int .i64 0, .int .i64 0, .string ⟨#[]⟩, .slice none 0 0, .string ⟨#[]⟩, .int .u32 0, .int .i64 0] 36)).alloc (.cells #[.slice A l.length c, .int .i64 at0, .bool false] 62)).alloc (.cells #[.int .i64 0, .int .i64 0, .int .i64 0, .int .i64 0, .int .i64 0, .int .u32 0, .int .i64 0, .int .i64 0, .string ⟨#[]⟩, .slice none 0 0, .string ⟨#[]⟩, .int .u32 0, .int .i64 0] 36)).alloc (.cells #[.int .i64 0] 3)).alloc (.cells #[.int .i64 0] 3)).alloc (.cells #[.int .i64 0] 3)).alloc (.cells #[.int .i64 0] 3)).alloc (.cells #[.int .i64 0] 3)) (w.heap.size + 1) A l.length c at0 false from (blk_alloc (blk_alloc (blk_alloc (blk_alloc (blk_alloc (blk_alloc (blk_new' (w.alloc (.cells #[.int .i64 0, .int .i64 0, .int .i64 0, .int .i64 0, .int .i64 0, .int .u32 0, .int .i64 0, .int .i64 0, .string ⟨#[]⟩, .slice none 0 0, .string ⟨#[]⟩, .int .u32 0, .int .i64 0] 36)) (.cells #[.slice A l.length c, .int .i64 at0, .bool false] 62) (w.heap.size + 1) (by simp)) (.cells #[.int .i64 0, .int .i64 0, .int .i64 0, .int .i64 0, .int .i64 0, .int .u32 0, .int .i64 0, .int .i64 0, .string ⟨#[]⟩, .slice none 0 0, .string ⟨#[]⟩, .int .u32 0, .int .i64 0] 36)) (.cells #[.int .i64 0] 3)) (.cells #[.int .i64 0] 3)) (.cells #[.int .i64 0] 3)) (.cells #[.int .i64 0] 3)) (.cells #[.int .i64 0] 3)))
  have HC0 := Lib.hid (Kd.C_alloc (Kd.C_alloc (Kd.C_alloc (Kd.C_alloc (Kd.C_alloc (Kd.C_alloc (Kd.C_alloc (Kd.C_alloc HC.out (.cells #[.int .i64 0, .int .i64 0, .int .i64 0, .int .i64 0, .int .i64 0, .int .u32 0, .int .i64 0, .int .i64 0, .string ⟨#[]⟩, .slice none 0 0, .string ⟨#[]⟩, .int .u32 0, .int .i64 0] 36)) (.cells #[.slice A l.length c, .int .i64 at0, .bool false] 62)) (.cells #[.int .i64 0, .int .i64 0, .int .i64 0, .int .i64 0, .int .i64 0, .int .u32 0, .int .i64 0, .int .i64 0, .string ⟨#[]⟩, .slice none 0 0, .string ⟨#[]⟩, .int .u32 0, .int .i64 0] 36)) (.cells #[.int .i64 0] 3)) (.cells #[.int .i64 0] 3)) (.cells #[.int .i64 0] 3)) (.cells #[.int .i64 0] 3)) (.cells #[.int .i64 0] 3))
  have HM := Lib.hid (blk_alloc (blk_alloc (blk_alloc (blk_alloc (blk_alloc (blk_new' ((w.alloc (.cells #[.int .i64 0, .int .i64 0, .int .i64 0, .int .i64 0, .int .i64 0, .int .u32 0, .int .i64 0, .int .i64 0, .string ⟨#[]⟩, .slice none 0 0, .string ⟨#[]⟩, .int .u32 0, .int .i64 0] 36)).alloc (.cells #[.slice A l.length c, .int .i64 at0, .bool false] 62)) (.cells #[.int .i64 0, .int .i64 0, .int .i64 0, .int .i64 0, .int .i64 0, .int .u32 0, .int .i64 0, .int .i64 0, .string ⟨#[]⟩, .slice none 0 0, .string ⟨#[]⟩, .int .u32 0, .int .i64 0] 36) (w.heap.size + 1 + 1) (by simp)) (.cells #[.int .i64 0] 3)) (.cells #[.int .i64 0] 3)) (.cells #[.int .i64 0] 3)) (.cells #[.int .i64 0] 3)) (.cells #[.int .i64 0] 3))
  have HR := Lib.hid (blk_alloc (blk_alloc (blk_alloc (blk_alloc (blk_alloc (blk_alloc (blk_alloc (blk_new w (.cells #[.int .i64 0, .int .i64 0, .int .i64 0, .int .i64 0, .int .i64 0, .int .u32 0, .int .i64 0, .int .i64 0, .string ⟨#[]⟩, .slice none 0 0, .string ⟨#[]⟩, .int .u32 0, .int .i64 0] 36)) (.cells #[.slice A l.length c, .int .i64 at0, .bool false] 62)) (.cells #[.int .i64 0, .int .i64 0, .int .i64 0, .int .i64 0, .int .i64 0, .int .u32 0, .int .i64 0, .int .i64 0, .string ⟨#[]⟩, .slice none 0 0, .string ⟨#[]⟩, .int .u32 0, .int .i64 0] 36)) (.cells #[.int .i64 0] 3)) (.cells #[.int .i64 0] 3)) (.cells #[.int .i64 0] 3)) (.cells #[.int .i64 0] 3)) (.cells #[.int .i64 0] 3))
  have HN3 := Lib.hid (blk_alloc (blk_alloc (blk_alloc (blk_alloc (blk_new' (((w.alloc (.cells #[.int .i64 0, .int .i64 0, .int .i64 0, .int .i64 0, .int .i64 0, .int .u32 0, .int .i64 0, .int .i64 0, .string ⟨#[]⟩, .slice none 0 0, .string ⟨#[]⟩, .int .u32 0, .int .i64 0] 36)).alloc (.cells #[.slice A l.length c, .int .i64 at0, .bool false] 62)).alloc (.cells #[.int .i64 0, .int .i64 0, .int .i64 0, .int .i64 0, .int .i64 0, .int .u32 0, .int .i64 0, .int .i64 0, .string ⟨#[]⟩, .slice none 0 0, .string ⟨#[]⟩, .int .u32 0, .int .i64 0] 36)) (.cells #[.int .i64 0] 3) (w.heap.size + 1 + 1 + 1) (by simp)) (.cells #[.int .i64 0] 3)) (.cells #[.int .i64 0] 3)) (.cells #[.int .i64 0] 3)) (.cells #[.int .i64 0] 3))
  have HN4 := Lib.hid (blk_alloc (blk_alloc (blk_alloc (blk_new' ((((w.alloc (.cells #[.int .i64 0, .int .i64 0, .int .i64 0, .int .i64 0, .int .i64 0, .int .u32 0, .int .i64 0, .int .i64 0, .string ⟨#[]⟩, .slice none 0 0, .string ⟨#[]⟩, .int .u32 0, .int .i64 0] 36)).alloc (.cells #[.slice A l.length c, .int .i64 at0, .bool false] 62)).alloc (.cells #[.int .i64 0, .int .i64 0, .int .i64 0, .int .i64 0, .int .i64 0, .int .u32 0, .int .i64 0, .int .i64 0, .string ⟨#[]⟩, .slice none 0 0, .string ⟨#[]⟩, .int .u32 0, .int .i64 0] 36)).alloc (.cells #[.int .i64 0] 3)) (.cells #[.int .i64 0] 3) (w.heap.size + 1 + 1 + 1 + 1) (by simp)) (.cells #[.int .i64 0] 3)) (.cells #[.int .i64 0] 3)) (.cells #[.int .i64 0] 3))
  have HN5 := Lib.hid (blk_alloc (blk_alloc (blk_new' (((((w.alloc (.cells #[.int .i64 0, .int .i64 0, .int .i64 0, .int .i64 0, .int .i64 0, .int .u32 0, .int .i64 0, .int .i64 0, .string ⟨#[]⟩, .slice none 0 0, .string ⟨#[]⟩, .int .u32 0, .int .i64 0] 36)).alloc (.cells #[.slice A l.length c, .int .i64 at0, .bool false] 62)).alloc (.cells #[.int .i64 0, .int .i64 0, .int .i64 0, .int .i64 0, .int .i64 0, .int .u32 0, .int .i64 0, .int .i64 0, .string ⟨#[]⟩, .slice none 0 0, .string ⟨#[]⟩, .int .u32 0, .int .i64 0] 36)).alloc (.cells #[.int .i64 0] 3)).alloc (.cells #[.int .i64 0] 3)) (.cells #[.int .i64 0] 3) (w.heap.size + 1 + 1 + 1 + 1 + 1) (by simp)) (.cells #[.int .i64 0] 3)) (.cells #[.int .i64 0] 3))
  have HN6 := Lib.hid (blk_alloc (blk_new' ((((((w.alloc (.cells #[.int .i64 0, .int .i64 0, .int .i64 0, .int .i64 0, .int .i64 0, .int .u32 0, .int .i64 0, .int .i64 0, .string ⟨#[]⟩, .slice none 0 0, .string ⟨#[]⟩, .int .u32 0, .int .i64 0] 36)).alloc (.cells #[.slice A l.length c, .int .i64 at0, .bool false] 62)).alloc (.cells #[.int .i64 0, .int .i64 0, .int .i64 0, .int .i64 0, .int .i64 0, .int .u32 0, .int .i64 0, .int .i64 0, .string ⟨#[]⟩, .slice none 0 0, .string ⟨#[]⟩, .int .u32 0, .int .i64 0] 36)).alloc (.cells #[.int .i64 0] 3)).alloc (.cells #[.int .i64 0] 3)).alloc (.cells #[.int .i64 0] 3)) (.cells #[.int .i64 0] 3) (w.heap.size + 1 + 1 + 1 + 1 + 1 + 1) (by simp)) (.cells #[.int .i64 0] 3))
  have HN7 := Lib.hid (blk_new' (((((((w.alloc (.cells #[.int .i64 0, .int .i64 0, .int .i64 0, .int .i64 0, .int .i64 0, .int .u32 0, .int .i64 0, .int .i64 0, .string ⟨#[]⟩, .slice none 0 0, .string ⟨#[]⟩, .int .u32 0, .int .i64 0] 36)).alloc (.cells #[.slice A l.length c, .int .i64 at0, .bool false] 62)).alloc (.cells #[.int .i64 0, .int .i64 0, .int .i64 0, .int .i64 0, .int .i64 0, .int .u32 0, .int .i64 0, .int .i64 0, .string ⟨#[]⟩, .slice none 0 0, .string ⟨#[]⟩, .int .u32 0, .int .i64 0] 36)).alloc (.cells #[.int .i64 0] 3)).alloc (.cells #[.int .i64 0] 3)).alloc (.cells #[.int .i64 0] 3)).alloc (.cells #[.int .i64 0] 3)) (.cells #[.int .i64 0] 3) (w.heap.size + 1 + 1 + 1 + 1 + 1 + 1 + 1) (by simp))
  have HBe := Lib.hid (below_alloc (below_alloc (below_alloc (below_alloc (below_alloc (below_alloc (below_alloc (below_alloc (Below.refl w.heap.size w) (.cells #[.int .i64 0, .int .i64 0, .int .i64 0, .int .i64 0, .int .i64 0, .int .u32 0, .int .i64 0, .int .i64 0, .string ⟨#[]⟩, .slice none 0 0, .string ⟨#[]⟩, .int .u32 0, .int .i64 0] 36)) (.cells #[.slice A l.length c, .int .i64 at0, .bool false] 62)) (.cells #[.int .i64 0, .int .i64 0, .int .i64 0, .int .i64 0, .int .i64 0, .int .u32 0, .int .i64 0, .int .i64 0, .string ⟨#[]⟩, .slice none 0 0, .string ⟨#[]⟩, .int .u32 0, .int .i64 0] 36)) (.cells #[.int .i64 0] 3)) (.cells #[.int .i64 0] 3)) (.cells #[.int .i64 0] 3)) (.cells #[.int .i64 0] 3)) (.cells #[.int .i64 0] 3))
  have HW := Lib.hid (show w.heap.size + 1 + 1 + 1 + 1 + 1 + 1 + 1 + 1 ≤ ((((((((w.alloc (.cells #[.int .i64 0, .int .i64 0, .int .i64 0, .int .i64 0, .int .i64 0, .int .u32 0, .int .i64 0, .int .i64 0, .string ⟨#[]⟩, .slice none 0 0, .string ⟨#[]⟩, .int .u32 0, .int .i64 0] 36)).alloc (.cells #[.slice A l.length c, .int .i64 at0, .bool false] 62)).alloc (.cells #[.int .i64 0, .int .i64 0, .int .i64 0, .int .i64 0, .int .i64 0, .int .u32 0, .int .i64 0, .int .i64 0, .string ⟨#[]⟩, .slice none 0 0, .string ⟨#[]⟩, .int .u32 0, .int .i64 0] 36)).alloc (.cells #[.int .i64 0] 3)).alloc (.cells #[.int .i64 0] 3)).alloc (.cells #[.int .i64 0] 3)).alloc (.cells #[.int .i64 0] 3)).alloc (.cells #[.int .i64 0] 3)).heap.size from by simp)
  clear HC
  have HC := Lib.hid HC0.out
  clear HC0
  have hw0 : ((((((((w.alloc (.cells #[.int .i64 0, .int .i64 0, .int .i64 0, .int .i64 0, .int .i64 0, .int .u32 0, .int .i64 0, .int .i64 0, .string ⟨#[]⟩, .slice none 0 0, .string ⟨#[]⟩, .int .u32 0, .int .i64 0] 36)).alloc (.cells #[.slice A l.length c, .int .i64 at0, .bool false] 62)).alloc (.cells #[.int .i64 0, .int .i64 0, .int .i64 0, .int .i64 0, .int .i64 0, .int .u32 0, .int .i64 0, .int .i64 0, .string ⟨#[]⟩, .slice none 0 0, .string ⟨#[]⟩, .int .u32 0, .int .i64 0] 36)).alloc (.cells #[.int .i64 0] 3)).alloc (.cells #[.int .i64 0] 3)).alloc (.cells #[.int .i64 0] 3)).alloc (.cells #[.int .i64 0] 3)).alloc (.cells #[.int .i64 0] 3)).heap.size = w.heap.size + 1 + 1 + 1 + 1 + 1 + 1 + 1 + 1 := by simp
  generalize ((((((((w.alloc (.cells #[.int .i64 0, .int .i64 0, .int .i64 0, .int .i64 0, .int .i64 0, .int .u32 0, .int .i64 0, .int .i64 0, .string ⟨#[]⟩, .slice none 0 0, .string ⟨#[]⟩, .int .u32 0, .int .i64 0] 36)).alloc (.cells #[.slice A l.length c, .int .i64 at0, .bool false] 62)).alloc (.cells #[.int .i64 0, .int .i64 0, .int .i64 0, .int .i64 0, .int .i64 0, .int .u32 0, .int .i64 0, .int .i64 0, .string ⟨#[]⟩, .slice none 0 0, .string ⟨#[]⟩, .int .u32 0, .int .i64 0] 36)).alloc (.cells #[.int .i64 0] 3)).alloc (.cells #[.int .i64 0] 3)).alloc (.cells #[.int .i64 0] 3)).alloc (.cells #[.int .i64 0] 3)).alloc (.cells #[.int .i64 0] 3)) = w0 at *
  rw [← hw0]
  clear hw0
  have HT := Lib.hid (show ∀ t, t ∈ ([⟨w.heap.size + 1 + 1 + 1, 0, none⟩] : List Addr) → (∃ x, w0.cell? t = some (.int .i64 x)) ∧ w0.frozen? t = false ∧ t.block ≠ w.heap.size + 1 from fun t ht => by
    simp only [List.mem_cons, List.not_mem_nil, or_false] at ht
    rcases ht with rfl
    · exact ⟨⟨_, blk_cell HN3.out 0⟩, blk_frozen HN3.out 0, by show w.heap.size + 1 + 1 + 1 ≠ w.heap.size + 1; omega⟩)
  refine (numbers_lit (w.heap.size + 1) A c l ⟨at0, false⟩ 4 [⟨w.heap.size + 1 + 1 + 1, 0, none⟩] w0 HS.out HC.out HB.out (by omega) (by omega) (by omega) HT.out (by simp)).mono ?_
  rintro e w1 ⟨rfl, hS, hC, hK⟩
  clear HT
  rw [show ([⟨w.heap.size + 1 + 1 + 1, 0, none⟩] : List Addr).length = 1 from rfl, E0.out] at hS hK
  have hM : w1.heap[w.heap.size + 1 + 1]? = some (.cells #[.int .i64 0, .int .i64 0, .int .i64 0, .int .i64 0, .int .i64 0, .int .u32 0, .int .i64 0, .int .i64 0, .string ⟨#[]⟩, .slice none 0 0, .string ⟨#[]⟩, .int .u32 0, .int .i64 0] 36 (0, 0)) := hK.blk (blk_far HM.out (p := ⟨w.heap.size + 1 + 1 + 1, 0, none⟩) (by show w.heap.size + 1 + 1 ≠ w.heap.size + 1 + 1 + 1; omega) (.int .i64 mark)) (by simp only [List.mem_cons, List.not_mem_nil, or_false]; omega)
  have hR : w1.heap[w.heap.size]? = some (.cells #[.int .i64 0, .int .i64 0, .int .i64 0, .int .i64 0, .int .i64 0, .int .u32 0, .int .i64 0, .int .i64 0, .string ⟨#[]⟩, .slice none 0 0, .string ⟨#[]⟩, .int .u32 0, .int .i64 0] 36 (0, 0)) := hK.blk (blk_far HR.out (p := ⟨w.heap.size + 1 + 1 + 1, 0, none⟩) (by show w.heap.size ≠ w.heap.size + 1 + 1 + 1; omega) (.int .i64 mark)) (by simp only [List.mem_cons, List.not_mem_nil, or_false]; omega)
  have hN3 : w1.heap[w.heap.size + 1 + 1 + 1]? = some (.cells #[.int .i64 mark] 3 (0, 0)) := hK.blk (blk_put HN3.out 0 (.int .i64 mark) rfl) (by simp only [List.mem_cons, List.not_mem_nil, or_false]; omega)
  have hN4 : w1.heap[w.heap.size + 1 + 1 + 1 + 1]? = some (.cells #[.int .i64 0] 3 (0, 0)) := hK.blk (blk_far HN4.out (p := ⟨w.heap.size + 1 + 1 + 1, 0, none⟩) (by show w.heap.size + 1 + 1 + 1 + 1 ≠ w.heap.size + 1 + 1 + 1; omega) (.int .i64 mark)) (by simp only [List.mem_cons, List.not_mem_nil, or_false]; omega)
  have hN5 : w1.heap[w.heap.size + 1 + 1 + 1 + 1 + 1]? = some (.cells #[.int .i64 0] 3 (0, 0)) := hK.blk (blk_far HN5.out (p := ⟨w.heap.size + 1 + 1 + 1, 0, none⟩) (by show w.heap.size + 1 + 1 + 1 + 1 + 1 ≠ w.heap.size + 1 + 1 + 1; omega) (.int .i64 mark)) (by simp only [List.mem_cons, List.not_mem_nil, or_false]; omega)
  have hN6 : w1.heap[w.heap.size + 1 + 1 + 1 + 1 + 1 + 1]? = some (.cells #[.int .i64 0] 3 (0, 0)) := hK.blk (blk_far HN6.out (p := ⟨w.heap.size + 1 + 1 + 1, 0, none⟩) (by show w.heap.size + 1 + 1 + 1 + 1 + 1 + 1 ≠ w.heap.size + 1 + 1 + 1; omega) (.int .i64 mark)) (by simp only [List.mem_cons, List.not_mem_nil, or_false]; omega)
  have hN7 : w1.heap[w.heap.size + 1 + 1 + 1 + 1 + 1 + 1 + 1]? = some (.cells #[.int .i64 0] 3 (0, 0)) := hK.blk (blk_far HN7.out (p := ⟨w.heap.size + 1 + 1 + 1, 0, none⟩) (by show w.heap.size + 1 + 1 + 1 + 1 + 1 + 1 + 1 ≠ w.heap.size + 1 + 1 + 1; omega) (.int .i64 mark)) (by simp only [List.mem_cons, List.not_mem_nil, or_false]; omega)
  have hsz : w.heap.size + 1 + 1 + 1 + 1 + 1 + 1 + 1 + 1 ≤ (setAll w0 [⟨w.heap.size + 1 + 1 + 1, 0, none⟩] [mark]).heap.size := by have h5 := HW.out; simp [setAll, World.setCell]; omega
  have hBe := Below.trans (HBe.out.setCell (p := ⟨w.heap.size + 1 + 1 + 1, 0, none⟩) (by show w.heap.size ≤ w.heap.size + 1 + 1 + 1; omega) (.int .i64 mark)) (hK.to_below (by show w.heap.size ≤ (setAll w0 [⟨w.heap.size + 1 + 1 + 1, 0, none⟩] [mark]).heap.size; omega) (by intro x hx; simp only [List.mem_cons, List.not_mem_nil, or_false] at hx; omega))
  have hW : w.heap.size + 1 + 1 + 1 + 1 + 1 + 1 + 1 + 1 ≤ w1.heap.size := Nat.le_trans hsz hK.size
  clear hsz
  clear HS HC HM HR HBe HW HN3 HN4 HN5 HN6 HN7
  have HS := Lib.hid hS
  have HC := Lib.hid hC
  have HM := Lib.hid hM
  have HR := Lib.hid hR
  have HBe := Lib.hid hBe
  have HW := Lib.hid hW
  have HN3 := Lib.hid hN3
  have HN4 := Lib.hid hN4
  have HN5 := Lib.hid hN5
  have HN6 := Lib.hid hN6
  have HN7 := Lib.hid hN7
  clear hS hC hM hR hBe hW hK hN3 hN4 hN5 hN6 hN7
  go_wp2_with fail
  have HT := Lib.hid (show ∀ t, t ∈ ([⟨w.heap.size + 1 + 1, 0, none⟩] : List Addr) → (∃ x, w1.cell? t = some (.int .i64 x)) ∧ w1.frozen? t = false ∧ t.block ≠ w.heap.size + 1 from fun t ht => by
    simp only [List.mem_cons, List.not_mem_nil, or_false] at ht
    rcases ht with rfl
    · exact ⟨⟨_, blk_cell HM.out 0⟩, blk_frozen HM.out 0, by show w.heap.size + 1 + 1 ≠ w.heap.size + 1; omega⟩)
  refine (numbers_lit (w.heap.size + 1) A c l s0 2 [⟨w.heap.size + 1 + 1, 0, none⟩] w1 HS.out HC.out HB.out (by omega) (by omega) (by omega) HT.out (by simp)).mono ?_
  rintro e w2 ⟨rfl, hS, hC, hK⟩
  clear HT
  rw [show ([⟨w.heap.size + 1 + 1, 0, none⟩] : List Addr).length = 1 from rfl, E1.out] at hS hK
  have hM : w2.heap[w.heap.size + 1 + 1]? = some (.cells #[.int .i64 made, .int .i64 0, .int .i64 0, .int .i64 0, .int .i64 0, .int .u32 0, .int .i64 0, .int .i64 0, .string ⟨#[]⟩, .slice none 0 0, .string ⟨#[]⟩, .int .u32 0, .int .i64 0] 36 (0, 0)) := hK.blk (blk_put HM.out 0 (.int .i64 made) rfl) (by simp only [List.mem_cons, List.not_mem_nil, or_false]; omega)
  have hR : w2.heap[w.heap.size]? = some (.cells #[.int .i64 0, .int .i64 0, .int .i64 0, .int .i64 0, .int .i64 0, .int .u32 0, .int .i64 0, .int .i64 0, .string ⟨#[]⟩, .slice none 0 0, .string ⟨#[]⟩, .int .u32 0, .int .i64 0] 36 (0, 0)) := hK.blk (blk_far HR.out (p := ⟨w.heap.size + 1 + 1, 0, none⟩) (by show w.heap.size ≠ w.heap.size + 1 + 1; omega) (.int .i64 made)) (by simp only [List.mem_cons, List.not_mem_nil, or_false]; omega)
  have hN3 : w2.heap[w.heap.size + 1 + 1 + 1]? = some (.cells #[.int .i64 mark] 3 (0, 0)) := hK.blk (blk_far HN3.out (p := ⟨w.heap.size + 1 + 1, 0, none⟩) (by show w.heap.size + 1 + 1 + 1 ≠ w.heap.size + 1 + 1; omega) (.int .i64 made)) (by simp only [List.mem_cons, List.not_mem_nil, or_false]; omega)
  have hN4 : w2.heap[w.heap.size + 1 + 1 + 1 + 1]? = some (.cells #[.int .i64 0] 3 (0, 0)) := hK.blk (blk_far HN4.out (p := ⟨w.heap.size + 1 + 1, 0, none⟩) (by show w.heap.size + 1 + 1 + 1 + 1 ≠ w.heap.size + 1 + 1; omega) (.int .i64 made)) (by simp only [List.mem_cons, List.not_mem_nil, or_false]; omega)
  have hN5 : w2.heap[w.heap.size + 1 + 1 + 1 + 1 + 1]? = some (.cells #[.int .i64 0] 3 (0, 0)) := hK.blk (blk_far HN5.out (p := ⟨w.heap.size + 1 + 1, 0, none⟩) (by show w.heap.size + 1 + 1 + 1 + 1 + 1 ≠ w.heap.size + 1 + 1; omega) (.int .i64 made)) (by simp only [List.mem_cons, List.not_mem_nil, or_false]; omega)
  have hN6 : w2.heap[w.heap.size + 1 + 1 + 1 + 1 + 1 + 1]? = some (.cells #[.int .i64 0] 3 (0, 0)) := hK.blk (blk_far HN6.out (p := ⟨w.heap.size + 1 + 1, 0, none⟩) (by show w.heap.size + 1 + 1 + 1 + 1 + 1 + 1 ≠ w.heap.size + 1 + 1; omega) (.int .i64 made)) (by simp only [List.mem_cons, List.not_mem_nil, or_false]; omega)
  have hN7 : w2.heap[w.heap.size + 1 + 1 + 1 + 1 + 1 + 1 + 1]? = some (.cells #[.int .i64 0] 3 (0, 0)) := hK.blk (blk_far HN7.out (p := ⟨w.heap.size + 1 + 1, 0, none⟩) (by show w.heap.size + 1 + 1 + 1 + 1 + 1 + 1 + 1 ≠ w.heap.size + 1 + 1; omega) (.int .i64 made)) (by simp only [List.mem_cons, List.not_mem_nil, or_false]; omega)
  have hsz : w.heap.size + 1 + 1 + 1 + 1 + 1 + 1 + 1 + 1 ≤ (setAll w1 [⟨w.heap.size + 1 + 1, 0, none⟩] [made]).heap.size := by have h5 := HW.out; simp [setAll, World.setCell]; omega
  have hBe := Below.trans (HBe.out.setCell (p := ⟨w.heap.size + 1 + 1, 0, none⟩) (by show w.heap.size ≤ w.heap.size + 1 + 1; omega) (.int .i64 made)) (hK.to_below (by show w.heap.size ≤ (setAll w1 [⟨w.heap.size + 1 + 1, 0, none⟩] [made]).heap.size; omega) (by intro x hx; simp only [List.mem_cons, List.not_mem_nil, or_false] at hx; omega))
  have hW : w.heap.size + 1 + 1 + 1 + 1 + 1 + 1 + 1 + 1 ≤ w2.heap.size := Nat.le_trans hsz hK.size
  clear hsz
  clear HS HC HM HR HBe HW HN3 HN4 HN5 HN6 HN7
  have HS := Lib.hid hS
  have HC := Lib.hid hC
  have HM := Lib.hid hM
  have HR := Lib.hid hR
  have HBe := Lib.hid hBe
  have HW := Lib.hid hW
  have HN3 := Lib.hid hN3
  have HN4 := Lib.hid hN4
  have HN5 := Lib.hid hN5
  have HN6 := Lib.hid hN6
  have HN7 := Lib.hid hN7
  clear hS hC hM hR hBe hW hK hN3 hN4 hN5 hN6 hN7
  go_wp2_with fail
  refine (rcommon_calls (w.heap.size + 1) (w.heap.size + 1 + 1) A c l sa s1 s2 s3 made 0 0 0 0 0 0 0 ⟨#[]⟩ none 0 0 ⟨#[]⟩ 0 0 need flags method time date sum packed size nm mo _ HS.out HC.out HB.out (by omega) HM.out (by omega) E2.out E3.out E4.out ht0 ht1 hd0 hd1 hs0 hs1).mono ?_
  rintro e w3 ⟨rfl, hS, hC, hM, hK⟩
  unfold memCells at hM
  have hN3 := hK.blk HN3.out (by simp only [List.mem_cons, List.not_mem_nil, or_false]; omega)
  have hN4 := hK.blk HN4.out (by simp only [List.mem_cons, List.not_mem_nil, or_false]; omega)
  have hN5 := hK.blk HN5.out (by simp only [List.mem_cons, List.not_mem_nil, or_false]; omega)
  have hN6 := hK.blk HN6.out (by simp only [List.mem_cons, List.not_mem_nil, or_false]; omega)
  have hN7 := hK.blk HN7.out (by simp only [List.mem_cons, List.not_mem_nil, or_false]; omega)
  have hR := hK.blk HR.out (by simp only [List.mem_cons, List.not_mem_nil, or_false]; omega)
  have hBe := HBe.out.trans (hK.to_below (by have := HW.out; omega) (by intro x hx; simp only [List.mem_cons, List.not_mem_nil, or_false] at hx; omega))
  have hW : w.heap.size + 1 + 1 + 1 + 1 + 1 + 1 + 1 + 1 ≤ w3.heap.size := by have := hK.size; have := HW.out; omega
  clear HS HC HM HR HBe HW HN3 HN4 HN5 HN6 HN7
  have HS := Lib.hid hS
  have HC := Lib.hid hC
  have HM := Lib.hid hM
  have HR := Lib.hid hR
  have HBe := Lib.hid hBe
  have HW := Lib.hid hW
  have HN3 := Lib.hid hN3
  have HN4 := Lib.hid hN4
  have HN5 := Lib.hid hN5
  have HN6 := Lib.hid hN6
  have HN7 := Lib.hid hN7
  clear hS hC hM hR hBe hW hK hN3 hN4 hN5 hN6 hN7
  go_wp2_with fail
  have HT := Lib.hid (show ∀ t, t ∈ ([⟨w.heap.size + 1 + 1 + 1 + 1, 0, none⟩, ⟨w.heap.size + 1 + 1 + 1 + 1 + 1, 0, none⟩, ⟨w.heap.size + 1 + 1 + 1 + 1 + 1 + 1, 0, none⟩] : List Addr) → (∃ x, w3.cell? t = some (.int .i64 x)) ∧ w3.frozen? t = false ∧ t.block ≠ w.heap.size + 1 from fun t ht => by
    simp only [List.mem_cons, List.not_mem_nil, or_false] at ht
    rcases ht with rfl | rfl | rfl
    · exact ⟨⟨_, blk_cell HN4.out 0⟩, blk_frozen HN4.out 0, by show w.heap.size + 1 + 1 + 1 + 1 ≠ w.heap.size + 1; omega⟩
    · exact ⟨⟨_, blk_cell HN5.out 0⟩, blk_frozen HN5.out 0, by show w.heap.size + 1 + 1 + 1 + 1 + 1 ≠ w.heap.size + 1; omega⟩
    · exact ⟨⟨_, blk_cell HN6.out 0⟩, blk_frozen HN6.out 0, by show w.heap.size + 1 + 1 + 1 + 1 + 1 + 1 ≠ w.heap.size + 1; omega⟩)
  refine (numbers_lit (w.heap.size + 1) A c l s3 2 [⟨w.heap.size + 1 + 1 + 1 + 1, 0, none⟩, ⟨w.heap.size + 1 + 1 + 1 + 1 + 1, 0, none⟩, ⟨w.heap.size + 1 + 1 + 1 + 1 + 1 + 1, 0, none⟩] w3 HS.out HC.out HB.out (by omega) (by omega) (by omega) HT.out (by simp)).mono ?_
  rintro e w4 ⟨rfl, hS, hC, hK⟩
  clear HT
  rw [show ([⟨w.heap.size + 1 + 1 + 1 + 1, 0, none⟩, ⟨w.heap.size + 1 + 1 + 1 + 1 + 1, 0, none⟩, ⟨w.heap.size + 1 + 1 + 1 + 1 + 1 + 1, 0, none⟩] : List Addr).length = 3 from rfl, E5.out] at hS hK
  have hM : w4.heap[w.heap.size + 1 + 1]? = some (.cells #[.int .i64 made, .int .i64 need, .int .i64 flags, .int .i64 method, .int .i64 (date * 65536 + time), .int .u32 sum, .int .i64 packed, .int .i64 size, .string ⟨#[]⟩, .slice none 0 0, .string ⟨#[]⟩, .int .u32 0, .int .i64 0] 36 (0, 0)) := hK.blk (blk_far (blk_far (blk_far HM.out (p := ⟨w.heap.size + 1 + 1 + 1 + 1, 0, none⟩) (by show w.heap.size + 1 + 1 ≠ w.heap.size + 1 + 1 + 1 + 1; omega) (.int .i64 cm)) (p := ⟨w.heap.size + 1 + 1 + 1 + 1 + 1, 0, none⟩) (by show w.heap.size + 1 + 1 ≠ w.heap.size + 1 + 1 + 1 + 1 + 1; omega) (.int .i64 disk)) (p := ⟨w.heap.size + 1 + 1 + 1 + 1 + 1 + 1, 0, none⟩) (by show w.heap.size + 1 + 1 ≠ w.heap.size + 1 + 1 + 1 + 1 + 1 + 1; omega) (.int .i64 inner)) (by simp only [List.mem_cons, List.not_mem_nil, or_false]; omega)
  have hR : w4.heap[w.heap.size]? = some (.cells #[.int .i64 0, .int .i64 0, .int .i64 0, .int .i64 0, .int .i64 0, .int .u32 0, .int .i64 0, .int .i64 0, .string ⟨#[]⟩, .slice none 0 0, .string ⟨#[]⟩, .int .u32 0, .int .i64 0] 36 (0, 0)) := hK.blk (blk_far (blk_far (blk_far HR.out (p := ⟨w.heap.size + 1 + 1 + 1 + 1, 0, none⟩) (by show w.heap.size ≠ w.heap.size + 1 + 1 + 1 + 1; omega) (.int .i64 cm)) (p := ⟨w.heap.size + 1 + 1 + 1 + 1 + 1, 0, none⟩) (by show w.heap.size ≠ w.heap.size + 1 + 1 + 1 + 1 + 1; omega) (.int .i64 disk)) (p := ⟨w.heap.size + 1 + 1 + 1 + 1 + 1 + 1, 0, none⟩) (by show w.heap.size ≠ w.heap.size + 1 + 1 + 1 + 1 + 1 + 1; omega) (.int .i64 inner)) (by simp only [List.mem_cons, List.not_mem_nil, or_false]; omega)
  have hN3 : w4.heap[w.heap.size + 1 + 1 + 1]? = some (.cells #[.int .i64 mark] 3 (0, 0)) := hK.blk (blk_far (blk_far (blk_far HN3.out (p := ⟨w.heap.size + 1 + 1 + 1 + 1, 0, none⟩) (by show w.heap.size + 1 + 1 + 1 ≠ w.heap.size + 1 + 1 + 1 + 1; omega) (.int .i64 cm)) (p := ⟨w.heap.size + 1 + 1 + 1 + 1 + 1, 0, none⟩) (by show w.heap.size + 1 + 1 + 1 ≠ w.heap.size + 1 + 1 + 1 + 1 + 1; omega) (.int .i64 disk)) (p := ⟨w.heap.size + 1 + 1 + 1 + 1 + 1 + 1, 0, none⟩) (by show w.heap.size + 1 + 1 + 1 ≠ w.heap.size + 1 + 1 + 1 + 1 + 1 + 1; omega) (.int .i64 inner)) (by simp only [List.mem_cons, List.not_mem_nil, or_false]; omega)
  have hN4 : w4.heap[w.heap.size + 1 + 1 + 1 + 1]? = some (.cells #[.int .i64 cm] 3 (0, 0)) := hK.blk (blk_far (blk_far (blk_put HN4.out 0 (.int .i64 cm) rfl) (p := ⟨w.heap.size + 1 + 1 + 1 + 1 + 1, 0, none⟩) (by show w.heap.size + 1 + 1 + 1 + 1 ≠ w.heap.size + 1 + 1 + 1 + 1 + 1; omega) (.int .i64 disk)) (p := ⟨w.heap.size + 1 + 1 + 1 + 1 + 1 + 1, 0, none⟩) (by show w.heap.size + 1 + 1 + 1 + 1 ≠ w.heap.size + 1 + 1 + 1 + 1 + 1 + 1; omega) (.int .i64 inner)) (by simp only [List.mem_cons, List.not_mem_nil, or_false]; omega)
  have hN5 : w4.heap[w.heap.size + 1 + 1 + 1 + 1 + 1]? = some (.cells #[.int .i64 disk] 3 (0, 0)) := hK.blk (blk_far (blk_put (blk_far HN5.out (p := ⟨w.heap.size + 1 + 1 + 1 + 1, 0, none⟩) (by show w.heap.size + 1 + 1 + 1 + 1 + 1 ≠ w.heap.size + 1 + 1 + 1 + 1; omega) (.int .i64 cm)) 0 (.int .i64 disk) rfl) (p := ⟨w.heap.size + 1 + 1 + 1 + 1 + 1 + 1, 0, none⟩) (by show w.heap.size + 1 + 1 + 1 + 1 + 1 ≠ w.heap.size + 1 + 1 + 1 + 1 + 1 + 1; omega) (.int .i64 inner)) (by simp only [List.mem_cons, List.not_mem_nil, or_false]; omega)
  have hN6 : w4.heap[w.heap.size + 1 + 1 + 1 + 1 + 1 + 1]? = some (.cells #[.int .i64 inner] 3 (0, 0)) := hK.blk (blk_put (blk_far (blk_far HN6.out (p := ⟨w.heap.size + 1 + 1 + 1 + 1, 0, none⟩) (by show w.heap.size + 1 + 1 + 1 + 1 + 1 + 1 ≠ w.heap.size + 1 + 1 + 1 + 1; omega) (.int .i64 cm)) (p := ⟨w.heap.size + 1 + 1 + 1 + 1 + 1, 0, none⟩) (by show w.heap.size + 1 + 1 + 1 + 1 + 1 + 1 ≠ w.heap.size + 1 + 1 + 1 + 1 + 1; omega) (.int .i64 disk)) 0 (.int .i64 inner) rfl) (by simp only [List.mem_cons, List.not_mem_nil, or_false]; omega)
  have hN7 : w4.heap[w.heap.size + 1 + 1 + 1 + 1 + 1 + 1 + 1]? = some (.cells #[.int .i64 0] 3 (0, 0)) := hK.blk (blk_far (blk_far (blk_far HN7.out (p := ⟨w.heap.size + 1 + 1 + 1 + 1, 0, none⟩) (by show w.heap.size + 1 + 1 + 1 + 1 + 1 + 1 + 1 ≠ w.heap.size + 1 + 1 + 1 + 1; omega) (.int .i64 cm)) (p := ⟨w.heap.size + 1 + 1 + 1 + 1 + 1, 0, none⟩) (by show w.heap.size + 1 + 1 + 1 + 1 + 1 + 1 + 1 ≠ w.heap.size + 1 + 1 + 1 + 1 + 1; omega) (.int .i64 disk)) (p := ⟨w.heap.size + 1 + 1 + 1 + 1 + 1 + 1, 0, none⟩) (by show w.heap.size + 1 + 1 + 1 + 1 + 1 + 1 + 1 ≠ w.heap.size + 1 + 1 + 1 + 1 + 1 + 1; omega) (.int .i64 inner)) (by simp only [List.mem_cons, List.not_mem_nil, or_false]; omega)
  have hsz : w.heap.size + 1 + 1 + 1 + 1 + 1 + 1 + 1 + 1 ≤ (setAll w3 [⟨w.heap.size + 1 + 1 + 1 + 1, 0, none⟩, ⟨w.heap.size + 1 + 1 + 1 + 1 + 1, 0, none⟩, ⟨w.heap.size + 1 + 1 + 1 + 1 + 1 + 1, 0, none⟩] [cm, disk, inner]).heap.size := by have h5 := HW.out; simp [setAll, World.setCell]; omega
  have hBe := Below.trans (((HBe.out.setCell (p := ⟨w.heap.size + 1 + 1 + 1 + 1, 0, none⟩) (by show w.heap.size ≤ w.heap.size + 1 + 1 + 1 + 1; omega) (.int .i64 cm)).setCell (p := ⟨w.heap.size + 1 + 1 + 1 + 1 + 1, 0, none⟩) (by show w.heap.size ≤ w.heap.size + 1 + 1 + 1 + 1 + 1; omega) (.int .i64 disk)).setCell (p := ⟨w.heap.size + 1 + 1 + 1 + 1 + 1 + 1, 0, none⟩) (by show w.heap.size ≤ w.heap.size + 1 + 1 + 1 + 1 + 1 + 1; omega) (.int .i64 inner)) (hK.to_below (by show w.heap.size ≤ (setAll w3 [⟨w.heap.size + 1 + 1 + 1 + 1, 0, none⟩, ⟨w.heap.size + 1 + 1 + 1 + 1 + 1, 0, none⟩, ⟨w.heap.size + 1 + 1 + 1 + 1 + 1 + 1, 0, none⟩] [cm, disk, inner]).heap.size; omega) (by intro x hx; simp only [List.mem_cons, List.not_mem_nil, or_false] at hx; omega))
  have hW : w.heap.size + 1 + 1 + 1 + 1 + 1 + 1 + 1 + 1 ≤ w4.heap.size := Nat.le_trans hsz hK.size
  clear hsz
  clear HS HC HM HR HBe HW HN3 HN4 HN5 HN6 HN7
  have HS := Lib.hid hS
  have HC := Lib.hid hC
  have HM := Lib.hid hM
  have HR := Lib.hid hR
  have HBe := Lib.hid hBe
  have HW := Lib.hid hW
  have HN3 := Lib.hid hN3
  have HN4 := Lib.hid hN4
  have HN5 := Lib.hid hN5
  have HN6 := Lib.hid hN6
  have HN7 := Lib.hid hN7
  clear hS hC hM hR hBe hW hK hN3 hN4 hN5 hN6 hN7
  go_wp2_with fail
  have HT := Lib.hid (show ∀ t, t ∈ ([⟨w.heap.size + 1 + 1 + 1 + 1 + 1 + 1 + 1, 0, none⟩, ⟨w.heap.size + 1 + 1, 12, none⟩] : List Addr) → (∃ x, w4.cell? t = some (.int .i64 x)) ∧ w4.frozen? t = false ∧ t.block ≠ w.heap.size + 1 from fun t ht => by
    simp only [List.mem_cons, List.not_mem_nil, or_false] at ht
    rcases ht with rfl | rfl
    · exact ⟨⟨_, blk_cell HN7.out 0⟩, blk_frozen HN7.out 0, by show w.heap.size + 1 + 1 + 1 + 1 + 1 + 1 + 1 ≠ w.heap.size + 1; omega⟩
    · exact ⟨⟨_, blk_cell HM.out 12⟩, blk_frozen HM.out 12, by show w.heap.size + 1 + 1 ≠ w.heap.size + 1; omega⟩)
  refine (numbers_lit (w.heap.size + 1) A c l sb 4 [⟨w.heap.size + 1 + 1 + 1 + 1 + 1 + 1 + 1, 0, none⟩, ⟨w.heap.size + 1 + 1, 12, none⟩] w4 HS.out HC.out HB.out (by omega) (by omega) (by omega) HT.out (by simp)).mono ?_
  rintro e w5 ⟨rfl, hS, hC, hK⟩
  clear HT
  rw [show ([⟨w.heap.size + 1 + 1 + 1 + 1 + 1 + 1 + 1, 0, none⟩, ⟨w.heap.size + 1 + 1, 12, none⟩] : List Addr).length = 2 from rfl, E6.out] at hS hK
  have hM : w5.heap[w.heap.size + 1 + 1]? = some (.cells #[.int .i64 made, .int .i64 need, .int .i64 flags, .int .i64 method, .int .i64 (date * 65536 + time), .int .u32 sum, .int .i64 packed, .int .i64 size, .string ⟨#[]⟩, .slice none 0 0, .string ⟨#[]⟩, .int .u32 0, .int .i64 offset] 36 (0, 0)) := hK.blk (blk_put (blk_far HM.out (p := ⟨w.heap.size + 1 + 1 + 1 + 1 + 1 + 1 + 1, 0, none⟩) (by show w.heap.size + 1 + 1 ≠ w.heap.size + 1 + 1 + 1 + 1 + 1 + 1 + 1; omega) (.int .i64 attr)) 12 (.int .i64 offset) rfl) (by simp only [List.mem_cons, List.not_mem_nil, or_false]; omega)
  have hR : w5.heap[w.heap.size]? = some (.cells #[.int .i64 0, .int .i64 0, .int .i64 0, .int .i64 0, .int .i64 0, .int .u32 0, .int .i64 0, .int .i64 0, .string ⟨#[]⟩, .slice none 0 0, .string ⟨#[]⟩, .int .u32 0, .int .i64 0] 36 (0, 0)) := hK.blk (blk_far (blk_far HR.out (p := ⟨w.heap.size + 1 + 1 + 1 + 1 + 1 + 1 + 1, 0, none⟩) (by show w.heap.size ≠ w.heap.size + 1 + 1 + 1 + 1 + 1 + 1 + 1; omega) (.int .i64 attr)) (p := ⟨w.heap.size + 1 + 1, 12, none⟩) (by show w.heap.size ≠ w.heap.size + 1 + 1; omega) (.int .i64 offset)) (by simp only [List.mem_cons, List.not_mem_nil, or_false]; omega)
  have hN3 : w5.heap[w.heap.size + 1 + 1 + 1]? = some (.cells #[.int .i64 mark] 3 (0, 0)) := hK.blk (blk_far (blk_far HN3.out (p := ⟨w.heap.size + 1 + 1 + 1 + 1 + 1 + 1 + 1, 0, none⟩) (by show w.heap.size + 1 + 1 + 1 ≠ w.heap.size + 1 + 1 + 1 + 1 + 1 + 1 + 1; omega) (.int .i64 attr)) (p := ⟨w.heap.size + 1 + 1, 12, none⟩) (by show w.heap.size + 1 + 1 + 1 ≠ w.heap.size + 1 + 1; omega) (.int .i64 offset)) (by simp only [List.mem_cons, List.not_mem_nil, or_false]; omega)
  have hN4 : w5.heap[w.heap.size + 1 + 1 + 1 + 1]? = some (.cells #[.int .i64 cm] 3 (0, 0)) := hK.blk (blk_far (blk_far HN4.out (p := ⟨w.heap.size + 1 + 1 + 1 + 1 + 1 + 1 + 1, 0, none⟩) (by show w.heap.size + 1 + 1 + 1 + 1 ≠ w.heap.size + 1 + 1 + 1 + 1 + 1 + 1 + 1; omega) (.int .i64 attr)) (p := ⟨w.heap.size + 1 + 1, 12, none⟩) (by show w.heap.size + 1 + 1 + 1 + 1 ≠ w.heap.size + 1 + 1; omega) (.int .i64 offset)) (by simp only [List.mem_cons, List.not_mem_nil, or_false]; omega)
  have hN5 : w5.heap[w.heap.size + 1 + 1 + 1 + 1 + 1]? = some (.cells #[.int .i64 disk] 3 (0, 0)) := hK.blk (blk_far (blk_far HN5.out (p := ⟨w.heap.size + 1 + 1 + 1 + 1 + 1 + 1 + 1, 0, none⟩) (by show w.heap.size + 1 + 1 + 1 + 1 + 1 ≠ w.heap.size + 1 + 1 + 1 + 1 + 1 + 1 + 1; omega) (.int .i64 attr)) (p := ⟨w.heap.size + 1 + 1, 12, none⟩) (by show w.heap.size + 1 + 1 + 1 + 1 + 1 ≠ w.heap.size + 1 + 1; omega) (.int .i64 offset)) (by simp only [List.mem_cons, List.not_mem_nil, or_false]; omega)
  have hN6 : w5.heap[w.heap.size + 1 + 1 + 1 + 1 + 1 + 1]? = some (.cells #[.int .i64 inner] 3 (0, 0)) := hK.blk (blk_far (blk_far HN6.out (p := ⟨w.heap.size + 1 + 1 + 1 + 1 + 1 + 1 + 1, 0, none⟩) (by show w.heap.size + 1 + 1 + 1 + 1 + 1 + 1 ≠ w.heap.size + 1 + 1 + 1 + 1 + 1 + 1 + 1; omega) (.int .i64 attr)) (p := ⟨w.heap.size + 1 + 1, 12, none⟩) (by show w.heap.size + 1 + 1 + 1 + 1 + 1 + 1 ≠ w.heap.size + 1 + 1; omega) (.int .i64 offset)) (by simp only [List.mem_cons, List.not_mem_nil, or_false]; omega)
  have hN7 : w5.heap[w.heap.size + 1 + 1 + 1 + 1 + 1 + 1 + 1]? = some (.cells #[.int .i64 attr] 3 (0, 0)) := hK.blk (blk_far (blk_put HN7.out 0 (.int .i64 attr) rfl) (p := ⟨w.heap.size + 1 + 1, 12, none⟩) (by show w.heap.size + 1 + 1 + 1 + 1 + 1 + 1 + 1 ≠ w.heap.size + 1 + 1; omega) (.int .i64 offset)) (by simp only [List.mem_cons, List.not_mem_nil, or_false]; omega)
  have hsz : w.heap.size + 1 + 1 + 1 + 1 + 1 + 1 + 1 + 1 ≤ (setAll w4 [⟨w.heap.size + 1 + 1 + 1 + 1 + 1 + 1 + 1, 0, none⟩, ⟨w.heap.size + 1 + 1, 12, none⟩] [attr, offset]).heap.size := by have h5 := HW.out; simp [setAll, World.setCell]; omega
  have hBe := Below.trans ((HBe.out.setCell (p := ⟨w.heap.size + 1 + 1 + 1 + 1 + 1 + 1 + 1, 0, none⟩) (by show w.heap.size ≤ w.heap.size + 1 + 1 + 1 + 1 + 1 + 1 + 1; omega) (.int .i64 attr)).setCell (p := ⟨w.heap.size + 1 + 1, 12, none⟩) (by show w.heap.size ≤ w.heap.size + 1 + 1; omega) (.int .i64 offset)) (hK.to_below (by show w.heap.size ≤ (setAll w4 [⟨w.heap.size + 1 + 1 + 1 + 1 + 1 + 1 + 1, 0, none⟩, ⟨w.heap.size + 1 + 1, 12, none⟩] [attr, offset]).heap.size; omega) (by intro x hx; simp only [List.mem_cons, List.not_mem_nil, or_false] at hx; omega))
  have hW : w.heap.size + 1 + 1 + 1 + 1 + 1 + 1 + 1 + 1 ≤ w5.heap.size := Nat.le_trans hsz hK.size
  clear hsz
  clear HS HC HM HR HBe HW HN3 HN4 HN5 HN6 HN7
  have HS := Lib.hid hS
  have HC := Lib.hid hC
  have HM := Lib.hid hM
  have HR := Lib.hid hR
  have HBe := Lib.hid hBe
  have HW := Lib.hid hW
  have HN3 := Lib.hid hN3
  have HN4 := Lib.hid hN4
  have HN5 := Lib.hid hN5
  have HN6 := Lib.hid hN6
  have HN7 := Lib.hid hN7
  clear hS hC hM hR hBe hW hK hN3 hN4 hN5 hN6 hN7
  have hv7 := blk_cell HN7.out 0
  simp only [List.getElem?_toArray, List.getElem?_cons_zero, List.getElem?_cons_succ] at hv7
  have uw : IntKind.u32.wrap attr = attr := IntWalk.u32_in _ (by omega)
  have hc11 := blk_cell HM.out 11
  have hz11 := blk_frozen HM.out 11
  simp only [List.getElem?_toArray, List.getElem?_cons_zero, List.getElem?_cons_succ] at hc11
  have hM : (w5.setCell ⟨w.heap.size + 1 + 1, 11, none⟩ (.int .u32 attr)).heap[w.heap.size + 1 + 1]? = some (.cells #[.int .i64 made, .int .i64 need, .int .i64 flags, .int .i64 method, .int .i64 (date * 65536 + time), .int .u32 sum, .int .i64 packed, .int .i64 size, .string ⟨#[]⟩, .slice none 0 0, .string ⟨#[]⟩, .int .u32 attr, .int .i64 offset] 36 (0, 0)) := blk_put HM.out 11 _ rfl
  have hC := C_mem HC.out HM.out 11 (.int .u32 attr)
  have hS := show RdS (w5.setCell ⟨w.heap.size + 1 + 1, 11, none⟩ (.int .u32 attr)) (w.heap.size + 1) A l.length c _ _ from (blk_far HS.out (p := ⟨w.heap.size + 1 + 1, 11, none⟩) (by show w.heap.size + 1 ≠ w.heap.size + 1 + 1; omega) (.int .u32 attr))
  have hR := (blk_far HR.out (p := ⟨w.heap.size + 1 + 1, 11, none⟩) (by show w.heap.size ≠ w.heap.size + 1 + 1; omega) (.int .u32 attr))
  have hN3 := (blk_far HN3.out (p := ⟨w.heap.size + 1 + 1, 11, none⟩) (by show w.heap.size + 1 + 1 + 1 ≠ w.heap.size + 1 + 1; omega) (.int .u32 attr))
  have hN4 := (blk_far HN4.out (p := ⟨w.heap.size + 1 + 1, 11, none⟩) (by show w.heap.size + 1 + 1 + 1 + 1 ≠ w.heap.size + 1 + 1; omega) (.int .u32 attr))
  have hN5 := (blk_far HN5.out (p := ⟨w.heap.size + 1 + 1, 11, none⟩) (by show w.heap.size + 1 + 1 + 1 + 1 + 1 ≠ w.heap.size + 1 + 1; omega) (.int .u32 attr))
  have hN6 := (blk_far HN6.out (p := ⟨w.heap.size + 1 + 1, 11, none⟩) (by show w.heap.size + 1 + 1 + 1 + 1 + 1 + 1 ≠ w.heap.size + 1 + 1; omega) (.int .u32 attr))
  have hN7 := (blk_far HN7.out (p := ⟨w.heap.size + 1 + 1, 11, none⟩) (by show w.heap.size + 1 + 1 + 1 + 1 + 1 + 1 + 1 ≠ w.heap.size + 1 + 1; omega) (.int .u32 attr))
  have hBe := HBe.out.setCell (p := ⟨w.heap.size + 1 + 1, 11, none⟩) (by show w.heap.size ≤ w.heap.size + 1 + 1; omega) (.int .u32 attr)
  have hW : w.heap.size + 1 + 1 + 1 + 1 + 1 + 1 + 1 + 1 ≤ (w5.setCell ⟨w.heap.size + 1 + 1, 11, none⟩ (.int .u32 attr)).heap.size := by have := HW.out; simpa [World.setCell] using this
  have hK := True.intro
  go_wp2_with fail
  clear hv7 uw
  clear HS HC HM HR HBe HW HN3 HN4 HN5 HN6 HN7
  have HS := Lib.hid hS
  have HC := Lib.hid hC
  have HM := Lib.hid hM
  have HR := Lib.hid hR
  have HBe := Lib.hid hBe
  have HW := Lib.hid hW
  have HN3 := Lib.hid hN3
  have HN4 := Lib.hid hN4
  have HN5 := Lib.hid hN5
  have HN6 := Lib.hid hN6
  have HN7 := Lib.hid hN7
  clear hS hC hM hR hBe hW hK hN3 hN4 hN5 hN6 hN7
  clear hc11 hz11
  generalize (w5.setCell ⟨w.heap.size + 1 + 1, 11, none⟩ (.int .u32 attr)) = w6 at *
  refine (text_calls (w.heap.size + 1) A c l sc nm _ HS.out HC.out hc (by omega) hn0 (by omega) hsc).mono ?_
  rintro e w7 ⟨rfl, hS, hK⟩
  rw [T1.out] at hS ⊢
  have hC := C_rds HC.out HS.out hK
  have hM := hK.blk HM.out (by simp only [List.mem_cons, List.not_mem_nil, or_false]; omega)
  have hN3 := hK.blk HN3.out (by simp only [List.mem_cons, List.not_mem_nil, or_false]; omega)
  have hN4 := hK.blk HN4.out (by simp only [List.mem_cons, List.not_mem_nil, or_false]; omega)
  have hN5 := hK.blk HN5.out (by simp only [List.mem_cons, List.not_mem_nil, or_false]; omega)
  have hN6 := hK.blk HN6.out (by simp only [List.mem_cons, List.not_mem_nil, or_false]; omega)
  have hN7 := hK.blk HN7.out (by simp only [List.mem_cons, List.not_mem_nil, or_false]; omega)
  have hR := hK.blk HR.out (by simp only [List.mem_cons, List.not_mem_nil, or_false]; omega)
  have hBe := HBe.out.trans (hK.to_below (by have := HW.out; omega) (by intro x hx; simp only [List.mem_cons, List.not_mem_nil, or_false] at hx; omega))
  have hW : w.heap.size + 1 + 1 + 1 + 1 + 1 + 1 + 1 + 1 ≤ w7.heap.size := by have := hK.size; have := HW.out; omega
  clear HS HC HM HR HBe HW HN3 HN4 HN5 HN6 HN7
  have HS := Lib.hid hS
  have HC := Lib.hid hC
  have HM := Lib.hid hM
  have HR := Lib.hid hR
  have HBe := Lib.hid hBe
  have HW := Lib.hid hW
  have HN3 := Lib.hid hN3
  have HN4 := Lib.hid hN4
  have HN5 := Lib.hid hN5
  have HN6 := Lib.hid hN6
  have HN7 := Lib.hid hN7
  clear hS hC hM hR hBe hW hK hN3 hN4 hN5 hN6 hN7
  have hc8 := blk_cell HM.out 8
  have hz8 := blk_frozen HM.out 8
  simp only [List.getElem?_toArray, List.getElem?_cons_zero, List.getElem?_cons_succ] at hc8
  have hM : (w7.setCell ⟨w.heap.size + 1 + 1, 8, none⟩ (.string (strOfNums nameL))).heap[w.heap.size + 1 + 1]? = some (.cells #[.int .i64 made, .int .i64 need, .int .i64 flags, .int .i64 method, .int .i64 (date * 65536 + time), .int .u32 sum, .int .i64 packed, .int .i64 size, .string (strOfNums nameL), .slice none 0 0, .string ⟨#[]⟩, .int .u32 attr, .int .i64 offset] 36 (0, 0)) := blk_put HM.out 8 _ rfl
  have hC := C_mem HC.out HM.out 8 (.string (strOfNums nameL))
  have hS := show RdS (w7.setCell ⟨w.heap.size + 1 + 1, 8, none⟩ (.string (strOfNums nameL))) (w.heap.size + 1) A l.length c _ _ from (blk_far HS.out (p := ⟨w.heap.size + 1 + 1, 8, none⟩) (by show w.heap.size + 1 ≠ w.heap.size + 1 + 1; omega) (.string (strOfNums nameL)))
  have hR := (blk_far HR.out (p := ⟨w.heap.size + 1 + 1, 8, none⟩) (by show w.heap.size ≠ w.heap.size + 1 + 1; omega) (.string (strOfNums nameL)))
  have hN3 := (blk_far HN3.out (p := ⟨w.heap.size + 1 + 1, 8, none⟩) (by show w.heap.size + 1 + 1 + 1 ≠ w.heap.size + 1 + 1; omega) (.string (strOfNums nameL)))
  have hN4 := (blk_far HN4.out (p := ⟨w.heap.size + 1 + 1, 8, none⟩) (by show w.heap.size + 1 + 1 + 1 + 1 ≠ w.heap.size + 1 + 1; omega) (.string (strOfNums nameL)))
  have hN5 := (blk_far HN5.out (p := ⟨w.heap.size + 1 + 1, 8, none⟩) (by show w.heap.size + 1 + 1 + 1 + 1 + 1 ≠ w.heap.size + 1 + 1; omega) (.string (strOfNums nameL)))
  have hN6 := (blk_far HN6.out (p := ⟨w.heap.size + 1 + 1, 8, none⟩) (by show w.heap.size + 1 + 1 + 1 + 1 + 1 + 1 ≠ w.heap.size + 1 + 1; omega) (.string (strOfNums nameL)))
  have hN7 := (blk_far HN7.out (p := ⟨w.heap.size + 1 + 1, 8, none⟩) (by show w.heap.size + 1 + 1 + 1 + 1 + 1 + 1 + 1 ≠ w.heap.size + 1 + 1; omega) (.string (strOfNums nameL)))
  have hBe := HBe.out.setCell (p := ⟨w.heap.size + 1 + 1, 8, none⟩) (by show w.heap.size ≤ w.heap.size + 1 + 1; omega) (.string (strOfNums nameL))
  have hW : w.heap.size + 1 + 1 + 1 + 1 + 1 + 1 + 1 + 1 ≤ (w7.setCell ⟨w.heap.size + 1 + 1, 8, none⟩ (.string (strOfNums nameL))).heap.size := by have := HW.out; simpa [World.setCell] using this
  have hK := True.intro
  go_wp2_with fail
  clear HS HC HM HR HBe HW HN3 HN4 HN5 HN6 HN7
  have HS := Lib.hid hS
  have HC := Lib.hid hC
  have HM := Lib.hid hM
  have HR := Lib.hid hR
  have HBe := Lib.hid hBe
  have HW := Lib.hid hW
  have HN3 := Lib.hid hN3
  have HN4 := Lib.hid hN4
  have HN5 := Lib.hid hN5
  have HN6 := Lib.hid hN6
  have HN7 := Lib.hid hN7
  clear hS hC hM hR hBe hW hK hN3 hN4 hN5 hN6 hN7
  clear hc8 hz8
  generalize (w7.setCell ⟨w.heap.size + 1 + 1, 8, none⟩ (.string (strOfNums nameL))) = w8 at *
  refine (text_calls (w.heap.size + 1) A c l s4 mo _ HS.out HC.out hc (by omega) hm0 (by omega) hs4).mono ?_
  rintro e w9 ⟨rfl, hS, hK⟩
  rw [T2.out] at hS ⊢
  have hC := C_rds HC.out HS.out hK
  have hM := hK.blk HM.out (by simp only [List.mem_cons, List.not_mem_nil, or_false]; omega)
  have hN3 := hK.blk HN3.out (by simp only [List.mem_cons, List.not_mem_nil, or_false]; omega)
  have hN4 := hK.blk HN4.out (by simp only [List.mem_cons, List.not_mem_nil, or_false]; omega)
  have hN5 := hK.blk HN5.out (by simp only [List.mem_cons, List.not_mem_nil, or_false]; omega)
  have hN6 := hK.blk HN6.out (by simp only [List.mem_cons, List.not_mem_nil, or_false]; omega)
  have hN7 := hK.blk HN7.out (by simp only [List.mem_cons, List.not_mem_nil, or_false]; omega)
  have hR := hK.blk HR.out (by simp only [List.mem_cons, List.not_mem_nil, or_false]; omega)
  have hBe := HBe.out.trans (hK.to_below (by have := HW.out; omega) (by intro x hx; simp only [List.mem_cons, List.not_mem_nil, or_false] at hx; omega))
  have hW : w.heap.size + 1 + 1 + 1 + 1 + 1 + 1 + 1 + 1 ≤ w9.heap.size := by have := hK.size; have := HW.out; omega
  clear HS HC HM HR HBe HW HN3 HN4 HN5 HN6 HN7
  have HS := Lib.hid hS
  have HC := Lib.hid hC
  have HM := Lib.hid hM
  have HR := Lib.hid hR
  have HBe := Lib.hid hBe
  have HW := Lib.hid hW
  have HN3 := Lib.hid hN3
  have HN4 := Lib.hid hN4
  have HN5 := Lib.hid hN5
  have HN6 := Lib.hid hN6
  have HN7 := Lib.hid hN7
  clear hS hC hM hR hBe hW hK hN3 hN4 hN5 hN6 hN7
  have hv4 := blk_cell HN4.out 0
  simp only [List.getElem?_toArray, List.getElem?_cons_zero, List.getElem?_cons_succ] at hv4
  go_wp2_with fail
  clear hv4
  refine (text_calls (w.heap.size + 1) A c l s5 cm _ HS.out HC.out hc (by omega) hk0 (by omega) hs5).mono ?_
  rintro e w10 ⟨rfl, hS, hK⟩
  rw [T3.out] at hS ⊢
  have hC := C_rds HC.out HS.out hK
  have hM := hK.blk HM.out (by simp only [List.mem_cons, List.not_mem_nil, or_false]; omega)
  have hN3 := hK.blk HN3.out (by simp only [List.mem_cons, List.not_mem_nil, or_false]; omega)
  have hN4 := hK.blk HN4.out (by simp only [List.mem_cons, List.not_mem_nil, or_false]; omega)
  have hN5 := hK.blk HN5.out (by simp only [List.mem_cons, List.not_mem_nil, or_false]; omega)
  have hN6 := hK.blk HN6.out (by simp only [List.mem_cons, List.not_mem_nil, or_false]; omega)
  have hN7 := hK.blk HN7.out (by simp only [List.mem_cons, List.not_mem_nil, or_false]; omega)
  have hR := hK.blk HR.out (by simp only [List.mem_cons, List.not_mem_nil, or_false]; omega)
  have hBe := HBe.out.trans (hK.to_below (by have := HW.out; omega) (by intro x hx; simp only [List.mem_cons, List.not_mem_nil, or_false] at hx; omega))
  have hW : w.heap.size + 1 + 1 + 1 + 1 + 1 + 1 + 1 + 1 ≤ w10.heap.size := by have := hK.size; have := HW.out; omega
  clear HS HC HM HR HBe HW HN3 HN4 HN5 HN6 HN7
  have HS := Lib.hid hS
  have HC := Lib.hid hC
  have HM := Lib.hid hM
  have HR := Lib.hid hR
  have HBe := Lib.hid hBe
  have HW := Lib.hid hW
  have HN3 := Lib.hid hN3
  have HN4 := Lib.hid hN4
  have HN5 := Lib.hid hN5
  have HN6 := Lib.hid hN6
  have HN7 := Lib.hid hN7
  clear hS hC hM hR hBe hW hK hN3 hN4 hN5 hN6 hN7
  have hc10 := blk_cell HM.out 10
  have hz10 := blk_frozen HM.out 10
  simp only [List.getElem?_toArray, List.getElem?_cons_zero, List.getElem?_cons_succ] at hc10
  have hM : (w10.setCell ⟨w.heap.size + 1 + 1, 10, none⟩ (.string (strOfNums commL))).heap[w.heap.size + 1 + 1]? = some (.cells #[.int .i64 made, .int .i64 need, .int .i64 flags, .int .i64 method, .int .i64 (date * 65536 + time), .int .u32 sum, .int .i64 packed, .int .i64 size, .string (strOfNums nameL), .slice none 0 0, .string (strOfNums commL), .int .u32 attr, .int .i64 offset] 36 (0, 0)) := blk_put HM.out 10 _ rfl
  have hC := C_mem HC.out HM.out 10 (.string (strOfNums commL))
  have hS := show RdS (w10.setCell ⟨w.heap.size + 1 + 1, 10, none⟩ (.string (strOfNums commL))) (w.heap.size + 1) A l.length c s6.at_ s6.bad from (blk_far HS.out (p := ⟨w.heap.size + 1 + 1, 10, none⟩) (by show w.heap.size + 1 ≠ w.heap.size + 1 + 1; omega) (.string (strOfNums commL)))
  have hR := (blk_far HR.out (p := ⟨w.heap.size + 1 + 1, 10, none⟩) (by show w.heap.size ≠ w.heap.size + 1 + 1; omega) (.string (strOfNums commL)))
  have hN3 := (blk_far HN3.out (p := ⟨w.heap.size + 1 + 1, 10, none⟩) (by show w.heap.size + 1 + 1 + 1 ≠ w.heap.size + 1 + 1; omega) (.string (strOfNums commL)))
  have hN4 := (blk_far HN4.out (p := ⟨w.heap.size + 1 + 1, 10, none⟩) (by show w.heap.size + 1 + 1 + 1 + 1 ≠ w.heap.size + 1 + 1; omega) (.string (strOfNums commL)))
  have hN5 := (blk_far HN5.out (p := ⟨w.heap.size + 1 + 1, 10, none⟩) (by show w.heap.size + 1 + 1 + 1 + 1 + 1 ≠ w.heap.size + 1 + 1; omega) (.string (strOfNums commL)))
  have hN6 := (blk_far HN6.out (p := ⟨w.heap.size + 1 + 1, 10, none⟩) (by show w.heap.size + 1 + 1 + 1 + 1 + 1 + 1 ≠ w.heap.size + 1 + 1; omega) (.string (strOfNums commL)))
  have hN7 := (blk_far HN7.out (p := ⟨w.heap.size + 1 + 1, 10, none⟩) (by show w.heap.size + 1 + 1 + 1 + 1 + 1 + 1 + 1 ≠ w.heap.size + 1 + 1; omega) (.string (strOfNums commL)))
  have hBe := HBe.out.setCell (p := ⟨w.heap.size + 1 + 1, 10, none⟩) (by show w.heap.size ≤ w.heap.size + 1 + 1; omega) (.string (strOfNums commL))
  have hW : w.heap.size + 1 + 1 + 1 + 1 + 1 + 1 + 1 + 1 ≤ (w10.setCell ⟨w.heap.size + 1 + 1, 10, none⟩ (.string (strOfNums commL))).heap.size := by have := HW.out; simpa [World.setCell] using this
  have hK := True.intro
  go_upto_region 13 with (fail)
  clear HS HC HM HR HBe HW HN3 HN4 HN5 HN6 HN7
  have HS := Lib.hid hS
  have HC := Lib.hid hC
  have HM := Lib.hid hM
  have HR := Lib.hid hR
  have HBe := Lib.hid hBe
  have HW := Lib.hid hW
  have HN3 := Lib.hid hN3
  have HN4 := Lib.hid hN4
  have HN5 := Lib.hid hN5
  have HN6 := Lib.hid hN6
  have HN7 := Lib.hid hN7
  clear hS hC hM hR hBe hW hK hN3 hN4 hN5 hN6 hN7
  clear hc10 hz10
  generalize (w10.setCell ⟨w.heap.size + 1 + 1, 10, none⟩ (.string (strOfNums commL))) = w11 at *
  have hb2 := blk_cell HS.out 2
  have hv3 := blk_cell HN3.out 0
  have hv5 := blk_cell HN5.out 0
  simp only [List.getElem?_toArray, List.getElem?_cons_zero, List.getElem?_cons_succ] at hb2 hv3 hv5
  have z0 := blk_frozen HR.out 0
  have z1 := blk_frozen HR.out 1
  have z2 := blk_frozen HR.out 2
  have z3 := blk_frozen HR.out 3
  have z4 := blk_frozen HR.out 4
  have z5 := blk_frozen HR.out 5
  have z6 := blk_frozen HR.out 6
  have z7 := blk_frozen HR.out 7
  have z8 := blk_frozen HR.out 8
  have z9 := blk_frozen HR.out 9
  have z10 := blk_frozen HR.out 10
  have z11 := blk_frozen HR.out 11
  have z12 := blk_frozen HR.out 12
  obtain ⟨d0, d1, d2, d3, d4, d5, d6, d7, d8, d9, d10, d11, d12⟩ := mem_at HR.out
  have hne1 : ¬ w.heap.size = w.heap.size + 1 := by omega
  have hne2 : ¬ w.heap.size = w.heap.size + 1 + 1 := by omega
  by_cases hbad : s6.bad = true
  · rw [hbad] at hb2
    go_wp2_with fail
    refine bodyPost_ret (v := .tuple #[.agg #[.int .i64 0, .int .i64 0, .int .i64 0, .int .i64 0, .int .i64 0, .int .u32 0, .int .i64 0, .int .i64 0, .string ⟨#[]⟩, .slice none 0 0, .string ⟨#[]⟩, .int .u32 0, .int .i64 0], .int .i64 0, .int .i64 2]) ?_ rfl ?_
    · simp [results, Try.results15, go_sem, *]
    · have hBf := HBe.out
      have hstepB : ∀ (W : World) (i : Nat) (u : Value), Below w.heap.size w W → Below w.heap.size w (W.setCell ⟨w.heap.size, i, none⟩ u) := fun W i u h => h.setCell (p := ⟨w.heap.size, i, none⟩) (Nat.le_refl _) u
      unfold CentralPost
      refine ⟨?_, .inl ⟨.inl hbad, rfl⟩⟩
      with_reducible (iterate 13 refine hstepB _ _ _ ?_)
      exact hBf
  · have hbad : s6.bad = false := by simpa using hbad
    rw [hbad] at hb2
    by_cases hmk : mark = 33639248
    · subst hmk
      by_cases hdk : disk = 0 ∨ disk = 65535
      · rcases hdk with rfl | rfl
        · obtain ⟨fl, vals, hml, hrd, hls, hds, hbig, hvl⟩ := HGD.out hbad rfl (by omega)
          have HRD := Lib.hid hrd
          have HDS := Lib.hid hds
          have HBG := Lib.hid hbig
          clear hrd hds hbig
          go_wp2_with fail
          have hpt := ptrs_at (ts := [⟨w.heap.size + 1 + 1, 7, none⟩, ⟨w.heap.size + 1 + 1, 6, none⟩, ⟨w.heap.size + 1 + 1, 12, none⟩]) (blk_new w11 (.cells #[.pointer (some ⟨w.heap.size + 1 + 1, 7, none⟩), .pointer (some ⟨w.heap.size + 1 + 1, 6, none⟩), .pointer (some ⟨w.heap.size + 1 + 1, 12, none⟩)] 64))
          refine (great_ok (w.heap.size + 1 + 1) w11.heap.size 3 [7, 6, 12] [size, packed, offset] #[.int .i64 made, .int .i64 need, .int .i64 flags, .int .i64 method, .int .i64 (date * 65536 + time), .int .u32 sum, .int .i64 packed, .int .i64 size, .string (strOfNums nameL), .slice none 0 0, .string (strOfNums commL), .int .u32 attr, .int .i64 offset] (strOfNums moreL) fl vals _ (blk_alloc HM.out (.cells #[.pointer (some ⟨w.heap.size + 1 + 1, 7, none⟩), .pointer (some ⟨w.heap.size + 1 + 1, 6, none⟩), .pointer (some ⟨w.heap.size + 1 + 1, 12, none⟩)] 64)) rfl rfl ?_ rfl (by simp) (by simp) ?_ (by have := HW.out; omega) (by rw [strOfNums_size]; omega) HRD.out hls HDS.out HBG.out hvl).mono ?_
          · intro j t hj
            rcases j with _ | _ | _ | j
            · obtain rfl : 7 = t := by simpa using hj
              exact ⟨size, rfl, rfl⟩
            · obtain rfl : 6 = t := by simpa using hj
              exact ⟨packed, rfl, rfl⟩
            · obtain rfl : 12 = t := by simpa using hj
              exact ⟨offset, rfl, rfl⟩
            · simp at hj
          · intro j t hj
            rcases j with _ | _ | _ | j
            · obtain rfl : 7 = t := by simpa using hj
              exact hpt 0 _ rfl
            · obtain rfl : 6 = t := by simpa using hj
              exact hpt 1 _ rfl
            · obtain rfl : 12 = t := by simpa using hj
              exact hpt 2 _ rfl
            · simp at hj
          rintro e w20 ⟨rfl, v, hM, hRv, hK⟩
          obtain ⟨v0, v1, v2, rfl⟩ : ∃ v0 v1 v2, vals = [v0, v1, v2] := by
            match vals, hvl with
            | [v0, v1, v2], _ => exact ⟨v0, v1, v2, rfl⟩
          have hw20 : w.heap.size ≤ (w11.alloc (.cells #[.pointer (some ⟨w.heap.size + 1 + 1, 7, none⟩), .pointer (some ⟨w.heap.size + 1 + 1, 6, none⟩), .pointer (some ⟨w.heap.size + 1 + 1, 12, none⟩)] 64)).heap.size := by have := HW.out; simp; omega
          have HM20 := Lib.hid (show w20.heap[w.heap.size + 1 + 1]? = some (.cells #[.int .i64 made, .int .i64 need, .int .i64 flags, .int .i64 method, .int .i64 (date * 65536 + time), .int .u32 sum, .int .i64 (pick32 packed v1), .int .i64 (pick32 size v0), .string (strOfNums nameL), v, .string (strOfNums commL), .int .u32 attr, .int .i64 (pick32 offset v2)] 36 (0, 0)) from by
            rw [hM]
            by_cases g1 : size = 4294967295 <;> by_cases g2 : packed = 4294967295 <;> by_cases g3 : offset = 4294967295 <;> simp [lay, pick32, g1, g2, g3])
          have HR20 := Lib.hid (hK.blk (blk_alloc HR.out (.cells #[.pointer (some ⟨w.heap.size + 1 + 1, 7, none⟩), .pointer (some ⟨w.heap.size + 1 + 1, 6, none⟩), .pointer (some ⟨w.heap.size + 1 + 1, 12, none⟩)] 64)) (by simp only [List.mem_cons, List.not_mem_nil, or_false]; omega))
          have HS20 := Lib.hid (hK.blk (blk_alloc HS.out (.cells #[.pointer (some ⟨w.heap.size + 1 + 1, 7, none⟩), .pointer (some ⟨w.heap.size + 1 + 1, 6, none⟩), .pointer (some ⟨w.heap.size + 1 + 1, 12, none⟩)] 64)) (by simp only [List.mem_cons, List.not_mem_nil, or_false]; omega))
          have HRv := Lib.hid hRv
          have HB20 := Lib.hid ((HBe.out.alloc HBe.out.size (.cells #[.pointer (some ⟨w.heap.size + 1 + 1, 7, none⟩), .pointer (some ⟨w.heap.size + 1 + 1, 6, none⟩), .pointer (some ⟨w.heap.size + 1 + 1, 12, none⟩)] 64)).trans (hK.to_below hw20 (by intro x hx; simp only [List.mem_cons, List.not_mem_nil, or_false] at hx; omega)))
          have hltr : w.heap.size < w11.heap.size := by have := HW.out; omega
          clear hM hRv hK HM HR HS HBe HN3 HN4 HN5 HN6 HN7 HC hpt hb2 hv3 hv5 z0 z1 z2 z3 z4 z5 z6 z7 z8 z9 z10 z11 z12 d0 d1 d2 d3 d4 d5 d6 d7 d8 d9 d10 d11 d12
          obtain ⟨Ax, cx, rfl, -, -⟩ := Kd.R_reads HRv.out
          generalize hnx : (fl.filter fun f => f.f0 != 1).length = nx at *
          go_wp2_with fail
          try simp only [List.getD_cons_zero, List.getD_cons_succ]
          generalize hpk : pick32 packed v1 = pk at *
          generalize hsz : pick32 size v0 = sz at *
          generalize hof : pick32 offset v2 = of_ at *
          obtain ⟨c0, c1, c2, c3, c4, c5, c6, c7, c8, c9, c10, c11, c12⟩ := mem_at HM20.out
          obtain ⟨d0, d1, d2, d3, d4, d5, d6, d7, d8, d9, d10, d11, d12⟩ := mem_at HR20.out
          have hg1 := blk_cell HS20.out 1
          simp only [List.getElem?_toArray, List.getElem?_cons_zero, List.getElem?_cons_succ] at hg1
          have z0 := blk_frozen HR20.out 0
          have z1 := blk_frozen HR20.out 1
          have z2 := blk_frozen HR20.out 2
          have z3 := blk_frozen HR20.out 3
          have z4 := blk_frozen HR20.out 4
          have z5 := blk_frozen HR20.out 5
          have z6 := blk_frozen HR20.out 6
          have z7 := blk_frozen HR20.out 7
          have z8 := blk_frozen HR20.out 8
          have z9 := blk_frozen HR20.out 9
          have z10 := blk_frozen HR20.out 10
          have z11 := blk_frozen HR20.out 11
          have z12 := blk_frozen HR20.out 12
          go_region_held3 (fun w' => w'.cell? ⟨w.heap.size + 1 + 1, 0, none⟩ = some (Value.int .i64 made) ∧ w'.cell? ⟨w.heap.size + 1 + 1, 1, none⟩ = some (Value.int .i64 need) ∧ w'.cell? ⟨w.heap.size + 1 + 1, 2, none⟩ = some (Value.int .i64 flags) ∧ w'.cell? ⟨w.heap.size + 1 + 1, 3, none⟩ = some (Value.int .i64 method) ∧ w'.cell? ⟨w.heap.size + 1 + 1, 4, none⟩ = some (Value.int .i64 (date * 65536 + time)) ∧ w'.cell? ⟨w.heap.size + 1 + 1, 5, none⟩ = some (Value.int .u32 sum) ∧ w'.cell? ⟨w.heap.size + 1 + 1, 6, none⟩ = some (Value.int .i64 pk) ∧ w'.cell? ⟨w.heap.size + 1 + 1, 7, none⟩ = some (Value.int .i64 sz) ∧ w'.cell? ⟨w.heap.size + 1 + 1, 8, none⟩ = some (Value.string (strOfNums nameL)) ∧ w'.cell? ⟨w.heap.size + 1 + 1, 9, none⟩ = some (.slice Ax nx cx) ∧ w'.cell? ⟨w.heap.size + 1 + 1, 10, none⟩ = some (Value.string (strOfNums commL)) ∧ w'.cell? ⟨w.heap.size + 1 + 1, 11, none⟩ = some (Value.int .u32 attr) ∧ w'.cell? ⟨w.heap.size + 1 + 1, 12, none⟩ = some (Value.int .i64 of_) ∧ w'.cell? ⟨w.heap.size + 1, 1, none⟩ = some (.int .i64 s6.at_))
            (first | go_keep | (simp [go_sem, hne1, hne2, *])) (first | fail)
          go_wp2_with fail
          refine bodyPost_ret (v := .tuple #[.agg #[.int .i64 made, .int .i64 need, .int .i64 flags, .int .i64 method, .int .i64 (date * 65536 + time), .int .u32 sum, .int .i64 pk, .int .i64 sz, .string (strOfNums nameL), .slice Ax nx cx, .string (strOfNums commL), .int .u32 attr, .int .i64 of_], .int .i64 s6.at_, .int .i64 0]) ?_ rfl ?_
          · simp [results, Try.results15, go_sem, *]
          · have hKf := Kp.refl [w.heap.size] w20
            have hBf := HB20.out
            have hstep : ∀ (W : World) (i : Nat) (u : Value), Kp [w.heap.size] w20 W → Kp [w.heap.size] w20 (W.setCell ⟨w.heap.size, i, none⟩ u) := fun W i u h => h.setCell (p := ⟨w.heap.size, i, none⟩) (.inl (by simp)) u
            have hstepB : ∀ (W : World) (i : Nat) (u : Value), Below w.heap.size w W → Below w.heap.size w (W.setCell ⟨w.heap.size, i, none⟩ u) := fun W i u h => h.setCell (p := ⟨w.heap.size, i, none⟩) (Nat.le_refl _) u
            unfold CentralPost
            refine ⟨Below.drew ?_, .inr ⟨hbad, rfl, by omega, fl, _, .slice Ax nx cx, HRD.out, HBG.out, ?_, Kd.R_lower (R_kp HRv.out (S := [w.heap.size]) (Kp.drew ?_) (by simp; omega)) hw20⟩⟩
            · with_reducible (iterate 13 refine hstepB _ _ _ ?_)
              exact hBf
            · rw [← hpk, ← hsz, ← hof]; rfl
            · with_reducible (iterate 13 refine hstep _ _ _ ?_)
              exact hKf
        · obtain ⟨fl, vals, hml, hrd, hls, hds, hbig, hvl⟩ := HGD.out hbad rfl (by omega)
          have HRD := Lib.hid hrd
          have HDS := Lib.hid hds
          have HBG := Lib.hid hbig
          clear hrd hds hbig
          go_wp2_with fail
          have hpt := ptrs_at (ts := [⟨w.heap.size + 1 + 1, 7, none⟩, ⟨w.heap.size + 1 + 1, 6, none⟩, ⟨w.heap.size + 1 + 1, 12, none⟩]) (blk_new w11 (.cells #[.pointer (some ⟨w.heap.size + 1 + 1, 7, none⟩), .pointer (some ⟨w.heap.size + 1 + 1, 6, none⟩), .pointer (some ⟨w.heap.size + 1 + 1, 12, none⟩)] 64))
          refine (great_ok (w.heap.size + 1 + 1) w11.heap.size 3 [7, 6, 12] [size, packed, offset] #[.int .i64 made, .int .i64 need, .int .i64 flags, .int .i64 method, .int .i64 (date * 65536 + time), .int .u32 sum, .int .i64 packed, .int .i64 size, .string (strOfNums nameL), .slice none 0 0, .string (strOfNums commL), .int .u32 attr, .int .i64 offset] (strOfNums moreL) fl vals _ (blk_alloc HM.out (.cells #[.pointer (some ⟨w.heap.size + 1 + 1, 7, none⟩), .pointer (some ⟨w.heap.size + 1 + 1, 6, none⟩), .pointer (some ⟨w.heap.size + 1 + 1, 12, none⟩)] 64)) rfl rfl ?_ rfl (by simp) (by simp) ?_ (by have := HW.out; omega) (by rw [strOfNums_size]; omega) HRD.out hls HDS.out HBG.out hvl).mono ?_
          · intro j t hj
            rcases j with _ | _ | _ | j
            · obtain rfl : 7 = t := by simpa using hj
              exact ⟨size, rfl, rfl⟩
            · obtain rfl : 6 = t := by simpa using hj
              exact ⟨packed, rfl, rfl⟩
            · obtain rfl : 12 = t := by simpa using hj
              exact ⟨offset, rfl, rfl⟩
            · simp at hj
          · intro j t hj
            rcases j with _ | _ | _ | j
            · obtain rfl : 7 = t := by simpa using hj
              exact hpt 0 _ rfl
            · obtain rfl : 6 = t := by simpa using hj
              exact hpt 1 _ rfl
            · obtain rfl : 12 = t := by simpa using hj
              exact hpt 2 _ rfl
            · simp at hj
          rintro e w20 ⟨rfl, v, hM, hRv, hK⟩
          obtain ⟨v0, v1, v2, rfl⟩ : ∃ v0 v1 v2, vals = [v0, v1, v2] := by
            match vals, hvl with
            | [v0, v1, v2], _ => exact ⟨v0, v1, v2, rfl⟩
          have hw20 : w.heap.size ≤ (w11.alloc (.cells #[.pointer (some ⟨w.heap.size + 1 + 1, 7, none⟩), .pointer (some ⟨w.heap.size + 1 + 1, 6, none⟩), .pointer (some ⟨w.heap.size + 1 + 1, 12, none⟩)] 64)).heap.size := by have := HW.out; simp; omega
          have HM20 := Lib.hid (show w20.heap[w.heap.size + 1 + 1]? = some (.cells #[.int .i64 made, .int .i64 need, .int .i64 flags, .int .i64 method, .int .i64 (date * 65536 + time), .int .u32 sum, .int .i64 (pick32 packed v1), .int .i64 (pick32 size v0), .string (strOfNums nameL), v, .string (strOfNums commL), .int .u32 attr, .int .i64 (pick32 offset v2)] 36 (0, 0)) from by
            rw [hM]
            by_cases g1 : size = 4294967295 <;> by_cases g2 : packed = 4294967295 <;> by_cases g3 : offset = 4294967295 <;> simp [lay, pick32, g1, g2, g3])
          have HR20 := Lib.hid (hK.blk (blk_alloc HR.out (.cells #[.pointer (some ⟨w.heap.size + 1 + 1, 7, none⟩), .pointer (some ⟨w.heap.size + 1 + 1, 6, none⟩), .pointer (some ⟨w.heap.size + 1 + 1, 12, none⟩)] 64)) (by simp only [List.mem_cons, List.not_mem_nil, or_false]; omega))
          have HS20 := Lib.hid (hK.blk (blk_alloc HS.out (.cells #[.pointer (some ⟨w.heap.size + 1 + 1, 7, none⟩), .pointer (some ⟨w.heap.size + 1 + 1, 6, none⟩), .pointer (some ⟨w.heap.size + 1 + 1, 12, none⟩)] 64)) (by simp only [List.mem_cons, List.not_mem_nil, or_false]; omega))
          have HRv := Lib.hid hRv
          have HB20 := Lib.hid ((HBe.out.alloc HBe.out.size (.cells #[.pointer (some ⟨w.heap.size + 1 + 1, 7, none⟩), .pointer (some ⟨w.heap.size + 1 + 1, 6, none⟩), .pointer (some ⟨w.heap.size + 1 + 1, 12, none⟩)] 64)).trans (hK.to_below hw20 (by intro x hx; simp only [List.mem_cons, List.not_mem_nil, or_false] at hx; omega)))
          have hltr : w.heap.size < w11.heap.size := by have := HW.out; omega
          clear hM hRv hK HM HR HS HBe HN3 HN4 HN5 HN6 HN7 HC hpt hb2 hv3 hv5 z0 z1 z2 z3 z4 z5 z6 z7 z8 z9 z10 z11 z12 d0 d1 d2 d3 d4 d5 d6 d7 d8 d9 d10 d11 d12
          obtain ⟨Ax, cx, rfl, -, -⟩ := Kd.R_reads HRv.out
          generalize hnx : (fl.filter fun f => f.f0 != 1).length = nx at *
          go_wp2_with fail
          try simp only [List.getD_cons_zero, List.getD_cons_succ]
          generalize hpk : pick32 packed v1 = pk at *
          generalize hsz : pick32 size v0 = sz at *
          generalize hof : pick32 offset v2 = of_ at *
          obtain ⟨c0, c1, c2, c3, c4, c5, c6, c7, c8, c9, c10, c11, c12⟩ := mem_at HM20.out
          obtain ⟨d0, d1, d2, d3, d4, d5, d6, d7, d8, d9, d10, d11, d12⟩ := mem_at HR20.out
          have hg1 := blk_cell HS20.out 1
          simp only [List.getElem?_toArray, List.getElem?_cons_zero, List.getElem?_cons_succ] at hg1
          have z0 := blk_frozen HR20.out 0
          have z1 := blk_frozen HR20.out 1
          have z2 := blk_frozen HR20.out 2
          have z3 := blk_frozen HR20.out 3
          have z4 := blk_frozen HR20.out 4
          have z5 := blk_frozen HR20.out 5
          have z6 := blk_frozen HR20.out 6
          have z7 := blk_frozen HR20.out 7
          have z8 := blk_frozen HR20.out 8
          have z9 := blk_frozen HR20.out 9
          have z10 := blk_frozen HR20.out 10
          have z11 := blk_frozen HR20.out 11
          have z12 := blk_frozen HR20.out 12
          go_region_held3 (fun w' => w'.cell? ⟨w.heap.size + 1 + 1, 0, none⟩ = some (Value.int .i64 made) ∧ w'.cell? ⟨w.heap.size + 1 + 1, 1, none⟩ = some (Value.int .i64 need) ∧ w'.cell? ⟨w.heap.size + 1 + 1, 2, none⟩ = some (Value.int .i64 flags) ∧ w'.cell? ⟨w.heap.size + 1 + 1, 3, none⟩ = some (Value.int .i64 method) ∧ w'.cell? ⟨w.heap.size + 1 + 1, 4, none⟩ = some (Value.int .i64 (date * 65536 + time)) ∧ w'.cell? ⟨w.heap.size + 1 + 1, 5, none⟩ = some (Value.int .u32 sum) ∧ w'.cell? ⟨w.heap.size + 1 + 1, 6, none⟩ = some (Value.int .i64 pk) ∧ w'.cell? ⟨w.heap.size + 1 + 1, 7, none⟩ = some (Value.int .i64 sz) ∧ w'.cell? ⟨w.heap.size + 1 + 1, 8, none⟩ = some (Value.string (strOfNums nameL)) ∧ w'.cell? ⟨w.heap.size + 1 + 1, 9, none⟩ = some (.slice Ax nx cx) ∧ w'.cell? ⟨w.heap.size + 1 + 1, 10, none⟩ = some (Value.string (strOfNums commL)) ∧ w'.cell? ⟨w.heap.size + 1 + 1, 11, none⟩ = some (Value.int .u32 attr) ∧ w'.cell? ⟨w.heap.size + 1 + 1, 12, none⟩ = some (Value.int .i64 of_) ∧ w'.cell? ⟨w.heap.size + 1, 1, none⟩ = some (.int .i64 s6.at_))
            (first | go_keep | (simp [go_sem, hne1, hne2, *])) (first | fail)
          go_wp2_with fail
          refine bodyPost_ret (v := .tuple #[.agg #[.int .i64 made, .int .i64 need, .int .i64 flags, .int .i64 method, .int .i64 (date * 65536 + time), .int .u32 sum, .int .i64 pk, .int .i64 sz, .string (strOfNums nameL), .slice Ax nx cx, .string (strOfNums commL), .int .u32 attr, .int .i64 of_], .int .i64 s6.at_, .int .i64 0]) ?_ rfl ?_
          · simp [results, Try.results15, go_sem, *]
          · have hKf := Kp.refl [w.heap.size] w20
            have hBf := HB20.out
            have hstep : ∀ (W : World) (i : Nat) (u : Value), Kp [w.heap.size] w20 W → Kp [w.heap.size] w20 (W.setCell ⟨w.heap.size, i, none⟩ u) := fun W i u h => h.setCell (p := ⟨w.heap.size, i, none⟩) (.inl (by simp)) u
            have hstepB : ∀ (W : World) (i : Nat) (u : Value), Below w.heap.size w W → Below w.heap.size w (W.setCell ⟨w.heap.size, i, none⟩ u) := fun W i u h => h.setCell (p := ⟨w.heap.size, i, none⟩) (Nat.le_refl _) u
            unfold CentralPost
            refine ⟨Below.drew ?_, .inr ⟨hbad, rfl, by omega, fl, _, .slice Ax nx cx, HRD.out, HBG.out, ?_, Kd.R_lower (R_kp HRv.out (S := [w.heap.size]) (Kp.drew ?_) (by simp; omega)) hw20⟩⟩
            · with_reducible (iterate 13 refine hstepB _ _ _ ?_)
              exact hBf
            · rw [← hpk, ← hsz, ← hof]; rfl
            · with_reducible (iterate 13 refine hstep _ _ _ ?_)
              exact hKf
      · have hd1 : (disk != 0) = true := by simpa using (show ¬ disk = 0 by omega)
        have hd2 : (disk != 65535) = true := by simpa using (show ¬ disk = 65535 by omega)
        have hd3 : ¬ disk = 0 := by omega
        have hd4 : ¬ disk = 65535 := by omega
        go_wp2_with fail
        refine bodyPost_ret (v := .tuple #[.agg #[.int .i64 0, .int .i64 0, .int .i64 0, .int .i64 0, .int .i64 0, .int .u32 0, .int .i64 0, .int .i64 0, .string ⟨#[]⟩, .slice none 0 0, .string ⟨#[]⟩, .int .u32 0, .int .i64 0], .int .i64 0, .int .i64 2]) ?_ rfl ?_
        · simp [results, Try.results15, go_sem, *]
        · have hBf := HBe.out
          have hstepB : ∀ (W : World) (i : Nat) (u : Value), Below w.heap.size w W → Below w.heap.size w (W.setCell ⟨w.heap.size, i, none⟩ u) := fun W i u h => h.setCell (p := ⟨w.heap.size, i, none⟩) (Nat.le_refl _) u
          unfold CentralPost
          refine ⟨?_, .inl ⟨.inr (.inr (by omega)), rfl⟩⟩
          with_reducible (iterate 13 refine hstepB _ _ _ ?_)
          exact hBf
    · have hmk1 : (mark != 33639248) = true := by simpa using hmk
      go_wp2_with fail
      refine bodyPost_ret (v := .tuple #[.agg #[.int .i64 0, .int .i64 0, .int .i64 0, .int .i64 0, .int .i64 0, .int .u32 0, .int .i64 0, .int .i64 0, .string ⟨#[]⟩, .slice none 0 0, .string ⟨#[]⟩, .int .u32 0, .int .i64 0], .int .i64 0, .int .i64 2]) ?_ rfl ?_
      · simp [results, Try.results15, go_sem, *]
      · have hBf := HBe.out
        have hstepB : ∀ (W : World) (i : Nat) (u : Value), Below w.heap.size w W → Below w.heap.size w (W.setCell ⟨w.heap.size, i, none⟩ u) := fun W i u h => h.setCell (p := ⟨w.heap.size, i, none⟩) (Nat.le_refl _) u
        unfold CentralPost
        refine ⟨?_, .inl ⟨.inr (.inl hmk), rfl⟩⟩
        with_reducible (iterate 13 refine hstepB _ _ _ ?_)
        exact hBf
end Go.Proofs.Ytlbijehgoiknjaa.Z
