/- Walk of package zipdir's (*writer).common. -/
import Derived.Test.YtlbijehgoiknjaaZFields
set_option linter.unusedVariables false
set_option linter.unusedSimpArgs false
namespace Go.Proofs.Ytlbijehgoiknjaa.Z
open Go.RowKit Go.Proofs.YtlbijehgoiknjaaW.PrintWords Go.Proofs.YtlbijehgoiknjaaW.PrintLast Go.Proofs.YtlbijehgoiknjaaW.PrintMore Go.Proofs.Ytlbijehgoiknjaa.PZipdirHeaders

theorem put_lit (g B n : Nat) (xs vs : List Int) (W : World) (hS : WrS W g B xs) (hn1 : 1 ≤ n) (hn8 : n ≤ 8) (hlen : vs.length ≤ 1000) (hx : xs.length ≤ 10000000) (hB : B ≤ W.heap.size) :
    Calls Try.prog 22 #[.pointer (some ⟨g, 0, none⟩), .int .i64 n, .slice (some ⟨W.heap.size, 0, none⟩) vs.length vs.length] (W.alloc (.cells (vs.map (fun t => Value.int .u64 t)).toArray 55)) fun e w' => e = .returned (.tuple #[]) ∧ WrS w' g B (xs ++ putF n vs) ∧ Kp [g] W w' := by
  refine (put_calls g W.heap.size B vs.length n xs vs _ (hS.alloc _) (u64s_at (blk_new _ _)) hn1 hn8 hlen ?_ (Nat.ne_of_gt hS.lt) (by simp; omega)).mono ?_
  · have := Nat.mul_le_mul hn8 hlen
    omega
  · rintro e w1 ⟨h1, h2, h3⟩
    exact ⟨h1, h2, ((Kp.refl [g] W).alloc _).trans h3⟩
theorem WrS.kp {w w1 : World} {g g' B : Nat} {xs : List Int} (h : WrS w g B xs) (hb : Below w.heap.size w w1) : WrS w1 g B xs := h.below hb

/-- A member's numbers and texts as a value's parts. -/
def memCells (made need flags method date sum packed size : Int) (name : ByteArray) (ex : Value) (comment : ByteArray) (attr offset : Int) : Array Value :=
  #[.int .i64 made, .int .i64 need, .int .i64 flags, .int .i64 method, .int .i64 date, .int .u32 sum, .int .i64 packed, .int .i64 size, .string name, ex, .string comment, .int .u32 attr, .int .i64 offset]
theorem and_low16 (x : Int) (h0 : 0 ≤ x) (h1 : x < 9223372036854775808) : bits .and .i64 x 65535 = x % 65536 := by
  have h := bits_mask .i64 63 (by decide) (fun n h0 h1 => by rw [show (2 : Int) ^ 63 = 9223372036854775808 by decide] at h1; rw [IntKind.wrap_i64]; omega) 16 (by decide) x h0 (by rw [show (2 : Int) ^ 63 = 9223372036854775808 by decide]; omega)
  rw [show ((2 : Int) ^ 16 - 1) = 65535 by decide, show ((2 : Int) ^ 16) = 65536 by decide] at h
  exact h
def commonF (need flags method date sum packed size : Int) (name more : ByteArray) : List Int :=
  putF 2 [need, flags, method, date % 65536, date / 65536] ++ putF 4 [sum, smallF packed, smallF size] ++ putF 2 [(name.size : Int), (more.size : Int)]

set_option maxHeartbeats 4000000 in
set_option maxRecDepth 100000 in
theorem common_calls (g B : Nat) (xs : List Int) (made need flags method date sum packed size : Int) (name more : ByteArray) (ex : Value) (comment : ByteArray) (attr offset : Int) (w : World) (hS : WrS w g B xs) (hx : xs.length ≤ 1000000) (hB : B ≤ w.heap.size)
    (h1 : 0 ≤ need) (h1' : need ≤ 65535) (h2 : 0 ≤ flags) (h2' : flags ≤ 65535) (h3 : 0 ≤ method) (h3' : method ≤ 65535) (h4 : 0 ≤ date) (h4' : date ≤ 4294967295) (h5 : 0 ≤ sum) (h5' : sum ≤ 4294967295) (h6 : 0 ≤ packed) (h6' : packed ≤ 4611686018427387904) (h7 : 0 ≤ size) (h7' : size ≤ 4611686018427387904) (h8 : name.size ≤ 1000000) (h9 : more.size ≤ 1000000) :
    Calls Try.prog 30 #[.pointer (some ⟨g, 0, none⟩), .agg (memCells made need flags method date sum packed size name ex comment attr offset), .string more] w fun e w' => e = .returned (.tuple #[]) ∧ WrS w' g B (xs ++ commonF need flags method date sum packed size name more) ∧ Kp [g] w w' := by
  have HS := Lib.hid hS
  clear hS
  unfold memCells
  go_enter Try.func30, Try.ntmps30
  go_wp2_with fail
  have hgw := HS.out.lt
  have HM0 := Lib.hid (blk_new w (.cells #[.int .i64 made, .int .i64 need, .int .i64 flags, .int .i64 method, .int .i64 date, .int .u32 sum, .int .i64 packed, .int .i64 size, .string name, ex, .string comment, .int .u32 attr, .int .i64 offset] 36))
  have HK0 := Lib.hid ((Kp.refl [g] w).alloc (.cells #[.int .i64 made, .int .i64 need, .int .i64 flags, .int .i64 method, .int .i64 date, .int .u32 sum, .int .i64 packed, .int .i64 size, .string name, ex, .string comment, .int .u32 attr, .int .i64 offset] 36))
  have HS0 := Lib.hid (HS.out.alloc (.cells #[.int .i64 made, .int .i64 need, .int .i64 flags, .int .i64 method, .int .i64 date, .int .u32 sum, .int .i64 packed, .int .i64 size, .string name, ex, .string comment, .int .u32 attr, .int .i64 offset] 36))
  clear HS
  refine (small_calls packed _ h6).mono ?_
  rintro e w1 ⟨rfl, hb1⟩
  have HM1 := Lib.hid (blk_below HM0.out hb1)
  have HK1 := Lib.hid (HK0.out.below hb1)
  have HS1 := Lib.hid (HS0.out.below hb1)
  clear hb1 HM0 HK0 HS0
  have hc7 := blk_cell HM1.out 7
  simp only [List.getElem?_toArray, List.getElem?_cons_zero, List.getElem?_cons_succ] at hc7
  go_wp2_with fail
  refine (small_calls size _ h7).mono ?_
  rintro e w2 ⟨rfl, hb1⟩
  have HM2 := Lib.hid (blk_below HM1.out hb1)
  have HK2 := Lib.hid (HK1.out.below hb1)
  have HS2 := Lib.hid (HS1.out.below hb1)
  clear hb1 HM1 HK1 HS1 hc7
  have hc1 := blk_cell HM2.out 1
  have hc2 := blk_cell HM2.out 2
  have hc3 := blk_cell HM2.out 3
  have hc4 := blk_cell HM2.out 4
  simp only [List.getElem?_toArray, List.getElem?_cons_zero, List.getElem?_cons_succ] at hc1 hc2 hc3 hc4
  have u1 : IntKind.u64.wrap need = need := IntWalk.u64_in _ (by omega)
  have u2 : IntKind.u64.wrap flags = flags := IntWalk.u64_in _ (by omega)
  have u3 : IntKind.u64.wrap method = method := IntWalk.u64_in _ (by omega)
  have u4 : IntKind.u64.wrap (date % 65536) = date % 65536 := IntWalk.u64_in _ (by omega)
  have u5 : IntKind.u64.wrap (date / 65536) = date / 65536 := IntWalk.u64_in _ (by omega)
  have ua : bits .and .i64 date 65535 = date % 65536 := and_low16 date h4 (by omega)
  have u6 : IntKind.u64.wrap sum = sum := IntWalk.u64_in _ (by omega)
  have u7 : IntKind.u64.wrap (name.size : Int) = (name.size : Int) := IntWalk.u64_in _ (by omega)
  have u8 : IntKind.u64.wrap (more.size : Int) = (more.size : Int) := IntWalk.u64_in _ (by omega)
  go_wp2_with fail
  refine (put_lit g B 2 xs [need, flags, method, date % 65536, date / 65536] _ HS2.out (by omega) (by omega) (by simp) (by omega) (by have := HK2.out.size; omega)).mono ?_
  rintro e w3 ⟨rfl, hS, hK⟩
  have HM3 := Lib.hid (hK.blk HM2.out (by simp; omega))
  have HK3 := Lib.hid (HK2.out.trans hK)
  have HS3 := Lib.hid hS
  clear hS hK HM2 HK2 HS2 hc1 hc2 hc3 hc4 u1 u2 u3 u4 u5 ua
  have hc5 := blk_cell HM3.out 5
  simp only [List.getElem?_toArray, List.getElem?_cons_zero, List.getElem?_cons_succ] at hc5
  go_wp2_with fail
  refine (put_lit g B 4 _ [sum, smallF packed, smallF size] _ HS3.out (by omega) (by omega) (by simp) (by rw [List.length_append, putF_length]; simp; omega) (by have := HK3.out.size; omega)).mono ?_
  rintro e w4 ⟨rfl, hS, hK⟩
  have HM4 := Lib.hid (hK.blk HM3.out (by simp; omega))
  have HK4 := Lib.hid (HK3.out.trans hK)
  have HS4 := Lib.hid hS
  clear hS hK HM3 HK3 HS3 hc5 u6
  have hc8 := blk_cell HM4.out 8
  simp only [List.getElem?_toArray, List.getElem?_cons_zero, List.getElem?_cons_succ] at hc8
  go_wp2_with fail
  refine (put_lit g B 2 _ [(name.size : Int), (more.size : Int)] _ HS4.out (by omega) (by omega) (by simp) (by rw [List.length_append, List.length_append, putF_length, putF_length]; simp; omega) (by have := HK4.out.size; omega)).mono ?_
  rintro e w5 ⟨rfl, hS, hK⟩
  have HK5 := Lib.hid (HK4.out.trans hK)
  have HS5 := Lib.hid hS
  clear hS hK HM4 HK4 HS4 hc8 u7 u8
  go_wp2
  go_end0
  exact ⟨rfl, by have := HS5.out; simpa only [commonF, List.append_assoc] using this, HK5.out⟩
end Go.Proofs.Ytlbijehgoiknjaa.Z
