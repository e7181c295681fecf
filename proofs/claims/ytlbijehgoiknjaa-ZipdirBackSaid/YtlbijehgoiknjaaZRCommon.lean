/- Walk of package zipdir's (*reader).common. -/
import Derived.Test.YtlbijehgoiknjaaZFar
import Derived.Test.YtlbijehgoiknjaaZCommon
set_option linter.unusedVariables false
set_option linter.unusedSimpArgs false
namespace Go.Proofs.Ytlbijehgoiknjaa.Z
open Go.RowKit Go.Proofs.YtlbijehgoiknjaaW.PrintWords Go.Proofs.YtlbijehgoiknjaaW.PrintLast Go.Proofs.YtlbijehgoiknjaaW.PrintMore

theorem kp_setAll {S : List Nat} : ∀ (ts : List Addr) (vs : List Int) (w w1 : World), Kp S w w1 → Kp S (setAll w ts vs) (setAll w1 ts vs)
  | [], _, _, _, h => h
  | _ :: _, [], _, _, h => h
  | t :: ts, v :: vs, w, w1, h => kp_setAll ts vs _ _ (h.both t (.int .i64 v))
theorem numbers_lit (g : Nat) (A : Option Addr) (c : Nat) (l : List Int) (s : RS) (n : Int) (ts : List Addr) (W : World) (hS : RdS W g A l.length c s.at_ s.bad) (hr : Kd.C (Kd.int .u8) W A l.length l) (hb : ∀ x ∈ l, 0 ≤ x ∧ x < 256) (hl : l.length ≤ 140737488351232) (hn : 0 ≤ n) (hn8 : n ≤ 8)
    (ht : ∀ t, t ∈ ts → (∃ x, W.cell? t = some (.int .i64 x)) ∧ W.frozen? t = false ∧ t.block ≠ g) (hsz : ts.length ≤ 1000) :
    Calls Try.prog 24 #[.pointer (some ⟨g, 0, none⟩), .int .i64 n, .slice (some ⟨W.heap.size, 0, none⟩) ts.length ts.length] (W.alloc (.cells (ts.map (fun t => Value.pointer (some t))).toArray 64)) fun e w' => e = .returned (.tuple #[]) ∧ RdS w' g A l.length c (numsF l s n ts.length).2.at_ (numsF l s n ts.length).2.bad ∧ Kd.C (Kd.int .u8) w' A l.length l ∧ Kp [g] (setAll W ts (numsF l s n ts.length).1) w' := by
  have hS1 : RdS (W.alloc (.cells (ts.map (fun t => Value.pointer (some t))).toArray 64)) g A l.length c s.at_ s.bad := blk_alloc hS _
  have hr1 := Kd.C_alloc hr (.cells (ts.map (fun t => Value.pointer (some t))).toArray 64)
  have ht1 : ∀ t, t ∈ ts → (∃ x, (W.alloc (.cells (ts.map (fun t => Value.pointer (some t))).toArray 64)).cell? t = some (.int .i64 x)) ∧ (W.alloc (.cells (ts.map (fun t => Value.pointer (some t))).toArray 64)).frozen? t = false ∧ t.block ≠ g := fun t h => by
    obtain ⟨⟨x, hx⟩, hf, hg⟩ := ht t h
    exact ⟨⟨x, cell_alloc_lt hx _⟩, frozen_alloc_lt hx hf _, hg⟩
  refine (numbers_calls g W.heap.size A c ts.length l s n ts _ hS1 hr1 hb hl hn hn8 (ptrs_at (blk_new _ _)) ht1 (Nat.ne_of_gt (blk_lt hS)) hsz).mono ?_
  rintro e w1 ⟨h1, h2, h3⟩
  have hS2 : RdS (setAll (W.alloc (.cells (ts.map (fun t => Value.pointer (some t))).toArray 64)) ts (numsF l s n ts.length).1) g A l.length c s.at_ s.bad := (heap_setAll g ts _ _ (fun t h => (ht t h).2.2)).trans hS1
  refine ⟨h1, h2, C_rds (C_over hr1 (over_setAll _ ts _ _ (Over.refl _) (fun t h => (ht1 t h).1))) hS2 h3, ?_⟩
  exact (kp_setAll ts _ _ _ ((Kp.refl [g] W).alloc _)).trans h3

theorem or_low16 (a b : Int) (ha0 : 0 ≤ a) (ha : a ≤ 65536) (hb0 : 0 ≤ b) (hb : b < 65536) : bits .or .i64 (a * 65536) b = a * 65536 + b := by
  have h63 : (2 : Int) ^ 63 = 9223372036854775808 := by decide
  have h16 : (2 : Int) ^ 16 = 65536 := by decide
  exact bits_join .i64 63 (by decide) (fun n h0 h1 => by rw [h63] at h1; rw [IntKind.wrap_i64]; omega) 16 (a * 65536) b (by omega) (by rw [h16]; omega) (by rw [h63]; omega) hb0 (by rw [h16]; omega) (by rw [h63]; omega)
/-- A row of bytes that is read lies in no member's block. -/
theorem C_mem {w : World} {mb : Nat} {A : Option Addr} {n : Nat} {l : List Int} {a0 a1 a2 a3 a4 a5 a6 a7 a11 a12 : Int} {name comment : ByteArray} {eA : Option Addr} {en ec : Nat}
    (h : Kd.C (Kd.int .u8) w A n l) (hm : w.heap[mb]? = some (.cells #[.int .i64 a0, .int .i64 a1, .int .i64 a2, .int .i64 a3, .int .i64 a4, .int .u32 a5, .int .i64 a6, .int .i64 a7, .string name, .slice eA en ec, .string comment, .int .u32 a11, .int .i64 a12] 36 (0, 0))) (i : Nat) (u : Value) : Kd.C (Kd.int .u8) (w.setCell ⟨mb, i, none⟩ u) A n l := by
  refine C_kp h ((Kp.refl [mb] w).setCell (p := ⟨mb, i, none⟩) (.inl (by simp)) u) (fun g hg o x hc => ?_)
  obtain rfl : g = mb := by simpa using hg
  rw [blk_cell hm] at hc
  rcases o with _ | _ | _ | _ | _ | _ | _ | _ | _ | _ | _ | _ | _ | o <;> simp at hc
set_option maxHeartbeats 4000000 in
set_option maxRecDepth 100000 in
theorem rcommon_calls (g mb : Nat) (A : Option Addr) (c : Nat) (l : List Int) (s s1 s2 s3 : RS) (made need0 flags0 method0 date0 sum0 packed0 size0 : Int) (name : ByteArray) (eA : Option Addr) (en ec : Nat) (comment : ByteArray) (attr offset : Int) (need flags method time date sum packed size nm mo : Int) (w : World)
    (hS : RdS w g A l.length c s.at_ s.bad) (hr : Kd.C (Kd.int .u8) w A l.length l) (hb : ∀ x ∈ l, 0 ≤ x ∧ x < 256) (hl : l.length ≤ 140737488351232)
    (hM : w.heap[mb]? = some (.cells (memCells made need0 flags0 method0 date0 sum0 packed0 size0 name (.slice eA en ec) comment attr offset) 36 (0, 0)))
    (hgm : mb ≠ g)
    (e1 : numsF l s 2 5 = ([need, flags, method, time, date], s1)) (e2 : numsF l s1 4 3 = ([sum, packed, size], s2)) (e3 : numsF l s2 2 2 = ([nm, mo], s3))
    (ht0 : 0 ≤ time) (ht1 : time < 65536) (hd0 : 0 ≤ date) (hd1 : date < 65536) (hs0 : 0 ≤ sum) (hs1 : sum < 4294967296) :
    Calls Try.prog 32 #[.pointer (some ⟨g, 0, none⟩), .pointer (some ⟨mb, 0, none⟩)] w fun e w' => e = .returned (.tuple #[.int .i64 nm, .int .i64 mo]) ∧ RdS w' g A l.length c s3.at_ s3.bad ∧ Kd.C (Kd.int .u8) w' A l.length l ∧
      w'.heap[mb]? = some (.cells (memCells made need flags method (date * 65536 + time) sum packed size name (.slice eA en ec) comment attr offset) 36 (0, 0)) ∧ Kp [g, mb] w w' := by
  have HB := Lib.hid hb
  have HS := Lib.hid hS
  have HC := Lib.hid hr
  have HM := Lib.hid hM
  have E1 := Lib.hid e1
  have E2 := Lib.hid e2
  have E3 := Lib.hid e3
  have hmlt : mb < w.heap.size := blk_lt hM
  have hglt : g < w.heap.size := blk_lt hS
  clear hb hS hr hM e1 e2 e3
  unfold memCells at HM ⊢
  go_enter Try.func32, Try.ntmps32
  go_wp2_with fail
  have HS5 := Lib.hid (show RdS (((((w.alloc (.cells #[.int .i64 0] 3)).alloc (.cells #[.int .i64 0] 3)).alloc (.cells #[.int .i64 0] 3)).alloc (.cells #[.int .i64 0] 3)).alloc (.cells #[.int .i64 0] 3)) g A l.length c s.at_ s.bad from (blk_alloc (blk_alloc (blk_alloc (blk_alloc (blk_alloc HS.out (.cells #[.int .i64 0] 3)) (.cells #[.int .i64 0] 3)) (.cells #[.int .i64 0] 3)) (.cells #[.int .i64 0] 3)) (.cells #[.int .i64 0] 3)))
  have HC5 := Lib.hid (Kd.C_alloc (Kd.C_alloc (Kd.C_alloc (Kd.C_alloc (Kd.C_alloc HC.out (.cells #[.int .i64 0] 3)) (.cells #[.int .i64 0] 3)) (.cells #[.int .i64 0] 3)) (.cells #[.int .i64 0] 3)) (.cells #[.int .i64 0] 3))
  have HM5 := Lib.hid (blk_alloc (blk_alloc (blk_alloc (blk_alloc (blk_alloc HM.out (.cells #[.int .i64 0] 3)) (.cells #[.int .i64 0] 3)) (.cells #[.int .i64 0] 3)) (.cells #[.int .i64 0] 3)) (.cells #[.int .i64 0] 3))
  have HN0 := Lib.hid (blk_alloc (blk_alloc (blk_alloc (blk_alloc (blk_new' w (.cells #[.int .i64 0] 3) (w.heap.size) (by simp)) (.cells #[.int .i64 0] 3)) (.cells #[.int .i64 0] 3)) (.cells #[.int .i64 0] 3)) (.cells #[.int .i64 0] 3))
  have HN1 := Lib.hid (blk_alloc (blk_alloc (blk_alloc (blk_new' (w.alloc (.cells #[.int .i64 0] 3)) (.cells #[.int .i64 0] 3) (w.heap.size + 1) (by simp)) (.cells #[.int .i64 0] 3)) (.cells #[.int .i64 0] 3)) (.cells #[.int .i64 0] 3))
  have HN2 := Lib.hid (blk_alloc (blk_alloc (blk_new' ((w.alloc (.cells #[.int .i64 0] 3)).alloc (.cells #[.int .i64 0] 3)) (.cells #[.int .i64 0] 3) (w.heap.size + 1 + 1) (by simp)) (.cells #[.int .i64 0] 3)) (.cells #[.int .i64 0] 3))
  have HN3 := Lib.hid (blk_alloc (blk_new' (((w.alloc (.cells #[.int .i64 0] 3)).alloc (.cells #[.int .i64 0] 3)).alloc (.cells #[.int .i64 0] 3)) (.cells #[.int .i64 0] 3) (w.heap.size + 1 + 1 + 1) (by simp)) (.cells #[.int .i64 0] 3))
  have HN4 := Lib.hid (blk_new' ((((w.alloc (.cells #[.int .i64 0] 3)).alloc (.cells #[.int .i64 0] 3)).alloc (.cells #[.int .i64 0] 3)).alloc (.cells #[.int .i64 0] 3)) (.cells #[.int .i64 0] 3) (w.heap.size + 1 + 1 + 1 + 1) (by simp))
  have HK5 := Lib.hid ((((((Kp.refl [g, mb] w).alloc (.cells #[.int .i64 0] 3)).alloc (.cells #[.int .i64 0] 3)).alloc (.cells #[.int .i64 0] 3)).alloc (.cells #[.int .i64 0] 3)).alloc (.cells #[.int .i64 0] 3))
  have hw5 : (((((w.alloc (.cells #[.int .i64 0] 3)).alloc (.cells #[.int .i64 0] 3)).alloc (.cells #[.int .i64 0] 3)).alloc (.cells #[.int .i64 0] 3)).alloc (.cells #[.int .i64 0] 3)).heap.size = w.heap.size + 1 + 1 + 1 + 1 + 1 := by simp
  clear HS HC HM
  generalize (((((w.alloc (.cells #[.int .i64 0] 3)).alloc (.cells #[.int .i64 0] 3)).alloc (.cells #[.int .i64 0] 3)).alloc (.cells #[.int .i64 0] 3)).alloc (.cells #[.int .i64 0] 3)) = w5 at *
  have HW5 := Lib.hid hw5
  clear hw5
  have HT := Lib.hid (show ∀ t, t ∈ ([⟨mb, 1, none⟩, ⟨mb, 2, none⟩, ⟨mb, 3, none⟩, ⟨w.heap.size, 0, none⟩, ⟨w.heap.size + 1, 0, none⟩] : List Addr) → (∃ x, w5.cell? t = some (.int .i64 x)) ∧ w5.frozen? t = false ∧ t.block ≠ g from fun t ht => by
    simp only [List.mem_cons, List.not_mem_nil, or_false] at ht
    rcases ht with rfl | rfl | rfl | rfl | rfl
    · exact ⟨⟨_, blk_cell HM5.out 1⟩, blk_frozen HM5.out 1, by show mb ≠ g; omega⟩
    · exact ⟨⟨_, blk_cell HM5.out 2⟩, blk_frozen HM5.out 2, by show mb ≠ g; omega⟩
    · exact ⟨⟨_, blk_cell HM5.out 3⟩, blk_frozen HM5.out 3, by show mb ≠ g; omega⟩
    · exact ⟨⟨_, blk_cell HN0.out 0⟩, blk_frozen HN0.out 0, by show w.heap.size ≠ g; omega⟩
    · exact ⟨⟨_, blk_cell HN1.out 0⟩, blk_frozen HN1.out 0, by show w.heap.size + 1 ≠ g; omega⟩)
  go_region_held3 (fun _ => True) (trivial) (first | (go_at_call 24; refine (numbers_lit g A c l s 2 [⟨mb, 1, none⟩, ⟨mb, 2, none⟩, ⟨mb, 3, none⟩, ⟨w.heap.size, 0, none⟩, ⟨w.heap.size + 1, 0, none⟩] w5.drew HS5.out (Kd.C_drew HC5.out) HB.out hl (by omega) (by omega) HT.out (by simp)).mono ?_; rintro e w6 ⟨rfl, hS, hC, hK⟩))
  rename_i hHeld
  clear hHeld
  clear HT
  rw [show ([⟨mb, 1, none⟩, ⟨mb, 2, none⟩, ⟨mb, 3, none⟩, ⟨w.heap.size, 0, none⟩, ⟨w.heap.size + 1, 0, none⟩] : List Addr).length = 5 from rfl, E1.out] at hS hK
  have hM : w6.heap[mb]? = some (.cells #[.int .i64 made, .int .i64 need, .int .i64 flags, .int .i64 method, .int .i64 date0, .int .u32 sum0, .int .i64 packed0, .int .i64 size0, .string name, .slice eA en ec, .string comment, .int .u32 attr, .int .i64 offset] 36 (0, 0)) := hK.blk (blk_far (blk_far (blk_put (blk_put (blk_put (blk_drew HM5.out) 1 (.int .i64 need) rfl) 2 (.int .i64 flags) rfl) 3 (.int .i64 method) rfl) (p := ⟨w.heap.size, 0, none⟩) (by show mb ≠ w.heap.size; omega) (.int .i64 time)) (p := ⟨w.heap.size + 1, 0, none⟩) (by show mb ≠ w.heap.size + 1; omega) (.int .i64 date)) (by simp; omega)
  have hN0 : w6.heap[w.heap.size]? = some (.cells #[.int .i64 time] 3 (0, 0)) := hK.blk (blk_far (blk_put (blk_far (blk_far (blk_far (blk_drew HN0.out) (p := ⟨mb, 1, none⟩) (by show w.heap.size ≠ mb; omega) (.int .i64 need)) (p := ⟨mb, 2, none⟩) (by show w.heap.size ≠ mb; omega) (.int .i64 flags)) (p := ⟨mb, 3, none⟩) (by show w.heap.size ≠ mb; omega) (.int .i64 method)) 0 (.int .i64 time) rfl) (p := ⟨w.heap.size + 1, 0, none⟩) (by show w.heap.size ≠ w.heap.size + 1; omega) (.int .i64 date)) (by simp; omega)
  have hN1 : w6.heap[w.heap.size + 1]? = some (.cells #[.int .i64 date] 3 (0, 0)) := hK.blk (blk_put (blk_far (blk_far (blk_far (blk_far (blk_drew HN1.out) (p := ⟨mb, 1, none⟩) (by show w.heap.size + 1 ≠ mb; omega) (.int .i64 need)) (p := ⟨mb, 2, none⟩) (by show w.heap.size + 1 ≠ mb; omega) (.int .i64 flags)) (p := ⟨mb, 3, none⟩) (by show w.heap.size + 1 ≠ mb; omega) (.int .i64 method)) (p := ⟨w.heap.size, 0, none⟩) (by show w.heap.size + 1 ≠ w.heap.size; omega) (.int .i64 time)) 0 (.int .i64 date) rfl) (by simp; omega)
  have hN2 : w6.heap[w.heap.size + 1 + 1]? = some (.cells #[.int .i64 0] 3 (0, 0)) := hK.blk (blk_far (blk_far (blk_far (blk_far (blk_far (blk_drew HN2.out) (p := ⟨mb, 1, none⟩) (by show w.heap.size + 1 + 1 ≠ mb; omega) (.int .i64 need)) (p := ⟨mb, 2, none⟩) (by show w.heap.size + 1 + 1 ≠ mb; omega) (.int .i64 flags)) (p := ⟨mb, 3, none⟩) (by show w.heap.size + 1 + 1 ≠ mb; omega) (.int .i64 method)) (p := ⟨w.heap.size, 0, none⟩) (by show w.heap.size + 1 + 1 ≠ w.heap.size; omega) (.int .i64 time)) (p := ⟨w.heap.size + 1, 0, none⟩) (by show w.heap.size + 1 + 1 ≠ w.heap.size + 1; omega) (.int .i64 date)) (by simp; omega)
  have hN3 : w6.heap[w.heap.size + 1 + 1 + 1]? = some (.cells #[.int .i64 0] 3 (0, 0)) := hK.blk (blk_far (blk_far (blk_far (blk_far (blk_far (blk_drew HN3.out) (p := ⟨mb, 1, none⟩) (by show w.heap.size + 1 + 1 + 1 ≠ mb; omega) (.int .i64 need)) (p := ⟨mb, 2, none⟩) (by show w.heap.size + 1 + 1 + 1 ≠ mb; omega) (.int .i64 flags)) (p := ⟨mb, 3, none⟩) (by show w.heap.size + 1 + 1 + 1 ≠ mb; omega) (.int .i64 method)) (p := ⟨w.heap.size, 0, none⟩) (by show w.heap.size + 1 + 1 + 1 ≠ w.heap.size; omega) (.int .i64 time)) (p := ⟨w.heap.size + 1, 0, none⟩) (by show w.heap.size + 1 + 1 + 1 ≠ w.heap.size + 1; omega) (.int .i64 date)) (by simp; omega)
  have hN4 : w6.heap[w.heap.size + 1 + 1 + 1 + 1]? = some (.cells #[.int .i64 0] 3 (0, 0)) := hK.blk (blk_far (blk_far (blk_far (blk_far (blk_far (blk_drew HN4.out) (p := ⟨mb, 1, none⟩) (by show w.heap.size + 1 + 1 + 1 + 1 ≠ mb; omega) (.int .i64 need)) (p := ⟨mb, 2, none⟩) (by show w.heap.size + 1 + 1 + 1 + 1 ≠ mb; omega) (.int .i64 flags)) (p := ⟨mb, 3, none⟩) (by show w.heap.size + 1 + 1 + 1 + 1 ≠ mb; omega) (.int .i64 method)) (p := ⟨w.heap.size, 0, none⟩) (by show w.heap.size + 1 + 1 + 1 + 1 ≠ w.heap.size; omega) (.int .i64 time)) (p := ⟨w.heap.size + 1, 0, none⟩) (by show w.heap.size + 1 + 1 + 1 + 1 ≠ w.heap.size + 1; omega) (.int .i64 date)) (by simp; omega)
  have hKK := (((((HK5.out.drew.setCell (p := ⟨mb, 1, none⟩) (.inl (by simp)) (.int .i64 need)).setCell (p := ⟨mb, 2, none⟩) (.inl (by simp)) (.int .i64 flags)).setCell (p := ⟨mb, 3, none⟩) (.inl (by simp)) (.int .i64 method)).setCell (p := ⟨w.heap.size, 0, none⟩) (.inr (by show w.heap.size ≤ w.heap.size; omega)) (.int .i64 time)).setCell (p := ⟨w.heap.size + 1, 0, none⟩) (.inr (by show w.heap.size ≤ w.heap.size + 1; omega)) (.int .i64 date)).trans (hK.mono (S' := [g, mb]) (by simp))
  have hsz : w.heap.size + 1 + 1 + 1 + 1 + 1 ≤ w6.heap.size := by have := hK.size; have h5 := HW5.out; simp [setAll, World.setCell] at this; omega
  clear HN0 HN1 HN2 HN3 HN4 HM5 HS5 HC5 HK5 HW5
  have HS6 := Lib.hid hS
  have HC6 := Lib.hid hC
  have HM6 := Lib.hid hM
  have HK6 := Lib.hid hKK
  have HW6 := Lib.hid hsz
  have HN0 := Lib.hid hN0
  have HN1 := Lib.hid hN1
  have HN2 := Lib.hid hN2
  have HN3 := Lib.hid hN3
  have HN4 := Lib.hid hN4
  clear hS hC hM hK hKK hsz hN0 hN1 hN2 hN3 hN4
  go_wp2_with fail
  have HT := Lib.hid (show ∀ t, t ∈ ([⟨w.heap.size + 1 + 1, 0, none⟩, ⟨mb, 6, none⟩, ⟨mb, 7, none⟩] : List Addr) → (∃ x, w6.cell? t = some (.int .i64 x)) ∧ w6.frozen? t = false ∧ t.block ≠ g from fun t ht => by
    simp only [List.mem_cons, List.not_mem_nil, or_false] at ht
    rcases ht with rfl | rfl | rfl
    · exact ⟨⟨_, blk_cell HN2.out 0⟩, blk_frozen HN2.out 0, by show w.heap.size + 1 + 1 ≠ g; omega⟩
    · exact ⟨⟨_, blk_cell HM6.out 6⟩, blk_frozen HM6.out 6, by show mb ≠ g; omega⟩
    · exact ⟨⟨_, blk_cell HM6.out 7⟩, blk_frozen HM6.out 7, by show mb ≠ g; omega⟩)
  go_region_held3 (fun _ => True) (trivial) (first | (go_at_call 24; refine (numbers_lit g A c l s1 4 [⟨w.heap.size + 1 + 1, 0, none⟩, ⟨mb, 6, none⟩, ⟨mb, 7, none⟩] w6.drew HS6.out (Kd.C_drew HC6.out) HB.out hl (by omega) (by omega) HT.out (by simp)).mono ?_; rintro e w7 ⟨rfl, hS, hC, hK⟩))
  rename_i hHeld
  clear hHeld
  clear HT
  rw [show ([⟨w.heap.size + 1 + 1, 0, none⟩, ⟨mb, 6, none⟩, ⟨mb, 7, none⟩] : List Addr).length = 3 from rfl, E2.out] at hS hK
  have hM : w7.heap[mb]? = some (.cells #[.int .i64 made, .int .i64 need, .int .i64 flags, .int .i64 method, .int .i64 date0, .int .u32 sum0, .int .i64 packed, .int .i64 size, .string name, .slice eA en ec, .string comment, .int .u32 attr, .int .i64 offset] 36 (0, 0)) := hK.blk (blk_put (blk_put (blk_far (blk_drew HM6.out) (p := ⟨w.heap.size + 1 + 1, 0, none⟩) (by show mb ≠ w.heap.size + 1 + 1; omega) (.int .i64 sum)) 6 (.int .i64 packed) rfl) 7 (.int .i64 size) rfl) (by simp; omega)
  have hN0 : w7.heap[w.heap.size]? = some (.cells #[.int .i64 time] 3 (0, 0)) := hK.blk (blk_far (blk_far (blk_far (blk_drew HN0.out) (p := ⟨w.heap.size + 1 + 1, 0, none⟩) (by show w.heap.size ≠ w.heap.size + 1 + 1; omega) (.int .i64 sum)) (p := ⟨mb, 6, none⟩) (by show w.heap.size ≠ mb; omega) (.int .i64 packed)) (p := ⟨mb, 7, none⟩) (by show w.heap.size ≠ mb; omega) (.int .i64 size)) (by simp; omega)
  have hN1 : w7.heap[w.heap.size + 1]? = some (.cells #[.int .i64 date] 3 (0, 0)) := hK.blk (blk_far (blk_far (blk_far (blk_drew HN1.out) (p := ⟨w.heap.size + 1 + 1, 0, none⟩) (by show w.heap.size + 1 ≠ w.heap.size + 1 + 1; omega) (.int .i64 sum)) (p := ⟨mb, 6, none⟩) (by show w.heap.size + 1 ≠ mb; omega) (.int .i64 packed)) (p := ⟨mb, 7, none⟩) (by show w.heap.size + 1 ≠ mb; omega) (.int .i64 size)) (by simp; omega)
  have hN2 : w7.heap[w.heap.size + 1 + 1]? = some (.cells #[.int .i64 sum] 3 (0, 0)) := hK.blk (blk_far (blk_far (blk_put (blk_drew HN2.out) 0 (.int .i64 sum) rfl) (p := ⟨mb, 6, none⟩) (by show w.heap.size + 1 + 1 ≠ mb; omega) (.int .i64 packed)) (p := ⟨mb, 7, none⟩) (by show w.heap.size + 1 + 1 ≠ mb; omega) (.int .i64 size)) (by simp; omega)
  have hN3 : w7.heap[w.heap.size + 1 + 1 + 1]? = some (.cells #[.int .i64 0] 3 (0, 0)) := hK.blk (blk_far (blk_far (blk_far (blk_drew HN3.out) (p := ⟨w.heap.size + 1 + 1, 0, none⟩) (by show w.heap.size + 1 + 1 + 1 ≠ w.heap.size + 1 + 1; omega) (.int .i64 sum)) (p := ⟨mb, 6, none⟩) (by show w.heap.size + 1 + 1 + 1 ≠ mb; omega) (.int .i64 packed)) (p := ⟨mb, 7, none⟩) (by show w.heap.size + 1 + 1 + 1 ≠ mb; omega) (.int .i64 size)) (by simp; omega)
  have hN4 : w7.heap[w.heap.size + 1 + 1 + 1 + 1]? = some (.cells #[.int .i64 0] 3 (0, 0)) := hK.blk (blk_far (blk_far (blk_far (blk_drew HN4.out) (p := ⟨w.heap.size + 1 + 1, 0, none⟩) (by show w.heap.size + 1 + 1 + 1 + 1 ≠ w.heap.size + 1 + 1; omega) (.int .i64 sum)) (p := ⟨mb, 6, none⟩) (by show w.heap.size + 1 + 1 + 1 + 1 ≠ mb; omega) (.int .i64 packed)) (p := ⟨mb, 7, none⟩) (by show w.heap.size + 1 + 1 + 1 + 1 ≠ mb; omega) (.int .i64 size)) (by simp; omega)
  have hKK := (((HK6.out.drew.setCell (p := ⟨w.heap.size + 1 + 1, 0, none⟩) (.inr (by show w.heap.size ≤ w.heap.size + 1 + 1; omega)) (.int .i64 sum)).setCell (p := ⟨mb, 6, none⟩) (.inl (by simp)) (.int .i64 packed)).setCell (p := ⟨mb, 7, none⟩) (.inl (by simp)) (.int .i64 size)).trans (hK.mono (S' := [g, mb]) (by simp))
  have hsz : w.heap.size + 1 + 1 + 1 + 1 + 1 ≤ w7.heap.size := by have := hK.size; have h5 := HW6.out; simp [setAll, World.setCell] at this; omega
  clear HN0 HN1 HN2 HN3 HN4 HM6 HS6 HC6 HK6 HW6
  have HS7 := Lib.hid hS
  have HC7 := Lib.hid hC
  have HM7 := Lib.hid hM
  have HK7 := Lib.hid hKK
  have HW7 := Lib.hid hsz
  have HN0 := Lib.hid hN0
  have HN1 := Lib.hid hN1
  have HN2 := Lib.hid hN2
  have HN3 := Lib.hid hN3
  have HN4 := Lib.hid hN4
  clear hS hC hM hK hKK hsz hN0 hN1 hN2 hN3 hN4
  go_wp2_with fail
  have HT := Lib.hid (show ∀ t, t ∈ ([⟨w.heap.size + 1 + 1 + 1, 0, none⟩, ⟨w.heap.size + 1 + 1 + 1 + 1, 0, none⟩] : List Addr) → (∃ x, w7.cell? t = some (.int .i64 x)) ∧ w7.frozen? t = false ∧ t.block ≠ g from fun t ht => by
    simp only [List.mem_cons, List.not_mem_nil, or_false] at ht
    rcases ht with rfl | rfl
    · exact ⟨⟨_, blk_cell HN3.out 0⟩, blk_frozen HN3.out 0, by show w.heap.size + 1 + 1 + 1 ≠ g; omega⟩
    · exact ⟨⟨_, blk_cell HN4.out 0⟩, blk_frozen HN4.out 0, by show w.heap.size + 1 + 1 + 1 + 1 ≠ g; omega⟩)
  refine (numbers_lit g A c l s2 2 [⟨w.heap.size + 1 + 1 + 1, 0, none⟩, ⟨w.heap.size + 1 + 1 + 1 + 1, 0, none⟩] w7 HS7.out HC7.out HB.out hl (by omega) (by omega) HT.out (by simp)).mono ?_
  rintro e w8 ⟨rfl, hS, hC, hK⟩
  clear HT
  rw [show ([⟨w.heap.size + 1 + 1 + 1, 0, none⟩, ⟨w.heap.size + 1 + 1 + 1 + 1, 0, none⟩] : List Addr).length = 2 from rfl, E3.out] at hS hK
  have hM : w8.heap[mb]? = some (.cells #[.int .i64 made, .int .i64 need, .int .i64 flags, .int .i64 method, .int .i64 date0, .int .u32 sum0, .int .i64 packed, .int .i64 size, .string name, .slice eA en ec, .string comment, .int .u32 attr, .int .i64 offset] 36 (0, 0)) := hK.blk (blk_far (blk_far HM7.out (p := ⟨w.heap.size + 1 + 1 + 1, 0, none⟩) (by show mb ≠ w.heap.size + 1 + 1 + 1; omega) (.int .i64 nm)) (p := ⟨w.heap.size + 1 + 1 + 1 + 1, 0, none⟩) (by show mb ≠ w.heap.size + 1 + 1 + 1 + 1; omega) (.int .i64 mo)) (by simp; omega)
  have hN0 : w8.heap[w.heap.size]? = some (.cells #[.int .i64 time] 3 (0, 0)) := hK.blk (blk_far (blk_far HN0.out (p := ⟨w.heap.size + 1 + 1 + 1, 0, none⟩) (by show w.heap.size ≠ w.heap.size + 1 + 1 + 1; omega) (.int .i64 nm)) (p := ⟨w.heap.size + 1 + 1 + 1 + 1, 0, none⟩) (by show w.heap.size ≠ w.heap.size + 1 + 1 + 1 + 1; omega) (.int .i64 mo)) (by simp; omega)
  have hN1 : w8.heap[w.heap.size + 1]? = some (.cells #[.int .i64 date] 3 (0, 0)) := hK.blk (blk_far (blk_far HN1.out (p := ⟨w.heap.size + 1 + 1 + 1, 0, none⟩) (by show w.heap.size + 1 ≠ w.heap.size + 1 + 1 + 1; omega) (.int .i64 nm)) (p := ⟨w.heap.size + 1 + 1 + 1 + 1, 0, none⟩) (by show w.heap.size + 1 ≠ w.heap.size + 1 + 1 + 1 + 1; omega) (.int .i64 mo)) (by simp; omega)
  have hN2 : w8.heap[w.heap.size + 1 + 1]? = some (.cells #[.int .i64 sum] 3 (0, 0)) := hK.blk (blk_far (blk_far HN2.out (p := ⟨w.heap.size + 1 + 1 + 1, 0, none⟩) (by show w.heap.size + 1 + 1 ≠ w.heap.size + 1 + 1 + 1; omega) (.int .i64 nm)) (p := ⟨w.heap.size + 1 + 1 + 1 + 1, 0, none⟩) (by show w.heap.size + 1 + 1 ≠ w.heap.size + 1 + 1 + 1 + 1; omega) (.int .i64 mo)) (by simp; omega)
  have hN3 : w8.heap[w.heap.size + 1 + 1 + 1]? = some (.cells #[.int .i64 nm] 3 (0, 0)) := hK.blk (blk_far (blk_put HN3.out 0 (.int .i64 nm) rfl) (p := ⟨w.heap.size + 1 + 1 + 1 + 1, 0, none⟩) (by show w.heap.size + 1 + 1 + 1 ≠ w.heap.size + 1 + 1 + 1 + 1; omega) (.int .i64 mo)) (by simp; omega)
  have hN4 : w8.heap[w.heap.size + 1 + 1 + 1 + 1]? = some (.cells #[.int .i64 mo] 3 (0, 0)) := hK.blk (blk_put (blk_far HN4.out (p := ⟨w.heap.size + 1 + 1 + 1, 0, none⟩) (by show w.heap.size + 1 + 1 + 1 + 1 ≠ w.heap.size + 1 + 1 + 1; omega) (.int .i64 nm)) 0 (.int .i64 mo) rfl) (by simp; omega)
  have hKK := ((HK7.out.setCell (p := ⟨w.heap.size + 1 + 1 + 1, 0, none⟩) (.inr (by show w.heap.size ≤ w.heap.size + 1 + 1 + 1; omega)) (.int .i64 nm)).setCell (p := ⟨w.heap.size + 1 + 1 + 1 + 1, 0, none⟩) (.inr (by show w.heap.size ≤ w.heap.size + 1 + 1 + 1 + 1; omega)) (.int .i64 mo)).trans (hK.mono (S' := [g, mb]) (by simp))
  have hsz : w.heap.size + 1 + 1 + 1 + 1 + 1 ≤ w8.heap.size := by have := hK.size; have h5 := HW7.out; simp [setAll, World.setCell] at this; omega
  clear HN0 HN1 HN2 HN3 HN4 HM7 HS7 HC7 HK7 HW7
  have HS8 := Lib.hid hS
  have HC8 := Lib.hid hC
  have HM8 := Lib.hid hM
  have HK8 := Lib.hid hKK
  have HW8 := Lib.hid hsz
  have HN0 := Lib.hid hN0
  have HN1 := Lib.hid hN1
  have HN2 := Lib.hid hN2
  have HN3 := Lib.hid hN3
  have HN4 := Lib.hid hN4
  clear hS hC hM hK hKK hsz hN0 hN1 hN2 hN3 hN4
  have hv6 := blk_cell HN0.out 0
  have hv7 := blk_cell HN1.out 0
  have hv8 := blk_cell HN2.out 0
  have hm4 := blk_cell HM8.out 4
  have hm5 := blk_cell HM8.out 5
  simp only [List.getElem?_toArray, List.getElem?_cons_zero, List.getElem?_cons_succ] at hv6 hv7 hv8 hm4 hm5
  have hz4 := blk_frozen HM8.out 4
  have hz5 := blk_frozen HM8.out 5
  have ub : bits .or .i64 (date * 65536) time = date * 65536 + time := or_low16 date time hd0 (by omega) ht0 ht1
  have uw : IntKind.u32.wrap sum = sum := IntWalk.u32_in _ (by omega)
  go_wp2_with fail
  have hM9 : ((w8.setCell ⟨mb, 4, none⟩ (.int .i64 (date * 65536 + time))).setCell ⟨mb, 5, none⟩ (.int .u32 sum)).heap[mb]? = some (.cells #[.int .i64 made, .int .i64 need, .int .i64 flags, .int .i64 method, .int .i64 (date * 65536 + time), .int .u32 sum, .int .i64 packed, .int .i64 size, .string name, .slice eA en ec, .string comment, .int .u32 attr, .int .i64 offset] 36 (0, 0)) := blk_put (blk_put HM8.out 4 _ rfl) 5 _ rfl
  have HM9 := Lib.hid hM9
  have HS9 := Lib.hid (show RdS ((w8.setCell ⟨mb, 4, none⟩ (.int .i64 (date * 65536 + time))).setCell ⟨mb, 5, none⟩ (.int .u32 sum)) g A l.length c s3.at_ s3.bad from blk_far (blk_far HS8.out (p := ⟨mb, 4, none⟩) (by show g ≠ mb; omega) _) (p := ⟨mb, 5, none⟩) (by show g ≠ mb; omega) _)
  have HC9 := Lib.hid (C_mem (C_mem HC8.out HM8.out 4 (.int .i64 (date * 65536 + time))) (blk_put HM8.out 4 (.int .i64 (date * 65536 + time)) rfl) 5 (.int .u32 sum))
  have HK9 := Lib.hid ((HK8.out.setCell (p := ⟨mb, 4, none⟩) (.inl (by simp)) (.int .i64 (date * 65536 + time))).setCell (p := ⟨mb, 5, none⟩) (.inl (by simp)) (.int .u32 sum))
  have hk3 := blk_cell (blk_far (blk_far HN3.out (p := ⟨mb, 4, none⟩) (by show w.heap.size + 1 + 1 + 1 ≠ mb; omega) (.int .i64 (date * 65536 + time))) (p := ⟨mb, 5, none⟩) (by show w.heap.size + 1 + 1 + 1 ≠ mb; omega) (.int .u32 sum)) 0
  have hk4 := blk_cell (blk_far (blk_far HN4.out (p := ⟨mb, 4, none⟩) (by show w.heap.size + 1 + 1 + 1 + 1 ≠ mb; omega) (.int .i64 (date * 65536 + time))) (p := ⟨mb, 5, none⟩) (by show w.heap.size + 1 + 1 + 1 + 1 ≠ mb; omega) (.int .u32 sum)) 0
  simp only [List.getElem?_toArray, List.getElem?_cons_zero, List.getElem?_cons_succ] at hk3 hk4
  generalize ((w8.setCell ⟨mb, 4, none⟩ (.int .i64 (date * 65536 + time))).setCell ⟨mb, 5, none⟩ (.int .u32 sum)) = w9 at *
  clear hv6 hv7 hv8 hm4 hm5 hz4 hz5 hM9
  go_quiet (fail)
  go_wp2
  go_ret2
  exact ⟨rfl, HS9.out, Kd.C_drewN HC9.out _, HM9.out, HK9.out.drewN _⟩
end Go.Proofs.Ytlbijehgoiknjaa.Z
