/- Walks of package num: read where it returns a number; Little. -/
import Derived.Test.YtlbijehgoiknjaaZNum
import Derived.Test.YtlbijehgoiknjaaZKit
set_option linter.unusedVariables false
set_option linter.unusedSimpArgs false
namespace Go.Proofs.Ytlbijehgoiknjaa.Z
open Go.RowKit Go.Proofs.YtlbijehgoiknjaaW.PrintWords Go.Proofs.YtlbijehgoiknjaaW.PrintLast Go.Proofs.YtlbijehgoiknjaaW.PrintMore

theorem rd_byte {l : List Int} (hb : ∀ x ∈ l, 0 ≤ x ∧ x < 256) {i : Int} (h0 : 0 ≤ i) (h1 : i < l.length) : 0 ≤ rd l i ∧ rd l i < 256 := by
  refine hb _ ?_
  unfold rd
  rw [List.getD_eq_getElem?_getD, List.getElem?_eq_getElem (by omega)]
  exact List.getElem_mem _
theorem pow_seven {v : Int} {k : Nat} (h : v < 256 ^ k) (hk : k ≤ 7) : v < 72057594037927936 := by
  have h1 : ((256 ^ k : Nat) : Int) ≤ ((256 ^ 7 : Nat) : Int) := Int.ofNat_le.2 (Nat.pow_le_pow_right (n := 256) (by omega) hk)
  rw [Int.natCast_pow] at h1
  have h2 : v < ((256 ^ 7 : Nat) : Int) := Int.lt_of_lt_of_le h h1
  exact h2
theorem vF_range (l : List Int) (hb : ∀ x ∈ l, 0 ≤ x ∧ x < 256) (from_ : Int) (f : Int → Int) : ∀ i : Nat, (∀ j : Nat, j < i → 0 ≤ from_ + f j ∧ from_ + f j < l.length) → 0 ≤ vF l from_ f i ∧ vF l from_ f i < 256 ^ i
  | 0, _ => by simp [vF]
  | i + 1, h => by
    obtain ⟨h0, h1⟩ := vF_range l hb from_ f i (fun j hj => h j (by omega))
    obtain ⟨g0, g1⟩ := h i (by omega)
    have hr : 0 ≤ rd l (from_ + f i) ∧ rd l (from_ + f i) < 256 := rd_byte hb g0 g1
    simp only [vF, Int.pow_succ]
    omega

theorem or_byte (a b : Int) (ha : 0 ≤ a) (ha2 : a < 72057594037927936) (hb : 0 ≤ b) (hb2 : b < 256) :
    bits .or .u64 (IntKind.u64.wrap (a * 256)) (IntKind.u64.wrap b) = a * 256 + b := by
  have e1 : IntKind.u64.wrap (a * 256) = a * 256 := IntWalk.u64_in _ (by omega)
  have e2 : IntKind.u64.wrap b = b := IntWalk.u64_in _ (by omega)
  rw [e1, e2]
  obtain ⟨x, rfl⟩ := Int.eq_ofNat_of_zero_le ha
  obtain ⟨y, rfl⟩ := Int.eq_ofNat_of_zero_le hb
  have e3 : ((x : Int) * 256) = ((x * 256 : Nat) : Int) := by omega
  rw [e3, u64_or_nat _ _ (by omega) (by omega)]
  have h := Nat.shiftLeft_add_eq_or_of_lt (b := y) (i := 8) (by omega) x
  rw [Nat.shiftLeft_eq] at h
  have h2 : x * 256 ||| y = x * 256 + y := h.symm
  rw [h2]
  omega

set_option maxHeartbeats 1000000 in
set_option maxRecDepth 100000 in
theorem read_ok (A : Option Addr) (c : Nat) (l : List Int) (from_ n : Int) (K : Nat) (caps : Array Value) (f : Int → Int) (w : World) (hr : Kd.C (Kd.int .u8) w A l.length l) (hb : ∀ x ∈ l, 0 ≤ x ∧ x < 256) (h1 : 1 ≤ n) (h8 : n ≤ 8) (hl : l.length ≤ 140737488351232) (h0 : 0 ≤ from_) (h2 : from_ + n ≤ l.length)
    (hK : ∀ args w, (callFunc K args).run Try.prog w = .ok (.enter K args) w) (hf : ∀ i : Int, 0 ≤ i → i < n → 0 ≤ f i ∧ f i < n)
    (hplace : ∀ (W : World) (i : Int), Below w.heap.size w W → 0 ≤ i → i < n → Calls Try.prog K (#[.int .i64 i] ++ caps) W fun e w' => e = .returned (.int .i64 (f i)) ∧ w' = W) :
    Calls Try.prog 57 #[.slice A l.length c, .int .i64 from_, .int .i64 n, .func (.func K) #[] caps] w fun e w' => e = .returned (.tuple #[.int .u64 (vF l from_ f n.toNat), .int .i64 0]) ∧ Below w.heap.size w w' := by
  have hmf := hmf
  have HP := Lib.hid hplace
  have HF := Lib.hid hf
  have HB := Lib.hid hb
  have HR := Lib.hid hr
  clear hplace hf hb hr
  go_enter_defers Try.func57, Try.ntmps57
  go_wp2_with (go_at_call 61; refine (at_in _ _ _ _ _ (Kd.C_alloc (Kd.C_alloc HR.out _) _) (by omega) (by omega)).mono ?_; rintro e w' ⟨rfl, rfl⟩)
  go_loopw [35] (fun t wr => ∃ (k m : Nat), k ≤ n.toNat ∧ t = .int .i64 k ∧ wr = ((w.alloc (.cells #[.int .u64 (vF l from_ f k)] 55)).alloc (.cells #[.int .i64 0] 25)).drewN m) (fun t _ => n.toNat - (intOf t).toNat)
  case atStart => exact ⟨0, 0, by omega, rfl, rfl⟩
  case round =>
    obtain ⟨k, m, hk, rfl, rfl⟩ := hrel
    have hrng := Lib.hid (vF_range l HB.out from_ f k (fun j hj => by have := HF.out j (by omega) (by omega); omega))
    by_cases hlt : (k : Int) < n
    · obtain ⟨hf0, hf1⟩ := HF.out k (by omega) hlt
      have hv1 := Lib.hid (show vF l from_ f (k + 1) = vF l from_ f k * 256 + rd l (from_ + f k) from rfl)
      have hor := Lib.hid (or_byte (vF l from_ f k) (rd l (from_ + f k)) hrng.out.1 (pow_seven hrng.out.2 (by omega)) (rd_byte HB.out (by omega) (by omega)).1 (rd_byte HB.out (by omega) (by omega)).2)
      have HP1 := Lib.hid (fun W hW => HP.out W k hW (by omega) hlt)
      have HA1 := Lib.hid (fun W hW => at_in A c l (from_ + f k) W hW (by omega) (by omega))
      go_wp2_with fail
      have hwr : IntKind.i64.wrap (from_ + f k) = from_ + f k := IntWalk.i64_in _ (by omega)
      refine region_tail 11 (by kernel_rfl) (by kernel_rfl) ?_
      simp only [List.take_succ_cons, List.take_zero, List.drop_succ_cons, List.drop_zero]
      repeat still_step
      still_call (HP1.out _ (below_drew1 (pw_below_drewN (below_alloc (below_alloc (Below.refl _ _) _) _) _)))
      repeat still_step
      still_call ((HA1.out _ (Kd.C_drew (Kd.C_drewN (Kd.C_alloc (Kd.C_alloc HR.out _) _) _))).mono (fun _ _ h => ⟨h.1, h.2.symm⟩))
      repeat still_step
      clear hwr
      refine wpStill_nil ?_
      rw [hor.out]
      go_wp2
      go_roundw
      case rel => exact ⟨k + 1, m + 1, by omega, by go_num, by rw [hv1.out, setCell_drewN]; simp [go_sem]⟩
      case measure => simp [intOf]; omega
    · have hkn : k = n.toNat := by omega
      subst hkn
      go_wp2_with fail
      refine leaves_cons (f := 59) (args := #[.pointer (some ⟨w.heap.size, 0, none⟩), .pointer (some ⟨w.heap.size + 1, 0, none⟩)]) (by simp) (by simp [go_sem]) ?_
      refine (read_idle _ _ _).mono ?_
      rintro e u' w'' ⟨rfl, rfl, rfl⟩
      simp [Leaves, settle, results, Try.results57, go_sem]
      repeat (first | exact Below.refl _ _ | apply below_alloc | apply pw_below_drewN | apply below_drew1 | refine Below.setCell ?_ (by simp) _)

theorem little_place (p : Addr) (n i : Int) (W : World) (hc : W.cell? p = some (.int .i64 n)) (h1 : 1 ≤ n) (h8 : n ≤ 8) (h0 : 0 ≤ i) (hi : i < n) :
    Calls Try.prog 58 #[.int .i64 i, .pointer (some p)] W fun e w' => e = .returned (.int .i64 (n - 1 - i)) ∧ w' = W := by
  go_enter Try.func58, Try.ntmps58
  go_wp2
  go_ret
  exact ⟨rfl, rfl⟩

/-- What Little returns. -/
def littleF (l : List Int) (at_ n : Int) : Int × Int :=
  if n < 1 ∨ 8 < n then (0, 1) else if at_ < 0 ∨ (l.length : Int) < at_ + n then (0, 5) else (vF l at_ (fun i => n - 1 - i) n.toNat, 0)

set_option maxHeartbeats 400000 in
theorem little_calls (A : Option Addr) (c : Nat) (l : List Int) (at_ n : Int) (w : World) (hr : Kd.C (Kd.int .u8) w A l.length l) (hb : ∀ x ∈ l, 0 ≤ x ∧ x < 256) (hl : l.length ≤ 140737488351232) :
    Calls Try.prog 51 #[.slice A l.length c, .int .i64 at_, .int .i64 n] w fun e w' => e = .returned (.tuple #[.int .u64 (littleF l at_ n).1, .int .i64 (littleF l at_ n).2]) ∧ Below w.heap.size w w' := by
  have hmf := hmf
  have HB := Lib.hid hb
  have HR := Lib.hid hr
  clear hb hr
  by_cases hn : n < 1 ∨ 8 < n
  · have HF := Lib.hid (show littleF l at_ n = (0, 1) from by unfold littleF; rw [if_pos hn])
    have HN := Lib.hid hn
    clear hn
    go_enter Try.func51, Try.ntmps51
    go_wp2_with fail
    refine (read_arg _ _ _ _ _ _ _ _ HN.out).mono ?_
    rintro e w1 ⟨rfl, hb1⟩
    go_wp2_with fail
    go_ret2
    rw [HF.out]
    exact ⟨rfl, below_then (below_alloc (Below.refl _ _) _) (by simp) hb1⟩
  · by_cases ha : at_ < 0 ∨ (l.length : Int) < at_ + n
    · have HF := Lib.hid (show littleF l at_ n = (0, 5) from by unfold littleF; rw [if_neg hn, if_pos ha])
      have HN := Lib.hid hn
      have HA := Lib.hid ha
      clear hn ha
      go_enter Try.func51, Try.ntmps51
      go_wp2_with fail
      refine (read_short _ _ _ _ _ _ _ _ (by have := HN.out; omega) (by have := HN.out; omega) hl HA.out).mono ?_
      rintro e w1 ⟨rfl, hb1⟩
      go_wp2_with fail
      go_ret2
      rw [HF.out]
      exact ⟨rfl, below_then (below_alloc (Below.refl _ _) _) (by simp) hb1⟩
    · have HF := Lib.hid (show littleF l at_ n = (vF l at_ (fun i => n - 1 - i) n.toNat, 0) from by unfold littleF; rw [if_neg hn, if_neg ha])
      have HN := Lib.hid hn
      have HA := Lib.hid ha
      clear hn ha
      go_enter Try.func51, Try.ntmps51
      go_wp2_with fail
      refine (read_ok _ _ _ _ _ 58 #[.pointer (some ⟨w.heap.size, 0, none⟩)] (fun i => n - 1 - i) _ (Kd.C_alloc HR.out _) HB.out (by have := HN.out; omega) (by have := HN.out; omega) hl (by have := HA.out; omega) (by have := HA.out; omega) (enters_ Try.func58 rfl rfl) (fun i h0 h1 => by omega) (fun W i hW h0 h1 => little_place ⟨w.heap.size, 0, none⟩ n i W ?_ (by have := HN.out; omega) (by have := HN.out; omega) h0 h1)).mono ?_
      · exact pw_cell_below hW (by simp [go_sem])
      rintro e w1 ⟨rfl, hb1⟩
      go_wp2_with fail
      go_ret2
      rw [HF.out]
      exact ⟨rfl, below_then (below_alloc (Below.refl _ _) _) (by simp) hb1⟩
end Go.Proofs.Ytlbijehgoiknjaa.Z
