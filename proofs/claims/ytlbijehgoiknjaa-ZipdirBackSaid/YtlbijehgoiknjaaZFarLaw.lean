/- Plain: the far end's numbers, where the number of entries is great. -/
import Derived.Test.YtlbijehgoiknjaaZFar
import Derived.Test.YtlbijehgoiknjaaZPutLit
import Derived.Test.YtlbijehgoiknjaaZWriter
import Derived.Test.YtlbijehgoiknjaaZPutEnd
import Derived.Test.YtlbijehgoiknjaaZFound
set_option linter.unusedVariables false
set_option linter.unusedSimpArgs false
namespace Go.Proofs.Ytlbijehgoiknjaa.Z
open Go.RowKit Go.Proofs.YtlbijehgoiknjaaW.PrintWords Go.Proofs.YtlbijehgoiknjaaW.PrintLast Go.Proofs.YtlbijehgoiknjaaW.PrintMore

theorem rd_leb (pre post : List Int) (v : Int) (n i : Nat) (hi : i < n) : rd (pre ++ (leb v n ++ post)) ((pre.length : Int) + i) = v / 256 ^ i % 256 := by
  unfold rd
  rw [List.getD_eq_getElem?_getD, show ((pre.length : Int) + i).toNat = pre.length + i by omega, List.getElem?_append_right (by omega), Nat.add_sub_cancel_left, List.getElem?_append_left (by rw [leb_length]; exact hi)]
  unfold leb
  rw [List.getElem?_map, List.getElem?_range hi]
  rfl
theorem vF_leb (pre post : List Int) (v : Int) (n : Nat) (h0 : 0 ≤ v) (hv : v < 256 ^ n) : ∀ k : Nat, k ≤ n → vF (pre ++ (leb v n ++ post)) (pre.length : Int) (fun i => (n : Int) - 1 - i) k = v / 256 ^ (n - k)
  | 0, _ => by
    rw [vF, Nat.sub_zero]
    exact (Int.ediv_eq_zero_of_lt h0 hv).symm
  | k + 1, hk => by
    rw [vF, vF_leb pre post v n h0 hv k (by omega)]
    have e1 : (pre.length : Int) + ((n : Int) - 1 - (k : Int)) = (pre.length : Int) + ((n - (k + 1) : Nat) : Int) := by omega
    rw [e1, rd_leb pre post v n (n - (k + 1)) (by omega)]
    have e2 : n - k = (n - (k + 1)) + 1 := by omega
    rw [e2, Int.pow_succ, ← Int.ediv_ediv_of_nonneg (Int.le_of_lt (Int.pow_pos (by decide)))]
    have := Int.mul_ediv_add_emod (v / 256 ^ (n - (k + 1))) 256
    omega
theorem little_leb (pre post : List Int) (v : Int) (n : Nat) (h1 : 1 ≤ n) (h8 : n ≤ 8) (h0 : 0 ≤ v) (hv : v < 256 ^ n) : littleF (pre ++ (leb v n ++ post)) (pre.length : Int) (n : Int) = (v, 0) := by
  unfold littleF
  rw [if_neg (by omega), if_neg (by simp [leb_length]; omega)]
  have := vF_leb pre post v n h0 hv n (Nat.le_refl _)
  rw [Int.toNat_natCast]
  rw [this, Nat.sub_self]
  simp
theorem num_leb (pre post : List Int) (v : Int) (n : Nat) (h1 : 1 ≤ n) (h8 : n ≤ 8) (h0 : 0 ≤ v) (hv : v < 256 ^ n) (hm : v ≤ 4611686018427387904) : Num (pre ++ (leb v n ++ post)) (pre.length : Int) (n : Int) v := by
  unfold Num numF
  rw [little_leb pre post v n h1 h8 h0 hv, if_neg (by simp; omega)]
end Go.Proofs.Ytlbijehgoiknjaa.Z
set_option linter.unusedVariables false
set_option linter.unusedSimpArgs false
namespace Go.Proofs.Ytlbijehgoiknjaa.Z
open Go.RowKit Go.Proofs.YtlbijehgoiknjaaW.PrintWords Go.Proofs.YtlbijehgoiknjaaW.PrintLast Go.Proofs.YtlbijehgoiknjaaW.PrintMore

/-- From place a on the bytes go on so. -/
def Rest (l : List Int) (a : Int) (t : List Int) : Prop := ∃ pre, l = pre ++ t ∧ (pre.length : Int) = a
theorem Rest.num {l t : List Int} {a v : Int} {n : Nat} (h : Rest l a (leb v n ++ t)) (h1 : 1 ≤ n) (h8 : n ≤ 8) (h0 : 0 ≤ v) (hv : v < 256 ^ n) (hm : v ≤ 4611686018427387904) : Num l a (n : Int) v := by
  obtain ⟨pre, rfl, rfl⟩ := h
  exact num_leb pre t v n h1 h8 h0 hv hm
theorem Rest.next {l t : List Int} {a v : Int} {n : Nat} (h : Rest l a (leb v n ++ t)) : Rest l (a + n) t := by
  obtain ⟨pre, rfl, rfl⟩ := h
  exact ⟨pre ++ leb v n, by rw [List.append_assoc], by rw [List.length_append, leb_length]; omega⟩
theorem endBytes_eq (n s o : Int) : endBytes n s o = leb 101010256 4 ++ (leb 0 2 ++ (leb 0 2 ++ (leb n 2 ++ (leb n 2 ++ (leb s 4 ++ (leb o 4 ++ (leb 0 2 ++ []))))))) := by
  simp [endBytes, putF]
theorem endBytes_length (n s o : Int) : (endBytes n s o).length = 22 := by rw [endBytes_eq]; simp [leb_length]
theorem end_facts (front : List Int) (k size off : Int) (hk0 : 0 ≤ k) (hk1 : k ≤ 65535) (hs0 : 0 ≤ size) (hs1 : size ≤ 4294967295) (ho0 : 0 ≤ off) (ho1 : off ≤ 4294967295) :
    foundF (front ++ endBytes k size off) = front.length ∧
    numsF (front ++ endBytes k size off) ⟨(front.length : Int) + 4, false⟩ 2 4 = ([0, 0, k, k], ⟨(front.length : Int) + 4 + 8, false⟩) ∧
    numsF (front ++ endBytes k size off) ⟨(front.length : Int) + 4 + 8, false⟩ 4 2 = ([size, off], ⟨(front.length : Int) + 4 + 8 + 8, false⟩) := by
  have hlen : ((front ++ endBytes k size off).length : Int) = front.length + 22 := by rw [List.length_append, endBytes_length]; omega
  have r0 : Rest (front ++ endBytes k size off) (front.length : Int) (leb 101010256 4 ++ (leb 0 2 ++ (leb 0 2 ++ (leb k 2 ++ (leb k 2 ++ (leb size 4 ++ (leb off 4 ++ (leb 0 2 ++ [])))))))) := ⟨front, by rw [← endBytes_eq], rfl⟩
  have n0 := r0.num (by omega) (by omega) (by omega) (by decide) (by omega)
  have r1 := r0.next
  have n1 := r1.num (by omega) (by omega) (by omega) (by decide) (by omega)
  have r2 := r1.next
  have n2 := r2.num (by omega) (by omega) (by omega) (by decide) (by omega)
  have r3 := r2.next
  have n3 := r3.num (by omega) (by omega) hk0 (by omega) (by omega)
  have r4 := r3.next
  have n4 := r4.num (by omega) (by omega) hk0 (by omega) (by omega)
  have r5 := r4.next
  have n5 := r5.num (by omega) (by omega) hs0 (by omega) (by omega)
  have r6 := r5.next
  have n6 := r6.num (by omega) (by omega) ho0 (by omega) (by omega)
  have r7 := r6.next
  have n7 := r7.num (by omega) (by omega) (by omega) (by decide) (by omega)
  clear r0 r1 r2 r3 r4 r5 r6 r7
  have ha : (0 : Int) ≤ (front.length : Int) := Int.natCast_nonneg _
  generalize front ++ endBytes k size off = l at *
  generalize (front.length : Int) = a at *
  have c4 : ((4 : Nat) : Int) = 4 := rfl
  have c2 : ((2 : Nat) : Int) = 2 := rfl
  simp only [c4, c2] at n0 n1 n2 n3 n4 n5 n6 n7
  unfold Num at n0 n1 n2 n3 n4 n5 n6 n7
  have p2 : a + 4 + 2 + 2 = a + 8 := by omega
  refine ⟨?_, ?_, ?_⟩
  · unfold foundF
    rw [foundGo_succ, if_pos (by omega), hlen, show a + 22 - 22 = a by omega, if_pos]
    unfold isEnd
    rw [n0]
    rw [show a + 4 + 2 + 2 + 2 + 2 + 4 + 4 = a + 20 by omega] at n7
    simp only
    rw [n7, hlen]
    simp
    omega
  · simp only [numsF, List.nil_append, n1, n2, n3, n4]
    simp
    omega
  · rw [show a + 4 + 2 + 2 + 2 + 2 = a + 4 + 8 by omega] at n5 n6
    simp only [numsF, List.nil_append, n5, n6]
    simp
    omega
end Go.Proofs.Ytlbijehgoiknjaa.Z
set_option linter.unusedVariables false
set_option linter.unusedSimpArgs false
namespace Go.Proofs.Ytlbijehgoiknjaa.Z
open Go.RowKit Go.Proofs.YtlbijehgoiknjaaW.PrintWords Go.Proofs.YtlbijehgoiknjaaW.PrintLast Go.Proofs.YtlbijehgoiknjaaW.PrintMore

theorem putF_range {n : Nat} {vs : List Int} {x : Int} (h : x ∈ putF n vs) : 0 ≤ x ∧ x < 256 := by
  simp only [putF, List.mem_flatMap, leb, List.mem_map] at h
  obtain ⟨v, _, i, _, rfl⟩ := h
  omega
theorem ends_range (a b c d e f : Int) {x : Int} (h : x ∈ farBytes a b c ++ endBytes d e f) : 0 ≤ x ∧ x < 256 := by
  simp only [farBytes, endBytes, List.mem_append] at h
  rcases h with (((((((h | h) | h) | h) | h) | h) | h) | h) | (((h | h) | h) | h) <;> exact putF_range h
theorem leb45 : leb 2949165 4 = leb 45 2 ++ leb 45 2 := by decide
theorem farBytes_eq (n s o : Int) (t : List Int) : farBytes n s o ++ t = leb 101075792 4 ++ (leb 44 8 ++ (leb 2949165 4 ++ (leb 0 4 ++ (leb 0 4 ++ (leb n 8 ++ (leb n 8 ++ (leb s 8 ++ (leb o 8 ++ (leb 117853008 4 ++ (leb 0 4 ++ (leb (s + o) 8 ++ (leb 1 4 ++ t)))))))))))) := by
  rw [leb45]
  simp only [farBytes, putF, List.flatMap_cons, List.flatMap_nil, List.append_nil, List.append_assoc]
theorem farBytes_length (n s o : Int) : (farBytes n s o).length = 76 := by
  have := congrArg List.length (farBytes_eq n s o [])
  simpa [leb_length] using this
theorem far_facts (b t : List Int) (n s o : Int) (hn0 : 0 ≤ n) (hn1 : n ≤ 4611686018427387904) (hs0 : 0 ≤ s) (hs1 : s ≤ 1000000000) (ho0 : 0 ≤ o) (ho1 : o ≤ 1000000000) (a : Int) (ha : a = b.length) (l : List Int) (hl : l = b ++ (farBytes n s o ++ t)) :
    Num l a 4 101075792 ∧ Num l (a + 4) 8 44 ∧ Num l (a + 4 + 8) 4 2949165 ∧ Num l (a + 4 + 8 + 4) 4 0 ∧ Num l (a + 4 + 8 + 4 + 4) 4 0 ∧ Num l (a + 4 + 8 + 4 + 4 + 4) 8 n ∧
    numsF l ⟨a + 4 + 8 + 4 + 4 + 4 + 8, false⟩ 8 3 = ([n, s, o], ⟨a + 4 + 8 + 4 + 4 + 4 + 8 + 24, false⟩) ∧
    Num l (a + 56) 4 117853008 ∧ Num l (a + 56 + 4) 4 0 ∧ Num l (a + 56 + 4 + 4) 8 (s + o) ∧ Num l (a + 56 + 4 + 4 + 8) 4 1 := by
  have r0 : Rest l a (leb 101075792 4 ++ (leb 44 8 ++ (leb 2949165 4 ++ (leb 0 4 ++ (leb 0 4 ++ (leb n 8 ++ (leb n 8 ++ (leb s 8 ++ (leb o 8 ++ (leb 117853008 4 ++ (leb 0 4 ++ (leb (s + o) 8 ++ (leb 1 4 ++ t))))))))))))) := ⟨b, by rw [hl, farBytes_eq], ha.symm⟩
  have n0 := r0.num (by omega) (by omega) (by omega) (by decide) (by omega)
  have r1 := r0.next
  have n1 := r1.num (by omega) (by omega) (by omega) (by decide) (by omega)
  have r2 := r1.next
  have n2 := r2.num (by omega) (by omega) (by omega) (by decide) (by omega)
  have r3 := r2.next
  have n3 := r3.num (by omega) (by omega) (by omega) (by decide) (by omega)
  have r4 := r3.next
  have n4 := r4.num (by omega) (by omega) (by omega) (by decide) (by omega)
  have r5 := r4.next
  have n5 := r5.num (by omega) (by omega) hn0 (by omega) (by omega)
  have r6 := r5.next
  have n6 := r6.num (by omega) (by omega) hn0 (by omega) (by omega)
  have r7 := r6.next
  have n7 := r7.num (by omega) (by omega) hs0 (by omega) (by omega)
  have r8 := r7.next
  have n8 := r8.num (by omega) (by omega) ho0 (by omega) (by omega)
  have r9 := r8.next
  have n9 := r9.num (by omega) (by omega) (by omega) (by decide) (by omega)
  have r10 := r9.next
  have n10 := r10.num (by omega) (by omega) (by omega) (by decide) (by omega)
  have r11 := r10.next
  have n11 := r11.num (by omega) (by omega) (by omega) (by omega) (by omega)
  have r12 := r11.next
  have n12 := r12.num (by omega) (by omega) (by omega) (by decide) (by omega)
  clear r0 r1 r2 r3 r4 r5 r6 r7 r8 r9 r10 r11 r12 hl ha
  have c4 : ((4 : Nat) : Int) = 4 := rfl
  have c8 : ((8 : Nat) : Int) = 8 := rfl
  simp only [c4, c8] at n0 n1 n2 n3 n4 n5 n6 n7 n8 n9 n10 n11 n12
  have e : a + 4 + 8 + 4 + 4 + 4 + 8 + 8 + 8 + 8 = a + 56 := by omega
  rw [e] at n9 n10 n11 n12
  refine ⟨n0, n1, n2, n3, n4, n5, ?_, n9, n10, n11, n12⟩
  unfold Num at n6 n7 n8
  simp only [numsF, List.nil_append, n6, n7, n8]
  simp
  omega
end Go.Proofs.Ytlbijehgoiknjaa.Z
