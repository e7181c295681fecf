/- Plain: the end that was put behind bytes is found there, and its numbers are read. -/
import Derived.Test.YtlbijehgoiknjaaZNumLaw
import Derived.Test.YtlbijehgoiknjaaZPutEnd
import Derived.Test.YtlbijehgoiknjaaZFound
set_option linter.unusedVariables false
set_option linter.unusedSimpArgs false
namespace Go.Proofs.Ytlbijehgoiknjaa.Z
open Go.RowKit Go.Proofs.YtlbijehgoiknjaaW.PrintWords Go.Proofs.YtlbijehgoiknjaaW.PrintLast Go.Proofs.YtlbijehgoiknjaaW.PrintMore

/-- From place a on the bytes go on so. -/
def Rest (l : List Int) (a : Int) (t : List Int) : Prop := ∃ pre, l = pre ++ t ∧ (pre.length : Int) = a
theorem Rest.num {l t : List Int} {a v : Int} {n : Nat} (h : Rest l a (leb v n ++ t)) (h1 : 1 ≤ n) (h8 : n ≤ 8) (h0 : 0 ≤ v) (hv : v < 256 ^ n) (hm : v ≤ 4611686018427387904) : Num l a (n : Int) v := by
  obtain ⟨pre, rfl, rfl⟩ := h
  exact num_leb pre t v n h1 h8 h0 hv hm
theorem Rest.next {l t : List Int} {a v : Int} {n : Nat} (h : Rest l a (leb v n ++ t)) : Rest l (a + n) t := by
  obtain ⟨pre, rfl, rfl⟩ := h
  exact ⟨pre ++ leb v n, by rw [List.append_assoc], by rw [List.length_append, leb_length]; omega⟩
theorem endBytes_eq (n s o : Int) : endBytes n s o = leb 101010256 4 ++ (leb 0 2 ++ (leb 0 2 ++ (leb n 2 ++ (leb n 2 ++ (leb s 4 ++ (leb o 4 ++ (leb 0 2 ++ []))))))) := by
  simp [endBytes, putF]
theorem endBytes_length (n s o : Int) : (endBytes n s o).length = 22 := by rw [endBytes_eq]; simp [leb_length]
theorem end_facts (front : List Int) (k size off : Int) (hk0 : 0 ≤ k) (hk1 : k ≤ 65535) (hs0 : 0 ≤ size) (hs1 : size ≤ 4294967295) (ho0 : 0 ≤ off) (ho1 : off ≤ 4294967295) :
    foundF (front ++ endBytes k size off) = front.length ∧
    numsF (front ++ endBytes k size off) ⟨(front.length : Int) + 4, false⟩ 2 4 = ([0, 0, k, k], ⟨(front.length : Int) + 4 + 8, false⟩) ∧
    numsF (front ++ endBytes k size off) ⟨(front.length : Int) + 4 + 8, false⟩ 4 2 = ([size, off], ⟨(front.length : Int) + 4 + 8 + 8, false⟩) := by
  have hlen : ((front ++ endBytes k size off).length : Int) = front.length + 22 := by rw [List.length_append, endBytes_length]; omega
  have r0 : Rest (front ++ endBytes k size off) (front.length : Int) (leb 101010256 4 ++ (leb 0 2 ++ (leb 0 2 ++ (leb k 2 ++ (leb k 2 ++ (leb size 4 ++ (leb off 4 ++ (leb 0 2 ++ [])))))))) := ⟨front, by rw [← endBytes_eq], rfl⟩
  have n0 := r0.num (by omega) (by omega) (by omega) (by decide) (by omega)
  have r1 := r0.next
  have n1 := r1.num (by omega) (by omega) (by omega) (by decide) (by omega)
  have r2 := r1.next
  have n2 := r2.num (by omega) (by omega) (by omega) (by decide) (by omega)
  have r3 := r2.next
  have n3 := r3.num (by omega) (by omega) hk0 (by omega) (by omega)
  have r4 := r3.next
  have n4 := r4.num (by omega) (by omega) hk0 (by omega) (by omega)
  have r5 := r4.next
  have n5 := r5.num (by omega) (by omega) hs0 (by omega) (by omega)
  have r6 := r5.next
  have n6 := r6.num (by omega) (by omega) ho0 (by omega) (by omega)
  have r7 := r6.next
  have n7 := r7.num (by omega) (by omega) (by omega) (by decide) (by omega)
  clear r0 r1 r2 r3 r4 r5 r6 r7
  have ha : (0 : Int) ≤ (front.length : Int) := Int.natCast_nonneg _
  generalize front ++ endBytes k size off = l at *
  generalize (front.length : Int) = a at *
  have c4 : ((4 : Nat) : Int) = 4 := rfl
  have c2 : ((2 : Nat) : Int) = 2 := rfl
  simp only [c4, c2] at n0 n1 n2 n3 n4 n5 n6 n7
  unfold Num at n0 n1 n2 n3 n4 n5 n6 n7
  have p2 : a + 4 + 2 + 2 = a + 8 := by omega
  refine ⟨?_, ?_, ?_⟩
  · unfold foundF
    rw [foundGo_succ, if_pos (by omega), hlen, show a + 22 - 22 = a by omega, if_pos]
    unfold isEnd
    rw [n0]
    rw [show a + 4 + 2 + 2 + 2 + 2 + 4 + 4 = a + 20 by omega] at n7
    simp only
    rw [n7, hlen]
    simp
    omega
  · simp only [numsF, List.nil_append, n1, n2, n3, n4]
    simp
    omega
  · rw [show a + 4 + 2 + 2 + 2 + 2 = a + 4 + 8 by omega] at n5 n6
    simp only [numsF, List.nil_append, n5, n6]
    simp
    omega
end Go.Proofs.Ytlbijehgoiknjaa.Z
