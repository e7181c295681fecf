/- Plain: the far end's numbers, where the number of entries is great. -/
import Derived.Test.YtlbijehgoiknjaaZEndLaw
set_option linter.unusedVariables false
set_option linter.unusedSimpArgs false
namespace Go.Proofs.Ytlbijehgoiknjaa.Z
open Go.RowKit Go.Proofs.YtlbijehgoiknjaaW.PrintWords Go.Proofs.YtlbijehgoiknjaaW.PrintLast Go.Proofs.YtlbijehgoiknjaaW.PrintMore

theorem putF_range {n : Nat} {vs : List Int} {x : Int} (h : x ∈ putF n vs) : 0 ≤ x ∧ x < 256 := by
  simp only [putF, List.mem_flatMap, leb, List.mem_map] at h
  obtain ⟨v, _, i, _, rfl⟩ := h
  omega
theorem ends_range (a b c d e f : Int) {x : Int} (h : x ∈ farBytes a b c ++ endBytes d e f) : 0 ≤ x ∧ x < 256 := by
  simp only [farBytes, endBytes, List.mem_append] at h
  rcases h with (((((((h | h) | h) | h) | h) | h) | h) | h) | (((h | h) | h) | h) <;> exact putF_range h
theorem leb45 : leb 2949165 4 = leb 45 2 ++ leb 45 2 := by decide
theorem farBytes_eq (n s o : Int) (t : List Int) : farBytes n s o ++ t = leb 101075792 4 ++ (leb 44 8 ++ (leb 2949165 4 ++ (leb 0 4 ++ (leb 0 4 ++ (leb n 8 ++ (leb n 8 ++ (leb s 8 ++ (leb o 8 ++ (leb 117853008 4 ++ (leb 0 4 ++ (leb (s + o) 8 ++ (leb 1 4 ++ t)))))))))))) := by
  rw [leb45]
  simp only [farBytes, putF, List.flatMap_cons, List.flatMap_nil, List.append_nil, List.append_assoc]
theorem farBytes_length (n s o : Int) : (farBytes n s o).length = 76 := by
  have := congrArg List.length (farBytes_eq n s o [])
  simpa [leb_length] using this
theorem far_facts (b t : List Int) (n s o : Int) (hn0 : 0 ≤ n) (hn1 : n ≤ 4611686018427387904) (hs0 : 0 ≤ s) (hs1 : s ≤ 1000000000) (ho0 : 0 ≤ o) (ho1 : o ≤ 1000000000) (a : Int) (ha : a = b.length) (l : List Int) (hl : l = b ++ (farBytes n s o ++ t)) :
    Num l a 4 101075792 ∧ Num l (a + 4) 8 44 ∧ Num l (a + 4 + 8) 4 2949165 ∧ Num l (a + 4 + 8 + 4) 4 0 ∧ Num l (a + 4 + 8 + 4 + 4) 4 0 ∧ Num l (a + 4 + 8 + 4 + 4 + 4) 8 n ∧
    numsF l ⟨a + 4 + 8 + 4 + 4 + 4 + 8, false⟩ 8 3 = ([n, s, o], ⟨a + 4 + 8 + 4 + 4 + 4 + 8 + 24, false⟩) ∧
    Num l (a + 56) 4 117853008 ∧ Num l (a + 56 + 4) 4 0 ∧ Num l (a + 56 + 4 + 4) 8 (s + o) ∧ Num l (a + 56 + 4 + 4 + 8) 4 1 := by
  have r0 : Rest l a (leb 101075792 4 ++ (leb 44 8 ++ (leb 2949165 4 ++ (leb 0 4 ++ (leb 0 4 ++ (leb n 8 ++ (leb n 8 ++ (leb s 8 ++ (leb o 8 ++ (leb 117853008 4 ++ (leb 0 4 ++ (leb (s + o) 8 ++ (leb 1 4 ++ t))))))))))))) := ⟨b, by rw [hl, farBytes_eq], ha.symm⟩
  have n0 := r0.num (by omega) (by omega) (by omega) (by decide) (by omega)
  have r1 := r0.next
  have n1 := r1.num (by omega) (by omega) (by omega) (by decide) (by omega)
  have r2 := r1.next
  have n2 := r2.num (by omega) (by omega) (by omega) (by decide) (by omega)
  have r3 := r2.next
  have n3 := r3.num (by omega) (by omega) (by omega) (by decide) (by omega)
  have r4 := r3.next
  have n4 := r4.num (by omega) (by omega) (by omega) (by decide) (by omega)
  have r5 := r4.next
  have n5 := r5.num (by omega) (by omega) hn0 (by omega) (by omega)
  have r6 := r5.next
  have n6 := r6.num (by omega) (by omega) hn0 (by omega) (by omega)
  have r7 := r6.next
  have n7 := r7.num (by omega) (by omega) hs0 (by omega) (by omega)
  have r8 := r7.next
  have n8 := r8.num (by omega) (by omega) ho0 (by omega) (by omega)
  have r9 := r8.next
  have n9 := r9.num (by omega) (by omega) (by omega) (by decide) (by omega)
  have r10 := r9.next
  have n10 := r10.num (by omega) (by omega) (by omega) (by decide) (by omega)
  have r11 := r10.next
  have n11 := r11.num (by omega) (by omega) (by omega) (by omega) (by omega)
  have r12 := r11.next
  have n12 := r12.num (by omega) (by omega) (by omega) (by decide) (by omega)
  clear r0 r1 r2 r3 r4 r5 r6 r7 r8 r9 r10 r11 r12 hl ha
  have c4 : ((4 : Nat) : Int) = 4 := rfl
  have c8 : ((8 : Nat) : Int) = 8 := rfl
  simp only [c4, c8] at n0 n1 n2 n3 n4 n5 n6 n7 n8 n9 n10 n11 n12
  have e : a + 4 + 8 + 4 + 4 + 4 + 8 + 8 + 8 + 8 = a + 56 := by omega
  rw [e] at n9 n10 n11 n12
  refine ⟨n0, n1, n2, n3, n4, n5, ?_, n9, n10, n11, n12⟩
  unfold Num at n6 n7 n8
  simp only [numsF, List.nil_append, n6, n7, n8]
  simp
  omega
end Go.Proofs.Ytlbijehgoiknjaa.Z
