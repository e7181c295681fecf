/- What Central and Local answer to what PutCentral and PutLocal laid; to a header that is cut; what few and SameMember answer. -/
import Derived.Test.YtlbijehgoiknjaaZCentral
import Derived.Test.YtlbijehgoiknjaaZFarLaw
import Derived.Test.YtlbijehgoiknjaaPZipdirHeadersx7
set_option linter.unusedVariables false
set_option linter.unusedSimpArgs false
namespace Go.Proofs.Ytlbijehgoiknjaa.Z
open Go.RowKit Go.Proofs.YtlbijehgoiknjaaW.PrintWords Go.Proofs.YtlbijehgoiknjaaW.PrintLast Go.Proofs.YtlbijehgoiknjaaW.PrintMore Go.Proofs.Ytlbijehgoiknjaa.PZipdirHeaders

/-! ### Texts and their bytes -/
theorem map_bytesOf (s : ByteArray) : (bytesOf s).map (fun n => UInt8.ofNat n.toNat) = s.data.toList := by
  unfold bytesOf
  rw [List.map_map]
  conv => rhs; rw [← List.map_id s.data.toList]
  refine List.map_congr_left (fun b _ => ?_)
  simp
theorem strOfNums_bytesOf (s : ByteArray) : strOfNums (bytesOf s) = s := by
  unfold strOfNums
  rw [map_bytesOf]
theorem bytesOf_strOfNums {b : List Int} (h : ∀ x ∈ b, 0 ≤ x ∧ x < 256) : bytesOf (strOfNums b) = b := by
  unfold bytesOf
  rw [strOfNums_data, List.map_map]
  conv => rhs; rw [← List.map_id b]
  refine List.map_congr_left (fun x hx => ?_)
  obtain ⟨h0, h1⟩ := h x hx
  simp only [Function.comp, id]
  rw [UInt8.toNat_ofNat']
  omega
theorem bytesOf_append (a b : ByteArray) : bytesOf (a ++ b) = bytesOf a ++ bytesOf b := by
  unfold bytesOf
  rw [ByteArray.data_append, Array.toList_append, List.map_append]
theorem extract_nums (pre mid post : List Int) : (strOfNums (pre ++ (mid ++ post))).extract pre.length (pre.length + mid.length) = strOfNums mid := by
  apply ByteArray.ext
  rw [ByteArray.data_extract]
  apply Array.toList_inj.1
  simp only [strOfNums, Array.toList_extract, List.map_append]
  rw [List.extract_eq_take_drop, List.drop_append_of_le_length (by simp), List.drop_of_length_le (by simp)]
  simp

/-! ### Fields -/
theorem Rest.enum {l t : List Int} {a v : Int} {n : Nat} (h : Rest l a (leb v n ++ t)) (h1 : 1 ≤ n) (h8 : n ≤ 8) (h0 : 0 ≤ v) (hv : v < 256 ^ n) (hm : v ≤ 4611686018427387904) : enumF l a (n : Int) = some v := by
  obtain ⟨pre, rfl, rfl⟩ := h
  unfold enumF
  rw [little_leb pre t v n h1 h8 h0 hv]
  simp [hm]
theorem fldOk_facts {n : Nat} {f : S80} (h : fldOk n f = true) : 0 ≤ f.f0 ∧ f.f0 ≤ 65535 ∧ f.f1.size ≤ 65535 ∧ (f.f1.size : Int) ≤ 65531 - n := by
  simp only [fldOk, Bool.and_eq_true, decide_eq_true_eq] at h
  omega
theorem xput_app : ∀ (l : List S80) (xs b : List Int), xput xs l = some b → ∃ t, b = xs ++ t ∧ 4 * l.length ≤ t.length
  | [], xs, b, h => by
    simp only [xput, Option.some.injEq] at h
    exact ⟨[], by simp [h], by simp⟩
  | f :: fs, xs, b, h => by
    simp only [xput] at h
    split at h
    · obtain ⟨t, e, ht⟩ := xput_app fs _ b h
      refine ⟨leb f.f0 2 ++ (leb f.f1.size 2 ++ (bytesOf f.f1 ++ t)), by rw [e]; simp [List.append_assoc], ?_⟩
      simp only [List.length_append, leb_length, List.length_cons]
      omega
    · cases h
theorem leb_range {v : Int} {n : Nat} {x : Int} (h : x ∈ leb v n) : 0 ≤ x ∧ x < 256 := by
  unfold leb at h
  obtain ⟨i, _, rfl⟩ := List.mem_map.1 h
  omega
theorem xput_range : ∀ (l : List S80) (xs b : List Int), (∀ x ∈ xs, 0 ≤ x ∧ x < 256) → xput xs l = some b → ∀ x ∈ b, 0 ≤ x ∧ x < 256
  | [], xs, b, hx, h => by
    simp only [xput, Option.some.injEq] at h
    rw [← h]; exact hx
  | f :: fs, xs, b, hx, h => by
    simp only [xput] at h
    split at h
    · refine xput_range fs _ b (fun x hm => ?_) h
      rw [List.mem_append, List.mem_append, List.mem_append] at hm
      rcases hm with ((hm | hm) | hm) | hm
      · exact hx x hm
      · exact leb_range hm
      · exact leb_range hm
      · exact bytesOf_range _ x hm
    · cases h
theorem readF_xput : ∀ (l : List S80) (xs b : List Int) (k : Nat), (∀ x ∈ xs, 0 ≤ x ∧ x < 256) → xput xs l = some b → l.length < k → readF (strOfNums b) k (xs.length : Int) = some l
  | [], xs, b, k, hx, h, hk => by
    obtain ⟨k, rfl⟩ : ∃ m, k = m + 1 := ⟨k - 1, by simp at hk; omega⟩
    simp only [xput, Option.some.injEq] at h
    rw [readF, strOfNums_size, if_neg (by rw [h]; omega)]
  | f :: fs, xs, b, k, hx, h, hk => by
    obtain ⟨k, rfl⟩ : ∃ m, k = m + 1 := ⟨k - 1, by simp at hk; omega⟩
    have hbr := xput_range _ xs b hx h
    simp only [xput] at h
    split at h
    · rename_i hok
      obtain ⟨f0, f1, f2, f3⟩ := fldOk_facts hok
      obtain ⟨t, e, -⟩ := xput_app fs _ b h
      have r0 : Rest b (xs.length : Int) (leb f.f0 2 ++ (leb f.f1.size 2 ++ (bytesOf f.f1 ++ t))) := ⟨xs, by rw [e]; simp [List.append_assoc], rfl⟩
      have n0 := r0.enum (by omega) (by omega) f0 (by omega) (by omega)
      have r1 := r0.next
      have n1 := r1.enum (by omega) (by omega) (by omega) (by omega) (by omega)
      have hl : b.length = xs.length + 4 + f.f1.size + t.length := by rw [e]; simp [leb_length, bytesOf_length]; omega
      rw [readF, strOfNums_size, if_pos (by omega), bytesOf_strOfNums hbr]
      simp only [Int.cast_ofNat_Int] at n0 n1
      rw [n0, n1]
      simp only
      rw [if_neg (by omega)]
      have ih := readF_xput fs _ b k (fun x hm => ?_) h (by simp at hk; omega)
      · rw [show (xs.length : Int) + 4 + (f.f1.size : Int) = ((xs ++ leb f.f0 2 ++ leb f.f1.size 2 ++ bytesOf f.f1).length : Int) from by simp [leb_length, bytesOf_length]; omega, ih]
        simp only [Option.map_some, Option.some.injEq, List.cons.injEq, and_true]
        have he : (strOfNums b).extract ((xs.length : Int) + 4).toNat ((xs ++ leb f.f0 2 ++ leb f.f1.size 2 ++ bytesOf f.f1).length : Int).toNat = f.f1 := by
          have hx2 := extract_nums (xs ++ leb f.f0 2 ++ leb f.f1.size 2) (bytesOf f.f1) t
          rw [strOfNums_bytesOf] at hx2
          have e1 : ((xs.length : Int) + 4).toNat = (xs ++ leb f.f0 2 ++ leb f.f1.size 2).length := by simp [leb_length]; omega
          have e2 : ((xs ++ leb f.f0 2 ++ leb f.f1.size 2 ++ bytesOf f.f1).length : Int).toNat = (xs ++ leb f.f0 2 ++ leb f.f1.size 2).length + (bytesOf f.f1).length := by rw [Int.toNat_natCast, List.length_append]
          rw [e1, e2, show b = (xs ++ leb f.f0 2 ++ leb f.f1.size 2) ++ (bytesOf f.f1 ++ t) from by rw [e]; simp [List.append_assoc]]
          exact hx2
        rw [he]
      · rw [List.mem_append, List.mem_append, List.mem_append] at hm
        rcases hm with ((hm | hm) | hm) | hm
        · exact hx x hm
        · exact leb_range hm
        · exact leb_range hm
        · exact bytesOf_range _ x hm
    · cases h
theorem readF_put {l : List S80} {b : List Int} (h : xput [] l = some b) : readF (strOfNums b) ((strOfNums b).size + 1) 0 = some l := by
  obtain ⟨t, e, ht⟩ := xput_app l [] b h
  have := readF_xput l [] b ((strOfNums b).size + 1) (fun x hx => by cases hx) h (by rw [strOfNums_size, e]; simp; omega)
  simpa using this

/-! ### Great numbers -/
theorem bigVals_put (d : ByteArray) : ∀ (l xs : List Int), (∀ v ∈ l, 0 ≤ v ∧ v ≤ 4611686018427387904) → bytesOf d = putF 8 (xs ++ greats l) →
    bigVals d (l.map fun n => decide (4294967295 ≤ n)) (8 * (xs.length : Int)) = some (l.map fun n => if 4294967295 ≤ n then n else 0)
  | [], xs, hv, hd => rfl
  | n :: l, xs, hv, hd => by
    obtain ⟨h0, h1⟩ := hv n List.mem_cons_self
    have hv' : ∀ v ∈ l, 0 ≤ v ∧ v ≤ 4611686018427387904 := fun v hm => hv v (List.mem_cons_of_mem _ hm)
    by_cases h : 4294967295 ≤ n
    · have hg : greats (n :: l) = n :: greats l := by simp [greats, h]
      rw [hg] at hd
      have hr : Rest (bytesOf d) (8 * (xs.length : Int)) (leb n 8 ++ putF 8 (greats l)) := ⟨putF 8 xs, by rw [hd]; simp [putF], by rw [putF_length]; omega⟩
      have he := hr.enum (by omega) (by omega) h0 (by omega) h1
      simp only [Int.cast_ofNat_Int] at he
      simp only [List.map_cons, h, decide_true, if_true, bigVals_true]
      rw [he]
      simp only
      have ih := bigVals_put d l (xs ++ [n]) hv' (by rw [hd]; simp)
      rw [show 8 * (xs.length : Int) + 8 = 8 * ((xs ++ [n]).length : Int) from by simp; omega, ih]
      rfl
    · have hg : greats (n :: l) = greats l := by simp [greats, h]
      rw [hg] at hd
      simp only [List.map_cons, h, decide_false, if_false, bigVals_false]
      rw [bigVals_put d l xs hv' hd]
      rfl
theorem bigF_outs (ex : List S80) (l : List Int) (hv : ∀ v ∈ l, 0 ≤ v ∧ v ≤ 4611686018427387904) : bigF (outs ex l) (l.map fun n => decide (4294967295 ≤ n)) = some (l.map fun n => if 4294967295 ≤ n then n else 0) := by
  have hc : (l.map fun n => decide (4294967295 ≤ n)).countP id = (greats l).length := by
    rw [List.countP_map, List.countP_eq_length_filter]
    rfl
  unfold bigF
  rw [hc]
  unfold outs
  by_cases hg : greats l = []
  · rw [if_pos hg, if_pos (by rw [hg]; rfl)]
    congr 1
    rw [List.length_map]
    have hall : ∀ n ∈ l, ¬ 4294967295 ≤ n := by
      intro n hn h
      have : n ∈ greats l := by simp [greats, hn, h]
      rw [hg] at this
      cases this
    symm
    rw [List.eq_replicate_iff]
    refine ⟨by simp, fun b hb => ?_⟩
    obtain ⟨n, hn, rfl⟩ := List.mem_map.1 hb
    rw [if_neg (hall n hn)]
  · have hlen : (greats l).length ≠ 0 := fun h => hg (List.length_eq_zero_iff.1 h)
    rw [if_neg hg, if_neg hlen, List.find?_cons_of_pos (by simp)]
    simp only
    rw [if_pos (by rw [strOfNums_size, putF_length]; omega)]
    have := bigVals_put (strOfNums (putF 8 (greats l))) l [] hv (by rw [bytesOf_strOfNums (fun x hx => putF_range hx)]; rfl)
    simpa using this
theorem smallF_eq (n : Int) : (smallF n == 4294967295) = decide (4294967295 ≤ n) := by
  unfold smallF
  split
  · have : n ≠ 4294967295 := by omega
    rw [decide_eq_false (by omega)]
    simpa using this
  · rw [decide_eq_true (by omega)]
    rfl
theorem pick_small (n : Int) : pick32 (smallF n) (if 4294967295 ≤ n then n else 0) = n := by
  unfold pick32 smallF
  by_cases h : n < 4294967295
  · rw [if_pos h, if_neg (by omega)]
  · rw [if_neg h, if_pos rfl, if_pos (by omega)]
theorem outs_rest {ex : List S80} {l : List Int} (h : (ex.any fun f => f.f0 == 1) = false) : (outs ex l).filter (fun f => f.f0 != 1) = ex := by
  have hex : ex.filter (fun f => f.f0 != 1) = ex := by
    rw [List.filter_eq_self]
    intro f hf
    have := List.any_eq_false.1 h f hf
    simpa using this
  unfold outs
  split
  · exact hex
  · rw [List.filter_cons_of_neg (by simp), hex]
theorem xput_less : ∀ (l : List S80) (xs ys b : List Int), ys.length ≤ xs.length → xput xs l = some b → ∃ b', xput ys l = some b'
  | [], xs, ys, b, hl, h => ⟨ys, rfl⟩
  | f :: fs, xs, ys, b, hl, h => by
    simp only [xput] at h ⊢
    split at h
    · rename_i hok
      have hok' : fldOk ys.length f = true := by
        obtain ⟨f0, f1, f2, f3⟩ := fldOk_facts hok
        simp only [fldOk, Bool.and_eq_true, decide_eq_true_eq]
        omega
      rw [if_pos hok']
      exact xput_less fs _ _ b (by simp [leb_length, bytesOf_length]; omega) h
    · cases h
theorem fields_less {ex : List S80} {a b c : Int} {m : List Int} (h : fieldsF ex [a, b, c] = some m) : ∃ m', fieldsF ex [a, b] = some m' := by
  unfold fieldsF at h ⊢
  split at h
  · cases h
  · rename_i hany
    rw [if_neg hany]
    have hg : greats [a, b, c] = greats [a, b] ++ greats [c] := by
      rw [show ([a, b, c] : List Int) = [a, b] ++ [c] from rfl]
      unfold greats
      rw [List.filter_append]
    by_cases g2 : greats [a, b] = []
    · rw [outs, if_pos g2]
      unfold outs at h
      split at h
      · exact ⟨m, h⟩
      · simp only [xput] at h
        split at h
        · exact xput_less ex _ [] m (by simp) h
        · cases h
    · rw [outs, if_neg g2]
      rw [outs, if_neg (by rw [hg]; simp [g2])] at h
      simp only [xput] at h ⊢
      split at h
      · rename_i hok
        have hl2 : (putF 8 (greats [a, b])).length ≤ (putF 8 (greats [a, b, c])).length := by rw [putF_length, putF_length, hg, List.length_append]; omega
        have hok' : fldOk ([] : List Int).length ⟨1, strOfNums (putF 8 (greats [a, b]))⟩ = true := by
          obtain ⟨f0, f1, f2, f3⟩ := fldOk_facts hok
          simp only [strOfNums_size] at f2 f3
          simp only [fldOk, Bool.and_eq_true, decide_eq_true_eq, strOfNums_size]
          omega
        rw [if_pos hok']
        refine xput_less ex _ _ m ?_ h
        simp only [List.length_append, leb_length, bytesOf_length, strOfNums_size]
        omega
      · cases h

/-! ### Numbers in a row -/
theorem numsF_cons (l : List Int) (s : RS) (n : Int) : ∀ k : Nat, numsF l s n (k + 1) = ((numF l s n).1 :: (numsF l (numF l s n).2 n k).1, (numsF l (numF l s n).2 n k).2)
  | 0 => rfl
  | k + 1 => by
    have ih := numsF_cons l s n k
    rw [numsF, ih]
    rfl
def At (l : List Int) (s : RS) (t : List Int) : Prop := s.bad = false ∧ Rest l s.at_ t
theorem At.nums {l : List Int} {n : Nat} (h1 : 1 ≤ n) (h8 : n ≤ 8) : ∀ (vs : List Int) (s : RS) (t : List Int), (∀ v ∈ vs, 0 ≤ v ∧ v < 256 ^ n ∧ v ≤ 4611686018427387904) → At l s (putF n vs ++ t) → ∃ s', numsF l s (n : Int) vs.length = (vs, s') ∧ At l s' t
  | [], s, t, hv, h => ⟨s, rfl, by simpa [putF] using h⟩
  | v :: vs, s, t, hv, h => by
    obtain ⟨v0, v1, v2⟩ := hv v List.mem_cons_self
    obtain ⟨hb, hr⟩ := h
    have hr' : Rest l s.at_ (leb v n ++ (putF n vs ++ t)) := by simpa [putF, List.append_assoc] using hr
    have hn : numF l s (n : Int) = (v, ⟨s.at_ + n, false⟩) := by
      have := hr'.num h1 h8 v0 v1 v2
      obtain ⟨at_, bad⟩ := s
      simp only at hb
      subst hb
      exact this
    obtain ⟨s', e, ha⟩ := At.nums h1 h8 vs ⟨s.at_ + n, false⟩ t (fun x hx => hv x (List.mem_cons_of_mem _ hx)) ⟨rfl, hr'.next⟩
    refine ⟨s', ?_, ha⟩
    rw [List.length_cons, numsF_cons, hn]
    simp only
    rw [e]
theorem At.text {l : List Int} {s : RS} {bs t : List Int} (h : At l s (bs ++ t)) : ∃ s', textF l s (bs.length : Int) = (bs, s') ∧ At l s' t := by
  obtain ⟨hb, pre, e, hp⟩ := h
  have hl : l.length = pre.length + (bs.length + t.length) := by rw [e]; simp
  refine ⟨⟨s.at_ + bs.length, false⟩, ?_, rfl, pre ++ bs, by rw [e, List.append_assoc], by simp; omega⟩
  unfold textF
  rw [if_neg (by rw [hb]; simp; omega)]
  congr 1
  rw [← hp, show ((pre.length : Int) + bs.length).toNat = pre.length + bs.length by omega, Int.toNat_natCast, e]
  simp [List.take_append, List.drop_append]
theorem At.pos {l : List Int} {s : RS} {t : List Int} (h : At l s t) : 0 ≤ s.at_ ∧ s.at_ ≤ l.length := by
  obtain ⟨_, pre, e, hp⟩ := h
  rw [e, List.length_append]
  omega

/-! ### What is cut -/
def CutAt (l : List Int) (a : Int) (t : List Int) : Prop := ∃ (pre : List Int) (j : Nat), l = pre ++ t.take j ∧ (pre.length : Int) = a ∧ j < t.length
def Cut (l : List Int) (s : RS) (t : List Int) : Prop := s.bad = true ∨ (s.bad = false ∧ CutAt l s.at_ t)
theorem numF_bad {l : List Int} {s : RS} {n : Int} (h : s.bad = true) : (numF l s n).2.bad = true := by
  unfold numF
  rw [if_pos (.inr (.inr h)), h]
  rfl
theorem numsF_bad {l : List Int} {n : Int} : ∀ (k : Nat) (s : RS), s.bad = true → (numsF l s n k).2.bad = true
  | 0, s, h => h
  | k + 1, s, h => by rw [numsF_cons]; exact numsF_bad k _ (numF_bad h)
theorem textF_bad {l : List Int} {s : RS} {n : Int} (h : s.bad = true) : (textF l s n).2.bad = true := by
  unfold textF
  rw [if_pos (.inl h)]
theorem Cut.num {l t : List Int} {s : RS} {v : Int} {n : Nat} (h1 : 1 ≤ n) (h8 : n ≤ 8) (h0 : 0 ≤ v) (hv : v < 256 ^ n) (hm : v ≤ 4611686018427387904) (h : Cut l s (leb v n ++ t)) :
    Cut l (numF l s n).2 t ∧ ((numF l s n).2.bad = false → (numF l s n).1 = v) := by
  rcases h with h | ⟨hb, pre, j, e, hp, hj⟩
  · exact ⟨.inl (numF_bad h), fun h' => by rw [numF_bad h] at h'; cases h'⟩
  · by_cases hjn : n ≤ j
    · have ht : (leb v n ++ t).take j = leb v n ++ t.take (j - n) := by
        rw [List.take_append, leb_length, List.take_of_length_le (by rw [leb_length]; exact hjn)]
      rw [ht] at e
      have hr : Rest l s.at_ (leb v n ++ t.take (j - n)) := ⟨pre, e, hp⟩
      have hn : numF l s (n : Int) = (v, ⟨s.at_ + n, false⟩) := by
        have := hr.num h1 h8 h0 hv hm
        obtain ⟨at_, bad⟩ := s
        simp only at hb
        subst hb
        exact this
      rw [hn]
      refine ⟨.inr ⟨rfl, pre ++ leb v n, j - n, by rw [e, List.append_assoc], by rw [List.length_append, leb_length]; show _ = s.at_ + (n : Int); omega, ?_⟩, fun _ => rfl⟩
      rw [List.length_append, leb_length] at hj
      omega
    · have hl : (l.length : Int) < s.at_ + n := by rw [e, List.length_append, List.length_take]; omega
      have hli : (littleF l s.at_ n).2 ≠ 0 := fun h0 => by have := littleF_end l s.at_ n h0; omega
      have hbad : (numF l s (n : Int)).2.bad = true := by
        unfold numF
        rw [if_pos (.inl hli)]
        simp [hli]
      exact ⟨.inl hbad, fun h' => by rw [hbad] at h'; cases h'⟩
theorem Cut.nums {l : List Int} {n : Nat} (h1 : 1 ≤ n) (h8 : n ≤ 8) : ∀ (vs : List Int) (s : RS) (t : List Int), (∀ v ∈ vs, 0 ≤ v ∧ v < 256 ^ n ∧ v ≤ 4611686018427387904) → Cut l s (putF n vs ++ t) →
    Cut l (numsF l s (n : Int) vs.length).2 t ∧ ((numsF l s (n : Int) vs.length).2.bad = false → (numsF l s (n : Int) vs.length).1 = vs)
  | [], s, t, hv, h => ⟨by simpa [putF, numsF] using h, fun _ => rfl⟩
  | v :: vs, s, t, hv, h => by
    obtain ⟨v0, v1, v2⟩ := hv v List.mem_cons_self
    have h' : Cut l s (leb v n ++ (putF n vs ++ t)) := by simpa [putF, List.append_assoc] using h
    obtain ⟨c1, c2⟩ := h'.num h1 h8 v0 v1 v2
    obtain ⟨c3, c4⟩ := Cut.nums h1 h8 vs _ t (fun x hx => hv x (List.mem_cons_of_mem _ hx)) c1
    rw [List.length_cons, numsF_cons]
    refine ⟨c3, fun hb => ?_⟩
    have hb1 : (numF l s (n : Int)).2.bad = false := by
      cases hx : (numF l s (n : Int)).2.bad with
      | false => rfl
      | true => have := numsF_bad (l := l) (n := n) vs.length _ hx; simp only at hb; rw [this] at hb; cases hb
    simp only
    rw [c2 hb1, c4 hb]
theorem Cut.text {l bs t : List Int} {s : RS} {n : Int} (h : Cut l s (bs ++ t)) (hn : s.bad = false → n = bs.length) : Cut l (textF l s n).2 t := by
  rcases h with h | ⟨hb, pre, j, e, hp, hj⟩
  · exact .inl (textF_bad h)
  · obtain rfl := hn hb
    by_cases hjn : bs.length ≤ j
    · have ht : (bs ++ t).take j = bs ++ t.take (j - bs.length) := by rw [List.take_append, List.take_of_length_le hjn]
      rw [ht] at e
      have ha : At l s (bs ++ t.take (j - bs.length)) := ⟨hb, pre, e, hp⟩
      unfold textF
      rw [if_neg (by rw [hb, e]; simp; omega)]
      refine .inr ⟨rfl, pre ++ bs, j - bs.length, by rw [e, List.append_assoc], by rw [List.length_append]; show _ = s.at_ + (bs.length : Int); omega, ?_⟩
      rw [List.length_append] at hj
      omega
    · unfold textF
      rw [if_pos (.inr (by rw [e, List.length_append, List.length_take]; omega))]
      exact .inl rfl
theorem Cut.bad {l : List Int} {s : RS} (h : Cut l s []) : s.bad = true := by
  rcases h with h | ⟨_, _, j, _, _, hj⟩
  · exact h
  · simp at hj
theorem numF_range {l : List Int} (hb : ∀ x ∈ l, 0 ≤ x ∧ x < 256) (s : RS) (n : Nat) : 0 ≤ (numF l s (n : Int)).1 ∧ (numF l s (n : Int)).1 < 256 ^ n := by
  unfold numF
  have h0 : (0 : Int) < 256 ^ n := Int.pow_pos (by decide)
  split
  · exact ⟨Int.le_refl _, h0⟩
  · refine ⟨littleF_nonneg hb _ _, ?_⟩
    show (littleF l s.at_ n).1 < 256 ^ n
    unfold littleF
    split
    · exact h0
    · split
      · exact h0
      · have := (vF_range l hb s.at_ (fun i => (n : Int) - 1 - i) n (fun j hj => by omega)).2
        rw [Int.toNat_natCast]
        exact this
theorem numsF_range {l : List Int} (hb : ∀ x ∈ l, 0 ≤ x ∧ x < 256) (n : Nat) : ∀ (k : Nat) (s : RS), ∀ x ∈ (numsF l s (n : Int) k).1, 0 ≤ x ∧ x < 256 ^ n
  | 0, s, x, hx => by cases hx
  | k + 1, s, x, hx => by
    rw [numsF_cons] at hx
    rcases List.mem_cons.1 hx with rfl | hx
    · exact numF_range hb s n
    · exact numsF_range hb n k _ x hx
theorem numF_pos {l : List Int} {s : RS} {n : Nat} (h : (numF l s (n : Int)).2.bad = false) : 0 ≤ (numF l s (n : Int)).2.at_ ∧ (numF l s (n : Int)).2.at_ ≤ l.length := by
  unfold numF at h ⊢
  split at h
  · rename_i hc
    simp only [Bool.or_eq_false_iff, decide_eq_false_iff_not] at h
    rcases hc with hc | hc | hc
    · exact absurd (.inl hc) h.2
    · exact absurd (.inr hc) h.2
    · rw [hc] at h; cases h.1
  · rename_i hc
    rw [if_neg hc]
    have h2 : (littleF l s.at_ n).2 = 0 := by
      by_cases h' : (littleF l s.at_ n).2 = 0
      · exact h'
      · exact absurd (.inl h') hc
    have := littleF_end l s.at_ n h2
    exact ⟨by show 0 ≤ s.at_ + (n : Int); omega, by show s.at_ + (n : Int) ≤ _; omega⟩
theorem numsF_pos {l : List Int} {n : Nat} (k : Nat) (s : RS) (h : (numsF l s (n : Int) (k + 1)).2.bad = false) : 0 ≤ (numsF l s (n : Int) (k + 1)).2.at_ ∧ (numsF l s (n : Int) (k + 1)).2.at_ ≤ l.length := numF_pos h
theorem textF_pos {l : List Int} {s : RS} {n : Int} (h : (textF l s n).2.bad = false) (hn : 0 ≤ n) (hs : s.bad = false → 0 ≤ s.at_ ∧ s.at_ ≤ l.length) : 0 ≤ (textF l s n).2.at_ ∧ (textF l s n).2.at_ ≤ l.length := by
  unfold textF at h ⊢
  split at h
  · cases h
  · rename_i hc
    rw [if_neg hc]
    have hb : s.bad = false := by
      cases hx : s.bad with
      | false => rfl
      | true => exact absurd (.inl hx) hc
    have := hs hb
    have h2 : ¬ (l.length : Int) - s.at_ < n := fun h' => hc (.inr h')
    exact ⟨by show 0 ≤ s.at_ + n; omega, by show s.at_ + n ≤ _; omega⟩
end Go.Proofs.Ytlbijehgoiknjaa.Z
set_option linter.unusedVariables false
set_option linter.unusedSimpArgs false
namespace Go.Proofs.Ytlbijehgoiknjaa.Z
open Go.RowKit Go.Proofs.YtlbijehgoiknjaaW.PrintWords Go.Proofs.YtlbijehgoiknjaaW.PrintLast Go.Proofs.YtlbijehgoiknjaaW.PrintMore Go.Proofs.Ytlbijehgoiknjaa.PZipdirHeaders

theorem centralF_eq (made need flags method date sum packed size : Int) (name : ByteArray) (more : List Int) (comment : ByteArray) (attr offset : Int) (post : List Int) (hmr : ∀ x ∈ more, 0 ≤ x ∧ x < 256) :
    centralF made need flags method date sum packed size name more comment attr offset ++ post = putF 4 [33639248] ++ (putF 2 [made] ++ (putF 2 [need, flags, method, date % 65536, date / 65536] ++ (putF 4 [sum, smallF packed, smallF size] ++ (putF 2 [(name.size : Int), (more.length : Int)] ++ (putF 2 [(comment.size : Int), 0, 0] ++ (putF 4 [attr, smallF offset] ++ (bytesOf name ++ (more ++ (bytesOf comment ++ post))))))))) := by
  unfold centralF commonF
  rw [bytesOf_append, bytesOf_append, bytesOf_strOfNums hmr, strOfNums_size]
  simp only [List.append_assoc]
theorem localF_eq (need flags method date sum packed size : Int) (name : ByteArray) (more : List Int) (post : List Int) (hmr : ∀ x ∈ more, 0 ≤ x ∧ x < 256) :
    localF need flags method date sum packed size name more ++ post = leb 67324752 4 ++ (putF 2 [need, flags, method, date % 65536, date / 65536] ++ (putF 4 [sum, smallF packed, smallF size] ++ (putF 2 [(name.size : Int), (more.length : Int)] ++ (bytesOf name ++ (more ++ post))))) := by
  unfold localF commonF
  rw [bytesOf_append, bytesOf_strOfNums hmr, strOfNums_size]
  simp only [List.append_assoc]
  congr 1
theorem fieldsF_xput {ex : List S80} {l more : List Int} (h : fieldsF ex l = some more) : (ex.any fun f => f.f0 == 1) = false ∧ xput [] (outs ex l) = some more := by
  unfold fieldsF at h
  split at h
  · cases h
  · rename_i hh
    exact ⟨by simpa using hh, h⟩
theorem more_range {ex : List S80} {l more : List Int} (h : fieldsF ex l = some more) : ∀ x ∈ more, 0 ≤ x ∧ x < 256 := xput_range _ [] _ (fun x hx => by cases hx) (fieldsF_xput h).2
theorem small_range {n : Int} (h0 : 0 ≤ n) : 0 ≤ smallF n ∧ smallF n < 4294967296 := by unfold smallF; split <;> omega
theorem mayB_facts {made need flags method date packed size : Int} {name comment : ByteArray} {offset : Int} (h : mayB made need flags method date packed size name comment offset = true) :
    (0 ≤ made ∧ made ≤ 65535) ∧ (0 ≤ need ∧ need ≤ 65535) ∧ (0 ≤ flags ∧ flags ≤ 65535) ∧ (0 ≤ method ∧ method ≤ 65535) ∧ name.size ≤ 65535 ∧ comment.size ≤ 65535 ∧ (0 ≤ date ∧ date ≤ 4294967295) ∧ (0 ≤ packed ∧ packed ≤ 4611686018427387904) ∧ (0 ≤ size ∧ size ≤ 4611686018427387904) ∧ (0 ≤ offset ∧ offset ≤ 4611686018427387904) := by
  simp only [mayB, withinB, List.all_cons, List.all_nil, Bool.and_true, Bool.and_eq_true, decide_eq_true_eq] at h
  omega
theorem outs_length (ex : List S80) (l : List Int) : (outs ex l).length ≤ ex.length + 1 := by unfold outs; split <;> simp
theorem outs_sizes {ex : List S80} {l : List Int} (hl : l.length ≤ 10) (h : ∀ f ∈ ex, f.f1.size ≤ 1000000) : ∀ f ∈ outs ex l, f.f1.size ≤ 1000000 := by
  intro f hf
  unfold outs at hf
  split at hf
  · exact h f hf
  · rcases List.mem_cons.1 hf with rfl | hf
    · simp only [strOfNums_size, putF_length]
      have : (greats l).length ≤ l.length := List.length_filter_le _ _
      omega
    · exact h f hf
theorem central_len (made need flags method date sum packed size : Int) (name : ByteArray) (more : List Int) (comment : ByteArray) (attr offset : Int) : (centralF made need flags method date sum packed size name more comment attr offset).length = 46 + name.size + more.length + comment.size := by
  unfold centralF commonF
  simp only [List.length_append, putF_length, bytesOf_length, ByteArray.size_append, strOfNums_size, List.length_cons, List.length_nil]
  omega
theorem local_len (need flags method date sum packed size : Int) (name : ByteArray) (more : List Int) : (localF need flags method date sum packed size name more).length = 30 + name.size + more.length := by
  unfold localF commonF
  simp only [List.length_append, putF_length, bytesOf_length, ByteArray.size_append, strOfNums_size, List.length_cons, List.length_nil]
  omega
theorem At.num {l t : List Int} {s : RS} {v : Int} {n : Nat} (h1 : 1 ≤ n) (h8 : n ≤ 8) (h0 : 0 ≤ v) (hv : v < 256 ^ n) (hm : v ≤ 4611686018427387904) (h : At l s (leb v n ++ t)) : ∃ s', numF l s (n : Int) = (v, s') ∧ At l s' t := by
  obtain ⟨s', e, ha⟩ := At.nums h1 h8 [v] s t (by intro x hx; obtain rfl := List.mem_singleton.1 hx; exact ⟨h0, hv, hm⟩) (by simpa [putF] using h)
  refine ⟨s', ?_, ha⟩
  rw [List.length_singleton, numsF_cons] at e
  have e1 := congrArg Prod.fst e
  have e2 := congrArg Prod.snd e
  simp only [numsF, List.cons.injEq, and_true] at e1 e2
  rw [← e1, ← e2]
theorem At.end_ {l pre mid post : List Int} {s : RS} (h : At l s post) (e : l = pre ++ (mid ++ post)) : s.at_ = (pre.length : Int) + mid.length := by
  obtain ⟨_, p, e2, hp⟩ := h
  have : l.length = pre.length + (mid.length + post.length) := by rw [e]; simp
  have h2 : l.length = p.length + post.length := by rw [e2]; simp
  omega

set_option maxHeartbeats 1000000 in
theorem central_back (A : Option Addr) (cc : Nat) (l pre post : List Int) (made need flags method date sum packed size : Int) (name comment : ByteArray) (ex : List S80) (attr offset : Int) (more : List Int) (w : World)
    (el : l = pre ++ (centralF made need flags method date sum packed size name more comment attr offset ++ post)) (hr : Kd.C (Kd.int .u8) w A l.length l) (hc : l.length ≤ cc) (hb : ∀ x ∈ l, 0 ≤ x ∧ x < 256) (hl : l.length ≤ 1000000)
    (hs0 : 0 ≤ sum) (hs1 : sum ≤ 4294967295) (ha0 : 0 ≤ attr) (ha1 : attr ≤ 4294967295) (hes : ex.length ≤ 1000) (hds : ∀ f ∈ ex, f.f1.size ≤ 1000000)
    (h : mayB made need flags method date packed size name comment offset = true) (hF : fieldsF ex [size, packed, offset] = some more) :
    Calls Try.prog 15 #[.slice A l.length cc, .int .i64 (pre.length : Int)] w fun e w' => Below w.heap.size w w' ∧ ∃ v, e = .returned (.tuple #[.agg (memCells made need flags method date sum packed size name v comment attr offset), .int .i64 ((pre.length : Int) + (centralF made need flags method date sum packed size name more comment attr offset).length), .int .i64 0]) ∧ Kd.R k80 80 w' w.heap.size (fun _ => True) v ex := by
  obtain ⟨⟨m0, m1⟩, ⟨n0, n1⟩, ⟨f0, f1⟩, ⟨h0, h1⟩, hn, hcm, ⟨d0, d1⟩, ⟨p0, p1⟩, ⟨z0, z1⟩, ⟨o0, o1⟩⟩ := mayB_facts h
  have hmr := more_range hF
  have hml := fields_len hF
  obtain ⟨hany, hx⟩ := fieldsF_xput hF
  have a0 : At l ⟨(pre.length : Int), false⟩ (putF 4 [33639248] ++ (putF 2 [made] ++ (putF 2 [need, flags, method, date % 65536, date / 65536] ++ (putF 4 [sum, smallF packed, smallF size] ++ (putF 2 [(name.size : Int), (more.length : Int)] ++ (putF 2 [(comment.size : Int), 0, 0] ++ (putF 4 [attr, smallF offset] ++ (bytesOf name ++ (more ++ (bytesOf comment ++ post)))))))))) := ⟨rfl, pre, by rw [el, centralF_eq _ _ _ _ _ _ _ _ _ _ _ _ _ _ hmr], rfl⟩
  have hp := small_range p0
  have hz := small_range z0
  have ho := small_range o0
  obtain ⟨s0, e0, a1⟩ := At.nums (n := 4) (by omega) (by omega) [33639248] _ _ (by simp) a0
  obtain ⟨sa, e1, a2⟩ := At.nums (n := 2) (by omega) (by omega) [made] _ _ (by simp; omega) a1
  obtain ⟨s1, e2, a3⟩ := At.nums (n := 2) (by omega) (by omega) [need, flags, method, date % 65536, date / 65536] _ _ (by simp; omega) a2
  obtain ⟨s2, e3, a4⟩ := At.nums (n := 4) (by omega) (by omega) [sum, smallF packed, smallF size] _ _ (by simp; omega) a3
  obtain ⟨s3, e4, a5⟩ := At.nums (n := 2) (by omega) (by omega) [(name.size : Int), (more.length : Int)] _ _ (by simp; omega) a4
  obtain ⟨sb, e5, a6⟩ := At.nums (n := 2) (by omega) (by omega) [(comment.size : Int), 0, 0] _ _ (by simp; omega) a5
  obtain ⟨sc, e6, a7⟩ := At.nums (n := 4) (by omega) (by omega) [attr, smallF offset] _ _ (by simp; omega) a6
  obtain ⟨s4, t1, a8⟩ := At.text a7
  obtain ⟨s5, t2, a9⟩ := At.text a8
  obtain ⟨s6, t3, a10⟩ := At.text a9
  rw [bytesOf_length] at t1 t3
  have hrd := readF_put hx
  have hbig : bigF (outs ex [size, packed, offset]) [smallF size == 4294967295, smallF packed == 4294967295, smallF offset == 4294967295] = some [if 4294967295 ≤ size then size else 0, if 4294967295 ≤ packed then packed else 0, if 4294967295 ≤ offset then offset else 0] := by
    rw [smallF_eq, smallF_eq, smallF_eq]
    exact bigF_outs ex [size, packed, offset] (by simp; omega)
  refine (central_calls A cc l (pre.length : Int) s0 sa s1 s2 s3 sb sc s4 s5 s6 33639248 made need flags method (date % 65536) (date / 65536) sum (smallF packed) (smallF size) (name.size : Int) (more.length : Int) (comment.size : Int) 0 0 attr (smallF offset) (bytesOf name) more (bytesOf comment) w hr hc hb hl e0 e1 e2 e3 e4 e5 e6 t1 t2 t3
    (fun _ => a7.pos) (fun _ => a8.pos) (fun _ => a9.pos) (by omega) (by omega) (by omega) (by omega) (by omega) (by omega) (by omega) (by omega) (by omega) (by omega) hs0 (by omega) ha0 (by omega)
    (fun _ _ _ => ⟨outs ex [size, packed, offset], _, hml, hrd, by have := outs_length ex [size, packed, offset]; omega, outs_sizes (by simp) hds, hbig, rfl⟩)).mono ?_
  rintro e w' ⟨hbw, ⟨hbad, -⟩ | ⟨-, -, -, fl, vals, v, hfl, hvals, he, hR⟩⟩
  · rw [a10.1] at hbad
    rcases hbad with hbad | hbad | hbad
    · cases hbad
    · exact absurd rfl hbad
    · omega
  · rw [hrd] at hfl
    injection hfl with hfl
    subst hfl
    rw [hbig] at hvals
    injection hvals with hvals
    subst hvals
    refine ⟨hbw, v, ?_, ?_⟩
    · rw [he, a10.end_ el]
      simp only [List.getD_cons_zero, List.getD_cons_succ, pick_small, strOfNums_bytesOf]
      rw [show date / 65536 * 65536 + date % 65536 = date by omega]
    · rw [outs_rest hany] at hR
      exact hR

set_option maxHeartbeats 1000000 in
theorem local_back (A : Option Addr) (cc : Nat) (l pre post : List Int) (made need flags method date sum packed size : Int) (name comment : ByteArray) (ex : List S80) (offset : Int) (more : List Int) (w : World)
    (el : l = pre ++ (localF need flags method date sum packed size name more ++ post)) (hr : Kd.C (Kd.int .u8) w A l.length l) (hc : l.length ≤ cc) (hb : ∀ x ∈ l, 0 ≤ x ∧ x < 256) (hl : l.length ≤ 1000000)
    (hs0 : 0 ≤ sum) (hs1 : sum ≤ 4294967295) (hes : ex.length ≤ 1000) (hds : ∀ f ∈ ex, f.f1.size ≤ 1000000)
    (h : mayB made need flags method date packed size name comment offset = true) (hF : fieldsF ex [size, packed] = some more) :
    Calls Try.prog 18 #[.slice A l.length cc, .int .i64 (pre.length : Int)] w fun e w' => Below w.heap.size w w' ∧ ∃ v, e = .returned (.tuple #[.agg (memCells 0 need flags method date sum packed size name v ⟨#[]⟩ 0 0), .int .i64 ((pre.length : Int) + (localF need flags method date sum packed size name more).length), .int .i64 0]) ∧ Kd.R k80 80 w' w.heap.size (fun _ => True) v ex := by
  obtain ⟨⟨m0, m1⟩, ⟨n0, n1⟩, ⟨f0, f1⟩, ⟨h0, h1⟩, hn, hcm, ⟨d0, d1⟩, ⟨p0, p1⟩, ⟨z0, z1⟩, ⟨o0, o1⟩⟩ := mayB_facts h
  have hmr := more_range hF
  have hml := fields_len hF
  obtain ⟨hany, hx⟩ := fieldsF_xput hF
  have a0 : At l ⟨(pre.length : Int), false⟩ (leb 67324752 4 ++ (putF 2 [need, flags, method, date % 65536, date / 65536] ++ (putF 4 [sum, smallF packed, smallF size] ++ (putF 2 [(name.size : Int), (more.length : Int)] ++ (bytesOf name ++ (more ++ post)))))) := ⟨rfl, pre, by rw [el, localF_eq _ _ _ _ _ _ _ _ _ _ hmr], rfl⟩
  have hp := small_range p0
  have hz := small_range z0
  obtain ⟨s0, e0, a1⟩ := At.num (n := 4) (by omega) (by omega) (by omega) (by decide) (by omega) a0
  obtain ⟨s1, e1, a2⟩ := At.nums (n := 2) (by omega) (by omega) [need, flags, method, date % 65536, date / 65536] _ _ (by simp; omega) a1
  obtain ⟨s2, e2, a3⟩ := At.nums (n := 4) (by omega) (by omega) [sum, smallF packed, smallF size] _ _ (by simp; omega) a2
  obtain ⟨s3, e3, a4⟩ := At.nums (n := 2) (by omega) (by omega) [(name.size : Int), (more.length : Int)] _ _ (by simp; omega) a3
  obtain ⟨s4, t1, a5⟩ := At.text a4
  obtain ⟨s5, t2, a6⟩ := At.text a5
  rw [bytesOf_length] at t1
  have hrd := readF_put hx
  have hbig : bigF (outs ex [size, packed]) [smallF size == 4294967295, smallF packed == 4294967295] = some [if 4294967295 ≤ size then size else 0, if 4294967295 ≤ packed then packed else 0] := by
    rw [smallF_eq, smallF_eq]
    exact bigF_outs ex [size, packed] (by simp; omega)
  refine (local_ok A cc l (pre.length : Int) s0 s1 s2 s3 s4 s5 need flags method (date % 65536) (date / 65536) sum (smallF packed) (smallF size) (name.size : Int) (more.length : Int) (bytesOf name) more (outs ex [size, packed]) _ w hr hc hb hl e0 e1 e2 e3 t1 t2 a6.1 a4.pos a5.pos (by omega) (by omega) (by omega) (by omega) (by omega) (by omega) (by omega) (by omega) hs0 (by omega) hml hrd (by have := outs_length ex [size, packed]; omega) (outs_sizes (by simp) hds) hbig rfl).mono ?_
  rintro e w' ⟨v, ex', he, rfl, hR, hbw⟩
  refine ⟨hbw, v, ?_, ?_⟩
  · rw [he, a6.end_ el]
    simp only [List.getD_cons_zero, List.getD_cons_succ, pick_small, strOfNums_bytesOf]
    rw [show date / 65536 * 65536 + date % 65536 = date by omega]
  · rw [outs_rest hany] at hR
    exact hR

theorem bad_of_num {l : List Int} {n : Int} {k : Nat} {s : RS} (h : (numsF l s n k).2.bad = false) : s.bad = false := by
  cases hx : s.bad with
  | false => rfl
  | true => rw [numsF_bad k s hx] at h; cases h
theorem bad_of_text {l : List Int} {n : Int} {s : RS} (h : (textF l s n).2.bad = false) : s.bad = false := by
  cases hx : s.bad with
  | false => rfl
  | true => rw [textF_bad hx] at h; cases h

set_option maxHeartbeats 1000000 in
theorem central_cut (A : Option Addr) (cc i : Nat) (l : List Int) (made need flags method date sum packed size : Int) (name comment : ByteArray) (ex : List S80) (attr offset : Int) (more : List Int) (w : World)
    (el : l = (centralF made need flags method date sum packed size name more comment attr offset).take i) (hi : i < (centralF made need flags method date sum packed size name more comment attr offset).length) (hr : Kd.C (Kd.int .u8) w A l.length l) (hc : l.length ≤ cc) (hb : ∀ x ∈ l, 0 ≤ x ∧ x < 256) (hl : l.length ≤ 1000000)
    (hs0 : 0 ≤ sum) (hs1 : sum ≤ 4294967295) (ha0 : 0 ≤ attr) (ha1 : attr ≤ 4294967295)
    (h : mayB made need flags method date packed size name comment offset = true) (hF : fieldsF ex [size, packed, offset] = some more) :
    Calls Try.prog 15 #[.slice A l.length cc, .int .i64 0] w fun e w' => Below w.heap.size w w' ∧ e = .returned (.tuple #[.agg (memCells 0 0 0 0 0 0 0 0 ⟨#[]⟩ (.slice none 0 0) ⟨#[]⟩ 0 0), .int .i64 0, .int .i64 2]) := by
  obtain ⟨⟨m0, m1⟩, ⟨n0, n1⟩, ⟨f0, f1⟩, ⟨h0, h1⟩, hn, hcm, ⟨d0, d1⟩, ⟨p0, p1⟩, ⟨z0, z1⟩, ⟨o0, o1⟩⟩ := mayB_facts h
  have hmr := more_range hF
  have hml := fields_len hF
  have hp := small_range p0
  have hz := small_range z0
  have ho := small_range o0
  have c0 : Cut l ⟨0, false⟩ (putF 4 [33639248] ++ (putF 2 [made] ++ (putF 2 [need, flags, method, date % 65536, date / 65536] ++ (putF 4 [sum, smallF packed, smallF size] ++ (putF 2 [(name.size : Int), (more.length : Int)] ++ (putF 2 [(comment.size : Int), 0, 0] ++ (putF 4 [attr, smallF offset] ++ (bytesOf name ++ (more ++ (bytesOf comment ++ [])))))))))) := by
    refine .inr ⟨rfl, [], i, ?_, rfl, ?_⟩
    · rw [← centralF_eq _ _ _ _ _ _ _ _ _ _ _ _ _ _ hmr, List.append_nil, List.nil_append]; exact el
    · rw [← centralF_eq _ _ _ _ _ _ _ _ _ _ _ _ _ _ hmr, List.append_nil]; exact hi
  obtain ⟨c1, v0⟩ := Cut.nums (n := 4) (by omega) (by omega) [33639248] _ _ (by simp) c0
  obtain ⟨c2, v1⟩ := Cut.nums (n := 2) (by omega) (by omega) [made] _ _ (by simp; omega) c1
  obtain ⟨c3, v2⟩ := Cut.nums (n := 2) (by omega) (by omega) [need, flags, method, date % 65536, date / 65536] _ _ (by simp; omega) c2
  obtain ⟨c4, v3⟩ := Cut.nums (n := 4) (by omega) (by omega) [sum, smallF packed, smallF size] _ _ (by simp; omega) c3
  obtain ⟨c5, v4⟩ := Cut.nums (n := 2) (by omega) (by omega) [(name.size : Int), (more.length : Int)] _ _ (by simp; omega) c4
  obtain ⟨c6, v5⟩ := Cut.nums (n := 2) (by omega) (by omega) [(comment.size : Int), 0, 0] _ _ (by simp; omega) c5
  obtain ⟨c7, v6⟩ := Cut.nums (n := 4) (by omega) (by omega) [attr, smallF offset] _ _ (by simp; omega) c6
  simp only [List.length_cons, List.length_nil, Nat.zero_add, Nat.reduceAdd, Int.cast_ofNat_Int] at c1 c2 c3 c4 c5 c6 c7 v0 v1 v2 v3 v4 v5 v6
  have r2 := fun (k : Nat) (s : RS) => numsF_range hb 2 k s
  have r4 := fun (k : Nat) (s : RS) => numsF_range hb 4 k s
  simp only [Int.cast_ofNat_Int] at r2 r4
  generalize e0 : numsF l ⟨0, false⟩ 4 1 = q0 at *
  obtain ⟨x0, s0⟩ := q0
  generalize e1 : numsF l s0 2 1 = q1 at *
  obtain ⟨x1, sa⟩ := q1
  generalize e2 : numsF l sa 2 5 = q2 at *
  obtain ⟨x2, s1⟩ := q2
  generalize e3 : numsF l s1 4 3 = q3 at *
  obtain ⟨x3, s2⟩ := q3
  generalize e4 : numsF l s2 2 2 = q4 at *
  obtain ⟨x4, s3⟩ := q4
  generalize e5 : numsF l s3 2 3 = q5 at *
  obtain ⟨x5, sb⟩ := q5
  generalize e6 : numsF l sb 4 2 = q6 at *
  obtain ⟨x6, sc⟩ := q6
  simp only at c1 c2 c3 c4 c5 c6 c7 v0 v1 v2 v3 v4 v5 v6
  obtain ⟨mark, rfl⟩ : ∃ a, x0 = [a] := by have h := congrArg (fun p => p.1.length) e0; simp only [numsF_length] at h; exact List.length_eq_one_iff.1 h.symm
  obtain ⟨made', rfl⟩ : ∃ a, x1 = [a] := by have h := congrArg (fun p => p.1.length) e1; simp only [numsF_length] at h; exact List.length_eq_one_iff.1 h.symm
  obtain ⟨y0, y1, y2, y3, y4, rfl⟩ : ∃ a b c d e, x2 = [a, b, c, d, e] := by
    have h := congrArg (fun p => p.1.length) e2; simp only [numsF_length] at h
    match x2, h with
    | [a, b, c, d, e], _ => exact ⟨a, b, c, d, e, rfl⟩
  obtain ⟨y5, y6, y7, rfl⟩ : ∃ a b c, x3 = [a, b, c] := by
    have h := congrArg (fun p => p.1.length) e3; simp only [numsF_length] at h
    match x3, h with
    | [a, b, c], _ => exact ⟨a, b, c, rfl⟩
  obtain ⟨nm, mo, rfl⟩ : ∃ a b, x4 = [a, b] := by
    have h := congrArg (fun p => p.1.length) e4; simp only [numsF_length] at h
    match x4, h with
    | [a, b], _ => exact ⟨a, b, rfl⟩
  obtain ⟨cm, dk, inn, rfl⟩ : ∃ a b c, x5 = [a, b, c] := by
    have h := congrArg (fun p => p.1.length) e5; simp only [numsF_length] at h
    match x5, h with
    | [a, b, c], _ => exact ⟨a, b, c, rfl⟩
  obtain ⟨at', of', rfl⟩ : ∃ a b, x6 = [a, b] := by
    have h := congrArg (fun p => p.1.length) e6; simp only [numsF_length] at h
    match x6, h with
    | [a, b], _ => exact ⟨a, b, rfl⟩
  have g2 := r2 5 sa
  have g3 := r4 3 s1
  have g4 := r2 2 s2
  have g5 := r2 3 s3
  have g6 := r4 2 sb
  rw [e2] at g2
  rw [e3] at g3
  rw [e4] at g4
  rw [e5] at g5
  rw [e6] at g6
  have hn4 := g4 nm (by simp)
  have hm4 := g4 mo (by simp)
  have hc5 := g5 cm (by simp)
  have ht2 := g2 y3 (by simp)
  have hd2 := g2 y4 (by simp)
  have hs3 := g3 y5 (by simp)
  have ha6 := g6 at' (by simp)
  have hb6 : sc.bad = false → s3.bad = false ∧ sb.bad = false := fun hx => by
    have h1 : sb.bad = false := bad_of_num (l := l) (n := 4) (k := 2) (by rw [e6]; exact hx)
    exact ⟨bad_of_num (l := l) (n := 2) (k := 3) (by rw [e5]; exact h1), h1⟩
  have k1 := Cut.text (n := nm) c7 (fun hx => by
    have := v4 (hb6 hx).1
    simp only [List.cons.injEq, and_true] at this
    rw [bytesOf_length]; exact this.1)
  have k2 := Cut.text (n := mo) k1 (fun hx => by
    have := v4 (hb6 (bad_of_text hx)).1
    simp only [List.cons.injEq, and_true] at this
    exact this.2)
  have k3 := Cut.text (n := cm) k2 (fun hx => by
    have := v5 (hb6 (bad_of_text (bad_of_text hx))).2
    simp only [List.cons.injEq, and_true] at this
    rw [bytesOf_length]; exact this.1)
  have hbad := k3.bad
  have p0 : sc.bad = false → 0 ≤ sc.at_ ∧ sc.at_ ≤ l.length := fun hx => by
    have := numsF_pos (l := l) (n := 4) 1 sb (by simp only [Int.cast_ofNat_Int, Nat.reduceAdd]; rw [e6]; exact hx)
    simp only [Int.cast_ofNat_Int, Nat.reduceAdd] at this
    rw [e6] at this
    exact this
  have p1 : (textF l sc nm).2.bad = false → 0 ≤ (textF l sc nm).2.at_ ∧ (textF l sc nm).2.at_ ≤ l.length := fun hx => textF_pos hx hn4.1 p0
  have p2 : (textF l (textF l sc nm).2 mo).2.bad = false → 0 ≤ (textF l (textF l sc nm).2 mo).2.at_ ∧ (textF l (textF l sc nm).2 mo).2.at_ ≤ l.length := fun hx => textF_pos hx hm4.1 p1
  refine (central_calls A cc l 0 s0 sa s1 s2 s3 sb sc (textF l sc nm).2 (textF l (textF l sc nm).2 mo).2 (textF l (textF l (textF l sc nm).2 mo).2 cm).2 mark made' y0 y1 y2 y3 y4 y5 y6 y7 nm mo cm dk inn at' of' (textF l sc nm).1 (textF l (textF l sc nm).2 mo).1 (textF l (textF l (textF l sc nm).2 mo).2 cm).1 w hr hc hb hl e0 e1 e2 e3 e4 e5 e6 rfl rfl rfl
    p0 p1 p2 hn4.1 (by omega) hm4.1 (by omega) hc5.1 (by omega) ht2.1 (by omega) hd2.1 (by omega) hs3.1 (by omega) ha6.1 (by omega)
    (fun hx => by rw [hbad] at hx; cases hx)).mono ?_
  rintro e w' ⟨hbw, ⟨-, he⟩ | ⟨hx, -⟩⟩
  · exact ⟨hbw, he⟩
  · rw [hbad] at hx; cases hx

/-! ### few and SameMember -/
def fewB (name comment : ByteArray) (ex : List S80) : Bool := decide (name.size ≤ 300) && (decide (comment.size ≤ 300) && ((ex.all fun f => decide (f.f1.size ≤ 300)) && decide (ex.length ≤ 10)))
theorem few_loop (ex : List S80) (hl : ex.length ≤ 9223372036854775807) (d : Nat) : ∀ (k i : Nat), i + d = ex.length → d < k → stevedorelaw27_Few.l0 k ex (i : Int) = some (((ex.drop i).all fun f => decide (f.f1.size ≤ 300)) && decide (ex.length ≤ 10)) := by
  induction d with
  | zero =>
    intro k i hi hk
    obtain ⟨k, rfl⟩ : ∃ m, k = m + 1 := ⟨k - 1, by omega⟩
    simp only [stevedorelaw27_Few.l0]
    rw [if_neg (by omega), List.drop_of_length_le (by omega)]
    simp
    omega
  | succ d ih =>
    intro k i hi hk
    obtain ⟨k, rfl⟩ : ∃ m, k = m + 1 := ⟨k - 1, by omega⟩
    have hlt : i < ex.length := by omega
    simp only [stevedorelaw27_Few.l0]
    rw [if_pos (by omega), if_pos (by omega), List.drop_eq_getElem_cons hlt, List.all_cons]
    have hrd : rd_T80 ex (i : Int) = ex[i] := by
      unfold rd_T80
      rw [Int.toNat_natCast, List.getD_eq_getElem?_getD, List.getElem?_eq_getElem hlt]
      rfl
    rw [hrd]
    by_cases h : ex[i].f1.size ≤ 300
    · rw [if_neg (by omega), show wrap64 ((i : Int) + 1) = ((i + 1 : Nat) : Int) from by unfold wrap64; omega, ih k (i + 1) (by omega) (by omega), decide_eq_true h, Bool.true_and]
    · rw [if_pos (by omega), decide_eq_false h]
      rfl
theorem few_calls (made need flags method date sum packed size : Int) (name comment : ByteArray) (Ae : Option Addr) (ce : Nat) (ex : List S80) (attr offset : Int) (w : World) (he : Kd.C k80 w Ae ex.length ex) (hec : ex.length ≤ ce) (hl : ex.length ≤ 9223372036854775807) :
    Calls Try.prog 9 #[.agg (memCells made need flags method date sum packed size name (.slice Ae ex.length ce) comment attr offset)] w fun e w' => e = .returned (.bool (fewB name comment ex)) ∧ Below w.heap.size w w' := by
  refine stevedorelaw28_few.calls (ex.length + 1) made need flags method date sum packed size name Ae ce ex comment attr offset _ w he hec ?_
  unfold stevedorelaw28_few.f stevedorelaw27_Few.f
  have := few_loop ex hl ex.length (ex.length + 1) 0 (by omega) (by omega)
  simp only [Int.natCast_zero, Int.cast_ofNat_Int, List.drop_zero] at this
  rw [this]
  unfold fewB
  by_cases h1 : name.size ≤ 300
  · rw [if_pos (by omega), decide_eq_true h1, Bool.true_and]
    by_cases h2 : comment.size ≤ 300
    · rw [if_pos (by omega), decide_eq_true h2, Bool.true_and]
      rfl
    · rw [if_neg (by omega), decide_eq_false h2]
      rfl
  · rw [if_neg (by omega), decide_eq_false h1]
    rfl
theorem same_loop (ex : List S80) (hl : ex.length ≤ 1000) (a0 a1 a2 a3 a4 a5 a6 a7 : Int) (a8 a10 : ByteArray) (a11 a12 : Int) (d : Nat) : ∀ (k i : Nat), i + d = ex.length → d < k →
    stevedoreref27_SameMember.l0 k (i : Int) a0 a1 a2 a3 a4 a5 a6 a7 a8 ex a10 a11 a12 a0 a1 a2 a3 a4 a5 a6 a7 a8 ex a10 a11 a12 = some true := by
  induction d with
  | zero =>
    intro k i hi hk
    obtain ⟨k, rfl⟩ : ∃ m, k = m + 1 := ⟨k - 1, by omega⟩
    simp only [stevedoreref27_SameMember.l0]
    rw [if_neg (by omega)]
    simp
  | succ d ih =>
    intro k i hi hk
    obtain ⟨k, rfl⟩ : ∃ m, k = m + 1 := ⟨k - 1, by omega⟩
    simp only [stevedoreref27_SameMember.l0]
    rw [if_pos (by omega), if_pos (by omega), if_pos (by omega), if_neg (by simp), show wrap64 ((i : Int) + 1) = ((i + 1 : Nat) : Int) from by unfold wrap64; omega]
    exact ih k (i + 1) (by omega) (by omega)
theorem same_calls (made need flags method date sum packed size : Int) (name comment : ByteArray) (Ae Af : Option Addr) (ce cf : Nat) (ex : List S80) (attr offset : Int) (w : World) (he : Kd.C k80 w Ae ex.length ex) (hec : ex.length ≤ ce) (hf : Kd.C k80 w Af ex.length ex) (hfc : ex.length ≤ cf) (hl : ex.length ≤ 1000) :
    Calls Try.prog 17 #[.agg (memCells made need flags method date sum packed size name (.slice Ae ex.length ce) comment attr offset), .agg (memCells made need flags method date sum packed size name (.slice Af ex.length cf) comment attr offset)] w fun e w' => e = .returned (.bool true) ∧ Below w.heap.size w w' := by
  refine stevedoreref27_SameMember.calls (ex.length + 1) made need flags method date sum packed size name Ae ce ex comment attr offset made need flags method date sum packed size name Af cf ex comment attr offset true w he hec hf hfc ?_
  unfold stevedoreref27_SameMember.f
  rw [if_pos rfl]
  exact same_loop ex hl _ _ _ _ _ _ _ _ _ _ _ _ ex.length (ex.length + 1) 0 (by omega) (by omega)
end Go.Proofs.Ytlbijehgoiknjaa.Z
