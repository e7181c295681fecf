/- A row of records, and a record, that come in as arguments; what the row's conditions give of the world. -/
import Derived.Test.YtmdfnelcgobpkaaDoorZPaxLaw1
import Derived.Test.YtmdfnelcgobpkaaDoorRows
import Derived.Deep.SlicePairs
import Derived.Deep.Fields
import Derived.OpenShut
import Derived.Shelf.Vars
import Derived.LaidSub
import Derived.Lib.LaidTab
set_option linter.unusedVariables false
set_option linter.unusedSimpArgs false
namespace Go.Proofs.YtmdfnelcgobpkaaDoor.Z
open Go.RowKit Go.Proofs.YtmdfnelcgobpkaaDoorW.PrintWords Go.Proofs.YtmdfnelcgobpkaaDoorW.PrintLast Go.Proofs.YtmdfnelcgobpkaaDoorW.PrintMore Go.Proofs.YtmdfnelcgobpkaaDoor.PPaxPuts Go.ChangeShapes Go.WideShapes Go.Deep

section
variable {H : Type} {enc : TypeId × Value → H} {w : World} {base : Nat} {spare : Nat → Bool} {held : Bool}
instance : Inhabited S32 := ⟨⟨⟨#[]⟩, ⟨#[]⟩⟩⟩
theorem open_records {fuel : Nat} {cs : List Value} {x : DataW H × List MemPlace} (h : DataW.trod enc Tryd.prog w base spare held fuel 22 cs = some x) :
    ∃ (A : Option Addr) (c : Nat) (ex : List S32), cs = [.slice A ex.length c] ∧ ex.length ≤ c ∧ Kd.C k32 w A ex.length ex := by
  rcases open_slice_pairs Tryd.underlying22 Tryd.underlying32 (by kernel_rfl) rfl rfl (by kernel_rfl) (by kernel_rfl) h with ⟨rfl, -⟩ | ⟨a, len, cap, m, n, V0, V1, D0, D1, P0, P1, rfl, -, hl, hm, hmm, -, hi⟩
  · exact ⟨none, 0, [], rfl, Nat.le_refl _, (Kd.R_reads' (Kd.R_nil k32 32 w 0 (fun _ => True))).2.2⟩
  · have hlm : len ≤ m := by rw [hmm]; split <;> omega
    have each : ∀ i, i < len → ∃ s : S32, w.cell? (a.add (i * 2)) = some (.string s.f0) ∧ w.cell? (a.add (i * 2 + 1)) = some (.string s.f1) := by
      intro i hi'
      obtain ⟨h0, h1, t0, t1⟩ := hi i (by omega)
      obtain ⟨s0, e0, -, -⟩ := DataW.trod_string Tryd.underlying9 t0
      obtain ⟨s1, e1, -, -⟩ := DataW.trod_string Tryd.underlying9 t1
      simp only [List.cons.injEq, and_true] at e0 e1
      rw [e0] at h0
      rw [e1] at h1
      exact ⟨⟨s0, s1⟩, h0, h1⟩
    obtain ⟨f, hf⟩ := choose_lt each
    have hlen : ((List.range len).map f).length = len := by simp
    refine ⟨some a, cap, (List.range len).map f, by rw [hlen], by rw [hlen]; exact hl, rfl, by rw [hlen]; exact Nat.le_trans hl hm, fun _ => ⟨a, rfl, fun j p hj => ?_⟩⟩
    have hjl : j < len := by
      have := (List.getElem?_eq_some_iff.1 hj).1
      rw [hlen] at this
      exact this
    have hp : p = f j := by
      rw [List.getElem?_map, List.getElem?_range hjl] at hj
      simpa using hj.symm
    subst hp
    obtain ⟨h0, h1⟩ := hf j hjl
    refine ⟨[.string (f j).f0, .string (f j).f1], rfl, k32_mk w (f j), fun i u hu => ?_⟩
    rcases i with _ | _ | i
    · obtain rfl : Value.string (f j).f0 = u := by simpa using hu
      exact h0
    · obtain rfl : Value.string (f j).f1 = u := by simpa using hu
      exact h1
    · simp at hu

set_option maxRecDepth 100000 in
theorem open_record {r : Reach} {b0 : Nat} {v : Value} {d : DataW H} {p : List MemPlace} (hv : Value.okWide Tryd.prog w r b0 32 v) (h : DataW.Trod enc Tryd.prog w base spare held 32 v d p) :
    ∃ s : S32, v = .agg #[.string s.f0, .string s.f1] := by
  obtain ⟨cs, rfl, hsz⟩ := okWide_struct Tryd.underlying32 hv
  obtain ⟨l⟩ := cs
  have hC : Tryd.prog.cellsOf 32 = 2 := by kernel_rfl
  match l, hsz.trans hC with
  | [u0, u1], _ =>
    obtain ⟨fuel, hf⟩ := h
    obtain ⟨xs, n, _, hx, _, hlen, hg⟩ := DataW.trod_struct Tryd.underlying32 hf
    match xs, hlen with
    | [y0, y1], _ =>
      have cst : Tryd.prog.cellsOf 9 = 1 := by kernel_rfl
      have g0 := hg 0 _ rfl
      have g1 := hg 1 _ rfl
      simp only [Value.cells, List.getElem_toArray, List.getElem_cons_zero, List.getElem_cons_succ, cst, List.drop_zero, List.drop_succ_cons, List.take_succ_cons, List.take_zero, List.getElem?_cons_zero, List.getElem?_cons_succ] at g0 g1
      obtain ⟨s0, e0, -, -⟩ := DataW.trod_string Tryd.underlying9 g0
      obtain ⟨s1, e1, -, -⟩ := DataW.trod_string Tryd.underlying9 g1
      simp only [List.cons.injEq, and_true] at e0 e1
      exact ⟨⟨s0, s1⟩, by rw [e0, e1]⟩
end
theorem gTab : Tryd.prog.globalNamed "internal/strconv.uint64pow10" = some 1 := by kernel_rfl
theorem gTabType : (Tryd.prog.globals[1]?).map (·.type) = some 83 := by kernel_rfl
theorem tab_of_laid {W : World} (h : laidMetH Tryd.prog Rows.paxMergesRow.laid W) : Lib.TabIs Tryd.prog W "internal/strconv.uint64pow10" .u64 Lib.pow10Tab := by
  have h1 := (laidMetH_iff.1 h).1.filter (fun x => x.1 == "internal/strconv.uint64pow10")
  have e : (Rows.paxMergesRow.laid.filter fun x => x.2.handleName?.isNone).filter (fun x => x.1 == "internal/strconv.uint64pow10") = [("internal/strconv.uint64pow10", Lib.tabData .u64 Lib.pow10Tab)] := by kernel_rfl
  rw [e] at h1
  exact Lib.tabIs_of_head gTab gTabType Tryd.underlying83 Tryd.underlying69 (by kernel_rfl) (by kernel_rfl) h1
theorem maxLen_cell {W : World} (h : W.ShapedOpen Tryd.prog) : ∃ m, W.cell? ⟨0, 0, none⟩ = some (.int .i64 m) :=
  Go.Proofs.cell_of_shapedOpen_int (t := 3) (zero := #[.int .i64 0]) h (of_decide_eq_true (by kernel_rfl)) (by kernel_rfl) rfl (by kernel_rfl) (by kernel_rfl) Tryd.underlying3
end Go.Proofs.YtmdfnelcgobpkaaDoor.Z
