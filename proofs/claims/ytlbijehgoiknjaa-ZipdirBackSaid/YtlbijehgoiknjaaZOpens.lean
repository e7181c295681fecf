/- A member that comes in as an argument: its cells, and its row of fields. -/
import Derived.Test.YtlbijehgoiknjaaZTold
import Derived.Deep.SlicePairs
import Derived.Deep.Fields
import Derived.OpenShut
set_option linter.unusedVariables false
set_option linter.unusedSimpArgs false
namespace Go.Proofs.Ytlbijehgoiknjaa.Z
open Go.RowKit Go.Proofs.YtlbijehgoiknjaaW.PrintWords Go.Proofs.YtlbijehgoiknjaaW.PrintLast Go.Proofs.YtlbijehgoiknjaaW.PrintMore Go.Proofs.Ytlbijehgoiknjaa.PZipdirHeaders Go.ChangeShapes Go.WideShapes Go.Deep

section
variable {H : Type} {enc : TypeId × Value → H} {w : World} {base : Nat} {spare : Nat → Bool} {held : Bool}
instance : Inhabited S80 := ⟨z80⟩
theorem open_fields {fuel : Nat} {cs : List Value} {x : DataW H × List MemPlace} (h : DataW.trod enc Try.prog w base spare held fuel 34 cs = some x) :
    ∃ (A : Option Addr) (c : Nat) (ex : List S80), cs = [.slice A ex.length c] ∧ ex.length ≤ c ∧ Kd.C k80 w A ex.length ex := by
  rcases open_slice_pairs Try.underlying34 Try.underlying80 (by kernel_rfl) rfl rfl (by kernel_rfl) (by kernel_rfl) h with ⟨rfl, -⟩ | ⟨a, len, cap, m, n, V0, V1, D0, D1, P0, P1, rfl, -, hl, hm, hmm, -, hi⟩
  · exact ⟨none, 0, [], rfl, Nat.le_refl _, C_nil k80 w⟩
  · have hlm : len ≤ m := by rw [hmm]; split <;> omega
    have each : ∀ i, i < len → ∃ s : S80, w.cell? (a.add (i * 2)) = some (.int .i64 s.f0) ∧ w.cell? (a.add (i * 2 + 1)) = some (.string s.f1) := by
      intro i hi'
      obtain ⟨h0, h1, t0, t1⟩ := hi i (by omega)
      obtain ⟨n0, e0, -, -⟩ := DataW.trod_int Try.underlying3 t0
      obtain ⟨s1, e1, -, -⟩ := DataW.trod_string Try.underlying9 t1
      simp only [List.cons.injEq, and_true] at e0 e1
      rw [e0] at h0
      rw [e1] at h1
      exact ⟨⟨n0, s1⟩, h0, h1⟩
    obtain ⟨f, hf⟩ := choose_lt each
    have hlen : ((List.range len).map f).length = len := by simp
    refine ⟨some a, cap, (List.range len).map f, by rw [hlen], by rw [hlen]; exact hl, rfl, by rw [hlen]; exact Nat.le_trans hl hm, fun _ => ⟨a, rfl, fun j p hj => ?_⟩⟩
    have hjl : j < len := by
      have := (List.getElem?_eq_some_iff.1 hj).1
      rw [hlen] at this
      exact this
    have hp : p = f j := by
      rw [List.getElem?_map, List.getElem?_range hjl] at hj
      simpa using hj.symm
    subst hp
    obtain ⟨h0, h1⟩ := hf j hjl
    refine ⟨[.int .i64 (f j).f0, .string (f j).f1], rfl, k80_mk w (f j), fun i u hu => ?_⟩
    rcases i with _ | _ | i
    · obtain rfl : Value.int .i64 (f j).f0 = u := by simpa using hu
      exact h0
    · obtain rfl : Value.string (f j).f1 = u := by simpa using hu
      exact h1
    · simp at hu

set_option maxRecDepth 100000 in
theorem open_member {r : Reach} {b0 : Nat} {v : Value} {d : DataW H} {p : List MemPlace} (hv : Value.okWide Try.prog w r b0 36 v) (h : DataW.Trod enc Try.prog w base spare held 36 v d p) :
    ∃ (made need flags method date sum packed size : Int) (name : ByteArray) (A : Option Addr) (c : Nat) (ex : List S80) (comment : ByteArray) (attr offset : Int), v = .agg (memCells made need flags method date sum packed size name (.slice A ex.length c) comment attr offset) ∧
      ex.length ≤ c ∧ Kd.C k80 w A ex.length ex ∧ (Lit.int .u32 sum).wf = true ∧ (Lit.int .u32 attr).wf = true := by
  obtain ⟨cs, rfl, hsz⟩ := okWide_struct Try.underlying36 hv
  obtain ⟨l⟩ := cs
  have hC : Try.prog.cellsOf 36 = 13 := by kernel_rfl
  match l, hsz.trans hC with
  | [u0, u1, u2, u3, u4, u5, u6, u7, u8, u9, u10, u11, u12], _ =>
    obtain ⟨fuel, hf⟩ := h
    obtain ⟨xs, n, _, hx, _, hlen, hg⟩ := DataW.trod_struct Try.underlying36 hf
    match xs, hlen with
    | [y0, y1, y2, y3, y4, y5, y6, y7, y8, y9, y10, y11, y12], _ =>
      have ci : Try.prog.cellsOf 3 = 1 := by kernel_rfl
      have cu : Try.prog.cellsOf 33 = 1 := by kernel_rfl
      have cst : Try.prog.cellsOf 9 = 1 := by kernel_rfl
      have cf : Try.prog.cellsOf 34 = 1 := by kernel_rfl
      have g0 := hg 0 _ rfl
      have g1 := hg 1 _ rfl
      have g2 := hg 2 _ rfl
      have g3 := hg 3 _ rfl
      have g4 := hg 4 _ rfl
      have g5 := hg 5 _ rfl
      have g6 := hg 6 _ rfl
      have g7 := hg 7 _ rfl
      have g8 := hg 8 _ rfl
      have g9 := hg 9 _ rfl
      have g10 := hg 10 _ rfl
      have g11 := hg 11 _ rfl
      have g12 := hg 12 _ rfl
      simp only [Value.cells, List.getElem_toArray, List.getElem_cons_zero, List.getElem_cons_succ, ci, cu, cst, cf, List.drop_zero, List.drop_succ_cons, List.take_succ_cons, List.take_zero, List.getElem?_cons_zero, List.getElem?_cons_succ] at g0 g1 g2 g3 g4 g5 g6 g7 g8 g9 g10 g11 g12
      obtain ⟨x0, e0, -, -⟩ := DataW.trod_int Try.underlying3 g0
      obtain ⟨x1, e1, -, -⟩ := DataW.trod_int Try.underlying3 g1
      obtain ⟨x2, e2, -, -⟩ := DataW.trod_int Try.underlying3 g2
      obtain ⟨x3, e3, -, -⟩ := DataW.trod_int Try.underlying3 g3
      obtain ⟨x4, e4, -, -⟩ := DataW.trod_int Try.underlying3 g4
      obtain ⟨x5, e5, -, w5⟩ := DataW.trod_int Try.underlying33 g5
      obtain ⟨x6, e6, -, -⟩ := DataW.trod_int Try.underlying3 g6
      obtain ⟨x7, e7, -, -⟩ := DataW.trod_int Try.underlying3 g7
      obtain ⟨s8, e8, -, -⟩ := DataW.trod_string Try.underlying9 g8
      obtain ⟨A9, c9, ex, e9, hec, hE⟩ := open_fields g9
      obtain ⟨s10, e10, -, -⟩ := DataW.trod_string Try.underlying9 g10
      obtain ⟨x11, e11, -, w11⟩ := DataW.trod_int Try.underlying33 g11
      obtain ⟨x12, e12, -, -⟩ := DataW.trod_int Try.underlying3 g12
      simp only [List.cons.injEq, and_true] at e0 e1 e2 e3 e4 e5 e6 e7 e8 e9 e10 e11 e12
      exact ⟨x0, x1, x2, x3, x4, x5, x6, x7, s8, A9, c9, ex, s10, x11, x12, by rw [e0, e1, e2, e3, e4, e5, e6, e7, e8, e9, e10, e11, e12]; rfl, hec, hE, w5, w11⟩
end
end Go.Proofs.Ytlbijehgoiknjaa.Z
