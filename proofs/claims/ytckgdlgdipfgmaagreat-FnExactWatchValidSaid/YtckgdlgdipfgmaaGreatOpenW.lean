/- An argument of type Watch of an exact law opened. -/
import Derived.Test.YtckgdlgdipfgmaaGreatOpenM
import Derived.Test.YtckgdlgdipfgmaaGreatExWatch
namespace Go.Proofs.YtckgdlgdipfgmaaGreat
set_option linter.unusedVariables false
set_option linter.unusedSimpArgs false
open Go.RowKit Go.ChangeShapes Go.WideShapes Go.ChangeAt Go.Deep Go.Joins

section
variable {H : Type} {en : TypeId × Value → H} {w : World} {base : Nat} {spare : Nat → Bool} {held : Bool}
set_option maxRecDepth 100000 in
theorem dec_machine {n : Nat} {c0 c1 c2 c3 c4 c5 c6 : Value} {x : DataW H × List MemPlace} (h : DataW.trod en Tryz.prog w base spare held n 31 [c0, c1, c2, c3, c4, c5, c6] = some x) : ∃ m : MacR, macV m = .agg #[c0, c1, c2, c3, c4, c5, c6] ∧ okM w m := by
  obtain ⟨xs, n, _, _, _, hlen, hfi⟩ := DataW.trod_struct Tryz.underlying31 h
  match xs, hlen with
  | [y0, y1, y2, y3, y4], _ =>
    have k0 : Tryz.prog.cellsOf 26 = 3 := by kernel_rfl
    have k1 : Tryz.prog.cellsOf 27 = 1 := by kernel_rfl
    have k2 : Tryz.prog.cellsOf 28 = 1 := by kernel_rfl
    have k3 : Tryz.prog.cellsOf 29 = 1 := by kernel_rfl
    have k4 : Tryz.prog.cellsOf 3 = 1 := by kernel_rfl
    obtain ⟨s0, e0, h0⟩ := dec_setup (c0 := c0) (c1 := c1) (c2 := c2) (by simpa [k0] using hfi 0 _ rfl)
    obtain ⟨s1, e1, h1⟩ := dec_progs (cs := [c3]) (by simpa [k1] using hfi 1 _ rfl)
    obtain ⟨s2, e2, h2⟩ := dec_cores (cs := [c4]) (by simpa [k2] using hfi 2 _ rfl)
    obtain ⟨s3, e3, h3⟩ := dec_holds (cs := [c5]) (by simpa [k3] using hfi 3 _ rfl)
    obtain ⟨a4, e4, _⟩ := DataW.trod_int (cs := [c6]) Tryz.underlying3 (by simpa [k4] using hfi 4 _ rfl)
    simp only [List.cons.injEq, and_true] at e1 e2 e3 e4
    obtain ⟨p0, p1, p2⟩ := s0
    simp only [setV, Value.agg.injEq, Array.mk.injEq, List.cons.injEq, and_true] at e0
    obtain ⟨rfl, rfl, rfl⟩ := e0
    subst e1 e2 e3 e4
    exact ⟨((p0, p1, p2), s1, s2, s3, a4), rfl, h0, h1, h2, h3⟩
theorem dec_bi {P : Program} {e n : Nat} {f0 f1 : Field} {cs : List Value} {x : DataW H × List MemPlace} (hs : P.underlying e = some (.struct #[f0, f1])) (hone : oneCellFields P #[f0, f1] = true) (hl : cs.length = 2)
    (h0 : P.underlying f0.type = some .bool) (h1 : P.underlying f1.type = some (.int .i64)) (h : DataW.trod en P w base spare held n e cs = some x) : ∃ y : Bool × Int, eH y = cs := by
  obtain ⟨y0, y1, m, _, _, g0, g1⟩ := trod_struct2 hs h
  obtain ⟨o0, k0⟩ := hone_of hone 0 f0 rfl
  obtain ⟨o1, k1⟩ := hone_of hone 1 f1 rfl
  match cs, hl with
  | [c0, c1], _ =>
    obtain ⟨a0, e0, _⟩ := DataW.trod_bool h0 (by simpa [o0, k0] using g0)
    obtain ⟨a1, e1, _⟩ := DataW.trod_int h1 (by simpa [o1, k1] using g1)
    simp at e0 e1
    subst e0 e1
    exact ⟨(a0, a1), rfl⟩
theorem dec_healths {n : Nat} {cs : List Value} {x : DataW H × List MemPlace} (h : DataW.trod en Tryz.prog w base spare held n 53 cs = some x) : ∃ y : SV (Bool × Int), [y.v] = cs ∧ okF 2 eH w y :=
  dec_s (α := Bool × Int) (enc := eH) (k := 2) Tryz.underlying53 (by kernel_rfl) (by decide) (fun _ => rfl) (fun n cs x hl h => dec_bi Tryz.underlying149 (by kernel_rfl) hl Tryz.underlying4 Tryz.underlying3 h) h
set_option maxRecDepth 100000 in
theorem open_watch {r : Reach} {b0 : Nat} {v : Value} {d : DataW H} {p : List MemPlace} (hv : Value.okWide Tryz.prog w r b0 55 v) (h : DataW.Trod en Tryz.prog w base spare held 55 v d p) : ∃ m : WatR, v = watV m ∧ okW w m := by
  obtain ⟨cs, rfl, hsz⟩ := okWide_struct Tryz.underlying55 hv
  have k9 : Tryz.prog.cellsOf 55 = 8 := by kernel_rfl
  replace hsz := hsz.trans k9
  clear k9
  obtain ⟨l⟩ := cs
  obtain ⟨fuel, hf⟩ := h
  match l, hsz with
  | [c0, c1, c2, c3, c4, c5, c6, c7], _ =>
    simp only [Value.cells] at hf
    obtain ⟨y0, y1, m, _, _, g0, g1⟩ := trod_struct2 Tryz.underlying55 hf
    have k0 : Tryz.prog.cellsOf 31 = 7 := by kernel_rfl
    have k1 : Tryz.prog.cellsOf 53 = 1 := by kernel_rfl
    obtain ⟨s0, e0, h0⟩ := dec_machine (c0 := c0) (c1 := c1) (c2 := c2) (c3 := c3) (c4 := c4) (c5 := c5) (c6 := c6) (by simpa [k0] using g0)
    obtain ⟨s1, e1, h1⟩ := dec_healths (cs := [c7]) (by simpa [k1] using g1)
    obtain ⟨⟨p0, p1, p2⟩, q1, q2, q3, tk⟩ := s0
    simp only [macV, Value.agg.injEq, Array.mk.injEq, List.cons.injEq, and_true] at e0
    obtain ⟨rfl, rfl, rfl, rfl, rfl, rfl, rfl⟩ := e0
    simp only [List.cons.injEq, and_true] at e1
    subst e1
    exact ⟨(((p0, p1, p2), q1, q2, q3, tk), s1), rfl, h0, h1⟩
end
end Go.Proofs.YtckgdlgdipfgmaaGreat
