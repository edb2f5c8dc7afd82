/- Arguments opened: slices of flat elements, as a list that the slice reads as. -/
import Derived.Test.YtckgdlgdipfgmaaGreatBase
import Derived.ProofKit
import Derived.OpenShut
import Derived.ChangeOld
import Derived.Deep.Slices
import Derived.Deep.Strs
import Derived.Lib.SmallJoins
namespace Go.Proofs.YtckgdlgdipfgmaaGreat
set_option linter.unusedVariables false
set_option linter.unusedSimpArgs false
open Go.RowKit Go.ChangeShapes Go.WideShapes Go.ChangeAt Go.Deep Go.Joins

section
variable {H : Type} {en : TypeId × Value → H} {P : Program} {w : World} {base : Nat} {spare : Nat → Bool} {held : Bool}

theorem sl_of_trod {α : Type} [Inhabited α] {t e k fuel : Nat} {enc : α → List Value} {cs : List Value} {x : DataW H × List MemPlace} (ht : P.underlying t = some (.slice e)) (hk : P.cellsOf e = k) (hk0 : 0 < k) (hlen : ∀ y, (enc y).length = k)
    (dec : ∀ n cs x, cs.length = k → DataW.trod en P w base spare held n e cs = some x → ∃ y : α, enc y = cs) (h : DataW.trod en P w base spare held fuel t cs = some x) :
    ∃ A len cap xs, cs = [.slice A len cap] ∧ Sl w k enc A len cap xs := by
  rcases open_slice ht h with ⟨rfl, _⟩ | ⟨a, len, cap, m, n, D, Pl, rfl, _, hl, hm, hmm, _, hx⟩
  · exact ⟨none, 0, 0, [], rfl, rfl, Nat.le_refl _, by omega, fun h => absurd h (by omega)⟩
  · have hlm : len ≤ m := by rw [hmm]; split <;> omega
    obtain ⟨Y, hY⟩ := choose_lt (α := α) (p := fun i y => w.cells? base (a.add (i * k)) k = some (enc y)) (n := len) (fun i hi => by
      obtain ⟨cs', h1, h2⟩ := hx i (by omega)
      rw [hk] at h1
      obtain ⟨_, hl', _⟩ := World.cells?_some h1
      obtain ⟨y, rfl⟩ := dec _ _ _ hl' h2
      exact ⟨y, h1⟩)
    refine ⟨some a, len, cap, (List.range len).map Y, rfl, by simp, hl, by simpa [maxLen] using hm, fun h0 => ?_⟩
    obtain ⟨b, o, spot⟩ := a
    have hc : ∀ i j, i < len → j < k → w.cell? ((⟨b, o, spot⟩ : Addr).add (i * k) |>.add j) = (enc (Y i))[j]? := fun i j hi hj => (World.cells?_some (hY i hi)).2.2 j hj
    have h1 := hc 0 0 h0 hk0
    have hv : ∃ u, (enc (Y 0))[0]? = some u := ⟨_, List.getElem?_eq_getElem (by rw [hlen]; exact hk0)⟩
    obtain ⟨u, hu⟩ := hv
    rw [hu] at h1
    have hspot : spot = none := by simpa [Addr.add] using World.cell?_spot h1
    subst hspot
    have hadd : ∀ i, (⟨b, o, none⟩ : Addr).add i = ⟨b, o + i, none⟩ := fun i => Addr.add_lit b o i
    refine ⟨b, o, rfl, ?_, fun j y hj i v hv => ?_⟩
    · have := World.block_lt_of_cell? w _ h1
      rw [hadd, Addr.add_lit] at this
      exact this
    · have hjl : j < len := by
        have := (List.getElem?_eq_some_iff.1 hj).1
        simpa using this
      have hyj : y = Y j := by
        rw [List.getElem?_map, List.getElem?_range hjl] at hj
        simpa using hj.symm
      subst hyj
      have hi : i < k := by
        have := (List.getElem?_eq_some_iff.1 hv).1
        rw [hlen] at this; exact this
      have := hc j i hjl hi
      rw [hadd, Addr.add_lit, hv] at this
      exact this

theorem dec_int {e n : Nat} {cs : List Value} {x : DataW H × List MemPlace} (he : P.underlying e = some (.int .i64)) (h : DataW.trod en P w base spare held n e cs = some x) : ∃ y : Int, eI y = cs := by
  obtain ⟨a, rfl, _⟩ := DataW.trod_int he h
  exact ⟨a, rfl⟩
theorem dec_ii {e n : Nat} {f0 f1 : Field} {cs : List Value} {x : DataW H × List MemPlace} (hs : P.underlying e = some (.struct #[f0, f1])) (hone : oneCellFields P #[f0, f1] = true) (hl : cs.length = 2)
    (h0 : P.underlying f0.type = some (.int .i64)) (h1 : P.underlying f1.type = some (.int .i64)) (h : DataW.trod en P w base spare held n e cs = some x) : ∃ y : Int × Int, eS y = cs := by
  obtain ⟨y0, y1, m, _, _, g0, g1⟩ := trod_struct2 hs h
  obtain ⟨o0, k0⟩ := hone_of hone 0 f0 rfl
  obtain ⟨o1, k1⟩ := hone_of hone 1 f1 rfl
  match cs, hl with
  | [c0, c1], _ =>
    obtain ⟨a0, e0, _⟩ := DataW.trod_int h0 (by simpa [o0, k0] using g0)
    obtain ⟨a1, e1, _⟩ := DataW.trod_int h1 (by simpa [o1, k1] using g1)
    simp at e0 e1
    subst e0 e1
    exact ⟨(a0, a1), rfl⟩
theorem dec_iib {e n : Nat} {f0 f1 f2 : Field} {cs : List Value} {x : DataW H × List MemPlace} (hs : P.underlying e = some (.struct #[f0, f1, f2])) (hone : oneCellFields P #[f0, f1, f2] = true) (hl : cs.length = 3)
    (h0 : P.underlying f0.type = some (.int .i64)) (h1 : P.underlying f1.type = some (.int .i64)) (h2 : P.underlying f2.type = some .bool) (h : DataW.trod en P w base spare held n e cs = some x) : ∃ (a b : Int) (c : Bool), cs = [.int .i64 a, .int .i64 b, .bool c] := by
  obtain ⟨y0, y1, y2, m, _, _, g0, g1, g2⟩ := trod_struct3 hs h
  obtain ⟨o0, k0⟩ := hone_of hone 0 f0 rfl
  obtain ⟨o1, k1⟩ := hone_of hone 1 f1 rfl
  obtain ⟨o2, k2⟩ := hone_of hone 2 f2 rfl
  match cs, hl with
  | [c0, c1, c2], _ =>
    obtain ⟨a0, e0, _⟩ := DataW.trod_int h0 (by simpa [o0, k0] using g0)
    obtain ⟨a1, e1, _⟩ := DataW.trod_int h1 (by simpa [o1, k1] using g1)
    obtain ⟨a2, e2, _⟩ := DataW.trod_bool h2 (by simpa [o2, k2] using g2)
    simp at e0 e1 e2
    subst e0 e1 e2
    exact ⟨a0, a1, a2, rfl⟩
end
section
variable {H : Type} {en : TypeId × Value → H} {P : Program} {w : World} {base : Nat} {spare : Nat → Bool} {held : Bool}
/-- A struct of one field of one cell, opened. -/
theorem open_agg1 {r : Reach} {b0 : Nat} {t : TypeId} {f0 : Field} {v : Value} {d : DataW H} {p : List MemPlace} (hs : P.underlying t = some (.struct #[f0])) (hone : oneCellFields P #[f0] = true) (hC : P.cellsOf t = 1)
    (hv : Value.okWide P w r b0 t v) (h : DataW.Trod en P w base spare held t v d p) :
    ∃ (v0 : Value) (y0 : DataW H × List MemPlace) (n : Nat), v = .agg #[v0] ∧ d = .agg [y0.1] ∧ p = y0.2 ∧ DataW.trod en P w base spare held n f0.type [v0] = some y0 := by
  obtain ⟨cs, rfl, hsz⟩ := okWide_struct hs hv
  rw [hC] at hsz
  obtain ⟨c0, rfl⟩ : ∃ c0, cs = #[c0] := by
    obtain ⟨l⟩ := cs
    match l, hsz with
    | [c0], _ => exact ⟨c0, rfl⟩
  obtain ⟨fuel, hf⟩ := h
  obtain ⟨y0, n, hx, _, h0⟩ := trod_struct1 hs hf
  obtain ⟨o0, k0⟩ := hone_of hone 0 f0 rfl
  simp only [Prod.mk.injEq] at hx
  exact ⟨c0, y0, n, rfl, hx.1, hx.2, by simpa [Value.cells, o0, k0] using h0⟩
end
end Go.Proofs.YtckgdlgdipfgmaaGreat
