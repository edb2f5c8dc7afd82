/- Arguments opened: slices of flat elements, as a list that the slice reads as. An argument of type Machine of an exact law opened. -/
import Derived.Test.YtckgdlgdipfgmaaGreatO1
import Derived.Test.YtckgdlgdipfgmaaGreatO8
import Derived.ProofKit
import Derived.OpenShut
import Derived.ChangeOld
import Derived.Deep.Slices
import Derived.Deep.Strs
import Derived.Lib.SmallJoins

namespace Go.Proofs.YtckgdlgdipfgmaaGreat
set_option linter.unusedVariables false
set_option linter.unusedSimpArgs false
open Go.RowKit Go.ChangeShapes Go.WideShapes Go.ChangeAt Go.Deep Go.Joins

section
variable {H : Type} {en : TypeId × Value → H} {P : Program} {w : World} {base : Nat} {spare : Nat → Bool} {held : Bool}

theorem sl_of_trod {α : Type} [Inhabited α] {t e k fuel : Nat} {enc : α → List Value} {cs : List Value} {x : DataW H × List MemPlace} (ht : P.underlying t = some (.slice e)) (hk : P.cellsOf e = k) (hk0 : 0 < k) (hlen : ∀ y, (enc y).length = k)
    (dec : ∀ n cs x, cs.length = k → DataW.trod en P w base spare held n e cs = some x → ∃ y : α, enc y = cs) (h : DataW.trod en P w base spare held fuel t cs = some x) :
    ∃ A len cap xs, cs = [.slice A len cap] ∧ Sl w k enc A len cap xs := by
  rcases open_slice ht h with ⟨rfl, _⟩ | ⟨a, len, cap, m, n, D, Pl, rfl, _, hl, hm, hmm, _, hx⟩
  · exact ⟨none, 0, 0, [], rfl, rfl, Nat.le_refl _, by omega, fun h => absurd h (by omega)⟩
  · have hlm : len ≤ m := by rw [hmm]; split <;> omega
    obtain ⟨Y, hY⟩ := choose_lt (α := α) (p := fun i y => w.cells? base (a.add (i * k)) k = some (enc y)) (n := len) (fun i hi => by
      obtain ⟨cs', h1, h2⟩ := hx i (by omega)
      rw [hk] at h1
      obtain ⟨_, hl', _⟩ := World.cells?_some h1
      obtain ⟨y, rfl⟩ := dec _ _ _ hl' h2
      exact ⟨y, h1⟩)
    refine ⟨some a, len, cap, (List.range len).map Y, rfl, by simp, hl, by simpa [maxLen] using hm, fun h0 => ?_⟩
    obtain ⟨b, o, spot⟩ := a
    have hc : ∀ i j, i < len → j < k → w.cell? ((⟨b, o, spot⟩ : Addr).add (i * k) |>.add j) = (enc (Y i))[j]? := fun i j hi hj => (World.cells?_some (hY i hi)).2.2 j hj
    have h1 := hc 0 0 h0 hk0
    have hv : ∃ u, (enc (Y 0))[0]? = some u := ⟨_, List.getElem?_eq_getElem (by rw [hlen]; exact hk0)⟩
    obtain ⟨u, hu⟩ := hv
    rw [hu] at h1
    have hspot : spot = none := by simpa [Addr.add] using World.cell?_spot h1
    subst hspot
    have hadd : ∀ i, (⟨b, o, none⟩ : Addr).add i = ⟨b, o + i, none⟩ := fun i => Addr.add_lit b o i
    refine ⟨b, o, rfl, ?_, fun j y hj i v hv => ?_⟩
    · have := World.block_lt_of_cell? w _ h1
      rw [hadd, Addr.add_lit] at this
      exact this
    · have hjl : j < len := by
        have := (List.getElem?_eq_some_iff.1 hj).1
        simpa using this
      have hyj : y = Y j := by
        rw [List.getElem?_map, List.getElem?_range hjl] at hj
        simpa using hj.symm
      subst hyj
      have hi : i < k := by
        have := (List.getElem?_eq_some_iff.1 hv).1
        rw [hlen] at this; exact this
      have := hc j i hjl hi
      rw [hadd, Addr.add_lit, hv] at this
      exact this

theorem dec_int {e n : Nat} {cs : List Value} {x : DataW H × List MemPlace} (he : P.underlying e = some (.int .i64)) (h : DataW.trod en P w base spare held n e cs = some x) : ∃ y : Int, eI y = cs := by
  obtain ⟨a, rfl, _⟩ := DataW.trod_int he h
  exact ⟨a, rfl⟩
theorem dec_ii {e n : Nat} {f0 f1 : Field} {cs : List Value} {x : DataW H × List MemPlace} (hs : P.underlying e = some (.struct #[f0, f1])) (hone : oneCellFields P #[f0, f1] = true) (hl : cs.length = 2)
    (h0 : P.underlying f0.type = some (.int .i64)) (h1 : P.underlying f1.type = some (.int .i64)) (h : DataW.trod en P w base spare held n e cs = some x) : ∃ y : Int × Int, eS y = cs := by
  obtain ⟨y0, y1, m, _, _, g0, g1⟩ := trod_struct2 hs h
  obtain ⟨o0, k0⟩ := hone_of hone 0 f0 rfl
  obtain ⟨o1, k1⟩ := hone_of hone 1 f1 rfl
  match cs, hl with
  | [c0, c1], _ =>
    obtain ⟨a0, e0, _⟩ := DataW.trod_int h0 (by simpa [o0, k0] using g0)
    obtain ⟨a1, e1, _⟩ := DataW.trod_int h1 (by simpa [o1, k1] using g1)
    simp at e0 e1
    subst e0 e1
    exact ⟨(a0, a1), rfl⟩
theorem dec_iib {e n : Nat} {f0 f1 f2 : Field} {cs : List Value} {x : DataW H × List MemPlace} (hs : P.underlying e = some (.struct #[f0, f1, f2])) (hone : oneCellFields P #[f0, f1, f2] = true) (hl : cs.length = 3)
    (h0 : P.underlying f0.type = some (.int .i64)) (h1 : P.underlying f1.type = some (.int .i64)) (h2 : P.underlying f2.type = some .bool) (h : DataW.trod en P w base spare held n e cs = some x) : ∃ (a b : Int) (c : Bool), cs = [.int .i64 a, .int .i64 b, .bool c] := by
  obtain ⟨y0, y1, y2, m, _, _, g0, g1, g2⟩ := trod_struct3 hs h
  obtain ⟨o0, k0⟩ := hone_of hone 0 f0 rfl
  obtain ⟨o1, k1⟩ := hone_of hone 1 f1 rfl
  obtain ⟨o2, k2⟩ := hone_of hone 2 f2 rfl
  match cs, hl with
  | [c0, c1, c2], _ =>
    obtain ⟨a0, e0, _⟩ := DataW.trod_int h0 (by simpa [o0, k0] using g0)
    obtain ⟨a1, e1, _⟩ := DataW.trod_int h1 (by simpa [o1, k1] using g1)
    obtain ⟨a2, e2, _⟩ := DataW.trod_bool h2 (by simpa [o2, k2] using g2)
    simp at e0 e1 e2
    subst e0 e1 e2
    exact ⟨a0, a1, a2, rfl⟩
end
section
variable {H : Type} {en : TypeId × Value → H} {P : Program} {w : World} {base : Nat} {spare : Nat → Bool} {held : Bool}
/-- A struct of one field of one cell, opened. -/
theorem open_agg1 {r : Reach} {b0 : Nat} {t : TypeId} {f0 : Field} {v : Value} {d : DataW H} {p : List MemPlace} (hs : P.underlying t = some (.struct #[f0])) (hone : oneCellFields P #[f0] = true) (hC : P.cellsOf t = 1)
    (hv : Value.okWide P w r b0 t v) (h : DataW.Trod en P w base spare held t v d p) :
    ∃ (v0 : Value) (y0 : DataW H × List MemPlace) (n : Nat), v = .agg #[v0] ∧ d = .agg [y0.1] ∧ p = y0.2 ∧ DataW.trod en P w base spare held n f0.type [v0] = some y0 := by
  obtain ⟨cs, rfl, hsz⟩ := okWide_struct hs hv
  rw [hC] at hsz
  obtain ⟨c0, rfl⟩ : ∃ c0, cs = #[c0] := by
    obtain ⟨l⟩ := cs
    match l, hsz with
    | [c0], _ => exact ⟨c0, rfl⟩
  obtain ⟨fuel, hf⟩ := h
  obtain ⟨y0, n, hx, _, h0⟩ := trod_struct1 hs hf
  obtain ⟨o0, k0⟩ := hone_of hone 0 f0 rfl
  simp only [Prod.mk.injEq] at hx
  exact ⟨c0, y0, n, rfl, hx.1, hx.2, by simpa [Value.cells, o0, k0] using h0⟩
end
end Go.Proofs.YtckgdlgdipfgmaaGreat

namespace Go.Proofs.YtckgdlgdipfgmaaGreat
set_option linter.unusedVariables false
set_option linter.unusedSimpArgs false
open Go.RowKit Go.ChangeShapes Go.WideShapes Go.ChangeAt Go.Deep Go.Joins

section
variable {H : Type} {en : TypeId × Value → H} {P : Program} {w : World} {base : Nat} {spare : Nat → Bool} {held : Bool}
theorem sl_of_trodQ {α : Type} [Inhabited α] {ok : α → Prop} {t e k fuel : Nat} {enc : α → List Value} {cs : List Value} {x : DataW H × List MemPlace} (ht : P.underlying t = some (.slice e)) (hk : P.cellsOf e = k) (hk0 : 0 < k) (hlen : ∀ y, (enc y).length = k)
    (dec : ∀ n cs x, cs.length = k → DataW.trod en P w base spare held n e cs = some x → ∃ y : α, enc y = cs ∧ ok y) (h : DataW.trod en P w base spare held fuel t cs = some x) :
    ∃ A len cap xs, cs = [.slice A len cap] ∧ Sl w k enc A len cap xs ∧ ∀ y ∈ xs, ok y := by
  rcases open_slice ht h with ⟨rfl, _⟩ | ⟨a, len, cap, m, n, D, Pl, rfl, _, hl, hm, hmm, _, hx⟩
  · exact ⟨none, 0, 0, [], rfl, ⟨rfl, Nat.le_refl _, by omega, fun h => absurd h (by omega)⟩, fun y hy => by cases hy⟩
  · have hlm : len ≤ m := by rw [hmm]; split <;> omega
    obtain ⟨Y, hY⟩ := choose_lt (α := α) (p := fun i y => w.cells? base (a.add (i * k)) k = some (enc y) ∧ ok y) (n := len) (fun i hi => by
      obtain ⟨cs', h1, h2⟩ := hx i (by omega)
      rw [hk] at h1
      obtain ⟨_, hl', _⟩ := World.cells?_some h1
      obtain ⟨y, rfl, hy⟩ := dec _ _ _ hl' h2
      exact ⟨y, h1, hy⟩)
    refine ⟨some a, len, cap, (List.range len).map Y, rfl, ⟨by simp, hl, by simpa [maxLen] using hm, fun h0 => ?_⟩, fun y hy => ?_⟩
    · obtain ⟨b, o, spot⟩ := a
      have hc : ∀ i j, i < len → j < k → w.cell? ((⟨b, o, spot⟩ : Addr).add (i * k) |>.add j) = (enc (Y i))[j]? := fun i j hi hj => (World.cells?_some (hY i hi).1).2.2 j hj
      have h1 := hc 0 0 h0 hk0
      have hv : ∃ u, (enc (Y 0))[0]? = some u := ⟨_, List.getElem?_eq_getElem (by rw [hlen]; exact hk0)⟩
      obtain ⟨u, hu⟩ := hv
      rw [hu] at h1
      have hspot : spot = none := by simpa [Addr.add] using World.cell?_spot h1
      subst hspot
      have hadd : ∀ i, (⟨b, o, none⟩ : Addr).add i = ⟨b, o + i, none⟩ := fun i => Addr.add_lit b o i
      refine ⟨b, o, rfl, ?_, fun j y hj i v hv => ?_⟩
      · have := World.block_lt_of_cell? w _ h1
        rw [hadd, Addr.add_lit] at this
        exact this
      · have hjl : j < len := by
          have := (List.getElem?_eq_some_iff.1 hj).1
          simpa using this
        have hyj : y = Y j := by
          rw [List.getElem?_map, List.getElem?_range hjl] at hj
          simpa using hj.symm
        subst hyj
        have hi : i < k := by
          have := (List.getElem?_eq_some_iff.1 hv).1
          rw [hlen] at this; exact this
        have := hc j i hjl hi
        rw [hadd, Addr.add_lit, hv] at this
        exact this
    · obtain ⟨i, hi, rfl⟩ := List.mem_map.1 hy
      exact (hY i (List.mem_range.1 hi)).2

theorem dec_iii {e n : Nat} {f0 f1 f2 : Field} {cs : List Value} {x : DataW H × List MemPlace} (hs : P.underlying e = some (.struct #[f0, f1, f2])) (hone : oneCellFields P #[f0, f1, f2] = true) (hl : cs.length = 3)
    (h0 : P.underlying f0.type = some (.int .i64)) (h1 : P.underlying f1.type = some (.int .i64)) (h2 : P.underlying f2.type = some (.int .i64)) (h : DataW.trod en P w base spare held n e cs = some x) : ∃ y : Int × Int × Int, eO y = cs := by
  obtain ⟨y0, y1, y2, m, _, _, g0, g1, g2⟩ := trod_struct3 hs h
  obtain ⟨o0, k0⟩ := hone_of hone 0 f0 rfl
  obtain ⟨o1, k1⟩ := hone_of hone 1 f1 rfl
  obtain ⟨o2, k2⟩ := hone_of hone 2 f2 rfl
  match cs, hl with
  | [c0, c1, c2], _ =>
    obtain ⟨a0, e0, _⟩ := DataW.trod_int h0 (by simpa [o0, k0] using g0)
    obtain ⟨a1, e1, _⟩ := DataW.trod_int h1 (by simpa [o1, k1] using g1)
    obtain ⟨a2, e2, _⟩ := DataW.trod_int h2 (by simpa [o2, k2] using g2)
    simp at e0 e1 e2
    subst e0 e1 e2
    exact ⟨(a0, a1, a2), rfl⟩
theorem dec_iiii {e n : Nat} {f0 f1 f2 f3 : Field} {cs : List Value} {x : DataW H × List MemPlace} (hs : P.underlying e = some (.struct #[f0, f1, f2, f3])) (hone : oneCellFields P #[f0, f1, f2, f3] = true) (hl : cs.length = 4)
    (h0 : P.underlying f0.type = some (.int .i64)) (h1 : P.underlying f1.type = some (.int .i64)) (h2 : P.underlying f2.type = some (.int .i64)) (h3 : P.underlying f3.type = some (.int .i64)) (h : DataW.trod en P w base spare held n e cs = some x) : ∃ y : Int × Int × Int × Int, eC y = cs := by
  obtain ⟨y0, y1, y2, y3, m, _, _, g0, g1, g2, g3⟩ := trod_struct4 hs h
  obtain ⟨o0, k0⟩ := hone_of hone 0 f0 rfl
  obtain ⟨o1, k1⟩ := hone_of hone 1 f1 rfl
  obtain ⟨o2, k2⟩ := hone_of hone 2 f2 rfl
  obtain ⟨o3, k3⟩ := hone_of hone 3 f3 rfl
  match cs, hl with
  | [c0, c1, c2, c3], _ =>
    obtain ⟨a0, e0, _⟩ := DataW.trod_int h0 (by simpa [o0, k0] using g0)
    obtain ⟨a1, e1, _⟩ := DataW.trod_int h1 (by simpa [o1, k1] using g1)
    obtain ⟨a2, e2, _⟩ := DataW.trod_int h2 (by simpa [o2, k2] using g2)
    obtain ⟨a3, e3, _⟩ := DataW.trod_int h3 (by simpa [o3, k3] using g3)
    simp at e0 e1 e2 e3
    subst e0 e1 e2 e3
    exact ⟨(a0, a1, a2, a3), rfl⟩
/-- A slice of flat elements, opened as one value. -/
theorem dec_s {α : Type} [Inhabited α] {t e k : Nat} {enc : α → List Value} (ht : P.underlying t = some (.slice e)) (hk : P.cellsOf e = k) (hk0 : 0 < k) (hlen : ∀ y, (enc y).length = k)
    (dec : ∀ n cs x, cs.length = k → DataW.trod en P w base spare held n e cs = some x → ∃ y : α, enc y = cs) {n : Nat} {cs : List Value} {x : DataW H × List MemPlace} (h : DataW.trod en P w base spare held n t cs = some x) :
    ∃ y : SV α, [y.v] = cs ∧ Sl w k enc y.A y.n y.c y.xs := by
  obtain ⟨A, len, cap, xs, rfl, hs⟩ := sl_of_trod ht hk hk0 hlen dec h
  exact ⟨⟨A, len, cap, xs⟩, rfl, hs⟩
theorem dec_s1 {β : Type} {Q : SV β → Prop} {e n : Nat} {f0 : Field} {cs : List Value} {x : DataW H × List MemPlace} (hs : P.underlying e = some (.struct #[f0])) (hone : oneCellFields P #[f0] = true) (hl : cs.length = 1)
    (d : ∀ n cs x, DataW.trod en P w base spare held n f0.type cs = some x → ∃ y : SV β, [y.v] = cs ∧ Q y) (h : DataW.trod en P w base spare held n e cs = some x) : ∃ y : SV β, [y.v] = cs ∧ Q y := by
  obtain ⟨y0, m, _, _, g0⟩ := trod_struct1 hs h
  obtain ⟨o0, k0⟩ := hone_of hone 0 f0 rfl
  match cs, hl with
  | [c0], _ => exact d _ _ _ (by simpa [o0, k0] using g0)
theorem dec_si {β : Type} {Q : SV β → Prop} {e n : Nat} {f0 f1 : Field} {cs : List Value} {x : DataW H × List MemPlace} (hs : P.underlying e = some (.struct #[f0, f1])) (hone : oneCellFields P #[f0, f1] = true) (hl : cs.length = 2)
    (d : ∀ n cs x, DataW.trod en P w base spare held n f0.type cs = some x → ∃ y : SV β, [y.v] = cs ∧ Q y) (h1 : P.underlying f1.type = some (.int .i64)) (h : DataW.trod en P w base spare held n e cs = some x) :
    ∃ y : SV β × Int, [y.1.v, .int .i64 y.2] = cs ∧ Q y.1 := by
  obtain ⟨y0, y1, m, _, _, g0, g1⟩ := trod_struct2 hs h
  obtain ⟨o0, k0⟩ := hone_of hone 0 f0 rfl
  obtain ⟨o1, k1⟩ := hone_of hone 1 f1 rfl
  match cs, hl with
  | [c0, c1], _ =>
    obtain ⟨y, e0, hq⟩ := d _ [c0] _ (by simpa [o0, k0] using g0)
    obtain ⟨a1, e1, _⟩ := DataW.trod_int h1 (by simpa [o1, k1] using g1)
    simp at e0 e1
    subst e0 e1
    exact ⟨(y, a1), rfl, hq⟩
theorem dec_sib {β : Type} {Q : SV β → Prop} {e n : Nat} {f0 f1 f2 : Field} {cs : List Value} {x : DataW H × List MemPlace} (hs : P.underlying e = some (.struct #[f0, f1, f2])) (hone : oneCellFields P #[f0, f1, f2] = true) (hl : cs.length = 3)
    (d : ∀ n cs x, DataW.trod en P w base spare held n f0.type cs = some x → ∃ y : SV β, [y.v] = cs ∧ Q y) (h1 : P.underlying f1.type = some (.int .i64)) (h2 : P.underlying f2.type = some .bool) (h : DataW.trod en P w base spare held n e cs = some x) :
    ∃ y : SV β × Int × Bool, [y.1.v, .int .i64 y.2.1, .bool y.2.2] = cs ∧ Q y.1 := by
  obtain ⟨y0, y1, y2, m, _, _, g0, g1, g2⟩ := trod_struct3 hs h
  obtain ⟨o0, k0⟩ := hone_of hone 0 f0 rfl
  obtain ⟨o1, k1⟩ := hone_of hone 1 f1 rfl
  obtain ⟨o2, k2⟩ := hone_of hone 2 f2 rfl
  match cs, hl with
  | [c0, c1, c2], _ =>
    obtain ⟨y, e0, hq⟩ := d _ [c0] _ (by simpa [o0, k0] using g0)
    obtain ⟨a1, e1, _⟩ := DataW.trod_int h1 (by simpa [o1, k1] using g1)
    obtain ⟨a2, e2, _⟩ := DataW.trod_bool h2 (by simpa [o2, k2] using g2)
    simp at e0 e1 e2
    subst e0 e1 e2
    exact ⟨(y, a1, a2), rfl, hq⟩
/-- A slice of elements that hold slices, opened as one value. -/
theorem dec_sQ {α : Type} [Inhabited α] {ok : α → Prop} {t e k : Nat} {enc : α → List Value} (ht : P.underlying t = some (.slice e)) (hk : P.cellsOf e = k) (hk0 : 0 < k) (hlen : ∀ y, (enc y).length = k)
    (dec : ∀ n cs x, cs.length = k → DataW.trod en P w base spare held n e cs = some x → ∃ y : α, enc y = cs ∧ ok y) {n : Nat} {cs : List Value} {x : DataW H × List MemPlace} (h : DataW.trod en P w base spare held n t cs = some x) :
    ∃ y : SV α, [y.v] = cs ∧ (Sl w k enc y.A y.n y.c y.xs ∧ AllE ok y.xs) := by
  obtain ⟨A, len, cap, xs, rfl, hs, ho⟩ := sl_of_trodQ ht hk hk0 hlen dec h
  exact ⟨⟨A, len, cap, xs⟩, rfl, hs, ho⟩
end
instance {α : Type} : Inhabited (SV α) := ⟨⟨none, 0, 0, []⟩⟩
instance : Inhabited Win := ⟨⟨0, 0, false⟩⟩
section
variable {H : Type} {en : TypeId × Value → H} {w : World} {base : Nat} {spare : Nat → Bool} {held : Bool}
theorem dec_parts {n : Nat} {cs : List Value} {x : DataW H × List MemPlace} (h : DataW.trod en Tryz.prog w base spare held n 22 cs = some x) : ∃ y : SV PartV, [y.v] = cs ∧ okLP w y :=
  dec_sQ (α := PartV) (ok := okP w) (enc := eP) (k := 2) Tryz.underlying22 (by kernel_rfl) (by decide) (fun _ => rfl)
    (fun n cs x hl h => dec_si (β := Win) (Q := fun y => Sl w 3 Win.cells y.A y.n y.c y.xs) Tryz.underlying157 (by kernel_rfl) hl
      (fun n cs x h => dec_s (α := Win) (enc := Win.cells) (k := 3) Tryz.underlying155 (by kernel_rfl) (by decide) (fun _ => rfl)
        (fun n cs x hl h => by obtain ⟨a, b, c, rfl⟩ := dec_iib Tryz.underlying192 (by kernel_rfl) hl Tryz.underlying3 Tryz.underlying3 Tryz.underlying4 h; exact ⟨(⟨a, b, c⟩ : Win), rfl⟩) h)
      Tryz.underlying3 h) h
theorem dec_progs {n : Nat} {cs : List Value} {x : DataW H × List MemPlace} (h : DataW.trod en Tryz.prog w base spare held n 27 cs = some x) : ∃ y : SV OrdL, [y.v] = cs ∧ okLO w y :=
  dec_sQ (α := OrdL) (ok := okO w) (enc := eOL) (k := 1) Tryz.underlying27 (by kernel_rfl) (by decide) (fun _ => rfl)
    (fun n cs x hl h => dec_s (α := Int × Int × Int) (enc := eO) (k := 3) Tryz.underlying109 (by kernel_rfl) (by decide) (fun _ => rfl)
        (fun n cs x hl h => dec_iii Tryz.underlying165 (by kernel_rfl) hl Tryz.underlying3 Tryz.underlying3 Tryz.underlying3 h) h) h
theorem dec_cores {n : Nat} {cs : List Value} {x : DataW H × List MemPlace} (h : DataW.trod en Tryz.prog w base spare held n 28 cs = some x) : ∃ y : SV CoreT, [y.v] = cs ∧ okLC w y :=
  dec_sQ (α := CoreT) (ok := okC w) (enc := eCo) (k := 3) Tryz.underlying28 (by kernel_rfl) (by decide) (fun _ => rfl)
    (fun n cs x hl h => dec_sib (β := Int) (Q := fun y => Sl w 1 eI y.A y.n y.c y.xs) Tryz.underlying111 (by kernel_rfl) hl
      (fun n cs x h => dec_s (α := Int) (enc := eI) (k := 1) Tryz.underlying47 (by kernel_rfl) (by decide) (fun _ => rfl) (fun n cs x hl h => dec_int Tryz.underlying3 h) h)
      Tryz.underlying3 Tryz.underlying4 h) h
theorem dec_holds {n : Nat} {cs : List Value} {x : DataW H × List MemPlace} (h : DataW.trod en Tryz.prog w base spare held n 29 cs = some x) : ∃ y : SV HoldR, [y.v] = cs ∧ okLH w y :=
  dec_sQ (α := HoldR) (ok := okH w) (enc := eHr) (k := 1) Tryz.underlying29 (by kernel_rfl) (by decide) (fun _ => rfl)
    (fun n cs x hl h => dec_s1 (β := Int) (Q := fun y => Sl w 1 eI y.A y.n y.c y.xs) Tryz.underlying113 (by kernel_rfl) hl
      (fun n cs x h => dec_s (α := Int) (enc := eI) (k := 1) Tryz.underlying47 (by kernel_rfl) (by decide) (fun _ => rfl) (fun n cs x hl h => dec_int Tryz.underlying3 h) h) h) h
set_option maxRecDepth 100000 in
theorem dec_chans {n : Nat} {cs : List Value} {x : DataW H × List MemPlace} (h : DataW.trod en Tryz.prog w base spare held n 23 cs = some x) : ∃ y : SV ChanT, [y.v] = cs ∧ okF 4 eC w y :=
  dec_s (α := ChanT) (enc := eC) (k := 4) Tryz.underlying23 (by kernel_rfl) (by decide) (fun _ => rfl) (fun n cs x hl h => dec_iiii Tryz.underlying161 (by kernel_rfl) hl Tryz.underlying3 Tryz.underlying3 Tryz.underlying3 Tryz.underlying3 h) h
set_option maxRecDepth 100000 in
theorem dec_slots {n : Nat} {cs : List Value} {x : DataW H × List MemPlace} (h : DataW.trod en Tryz.prog w base spare held n 24 cs = some x) : ∃ y : SV (Int × Int), [y.v] = cs ∧ okF 2 eS w y :=
  dec_s (α := Int × Int) (enc := eS) (k := 2) Tryz.underlying24 (by kernel_rfl) (by decide) (fun _ => rfl) (fun n cs x hl h => dec_ii Tryz.underlying163 (by kernel_rfl) hl Tryz.underlying3 Tryz.underlying3 h) h
theorem dec_setup {n : Nat} {c0 c1 c2 : Value} {x : DataW H × List MemPlace} (h : DataW.trod en Tryz.prog w base spare held n 26 [c0, c1, c2] = some x) : ∃ s : SetR, setV s = .agg #[c0, c1, c2] ∧ okS w s := by
  obtain ⟨y0, y1, y2, m, _, _, g0, g1, g2⟩ := trod_struct3 Tryz.underlying26 h
  have k0 : Tryz.prog.cellsOf 22 = 1 := by kernel_rfl
  have k1 : Tryz.prog.cellsOf 23 = 1 := by kernel_rfl
  have k2 : Tryz.prog.cellsOf 24 = 1 := by kernel_rfl
  obtain ⟨s0, e0, h0⟩ := dec_parts (cs := [c0]) (by simpa [k0] using g0)
  obtain ⟨s1, e1, h1⟩ := dec_chans (cs := [c1]) (by simpa [k1] using g1)
  obtain ⟨s2, e2, h2⟩ := dec_slots (cs := [c2]) (by simpa [k2] using g2)
  simp only [List.cons.injEq, and_true] at e0 e1 e2
  subst e0 e1 e2
  exact ⟨(s0, s1, s2), rfl, h0, h1, h2⟩
set_option maxRecDepth 100000 in
theorem open_machine {r : Reach} {b0 : Nat} {v : Value} {d : DataW H} {p : List MemPlace} (hv : Value.okWide Tryz.prog w r b0 31 v) (h : DataW.Trod en Tryz.prog w base spare held 31 v d p) : ∃ m : MacR, v = macV m ∧ okM w m := by
  obtain ⟨cs, rfl, hsz⟩ := okWide_struct Tryz.underlying31 hv
  have k9 : Tryz.prog.cellsOf 31 = 7 := by kernel_rfl
  replace hsz := hsz.trans k9
  clear k9
  obtain ⟨l⟩ := cs
  obtain ⟨fuel, hf⟩ := h
  match l, hsz with
  | [c0, c1, c2, c3, c4, c5, c6], _ =>
    simp only [Value.cells] at hf
    obtain ⟨xs, n, _, _, _, hlen, hfi⟩ := DataW.trod_struct Tryz.underlying31 hf
    match xs, hlen with
    | [y0, y1, y2, y3, y4], _ =>
      have k0 : Tryz.prog.cellsOf 26 = 3 := by kernel_rfl
      have k1 : Tryz.prog.cellsOf 27 = 1 := by kernel_rfl
      have k2 : Tryz.prog.cellsOf 28 = 1 := by kernel_rfl
      have k3 : Tryz.prog.cellsOf 29 = 1 := by kernel_rfl
      have k4 : Tryz.prog.cellsOf 3 = 1 := by kernel_rfl
      obtain ⟨s0, e0, h0⟩ := dec_setup (c0 := c0) (c1 := c1) (c2 := c2) (by simpa [k0] using hfi 0 _ rfl)
      obtain ⟨s1, e1, h1⟩ := dec_progs (cs := [c3]) (by simpa [k1] using hfi 1 _ rfl)
      obtain ⟨s2, e2, h2⟩ := dec_cores (cs := [c4]) (by simpa [k2] using hfi 2 _ rfl)
      obtain ⟨s3, e3, h3⟩ := dec_holds (cs := [c5]) (by simpa [k3] using hfi 3 _ rfl)
      obtain ⟨a4, e4, _⟩ := DataW.trod_int (cs := [c6]) Tryz.underlying3 (by simpa [k4] using hfi 4 _ rfl)
      simp only [List.cons.injEq, and_true] at e1 e2 e3 e4
      obtain ⟨p0, p1, p2⟩ := s0
      simp only [setV, Value.agg.injEq, Array.mk.injEq, List.cons.injEq, and_true] at e0
      obtain ⟨rfl, rfl, rfl⟩ := e0
      subst e1 e2 e3 e4
      exact ⟨((p0, p1, p2), s1, s2, s3, a4), rfl, h0, h1, h2, h3⟩
end
end Go.Proofs.YtckgdlgdipfgmaaGreat
