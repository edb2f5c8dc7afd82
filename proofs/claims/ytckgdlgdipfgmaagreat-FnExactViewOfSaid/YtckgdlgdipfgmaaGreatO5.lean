/- Lists whose elements hold slices: their memory, what they say. slices.IndexFunc, slices.ContainsFunc at windows. WindowAt of impl. Windows of the reference: l1Window, WindowsValid, WindowAt. The exact laws' own functions at []Window: sz, to, eq. The exact laws' own functions at []Order: sz, to, eq. The exact laws' own functions at []int: sz, to, eq. Slices that may be written: what marking does to them. The exact laws' own functions at Hold: sz, to, eq, mark, held. -/
import Derived.Test.YtckgdlgdipfgmaaGreatO1
import Derived.Test.YtckgdlgdipfgmaaGreatO2
import Derived.Test.YtckgdlgdipfgmaaGreatO4
import Derived.Shelf.Abstract

namespace Go.Proofs.YtckgdlgdipfgmaaGreat
set_option linter.unusedVariables false
set_option linter.unusedSimpArgs false
open Go.RowKit

/-- A block of a size whose first cells are those of a list. -/
def UptoN (w : World) (g E size : Nat) (pre : List Value) : Prop := ∃ arr : Array Value, Blk w g E arr ∧ arr.size = size ∧ ∀ i, i < pre.length → arr[i]? = pre[i]?
section
variable {w w' : World} {g E size : Nat} {pre : List Value}
theorem UptoN.below (h : UptoN w g E size pre) (hb : Below w.heap.size w w') : UptoN w' g E size pre := by
  obtain ⟨arr, hB, h1, h2⟩ := h
  exact ⟨arr, hB.below hb, h1, h2⟩
theorem UptoN.frozen (h : UptoN w g E size pre) (i : Nat) : w.frozen? ⟨g, i, none⟩ = false := by
  obtain ⟨arr, hB, _⟩ := h
  exact hB.frozen i
theorem UptoN.has (h : UptoN w g E size pre) {i : Nat} (hi : i < size) : ∃ v, w.cell? ⟨g, i, none⟩ = some v := by
  obtain ⟨arr, hB, h1, _⟩ := h
  exact ⟨_, (hB.cell i).trans (Array.getElem?_eq_getElem (by omega))⟩
theorem UptoN.lt (h : UptoN w g E size pre) : g < w.heap.size := by
  obtain ⟨arr, hB, _⟩ := h
  exact hB.lt
theorem UptoN.set {o : Nat} (h : UptoN w g E size pre) (u : Value) (ho : o = pre.length) (hs : o < size) : UptoN (w.setCell ⟨g, o, none⟩ u) g E size (pre ++ [u]) := by
  subst ho
  obtain ⟨arr, hB, h1, h2⟩ := h
  refine ⟨_, hB.set_ _ u, by simpa using h1, fun i hi => ?_⟩
  by_cases e : i = pre.length
  · subst e
    rw [Array.getElem?_setIfInBounds_self_of_lt (by omega)]
    simp
  · have hi' : i < pre.length := by simp at hi; omega
    rw [Array.getElem?_setIfInBounds_ne (Ne.symm e), List.getElem?_append_left hi']
    exact h2 i hi'
theorem UptoN.full (h : UptoN w g E size pre) (ho : pre.length = size) : Blk w g E pre.toArray := by
  obtain ⟨arr, hB, h1, h2⟩ := h
  have : arr = pre.toArray := by
    apply Array.ext_getElem?
    intro i
    by_cases hi : i < pre.length
    · rw [h2 i hi]; simp
    · rw [Array.getElem?_eq_none (by omega)]; simp; omega
  rw [← this]; exact hB
theorem UptoN.made {base k n c : Nat} {α : Type} {enc : α → List Value} {ys : List α} (hk : Enc enc k) (h : Own w base E k enc (.slice (some ⟨g, 0, none⟩) n n) ys) : UptoN w g E (n * k) [] := by
  rcases h.2 with ⟨h1, _⟩ | ⟨g', cap, cur, h1, _, hb, _, _, hc, _⟩
  · cases h1
  · injection h1 with h1 h2 h3
    injection h1 with h1
    injection h1 with h1
    subst h1
    exact ⟨cur, hb, by rw [hc, ← h3], fun i hi => absurd hi (Nat.not_lt_zero _)⟩
end
theorem map_take_succ {α β : Type} {f : α → β} {l : List α} {kk : Nat} {x : α} (hx : l[kk]? = some x) : (l.take (kk + 1)).map f = (l.take kk).map f ++ [f x] := by
  rw [List.take_add_one, hx]; simp
theorem map_at {α α' β : Type} {f : α → β} {f' : α' → β} {l : List α} {l' : List α'} (h : l.map f = l'.map f') {kk : Nat} {x : α} {x' : α'} (hx : l[kk]? = some x) (hx' : l'[kk]? = some x') : f x = f' x' := by
  have h1 : (l.map f)[kk]? = some (f x) := by rw [List.getElem?_map, hx]; rfl
  have h2 : (l'.map f')[kk]? = some (f' x') := by rw [List.getElem?_map, hx']; rfl
  rw [h, h2] at h1
  injection h1 with h1
  exact h1.symm

abbrev OrdL := SV (Int × Int × Int)
abbrev CoreT := SV Int × Int × Bool
abbrev HoldR := SV Int
def eOL (x : OrdL) : List Value := [x.v]
def eCo (x : CoreT) : List Value := [x.1.v, .int .i64 x.2.1, .bool x.2.2]
def eHr (x : HoldR) : List Value := [x.v]
theorem encOL : Enc eOL 1 := ⟨fun _ => rfl, fun x u h => by simp [eOL] at h; subst h; rfl⟩
theorem encCo : Enc eCo 3 := ⟨fun _ => rfl, fun x u h => by simp [eCo] at h; rcases h with rfl | rfl | rfl <;> rfl⟩
theorem encHr : Enc eHr 1 := ⟨fun _ => rfl, fun x u h => by simp [eHr] at h; subst h; rfl⟩
/-- What an element says. -/
def cP (x : PartV) : List Win × Int := (x.1.xs, x.2)
def cO (x : OrdL) : List (Int × Int × Int) := x.xs
def cC (x : CoreT) : List Int × Int × Bool := (x.1.xs, x.2.1, x.2.2)
def cH (x : HoldR) : List Int := x.xs
/-- Its slice can be read. -/
def okP (w : World) (x : PartV) : Prop := Sl w 3 Win.cells x.1.A x.1.n x.1.c x.1.xs
def okO (w : World) (x : OrdL) : Prop := Sl w 3 eO x.A x.n x.c x.xs
def okC (w : World) (x : CoreT) : Prop := Sl w 1 eI x.1.A x.1.n x.1.c x.1.xs
def okH (w : World) (x : HoldR) : Prop := Sl w 1 eI x.A x.n x.c x.xs
/-- Its slice is short. -/
def smP (x : PartV) : Prop := x.1.n ≤ 1048576
def smO (x : OrdL) : Prop := x.n ≤ 1048576
def smC (x : CoreT) : Prop := x.1.n ≤ 1048576
def smH (x : HoldR) : Prop := x.n ≤ 1048576
section
variable {w w' : World}
theorem okP.below {x : PartV} (h : okP w x) (hb : Below w.heap.size w w') : okP w' x := Sl.below h hb
theorem okO.below {x : OrdL} (h : okO w x) (hb : Below w.heap.size w w') : okO w' x := Sl.below h hb
theorem okC.below {x : CoreT} (h : okC w x) (hb : Below w.heap.size w w') : okC w' x := Sl.below h hb
theorem okH.below {x : HoldR} (h : okH w x) (hb : Below w.heap.size w w') : okH w' x := Sl.below h hb
end
/-- A slice whose block lies behind a bound, and is whole and can be written. -/
def Fr (w : World) (base : Nat) (A : Option Addr) : Prop := ∃ g t cs, A = some ⟨g, 0, none⟩ ∧ base ≤ g ∧ Blk w g t cs
theorem Fr.some {w : World} {base g t : Nat} {cs : Array Value} (hB : Blk w g t cs) (h : base ≤ g) : Fr w base (some ⟨g, 0, none⟩) := ⟨g, t, cs, rfl, h, hB⟩
theorem Fr.ge {w : World} {base : Nat} {A : Option Addr} (h : Fr w base A) (b o : Nat) (e : A = .some ⟨b, o, none⟩) : base ≤ b := by
  obtain ⟨g, t, cs, rfl, hb, -⟩ := h
  injection e with e
  injection e with e1 _
  omega
theorem Fr.mono {w : World} {base base' : Nat} {A : Option Addr} (h : Fr w base A) (hb : base' ≤ base) : Fr w base' A := by
  obtain ⟨g, t, cs, rfl, h1, h2⟩ := h
  exact ⟨g, t, cs, rfl, Nat.le_trans hb h1, h2⟩
theorem Fr.below {w w' : World} {base : Nat} {A : Option Addr} (h : Fr w base A) (hb : Below w.heap.size w w') : Fr w' base A := by
  obtain ⟨g, t, cs, rfl, h1, h2⟩ := h
  exact ⟨g, t, cs, rfl, h1, h2.below hb⟩
theorem Fr.set {w : World} {base : Nat} {A : Option Addr} (h : Fr w base A) {p : Addr} (hp : p.block < base) (u : Value) : Fr (w.setCell p u) base A := by
  obtain ⟨g, t, cs, rfl, h1, h2⟩ := h
  exact ⟨g, t, cs, rfl, h1, h2.far (by omega) u⟩
theorem Fr.nil {w : World} {base : Nat} {A : Option Addr} (h : Fr w base A) {P : Prop} (e : A = none) : P := by
  obtain ⟨g, t, cs, rfl, -⟩ := h
  cases e
theorem Sl.setF {α : Type} {w : World} {k n c base : Nat} {enc : α → List Value} {A : Option Addr} {xs : List α} (h : Sl w k enc A n c xs) (hA : Fr w base A) {p : Addr} (hp : p.block < base) (u : Value) : Sl (w.setCell p u) k enc A n c xs :=
  h.keep (by simp [World.setCell]) (fun b o e => Below.heap_setCell _ _ _ _ (by have := hA.ge b o e; omega))
/-- An element's slice can be read, in a block behind a bound. -/
def liP (w : World) (base : Nat) (x : PartV) : Prop := okP w x ∧ Fr w base x.1.A
def liO (w : World) (base : Nat) (x : OrdL) : Prop := okO w x ∧ Fr w base x.A
def liC (w : World) (base : Nat) (x : CoreT) : Prop := okC w x ∧ Fr w base x.1.A
def liH (w : World) (base : Nat) (x : HoldR) : Prop := okH w x ∧ Fr w base x.A
section
variable {w w' : World} {base base' : Nat} {p : Addr} {u : Value}
theorem liP.below {x : PartV} (h : liP w base x) (hb : Below w.heap.size w w') : liP w' base x := ⟨okP.below h.1 hb, h.2.below hb⟩
theorem liO.below {x : OrdL} (h : liO w base x) (hb : Below w.heap.size w w') : liO w' base x := ⟨okO.below h.1 hb, h.2.below hb⟩
theorem liC.below {x : CoreT} (h : liC w base x) (hb : Below w.heap.size w w') : liC w' base x := ⟨okC.below h.1 hb, h.2.below hb⟩
theorem liH.below {x : HoldR} (h : liH w base x) (hb : Below w.heap.size w w') : liH w' base x := ⟨okH.below h.1 hb, h.2.below hb⟩
theorem liP.set {x : PartV} (h : liP w base x) (hp : p.block < base) : liP (w.setCell p u) base x := ⟨Sl.setF h.1 h.2 hp u, h.2.set hp u⟩
theorem liO.set {x : OrdL} (h : liO w base x) (hp : p.block < base) : liO (w.setCell p u) base x := ⟨Sl.setF h.1 h.2 hp u, h.2.set hp u⟩
theorem liC.set {x : CoreT} (h : liC w base x) (hp : p.block < base) : liC (w.setCell p u) base x := ⟨Sl.setF h.1 h.2 hp u, h.2.set hp u⟩
theorem liH.set {x : HoldR} (h : liH w base x) (hp : p.block < base) : liH (w.setCell p u) base x := ⟨Sl.setF h.1 h.2 hp u, h.2.set hp u⟩
theorem liP.mono {x : PartV} (h : liP w base x) (hb : base' ≤ base) : liP w base' x := ⟨h.1, h.2.mono hb⟩
theorem liO.mono {x : OrdL} (h : liO w base x) (hb : base' ≤ base) : liO w base' x := ⟨h.1, h.2.mono hb⟩
theorem liC.mono {x : CoreT} (h : liC w base x) (hb : base' ≤ base) : liC w base' x := ⟨h.1, h.2.mono hb⟩
theorem liH.mono {x : HoldR} (h : liH w base x) (hb : base' ≤ base) : liH w base' x := ⟨h.1, h.2.mono hb⟩
end
/-- All elements of a list; the list is short, and all its elements. -/
def AllE {β : Type} (q : β → Prop) (l : List β) : Prop := ∀ x ∈ l, q x
theorem AllE.mono {β : Type} {q q' : β → Prop} {l : List β} (h : AllE q l) (hq : ∀ x, q x → q' x) : AllE q' l := fun x hx => hq x (h x hx)
theorem AllE.add {β : Type} {q : β → Prop} {l : List β} (h : AllE q l) {y : β} (hy : q y) : AllE q (l ++ [y]) := fun x hx => (List.mem_append.1 hx).elim (h x) (fun h9 => by rw [List.mem_singleton.1 h9]; exact hy)
def shortL {β : Type} (n : Nat) (sm : β → Prop) (l : List β) : Prop := n ≤ 1048576 ∧ ∀ x ∈ l, sm x
end Go.Proofs.YtckgdlgdipfgmaaGreat

namespace Go.Proofs.YtckgdlgdipfgmaaGreat
set_option linter.unusedVariables false
set_option linter.unusedSimpArgs false
open Go.RowKit Go.Shelf

set_option maxHeartbeats 200000 in
theorem indexWin (p : Win → Bool) (g : Nat) (lb : Array Value) (eg : ∀ args w, (callFunc g args).run Tryz.prog w = .ok (.enter g args) w) (A : Option Addr) (n c : Nat) (xs : List Win) (w : World) (ok : Win → Prop) (hok : ∀ x ∈ xs, ok x)
    (hp : Pred Tryz.prog g lb (fun x => .agg x.cells.toArray) ok p w) (hs : Sl w 3 Win.cells A n c xs) :
    Calls Tryz.prog 157 #[.slice A n c, .func (.func g) #[] lb] w fun e w' => .returned (.int .i64 (idxP p xs)) = e ∧ Below w.heap.size w w' := by
  have hle := hs.le
  have hmax := hs.max
  go_enter Tryz.func157, Tryz.ntmps157
  go_wp2
  go_loopg [5, 8] n (fun gg _ s8 wr => ∃ kk : Nat, kk ≤ n ∧ n - kk ≤ gg ∧ s8 = .int .i64 kk ∧ Aside (Below w.heap.size w wr) ∧ Aside (∀ j y, j < kk → xs[j]? = some y → p y = false))
  case atStart => exact ⟨0, Nat.zero_le _, by omega, rfl, Below.refl _ w, fun j _ hj => absurd hj (Nat.not_lt_zero _)⟩
  case round =>
    obtain ⟨kk, hkk, hg, rfl, BW, AA⟩ := hrel
    by_cases hlt : kk < n
    · have hltz : (kk : Int) < (n : Int) := by omega
      obtain ⟨b, o, rfl, hb, hc⟩ := hs.cells (by omega)
      have hlx : kk < xs.length := by have := hs.len; omega
      have hx : xs[kk]? = some xs[kk] := List.getElem?_eq_getElem hlx
      have hcall := hp wr xs[kk] (hok _ (List.getElem_mem hlx)) BW.out
      have hc0 := (BW.out.cell (p := ⟨b, o + kk * 3 + 0, none⟩) hb).trans (hc kk _ hx 0 _ rfl)
      have hc1 := (BW.out.cell (p := ⟨b, o + kk * 3 + 1, none⟩) hb).trans (hc kk _ hx 1 _ rfl)
      have hc2 := (BW.out.cell (p := ⟨b, o + kk * 3 + 2, none⟩) hb).trans (hc kk _ hx 2 _ rfl)
      clear hc hp hok
      have HX := Lib.hid hx
      clear hx
      generalize xs[kk] = y at hcall hc0 hc1 hc2 HX
      simp only [Win.cells, Nat.add_zero] at hcall hc0 hc1 hc2
      cases hq : p y with
      | true =>
        rw [hq] at hcall
        have HQ := Lib.hid hq
        clear hq
        go_wp2_with fail
        refine hcall.mono ?_
        rintro e w' ⟨rfl, hb'⟩
        go_wp2
        go_ret
        refine ⟨?_, BW.out.trans (hb'.mono BW.out.size)⟩
        rw [idxP_hit p xs kk y HX.out HQ.out AA.out]; rfl
      | false =>
        rw [hq] at hcall
        have HQ := Lib.hid hq
        clear hq
        go_wp2_with fail
        refine hcall.mono ?_
        rintro e w' ⟨rfl, hb'⟩
        go_wp2
        go_roundg (n - (kk + 1))
        case measure => omega
        case rel =>
          refine ⟨kk + 1, by omega, by omega, by go_num, BW.out.trans (hb'.mono BW.out.size), (show Aside _ from fun j z hj hz => ?_)⟩
          by_cases e : j = kk
          · subst e
            have := HX.out
            rw [this] at hz
            injection hz with hz
            rw [← hz]; exact HQ.out
          · exact AA.out j z (by omega) hz
    · have hltz : ¬ (kk : Int) < (n : Int) := by omega
      have : kk = n := by omega
      subst this
      go_wp2
      go_ret
      refine ⟨?_, BW.out⟩
      rw [idxP_miss p xs (fun j y hj hy => AA.out j y (by have := hs.len; omega) hy)]; rfl

theorem containsWin (p : Win → Bool) (g : Nat) (lb : Array Value) (eg : ∀ args w, (callFunc g args).run Tryz.prog w = .ok (.enter g args) w) (A : Option Addr) (n c : Nat) (xs : List Win) (w : World) (ok : Win → Prop) (hok : ∀ x ∈ xs, ok x)
    (hp : Pred Tryz.prog g lb (fun x => .agg x.cells.toArray) ok p w) (hs : Sl w 3 Win.cells A n c xs) :
    Calls Tryz.prog 150 #[.slice A n c, .func (.func g) #[] lb] w fun e w' => .returned (.bool (xs.any p)) = e ∧ Below w.heap.size w w' := by
  rw [← idxP_nonneg p xs]
  have hcall : ∀ W : World, W = w → Calls Tryz.prog 157 #[.slice A n c, .func (.func g) #[] lb] W fun e w' => .returned (.int .i64 (idxP p xs)) = e ∧ Below W.heap.size W w' := by
    rintro W rfl
    exact indexWin p g lb eg A n c xs _ ok hok hp hs
  have hc := hcall w rfl
  clear hcall hp hs
  generalize idxP p xs = i at hc ⊢
  go_enter Tryz.func150, Tryz.ntmps150
  go_wp2_with fail
  refine hc.mono ?_
  rintro e w' ⟨rfl, hb⟩
  go_wp2
  go_ret
  exact ⟨rfl, hb⟩

def winsOk (xs : List Win) : Bool := decide (xs.length ≤ 12) && xs.all Win.ok
theorem winsOk_true {xs : List Win} : winsOk xs = true ↔ xs.length ≤ 12 ∧ ∀ x ∈ xs, x.ok = true := by simp [winsOk]
theorem any_not_ok (xs : List Win) : (!xs.any fun x => !x.ok) = xs.all Win.ok := by
  induction xs with
  | nil => rfl
  | cons a l ih => simp [← ih]

theorem enters_bad (args : Array Value) (w : World) : (callFunc 151 args).run Tryz.prog w = .ok (.enter 151 args) w := enters_of Tryz.func151 (by kernel_rfl) rfl args w

theorem windowsValid_any (A : Option Addr) (n c : Nat) (xs : List Win) (w : World) (hs : Sl w 3 Win.cells A n c xs) :
    Calls Tryz.prog 136 #[.slice A n c] w fun e w' => .returned (.bool (winsOk xs)) = e ∧ Below w.heap.size w w' := by
  have hl := hs.len
  by_cases h12 : n ≤ 12
  · have hv : winsOk xs = !xs.any fun x => !x.ok := by rw [any_not_ok]; simp [winsOk, hl, h12]
    rw [hv]
    have hcall : ∀ W : World, W = w → Calls Tryz.prog 150 #[.slice A n c, .func (.func 151) #[] #[]] W fun e w' => .returned (.bool (xs.any fun x => !x.ok)) = e ∧ Below W.heap.size W w' := by
      rintro W rfl
      exact containsWin _ _ _ enters_bad A n c xs _ (fun _ => True) (fun _ _ => trivial) (fun W x _ _ => bad_any x W) hs
    generalize (xs.any fun x => !x.ok) = v at hcall ⊢
    clear hv hl
    have hc := hcall w rfl
    clear hcall hs
    go_enter Tryz.func136, Tryz.ntmps136
    go_wp2_with fail
    refine hc.mono ?_
    rintro e w' ⟨rfl, hb⟩
    go_wp2
    go_ret
    exact ⟨rfl, hb⟩
  · have hv : winsOk xs = false := by simp [winsOk, hl, h12]
    rw [hv]
    clear hs
    go_enter Tryz.func136, Tryz.ntmps136
    go_wp2
    go_ret
    exact ⟨rfl, Below.refl _ _⟩
end Go.Proofs.YtckgdlgdipfgmaaGreat

namespace Go.Proofs.YtckgdlgdipfgmaaGreat
set_option linter.unusedVariables false
set_option linter.unusedSimpArgs false
open Go.RowKit Go.Shelf

def atP (place : Int) (wr : Bool) (x : Win) : Bool := x.has place && (x.wr || !wr)

def windowAt (xs : List Win) (place : Int) (wr : Bool) : Int := if winsOk xs then idxP (atP place wr) xs else -1

end Go.Proofs.YtckgdlgdipfgmaaGreat

namespace Go.Proofs.YtckgdlgdipfgmaaGreat
set_option linter.unusedVariables false
set_option linter.unusedSimpArgs false
open Go.RowKit

theorem l1Window_any (x : Win) (w : World) : Calls Tryz.prog 147 #[.agg #[.int .i64 x.base, .int .i64 x.size, .bool x.wr]] w fun e w' => .returned (.bool x.ok) = e ∧ Below w.heap.size w w' := by
  obtain ⟨b, s, wr⟩ := x
  simp only [Win.ok]
  cases hb : inB b 0 4095
  · have H := Lib.hid hb
    clear hb
    go_enter Tryz.func147, Tryz.ntmps147
    go_wp2_with (go_at_call 30; refine (l1In_any _ _ _ _).mono ?_; rw [H.out]; rintro e w' ⟨rfl, rfl⟩)
    go_ret
    exact ⟨rfl, (Below.refl _ _).alloc (Nat.le_refl _) _⟩
  · have h := inB_true.1 hb
    have H := Lib.hid hb
    clear hb
    go_enter Tryz.func147, Tryz.ntmps147
    go_wp2_with fail
    refine (l1In_any _ _ _ _).mono ?_; rw [H.out]; rintro e w' ⟨rfl, rfl⟩
    go_wp2_with (go_at_call 30; refine (l1In_any _ _ _ _).mono ?_; rintro e w' ⟨rfl, rfl⟩)
    go_ret
    exact ⟨by simp, (Below.refl _ _).alloc (Nat.le_refl _) _⟩

theorem specWindowsValid_any (A : Option Addr) (n c : Nat) (xs : List Win) (w : World) (hs : Sl w 3 Win.cells A n c xs) :
    Calls Tryz.prog 132 #[.slice A n c] w fun e w' => .returned (.bool (winsOk xs)) = e ∧ Below w.heap.size w w' := by
  have hle := hs.le
  have hmax := hs.max
  go_enter Tryz.func132, Tryz.ntmps132
  go_wp2
  go_loopg [3] n (fun gg s3 wr => ∃ kk : Nat, kk ≤ n ∧ n - kk ≤ gg ∧ s3 = .int .i64 kk ∧ Aside (Below w.heap.size w wr) ∧ Aside (∀ j y, j < kk → xs[j]? = some y → (Win.ok) y = true))
  case atStart => exact ⟨0, Nat.zero_le _, by omega, rfl, (show Aside _ from (by repeat (first | exact Below.refl _ _ | assumption | apply alo | (apply Below.setCell; rotate_left; (first | assumption | exact Nat.le_refl _ | (simp only []; omega))) | apply Below.drew | apply belowDrewN | (refine thn ?_ (by assumption))))), fun j _ hj => absurd hj (Nat.not_lt_zero _)⟩
  case round =>
    obtain ⟨kk, hkk, hg, rfl, BW, AA⟩ := hrel
    by_cases hlt : kk < n
    · have hltz : (kk : Int) < (n : Int) := by omega
      obtain ⟨b, o, rfl, hb, hc⟩ := hs.cells (by omega)
      have hlx : kk < xs.length := by have := hs.len; omega
      have hx : xs[kk]? = some xs[kk] := List.getElem?_eq_getElem hlx
      have hc0 := (BW.out.cell (p := ⟨b, o + kk * 3 + 0, none⟩) hb).trans (hc kk _ hx 0 _ rfl)
      have hc1 := (BW.out.cell (p := ⟨b, o + kk * 3 + 1, none⟩) hb).trans (hc kk _ hx 1 _ rfl)
      have hc2 := (BW.out.cell (p := ⟨b, o + kk * 3 + 2, none⟩) hb).trans (hc kk _ hx 2 _ rfl)
      clear hc
      have HX := Lib.hid hx
      clear hx
      generalize xs[kk] = y at hc0 hc1 hc2 HX
      simp only [Win.cells, Nat.add_zero, Nat.mul_one] at hc0 hc1 hc2
      have hcall := fun W => l1Window_any y W
      cases hq : y.ok
      all_goals
        simp only [hq] at hcall
        have HQ := Lib.hid hq
        clear hq
        go_wp2_with fail; refine (hcall _).mono ?_; rintro e w2 ⟨rfl, hbw2⟩
        go_wp2
      · go_ret
        exact ⟨by rw [winsOk, all_fails HX.out HQ.out, Bool.and_false]; rfl, (by have hBW := BW.out; repeat (first | exact Below.refl _ _ | assumption | apply alo | (apply Below.setCell; rotate_left; (first | assumption | exact Nat.le_refl _ | (simp only []; omega))) | apply Below.drew | apply belowDrewN | (refine thn ?_ (by assumption))))⟩
      · go_roundg (n - (kk + 1))
        case measure => omega
        case rel => exact ⟨kk + 1, by omega, by omega, by go_num, (show Aside _ from (by have hBW := BW.out; repeat (first | exact Below.refl _ _ | assumption | apply alo | (apply Below.setCell; rotate_left; (first | assumption | exact Nat.le_refl _ | (simp only []; omega))) | apply Below.drew | apply belowDrewN | (refine thn ?_ (by assumption))))), (show Aside _ from all_step AA.out HX.out (HQ.out))⟩
    · have hltz : ¬ (kk : Int) < (n : Int) := by omega
      obtain rfl : kk = n := by omega
      have hl := Lib.hid hs.len
      go_wp2
      go_ret
      exact ⟨by rw [winsOk, all_holds hl.out AA.out, hl.out, Bool.and_true]; simp; omega, BW.out⟩
end Go.Proofs.YtckgdlgdipfgmaaGreat

namespace Go.Proofs.YtckgdlgdipfgmaaGreat
set_option linter.unusedVariables false
set_option linter.unusedSimpArgs false
open Go.RowKit

theorem encW : Enc Win.cells 3 := ⟨fun _ => rfl, fun x u h => by simp [Win.cells] at h; rcases h with rfl | rfl | rfl <;> rfl⟩
def winV (x : Win) : Value := .agg #[.int .i64 x.base, .int .i64 x.size, .bool x.wr]
theorem zeroWin : ZeroT Tryz.prog 116 121 3 Win.cells (⟨0, 0, false⟩ : Win) := ZeroT.mk' (z := .agg #[.int .i64 0, .int .i64 0, .bool false]) (by kernel_rfl) (by kernel_rfl) rfl (by decide) (bytes := 24) (by decide)

def szOf (n : Nat) (left : Int) : Int := if left - (n : Int) < 0 then -1 else left - n
theorem szWindowS_any (A : Option Addr) (n c : Nat) (left : Int) (hl : 0 ≤ left ∧ left ≤ 1048576) (hn : n ≤ 9223372036854775807) (w : World) :
    Calls Tryz.prog 131 #[.slice A n c, .int .i64 left] w fun e w' => .returned (.int .i64 (szOf n left)) = e ∧ w = w' := by
  obtain ⟨h1, h2⟩ := hl
  unfold szOf
  by_cases h : left - (n : Int) < 0
  · rw [if_pos h]
    go_enter Tryz.func131, Tryz.ntmps131
    go_wp2
    go_ret
    exact ⟨rfl, rfl⟩
  · rw [if_neg h]
    go_enter Tryz.func131, Tryz.ntmps131
    go_wp2
    go_ret
    exact ⟨rfl, rfl⟩

theorem toWindow_any (x : Win) (w : World) : Calls Tryz.prog 148 #[winV x] w fun e w' => .returned (winV x) = e ∧ Below w.heap.size w w' := by
  obtain ⟨b, s, z⟩ := x
  simp only [winV]
  go_enter Tryz.func148, Tryz.ntmps148
  go_wp2
  exact bodyPost_ret (v := winV ⟨b, s, z⟩) (by simp [results, Tryz.results148, go_sem, winV]) rfl ⟨rfl, (by repeat (first | exact Below.refl _ _ | assumption | apply alo | (apply Below.setCell; rotate_left; (first | assumption | exact Nat.le_refl _ | (simp only []; omega))) | apply Below.drew | apply belowDrewN | (refine thn ?_ (by assumption))))⟩

theorem eqWindow_any (x : Win) (w : World) : Calls Tryz.prog 154 #[winV x, winV x] w fun e w' => .returned (.bool true) = e ∧ Below w.heap.size w w' := by
  obtain ⟨b, s, z⟩ := x
  simp only [winV]
  go_enter Tryz.func154, Tryz.ntmps154
  go_wp2
  go_ret
  exact ⟨rfl, (by repeat (first | exact Below.refl _ _ | assumption | apply alo | (apply Below.setCell; rotate_left; (first | assumption | exact Nat.le_refl _ | (simp only []; omega))) | apply Below.drew | apply belowDrewN | (refine thn ?_ (by assumption))))⟩

set_option maxHeartbeats 1000000 in
theorem toWindowS_any (A : Option Addr) (n c : Nat) (xs : List Win) (hn : n ≤ 1048576) (w : World) (hs : Sl w 3 Win.cells A n c xs) :
    Calls Tryz.prog 133 #[.slice A n c] w (Post (whole n) fun g w' => Blk w' g 121 (xs.flatMap Win.cells).toArray ∧ w.heap.size ≤ g ∧ Below w.heap.size w w') := by
  have hle := hs.le
  have hmax := hs.max
  have hl := hs.len
  go_enter Tryz.func133, Tryz.ntmps133
  go_wp2_with (at_make; refine make_own rfl _ _ zeroWin rfl encW w.heap.size _ _ n rfl rfl (by omega) (by omega) (by omega) (Nat.le_refl _) ?_; intro w1 own1 hg1; have hb1 := below_of_grown hg1; have U1 : Upto w1 w.heap.size 121 0 (xs.flatMap Win.cells) := Upto.made (n := n) (c := n) encW own1 (by rw [List.length_replicate]; exact hl); clear own1 hg1)
  go_loopg [4] n (fun gg s4 wr => ∃ kk : Nat, kk ≤ n ∧ n - kk ≤ gg ∧ s4 = .int .i64 kk ∧ Aside (Below w.heap.size w wr) ∧ Aside (Upto wr w.heap.size 121 (kk * 3) (xs.flatMap Win.cells)))
  case atStart => exact ⟨0, Nat.zero_le _, by omega, rfl, (show Aside _ from hb1), (show Aside _ from by rw [Nat.zero_mul]; exact U1)⟩
  case round =>
    obtain ⟨kk, hkk, hg, rfl, BW, UU⟩ := hrel
    clear hb1 U1
    have U1 := UU.out
    clear UU
    by_cases hlt : kk < n
    · have hltz : (kk : Int) < (n : Int) := by omega
      obtain ⟨b, o, rfl, y, hx, hc⟩ := hs.nth hlt BW.out
      have hc0 := hc 0 _ rfl
      have hc1 := hc 1 _ rfl
      have hc2 := hc 2 _ rfl
      have f0 := Lib.hid (flat_at encW hx 0 (kk * 3) _ rfl rfl)
      have f1 := Lib.hid (flat_at encW hx 1 (kk * 3 + 1) _ rfl rfl)
      have f2 := Lib.hid (flat_at encW hx 2 (kk * 3 + 2) _ rfl rfl)
      clear hc hx
      have hq := fun W => toWindow_any y W
      obtain ⟨yb, ys, yw⟩ := y
      simp only [Win.cells, Nat.add_zero, winV] at hc0 hc1 hc2 hq f0 f1 f2
      have hz := U1.lt
      go_wp2_with fail
      refine (hq _).mono ?_
      rintro e w2 ⟨rfl, hb2⟩
      replace U1 := U1.below hb2
      have hB2 := thn BW.out hb2
      have hfr := U1.frozen
      obtain ⟨v0, e0⟩ := U1.has f0.out
      obtain ⟨v1, e1⟩ := U1.has f1.out
      obtain ⟨v2, e2⟩ := U1.has f2.out
      clear hb2 hq
      go_wp2
      go_roundg (n - (kk + 1))
      case measure => omega
      case rel => exact ⟨kk + 1, by omega, by omega, by go_num, (show Aside _ from below_set3' hB2 (Nat.le_refl _) _ _ _ _ _ _), (show Aside _ from by have := ((U1.set f0.out).set f1.out).set f2.out; rw [show (kk + 1) * 3 = kk * 3 + 1 + 1 + 1 by omega]; exact this)⟩
    · have hltz : ¬ (kk : Int) < (n : Int) := by omega
      obtain rfl : kk = n := by omega
      go_wp2
      go_ret
      exact ⟨w.heap.size, rfl, U1.full (by rw [flatMap_len encW.len, hl]; omega), Nat.le_refl _, BW.out⟩

theorem eqWindowS_any (A A' : Option Addr) (n c c' : Nat) (xs : List Win) (w : World) (hs : Sl w 3 Win.cells A n c xs) (hs' : Sl w 3 Win.cells A' n c' xs) :
    Calls Tryz.prog 141 #[.slice A n c, .slice A' n c'] w fun e w' => .returned (.bool true) = e ∧ Below w.heap.size w w' := by
  have hle := hs.le
  have hmax := hs.max
  have hle' := hs'.le
  go_enter Tryz.func141, Tryz.ntmps141
  go_wp2
  go_loopg [5] n (fun gg s3 wr => ∃ kk : Nat, kk ≤ n ∧ n - kk ≤ gg ∧ s3 = .int .i64 kk ∧ Aside (Below w.heap.size w wr))
  case atStart => exact ⟨0, Nat.zero_le _, by omega, rfl, (show Aside _ from Below.refl _ _)⟩
  case round =>
    obtain ⟨kk, hkk, hg, rfl, BW⟩ := hrel
    by_cases hlt : kk < n
    · have hltz : (kk : Int) < (n : Int) := by omega
      obtain ⟨b, o, rfl, y, hx, hc⟩ := hs.nth hlt BW.out
      obtain ⟨b', o', rfl, y', hx', hc'⟩ := hs'.nth hlt BW.out
      obtain rfl : y = y' := by rw [hx'] at hx; injection hx with hx; exact hx.symm
      clear hx hx'
      have hq := fun W => eqWindow_any y W
      have g0 := fun x : Near wr => (x.b.cell (p := ⟨b, o + kk * 3 + 0, none⟩) (World.block_lt_of_cell? _ _ (hc 0 _ rfl))).trans (hc 0 _ rfl)
      have g1 := fun x : Near wr => (x.b.cell (p := ⟨b, o + kk * 3 + 1, none⟩) (World.block_lt_of_cell? _ _ (hc 1 _ rfl))).trans (hc 1 _ rfl)
      have g2 := fun x : Near wr => (x.b.cell (p := ⟨b, o + kk * 3 + 2, none⟩) (World.block_lt_of_cell? _ _ (hc 2 _ rfl))).trans (hc 2 _ rfl)
      have g0' := fun x : Near wr => (x.b.cell (p := ⟨b', o' + kk * 3 + 0, none⟩) (World.block_lt_of_cell? _ _ (hc' 0 _ rfl))).trans (hc' 0 _ rfl)
      have g1' := fun x : Near wr => (x.b.cell (p := ⟨b', o' + kk * 3 + 1, none⟩) (World.block_lt_of_cell? _ _ (hc' 1 _ rfl))).trans (hc' 1 _ rfl)
      have g2' := fun x : Near wr => (x.b.cell (p := ⟨b', o' + kk * 3 + 2, none⟩) (World.block_lt_of_cell? _ _ (hc' 2 _ rfl))).trans (hc' 2 _ rfl)
      clear hc hc'
      obtain ⟨yb, ys, yw⟩ := y
      simp only [Win.cells, Nat.add_zero, winV] at g0 g1 g2 g0' g1' g2' hq
      skip
      go_wp2_with fail
      refine wp_region_near (by kernel_rfl) (by kernel_rfl) ?_; (repeat (go_big_quiet_step (first | (go_at_call 154; with_reducible exact near_call (hq _))))); refine wpQuiet_nil ?_; intro xN; have hbw2 := xN.b; generalize xN.W = w2 at hbw2 ⊢; clear xN
      clear g0 g1 g2 g0' g1' g2' hq
      go_wp2
      go_roundg (n - (kk + 1))
      case measure => omega
      case rel => exact ⟨kk + 1, by omega, by omega, by go_num, (show Aside _ from thn BW.out hbw2)⟩
    · have hltz : ¬ (kk : Int) < (n : Int) := by omega
      obtain rfl : kk = n := by omega
      go_wp2
      go_ret
      exact ⟨rfl, BW.out⟩
end Go.Proofs.YtckgdlgdipfgmaaGreat

namespace Go.Proofs.YtckgdlgdipfgmaaGreat
set_option linter.unusedVariables false
set_option linter.unusedSimpArgs false
open Go.RowKit

def szOfOrder (n : Nat) (left : Int) : Int := if left - (n : Int) < 0 then -1 else left - n
theorem szOrderS_any (A : Option Addr) (n c : Nat) (left : Int) (hl : 0 ≤ left ∧ left ≤ 1048576) (hn : n ≤ 9223372036854775807) (w : World) :
    Calls Tryz.prog 65 #[.slice A n c, .int .i64 left] w fun e w' => .returned (.int .i64 (szOfOrder n left)) = e ∧ w = w' := by
  obtain ⟨h1, h2⟩ := hl
  unfold szOfOrder
  by_cases h : left - (n : Int) < 0
  · rw [if_pos h]
    go_enter Tryz.func65, Tryz.ntmps65
    go_wp2
    go_ret
    exact ⟨rfl, rfl⟩
  · rw [if_neg h]
    go_enter Tryz.func65, Tryz.ntmps65
    go_wp2
    go_ret
    exact ⟨rfl, rfl⟩

theorem toOrder_any (y0 : Int) (y1 : Int) (y2 : Int) (w : World) : Calls Tryz.prog 111 #[.agg #[.int .i64 y0, .int .i64 y1, .int .i64 y2]] w fun e w' => .returned (.agg #[.int .i64 y0, .int .i64 y1, .int .i64 y2]) = e ∧ Below w.heap.size w w' := by
  go_enter Tryz.func111, Tryz.ntmps111
  go_wp2
  exact bodyPost_ret (v := .agg #[.int .i64 y0, .int .i64 y1, .int .i64 y2]) (by simp [results, Tryz.results111, go_sem, ]) rfl ⟨rfl, (by repeat (first | exact Below.refl _ _ | assumption | apply alo | (apply Below.setCell; rotate_left; (first | assumption | exact Nat.le_refl _ | (simp only []; omega))) | apply Below.drew | apply belowDrewN | (refine thn ?_ (by assumption))))⟩

theorem eqOrder_any (y0 : Int) (y1 : Int) (y2 : Int) (w : World) : Calls Tryz.prog 121 #[.agg #[.int .i64 y0, .int .i64 y1, .int .i64 y2], .agg #[.int .i64 y0, .int .i64 y1, .int .i64 y2]] w fun e w' => .returned (.bool true) = e ∧ Below w.heap.size w w' := by
  go_enter Tryz.func121, Tryz.ntmps121
  go_wp2
  go_ret
  exact ⟨rfl, (by repeat (first | exact Below.refl _ _ | assumption | apply alo | (apply Below.setCell; rotate_left; (first | assumption | exact Nat.le_refl _ | (simp only []; omega))) | apply Below.drew | apply belowDrewN | (refine thn ?_ (by assumption))))⟩

set_option maxHeartbeats 1000000 in
theorem toOrderS_any (A : Option Addr) (n c : Nat) (xs : List (Int × Int × Int)) (hn : n ≤ 1048576) (w : World) (hs : Sl w 3 eO A n c xs) :
    Calls Tryz.prog 76 #[.slice A n c] w (Post (whole n) fun g w' => Blk w' g 87 (xs.flatMap eO).toArray ∧ w.heap.size ≤ g ∧ Below w.heap.size w w') := by
  have hle := hs.le
  have hmax := hs.max
  have hl := hs.len
  go_enter Tryz.func76, Tryz.ntmps76
  go_wp2_with (at_make; refine make_own rfl _ _ zeroOrd rfl encO w.heap.size _ _ n rfl rfl (by omega) (by omega) (by omega) (Nat.le_refl _) ?_; intro w1 own1 hg1; have hb1 := below_of_grown hg1; have U1 : Upto w1 w.heap.size 87 0 (xs.flatMap eO) := Upto.made (n := n) (c := n) encO own1 (by rw [List.length_replicate]; exact hl); clear own1 hg1)
  go_loopg [4] n (fun gg s4 wr => ∃ kk : Nat, kk ≤ n ∧ n - kk ≤ gg ∧ s4 = .int .i64 kk ∧ Aside (Below w.heap.size w wr) ∧ Aside (Upto wr w.heap.size 87 (kk * 3) (xs.flatMap eO)))
  case atStart => exact ⟨0, Nat.zero_le _, by omega, rfl, (show Aside _ from hb1), (show Aside _ from by rw [Nat.zero_mul]; exact U1)⟩
  case round =>
    obtain ⟨kk, hkk, hg, rfl, BW, UU⟩ := hrel
    clear hb1 U1
    have U1 := UU.out
    clear UU
    by_cases hlt : kk < n
    · have hltz : (kk : Int) < (n : Int) := by omega
      obtain ⟨b, o, rfl, y, hx, hc⟩ := hs.nth hlt BW.out
      have hc0 := hc 0 _ rfl
      have hc1 := hc 1 _ rfl
      have hc2 := hc 2 _ rfl
      have f0 := Lib.hid (flat_at encO hx 0 (kk * 3) _ rfl rfl)
      have f1 := Lib.hid (flat_at encO hx 1 (kk * 3 + 1) _ rfl rfl)
      have f2 := Lib.hid (flat_at encO hx 2 (kk * 3 + 2) _ rfl rfl)
      clear hc hx
      obtain ⟨y0, y1, y2⟩ := y
      have hq := fun W => toOrder_any y0 y1 y2 W
      simp only [eO, Nat.add_zero] at hc0 hc1 hc2 f0 f1 f2
      have hz := U1.lt
      go_wp2_with fail
      refine (hq _).mono ?_
      rintro e w2 ⟨rfl, hb2⟩
      replace U1 := U1.below hb2
      have hB2 := thn BW.out hb2
      have hfr := U1.frozen
      obtain ⟨v0, e0⟩ := U1.has f0.out
      obtain ⟨v1, e1⟩ := U1.has f1.out
      obtain ⟨v2, e2⟩ := U1.has f2.out
      clear hb2 hq
      go_wp2
      go_roundg (n - (kk + 1))
      case measure => omega
      case rel => exact ⟨kk + 1, by omega, by omega, by go_num, (show Aside _ from (Below.setCell (Below.setCell (Below.setCell hB2 (p := ⟨w.heap.size, _, none⟩) (Nat.le_refl _) _) (p := ⟨w.heap.size, _, none⟩) (Nat.le_refl _) _) (p := ⟨w.heap.size, _, none⟩) (Nat.le_refl _) _)), (show Aside _ from by have := (((U1.set f0.out).set f1.out).set f2.out); rw [show (kk + 1) * 3 = kk * 3 + 1 + 1 + 1 by omega]; exact this)⟩
    · have hltz : ¬ (kk : Int) < (n : Int) := by omega
      obtain rfl : kk = n := by omega
      go_wp2
      go_ret
      exact ⟨w.heap.size, rfl, U1.full (by rw [flatMap_len encO.len, hl]; omega), Nat.le_refl _, BW.out⟩

theorem eqOrderS_any (A A' : Option Addr) (n c c' : Nat) (xs : List (Int × Int × Int)) (w : World) (hs : Sl w 3 eO A n c xs) (hs' : Sl w 3 eO A' n c' xs) :
    Calls Tryz.prog 87 #[.slice A n c, .slice A' n c'] w fun e w' => .returned (.bool true) = e ∧ Below w.heap.size w w' := by
  have hle := hs.le
  have hmax := hs.max
  have hle' := hs'.le
  go_enter Tryz.func87, Tryz.ntmps87
  go_wp2
  go_loopg [5] n (fun gg s3 wr => ∃ kk : Nat, kk ≤ n ∧ n - kk ≤ gg ∧ s3 = .int .i64 kk ∧ Aside (Below w.heap.size w wr))
  case atStart => exact ⟨0, Nat.zero_le _, by omega, rfl, (show Aside _ from Below.refl _ _)⟩
  case round =>
    obtain ⟨kk, hkk, hg, rfl, BW⟩ := hrel
    by_cases hlt : kk < n
    · have hltz : (kk : Int) < (n : Int) := by omega
      obtain ⟨b, o, rfl, y, hx, hc⟩ := hs.nth hlt BW.out
      obtain ⟨b', o', rfl, y', hx', hc'⟩ := hs'.nth hlt BW.out
      obtain rfl : y = y' := by rw [hx'] at hx; injection hx with hx; exact hx.symm
      clear hx hx'
      have g0 := fun x : Near wr => (x.b.cell (p := ⟨b, o + kk * 3 + 0, none⟩) (World.block_lt_of_cell? _ _ (hc 0 _ rfl))).trans (hc 0 _ rfl)
      have p0 := fun x : Near wr => (x.b.cell (p := ⟨b', o' + kk * 3 + 0, none⟩) (World.block_lt_of_cell? _ _ (hc' 0 _ rfl))).trans (hc' 0 _ rfl)
      have g1 := fun x : Near wr => (x.b.cell (p := ⟨b, o + kk * 3 + 1, none⟩) (World.block_lt_of_cell? _ _ (hc 1 _ rfl))).trans (hc 1 _ rfl)
      have p1 := fun x : Near wr => (x.b.cell (p := ⟨b', o' + kk * 3 + 1, none⟩) (World.block_lt_of_cell? _ _ (hc' 1 _ rfl))).trans (hc' 1 _ rfl)
      have g2 := fun x : Near wr => (x.b.cell (p := ⟨b, o + kk * 3 + 2, none⟩) (World.block_lt_of_cell? _ _ (hc 2 _ rfl))).trans (hc 2 _ rfl)
      have p2 := fun x : Near wr => (x.b.cell (p := ⟨b', o' + kk * 3 + 2, none⟩) (World.block_lt_of_cell? _ _ (hc' 2 _ rfl))).trans (hc' 2 _ rfl)
      clear hc hc'
      obtain ⟨y0, y1, y2⟩ := y
      have hq := fun W => eqOrder_any y0 y1 y2 W
      simp only [eO, Nat.add_zero] at g0 p0 g1 p1 g2 p2
      skip
      go_wp2_with fail
      refine wp_region_near (by kernel_rfl) (by kernel_rfl) ?_; (repeat (go_big_quiet_step (first | (go_at_call 121; with_reducible exact near_call (hq _))))); refine wpQuiet_nil ?_; intro xN; have hbw2 := xN.b; generalize xN.W = w2 at hbw2 ⊢; clear xN
      clear g0 p0 g1 p1 g2 p2 hq
      go_wp2
      go_roundg (n - (kk + 1))
      case measure => omega
      case rel => exact ⟨kk + 1, by omega, by omega, by go_num, (show Aside _ from thn BW.out hbw2)⟩
    · have hltz : ¬ (kk : Int) < (n : Int) := by omega
      obtain rfl : kk = n := by omega
      go_wp2
      go_ret
      exact ⟨rfl, BW.out⟩
end Go.Proofs.YtckgdlgdipfgmaaGreat

namespace Go.Proofs.YtckgdlgdipfgmaaGreat
set_option linter.unusedVariables false
set_option linter.unusedSimpArgs false
open Go.RowKit

def szOfInt (n : Nat) (left : Int) : Int := if left - (n : Int) < 0 then -1 else left - n
theorem szOfInt_neg {n : Nat} (h : ¬ n ≤ 1048576) : szOfInt n 1048576 = -1 := by unfold szOfInt; rw [if_pos (by omega)]
theorem szOfInt_pos {n : Nat} (h : n ≤ 1048576) : szOfInt n 1048576 = 1048576 - n := by unfold szOfInt; rw [if_neg (by omega)]
theorem szIntS_any (A : Option Addr) (n c : Nat) (left : Int) (hl : 0 ≤ left ∧ left ≤ 1048576) (hn : n ≤ 9223372036854775807) (w : World) :
    Calls Tryz.prog 105 #[.slice A n c, .int .i64 left] w fun e w' => .returned (.int .i64 (szOfInt n left)) = e ∧ w = w' := by
  obtain ⟨h1, h2⟩ := hl
  unfold szOfInt
  by_cases h : left - (n : Int) < 0
  · rw [if_pos h]
    go_enter Tryz.func105, Tryz.ntmps105
    go_wp2
    go_ret
    exact ⟨rfl, rfl⟩
  · rw [if_neg h]
    go_enter Tryz.func105, Tryz.ntmps105
    go_wp2
    go_ret
    exact ⟨rfl, rfl⟩

set_option maxHeartbeats 1000000 in
theorem toIntS_any (A : Option Addr) (n c : Nat) (xs : List Int) (hn : n ≤ 1048576) (w : World) (hs : Sl w 1 eI A n c xs) :
    Calls Tryz.prog 112 #[.slice A n c] w (Post (whole n) fun g w' => Blk w' g 3 (xs.flatMap eI).toArray ∧ w.heap.size ≤ g ∧ Below w.heap.size w w') := by
  have hle := hs.le
  have hmax := hs.max
  have hl := hs.len
  go_enter Tryz.func112, Tryz.ntmps112
  go_wp2_with (at_make; refine make_own rfl _ _ zeroInt rfl encI w.heap.size _ _ n rfl rfl (by omega) (by omega) (by omega) (Nat.le_refl _) ?_; intro w1 own1 hg1; have hb1 := below_of_grown hg1; have U1 : Upto w1 w.heap.size 3 0 (xs.flatMap eI) := Upto.made (n := n) (c := n) encI own1 (by rw [List.length_replicate]; exact hl); clear own1 hg1)
  go_loopg [4] n (fun gg s4 wr => ∃ kk : Nat, kk ≤ n ∧ n - kk ≤ gg ∧ s4 = .int .i64 kk ∧ Aside (Below w.heap.size w wr) ∧ Aside (Upto wr w.heap.size 3 kk (xs.flatMap eI)))
  case atStart => exact ⟨0, Nat.zero_le _, by omega, rfl, (show Aside _ from hb1), (show Aside _ from U1)⟩
  case round =>
    obtain ⟨kk, hkk, hg, rfl, BW, UU⟩ := hrel
    clear hb1 U1
    have U1 := UU.out
    clear UU
    by_cases hlt : kk < n
    · have hltz : (kk : Int) < (n : Int) := by omega
      obtain ⟨b, o, rfl, y, hx, hc⟩ := hs.nth hlt BW.out
      have hc0 := hc 0 _ rfl
      have f0 := Lib.hid (flat_at encI hx 0 (kk * 1) _ rfl rfl)
      clear hc hx
      simp only [eI, Nat.add_zero, Nat.mul_one] at hc0 f0
      have hz := U1.lt
      have hfr := U1.frozen
      obtain ⟨v0, e0⟩ := U1.has f0.out
      go_wp2
      go_roundg (n - (kk + 1))
      case measure => omega
      case rel => exact ⟨kk + 1, by omega, by omega, by go_num, (show Aside _ from Below.setCell BW.out (p := ⟨w.heap.size, _, none⟩) (Nat.le_refl _) _), (show Aside _ from U1.set f0.out)⟩
    · have hltz : ¬ (kk : Int) < (n : Int) := by omega
      obtain rfl : kk = n := by omega
      go_wp2
      go_ret
      exact ⟨w.heap.size, rfl, U1.full (by rw [flatMap_len encI.len, hl]; omega), Nat.le_refl _, BW.out⟩

theorem eqIntS_any (A A' : Option Addr) (n c c' : Nat) (xs : List Int) (w : World) (hs : Sl w 1 eI A n c xs) (hs' : Sl w 1 eI A' n c' xs) :
    Calls Tryz.prog 16 #[.slice A n c, .slice A' n c'] w fun e w' => .returned (.bool true) = e ∧ Below w.heap.size w w' := by
  have hle := hs.le
  have hmax := hs.max
  have hle' := hs'.le
  go_enter Tryz.func16, Tryz.ntmps16
  go_wp2
  go_loopg [5] n (fun gg s3 wr => ∃ kk : Nat, kk ≤ n ∧ n - kk ≤ gg ∧ s3 = .int .i64 kk ∧ Aside (Below w.heap.size w wr))
  case atStart => exact ⟨0, Nat.zero_le _, by omega, rfl, (show Aside _ from Below.refl _ _)⟩
  case round =>
    obtain ⟨kk, hkk, hg, rfl, BW⟩ := hrel
    by_cases hlt : kk < n
    · have hltz : (kk : Int) < (n : Int) := by omega
      obtain ⟨b, o, rfl, y, hx, hc⟩ := hs.nth hlt BW.out
      obtain ⟨b', o', rfl, y', hx', hc'⟩ := hs'.nth hlt BW.out
      obtain rfl : y = y' := by rw [hx'] at hx; injection hx with hx; exact hx.symm
      clear hx hx'
      have g0 := hc 0 _ rfl
      have p0 := hc' 0 _ rfl
      clear hc hc'
      simp only [eI, Nat.add_zero, Nat.mul_one] at g0 p0
      go_wp2_with fail
      go_quiet (fail)
      go_wp2
      go_roundg (n - (kk + 1))
      case measure => omega
      case rel => exact ⟨kk + 1, by omega, by omega, by go_num, (show Aside _ from (by have hBW := BW.out; repeat (first | exact Below.refl _ _ | assumption | apply alo | (apply Below.setCell; rotate_left; (first | assumption | exact Nat.le_refl _ | (simp only []; omega))) | apply Below.drew | apply belowDrewN | (refine thn ?_ (by assumption)))))⟩
    · have hltz : ¬ (kk : Int) < (n : Int) := by omega
      obtain rfl : kk = n := by omega
      go_wp2
      go_ret
      exact ⟨rfl, BW.out⟩
end Go.Proofs.YtckgdlgdipfgmaaGreat

namespace Go.Proofs.YtckgdlgdipfgmaaGreat
set_option linter.unusedVariables false
set_option linter.unusedSimpArgs false
open Go.RowKit

/-- A slice of the call's own whose cells may be written. -/
structure WS {α : Type} (w : World) (base E k : Nat) (enc : α → List Value) (s : SV α) : Prop where
  ok : SV.ok w base k enc s
  wr : 0 < s.n → ∃ g o cs, s.A = some ⟨g, o, none⟩ ∧ Blk w g E cs ∧ o + s.n * k ≤ cs.size
section
variable {α : Type} {w w' : World} {base base' E k : Nat} {enc : α → List Value} {s : SV α}
theorem WS.below (h : WS w base E k enc s) (hb : Below w.heap.size w w') : WS w' base E k enc s :=
  ⟨⟨h.ok.sl.below hb, h.ok.fresh, h.ok.nil, h.ok.spot⟩, fun hn => by
    obtain ⟨g, o, cs, e, B, hc⟩ := h.wr hn
    exact ⟨g, o, cs, e, B.below hb, hc⟩⟩
theorem WS.mono (h : WS w base E k enc s) (hb : base' ≤ base) : WS w base' E k enc s := ⟨h.ok.mono hb, h.wr⟩
theorem WS.set (h : WS w base E k enc s) {g i : Nat} (hg : g < base) (u : Value) : WS (w.setCell ⟨g, i, none⟩ u) base E k enc s :=
  ⟨⟨h.ok.sl.keep (by simp [World.setCell]) (fun b o e => Below.heap_setCell _ _ _ _ (by have := h.ok.fresh b o e; simp only []; omega)), h.ok.fresh, h.ok.nil, h.ok.spot⟩, fun hn => by
    obtain ⟨b, o, cs, e, B, hc⟩ := h.wr hn
    exact ⟨b, o, cs, e, B.far (by have := h.ok.fresh b o e; simp only []; omega) _, hc⟩⟩
theorem WS.nilS : WS w base E k enc ⟨none, 0, 0, ([] : List α)⟩ := ⟨⟨⟨rfl, Nat.le_refl _, by simp, fun h => absurd h (Nat.lt_irrefl _)⟩, (fun b o e => by cases e), (fun _ => rfl), (fun _ e => by cases e)⟩, fun h => absurd h (Nat.lt_irrefl _)⟩
theorem Own.ws {n c c' : Nat} {A : Option Addr} {xs : List α} (hk : Enc enc k) (h : Own w base E k enc (.slice A n c) xs) (hc : n ≤ c' ∧ c' ≤ c) : WS w base E k enc ⟨A, n, c', xs⟩ := by
  have hok := h.okv hk
  refine ⟨⟨⟨hok.sl.len, hc.1, Nat.le_trans hc.2 hok.sl.max, hok.sl.cells⟩, hok.fresh, fun e => ?_, hok.spot⟩, fun hn => ?_⟩
  · have := hok.nil e
    simp only [] at this ⊢
    omega
  · rcases h.2 with ⟨h1, h2⟩ | ⟨g, cap, cur, h1, hb, hg, hnc, hm, hs, ht⟩
    · injection h1 with _ h3 _
      subst h3
      exact absurd hn (Nat.lt_irrefl _)
    · injection h1 with h3 h4 h5
      subst h3 h5
      refine ⟨g, 0, cur, rfl, hg, ?_⟩
      rw [hs, Nat.zero_add]
      exact Nat.mul_le_mul_right _ (by have := hok.sl.le; simp only [] at this ⊢; omega)
theorem WS.of_blk {g : Nat} {xs : List α} (h : Blk w g E (xs.flatMap enc).toArray) (hb : base ≤ g) (hk : Enc enc k) (hm : xs.length ≤ 9223372036854775807) : WS w base E k enc ⟨some ⟨g, 0, none⟩, xs.length, xs.length, xs⟩ :=
  ⟨⟨Sl.of_blk h hk hm, (fun b o e => by injection e with e; injection e with e1 _; omega), (fun e => by cases e), (fun ad e => by injection e with e; rw [← e])⟩, fun _ => ⟨g, 0, _, rfl, h, by simp [flatMap_len hk.len]⟩⟩
/-- The block of a slice. -/
def SV.row (s : SV α) : Option Nat := if 0 < s.n then s.A.map (·.block) else none
/-- It is no block of another type. -/
theorem WS.rowNe {g t : Nat} {cs : Array Value} (h : WS w base E k enc s) (hB : Blk w g t cs) (ht : t ≠ E) : s.row ≠ some g := by
  unfold SV.row
  split
  · rename_i hn
    obtain ⟨b, o, cur, e, B, hc⟩ := h.wr hn
    rw [e]
    intro e'
    have e2 : b = g := by injection e'
    subst e2
    unfold Blk at B hB
    rw [B] at hB
    injection hB with hB
    injection hB with _ h3 _
    exact ht h3.symm
  · intro e; cases e
theorem WS.rowGe {g : Nat} (h : WS w base E k enc s) (e : s.row = some g) : base ≤ g ∧ g < w.heap.size := by
  unfold SV.row at e
  split at e
  · rename_i hn
    obtain ⟨b, o, cur, e2, B, hc⟩ := h.wr hn
    rw [e2] at e
    have e3 : b = g := by injection e
    subst e3
    exact ⟨h.ok.fresh b o e2, B.lt⟩
  · cases e
/-- A slice in another block is not touched by what turns one block alone. -/
theorem Sl.other {A : Option Addr} {n c : Nat} {xs : List α} {row : Option Nat} (h : Sl w k enc A n c xs) (hg : w.grownBy w' row) (hne : ∀ b o, A = some ⟨b, o, none⟩ → row ≠ some b) : Sl w' k enc A n c xs :=
  ⟨h.len, h.le, h.max, fun hn => by
    obtain ⟨b, o, rfl, hb, hc⟩ := h.cells hn
    exact ⟨b, o, rfl, Nat.lt_of_lt_of_le hb hg.size, fun j x hx i u hu => (World.cell?_of_block (w := w) (hg.block b hb (fun e => hne b o rfl e.symm))).trans (hc j x hx i u hu)⟩⟩
theorem WS.other {row : Option Nat} (h : WS w base E k enc s) (hg : w.grownBy w' row) (hne : ∀ b o, s.A = some ⟨b, o, none⟩ → row ≠ some b) : WS w' base E k enc s :=
  ⟨⟨h.ok.sl.other hg hne, h.ok.fresh, h.ok.nil, h.ok.spot⟩, fun hn => by
    obtain ⟨g, o, cs, e, B, hc⟩ := h.wr hn
    exact ⟨g, o, cs, e, (hg.block g B.lt (fun e' => hne g o e e'.symm)).trans B, hc⟩⟩
theorem Blk.other {g t : Nat} {cs : Array Value} {row : Option Nat} (h : Blk w g t cs) (hg : w.grownBy w' row) (hne : row ≠ some g) : Blk w' g t cs := (hg.block g h.lt (fun e => hne e.symm)).trans h
theorem Below.other {B : Nat} {a : World} {row : Option Nat} (h : Below B a w) (hg : w.grownBy w' row) (hr : ∀ g, row = some g → B ≤ g) (hB : B ≤ w.heap.size) : Below B a w' :=
  h.trans ⟨hg.os, hg.tape, hg.output, hg.size, fun i hi => hg.block i (by omega) (fun e => by have := hr i e.symm; omega)⟩
end
/-- Marks: numbers that go on. -/
def marksI (k : Int) (n : Nat) : List Int := (List.range n).map fun (j : Nat) => k + (j : Int)
def marksS (k : Int) (n : Nat) : List (Int × Int) := (List.range n).map fun (j : Nat) => (k + 2 * (j : Int), k + 2 * (j : Int) + 1)
theorem marksI_at {k : Int} {n j : Nat} {x : Int} (h : (marksI k n)[j]? = some x) : j < n ∧ x = k + (j : Int) := by
  unfold marksI at h
  rw [List.getElem?_map] at h
  by_cases hj : j < n
  · rw [List.getElem?_range hj] at h
    simp at h
    exact ⟨hj, h.symm⟩
  · rw [List.getElem?_eq_none (by simp; omega)] at h
    cases h
theorem marksS_at {k : Int} {n j : Nat} {x : Int × Int} (h : (marksS k n)[j]? = some x) : j < n ∧ x = (k + 2 * (j : Int), k + 2 * (j : Int) + 1) := by
  unfold marksS at h
  rw [List.getElem?_map] at h
  by_cases hj : j < n
  · rw [List.getElem?_range hj] at h
    simp at h
    exact ⟨hj, h.symm⟩
  · rw [List.getElem?_eq_none (by simp; omega)] at h
    cases h

set_option maxHeartbeats 1000000 in
theorem markIntS_any (s : SV Int) (k : Int) (base : Nat) (hk : 0 ≤ k ∧ k ≤ 10000000) (hn : s.n ≤ 10000000) (w : World) (hs : WS w base 3 1 eI s) :
    Calls Tryz.prog 18 #[s.v, .int .i64 k] w fun e w' => .returned (.int .i64 (k + s.n)) = e ∧ w.grownBy w' s.row ∧ WS w' base 3 1 eI ⟨s.A, s.n, s.c, marksI k s.n⟩ := by
  obtain ⟨A, n, c, xs⟩ := s
  obtain ⟨hok, hwr⟩ := hs
  simp only [SV.v, SV.row] at hn hwr ⊢
  have hle := hok.sl.le
  have hmax := hok.sl.max
  by_cases hn0 : 0 < n
  · rw [if_pos hn0]
    obtain ⟨g, o, cs, rfl, B, hc⟩ := hwr hn0
    simp only [] at hle hmax
    go_enter Tryz.func18, Tryz.ntmps18
    go_wp2
    go_loopg [1, 5] n (fun gg s1 s5 wr => ∃ (kk : Nat) (cs' : Array Value), kk ≤ n ∧ n - kk ≤ gg ∧ s1 = .int .i64 (k + kk) ∧ s5 = .int .i64 kk ∧ Aside (w.grownBy wr (some g)) ∧ Aside (Blk wr g 3 cs') ∧ cs'.size = cs.size ∧ Aside (∀ j : Nat, j < kk → cs'[o + j]? = some (.int .i64 (k + j))))
    case atStart => exact ⟨0, cs, Nat.zero_le _, by omega, by simp, rfl, (show Aside _ from World.grownBy.refl _ _), (show Aside _ from B), rfl, (show Aside _ from fun j hj => absurd hj (Nat.not_lt_zero _))⟩
    case round =>
      obtain ⟨kk, cs', hkk, hg, rfl, rfl, GG, BB, hsz, MM⟩ := hrel
      by_cases hlt : kk < n
      · have hltz : (kk : Int) < (n : Int) := by omega
        have hb : o + kk < cs'.size := by omega
        have hcell : wr.cell? ⟨g, o + kk, none⟩ = some cs'[o + kk] := (BB.out.cell (o + kk)).trans (Array.getElem?_eq_getElem hb)
        have hfr := BB.out.frozen
        go_wp2
        go_roundg (n - (kk + 1))
        case measure => omega
        case rel => exact ⟨kk + 1, _, by omega, by omega, by go_num, by go_num, (show Aside _ from grown_setCell GG.out (.inl rfl) _), (show Aside _ from BB.out.set_ (o + kk) _), by simpa using hsz, (show Aside _ from fun j hj => by
          by_cases e : j = kk
          · subst e
            rw [Array.getElem?_setIfInBounds_self_of_lt hb]
          · rw [Array.getElem?_setIfInBounds_ne (by omega)]
            exact MM.out j (by omega))⟩
      · have hltz : ¬ (kk : Int) < (n : Int) := by omega
        obtain rfl : kk = n := by omega
        go_wp2
        go_ret
        refine ⟨rfl, GG.out, ⟨⟨⟨by simp [marksI], hle, hmax, fun _ => ⟨g, o, rfl, BB.out.lt, fun j x hx i u hu => ?_⟩⟩, hok.fresh, hok.nil, hok.spot⟩, fun _ => ⟨g, o, cs', rfl, BB.out, by simp only [] at hc ⊢; omega⟩⟩⟩
        obtain ⟨hj, rfl⟩ := marksI_at hx
        have hi : i = 0 := by
          have := (List.getElem?_eq_some_iff.1 hu).1
          simp [eI] at this
          omega
        subst hi
        injection hu with hu
        subst hu
        rw [BB.out.cell, Nat.mul_one, Nat.add_zero]
        exact MM.out j hj
  · obtain rfl : n = 0 := by omega
    rw [if_neg hn0]
    go_enter Tryz.func18, Tryz.ntmps18
    go_wp2
    go_loopg [1, 5] 0 (fun gg s1 s5 wr => ∃ kk : Nat, kk ≤ 0 ∧ s1 = .int .i64 k ∧ s5 = .int .i64 kk ∧ Aside (w = wr))
    case atStart => exact ⟨0, Nat.le_refl _, rfl, rfl, (show Aside _ from rfl)⟩
    case round =>
      obtain ⟨kk, hkk, rfl, rfl, BW⟩ := hrel
      obtain rfl : kk = 0 := by omega
      go_wp2
      go_ret
      rw [← BW.out]
      exact ⟨by simp, World.grownBy.refl _ _, ⟨⟨⟨rfl, hle, hmax, fun h => absurd h (Nat.lt_irrefl _)⟩, hok.fresh, hok.nil, hok.spot⟩, fun h => absurd h (Nat.lt_irrefl _)⟩⟩
theorem heldIntS_any (A : Option Addr) (n c : Nat) (k : Int) (hk : 0 ≤ k ∧ k ≤ 10000000) (hn : n ≤ 10000000) (w : World) (hs : Sl w 1 eI A n c (marksI k n)) :
    Calls Tryz.prog 19 #[.slice A n c, .int .i64 k] w fun e w' => .returned (.int .i64 (k + n)) = e ∧ Below w.heap.size w w' := by
  have hle := hs.le
  have hmax := hs.max
  go_enter Tryz.func19, Tryz.ntmps19
  go_wp2
  go_loopg [1, 5] n (fun gg s1 s5 wr => ∃ kk : Nat, kk ≤ n ∧ n - kk ≤ gg ∧ s1 = .int .i64 (k + kk) ∧ s5 = .int .i64 kk ∧ Aside (Below w.heap.size w wr))
  case atStart => exact ⟨0, Nat.zero_le _, by omega, by simp, rfl, (show Aside _ from Below.refl _ _)⟩
  case round =>
    obtain ⟨kk, hkk, hg, rfl, rfl, BW⟩ := hrel
    by_cases hlt : kk < n
    · have hltz : (kk : Int) < (n : Int) := by omega
      obtain ⟨b, o, rfl, y, hx, hc⟩ := hs.nth hlt BW.out
      obtain ⟨-, rfl⟩ := marksI_at hx
      have hc0 := hc 0 _ rfl
      simp only [eI, Nat.add_zero, Nat.mul_one] at hc0
      clear hc hx
      go_wp2
      go_roundg (n - (kk + 1))
      case measure => omega
      case rel => exact ⟨kk + 1, by omega, by omega, by go_num, by go_num, (show Aside _ from BW.out)⟩
    · have hltz : ¬ (kk : Int) < (n : Int) := by omega
      obtain rfl : kk = n := by omega
      go_wp2
      go_ret
      exact ⟨rfl, BW.out⟩
end Go.Proofs.YtckgdlgdipfgmaaGreat

namespace Go.Proofs.YtckgdlgdipfgmaaGreat
set_option linter.unusedVariables false
set_option linter.unusedSimpArgs false
open Go.RowKit

theorem szHold_any (A : Option Addr) (n c : Nat) (left : Int) (hl : 0 ≤ left ∧ left ≤ 1048576) (hn : n ≤ 9223372036854775807) (w : World) :
    Calls Tryz.prog 67 #[.agg #[.slice A n c], .int .i64 left] w fun e w' => .returned (.int .i64 (szOfInt n left)) = e ∧ Below w.heap.size w w' := by
  have hq := fun W => szIntS_any A n c left hl hn W
  have hv : szOfInt n left = -1 ∨ 0 ≤ szOfInt n left := by unfold szOfInt; split <;> omega
  obtain ⟨h1, h2⟩ := hl
  generalize szOfInt n left = v at *
  rcases hv with rfl | hv
  · go_enter Tryz.func67, Tryz.ntmps67
    go_wp2_with fail; refine (hq _).mono ?_; rintro e w' ⟨rfl, rfl⟩
    go_wp2
    go_ret
    exact ⟨rfl, (by repeat (first | exact Below.refl _ _ | assumption | apply alo | (apply Below.setCell; rotate_left; (first | assumption | exact Nat.le_refl _ | (simp only []; omega))) | apply Below.drew | apply belowDrewN | (refine thn ?_ (by assumption))))⟩
  · go_enter Tryz.func67, Tryz.ntmps67
    go_wp2_with fail; refine (hq _).mono ?_; rintro e w' ⟨rfl, rfl⟩
    go_wp2
    go_ret
    exact ⟨rfl, (by repeat (first | exact Below.refl _ _ | assumption | apply alo | (apply Below.setCell; rotate_left; (first | assumption | exact Nat.le_refl _ | (simp only []; omega))) | apply Below.drew | apply belowDrewN | (refine thn ?_ (by assumption))))⟩

set_option maxHeartbeats 1000000 in
theorem toHold_any (A : Option Addr) (n c : Nat) (xs : List Int) (hn : n ≤ 1048576) (w : World) (hs : Sl w 1 eI A n c xs) :
    Calls Tryz.prog 78 #[.agg #[.slice A n c]] w (Post (fun g => .agg #[.slice (some ⟨g, 0, none⟩) n n]) fun g w' => Blk w' g 3 (xs.flatMap eI).toArray ∧ w.heap.size ≤ g ∧ Below w.heap.size w w') := by
  have hq := fun W hW => toIntS_any A n c xs hn W (hs.below hW)
  have hb0 := alo (alo (alo (Below.refl w.heap.size w) (.cells #[.slice A n c] 113)) (.cells #[.slice none 0 0] 80)) (.cells #[.slice none 0 0] 80)
  have B0 := ((Blk.new w 113 #[.slice A n c]).alloc (.cells #[.slice none 0 0] 80)).alloc (.cells #[.slice none 0 0] 80)
  have B1 := (Blk.new2 w (.cells #[.slice A n c] 113) 80 #[.slice none 0 0]).alloc (.cells #[.slice none 0 0] 80)
  have B2 := Blk.new3 w (.cells #[.slice A n c] 113) (.cells #[.slice none 0 0] 80) 80 #[.slice none 0 0]
  skip
  skip
  have cB0_0 := B0.c0; have fB0 := B0.frozen; have cB1_0 := B1.c0; have fB1 := B1.frozen; have cB2_0 := B2.c0; have fB2 := B2.frozen
  go_enter Tryz.func78, Tryz.ntmps78
  go_wp2_with fail
  refine (hq _ hb0).mono ?_
  rintro e w1 ⟨g, rfl, Bg, lg, hbw1⟩
  have hb1 := thn hb0 hbw1
  clear cB0_0 fB0 cB1_0 fB1 cB2_0 fB2
  replace B0 := B0.below hbw1
  replace B1 := B1.below hbw1
  replace B2 := B2.below hbw1
  simp only [whole]
  have cB0_0 := B0.c0; have fB0 := B0.frozen; have cB1_0 := B1.c0; have fB1 := B1.frozen; have cB2_0 := B2.c0; have fB2 := B2.frozen
  have hlg : w.heap.size + 1 + 1 < g := by have := lg; simp at this; omega
  clear hbw1 lg hb0
  go_wp2
  exact bodyPost_ret (v := .agg #[.slice (some ⟨g, 0, none⟩) n n]) (by simp [results, Tryz.results78, go_sem, cB1_0, cB2_0]) rfl ⟨g, rfl, (Bg.far (p := ⟨w.heap.size + 1 + 1, 0, none⟩) (by simp only []; omega) _).far (p := ⟨w.heap.size + 1, 0, none⟩) (by simp only []; omega) _, by omega, (hb1.setCell (p := ⟨w.heap.size + 1 + 1, 0, none⟩) (by simp only []; omega) _).setCell (p := ⟨w.heap.size + 1, 0, none⟩) (by simp only []; omega) _⟩

theorem eqHold_any (A A' : Option Addr) (n c c' : Nat) (xs : List Int) (w : World) (hs : Sl w 1 eI A n c xs) (hs' : Sl w 1 eI A' n c' xs) :
    Calls Tryz.prog 89 #[.agg #[.slice A n c], .agg #[.slice A' n c']] w fun e w' => .returned (.bool true) = e ∧ Below w.heap.size w w' := by
  have hb0 := alo (alo (Below.refl w.heap.size w) (.cells #[.slice A n c] 80)) (.cells #[.slice A' n c'] 80)
  have hq := eqIntS_any A A' n c c' xs _ (hs.below hb0) (hs'.below hb0)
  clear hs hs'
  go_enter Tryz.func89, Tryz.ntmps89
  go_wp2_with fail
  refine hq.mono ?_
  rintro e w1 ⟨rfl, hb1⟩
  go_wp2
  go_ret
  exact ⟨rfl, thn hb0 hb1⟩
end Go.Proofs.YtckgdlgdipfgmaaGreat
