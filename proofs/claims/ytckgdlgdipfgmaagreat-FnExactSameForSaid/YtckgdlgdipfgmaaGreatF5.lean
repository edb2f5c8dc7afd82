/- The exact laws' own functions at Setup and Machine. The exact laws' own functions at Setup and Machine: sz, to, eq. -/
import Derived.Test.YtckgdlgdipfgmaaGreatF4

namespace Go.Proofs.YtckgdlgdipfgmaaGreat
set_option linter.unusedVariables false
set_option linter.unusedSimpArgs false
open Go.RowKit

abbrev ChanT := Int × Int × Int × Int
/-- A list that can be read, in a block behind a bound. -/
def liF {α : Type} (k : Nat) (enc : α → List Value) (w : World) (base : Nat) (s : SV α) : Prop := Sl w k enc s.A s.n s.c s.xs ∧ Fr w base s.A
def okF {α : Type} (k : Nat) (enc : α → List Value) (w : World) (s : SV α) : Prop := Sl w k enc s.A s.n s.c s.xs
section
variable {α : Type} {k : Nat} {enc : α → List Value} {w w' : World} {base base' : Nat} {s : SV α} {p : Addr} {u : Value}
theorem liF.below (h : liF k enc w base s) (hb : Below w.heap.size w w') : liF k enc w' base s := ⟨h.1.below hb, h.2.below hb⟩
theorem liF.set (h : liF k enc w base s) (hp : p.block < base) : liF k enc (w.setCell p u) base s := ⟨h.1.setF h.2 hp u, h.2.set hp u⟩
theorem liF.mono (h : liF k enc w base s) (hb : base' ≤ base) : liF k enc w base' s := ⟨h.1, h.2.mono hb⟩
theorem liF.ok (h : liF k enc w base s) : okF k enc w s := h.1
end
def okLP (w : World) (s : SV PartV) : Prop := Sl w 2 eP s.A s.n s.c s.xs ∧ AllE (okP w) s.xs
def liLP (w : World) (base : Nat) (s : SV PartV) : Prop := (Sl w 2 eP s.A s.n s.c s.xs ∧ Fr w base s.A) ∧ AllE (liP w base) s.xs
section
variable {w w' : World} {base base' : Nat} {s : SV PartV} {p : Addr} {u : Value}
theorem okLP.below (h : okLP w s) (hb : Below w.heap.size w w') : okLP w' s := ⟨h.1.below hb, AllE.mono h.2 fun x hx => okP.below hx hb⟩
theorem liLP.below (h : liLP w base s) (hb : Below w.heap.size w w') : liLP w' base s := ⟨⟨h.1.1.below hb, h.1.2.below hb⟩, AllE.mono h.2 fun x hx => liP.below hx hb⟩
theorem liLP.set (h : liLP w base s) (hp : p.block < base) : liLP (w.setCell p u) base s := ⟨⟨h.1.1.setF h.1.2 hp u, h.1.2.set hp u⟩, AllE.mono h.2 fun x hx => liP.set hx hp⟩
theorem liLP.mono (h : liLP w base s) (hb : base' ≤ base) : liLP w base' s := ⟨⟨h.1.1, h.1.2.mono hb⟩, AllE.mono h.2 fun x hx => liP.mono hx hb⟩
theorem liLP.ok (h : liLP w base s) : okLP w s := ⟨h.1.1, AllE.mono h.2 fun x hx => hx.1⟩
end
def okLO (w : World) (s : SV OrdL) : Prop := Sl w 1 eOL s.A s.n s.c s.xs ∧ AllE (okO w) s.xs
def liLO (w : World) (base : Nat) (s : SV OrdL) : Prop := (Sl w 1 eOL s.A s.n s.c s.xs ∧ Fr w base s.A) ∧ AllE (liO w base) s.xs
section
variable {w w' : World} {base base' : Nat} {s : SV OrdL} {p : Addr} {u : Value}
theorem okLO.below (h : okLO w s) (hb : Below w.heap.size w w') : okLO w' s := ⟨h.1.below hb, AllE.mono h.2 fun x hx => okO.below hx hb⟩
theorem liLO.below (h : liLO w base s) (hb : Below w.heap.size w w') : liLO w' base s := ⟨⟨h.1.1.below hb, h.1.2.below hb⟩, AllE.mono h.2 fun x hx => liO.below hx hb⟩
theorem liLO.set (h : liLO w base s) (hp : p.block < base) : liLO (w.setCell p u) base s := ⟨⟨h.1.1.setF h.1.2 hp u, h.1.2.set hp u⟩, AllE.mono h.2 fun x hx => liO.set hx hp⟩
theorem liLO.mono (h : liLO w base s) (hb : base' ≤ base) : liLO w base' s := ⟨⟨h.1.1, h.1.2.mono hb⟩, AllE.mono h.2 fun x hx => liO.mono hx hb⟩
theorem liLO.ok (h : liLO w base s) : okLO w s := ⟨h.1.1, AllE.mono h.2 fun x hx => hx.1⟩
end
def okLC (w : World) (s : SV CoreT) : Prop := Sl w 3 eCo s.A s.n s.c s.xs ∧ AllE (okC w) s.xs
def liLC (w : World) (base : Nat) (s : SV CoreT) : Prop := (Sl w 3 eCo s.A s.n s.c s.xs ∧ Fr w base s.A) ∧ AllE (liC w base) s.xs
section
variable {w w' : World} {base base' : Nat} {s : SV CoreT} {p : Addr} {u : Value}
theorem okLC.below (h : okLC w s) (hb : Below w.heap.size w w') : okLC w' s := ⟨h.1.below hb, AllE.mono h.2 fun x hx => okC.below hx hb⟩
theorem liLC.below (h : liLC w base s) (hb : Below w.heap.size w w') : liLC w' base s := ⟨⟨h.1.1.below hb, h.1.2.below hb⟩, AllE.mono h.2 fun x hx => liC.below hx hb⟩
theorem liLC.set (h : liLC w base s) (hp : p.block < base) : liLC (w.setCell p u) base s := ⟨⟨h.1.1.setF h.1.2 hp u, h.1.2.set hp u⟩, AllE.mono h.2 fun x hx => liC.set hx hp⟩
theorem liLC.mono (h : liLC w base s) (hb : base' ≤ base) : liLC w base' s := ⟨⟨h.1.1, h.1.2.mono hb⟩, AllE.mono h.2 fun x hx => liC.mono hx hb⟩
theorem liLC.ok (h : liLC w base s) : okLC w s := ⟨h.1.1, AllE.mono h.2 fun x hx => hx.1⟩
end
def okLH (w : World) (s : SV HoldR) : Prop := Sl w 1 eHr s.A s.n s.c s.xs ∧ AllE (okH w) s.xs
def liLH (w : World) (base : Nat) (s : SV HoldR) : Prop := (Sl w 1 eHr s.A s.n s.c s.xs ∧ Fr w base s.A) ∧ AllE (liH w base) s.xs
section
variable {w w' : World} {base base' : Nat} {s : SV HoldR} {p : Addr} {u : Value}
theorem okLH.below (h : okLH w s) (hb : Below w.heap.size w w') : okLH w' s := ⟨h.1.below hb, AllE.mono h.2 fun x hx => okH.below hx hb⟩
theorem liLH.below (h : liLH w base s) (hb : Below w.heap.size w w') : liLH w' base s := ⟨⟨h.1.1.below hb, h.1.2.below hb⟩, AllE.mono h.2 fun x hx => liH.below hx hb⟩
theorem liLH.set (h : liLH w base s) (hp : p.block < base) : liLH (w.setCell p u) base s := ⟨⟨h.1.1.setF h.1.2 hp u, h.1.2.set hp u⟩, AllE.mono h.2 fun x hx => liH.set hx hp⟩
theorem liLH.mono (h : liLH w base s) (hb : base' ≤ base) : liLH w base' s := ⟨⟨h.1.1, h.1.2.mono hb⟩, AllE.mono h.2 fun x hx => liH.mono hx hb⟩
theorem liLH.ok (h : liLH w base s) : okLH w s := ⟨h.1.1, AllE.mono h.2 fun x hx => hx.1⟩
end
abbrev SetR := SV PartV × SV ChanT × SV (Int × Int)
def setV (s : SetR) : Value := .agg #[s.1.v, s.2.1.v, s.2.2.v]
def okS (w : World) (s : SetR) : Prop := okLP w s.1 ∧ okF 4 eC w s.2.1 ∧ okF 2 eS w s.2.2
def liS (w : World) (base : Nat) (s : SetR) : Prop := liLP w base s.1 ∧ liF 4 eC w base s.2.1 ∧ liF 2 eS w base s.2.2
def cS (s : SetR) : List (List Win × Int) × List ChanT × List (Int × Int) := (s.1.xs.map cP, s.2.1.xs, s.2.2.xs)
def smS (s : SetR) : Prop := shortL s.1.n smP s.1.xs ∧ s.2.1.n ≤ 1048576 ∧ s.2.2.n ≤ 1048576
section
variable {w w' : World} {base base' : Nat} {s : SetR} {p : Addr} {u : Value}
theorem okS.below (h : okS w s) (hb : Below w.heap.size w w') : okS w' s := ⟨h.1.below hb, Sl.below h.2.1 hb, Sl.below h.2.2 hb⟩
theorem liS.below (h : liS w base s) (hb : Below w.heap.size w w') : liS w' base s := ⟨h.1.below hb, h.2.1.below hb, h.2.2.below hb⟩
theorem liS.set (h : liS w base s) (hp : p.block < base) : liS (w.setCell p u) base s := ⟨h.1.set hp, h.2.1.set hp, h.2.2.set hp⟩
theorem liS.mono (h : liS w base s) (hb : base' ≤ base) : liS w base' s := ⟨h.1.mono hb, h.2.1.mono hb, h.2.2.mono hb⟩
theorem liS.ok (h : liS w base s) : okS w s := ⟨h.1.ok, h.2.1.ok, h.2.2.ok⟩
end
theorem szPartS_L (s : SV PartV) (left : Int) (hl : 0 ≤ left ∧ left ≤ 1048576) (w : World) (h : okLP w s) :
    Calls Tryz.prog 62 #[s.v, .int .i64 left] w (Post (fun m : Int => .int .i64 m) fun m w' => (-1 ≤ m ∧ m ≤ left) ∧ (0 ≤ m → shortL s.n smP s.xs) ∧ Below w.heap.size w w') := szPartS_any s.A s.n s.c s.xs left hl w h.1 h.2
theorem toPartS_L (s : SV PartV) (hsm : shortL s.n smP s.xs) (w : World) (h : okLP w s) :
    Calls Tryz.prog 73 #[s.v] w (Post (fun s' : SV PartV => s'.v) fun s' w' => liLP w' w.heap.size s' ∧ s'.xs.map cP = s.xs.map cP ∧ Below w.heap.size w w') :=
  (toPartS_any s.A s.n s.c s.xs hsm.1 hsm.2 w h.1 h.2).mono fun e w' ⟨s', a, b, c, d, _, f⟩ => ⟨s', a, ⟨b, c⟩, d, f⟩
theorem eqPartS_L (s s' : SV PartV) (w : World) (h : okLP w s) (h' : okLP w s') (hc : s.xs.map cP = s'.xs.map cP) :
    Calls Tryz.prog 84 #[s.v, s'.v] w fun e w' => .returned (.bool true) = e ∧ Below w.heap.size w w' := by
  obtain ⟨A, n, c, xs⟩ := s
  obtain ⟨A', n', c', xs'⟩ := s'
  obtain rfl : n = n' := by
    have h1 := h.1.len; have h2 := h'.1.len; have h3 := congrArg List.length hc
    simp only [List.length_map] at h3
    simp only [] at h1 h2 h3
    omega
  exact eqPartS_any A A' n c c' xs xs' w h.1 h'.1 h.2 h'.2 hc
theorem szOrderSS_L (s : SV OrdL) (left : Int) (hl : 0 ≤ left ∧ left ≤ 1048576) (w : World) (h : okLO w s) :
    Calls Tryz.prog 26 #[s.v, .int .i64 left] w (Post (fun m : Int => .int .i64 m) fun m w' => (-1 ≤ m ∧ m ≤ left) ∧ (0 ≤ m → shortL s.n smO s.xs) ∧ Below w.heap.size w w') := szOrderSS_any s.A s.n s.c s.xs left hl w h.1 h.2
theorem toOrderSS_L (s : SV OrdL) (hsm : shortL s.n smO s.xs) (w : World) (h : okLO w s) :
    Calls Tryz.prog 36 #[s.v] w (Post (fun s' : SV OrdL => s'.v) fun s' w' => liLO w' w.heap.size s' ∧ s'.xs.map cO = s.xs.map cO ∧ Below w.heap.size w w') :=
  (toOrderSS_any s.A s.n s.c s.xs hsm.1 hsm.2 w h.1 h.2).mono fun e w' ⟨s', a, b, c, d, _, f⟩ => ⟨s', a, ⟨b, c⟩, d, f⟩
theorem eqOrderSS_L (s s' : SV OrdL) (w : World) (h : okLO w s) (h' : okLO w s') (hc : s.xs.map cO = s'.xs.map cO) :
    Calls Tryz.prog 45 #[s.v, s'.v] w fun e w' => .returned (.bool true) = e ∧ Below w.heap.size w w' := by
  obtain ⟨A, n, c, xs⟩ := s
  obtain ⟨A', n', c', xs'⟩ := s'
  obtain rfl : n = n' := by
    have h1 := h.1.len; have h2 := h'.1.len; have h3 := congrArg List.length hc
    simp only [List.length_map] at h3
    simp only [] at h1 h2 h3
    omega
  exact eqOrderSS_any A A' n c c' xs xs' w h.1 h'.1 h.2 h'.2 hc
theorem szCoreS_L (s : SV CoreT) (left : Int) (hl : 0 ≤ left ∧ left ≤ 1048576) (w : World) (h : okLC w s) :
    Calls Tryz.prog 27 #[s.v, .int .i64 left] w (Post (fun m : Int => .int .i64 m) fun m w' => (-1 ≤ m ∧ m ≤ left) ∧ (0 ≤ m → shortL s.n smC s.xs) ∧ Below w.heap.size w w') := szCoreS_any s.A s.n s.c s.xs left hl w h.1 h.2
theorem toCoreS_L (s : SV CoreT) (hsm : shortL s.n smC s.xs) (w : World) (h : okLC w s) :
    Calls Tryz.prog 37 #[s.v] w (Post (fun s' : SV CoreT => s'.v) fun s' w' => liLC w' w.heap.size s' ∧ s'.xs.map cC = s.xs.map cC ∧ Below w.heap.size w w') :=
  (toCoreS_any s.A s.n s.c s.xs hsm.1 hsm.2 w h.1 h.2).mono fun e w' ⟨s', a, b, c, d, _, f⟩ => ⟨s', a, ⟨b, c⟩, d, f⟩
theorem eqCoreS_L (s s' : SV CoreT) (w : World) (h : okLC w s) (h' : okLC w s') (hc : s.xs.map cC = s'.xs.map cC) :
    Calls Tryz.prog 46 #[s.v, s'.v] w fun e w' => .returned (.bool true) = e ∧ Below w.heap.size w w' := by
  obtain ⟨A, n, c, xs⟩ := s
  obtain ⟨A', n', c', xs'⟩ := s'
  obtain rfl : n = n' := by
    have h1 := h.1.len; have h2 := h'.1.len; have h3 := congrArg List.length hc
    simp only [List.length_map] at h3
    simp only [] at h1 h2 h3
    omega
  exact eqCoreS_any A A' n c c' xs xs' w h.1 h'.1 h.2 h'.2 hc
theorem szHoldS_L (s : SV HoldR) (left : Int) (hl : 0 ≤ left ∧ left ≤ 1048576) (w : World) (h : okLH w s) :
    Calls Tryz.prog 28 #[s.v, .int .i64 left] w (Post (fun m : Int => .int .i64 m) fun m w' => (-1 ≤ m ∧ m ≤ left) ∧ (0 ≤ m → shortL s.n smH s.xs) ∧ Below w.heap.size w w') := szHoldS_any s.A s.n s.c s.xs left hl w h.1 h.2
theorem toHoldS_L (s : SV HoldR) (hsm : shortL s.n smH s.xs) (w : World) (h : okLH w s) :
    Calls Tryz.prog 38 #[s.v] w (Post (fun s' : SV HoldR => s'.v) fun s' w' => liLH w' w.heap.size s' ∧ s'.xs.map cH = s.xs.map cH ∧ Below w.heap.size w w') :=
  (toHoldS_any s.A s.n s.c s.xs hsm.1 hsm.2 w h.1 h.2).mono fun e w' ⟨s', a, b, c, d, _, f⟩ => ⟨s', a, ⟨b, c⟩, d, f⟩
theorem eqHoldS_L (s s' : SV HoldR) (w : World) (h : okLH w s) (h' : okLH w s') (hc : s.xs.map cH = s'.xs.map cH) :
    Calls Tryz.prog 47 #[s.v, s'.v] w fun e w' => .returned (.bool true) = e ∧ Below w.heap.size w w' := by
  obtain ⟨A, n, c, xs⟩ := s
  obtain ⟨A', n', c', xs'⟩ := s'
  obtain rfl : n = n' := by
    have h1 := h.1.len; have h2 := h'.1.len; have h3 := congrArg List.length hc
    simp only [List.length_map] at h3
    simp only [] at h1 h2 h3
    omega
  exact eqHoldS_any A A' n c c' xs xs' w h.1 h'.1 h.2 h'.2 hc
theorem szChannelS_L (s : SV ChanT) (left : Int) (hl : 0 ≤ left ∧ left ≤ 1048576) (w : World) (h : okF 4 eC w s) :
    Calls Tryz.prog 63 #[s.v, .int .i64 left] w (Post (fun m : Int => .int .i64 m) fun m w' => (-1 ≤ m ∧ m ≤ left) ∧ (0 ≤ m → s.n ≤ 1048576) ∧ Below w.heap.size w w') :=
  (szChannelS_any s.A s.n s.c left hl (Nat.le_trans h.le h.max) w).mono fun e w' ⟨a, b⟩ => ⟨szOfChannel s.n left, a.symm, by unfold szOfChannel; split <;> omega, fun h => by unfold szOfChannel at h; split at h <;> omega, b ▸ Below.refl _ _⟩
theorem toChannelS_L (s : SV ChanT) (hsm : s.n ≤ 1048576) (w : World) (h : okF 4 eC w s) :
    Calls Tryz.prog 74 #[s.v] w (Post (fun s' : SV ChanT => s'.v) fun s' w' => liF 4 eC w' w.heap.size s' ∧ s'.xs = s.xs ∧ Below w.heap.size w w') :=
  (toChannelS_any s.A s.n s.c s.xs hsm w h).mono fun e w' ⟨g, a, b, c, d⟩ => ⟨⟨some ⟨g, 0, none⟩, s.n, s.n, s.xs⟩, a, ⟨fresh_sl encC b h.len hsm, Fr.some b c⟩, rfl, d⟩
theorem eqChannelS_L (s s' : SV ChanT) (w : World) (h : okF 4 eC w s) (h' : okF 4 eC w s') (hc : s.xs = s'.xs) :
    Calls Tryz.prog 85 #[s.v, s'.v] w fun e w' => .returned (.bool true) = e ∧ Below w.heap.size w w' := by
  obtain ⟨A, n, c, xs⟩ := s
  obtain ⟨A', n', c', xs'⟩ := s'
  simp only [okF] at h h' hc
  subst hc
  obtain rfl : n = n' := by have h1 := h.len; have h2 := h'.len; omega
  exact eqChannelS_any A A' n c c' xs w h h'
theorem szSlotS_L (s : SV (Int × Int)) (left : Int) (hl : 0 ≤ left ∧ left ≤ 1048576) (w : World) (h : okF 2 eS w s) :
    Calls Tryz.prog 64 #[s.v, .int .i64 left] w (Post (fun m : Int => .int .i64 m) fun m w' => (-1 ≤ m ∧ m ≤ left) ∧ (0 ≤ m → s.n ≤ 1048576) ∧ Below w.heap.size w w') :=
  (szSlotS_any s.A s.n s.c left hl (Nat.le_trans h.le h.max) w).mono fun e w' ⟨a, b⟩ => ⟨szOfSlot s.n left, a.symm, by unfold szOfSlot; split <;> omega, fun h => by unfold szOfSlot at h; split at h <;> omega, b ▸ Below.refl _ _⟩
theorem toSlotS_L (s : SV (Int × Int)) (hsm : s.n ≤ 1048576) (w : World) (h : okF 2 eS w s) :
    Calls Tryz.prog 75 #[s.v] w (Post (fun s' : SV (Int × Int) => s'.v) fun s' w' => liF 2 eS w' w.heap.size s' ∧ s'.xs = s.xs ∧ Below w.heap.size w w') :=
  (toSlotS_any s.A s.n s.c s.xs hsm w h).mono fun e w' ⟨g, a, b, c, d⟩ => ⟨⟨some ⟨g, 0, none⟩, s.n, s.n, s.xs⟩, a, ⟨fresh_sl encS b h.len hsm, Fr.some b c⟩, rfl, d⟩
theorem eqSlotS_L (s s' : SV (Int × Int)) (w : World) (h : okF 2 eS w s) (h' : okF 2 eS w s') (hc : s.xs = s'.xs) :
    Calls Tryz.prog 86 #[s.v, s'.v] w fun e w' => .returned (.bool true) = e ∧ Below w.heap.size w w' := by
  obtain ⟨A, n, c, xs⟩ := s
  obtain ⟨A', n', c', xs'⟩ := s'
  simp only [okF] at h h' hc
  subst hc
  obtain rfl : n = n' := by have h1 := h.len; have h2 := h'.len; omega
  exact eqSlotS_any A A' n c c' xs w h h'

end Go.Proofs.YtckgdlgdipfgmaaGreat

namespace Go.Proofs.YtckgdlgdipfgmaaGreat
set_option linter.unusedVariables false
set_option linter.unusedSimpArgs false
open Go.RowKit

theorem SV.v_mk {α : Type} (A : Option Addr) (n c : Nat) (xs : List α) : SV.v (⟨A, n, c, xs⟩ : SV α) = .slice A n c := rfl
theorem blk_cells {w : World} {g : Nat} {t : TypeId} {cs : Array Value} (h : Blk w g t cs) (j : Nat) (v : Value) (hv : cs[j]? = some v) : w.cell? ⟨g, j, none⟩ = some v := (h.cell j).trans hv
theorem okF.below {α : Type} {k : Nat} {enc : α → List Value} {w w' : World} {s : SV α} (h : okF k enc w s) (hb : Below w.heap.size w w') : okF k enc w' s := Sl.below h hb
set_option maxHeartbeats 1000000 in
theorem szSetup_any (s : SetR) (left : Int) (hl : 0 ≤ left ∧ left ≤ 1048576) (w : World) (h : okS w s) :
    Calls Tryz.prog 25 #[setV s, .int .i64 left] w (Post (fun m : Int => .int .i64 m) fun m w' => (-1 ≤ m ∧ m ≤ left) ∧ (0 ≤ m → smS s) ∧ Below w.heap.size w w') := by
  obtain ⟨p, c, t⟩ := s
  obtain ⟨hp, hch, ht⟩ := h
  obtain ⟨hl0, hl1⟩ := hl
  have hb0 := alo (Below.refl w.heap.size w) (.cells #[p.v, c.v, t.v] 26)
  have B0 := Blk.new w 26 #[p.v, c.v, t.v]
  simp only [setV]
  have x0 := blk_cells B0 0 _ rfl
  have x1 := blk_cells B0 1 _ rfl
  have x2 := blk_cells B0 2 _ rfl
  clear B0
  have B0 := Blk.new w 26 #[p.v, c.v, t.v]
  go_enter Tryz.func25, Tryz.ntmps25
  go_wp2_with fail
  refine (szPartS_L p left ⟨by omega, by omega⟩ _ (hp.below hb0)).mono ?_
  rintro e w1 ⟨m1, rfl, hm1, hsm1, hbm1⟩
  have hBm1 := thn hb0 hbm1
  replace B0 := B0.below hbm1
  clear x0 x1 x2
  have x0 := blk_cells B0 0 _ rfl
  have x1 := blk_cells B0 1 _ rfl
  have x2 := blk_cells B0 2 _ rfl
  by_cases hnm1 : m1 < 0
  · go_wp2
    go_ret
    exact ⟨-1, rfl, ⟨by omega, by omega⟩, (fun h => absurd h (by omega)), hBm1⟩
  · have hpm1 : 0 ≤ m1 := by omega
    have hrm1 := Lib.hid (hsm1 hpm1)
    clear hsm1
    go_wp2_with fail
    refine (szChannelS_L c m1 ⟨by omega, by omega⟩ _ (hch.below hBm1)).mono ?_
    rintro e w2 ⟨m2, rfl, hm2, hsm2, hbm2⟩
    have hBm2 := thn hBm1 hbm2
    replace B0 := B0.below hbm2
    clear x0 x1 x2
    have x0 := blk_cells B0 0 _ rfl
    have x1 := blk_cells B0 1 _ rfl
    have x2 := blk_cells B0 2 _ rfl
    by_cases hnm2 : m2 < 0
    · go_wp2
      go_ret
      exact ⟨-1, rfl, ⟨by omega, by omega⟩, (fun h => absurd h (by omega)), hBm2⟩
    · have hpm2 : 0 ≤ m2 := by omega
      have hrm2 := Lib.hid (hsm2 hpm2)
      clear hsm2
      go_wp2_with fail
      refine (szSlotS_L t m2 ⟨by omega, by omega⟩ _ (ht.below hBm2)).mono ?_
      rintro e w3 ⟨m3, rfl, hm3, hsm3, hbm3⟩
      have hBm3 := thn hBm2 hbm3
      replace B0 := B0.below hbm3
      clear x0 x1 x2
      have x0 := blk_cells B0 0 _ rfl
      have x1 := blk_cells B0 1 _ rfl
      have x2 := blk_cells B0 2 _ rfl
      by_cases hnm3 : m3 < 0
      · go_wp2
        go_ret
        exact ⟨-1, rfl, ⟨by omega, by omega⟩, (fun h => absurd h (by omega)), hBm3⟩
      · have hpm3 : 0 ≤ m3 := by omega
        have hrm3 := Lib.hid (hsm3 hpm3)
        clear hsm3
        have HR := Lib.hid (⟨hrm1.out, hrm2.out, hrm3.out⟩ : smS ⟨p, c, t⟩)
        go_wp2
        go_ret
        exact ⟨m3, rfl, ⟨by omega, by omega⟩, (fun _ => HR.out), hBm3⟩
set_option maxHeartbeats 2000000 in
theorem toSetup_any (s : SetR) (hsm : smS s) (w : World) (h : okS w s) :
    Calls Tryz.prog 35 #[setV s] w (Post setV fun s' w' => liS w' w.heap.size s' ∧ cS s' = cS s ∧ Below w.heap.size w w') := by
  obtain ⟨p, c, t⟩ := s
  obtain ⟨hp, hch, ht⟩ := h
  obtain ⟨nhp, nhch, nht⟩ := hsm
  have hb0 := alo (alo (alo (Below.refl w.heap.size w) (.cells #[p.v, c.v, t.v] 26)) (.cells #[.slice none 0 0, .slice none 0 0, .slice none 0 0] 38)) (.cells #[.slice none 0 0, .slice none 0 0, .slice none 0 0] 38)
  have B0 := ((Blk.new w 26 #[p.v, c.v, t.v]).alloc (.cells #[.slice none 0 0, .slice none 0 0, .slice none 0 0] 38)).alloc (.cells #[.slice none 0 0, .slice none 0 0, .slice none 0 0] 38)
  have B1 := (Blk.new2 w (.cells #[p.v, c.v, t.v] 26) 38 #[.slice none 0 0, .slice none 0 0, .slice none 0 0]).alloc (.cells #[.slice none 0 0, .slice none 0 0, .slice none 0 0] 38)
  have B2 := Blk.new3 w (.cells #[p.v, c.v, t.v] 26) (.cells #[.slice none 0 0, .slice none 0 0, .slice none 0 0] 38) 38 #[.slice none 0 0, .slice none 0 0, .slice none 0 0]
  simp only [setV]
  have x0 := blk_cells B0 0 _ rfl
  have x1 := blk_cells B0 1 _ rfl
  have x2 := blk_cells B0 2 _ rfl
  have f2 := B2.frozen
  have y0 := blk_cells B2 0 _ rfl
  have y1 := blk_cells B2 1 _ rfl
  have y2 := blk_cells B2 2 _ rfl
  go_enter Tryz.func35, Tryz.ntmps35
  go_wp2_with fail
  refine (toPartS_L p nhp _ (hp.below hb0)).mono ?_
  rintro e w1 ⟨p', rfl, l0, hc0, hbw1⟩
  have hBw1 := thn hb0 hbw1
  have hzw1 := B2.lt
  replace B0 := B0.below hbw1
  replace B1 := B1.below hbw1
  replace B2 := B2.below hbw1
  replace l0 := liLP.mono (base' := w.heap.size + 3) l0 (by omega)
  obtain ⟨A1, n1, c1, a1⟩ := p'
  simp only [SV.v_mk]
  clear x0 x1 x2 y0 y1 y2 f2
  have f2 := B2.frozen
  have y0 := blk_cells B2 0 _ rfl
  have y1 := blk_cells B2 1 _ rfl
  have y2 := blk_cells B2 2 _ rfl
  have hBw1_0 := Below.setCell hBw1 (p := ⟨w.heap.size + 1 + 1, 0, none⟩) (by simp only []; omega) (.slice A1 n1 c1)
  replace B0 := B0.far (p := ⟨w.heap.size + 1 + 1, 0, none⟩) (by simp only []; omega) (.slice A1 n1 c1)
  replace B1 := B1.far (p := ⟨w.heap.size + 1 + 1, 0, none⟩) (by simp only []; omega) (.slice A1 n1 c1)
  replace B2 : Blk _ _ _ #[.slice A1 n1 c1, .slice none 0 0, .slice none 0 0] := B2.set_ 0 (.slice A1 n1 c1)
  replace l0 := liLP.set l0 (p := ⟨w.heap.size + 1 + 1, 0, none⟩) (u := .slice A1 n1 c1) (by simp only []; omega)
  have x0 := blk_cells B0 0 _ rfl
  have x1 := blk_cells B0 1 _ rfl
  have x2 := blk_cells B0 2 _ rfl
  go_wp2_with fail
  refine (toChannelS_L c nhch _ (hch.below hBw1_0)).mono ?_
  rintro e w2 ⟨c', rfl, l1, hc1, hbw2⟩
  have hBw2 := thn hBw1_0 hbw2
  have hzw2 := B2.lt
  replace B0 := B0.below hbw2
  replace B1 := B1.below hbw2
  replace B2 := B2.below hbw2
  replace l1 := liF.mono (base' := w.heap.size + 3) l1 (by omega)
  replace l0 := liLP.below l0 hbw2
  obtain ⟨A2, n2, c2, a2⟩ := c'
  simp only [SV.v_mk]
  clear x0 x1 x2 y0 y1 y2 f2
  have f2 := B2.frozen
  have y0 := blk_cells B2 0 _ rfl
  have y1 := blk_cells B2 1 _ rfl
  have y2 := blk_cells B2 2 _ rfl
  have hBw2_0 := Below.setCell hBw2 (p := ⟨w.heap.size + 1 + 1, 1, none⟩) (by simp only []; omega) (.slice A2 n2 c2)
  replace B0 := B0.far (p := ⟨w.heap.size + 1 + 1, 1, none⟩) (by simp only []; omega) (.slice A2 n2 c2)
  replace B1 := B1.far (p := ⟨w.heap.size + 1 + 1, 1, none⟩) (by simp only []; omega) (.slice A2 n2 c2)
  replace B2 : Blk _ _ _ #[.slice A1 n1 c1, .slice A2 n2 c2, .slice none 0 0] := B2.set_ 1 (.slice A2 n2 c2)
  replace l0 := liLP.set l0 (p := ⟨w.heap.size + 1 + 1, 1, none⟩) (u := .slice A2 n2 c2) (by simp only []; omega)
  replace l1 := liF.set l1 (p := ⟨w.heap.size + 1 + 1, 1, none⟩) (u := .slice A2 n2 c2) (by simp only []; omega)
  have x0 := blk_cells B0 0 _ rfl
  have x1 := blk_cells B0 1 _ rfl
  have x2 := blk_cells B0 2 _ rfl
  go_wp2_with fail
  refine (toSlotS_L t nht _ (ht.below hBw2_0)).mono ?_
  rintro e w3 ⟨t', rfl, l2, hc2, hbw3⟩
  have hBw3 := thn hBw2_0 hbw3
  have hzw3 := B2.lt
  replace B0 := B0.below hbw3
  replace B1 := B1.below hbw3
  replace B2 := B2.below hbw3
  replace l2 := liF.mono (base' := w.heap.size + 3) l2 (by omega)
  replace l0 := liLP.below l0 hbw3
  replace l1 := liF.below l1 hbw3
  obtain ⟨A3, n3, c3, a3⟩ := t'
  simp only [SV.v_mk]
  clear x0 x1 x2 y0 y1 y2 f2
  have f2 := B2.frozen
  have y0 := blk_cells B2 0 _ rfl
  have y1 := blk_cells B2 1 _ rfl
  have y2 := blk_cells B2 2 _ rfl
  have hBw3_0 := Below.setCell hBw3 (p := ⟨w.heap.size + 1 + 1, 2, none⟩) (by simp only []; omega) (.slice A3 n3 c3)
  replace B0 := B0.far (p := ⟨w.heap.size + 1 + 1, 2, none⟩) (by simp only []; omega) (.slice A3 n3 c3)
  replace B1 := B1.far (p := ⟨w.heap.size + 1 + 1, 2, none⟩) (by simp only []; omega) (.slice A3 n3 c3)
  replace B2 : Blk _ _ _ #[.slice A1 n1 c1, .slice A2 n2 c2, .slice A3 n3 c3] := B2.set_ 2 (.slice A3 n3 c3)
  replace l0 := liLP.set l0 (p := ⟨w.heap.size + 1 + 1, 2, none⟩) (u := .slice A3 n3 c3) (by simp only []; omega)
  replace l1 := liF.set l1 (p := ⟨w.heap.size + 1 + 1, 2, none⟩) (u := .slice A3 n3 c3) (by simp only []; omega)
  replace l2 := liF.set l2 (p := ⟨w.heap.size + 1 + 1, 2, none⟩) (u := .slice A3 n3 c3) (by simp only []; omega)
  have x0 := blk_cells B0 0 _ rfl
  have x1 := blk_cells B0 1 _ rfl
  have x2 := blk_cells B0 2 _ rfl
  have u0 := blk_cells B2 0 _ rfl
  have u1 := blk_cells B2 1 _ rfl
  have u2 := blk_cells B2 2 _ rfl
  have f1 := B1.frozen
  have z0 := blk_cells B1 0 _ rfl
  have z1 := blk_cells B1 1 _ rfl
  have z2 := blk_cells B1 2 _ rfl
  have B1e := B1
  replace B1e : Blk _ _ _ #[.slice A1 n1 c1, .slice none 0 0, .slice none 0 0] := B1e.set_ 0 (.slice A1 n1 c1)
  replace hBw3_0 := Below.setCell hBw3_0 (p := ⟨w.heap.size + 1, 0, none⟩) (by simp only []; omega) (.slice A1 n1 c1)
  replace l0 := liLP.set l0 (p := ⟨w.heap.size + 1, 0, none⟩) (u := .slice A1 n1 c1) (by simp only []; omega)
  replace l1 := liF.set l1 (p := ⟨w.heap.size + 1, 0, none⟩) (u := .slice A1 n1 c1) (by simp only []; omega)
  replace l2 := liF.set l2 (p := ⟨w.heap.size + 1, 0, none⟩) (u := .slice A1 n1 c1) (by simp only []; omega)
  replace B1e : Blk _ _ _ #[.slice A1 n1 c1, .slice A2 n2 c2, .slice none 0 0] := B1e.set_ 1 (.slice A2 n2 c2)
  replace hBw3_0 := Below.setCell hBw3_0 (p := ⟨w.heap.size + 1, 1, none⟩) (by simp only []; omega) (.slice A2 n2 c2)
  replace l0 := liLP.set l0 (p := ⟨w.heap.size + 1, 1, none⟩) (u := .slice A2 n2 c2) (by simp only []; omega)
  replace l1 := liF.set l1 (p := ⟨w.heap.size + 1, 1, none⟩) (u := .slice A2 n2 c2) (by simp only []; omega)
  replace l2 := liF.set l2 (p := ⟨w.heap.size + 1, 1, none⟩) (u := .slice A2 n2 c2) (by simp only []; omega)
  replace B1e : Blk _ _ _ #[.slice A1 n1 c1, .slice A2 n2 c2, .slice A3 n3 c3] := B1e.set_ 2 (.slice A3 n3 c3)
  replace hBw3_0 := Below.setCell hBw3_0 (p := ⟨w.heap.size + 1, 2, none⟩) (by simp only []; omega) (.slice A3 n3 c3)
  replace l0 := liLP.set l0 (p := ⟨w.heap.size + 1, 2, none⟩) (u := .slice A3 n3 c3) (by simp only []; omega)
  replace l1 := liF.set l1 (p := ⟨w.heap.size + 1, 2, none⟩) (u := .slice A3 n3 c3) (by simp only []; omega)
  replace l2 := liF.set l2 (p := ⟨w.heap.size + 1, 2, none⟩) (u := .slice A3 n3 c3) (by simp only []; omega)
  have r0 := blk_cells B1e 0 _ rfl
  have r1 := blk_cells B1e 1 _ rfl
  have r2 := blk_cells B1e 2 _ rfl
  have HL := Lib.hid (show liS _ w.heap.size ((⟨A1, n1, c1, a1⟩, ⟨A2, n2, c2, a2⟩, ⟨A3, n3, c3, a3⟩) : SetR) from ⟨liLP.mono l0 (by omega), liF.mono l1 (by omega), liF.mono l2 (by omega)⟩)
  have HC := Lib.hid (show cS ((⟨A1, n1, c1, a1⟩, ⟨A2, n2, c2, a2⟩, ⟨A3, n3, c3, a3⟩) : SetR) = cS ⟨p, c, t⟩ by simp only [cS]; simp only [] at hc0 hc1 hc2; rw [hc0, hc1, hc2])
  clear l0 l1 l2 hc0 hc1 hc2 B0 B1 B2 B1e
  go_wp2
  exact bodyPost_ret (v := setV ((⟨A1, n1, c1, a1⟩, ⟨A2, n2, c2, a2⟩, ⟨A3, n3, c3, a3⟩) : SetR)) (by simp [results, Tryz.results35, go_sem, setV, SV.v, r0, r1, r2]) rfl ⟨((⟨A1, n1, c1, a1⟩, ⟨A2, n2, c2, a2⟩, ⟨A3, n3, c3, a3⟩) : SetR), rfl, HL.out, HC.out, hBw3_0⟩
set_option maxHeartbeats 1000000 in
theorem eqSetup_any (s s' : SetR) (w : World) (h : okS w s) (h' : okS w s') (hc : cS s = cS s') :
    Calls Tryz.prog 44 #[setV s, setV s'] w fun e w' => .returned (.bool true) = e ∧ Below w.heap.size w w' := by
  obtain ⟨p, c, t⟩ := s
  obtain ⟨p9, c9, t9⟩ := s'
  obtain ⟨hp, hch, ht⟩ := h
  obtain ⟨hp', hch', ht'⟩ := h'
  simp only [cS, Prod.mk.injEq] at hc
  obtain ⟨e0, e1, e2⟩ := hc
  have hb0 := alo (alo (Below.refl w.heap.size w) (.cells #[p.v, c.v, t.v] 38)) (.cells #[p9.v, c9.v, t9.v] 38)
  have B1 := (Blk.new w 38 #[p.v, c.v, t.v]).alloc (.cells #[p9.v, c9.v, t9.v] 38)
  have B2 := Blk.new2 w (.cells #[p.v, c.v, t.v] 38) 38 #[p9.v, c9.v, t9.v]
  simp only [setV]
  go_enter Tryz.func44, Tryz.ntmps44
  have x0 := blk_cells B1 0 _ rfl
  have y0 := blk_cells B2 0 _ rfl
  have x1 := blk_cells B1 1 _ rfl
  have y1 := blk_cells B2 1 _ rfl
  have x2 := blk_cells B1 2 _ rfl
  have y2 := blk_cells B2 2 _ rfl
  go_wp2_with fail
  refine (eqPartS_L p p9 _ (hp.below hb0) (hp'.below hb0) e0).mono ?_
  rintro e w1 ⟨rfl, hbw1⟩
  have hBw1 := thn hb0 hbw1
  replace B1 := B1.below hbw1
  replace B2 := B2.below hbw1
  clear x0 y0 x1 y1 x2 y2
  have x0 := blk_cells B1 0 _ rfl
  have y0 := blk_cells B2 0 _ rfl
  have x1 := blk_cells B1 1 _ rfl
  have y1 := blk_cells B2 1 _ rfl
  have x2 := blk_cells B1 2 _ rfl
  have y2 := blk_cells B2 2 _ rfl
  go_wp2_with fail
  refine (eqChannelS_L c c9 _ (hch.below hBw1) (hch'.below hBw1) e1).mono ?_
  rintro e w2 ⟨rfl, hbw2⟩
  have hBw2 := thn hBw1 hbw2
  replace B1 := B1.below hbw2
  replace B2 := B2.below hbw2
  clear x0 y0 x1 y1 x2 y2
  have x0 := blk_cells B1 0 _ rfl
  have y0 := blk_cells B2 0 _ rfl
  have x1 := blk_cells B1 1 _ rfl
  have y1 := blk_cells B2 1 _ rfl
  have x2 := blk_cells B1 2 _ rfl
  have y2 := blk_cells B2 2 _ rfl
  go_wp2_with fail
  refine (eqSlotS_L t t9 _ (ht.below hBw2) (ht'.below hBw2) e2).mono ?_
  rintro e w3 ⟨rfl, hbw3⟩
  have hBw3 := thn hBw2 hbw3
  replace B1 := B1.below hbw3
  replace B2 := B2.below hbw3
  clear x0 y0 x1 y1 x2 y2
  have x0 := blk_cells B1 0 _ rfl
  have y0 := blk_cells B2 0 _ rfl
  have x1 := blk_cells B1 1 _ rfl
  have y1 := blk_cells B2 1 _ rfl
  have x2 := blk_cells B1 2 _ rfl
  have y2 := blk_cells B2 2 _ rfl
  go_wp2
  go_ret
  exact ⟨rfl, hBw3⟩
abbrev MacR := SetR × SV OrdL × SV CoreT × SV HoldR × Int
def macV (m : MacR) : Value := .agg #[m.1.1.v, m.1.2.1.v, m.1.2.2.v, m.2.1.v, m.2.2.1.v, m.2.2.2.1.v, .int .i64 m.2.2.2.2]
def okM (w : World) (m : MacR) : Prop := okS w m.1 ∧ okLO w m.2.1 ∧ okLC w m.2.2.1 ∧ okLH w m.2.2.2.1
def liM (w : World) (base : Nat) (m : MacR) : Prop := liS w base m.1 ∧ liLO w base m.2.1 ∧ liLC w base m.2.2.1 ∧ liLH w base m.2.2.2.1
def cM (m : MacR) := (cS m.1, m.2.1.xs.map cO, m.2.2.1.xs.map cC, m.2.2.2.1.xs.map cH, m.2.2.2.2)
def smM (m : MacR) : Prop := smS m.1 ∧ shortL m.2.1.n smO m.2.1.xs ∧ shortL m.2.2.1.n smC m.2.2.1.xs ∧ shortL m.2.2.2.1.n smH m.2.2.2.1.xs
section
variable {w w' : World} {base base' : Nat} {s : MacR} {p : Addr} {u : Value}
theorem okM.below (h : okM w s) (hb : Below w.heap.size w w') : okM w' s := ⟨h.1.below hb, h.2.1.below hb, h.2.2.1.below hb, h.2.2.2.below hb⟩
theorem liM.below (h : liM w base s) (hb : Below w.heap.size w w') : liM w' base s := ⟨h.1.below hb, h.2.1.below hb, h.2.2.1.below hb, h.2.2.2.below hb⟩
theorem liM.set (h : liM w base s) (hp : p.block < base) : liM (w.setCell p u) base s := ⟨h.1.set hp, h.2.1.set hp, h.2.2.1.set hp, h.2.2.2.set hp⟩
theorem liM.mono (h : liM w base s) (hb : base' ≤ base) : liM w base' s := ⟨h.1.mono hb, h.2.1.mono hb, h.2.2.1.mono hb, h.2.2.2.mono hb⟩
theorem liM.ok (h : liM w base s) : okM w s := ⟨h.1.ok, h.2.1.ok, h.2.2.1.ok, h.2.2.2.ok⟩
end
set_option maxHeartbeats 1000000 in
theorem szMachine_any (s : MacR) (left : Int) (hl : 0 ≤ left ∧ left ≤ 1048576) (w : World) (h : okM w s) :
    Calls Tryz.prog 7 #[macV s, .int .i64 left] w (Post (fun m : Int => .int .i64 m) fun m w' => (-1 ≤ m ∧ m ≤ left) ∧ (0 ≤ m → smM s) ∧ Below w.heap.size w w') := by
  obtain ⟨⟨p, c, t⟩, o, k, d, tick⟩ := s
  obtain ⟨hp, ho, hk, hd⟩ := h
  obtain ⟨hl0, hl1⟩ := hl
  have hb0 := alo (Below.refl w.heap.size w) (.cells #[p.v, c.v, t.v, o.v, k.v, d.v, .int .i64 tick] 31)
  have B0 := Blk.new w 31 #[p.v, c.v, t.v, o.v, k.v, d.v, .int .i64 tick]
  simp only [macV, setV]
  have x0 := blk_cells B0 0 _ rfl
  have x1 := blk_cells B0 1 _ rfl
  have x2 := blk_cells B0 2 _ rfl
  have x3 := blk_cells B0 3 _ rfl
  have x4 := blk_cells B0 4 _ rfl
  have x5 := blk_cells B0 5 _ rfl
  have x6 := blk_cells B0 6 _ rfl
  clear B0
  have B0 := Blk.new w 31 #[p.v, c.v, t.v, o.v, k.v, d.v, .int .i64 tick]
  go_enter Tryz.func7, Tryz.ntmps7
  go_wp2_with fail
  refine (szSetup_any (p, c, t) left ⟨by omega, by omega⟩ _ (hp.below hb0)).mono ?_
  rintro e w1 ⟨m1, rfl, hm1, hsm1, hbm1⟩
  have hBm1 := thn hb0 hbm1
  replace B0 := B0.below hbm1
  clear x0 x1 x2 x3 x4 x5 x6
  have x0 := blk_cells B0 0 _ rfl
  have x1 := blk_cells B0 1 _ rfl
  have x2 := blk_cells B0 2 _ rfl
  have x3 := blk_cells B0 3 _ rfl
  have x4 := blk_cells B0 4 _ rfl
  have x5 := blk_cells B0 5 _ rfl
  have x6 := blk_cells B0 6 _ rfl
  by_cases hnm1 : m1 < 0
  · go_wp2
    go_ret
    exact ⟨-1, rfl, ⟨by omega, by omega⟩, (fun h => absurd h (by omega)), hBm1⟩
  · have hpm1 : 0 ≤ m1 := by omega
    have hrm1 := Lib.hid (hsm1 hpm1)
    clear hsm1
    go_wp2_with fail
    refine (szOrderSS_L o m1 ⟨by omega, by omega⟩ _ (ho.below hBm1)).mono ?_
    rintro e w2 ⟨m2, rfl, hm2, hsm2, hbm2⟩
    have hBm2 := thn hBm1 hbm2
    replace B0 := B0.below hbm2
    clear x0 x1 x2 x3 x4 x5 x6
    have x0 := blk_cells B0 0 _ rfl
    have x1 := blk_cells B0 1 _ rfl
    have x2 := blk_cells B0 2 _ rfl
    have x3 := blk_cells B0 3 _ rfl
    have x4 := blk_cells B0 4 _ rfl
    have x5 := blk_cells B0 5 _ rfl
    have x6 := blk_cells B0 6 _ rfl
    by_cases hnm2 : m2 < 0
    · go_wp2
      go_ret
      exact ⟨-1, rfl, ⟨by omega, by omega⟩, (fun h => absurd h (by omega)), hBm2⟩
    · have hpm2 : 0 ≤ m2 := by omega
      have hrm2 := Lib.hid (hsm2 hpm2)
      clear hsm2
      go_wp2_with fail
      refine (szCoreS_L k m2 ⟨by omega, by omega⟩ _ (hk.below hBm2)).mono ?_
      rintro e w3 ⟨m3, rfl, hm3, hsm3, hbm3⟩
      have hBm3 := thn hBm2 hbm3
      replace B0 := B0.below hbm3
      clear x0 x1 x2 x3 x4 x5 x6
      have x0 := blk_cells B0 0 _ rfl
      have x1 := blk_cells B0 1 _ rfl
      have x2 := blk_cells B0 2 _ rfl
      have x3 := blk_cells B0 3 _ rfl
      have x4 := blk_cells B0 4 _ rfl
      have x5 := blk_cells B0 5 _ rfl
      have x6 := blk_cells B0 6 _ rfl
      by_cases hnm3 : m3 < 0
      · go_wp2
        go_ret
        exact ⟨-1, rfl, ⟨by omega, by omega⟩, (fun h => absurd h (by omega)), hBm3⟩
      · have hpm3 : 0 ≤ m3 := by omega
        have hrm3 := Lib.hid (hsm3 hpm3)
        clear hsm3
        go_wp2_with fail
        refine (szHoldS_L d m3 ⟨by omega, by omega⟩ _ (hd.below hBm3)).mono ?_
        rintro e w4 ⟨m4, rfl, hm4, hsm4, hbm4⟩
        have hBm4 := thn hBm3 hbm4
        replace B0 := B0.below hbm4
        clear x0 x1 x2 x3 x4 x5 x6
        have x0 := blk_cells B0 0 _ rfl
        have x1 := blk_cells B0 1 _ rfl
        have x2 := blk_cells B0 2 _ rfl
        have x3 := blk_cells B0 3 _ rfl
        have x4 := blk_cells B0 4 _ rfl
        have x5 := blk_cells B0 5 _ rfl
        have x6 := blk_cells B0 6 _ rfl
        by_cases hnm4 : m4 < 0
        · go_wp2
          go_ret
          exact ⟨-1, rfl, ⟨by omega, by omega⟩, (fun h => absurd h (by omega)), hBm4⟩
        · have hpm4 : 0 ≤ m4 := by omega
          have hrm4 := Lib.hid (hsm4 hpm4)
          clear hsm4
          have HR := Lib.hid (⟨hrm1.out, hrm2.out, hrm3.out, hrm4.out⟩ : smM ⟨⟨p, c, t⟩, o, k, d, tick⟩)
          go_wp2
          go_ret
          exact ⟨m4, rfl, ⟨by omega, by omega⟩, (fun _ => HR.out), hBm4⟩
set_option maxHeartbeats 2000000 in
theorem toMachine_any (s : MacR) (hsm : smM s) (w : World) (h : okM w s) :
    Calls Tryz.prog 9 #[macV s] w (Post macV fun s' w' => liM w' w.heap.size s' ∧ cM s' = cM s ∧ Below w.heap.size w w') := by
  obtain ⟨⟨p, c, t⟩, o, k, d, tick⟩ := s
  obtain ⟨hp, ho, hk, hd⟩ := h
  obtain ⟨nhp, nho, nhk, nhd⟩ := hsm
  have hb0 := alo (alo (alo (Below.refl w.heap.size w) (.cells #[p.v, c.v, t.v, o.v, k.v, d.v, .int .i64 tick] 31)) (.cells #[.slice none 0 0, .slice none 0 0, .slice none 0 0, .slice none 0 0, .slice none 0 0, .slice none 0 0, .int .i64 0] 43)) (.cells #[.slice none 0 0, .slice none 0 0, .slice none 0 0, .slice none 0 0, .slice none 0 0, .slice none 0 0, .int .i64 0] 43)
  have B0 := ((Blk.new w 31 #[p.v, c.v, t.v, o.v, k.v, d.v, .int .i64 tick]).alloc (.cells #[.slice none 0 0, .slice none 0 0, .slice none 0 0, .slice none 0 0, .slice none 0 0, .slice none 0 0, .int .i64 0] 43)).alloc (.cells #[.slice none 0 0, .slice none 0 0, .slice none 0 0, .slice none 0 0, .slice none 0 0, .slice none 0 0, .int .i64 0] 43)
  have B1 := (Blk.new2 w (.cells #[p.v, c.v, t.v, o.v, k.v, d.v, .int .i64 tick] 31) 43 #[.slice none 0 0, .slice none 0 0, .slice none 0 0, .slice none 0 0, .slice none 0 0, .slice none 0 0, .int .i64 0]).alloc (.cells #[.slice none 0 0, .slice none 0 0, .slice none 0 0, .slice none 0 0, .slice none 0 0, .slice none 0 0, .int .i64 0] 43)
  have B2 := Blk.new3 w (.cells #[p.v, c.v, t.v, o.v, k.v, d.v, .int .i64 tick] 31) (.cells #[.slice none 0 0, .slice none 0 0, .slice none 0 0, .slice none 0 0, .slice none 0 0, .slice none 0 0, .int .i64 0] 43) 43 #[.slice none 0 0, .slice none 0 0, .slice none 0 0, .slice none 0 0, .slice none 0 0, .slice none 0 0, .int .i64 0]
  simp only [macV, setV]
  have x0 := blk_cells B0 0 _ rfl
  have x1 := blk_cells B0 1 _ rfl
  have x2 := blk_cells B0 2 _ rfl
  have x3 := blk_cells B0 3 _ rfl
  have x4 := blk_cells B0 4 _ rfl
  have x5 := blk_cells B0 5 _ rfl
  have x6 := blk_cells B0 6 _ rfl
  have f2 := B2.frozen
  have y0 := blk_cells B2 0 _ rfl
  have y1 := blk_cells B2 1 _ rfl
  have y2 := blk_cells B2 2 _ rfl
  have y3 := blk_cells B2 3 _ rfl
  have y4 := blk_cells B2 4 _ rfl
  have y5 := blk_cells B2 5 _ rfl
  have y6 := blk_cells B2 6 _ rfl
  go_enter Tryz.func9, Tryz.ntmps9
  go_wp2_with fail
  refine (toSetup_any (p, c, t) nhp _ (hp.below hb0)).mono ?_
  rintro e w1 ⟨s8, rfl, l0, hc0, hbw1⟩
  have hBw1 := thn hb0 hbw1
  have hzw1 := B2.lt
  replace B0 := B0.below hbw1
  replace B1 := B1.below hbw1
  replace B2 := B2.below hbw1
  replace l0 := liS.mono (base' := w.heap.size + 3) l0 (by omega)
  obtain ⟨⟨A1, n1, c1, a1⟩, ⟨A2, n2, c2, a2⟩, ⟨A3, n3, c3, a3⟩⟩ := s8
  simp only [setV, SV.v_mk]
  clear x0 x1 x2 x3 x4 x5 x6 y0 y1 y2 y3 y4 y5 y6 f2
  have f2 := B2.frozen
  have y0 := blk_cells B2 0 _ rfl
  have y1 := blk_cells B2 1 _ rfl
  have y2 := blk_cells B2 2 _ rfl
  have y3 := blk_cells B2 3 _ rfl
  have y4 := blk_cells B2 4 _ rfl
  have y5 := blk_cells B2 5 _ rfl
  have y6 := blk_cells B2 6 _ rfl
  have hBw1_0 := Below.setCell hBw1 (p := ⟨w.heap.size + 1 + 1, 0, none⟩) (by simp only []; omega) (.slice A1 n1 c1)
  replace B0 := B0.far (p := ⟨w.heap.size + 1 + 1, 0, none⟩) (by simp only []; omega) (.slice A1 n1 c1)
  replace B1 := B1.far (p := ⟨w.heap.size + 1 + 1, 0, none⟩) (by simp only []; omega) (.slice A1 n1 c1)
  replace B2 : Blk _ _ _ #[.slice A1 n1 c1, .slice none 0 0, .slice none 0 0, .slice none 0 0, .slice none 0 0, .slice none 0 0, .int .i64 0] := B2.set_ 0 (.slice A1 n1 c1)
  replace l0 := liS.set l0 (p := ⟨w.heap.size + 1 + 1, 0, none⟩) (u := .slice A1 n1 c1) (by simp only []; omega)
  have hBw1_1 := Below.setCell hBw1_0 (p := ⟨w.heap.size + 1 + 1, 1, none⟩) (by simp only []; omega) (.slice A2 n2 c2)
  replace B0 := B0.far (p := ⟨w.heap.size + 1 + 1, 1, none⟩) (by simp only []; omega) (.slice A2 n2 c2)
  replace B1 := B1.far (p := ⟨w.heap.size + 1 + 1, 1, none⟩) (by simp only []; omega) (.slice A2 n2 c2)
  replace B2 : Blk _ _ _ #[.slice A1 n1 c1, .slice A2 n2 c2, .slice none 0 0, .slice none 0 0, .slice none 0 0, .slice none 0 0, .int .i64 0] := B2.set_ 1 (.slice A2 n2 c2)
  replace l0 := liS.set l0 (p := ⟨w.heap.size + 1 + 1, 1, none⟩) (u := .slice A2 n2 c2) (by simp only []; omega)
  have hBw1_2 := Below.setCell hBw1_1 (p := ⟨w.heap.size + 1 + 1, 2, none⟩) (by simp only []; omega) (.slice A3 n3 c3)
  replace B0 := B0.far (p := ⟨w.heap.size + 1 + 1, 2, none⟩) (by simp only []; omega) (.slice A3 n3 c3)
  replace B1 := B1.far (p := ⟨w.heap.size + 1 + 1, 2, none⟩) (by simp only []; omega) (.slice A3 n3 c3)
  replace B2 : Blk _ _ _ #[.slice A1 n1 c1, .slice A2 n2 c2, .slice A3 n3 c3, .slice none 0 0, .slice none 0 0, .slice none 0 0, .int .i64 0] := B2.set_ 2 (.slice A3 n3 c3)
  replace l0 := liS.set l0 (p := ⟨w.heap.size + 1 + 1, 2, none⟩) (u := .slice A3 n3 c3) (by simp only []; omega)
  have x0 := blk_cells B0 0 _ rfl
  have x1 := blk_cells B0 1 _ rfl
  have x2 := blk_cells B0 2 _ rfl
  have x3 := blk_cells B0 3 _ rfl
  have x4 := blk_cells B0 4 _ rfl
  have x5 := blk_cells B0 5 _ rfl
  have x6 := blk_cells B0 6 _ rfl
  go_wp2_with fail
  refine (toOrderSS_L o nho _ (ho.below hBw1_2)).mono ?_
  rintro e w2 ⟨o', rfl, l1, hc1, hbw2⟩
  have hBw2 := thn hBw1_2 hbw2
  have hzw2 := B2.lt
  replace B0 := B0.below hbw2
  replace B1 := B1.below hbw2
  replace B2 := B2.below hbw2
  replace l1 := liLO.mono (base' := w.heap.size + 3) l1 (by omega)
  replace l0 := liS.below l0 hbw2
  obtain ⟨A4, n4, c4, a4⟩ := o'
  simp only [SV.v_mk]
  clear x0 x1 x2 x3 x4 x5 x6 y0 y1 y2 y3 y4 y5 y6 f2
  have f2 := B2.frozen
  have y0 := blk_cells B2 0 _ rfl
  have y1 := blk_cells B2 1 _ rfl
  have y2 := blk_cells B2 2 _ rfl
  have y3 := blk_cells B2 3 _ rfl
  have y4 := blk_cells B2 4 _ rfl
  have y5 := blk_cells B2 5 _ rfl
  have y6 := blk_cells B2 6 _ rfl
  have hBw2_0 := Below.setCell hBw2 (p := ⟨w.heap.size + 1 + 1, 3, none⟩) (by simp only []; omega) (.slice A4 n4 c4)
  replace B0 := B0.far (p := ⟨w.heap.size + 1 + 1, 3, none⟩) (by simp only []; omega) (.slice A4 n4 c4)
  replace B1 := B1.far (p := ⟨w.heap.size + 1 + 1, 3, none⟩) (by simp only []; omega) (.slice A4 n4 c4)
  replace B2 : Blk _ _ _ #[.slice A1 n1 c1, .slice A2 n2 c2, .slice A3 n3 c3, .slice A4 n4 c4, .slice none 0 0, .slice none 0 0, .int .i64 0] := B2.set_ 3 (.slice A4 n4 c4)
  replace l0 := liS.set l0 (p := ⟨w.heap.size + 1 + 1, 3, none⟩) (u := .slice A4 n4 c4) (by simp only []; omega)
  replace l1 := liLO.set l1 (p := ⟨w.heap.size + 1 + 1, 3, none⟩) (u := .slice A4 n4 c4) (by simp only []; omega)
  have x0 := blk_cells B0 0 _ rfl
  have x1 := blk_cells B0 1 _ rfl
  have x2 := blk_cells B0 2 _ rfl
  have x3 := blk_cells B0 3 _ rfl
  have x4 := blk_cells B0 4 _ rfl
  have x5 := blk_cells B0 5 _ rfl
  have x6 := blk_cells B0 6 _ rfl
  go_wp2_with fail
  refine (toCoreS_L k nhk _ (hk.below hBw2_0)).mono ?_
  rintro e w3 ⟨k', rfl, l2, hc2, hbw3⟩
  have hBw3 := thn hBw2_0 hbw3
  have hzw3 := B2.lt
  replace B0 := B0.below hbw3
  replace B1 := B1.below hbw3
  replace B2 := B2.below hbw3
  replace l2 := liLC.mono (base' := w.heap.size + 3) l2 (by omega)
  replace l0 := liS.below l0 hbw3
  replace l1 := liLO.below l1 hbw3
  obtain ⟨A5, n5, c5, a5⟩ := k'
  simp only [SV.v_mk]
  clear x0 x1 x2 x3 x4 x5 x6 y0 y1 y2 y3 y4 y5 y6 f2
  have f2 := B2.frozen
  have y0 := blk_cells B2 0 _ rfl
  have y1 := blk_cells B2 1 _ rfl
  have y2 := blk_cells B2 2 _ rfl
  have y3 := blk_cells B2 3 _ rfl
  have y4 := blk_cells B2 4 _ rfl
  have y5 := blk_cells B2 5 _ rfl
  have y6 := blk_cells B2 6 _ rfl
  have hBw3_0 := Below.setCell hBw3 (p := ⟨w.heap.size + 1 + 1, 4, none⟩) (by simp only []; omega) (.slice A5 n5 c5)
  replace B0 := B0.far (p := ⟨w.heap.size + 1 + 1, 4, none⟩) (by simp only []; omega) (.slice A5 n5 c5)
  replace B1 := B1.far (p := ⟨w.heap.size + 1 + 1, 4, none⟩) (by simp only []; omega) (.slice A5 n5 c5)
  replace B2 : Blk _ _ _ #[.slice A1 n1 c1, .slice A2 n2 c2, .slice A3 n3 c3, .slice A4 n4 c4, .slice A5 n5 c5, .slice none 0 0, .int .i64 0] := B2.set_ 4 (.slice A5 n5 c5)
  replace l0 := liS.set l0 (p := ⟨w.heap.size + 1 + 1, 4, none⟩) (u := .slice A5 n5 c5) (by simp only []; omega)
  replace l1 := liLO.set l1 (p := ⟨w.heap.size + 1 + 1, 4, none⟩) (u := .slice A5 n5 c5) (by simp only []; omega)
  replace l2 := liLC.set l2 (p := ⟨w.heap.size + 1 + 1, 4, none⟩) (u := .slice A5 n5 c5) (by simp only []; omega)
  have x0 := blk_cells B0 0 _ rfl
  have x1 := blk_cells B0 1 _ rfl
  have x2 := blk_cells B0 2 _ rfl
  have x3 := blk_cells B0 3 _ rfl
  have x4 := blk_cells B0 4 _ rfl
  have x5 := blk_cells B0 5 _ rfl
  have x6 := blk_cells B0 6 _ rfl
  go_wp2_with fail
  refine (toHoldS_L d nhd _ (hd.below hBw3_0)).mono ?_
  rintro e w4 ⟨d', rfl, l3, hc3, hbw4⟩
  have hBw4 := thn hBw3_0 hbw4
  have hzw4 := B2.lt
  replace B0 := B0.below hbw4
  replace B1 := B1.below hbw4
  replace B2 := B2.below hbw4
  replace l3 := liLH.mono (base' := w.heap.size + 3) l3 (by omega)
  replace l0 := liS.below l0 hbw4
  replace l1 := liLO.below l1 hbw4
  replace l2 := liLC.below l2 hbw4
  obtain ⟨A6, n6, c6, a6⟩ := d'
  simp only [SV.v_mk]
  clear x0 x1 x2 x3 x4 x5 x6 y0 y1 y2 y3 y4 y5 y6 f2
  have f2 := B2.frozen
  have y0 := blk_cells B2 0 _ rfl
  have y1 := blk_cells B2 1 _ rfl
  have y2 := blk_cells B2 2 _ rfl
  have y3 := blk_cells B2 3 _ rfl
  have y4 := blk_cells B2 4 _ rfl
  have y5 := blk_cells B2 5 _ rfl
  have y6 := blk_cells B2 6 _ rfl
  have hBw4_0 := Below.setCell hBw4 (p := ⟨w.heap.size + 1 + 1, 5, none⟩) (by simp only []; omega) (.slice A6 n6 c6)
  replace B0 := B0.far (p := ⟨w.heap.size + 1 + 1, 5, none⟩) (by simp only []; omega) (.slice A6 n6 c6)
  replace B1 := B1.far (p := ⟨w.heap.size + 1 + 1, 5, none⟩) (by simp only []; omega) (.slice A6 n6 c6)
  replace B2 : Blk _ _ _ #[.slice A1 n1 c1, .slice A2 n2 c2, .slice A3 n3 c3, .slice A4 n4 c4, .slice A5 n5 c5, .slice A6 n6 c6, .int .i64 0] := B2.set_ 5 (.slice A6 n6 c6)
  replace l0 := liS.set l0 (p := ⟨w.heap.size + 1 + 1, 5, none⟩) (u := .slice A6 n6 c6) (by simp only []; omega)
  replace l1 := liLO.set l1 (p := ⟨w.heap.size + 1 + 1, 5, none⟩) (u := .slice A6 n6 c6) (by simp only []; omega)
  replace l2 := liLC.set l2 (p := ⟨w.heap.size + 1 + 1, 5, none⟩) (u := .slice A6 n6 c6) (by simp only []; omega)
  replace l3 := liLH.set l3 (p := ⟨w.heap.size + 1 + 1, 5, none⟩) (u := .slice A6 n6 c6) (by simp only []; omega)
  have x0 := blk_cells B0 0 _ rfl
  have x1 := blk_cells B0 1 _ rfl
  have x2 := blk_cells B0 2 _ rfl
  have x3 := blk_cells B0 3 _ rfl
  have x4 := blk_cells B0 4 _ rfl
  have x5 := blk_cells B0 5 _ rfl
  have x6 := blk_cells B0 6 _ rfl
  have y6_ := blk_cells B2 6 _ rfl
  have f2_ := B2.frozen
  replace hBw4_0 := Below.setCell hBw4_0 (p := ⟨w.heap.size + 1 + 1, 6, none⟩) (by simp only []; omega) (.int .i64 tick)
  replace B1 := B1.far (p := ⟨w.heap.size + 1 + 1, 6, none⟩) (by simp only []; omega) (.int .i64 tick)
  replace B2 : Blk _ _ _ #[.slice A1 n1 c1, .slice A2 n2 c2, .slice A3 n3 c3, .slice A4 n4 c4, .slice A5 n5 c5, .slice A6 n6 c6, .int .i64 tick] := B2.set_ 6 (.int .i64 tick)
  replace l0 := liS.set l0 (p := ⟨w.heap.size + 1 + 1, 6, none⟩) (u := .int .i64 tick) (by simp only []; omega)
  replace l1 := liLO.set l1 (p := ⟨w.heap.size + 1 + 1, 6, none⟩) (u := .int .i64 tick) (by simp only []; omega)
  replace l2 := liLC.set l2 (p := ⟨w.heap.size + 1 + 1, 6, none⟩) (u := .int .i64 tick) (by simp only []; omega)
  replace l3 := liLH.set l3 (p := ⟨w.heap.size + 1 + 1, 6, none⟩) (u := .int .i64 tick) (by simp only []; omega)
  have u0 := blk_cells B2 0 _ rfl
  have u1 := blk_cells B2 1 _ rfl
  have u2 := blk_cells B2 2 _ rfl
  have u3 := blk_cells B2 3 _ rfl
  have u4 := blk_cells B2 4 _ rfl
  have u5 := blk_cells B2 5 _ rfl
  have u6 := blk_cells B2 6 _ rfl
  have f1 := B1.frozen
  have z0 := blk_cells B1 0 _ rfl
  have z1 := blk_cells B1 1 _ rfl
  have z2 := blk_cells B1 2 _ rfl
  have z3 := blk_cells B1 3 _ rfl
  have z4 := blk_cells B1 4 _ rfl
  have z5 := blk_cells B1 5 _ rfl
  have z6 := blk_cells B1 6 _ rfl
  have B1e := B1
  replace B1e : Blk _ _ _ #[.slice A1 n1 c1, .slice none 0 0, .slice none 0 0, .slice none 0 0, .slice none 0 0, .slice none 0 0, .int .i64 0] := B1e.set_ 0 (.slice A1 n1 c1)
  replace hBw4_0 := Below.setCell hBw4_0 (p := ⟨w.heap.size + 1, 0, none⟩) (by simp only []; omega) (.slice A1 n1 c1)
  replace l0 := liS.set l0 (p := ⟨w.heap.size + 1, 0, none⟩) (u := .slice A1 n1 c1) (by simp only []; omega)
  replace l1 := liLO.set l1 (p := ⟨w.heap.size + 1, 0, none⟩) (u := .slice A1 n1 c1) (by simp only []; omega)
  replace l2 := liLC.set l2 (p := ⟨w.heap.size + 1, 0, none⟩) (u := .slice A1 n1 c1) (by simp only []; omega)
  replace l3 := liLH.set l3 (p := ⟨w.heap.size + 1, 0, none⟩) (u := .slice A1 n1 c1) (by simp only []; omega)
  replace B1e : Blk _ _ _ #[.slice A1 n1 c1, .slice A2 n2 c2, .slice none 0 0, .slice none 0 0, .slice none 0 0, .slice none 0 0, .int .i64 0] := B1e.set_ 1 (.slice A2 n2 c2)
  replace hBw4_0 := Below.setCell hBw4_0 (p := ⟨w.heap.size + 1, 1, none⟩) (by simp only []; omega) (.slice A2 n2 c2)
  replace l0 := liS.set l0 (p := ⟨w.heap.size + 1, 1, none⟩) (u := .slice A2 n2 c2) (by simp only []; omega)
  replace l1 := liLO.set l1 (p := ⟨w.heap.size + 1, 1, none⟩) (u := .slice A2 n2 c2) (by simp only []; omega)
  replace l2 := liLC.set l2 (p := ⟨w.heap.size + 1, 1, none⟩) (u := .slice A2 n2 c2) (by simp only []; omega)
  replace l3 := liLH.set l3 (p := ⟨w.heap.size + 1, 1, none⟩) (u := .slice A2 n2 c2) (by simp only []; omega)
  replace B1e : Blk _ _ _ #[.slice A1 n1 c1, .slice A2 n2 c2, .slice A3 n3 c3, .slice none 0 0, .slice none 0 0, .slice none 0 0, .int .i64 0] := B1e.set_ 2 (.slice A3 n3 c3)
  replace hBw4_0 := Below.setCell hBw4_0 (p := ⟨w.heap.size + 1, 2, none⟩) (by simp only []; omega) (.slice A3 n3 c3)
  replace l0 := liS.set l0 (p := ⟨w.heap.size + 1, 2, none⟩) (u := .slice A3 n3 c3) (by simp only []; omega)
  replace l1 := liLO.set l1 (p := ⟨w.heap.size + 1, 2, none⟩) (u := .slice A3 n3 c3) (by simp only []; omega)
  replace l2 := liLC.set l2 (p := ⟨w.heap.size + 1, 2, none⟩) (u := .slice A3 n3 c3) (by simp only []; omega)
  replace l3 := liLH.set l3 (p := ⟨w.heap.size + 1, 2, none⟩) (u := .slice A3 n3 c3) (by simp only []; omega)
  replace B1e : Blk _ _ _ #[.slice A1 n1 c1, .slice A2 n2 c2, .slice A3 n3 c3, .slice A4 n4 c4, .slice none 0 0, .slice none 0 0, .int .i64 0] := B1e.set_ 3 (.slice A4 n4 c4)
  replace hBw4_0 := Below.setCell hBw4_0 (p := ⟨w.heap.size + 1, 3, none⟩) (by simp only []; omega) (.slice A4 n4 c4)
  replace l0 := liS.set l0 (p := ⟨w.heap.size + 1, 3, none⟩) (u := .slice A4 n4 c4) (by simp only []; omega)
  replace l1 := liLO.set l1 (p := ⟨w.heap.size + 1, 3, none⟩) (u := .slice A4 n4 c4) (by simp only []; omega)
  replace l2 := liLC.set l2 (p := ⟨w.heap.size + 1, 3, none⟩) (u := .slice A4 n4 c4) (by simp only []; omega)
  replace l3 := liLH.set l3 (p := ⟨w.heap.size + 1, 3, none⟩) (u := .slice A4 n4 c4) (by simp only []; omega)
  replace B1e : Blk _ _ _ #[.slice A1 n1 c1, .slice A2 n2 c2, .slice A3 n3 c3, .slice A4 n4 c4, .slice A5 n5 c5, .slice none 0 0, .int .i64 0] := B1e.set_ 4 (.slice A5 n5 c5)
  replace hBw4_0 := Below.setCell hBw4_0 (p := ⟨w.heap.size + 1, 4, none⟩) (by simp only []; omega) (.slice A5 n5 c5)
  replace l0 := liS.set l0 (p := ⟨w.heap.size + 1, 4, none⟩) (u := .slice A5 n5 c5) (by simp only []; omega)
  replace l1 := liLO.set l1 (p := ⟨w.heap.size + 1, 4, none⟩) (u := .slice A5 n5 c5) (by simp only []; omega)
  replace l2 := liLC.set l2 (p := ⟨w.heap.size + 1, 4, none⟩) (u := .slice A5 n5 c5) (by simp only []; omega)
  replace l3 := liLH.set l3 (p := ⟨w.heap.size + 1, 4, none⟩) (u := .slice A5 n5 c5) (by simp only []; omega)
  replace B1e : Blk _ _ _ #[.slice A1 n1 c1, .slice A2 n2 c2, .slice A3 n3 c3, .slice A4 n4 c4, .slice A5 n5 c5, .slice A6 n6 c6, .int .i64 0] := B1e.set_ 5 (.slice A6 n6 c6)
  replace hBw4_0 := Below.setCell hBw4_0 (p := ⟨w.heap.size + 1, 5, none⟩) (by simp only []; omega) (.slice A6 n6 c6)
  replace l0 := liS.set l0 (p := ⟨w.heap.size + 1, 5, none⟩) (u := .slice A6 n6 c6) (by simp only []; omega)
  replace l1 := liLO.set l1 (p := ⟨w.heap.size + 1, 5, none⟩) (u := .slice A6 n6 c6) (by simp only []; omega)
  replace l2 := liLC.set l2 (p := ⟨w.heap.size + 1, 5, none⟩) (u := .slice A6 n6 c6) (by simp only []; omega)
  replace l3 := liLH.set l3 (p := ⟨w.heap.size + 1, 5, none⟩) (u := .slice A6 n6 c6) (by simp only []; omega)
  replace B1e : Blk _ _ _ #[.slice A1 n1 c1, .slice A2 n2 c2, .slice A3 n3 c3, .slice A4 n4 c4, .slice A5 n5 c5, .slice A6 n6 c6, .int .i64 tick] := B1e.set_ 6 (.int .i64 tick)
  replace hBw4_0 := Below.setCell hBw4_0 (p := ⟨w.heap.size + 1, 6, none⟩) (by simp only []; omega) (.int .i64 tick)
  replace l0 := liS.set l0 (p := ⟨w.heap.size + 1, 6, none⟩) (u := .int .i64 tick) (by simp only []; omega)
  replace l1 := liLO.set l1 (p := ⟨w.heap.size + 1, 6, none⟩) (u := .int .i64 tick) (by simp only []; omega)
  replace l2 := liLC.set l2 (p := ⟨w.heap.size + 1, 6, none⟩) (u := .int .i64 tick) (by simp only []; omega)
  replace l3 := liLH.set l3 (p := ⟨w.heap.size + 1, 6, none⟩) (u := .int .i64 tick) (by simp only []; omega)
  have r0 := blk_cells B1e 0 _ rfl
  have r1 := blk_cells B1e 1 _ rfl
  have r2 := blk_cells B1e 2 _ rfl
  have r3 := blk_cells B1e 3 _ rfl
  have r4 := blk_cells B1e 4 _ rfl
  have r5 := blk_cells B1e 5 _ rfl
  have r6 := blk_cells B1e 6 _ rfl
  have HL := Lib.hid (show liM _ w.heap.size (((⟨A1, n1, c1, a1⟩, ⟨A2, n2, c2, a2⟩, ⟨A3, n3, c3, a3⟩), ⟨A4, n4, c4, a4⟩, ⟨A5, n5, c5, a5⟩, ⟨A6, n6, c6, a6⟩, tick) : MacR) from ⟨liS.mono l0 (by omega), liLO.mono l1 (by omega), liLC.mono l2 (by omega), liLH.mono l3 (by omega)⟩)
  have HC := Lib.hid (show cM (((⟨A1, n1, c1, a1⟩, ⟨A2, n2, c2, a2⟩, ⟨A3, n3, c3, a3⟩), ⟨A4, n4, c4, a4⟩, ⟨A5, n5, c5, a5⟩, ⟨A6, n6, c6, a6⟩, tick) : MacR) = cM ⟨⟨p, c, t⟩, o, k, d, tick⟩ by simp only [cM]; simp only [] at hc1 hc2 hc3; rw [hc1, hc2, hc3, hc0])
  clear l0 l1 l2 l3 hc0 hc1 hc2 hc3 B0 B1 B2 B1e
  go_wp2
  exact bodyPost_ret (v := macV (((⟨A1, n1, c1, a1⟩, ⟨A2, n2, c2, a2⟩, ⟨A3, n3, c3, a3⟩), ⟨A4, n4, c4, a4⟩, ⟨A5, n5, c5, a5⟩, ⟨A6, n6, c6, a6⟩, tick) : MacR)) (by simp [results, Tryz.results9, go_sem, macV, setV, SV.v, r0, r1, r2, r3, r4, r5, r6]) rfl ⟨(((⟨A1, n1, c1, a1⟩, ⟨A2, n2, c2, a2⟩, ⟨A3, n3, c3, a3⟩), ⟨A4, n4, c4, a4⟩, ⟨A5, n5, c5, a5⟩, ⟨A6, n6, c6, a6⟩, tick) : MacR), rfl, HL.out, HC.out, hBw4_0⟩
set_option maxHeartbeats 1000000 in
theorem eqMachine_any (s s' : MacR) (w : World) (h : okM w s) (h' : okM w s') (hc : cM s = cM s') :
    Calls Tryz.prog 11 #[macV s, macV s'] w fun e w' => .returned (.bool true) = e ∧ Below w.heap.size w w' := by
  obtain ⟨⟨p, c, t⟩, o, k, d, tick⟩ := s
  obtain ⟨⟨p9, c9, t9⟩, o9, k9, d9, tick9⟩ := s'
  obtain ⟨hp, ho, hk, hd⟩ := h
  obtain ⟨hp', ho', hk', hd'⟩ := h'
  simp only [cM, Prod.mk.injEq] at hc
  obtain ⟨e0, e1, e2, e3, rfl⟩ := hc
  have hb0 := alo (alo (Below.refl w.heap.size w) (.cells #[p.v, c.v, t.v, o.v, k.v, d.v, .int .i64 tick] 43)) (.cells #[p9.v, c9.v, t9.v, o9.v, k9.v, d9.v, .int .i64 tick] 43)
  have B1 := (Blk.new w 43 #[p.v, c.v, t.v, o.v, k.v, d.v, .int .i64 tick]).alloc (.cells #[p9.v, c9.v, t9.v, o9.v, k9.v, d9.v, .int .i64 tick] 43)
  have B2 := Blk.new2 w (.cells #[p.v, c.v, t.v, o.v, k.v, d.v, .int .i64 tick] 43) 43 #[p9.v, c9.v, t9.v, o9.v, k9.v, d9.v, .int .i64 tick]
  simp only [macV, setV]
  go_enter Tryz.func11, Tryz.ntmps11
  have x0 := blk_cells B1 0 _ rfl
  have y0 := blk_cells B2 0 _ rfl
  have x1 := blk_cells B1 1 _ rfl
  have y1 := blk_cells B2 1 _ rfl
  have x2 := blk_cells B1 2 _ rfl
  have y2 := blk_cells B2 2 _ rfl
  have x3 := blk_cells B1 3 _ rfl
  have y3 := blk_cells B2 3 _ rfl
  have x4 := blk_cells B1 4 _ rfl
  have y4 := blk_cells B2 4 _ rfl
  have x5 := blk_cells B1 5 _ rfl
  have y5 := blk_cells B2 5 _ rfl
  have x6 := blk_cells B1 6 _ rfl
  have y6 := blk_cells B2 6 _ rfl
  go_wp2_with fail
  refine (eqSetup_any (p, c, t) (p9, c9, t9) _ (hp.below hb0) (hp'.below hb0) e0).mono ?_
  rintro e w1 ⟨rfl, hbw1⟩
  have hBw1 := thn hb0 hbw1
  replace B1 := B1.below hbw1
  replace B2 := B2.below hbw1
  clear x0 y0 x1 y1 x2 y2 x3 y3 x4 y4 x5 y5 x6 y6
  have x0 := blk_cells B1 0 _ rfl
  have y0 := blk_cells B2 0 _ rfl
  have x1 := blk_cells B1 1 _ rfl
  have y1 := blk_cells B2 1 _ rfl
  have x2 := blk_cells B1 2 _ rfl
  have y2 := blk_cells B2 2 _ rfl
  have x3 := blk_cells B1 3 _ rfl
  have y3 := blk_cells B2 3 _ rfl
  have x4 := blk_cells B1 4 _ rfl
  have y4 := blk_cells B2 4 _ rfl
  have x5 := blk_cells B1 5 _ rfl
  have y5 := blk_cells B2 5 _ rfl
  have x6 := blk_cells B1 6 _ rfl
  have y6 := blk_cells B2 6 _ rfl
  go_wp2_with fail
  refine (eqOrderSS_L o o9 _ (ho.below hBw1) (ho'.below hBw1) e1).mono ?_
  rintro e w2 ⟨rfl, hbw2⟩
  have hBw2 := thn hBw1 hbw2
  replace B1 := B1.below hbw2
  replace B2 := B2.below hbw2
  clear x0 y0 x1 y1 x2 y2 x3 y3 x4 y4 x5 y5 x6 y6
  have x0 := blk_cells B1 0 _ rfl
  have y0 := blk_cells B2 0 _ rfl
  have x1 := blk_cells B1 1 _ rfl
  have y1 := blk_cells B2 1 _ rfl
  have x2 := blk_cells B1 2 _ rfl
  have y2 := blk_cells B2 2 _ rfl
  have x3 := blk_cells B1 3 _ rfl
  have y3 := blk_cells B2 3 _ rfl
  have x4 := blk_cells B1 4 _ rfl
  have y4 := blk_cells B2 4 _ rfl
  have x5 := blk_cells B1 5 _ rfl
  have y5 := blk_cells B2 5 _ rfl
  have x6 := blk_cells B1 6 _ rfl
  have y6 := blk_cells B2 6 _ rfl
  go_wp2_with fail
  refine (eqCoreS_L k k9 _ (hk.below hBw2) (hk'.below hBw2) e2).mono ?_
  rintro e w3 ⟨rfl, hbw3⟩
  have hBw3 := thn hBw2 hbw3
  replace B1 := B1.below hbw3
  replace B2 := B2.below hbw3
  clear x0 y0 x1 y1 x2 y2 x3 y3 x4 y4 x5 y5 x6 y6
  have x0 := blk_cells B1 0 _ rfl
  have y0 := blk_cells B2 0 _ rfl
  have x1 := blk_cells B1 1 _ rfl
  have y1 := blk_cells B2 1 _ rfl
  have x2 := blk_cells B1 2 _ rfl
  have y2 := blk_cells B2 2 _ rfl
  have x3 := blk_cells B1 3 _ rfl
  have y3 := blk_cells B2 3 _ rfl
  have x4 := blk_cells B1 4 _ rfl
  have y4 := blk_cells B2 4 _ rfl
  have x5 := blk_cells B1 5 _ rfl
  have y5 := blk_cells B2 5 _ rfl
  have x6 := blk_cells B1 6 _ rfl
  have y6 := blk_cells B2 6 _ rfl
  go_wp2_with fail
  refine (eqHoldS_L d d9 _ (hd.below hBw3) (hd'.below hBw3) e3).mono ?_
  rintro e w4 ⟨rfl, hbw4⟩
  have hBw4 := thn hBw3 hbw4
  replace B1 := B1.below hbw4
  replace B2 := B2.below hbw4
  clear x0 y0 x1 y1 x2 y2 x3 y3 x4 y4 x5 y5 x6 y6
  have x0 := blk_cells B1 0 _ rfl
  have y0 := blk_cells B2 0 _ rfl
  have x1 := blk_cells B1 1 _ rfl
  have y1 := blk_cells B2 1 _ rfl
  have x2 := blk_cells B1 2 _ rfl
  have y2 := blk_cells B2 2 _ rfl
  have x3 := blk_cells B1 3 _ rfl
  have y3 := blk_cells B2 3 _ rfl
  have x4 := blk_cells B1 4 _ rfl
  have y4 := blk_cells B2 4 _ rfl
  have x5 := blk_cells B1 5 _ rfl
  have y5 := blk_cells B2 5 _ rfl
  have x6 := blk_cells B1 6 _ rfl
  have y6 := blk_cells B2 6 _ rfl
  go_wp2
  go_ret
  exact ⟨rfl, hBw4⟩
end Go.Proofs.YtckgdlgdipfgmaaGreat
