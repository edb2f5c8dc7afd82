/- The exact laws' own functions at Setup and Machine. -/
import Derived.Test.YtckgdlgdipfgmaaGreatExLst
import Derived.Test.YtckgdlgdipfgmaaGreatExSlot
import Derived.Test.YtckgdlgdipfgmaaGreatExChannel
namespace Go.Proofs.YtckgdlgdipfgmaaGreat
set_option linter.unusedVariables false
set_option linter.unusedSimpArgs false
open Go.RowKit

abbrev ChanT := Int × Int × Int × Int
/-- A list that can be read, in a block behind a bound. -/
def liF {α : Type} (k : Nat) (enc : α → List Value) (w : World) (base : Nat) (s : SV α) : Prop := Sl w k enc s.A s.n s.c s.xs ∧ Fr base s.A
def okF {α : Type} (k : Nat) (enc : α → List Value) (w : World) (s : SV α) : Prop := Sl w k enc s.A s.n s.c s.xs
section
variable {α : Type} {k : Nat} {enc : α → List Value} {w w' : World} {base base' : Nat} {s : SV α} {p : Addr} {u : Value}
theorem liF.below (h : liF k enc w base s) (hb : Below w.heap.size w w') : liF k enc w' base s := ⟨h.1.below hb, h.2⟩
theorem liF.set (h : liF k enc w base s) (hp : p.block < base) : liF k enc (w.setCell p u) base s := ⟨h.1.setF h.2 hp u, h.2⟩
theorem liF.mono (h : liF k enc w base s) (hb : base' ≤ base) : liF k enc w base' s := ⟨h.1, h.2.mono hb⟩
theorem liF.ok (h : liF k enc w base s) : okF k enc w s := h.1
end
def okLP (w : World) (s : SV PartV) : Prop := Sl w 2 eP s.A s.n s.c s.xs ∧ AllE (okP w) s.xs
def liLP (w : World) (base : Nat) (s : SV PartV) : Prop := (Sl w 2 eP s.A s.n s.c s.xs ∧ Fr base s.A) ∧ AllE (liP w base) s.xs
section
variable {w w' : World} {base base' : Nat} {s : SV PartV} {p : Addr} {u : Value}
theorem okLP.below (h : okLP w s) (hb : Below w.heap.size w w') : okLP w' s := ⟨h.1.below hb, AllE.mono h.2 fun x hx => okP.below hx hb⟩
theorem liLP.below (h : liLP w base s) (hb : Below w.heap.size w w') : liLP w' base s := ⟨⟨h.1.1.below hb, h.1.2⟩, AllE.mono h.2 fun x hx => liP.below hx hb⟩
theorem liLP.set (h : liLP w base s) (hp : p.block < base) : liLP (w.setCell p u) base s := ⟨⟨h.1.1.setF h.1.2 hp u, h.1.2⟩, AllE.mono h.2 fun x hx => liP.set hx hp⟩
theorem liLP.mono (h : liLP w base s) (hb : base' ≤ base) : liLP w base' s := ⟨⟨h.1.1, h.1.2.mono hb⟩, AllE.mono h.2 fun x hx => liP.mono hx hb⟩
theorem liLP.ok (h : liLP w base s) : okLP w s := ⟨h.1.1, AllE.mono h.2 fun x hx => hx.1⟩
end
def okLO (w : World) (s : SV OrdL) : Prop := Sl w 1 eOL s.A s.n s.c s.xs ∧ AllE (okO w) s.xs
def liLO (w : World) (base : Nat) (s : SV OrdL) : Prop := (Sl w 1 eOL s.A s.n s.c s.xs ∧ Fr base s.A) ∧ AllE (liO w base) s.xs
section
variable {w w' : World} {base base' : Nat} {s : SV OrdL} {p : Addr} {u : Value}
theorem okLO.below (h : okLO w s) (hb : Below w.heap.size w w') : okLO w' s := ⟨h.1.below hb, AllE.mono h.2 fun x hx => okO.below hx hb⟩
theorem liLO.below (h : liLO w base s) (hb : Below w.heap.size w w') : liLO w' base s := ⟨⟨h.1.1.below hb, h.1.2⟩, AllE.mono h.2 fun x hx => liO.below hx hb⟩
theorem liLO.set (h : liLO w base s) (hp : p.block < base) : liLO (w.setCell p u) base s := ⟨⟨h.1.1.setF h.1.2 hp u, h.1.2⟩, AllE.mono h.2 fun x hx => liO.set hx hp⟩
theorem liLO.mono (h : liLO w base s) (hb : base' ≤ base) : liLO w base' s := ⟨⟨h.1.1, h.1.2.mono hb⟩, AllE.mono h.2 fun x hx => liO.mono hx hb⟩
theorem liLO.ok (h : liLO w base s) : okLO w s := ⟨h.1.1, AllE.mono h.2 fun x hx => hx.1⟩
end
def okLC (w : World) (s : SV CoreT) : Prop := Sl w 3 eCo s.A s.n s.c s.xs ∧ AllE (okC w) s.xs
def liLC (w : World) (base : Nat) (s : SV CoreT) : Prop := (Sl w 3 eCo s.A s.n s.c s.xs ∧ Fr base s.A) ∧ AllE (liC w base) s.xs
section
variable {w w' : World} {base base' : Nat} {s : SV CoreT} {p : Addr} {u : Value}
theorem okLC.below (h : okLC w s) (hb : Below w.heap.size w w') : okLC w' s := ⟨h.1.below hb, AllE.mono h.2 fun x hx => okC.below hx hb⟩
theorem liLC.below (h : liLC w base s) (hb : Below w.heap.size w w') : liLC w' base s := ⟨⟨h.1.1.below hb, h.1.2⟩, AllE.mono h.2 fun x hx => liC.below hx hb⟩
theorem liLC.set (h : liLC w base s) (hp : p.block < base) : liLC (w.setCell p u) base s := ⟨⟨h.1.1.setF h.1.2 hp u, h.1.2⟩, AllE.mono h.2 fun x hx => liC.set hx hp⟩
theorem liLC.mono (h : liLC w base s) (hb : base' ≤ base) : liLC w base' s := ⟨⟨h.1.1, h.1.2.mono hb⟩, AllE.mono h.2 fun x hx => liC.mono hx hb⟩
theorem liLC.ok (h : liLC w base s) : okLC w s := ⟨h.1.1, AllE.mono h.2 fun x hx => hx.1⟩
end
def okLH (w : World) (s : SV HoldR) : Prop := Sl w 1 eHr s.A s.n s.c s.xs ∧ AllE (okH w) s.xs
def liLH (w : World) (base : Nat) (s : SV HoldR) : Prop := (Sl w 1 eHr s.A s.n s.c s.xs ∧ Fr base s.A) ∧ AllE (liH w base) s.xs
section
variable {w w' : World} {base base' : Nat} {s : SV HoldR} {p : Addr} {u : Value}
theorem okLH.below (h : okLH w s) (hb : Below w.heap.size w w') : okLH w' s := ⟨h.1.below hb, AllE.mono h.2 fun x hx => okH.below hx hb⟩
theorem liLH.below (h : liLH w base s) (hb : Below w.heap.size w w') : liLH w' base s := ⟨⟨h.1.1.below hb, h.1.2⟩, AllE.mono h.2 fun x hx => liH.below hx hb⟩
theorem liLH.set (h : liLH w base s) (hp : p.block < base) : liLH (w.setCell p u) base s := ⟨⟨h.1.1.setF h.1.2 hp u, h.1.2⟩, AllE.mono h.2 fun x hx => liH.set hx hp⟩
theorem liLH.mono (h : liLH w base s) (hb : base' ≤ base) : liLH w base' s := ⟨⟨h.1.1, h.1.2.mono hb⟩, AllE.mono h.2 fun x hx => liH.mono hx hb⟩
theorem liLH.ok (h : liLH w base s) : okLH w s := ⟨h.1.1, AllE.mono h.2 fun x hx => hx.1⟩
end
abbrev SetR := SV PartV × SV ChanT × SV (Int × Int)
def setV (s : SetR) : Value := .agg #[s.1.v, s.2.1.v, s.2.2.v]
def okS (w : World) (s : SetR) : Prop := okLP w s.1 ∧ okF 4 eC w s.2.1 ∧ okF 2 eS w s.2.2
def liS (w : World) (base : Nat) (s : SetR) : Prop := liLP w base s.1 ∧ liF 4 eC w base s.2.1 ∧ liF 2 eS w base s.2.2
def cS (s : SetR) : List (List Win × Int) × List ChanT × List (Int × Int) := (s.1.xs.map cP, s.2.1.xs, s.2.2.xs)
def smS (s : SetR) : Prop := shortL s.1.n smP s.1.xs ∧ s.2.1.n ≤ 1048576 ∧ s.2.2.n ≤ 1048576
section
variable {w w' : World} {base base' : Nat} {s : SetR} {p : Addr} {u : Value}
theorem okS.below (h : okS w s) (hb : Below w.heap.size w w') : okS w' s := ⟨h.1.below hb, Sl.below h.2.1 hb, Sl.below h.2.2 hb⟩
theorem liS.below (h : liS w base s) (hb : Below w.heap.size w w') : liS w' base s := ⟨h.1.below hb, h.2.1.below hb, h.2.2.below hb⟩
theorem liS.set (h : liS w base s) (hp : p.block < base) : liS (w.setCell p u) base s := ⟨h.1.set hp, h.2.1.set hp, h.2.2.set hp⟩
theorem liS.mono (h : liS w base s) (hb : base' ≤ base) : liS w base' s := ⟨h.1.mono hb, h.2.1.mono hb, h.2.2.mono hb⟩
theorem liS.ok (h : liS w base s) : okS w s := ⟨h.1.ok, h.2.1.ok, h.2.2.ok⟩
end
theorem szPartS_L (s : SV PartV) (left : Int) (hl : 0 ≤ left ∧ left ≤ 1048576) (w : World) (h : okLP w s) :
    Calls Tryz.prog 62 #[s.v, .int .i64 left] w (Post (fun m : Int => .int .i64 m) fun m w' => (-1 ≤ m ∧ m ≤ left) ∧ (0 ≤ m → shortL s.n smP s.xs) ∧ Below w.heap.size w w') := szPartS_any s.A s.n s.c s.xs left hl w h.1 h.2
theorem toPartS_L (s : SV PartV) (hsm : shortL s.n smP s.xs) (w : World) (h : okLP w s) :
    Calls Tryz.prog 73 #[s.v] w (Post (fun s' : SV PartV => s'.v) fun s' w' => liLP w' w.heap.size s' ∧ s'.xs.map cP = s.xs.map cP ∧ Below w.heap.size w w') :=
  (toPartS_any s.A s.n s.c s.xs hsm.1 hsm.2 w h.1 h.2).mono fun e w' ⟨s', a, b, c, d, _, f⟩ => ⟨s', a, ⟨b, c⟩, d, f⟩
theorem eqPartS_L (s s' : SV PartV) (w : World) (h : okLP w s) (h' : okLP w s') (hc : s.xs.map cP = s'.xs.map cP) :
    Calls Tryz.prog 84 #[s.v, s'.v] w fun e w' => .returned (.bool true) = e ∧ Below w.heap.size w w' := by
  obtain ⟨A, n, c, xs⟩ := s
  obtain ⟨A', n', c', xs'⟩ := s'
  obtain rfl : n = n' := by
    have h1 := h.1.len; have h2 := h'.1.len; have h3 := congrArg List.length hc
    simp only [List.length_map] at h3
    simp only [] at h1 h2 h3
    omega
  exact eqPartS_any A A' n c c' xs xs' w h.1 h'.1 h.2 h'.2 hc
theorem szOrderSS_L (s : SV OrdL) (left : Int) (hl : 0 ≤ left ∧ left ≤ 1048576) (w : World) (h : okLO w s) :
    Calls Tryz.prog 26 #[s.v, .int .i64 left] w (Post (fun m : Int => .int .i64 m) fun m w' => (-1 ≤ m ∧ m ≤ left) ∧ (0 ≤ m → shortL s.n smO s.xs) ∧ Below w.heap.size w w') := szOrderSS_any s.A s.n s.c s.xs left hl w h.1 h.2
theorem toOrderSS_L (s : SV OrdL) (hsm : shortL s.n smO s.xs) (w : World) (h : okLO w s) :
    Calls Tryz.prog 36 #[s.v] w (Post (fun s' : SV OrdL => s'.v) fun s' w' => liLO w' w.heap.size s' ∧ s'.xs.map cO = s.xs.map cO ∧ Below w.heap.size w w') :=
  (toOrderSS_any s.A s.n s.c s.xs hsm.1 hsm.2 w h.1 h.2).mono fun e w' ⟨s', a, b, c, d, _, f⟩ => ⟨s', a, ⟨b, c⟩, d, f⟩
theorem eqOrderSS_L (s s' : SV OrdL) (w : World) (h : okLO w s) (h' : okLO w s') (hc : s.xs.map cO = s'.xs.map cO) :
    Calls Tryz.prog 45 #[s.v, s'.v] w fun e w' => .returned (.bool true) = e ∧ Below w.heap.size w w' := by
  obtain ⟨A, n, c, xs⟩ := s
  obtain ⟨A', n', c', xs'⟩ := s'
  obtain rfl : n = n' := by
    have h1 := h.1.len; have h2 := h'.1.len; have h3 := congrArg List.length hc
    simp only [List.length_map] at h3
    simp only [] at h1 h2 h3
    omega
  exact eqOrderSS_any A A' n c c' xs xs' w h.1 h'.1 h.2 h'.2 hc
theorem szCoreS_L (s : SV CoreT) (left : Int) (hl : 0 ≤ left ∧ left ≤ 1048576) (w : World) (h : okLC w s) :
    Calls Tryz.prog 27 #[s.v, .int .i64 left] w (Post (fun m : Int => .int .i64 m) fun m w' => (-1 ≤ m ∧ m ≤ left) ∧ (0 ≤ m → shortL s.n smC s.xs) ∧ Below w.heap.size w w') := szCoreS_any s.A s.n s.c s.xs left hl w h.1 h.2
theorem toCoreS_L (s : SV CoreT) (hsm : shortL s.n smC s.xs) (w : World) (h : okLC w s) :
    Calls Tryz.prog 37 #[s.v] w (Post (fun s' : SV CoreT => s'.v) fun s' w' => liLC w' w.heap.size s' ∧ s'.xs.map cC = s.xs.map cC ∧ Below w.heap.size w w') :=
  (toCoreS_any s.A s.n s.c s.xs hsm.1 hsm.2 w h.1 h.2).mono fun e w' ⟨s', a, b, c, d, _, f⟩ => ⟨s', a, ⟨b, c⟩, d, f⟩
theorem eqCoreS_L (s s' : SV CoreT) (w : World) (h : okLC w s) (h' : okLC w s') (hc : s.xs.map cC = s'.xs.map cC) :
    Calls Tryz.prog 46 #[s.v, s'.v] w fun e w' => .returned (.bool true) = e ∧ Below w.heap.size w w' := by
  obtain ⟨A, n, c, xs⟩ := s
  obtain ⟨A', n', c', xs'⟩ := s'
  obtain rfl : n = n' := by
    have h1 := h.1.len; have h2 := h'.1.len; have h3 := congrArg List.length hc
    simp only [List.length_map] at h3
    simp only [] at h1 h2 h3
    omega
  exact eqCoreS_any A A' n c c' xs xs' w h.1 h'.1 h.2 h'.2 hc
theorem szHoldS_L (s : SV HoldR) (left : Int) (hl : 0 ≤ left ∧ left ≤ 1048576) (w : World) (h : okLH w s) :
    Calls Tryz.prog 28 #[s.v, .int .i64 left] w (Post (fun m : Int => .int .i64 m) fun m w' => (-1 ≤ m ∧ m ≤ left) ∧ (0 ≤ m → shortL s.n smH s.xs) ∧ Below w.heap.size w w') := szHoldS_any s.A s.n s.c s.xs left hl w h.1 h.2
theorem toHoldS_L (s : SV HoldR) (hsm : shortL s.n smH s.xs) (w : World) (h : okLH w s) :
    Calls Tryz.prog 38 #[s.v] w (Post (fun s' : SV HoldR => s'.v) fun s' w' => liLH w' w.heap.size s' ∧ s'.xs.map cH = s.xs.map cH ∧ Below w.heap.size w w') :=
  (toHoldS_any s.A s.n s.c s.xs hsm.1 hsm.2 w h.1 h.2).mono fun e w' ⟨s', a, b, c, d, _, f⟩ => ⟨s', a, ⟨b, c⟩, d, f⟩
theorem eqHoldS_L (s s' : SV HoldR) (w : World) (h : okLH w s) (h' : okLH w s') (hc : s.xs.map cH = s'.xs.map cH) :
    Calls Tryz.prog 47 #[s.v, s'.v] w fun e w' => .returned (.bool true) = e ∧ Below w.heap.size w w' := by
  obtain ⟨A, n, c, xs⟩ := s
  obtain ⟨A', n', c', xs'⟩ := s'
  obtain rfl : n = n' := by
    have h1 := h.1.len; have h2 := h'.1.len; have h3 := congrArg List.length hc
    simp only [List.length_map] at h3
    simp only [] at h1 h2 h3
    omega
  exact eqHoldS_any A A' n c c' xs xs' w h.1 h'.1 h.2 h'.2 hc
theorem szChannelS_L (s : SV ChanT) (left : Int) (hl : 0 ≤ left ∧ left ≤ 1048576) (w : World) (h : okF 4 eC w s) :
    Calls Tryz.prog 63 #[s.v, .int .i64 left] w (Post (fun m : Int => .int .i64 m) fun m w' => (-1 ≤ m ∧ m ≤ left) ∧ (0 ≤ m → s.n ≤ 1048576) ∧ Below w.heap.size w w') :=
  (szChannelS_any s.A s.n s.c left hl (Nat.le_trans h.le h.max) w).mono fun e w' ⟨a, b⟩ => ⟨szOfChannel s.n left, a.symm, by unfold szOfChannel; split <;> omega, fun h => by unfold szOfChannel at h; split at h <;> omega, b ▸ Below.refl _ _⟩
theorem toChannelS_L (s : SV ChanT) (hsm : s.n ≤ 1048576) (w : World) (h : okF 4 eC w s) :
    Calls Tryz.prog 74 #[s.v] w (Post (fun s' : SV ChanT => s'.v) fun s' w' => liF 4 eC w' w.heap.size s' ∧ s'.xs = s.xs ∧ Below w.heap.size w w') :=
  (toChannelS_any s.A s.n s.c s.xs hsm w h).mono fun e w' ⟨g, a, b, c, d⟩ => ⟨⟨some ⟨g, 0, none⟩, s.n, s.n, s.xs⟩, a, ⟨fresh_sl encC b h.len hsm, Fr.some c⟩, rfl, d⟩
theorem eqChannelS_L (s s' : SV ChanT) (w : World) (h : okF 4 eC w s) (h' : okF 4 eC w s') (hc : s.xs = s'.xs) :
    Calls Tryz.prog 85 #[s.v, s'.v] w fun e w' => .returned (.bool true) = e ∧ Below w.heap.size w w' := by
  obtain ⟨A, n, c, xs⟩ := s
  obtain ⟨A', n', c', xs'⟩ := s'
  simp only [okF] at h h' hc
  subst hc
  obtain rfl : n = n' := by have h1 := h.len; have h2 := h'.len; omega
  exact eqChannelS_any A A' n c c' xs w h h'
theorem szSlotS_L (s : SV (Int × Int)) (left : Int) (hl : 0 ≤ left ∧ left ≤ 1048576) (w : World) (h : okF 2 eS w s) :
    Calls Tryz.prog 64 #[s.v, .int .i64 left] w (Post (fun m : Int => .int .i64 m) fun m w' => (-1 ≤ m ∧ m ≤ left) ∧ (0 ≤ m → s.n ≤ 1048576) ∧ Below w.heap.size w w') :=
  (szSlotS_any s.A s.n s.c left hl (Nat.le_trans h.le h.max) w).mono fun e w' ⟨a, b⟩ => ⟨szOfSlot s.n left, a.symm, by unfold szOfSlot; split <;> omega, fun h => by unfold szOfSlot at h; split at h <;> omega, b ▸ Below.refl _ _⟩
theorem toSlotS_L (s : SV (Int × Int)) (hsm : s.n ≤ 1048576) (w : World) (h : okF 2 eS w s) :
    Calls Tryz.prog 75 #[s.v] w (Post (fun s' : SV (Int × Int) => s'.v) fun s' w' => liF 2 eS w' w.heap.size s' ∧ s'.xs = s.xs ∧ Below w.heap.size w w') :=
  (toSlotS_any s.A s.n s.c s.xs hsm w h).mono fun e w' ⟨g, a, b, c, d⟩ => ⟨⟨some ⟨g, 0, none⟩, s.n, s.n, s.xs⟩, a, ⟨fresh_sl encS b h.len hsm, Fr.some c⟩, rfl, d⟩
theorem eqSlotS_L (s s' : SV (Int × Int)) (w : World) (h : okF 2 eS w s) (h' : okF 2 eS w s') (hc : s.xs = s'.xs) :
    Calls Tryz.prog 86 #[s.v, s'.v] w fun e w' => .returned (.bool true) = e ∧ Below w.heap.size w w' := by
  obtain ⟨A, n, c, xs⟩ := s
  obtain ⟨A', n', c', xs'⟩ := s'
  simp only [okF] at h h' hc
  subst hc
  obtain rfl : n = n' := by have h1 := h.len; have h2 := h'.len; omega
  exact eqSlotS_any A A' n c c' xs w h h'

end Go.Proofs.YtckgdlgdipfgmaaGreat
