/- The exact laws' own functions at elements that hold a slice. -/
import Derived.Test.YtckgdlgdipfgmaaGreatNest
import Derived.Test.YtckgdlgdipfgmaaGreatExWin
import Derived.Test.YtckgdlgdipfgmaaGreatExOrder
import Derived.Test.YtckgdlgdipfgmaaGreatExHold
namespace Go.Proofs.YtckgdlgdipfgmaaGreat
set_option linter.unusedVariables false
set_option linter.unusedSimpArgs false
open Go.RowKit

theorem szPart_any (x : PartV) (left : Int) (hl : 0 ≤ left ∧ left ≤ 1048576) (hn : x.1.n ≤ 9223372036854775807) (w : World) :
    Calls Tryz.prog 104 #[.agg (eP x).toArray, .int .i64 left] w (Post (fun m : Int => .int .i64 m) fun m w' => (-1 ≤ m ∧ m ≤ left) ∧ (0 ≤ m → smP x) ∧ Below w.heap.size w w') := by
  have hq := fun W => szWindowS_any x.1.A x.1.n x.1.c left hl hn W
  have hv : szOf x.1.n left = -1 ∨ (0 ≤ szOf x.1.n left ∧ szOf x.1.n left ≤ left ∧ x.1.n ≤ 1048576) := by unfold szOf; split <;> omega
  have hsm : x.1.n ≤ 1048576 → smP x := fun h => h
  generalize szOf x.1.n left = v at *
  obtain ⟨⟨A, n, c, xs⟩, m0⟩ := x
  simp only [eP, SV.v] at *
  rcases hv with rfl | ⟨hv, hv1, hv2⟩
  · go_enter Tryz.func104, Tryz.ntmps104
    go_wp2_with fail; refine (hq _).mono ?_; rintro e w' ⟨rfl, rfl⟩
    go_wp2
    go_ret
    exact ⟨-1, rfl, ⟨by omega, by omega⟩, (fun h => absurd h (by omega)), (by repeat (first | exact Below.refl _ _ | assumption | apply alo | (apply Below.setCell; rotate_left; (first | assumption | exact Nat.le_refl _ | (simp only []; omega))) | apply Below.drew | apply belowDrewN | (refine thn ?_ (by assumption))))⟩
  · have hr := hsm hv2
    clear hsm
    go_enter Tryz.func104, Tryz.ntmps104
    go_wp2_with fail; refine (hq _).mono ?_; rintro e w' ⟨rfl, rfl⟩
    go_wp2
    go_ret
    exact ⟨v, rfl, ⟨by omega, hv1⟩, (fun _ => hr), (by repeat (first | exact Below.refl _ _ | assumption | apply alo | (apply Below.setCell; rotate_left; (first | assumption | exact Nat.le_refl _ | (simp only []; omega))) | apply Below.drew | apply belowDrewN | (refine thn ?_ (by assumption))))⟩
theorem szCore_any (x : CoreT) (left : Int) (hl : 0 ≤ left ∧ left ≤ 1048576) (hn : x.1.n ≤ 9223372036854775807) (w : World) :
    Calls Tryz.prog 66 #[.agg (eCo x).toArray, .int .i64 left] w (Post (fun m : Int => .int .i64 m) fun m w' => (-1 ≤ m ∧ m ≤ left) ∧ (0 ≤ m → smC x) ∧ Below w.heap.size w w') := by
  have hq := fun W => szIntS_any x.1.A x.1.n x.1.c left hl hn W
  have hv : szOfInt x.1.n left = -1 ∨ (0 ≤ szOfInt x.1.n left ∧ szOfInt x.1.n left ≤ left ∧ x.1.n ≤ 1048576) := by unfold szOfInt; split <;> omega
  have hsm : x.1.n ≤ 1048576 → smC x := fun h => h
  generalize szOfInt x.1.n left = v at *
  obtain ⟨⟨A, n, c, xs⟩, m0, s0⟩ := x
  simp only [eCo, SV.v] at *
  rcases hv with rfl | ⟨hv, hv1, hv2⟩
  · go_enter Tryz.func66, Tryz.ntmps66
    go_wp2_with fail; refine (hq _).mono ?_; rintro e w' ⟨rfl, rfl⟩
    go_wp2
    go_ret
    exact ⟨-1, rfl, ⟨by omega, by omega⟩, (fun h => absurd h (by omega)), (by repeat (first | exact Below.refl _ _ | assumption | apply alo | (apply Below.setCell; rotate_left; (first | assumption | exact Nat.le_refl _ | (simp only []; omega))) | apply Below.drew | apply belowDrewN | (refine thn ?_ (by assumption))))⟩
  · have hr := hsm hv2
    clear hsm
    go_enter Tryz.func66, Tryz.ntmps66
    go_wp2_with fail; refine (hq _).mono ?_; rintro e w' ⟨rfl, rfl⟩
    go_wp2
    go_ret
    exact ⟨v, rfl, ⟨by omega, hv1⟩, (fun _ => hr), (by repeat (first | exact Below.refl _ _ | assumption | apply alo | (apply Below.setCell; rotate_left; (first | assumption | exact Nat.le_refl _ | (simp only []; omega))) | apply Below.drew | apply belowDrewN | (refine thn ?_ (by assumption))))⟩
theorem szHoldE_any (x : HoldR) (left : Int) (hl : 0 ≤ left ∧ left ≤ 1048576) (hn : x.n ≤ 9223372036854775807) (w : World) :
    Calls Tryz.prog 67 #[.agg (eHr x).toArray, .int .i64 left] w (Post (fun m : Int => .int .i64 m) fun m w' => (-1 ≤ m ∧ m ≤ left) ∧ (0 ≤ m → smH x) ∧ Below w.heap.size w w') :=
  (szHold_any x.A x.n x.c left hl hn w).mono fun e w' ⟨a, b⟩ => ⟨szOfInt x.n left, a.symm, by unfold szOfInt; split <;> omega, fun h => by unfold szOfInt at h; unfold smH; split at h <;> omega, b⟩
theorem szOrderE_any (x : OrdL) (left : Int) (hl : 0 ≤ left ∧ left ≤ 1048576) (hn : x.n ≤ 9223372036854775807) (w : World) :
    Calls Tryz.prog 65 #[x.v, .int .i64 left] w (Post (fun m : Int => .int .i64 m) fun m w' => (-1 ≤ m ∧ m ≤ left) ∧ (0 ≤ m → smO x) ∧ Below w.heap.size w w') :=
  (szOrderS_any x.A x.n x.c left hl hn w).mono fun e w' ⟨a, b⟩ => ⟨szOfOrder x.n left, a.symm, by unfold szOfOrder; split <;> omega, fun h => by unfold szOfOrder at h; unfold smO; split at h <;> omega, b ▸ Below.refl _ _⟩
theorem fresh_sl {α : Type} {w : World} {g k E n : Nat} {enc : α → List Value} {xs : List α} (hk : Enc enc k) (h : Blk w g E (xs.flatMap enc).toArray) (hn : xs.length = n) (hm : n ≤ 1048576) : Sl w k enc (some ⟨g, 0, none⟩) n n xs := by
  subst hn
  exact Sl.of_blk h hk (by omega)
set_option maxHeartbeats 1000000 in
theorem toPart_any (x : PartV) (hn : smP x) (w : World) (hs : okP w x) :
    Calls Tryz.prog 108 #[.agg (eP x).toArray] w (Post (fun x' : PartV => .agg (eP x').toArray) fun x' w' => liP w' w.heap.size x' ∧ cP x' = cP x ∧ Below w.heap.size w w') := by
  obtain ⟨⟨A, n, c, xs⟩, m⟩ := x
  simp only [eP, okP, smP, SV.v] at *
  have hq := fun W hW => toWindowS_any A n c xs hn W (hs.below hW)
  have hb0 := alo (alo (alo (Below.refl w.heap.size w) (.cells #[.slice A n c, .int .i64 m] 157)) (.cells #[.slice none 0 0, .int .i64 0] 118)) (.cells #[.slice none 0 0, .int .i64 0] 118)
  have B0 := ((Blk.new w 157 #[.slice A n c, .int .i64 m]).alloc (.cells #[.slice none 0 0, .int .i64 0] 118)).alloc (.cells #[.slice none 0 0, .int .i64 0] 118)
  have B1 := (Blk.new2 w (.cells #[.slice A n c, .int .i64 m] 157) 118 #[.slice none 0 0, .int .i64 0]).alloc (.cells #[.slice none 0 0, .int .i64 0] 118)
  have B2 := Blk.new3 w (.cells #[.slice A n c, .int .i64 m] 157) (.cells #[.slice none 0 0, .int .i64 0] 118) 118 #[.slice none 0 0, .int .i64 0]
  have hlen := hs.len
  skip
  skip
  have cB0_0 := B0.c0; have cB0_1 := B0.c1; have fB0 := B0.frozen; have cB1_0 := B1.c0; have cB1_1 := B1.c1; have fB1 := B1.frozen; have cB2_0 := B2.c0; have cB2_1 := B2.c1; have fB2 := B2.frozen
  go_enter Tryz.func108, Tryz.ntmps108
  go_wp2_with fail
  refine (hq _ hb0).mono ?_
  rintro e w1 ⟨g, rfl, Bg, lg, hbw1⟩
  have hb1 := thn hb0 hbw1
  clear cB0_0 cB0_1 fB0 cB1_0 cB1_1 fB1 cB2_0 cB2_1 fB2
  replace B0 := B0.below hbw1
  replace B1 := B1.below hbw1
  replace B2 := B2.below hbw1
  simp only [whole]
  have cB0_0 := B0.c0; have cB0_1 := B0.c1; have fB0 := B0.frozen; have cB1_0 := B1.c0; have cB1_1 := B1.c1; have fB1 := B1.frozen; have cB2_0 := B2.c0; have cB2_1 := B2.c1; have fB2 := B2.frozen
  have hlg : w.heap.size + 1 + 1 < g := by have := lg; simp at this; omega
  clear hbw1 lg hb0 hq
  go_wp2
  exact bodyPost_ret (v := .agg #[.slice (some ⟨g, 0, none⟩) n n, .int .i64 m]) (by simp [results, Tryz.results108, go_sem, cB1_0, cB1_1, cB2_0, cB2_1]) rfl ⟨(⟨⟨some ⟨g, 0, none⟩, n, n, xs⟩, m⟩ : PartV), rfl, ⟨fresh_sl encW ((((Bg.far (p := ⟨w.heap.size + 1 + 1, 0, none⟩) (by simp only []; omega) _).far (p := ⟨w.heap.size + 1 + 1, 1, none⟩) (by simp only []; omega) _).far (p := ⟨w.heap.size + 1, 0, none⟩) (by simp only []; omega) _).far (p := ⟨w.heap.size + 1, 1, none⟩) (by simp only []; omega) _) hlen (by omega), Fr.some (by omega)⟩, rfl, ((((hb1.setCell (p := ⟨w.heap.size + 1 + 1, 0, none⟩) (by simp only []; omega) _).setCell (p := ⟨w.heap.size + 1 + 1, 1, none⟩) (by simp only []; omega) _).setCell (p := ⟨w.heap.size + 1, 0, none⟩) (by simp only []; omega) _).setCell (p := ⟨w.heap.size + 1, 1, none⟩) (by simp only []; omega) _)⟩

set_option maxHeartbeats 1000000 in
theorem toCore_any (x : CoreT) (hn : smC x) (w : World) (hs : okC w x) :
    Calls Tryz.prog 77 #[.agg (eCo x).toArray] w (Post (fun x' : CoreT => .agg (eCo x').toArray) fun x' w' => liC w' w.heap.size x' ∧ cC x' = cC x ∧ Below w.heap.size w w') := by
  obtain ⟨⟨A, n, c, xs⟩, m, t⟩ := x
  simp only [eCo, okC, smC, SV.v] at *
  have hq := fun W hW => toIntS_any A n c xs hn W (hs.below hW)
  have hb0 := alo (alo (alo (Below.refl w.heap.size w) (.cells #[.slice A n c, .int .i64 m, .bool t] 111)) (.cells #[.slice none 0 0, .int .i64 0, .bool false] 74)) (.cells #[.slice none 0 0, .int .i64 0, .bool false] 74)
  have B0 := ((Blk.new w 111 #[.slice A n c, .int .i64 m, .bool t]).alloc (.cells #[.slice none 0 0, .int .i64 0, .bool false] 74)).alloc (.cells #[.slice none 0 0, .int .i64 0, .bool false] 74)
  have B1 := (Blk.new2 w (.cells #[.slice A n c, .int .i64 m, .bool t] 111) 74 #[.slice none 0 0, .int .i64 0, .bool false]).alloc (.cells #[.slice none 0 0, .int .i64 0, .bool false] 74)
  have B2 := Blk.new3 w (.cells #[.slice A n c, .int .i64 m, .bool t] 111) (.cells #[.slice none 0 0, .int .i64 0, .bool false] 74) 74 #[.slice none 0 0, .int .i64 0, .bool false]
  have hlen := hs.len
  skip
  skip
  have cB0_0 := B0.c0; have cB0_1 := B0.c1; have cB0_2 := B0.c2; have fB0 := B0.frozen; have cB1_0 := B1.c0; have cB1_1 := B1.c1; have cB1_2 := B1.c2; have fB1 := B1.frozen; have cB2_0 := B2.c0; have cB2_1 := B2.c1; have cB2_2 := B2.c2; have fB2 := B2.frozen
  go_enter Tryz.func77, Tryz.ntmps77
  go_wp2_with fail
  refine (hq _ hb0).mono ?_
  rintro e w1 ⟨g, rfl, Bg, lg, hbw1⟩
  have hb1 := thn hb0 hbw1
  clear cB0_0 cB0_1 cB0_2 fB0 cB1_0 cB1_1 cB1_2 fB1 cB2_0 cB2_1 cB2_2 fB2
  replace B0 := B0.below hbw1
  replace B1 := B1.below hbw1
  replace B2 := B2.below hbw1
  simp only [whole]
  have cB0_0 := B0.c0; have cB0_1 := B0.c1; have cB0_2 := B0.c2; have fB0 := B0.frozen; have cB1_0 := B1.c0; have cB1_1 := B1.c1; have cB1_2 := B1.c2; have fB1 := B1.frozen; have cB2_0 := B2.c0; have cB2_1 := B2.c1; have cB2_2 := B2.c2; have fB2 := B2.frozen
  have hlg : w.heap.size + 1 + 1 < g := by have := lg; simp at this; omega
  clear hbw1 lg hb0 hq
  go_wp2
  exact bodyPost_ret (v := .agg #[.slice (some ⟨g, 0, none⟩) n n, .int .i64 m, .bool t]) (by simp [results, Tryz.results77, go_sem, cB1_0, cB1_1, cB1_2, cB2_0, cB2_1, cB2_2]) rfl ⟨(⟨⟨some ⟨g, 0, none⟩, n, n, xs⟩, m, t⟩ : CoreT), rfl, ⟨fresh_sl encI ((((((Bg.far (p := ⟨w.heap.size + 1 + 1, 0, none⟩) (by simp only []; omega) _).far (p := ⟨w.heap.size + 1 + 1, 1, none⟩) (by simp only []; omega) _).far (p := ⟨w.heap.size + 1 + 1, 2, none⟩) (by simp only []; omega) _).far (p := ⟨w.heap.size + 1, 0, none⟩) (by simp only []; omega) _).far (p := ⟨w.heap.size + 1, 1, none⟩) (by simp only []; omega) _).far (p := ⟨w.heap.size + 1, 2, none⟩) (by simp only []; omega) _) hlen (by omega), Fr.some (by omega)⟩, rfl, ((((((hb1.setCell (p := ⟨w.heap.size + 1 + 1, 0, none⟩) (by simp only []; omega) _).setCell (p := ⟨w.heap.size + 1 + 1, 1, none⟩) (by simp only []; omega) _).setCell (p := ⟨w.heap.size + 1 + 1, 2, none⟩) (by simp only []; omega) _).setCell (p := ⟨w.heap.size + 1, 0, none⟩) (by simp only []; omega) _).setCell (p := ⟨w.heap.size + 1, 1, none⟩) (by simp only []; omega) _).setCell (p := ⟨w.heap.size + 1, 2, none⟩) (by simp only []; omega) _)⟩

theorem toHoldE_any (x : HoldR) (hn : smH x) (w : World) (hs : okH w x) :
    Calls Tryz.prog 78 #[.agg (eHr x).toArray] w (Post (fun x' : HoldR => .agg (eHr x').toArray) fun x' w' => liH w' w.heap.size x' ∧ cH x' = cH x ∧ Below w.heap.size w w') :=
  (toHold_any x.A x.n x.c x.xs hn w hs).mono fun e w' ⟨g, a, b, c, d⟩ => ⟨⟨some ⟨g, 0, none⟩, x.n, x.n, x.xs⟩, a, ⟨fresh_sl encI b hs.len hn, Fr.some c⟩, rfl, d⟩
theorem toOrderE_any (x : OrdL) (hn : smO x) (w : World) (hs : okO w x) :
    Calls Tryz.prog 76 #[x.v] w (Post (fun x' : OrdL => x'.v) fun x' w' => liO w' w.heap.size x' ∧ cO x' = cO x ∧ Below w.heap.size w w') :=
  (toOrderS_any x.A x.n x.c x.xs hn w hs).mono fun e w' ⟨g, a, b, c, d⟩ => ⟨⟨some ⟨g, 0, none⟩, x.n, x.n, x.xs⟩, a, ⟨fresh_sl encO b hs.len hn, Fr.some c⟩, rfl, d⟩
theorem eqPart_any (x x' : PartV) (w : World) (hs : okP w x) (hs' : okP w x') (hc : cP x = cP x') :
    Calls Tryz.prog 118 #[.agg (eP x).toArray, .agg (eP x').toArray] w fun e w' => .returned (.bool true) = e ∧ Below w.heap.size w w' := by
  obtain ⟨⟨A, n, c, xs⟩, m⟩ := x
  obtain ⟨⟨A', n', c', xs'⟩, m'⟩ := x'
  simp only [eP, okP, cP, SV.v, Prod.mk.injEq] at *
  obtain ⟨rfl, rfl⟩ := hc
  obtain rfl : n = n' := by have h1 := hs.len; have h2 := hs'.len; omega
  have hb0 := alo (alo (Below.refl w.heap.size w) (.cells #[.slice A n c, .int .i64 m] 118)) (.cells #[.slice A' n c', .int .i64 m] 118)
  have B1 := (Blk.new w 118 #[.slice A n c, .int .i64 m]).alloc (.cells #[.slice A' n c', .int .i64 m] 118)
  have B2 := Blk.new2 w (.cells #[.slice A n c, .int .i64 m] 118) 118 #[.slice A' n c', .int .i64 m]
  have hq := eqWindowS_any A A' n c c' xs _ (hs.below hb0) (hs'.below hb0)
  clear hs hs'
  skip
  skip
  have cB1_0 := B1.c0; have cB1_1 := B1.c1; have fB1 := B1.frozen; have cB2_0 := B2.c0; have cB2_1 := B2.c1; have fB2 := B2.frozen
  go_enter Tryz.func118, Tryz.ntmps118
  go_wp2_with fail
  refine hq.mono ?_
  rintro e w1 ⟨rfl, hb1⟩
  clear cB1_0 cB1_1 fB1 cB2_0 cB2_1 fB2
  replace B1 := B1.below hb1
  replace B2 := B2.below hb1
  have cB1_0 := B1.c0; have cB1_1 := B1.c1; have fB1 := B1.frozen; have cB2_0 := B2.c0; have cB2_1 := B2.c1; have fB2 := B2.frozen
  go_wp2
  go_ret
  exact ⟨rfl, thn hb0 hb1⟩
theorem eqCore_any (x x' : CoreT) (w : World) (hs : okC w x) (hs' : okC w x') (hc : cC x = cC x') :
    Calls Tryz.prog 88 #[.agg (eCo x).toArray, .agg (eCo x').toArray] w fun e w' => .returned (.bool true) = e ∧ Below w.heap.size w w' := by
  obtain ⟨⟨A, n, c, xs⟩, m, t⟩ := x
  obtain ⟨⟨A', n', c', xs'⟩, m', t'⟩ := x'
  simp only [eCo, okC, cC, SV.v, Prod.mk.injEq] at *
  obtain ⟨rfl, rfl, rfl⟩ := hc
  obtain rfl : n = n' := by have h1 := hs.len; have h2 := hs'.len; omega
  have hb0 := alo (alo (Below.refl w.heap.size w) (.cells #[.slice A n c, .int .i64 m, .bool t] 74)) (.cells #[.slice A' n c', .int .i64 m, .bool t] 74)
  have B1 := (Blk.new w 74 #[.slice A n c, .int .i64 m, .bool t]).alloc (.cells #[.slice A' n c', .int .i64 m, .bool t] 74)
  have B2 := Blk.new2 w (.cells #[.slice A n c, .int .i64 m, .bool t] 74) 74 #[.slice A' n c', .int .i64 m, .bool t]
  have hq := eqIntS_any A A' n c c' xs _ (hs.below hb0) (hs'.below hb0)
  clear hs hs'
  skip
  skip
  have cB1_0 := B1.c0; have cB1_1 := B1.c1; have cB1_2 := B1.c2; have fB1 := B1.frozen; have cB2_0 := B2.c0; have cB2_1 := B2.c1; have cB2_2 := B2.c2; have fB2 := B2.frozen
  go_enter Tryz.func88, Tryz.ntmps88
  go_wp2_with fail
  refine hq.mono ?_
  rintro e w1 ⟨rfl, hb1⟩
  clear cB1_0 cB1_1 cB1_2 fB1 cB2_0 cB2_1 cB2_2 fB2
  replace B1 := B1.below hb1
  replace B2 := B2.below hb1
  have cB1_0 := B1.c0; have cB1_1 := B1.c1; have cB1_2 := B1.c2; have fB1 := B1.frozen; have cB2_0 := B2.c0; have cB2_1 := B2.c1; have cB2_2 := B2.c2; have fB2 := B2.frozen
  go_wp2
  go_ret
  exact ⟨rfl, thn hb0 hb1⟩
theorem eqHoldE_any (x x' : HoldR) (w : World) (hs : okH w x) (hs' : okH w x') (hc : cH x = cH x') :
    Calls Tryz.prog 89 #[.agg (eHr x).toArray, .agg (eHr x').toArray] w fun e w' => .returned (.bool true) = e ∧ Below w.heap.size w w' := by
  obtain ⟨A, n, c, xs⟩ := x
  obtain ⟨A', n', c', xs'⟩ := x'
  simp only [okH, cH] at hs hs' hc
  subst hc
  obtain rfl : n = n' := by have h1 := hs.len; have h2 := hs'.len; omega
  exact eqHold_any A A' n c c' xs w hs hs'
theorem eqOrderE_any (x x' : OrdL) (w : World) (hs : okO w x) (hs' : okO w x') (hc : cO x = cO x') :
    Calls Tryz.prog 87 #[x.v, x'.v] w fun e w' => .returned (.bool true) = e ∧ Below w.heap.size w w' := by
  obtain ⟨A, n, c, xs⟩ := x
  obtain ⟨A', n', c', xs'⟩ := x'
  simp only [okO, cO] at hs hs' hc
  subst hc
  obtain rfl : n = n' := by have h1 := hs.len; have h2 := hs'.len; omega
  exact eqOrderS_any A A' n c c' xs w hs hs'
end Go.Proofs.YtckgdlgdipfgmaaGreat
