/- The exact laws' own functions at Watch: sz, to, eq. -/
import Derived.Test.YtckgdlgdipfgmaaGreatExMach
import Derived.Test.YtckgdlgdipfgmaaGreatExHealth
namespace Go.Proofs.YtckgdlgdipfgmaaGreat
set_option linter.unusedVariables false
set_option linter.unusedSimpArgs false
open Go.RowKit

theorem szHealthS_L (s : SV (Bool × Int)) (left : Int) (hl : 0 ≤ left ∧ left ≤ 1048576) (w : World) (h : okF 2 eH w s) :
    Calls Tryz.prog 54 #[s.v, .int .i64 left] w (Post (fun m : Int => .int .i64 m) fun m w' => (-1 ≤ m ∧ m ≤ left) ∧ (0 ≤ m → s.n ≤ 1048576) ∧ Below w.heap.size w w') :=
  (szHealthS_any s.A s.n s.c left hl (Nat.le_trans (Sl.le h) (Sl.max h)) w).mono fun e w' ⟨a, b⟩ => ⟨szOfHealth s.n left, a.symm, by unfold szOfHealth; split <;> omega, fun h => by unfold szOfHealth at h; split at h <;> omega, b ▸ Below.refl _ _⟩
theorem toHealthS_L (s : SV (Bool × Int)) (hsm : s.n ≤ 1048576) (w : World) (h : okF 2 eH w s) :
    Calls Tryz.prog 56 #[s.v] w (Post (fun s' : SV (Bool × Int) => s'.v) fun s' w' => liF 2 eH w' w.heap.size s' ∧ s'.xs = s.xs ∧ Below w.heap.size w w') :=
  (toHealthS_any s.A s.n s.c s.xs hsm w h).mono fun e w' ⟨g, a, b, c, d⟩ => ⟨⟨some ⟨g, 0, none⟩, s.n, s.n, s.xs⟩, a, ⟨fresh_sl encH b (Sl.len h) hsm, Fr.some c⟩, rfl, d⟩
theorem eqHealthS_L (s s' : SV (Bool × Int)) (w : World) (h : okF 2 eH w s) (h' : okF 2 eH w s') (hc : s.xs = s'.xs) :
    Calls Tryz.prog 61 #[s.v, s'.v] w fun e w' => .returned (.bool true) = e ∧ Below w.heap.size w w' := by
  obtain ⟨A, n, c, xs⟩ := s
  obtain ⟨A', n', c', xs'⟩ := s'
  simp only [okF] at h h' hc
  subst hc
  obtain rfl : n = n' := by have h1 := Sl.len h; have h2 := Sl.len h'; omega
  exact eqHealthS_any A A' n c c' xs w h h'
abbrev WatR := MacR × SV (Bool × Int)
def watV (x : WatR) : Value := .agg #[x.1.1.1.v, x.1.1.2.1.v, x.1.1.2.2.v, x.1.2.1.v, x.1.2.2.1.v, x.1.2.2.2.1.v, .int .i64 x.1.2.2.2.2, x.2.v]
def okW (w : World) (x : WatR) : Prop := okM w x.1 ∧ okF 2 eH w x.2
def liW (w : World) (base : Nat) (x : WatR) : Prop := liM w base x.1 ∧ liF 2 eH w base x.2
def cW (x : WatR) := (cM x.1, x.2.xs)
def smW (x : WatR) : Prop := smM x.1 ∧ x.2.n ≤ 1048576
theorem okW.below {w w' : World} {s : WatR} (h : okW w s) (hb : Below w.heap.size w w') : okW w' s := ⟨h.1.below hb, Sl.below h.2 hb⟩
theorem liW.ok {w : World} {base : Nat} {s : WatR} (h : liW w base s) : okW w s := ⟨h.1.ok, h.2.ok⟩
set_option maxHeartbeats 1000000 in
theorem szWatch_any (s : WatR) (left : Int) (hl : 0 ≤ left ∧ left ≤ 1048576) (w : World) (h : okW w s) :
    Calls Tryz.prog 20 #[watV s, .int .i64 left] w (Post (fun m : Int => .int .i64 m) fun m w' => (-1 ≤ m ∧ m ≤ left) ∧ (0 ≤ m → smW s) ∧ Below w.heap.size w w') := by
  obtain ⟨⟨⟨p, c, t⟩, o, k, d, tick⟩, g⟩ := s
  obtain ⟨hm, hg⟩ := h
  obtain ⟨hl0, hl1⟩ := hl
  have hb0 := alo (Below.refl w.heap.size w) (.cells #[p.v, c.v, t.v, o.v, k.v, d.v, .int .i64 tick, g.v] 55)
  have B0 := Blk.new w 55 #[p.v, c.v, t.v, o.v, k.v, d.v, .int .i64 tick, g.v]
  simp only [watV, macV, setV]
  have x0 := blk_cells B0 0 _ rfl
  have x1 := blk_cells B0 1 _ rfl
  have x2 := blk_cells B0 2 _ rfl
  have x3 := blk_cells B0 3 _ rfl
  have x4 := blk_cells B0 4 _ rfl
  have x5 := blk_cells B0 5 _ rfl
  have x6 := blk_cells B0 6 _ rfl
  have x7 := blk_cells B0 7 _ rfl
  clear B0
  have B0 := Blk.new w 55 #[p.v, c.v, t.v, o.v, k.v, d.v, .int .i64 tick, g.v]
  go_enter Tryz.func20, Tryz.ntmps20
  go_wp2_with fail
  refine (szMachine_any ((p, c, t), o, k, d, tick) left ⟨by omega, by omega⟩ _ (hm.below hb0)).mono ?_
  rintro e w1 ⟨m1, rfl, hm1, hsm1, hbm1⟩
  have hBm1 := thn hb0 hbm1
  replace B0 := B0.below hbm1
  clear x0 x1 x2 x3 x4 x5 x6 x7
  have x0 := blk_cells B0 0 _ rfl
  have x1 := blk_cells B0 1 _ rfl
  have x2 := blk_cells B0 2 _ rfl
  have x3 := blk_cells B0 3 _ rfl
  have x4 := blk_cells B0 4 _ rfl
  have x5 := blk_cells B0 5 _ rfl
  have x6 := blk_cells B0 6 _ rfl
  have x7 := blk_cells B0 7 _ rfl
  by_cases hnm1 : m1 < 0
  · go_wp2
    go_ret
    exact ⟨-1, rfl, ⟨by omega, by omega⟩, (fun h => absurd h (by omega)), hBm1⟩
  · have hpm1 : 0 ≤ m1 := by omega
    have hrm1 := Lib.hid (hsm1 hpm1)
    clear hsm1
    go_wp2_with fail
    refine (szHealthS_L g m1 ⟨by omega, by omega⟩ _ (hg.below hBm1)).mono ?_
    rintro e w2 ⟨m2, rfl, hm2, hsm2, hbm2⟩
    have hBm2 := thn hBm1 hbm2
    replace B0 := B0.below hbm2
    clear x0 x1 x2 x3 x4 x5 x6 x7
    have x0 := blk_cells B0 0 _ rfl
    have x1 := blk_cells B0 1 _ rfl
    have x2 := blk_cells B0 2 _ rfl
    have x3 := blk_cells B0 3 _ rfl
    have x4 := blk_cells B0 4 _ rfl
    have x5 := blk_cells B0 5 _ rfl
    have x6 := blk_cells B0 6 _ rfl
    have x7 := blk_cells B0 7 _ rfl
    by_cases hnm2 : m2 < 0
    · go_wp2
      go_ret
      exact ⟨-1, rfl, ⟨by omega, by omega⟩, (fun h => absurd h (by omega)), hBm2⟩
    · have hpm2 : 0 ≤ m2 := by omega
      have hrm2 := Lib.hid (hsm2 hpm2)
      clear hsm2
      have HR := Lib.hid (⟨hrm1.out, hrm2.out⟩ : smW ⟨⟨⟨p, c, t⟩, o, k, d, tick⟩, g⟩)
      go_wp2
      go_ret
      exact ⟨m2, rfl, ⟨by omega, by omega⟩, (fun _ => HR.out), hBm2⟩
set_option maxHeartbeats 2000000 in
theorem toWatch_any (s : WatR) (hsm : smW s) (w : World) (h : okW w s) :
    Calls Tryz.prog 22 #[watV s] w (Post watV fun s' w' => liW w' w.heap.size s' ∧ cW s' = cW s ∧ Below w.heap.size w w') := by
  obtain ⟨⟨⟨p, c, t⟩, o, k, d, tick⟩, g⟩ := s
  obtain ⟨hm, hg⟩ := h
  obtain ⟨nhm, nhg⟩ := hsm
  have hb0 := alo (alo (alo (Below.refl w.heap.size w) (.cells #[p.v, c.v, t.v, o.v, k.v, d.v, .int .i64 tick, g.v] 55)) (.cells #[.slice none 0 0, .slice none 0 0, .slice none 0 0, .slice none 0 0, .slice none 0 0, .slice none 0 0, .int .i64 0, .slice none 0 0] 60)) (.cells #[.slice none 0 0, .slice none 0 0, .slice none 0 0, .slice none 0 0, .slice none 0 0, .slice none 0 0, .int .i64 0, .slice none 0 0] 60)
  have B0 := ((Blk.new w 55 #[p.v, c.v, t.v, o.v, k.v, d.v, .int .i64 tick, g.v]).alloc (.cells #[.slice none 0 0, .slice none 0 0, .slice none 0 0, .slice none 0 0, .slice none 0 0, .slice none 0 0, .int .i64 0, .slice none 0 0] 60)).alloc (.cells #[.slice none 0 0, .slice none 0 0, .slice none 0 0, .slice none 0 0, .slice none 0 0, .slice none 0 0, .int .i64 0, .slice none 0 0] 60)
  have B1 := (Blk.new2 w (.cells #[p.v, c.v, t.v, o.v, k.v, d.v, .int .i64 tick, g.v] 55) 60 #[.slice none 0 0, .slice none 0 0, .slice none 0 0, .slice none 0 0, .slice none 0 0, .slice none 0 0, .int .i64 0, .slice none 0 0]).alloc (.cells #[.slice none 0 0, .slice none 0 0, .slice none 0 0, .slice none 0 0, .slice none 0 0, .slice none 0 0, .int .i64 0, .slice none 0 0] 60)
  have B2 := Blk.new3 w (.cells #[p.v, c.v, t.v, o.v, k.v, d.v, .int .i64 tick, g.v] 55) (.cells #[.slice none 0 0, .slice none 0 0, .slice none 0 0, .slice none 0 0, .slice none 0 0, .slice none 0 0, .int .i64 0, .slice none 0 0] 60) 60 #[.slice none 0 0, .slice none 0 0, .slice none 0 0, .slice none 0 0, .slice none 0 0, .slice none 0 0, .int .i64 0, .slice none 0 0]
  simp only [watV, macV, setV]
  have x0 := blk_cells B0 0 _ rfl
  have x1 := blk_cells B0 1 _ rfl
  have x2 := blk_cells B0 2 _ rfl
  have x3 := blk_cells B0 3 _ rfl
  have x4 := blk_cells B0 4 _ rfl
  have x5 := blk_cells B0 5 _ rfl
  have x6 := blk_cells B0 6 _ rfl
  have x7 := blk_cells B0 7 _ rfl
  have f2 := B2.frozen
  have y0 := blk_cells B2 0 _ rfl
  have y1 := blk_cells B2 1 _ rfl
  have y2 := blk_cells B2 2 _ rfl
  have y3 := blk_cells B2 3 _ rfl
  have y4 := blk_cells B2 4 _ rfl
  have y5 := blk_cells B2 5 _ rfl
  have y6 := blk_cells B2 6 _ rfl
  have y7 := blk_cells B2 7 _ rfl
  go_enter Tryz.func22, Tryz.ntmps22
  go_wp2_with fail
  refine (toMachine_any ((p, c, t), o, k, d, tick) nhm _ (hm.below hb0)).mono ?_
  rintro e w1 ⟨s8, rfl, l0, hc0, hbw1⟩
  have hBw1 := thn hb0 hbw1
  have hzw1 := B2.lt
  replace B0 := B0.below hbw1
  replace B1 := B1.below hbw1
  replace B2 := B2.below hbw1
  replace l0 := liM.mono (base' := w.heap.size + 3) l0 (by omega)
  obtain ⟨⟨⟨A1, n1, c1, a1⟩, ⟨A2, n2, c2, a2⟩, ⟨A3, n3, c3, a3⟩⟩, ⟨A4, n4, c4, a4⟩, ⟨A5, n5, c5, a5⟩, ⟨A6, n6, c6, a6⟩, tk⟩ := s8
  simp only [macV, setV, SV.v_mk]
  clear x0 x1 x2 x3 x4 x5 x6 x7 y0 y1 y2 y3 y4 y5 y6 y7 f2
  have f2 := B2.frozen
  have y0 := blk_cells B2 0 _ rfl
  have y1 := blk_cells B2 1 _ rfl
  have y2 := blk_cells B2 2 _ rfl
  have y3 := blk_cells B2 3 _ rfl
  have y4 := blk_cells B2 4 _ rfl
  have y5 := blk_cells B2 5 _ rfl
  have y6 := blk_cells B2 6 _ rfl
  have y7 := blk_cells B2 7 _ rfl
  have hBw1_0 := Below.setCell hBw1 (p := ⟨w.heap.size + 1 + 1, 0, none⟩) (by simp only []; omega) (.slice A1 n1 c1)
  replace B0 := B0.far (p := ⟨w.heap.size + 1 + 1, 0, none⟩) (by simp only []; omega) (.slice A1 n1 c1)
  replace B1 := B1.far (p := ⟨w.heap.size + 1 + 1, 0, none⟩) (by simp only []; omega) (.slice A1 n1 c1)
  replace B2 : Blk _ _ _ #[.slice A1 n1 c1, .slice none 0 0, .slice none 0 0, .slice none 0 0, .slice none 0 0, .slice none 0 0, .int .i64 0, .slice none 0 0] := B2.set_ 0 (.slice A1 n1 c1)
  replace l0 := liM.set l0 (p := ⟨w.heap.size + 1 + 1, 0, none⟩) (u := .slice A1 n1 c1) (by simp only []; omega)
  have hBw1_1 := Below.setCell hBw1_0 (p := ⟨w.heap.size + 1 + 1, 1, none⟩) (by simp only []; omega) (.slice A2 n2 c2)
  replace B0 := B0.far (p := ⟨w.heap.size + 1 + 1, 1, none⟩) (by simp only []; omega) (.slice A2 n2 c2)
  replace B1 := B1.far (p := ⟨w.heap.size + 1 + 1, 1, none⟩) (by simp only []; omega) (.slice A2 n2 c2)
  replace B2 : Blk _ _ _ #[.slice A1 n1 c1, .slice A2 n2 c2, .slice none 0 0, .slice none 0 0, .slice none 0 0, .slice none 0 0, .int .i64 0, .slice none 0 0] := B2.set_ 1 (.slice A2 n2 c2)
  replace l0 := liM.set l0 (p := ⟨w.heap.size + 1 + 1, 1, none⟩) (u := .slice A2 n2 c2) (by simp only []; omega)
  have hBw1_2 := Below.setCell hBw1_1 (p := ⟨w.heap.size + 1 + 1, 2, none⟩) (by simp only []; omega) (.slice A3 n3 c3)
  replace B0 := B0.far (p := ⟨w.heap.size + 1 + 1, 2, none⟩) (by simp only []; omega) (.slice A3 n3 c3)
  replace B1 := B1.far (p := ⟨w.heap.size + 1 + 1, 2, none⟩) (by simp only []; omega) (.slice A3 n3 c3)
  replace B2 : Blk _ _ _ #[.slice A1 n1 c1, .slice A2 n2 c2, .slice A3 n3 c3, .slice none 0 0, .slice none 0 0, .slice none 0 0, .int .i64 0, .slice none 0 0] := B2.set_ 2 (.slice A3 n3 c3)
  replace l0 := liM.set l0 (p := ⟨w.heap.size + 1 + 1, 2, none⟩) (u := .slice A3 n3 c3) (by simp only []; omega)
  have hBw1_3 := Below.setCell hBw1_2 (p := ⟨w.heap.size + 1 + 1, 3, none⟩) (by simp only []; omega) (.slice A4 n4 c4)
  replace B0 := B0.far (p := ⟨w.heap.size + 1 + 1, 3, none⟩) (by simp only []; omega) (.slice A4 n4 c4)
  replace B1 := B1.far (p := ⟨w.heap.size + 1 + 1, 3, none⟩) (by simp only []; omega) (.slice A4 n4 c4)
  replace B2 : Blk _ _ _ #[.slice A1 n1 c1, .slice A2 n2 c2, .slice A3 n3 c3, .slice A4 n4 c4, .slice none 0 0, .slice none 0 0, .int .i64 0, .slice none 0 0] := B2.set_ 3 (.slice A4 n4 c4)
  replace l0 := liM.set l0 (p := ⟨w.heap.size + 1 + 1, 3, none⟩) (u := .slice A4 n4 c4) (by simp only []; omega)
  have hBw1_4 := Below.setCell hBw1_3 (p := ⟨w.heap.size + 1 + 1, 4, none⟩) (by simp only []; omega) (.slice A5 n5 c5)
  replace B0 := B0.far (p := ⟨w.heap.size + 1 + 1, 4, none⟩) (by simp only []; omega) (.slice A5 n5 c5)
  replace B1 := B1.far (p := ⟨w.heap.size + 1 + 1, 4, none⟩) (by simp only []; omega) (.slice A5 n5 c5)
  replace B2 : Blk _ _ _ #[.slice A1 n1 c1, .slice A2 n2 c2, .slice A3 n3 c3, .slice A4 n4 c4, .slice A5 n5 c5, .slice none 0 0, .int .i64 0, .slice none 0 0] := B2.set_ 4 (.slice A5 n5 c5)
  replace l0 := liM.set l0 (p := ⟨w.heap.size + 1 + 1, 4, none⟩) (u := .slice A5 n5 c5) (by simp only []; omega)
  have hBw1_5 := Below.setCell hBw1_4 (p := ⟨w.heap.size + 1 + 1, 5, none⟩) (by simp only []; omega) (.slice A6 n6 c6)
  replace B0 := B0.far (p := ⟨w.heap.size + 1 + 1, 5, none⟩) (by simp only []; omega) (.slice A6 n6 c6)
  replace B1 := B1.far (p := ⟨w.heap.size + 1 + 1, 5, none⟩) (by simp only []; omega) (.slice A6 n6 c6)
  replace B2 : Blk _ _ _ #[.slice A1 n1 c1, .slice A2 n2 c2, .slice A3 n3 c3, .slice A4 n4 c4, .slice A5 n5 c5, .slice A6 n6 c6, .int .i64 0, .slice none 0 0] := B2.set_ 5 (.slice A6 n6 c6)
  replace l0 := liM.set l0 (p := ⟨w.heap.size + 1 + 1, 5, none⟩) (u := .slice A6 n6 c6) (by simp only []; omega)
  have hBw1_6 := Below.setCell hBw1_5 (p := ⟨w.heap.size + 1 + 1, 6, none⟩) (by simp only []; omega) (.int .i64 tk)
  replace B0 := B0.far (p := ⟨w.heap.size + 1 + 1, 6, none⟩) (by simp only []; omega) (.int .i64 tk)
  replace B1 := B1.far (p := ⟨w.heap.size + 1 + 1, 6, none⟩) (by simp only []; omega) (.int .i64 tk)
  replace B2 : Blk _ _ _ #[.slice A1 n1 c1, .slice A2 n2 c2, .slice A3 n3 c3, .slice A4 n4 c4, .slice A5 n5 c5, .slice A6 n6 c6, .int .i64 tk, .slice none 0 0] := B2.set_ 6 (.int .i64 tk)
  replace l0 := liM.set l0 (p := ⟨w.heap.size + 1 + 1, 6, none⟩) (u := .int .i64 tk) (by simp only []; omega)
  have x0 := blk_cells B0 0 _ rfl
  have x1 := blk_cells B0 1 _ rfl
  have x2 := blk_cells B0 2 _ rfl
  have x3 := blk_cells B0 3 _ rfl
  have x4 := blk_cells B0 4 _ rfl
  have x5 := blk_cells B0 5 _ rfl
  have x6 := blk_cells B0 6 _ rfl
  have x7 := blk_cells B0 7 _ rfl
  go_wp2_with fail
  refine (toHealthS_L g nhg _ (hg.below hBw1_6)).mono ?_
  rintro e w2 ⟨g', rfl, l1, hc1, hbw2⟩
  have hBw2 := thn hBw1_6 hbw2
  have hzw2 := B2.lt
  replace B0 := B0.below hbw2
  replace B1 := B1.below hbw2
  replace B2 := B2.below hbw2
  replace l1 := liF.mono (base' := w.heap.size + 3) l1 (by omega)
  replace l0 := liM.below l0 hbw2
  obtain ⟨A7, n7, c7, a7⟩ := g'
  simp only [SV.v_mk]
  clear x0 x1 x2 x3 x4 x5 x6 x7 y0 y1 y2 y3 y4 y5 y6 y7 f2
  have f2 := B2.frozen
  have y0 := blk_cells B2 0 _ rfl
  have y1 := blk_cells B2 1 _ rfl
  have y2 := blk_cells B2 2 _ rfl
  have y3 := blk_cells B2 3 _ rfl
  have y4 := blk_cells B2 4 _ rfl
  have y5 := blk_cells B2 5 _ rfl
  have y6 := blk_cells B2 6 _ rfl
  have y7 := blk_cells B2 7 _ rfl
  have hBw2_0 := Below.setCell hBw2 (p := ⟨w.heap.size + 1 + 1, 7, none⟩) (by simp only []; omega) (.slice A7 n7 c7)
  replace B0 := B0.far (p := ⟨w.heap.size + 1 + 1, 7, none⟩) (by simp only []; omega) (.slice A7 n7 c7)
  replace B1 := B1.far (p := ⟨w.heap.size + 1 + 1, 7, none⟩) (by simp only []; omega) (.slice A7 n7 c7)
  replace B2 : Blk _ _ _ #[.slice A1 n1 c1, .slice A2 n2 c2, .slice A3 n3 c3, .slice A4 n4 c4, .slice A5 n5 c5, .slice A6 n6 c6, .int .i64 tk, .slice A7 n7 c7] := B2.set_ 7 (.slice A7 n7 c7)
  replace l0 := liM.set l0 (p := ⟨w.heap.size + 1 + 1, 7, none⟩) (u := .slice A7 n7 c7) (by simp only []; omega)
  replace l1 := liF.set l1 (p := ⟨w.heap.size + 1 + 1, 7, none⟩) (u := .slice A7 n7 c7) (by simp only []; omega)
  have x0 := blk_cells B0 0 _ rfl
  have x1 := blk_cells B0 1 _ rfl
  have x2 := blk_cells B0 2 _ rfl
  have x3 := blk_cells B0 3 _ rfl
  have x4 := blk_cells B0 4 _ rfl
  have x5 := blk_cells B0 5 _ rfl
  have x6 := blk_cells B0 6 _ rfl
  have x7 := blk_cells B0 7 _ rfl
  have u0 := blk_cells B2 0 _ rfl
  have u1 := blk_cells B2 1 _ rfl
  have u2 := blk_cells B2 2 _ rfl
  have u3 := blk_cells B2 3 _ rfl
  have u4 := blk_cells B2 4 _ rfl
  have u5 := blk_cells B2 5 _ rfl
  have u6 := blk_cells B2 6 _ rfl
  have u7 := blk_cells B2 7 _ rfl
  have f1 := B1.frozen
  have z0 := blk_cells B1 0 _ rfl
  have z1 := blk_cells B1 1 _ rfl
  have z2 := blk_cells B1 2 _ rfl
  have z3 := blk_cells B1 3 _ rfl
  have z4 := blk_cells B1 4 _ rfl
  have z5 := blk_cells B1 5 _ rfl
  have z6 := blk_cells B1 6 _ rfl
  have z7 := blk_cells B1 7 _ rfl
  have B1e := B1
  replace B1e : Blk _ _ _ #[.slice A1 n1 c1, .slice none 0 0, .slice none 0 0, .slice none 0 0, .slice none 0 0, .slice none 0 0, .int .i64 0, .slice none 0 0] := B1e.set_ 0 (.slice A1 n1 c1)
  replace hBw2_0 := Below.setCell hBw2_0 (p := ⟨w.heap.size + 1, 0, none⟩) (by simp only []; omega) (.slice A1 n1 c1)
  replace l0 := liM.set l0 (p := ⟨w.heap.size + 1, 0, none⟩) (u := .slice A1 n1 c1) (by simp only []; omega)
  replace l1 := liF.set l1 (p := ⟨w.heap.size + 1, 0, none⟩) (u := .slice A1 n1 c1) (by simp only []; omega)
  replace B1e : Blk _ _ _ #[.slice A1 n1 c1, .slice A2 n2 c2, .slice none 0 0, .slice none 0 0, .slice none 0 0, .slice none 0 0, .int .i64 0, .slice none 0 0] := B1e.set_ 1 (.slice A2 n2 c2)
  replace hBw2_0 := Below.setCell hBw2_0 (p := ⟨w.heap.size + 1, 1, none⟩) (by simp only []; omega) (.slice A2 n2 c2)
  replace l0 := liM.set l0 (p := ⟨w.heap.size + 1, 1, none⟩) (u := .slice A2 n2 c2) (by simp only []; omega)
  replace l1 := liF.set l1 (p := ⟨w.heap.size + 1, 1, none⟩) (u := .slice A2 n2 c2) (by simp only []; omega)
  replace B1e : Blk _ _ _ #[.slice A1 n1 c1, .slice A2 n2 c2, .slice A3 n3 c3, .slice none 0 0, .slice none 0 0, .slice none 0 0, .int .i64 0, .slice none 0 0] := B1e.set_ 2 (.slice A3 n3 c3)
  replace hBw2_0 := Below.setCell hBw2_0 (p := ⟨w.heap.size + 1, 2, none⟩) (by simp only []; omega) (.slice A3 n3 c3)
  replace l0 := liM.set l0 (p := ⟨w.heap.size + 1, 2, none⟩) (u := .slice A3 n3 c3) (by simp only []; omega)
  replace l1 := liF.set l1 (p := ⟨w.heap.size + 1, 2, none⟩) (u := .slice A3 n3 c3) (by simp only []; omega)
  replace B1e : Blk _ _ _ #[.slice A1 n1 c1, .slice A2 n2 c2, .slice A3 n3 c3, .slice A4 n4 c4, .slice none 0 0, .slice none 0 0, .int .i64 0, .slice none 0 0] := B1e.set_ 3 (.slice A4 n4 c4)
  replace hBw2_0 := Below.setCell hBw2_0 (p := ⟨w.heap.size + 1, 3, none⟩) (by simp only []; omega) (.slice A4 n4 c4)
  replace l0 := liM.set l0 (p := ⟨w.heap.size + 1, 3, none⟩) (u := .slice A4 n4 c4) (by simp only []; omega)
  replace l1 := liF.set l1 (p := ⟨w.heap.size + 1, 3, none⟩) (u := .slice A4 n4 c4) (by simp only []; omega)
  replace B1e : Blk _ _ _ #[.slice A1 n1 c1, .slice A2 n2 c2, .slice A3 n3 c3, .slice A4 n4 c4, .slice A5 n5 c5, .slice none 0 0, .int .i64 0, .slice none 0 0] := B1e.set_ 4 (.slice A5 n5 c5)
  replace hBw2_0 := Below.setCell hBw2_0 (p := ⟨w.heap.size + 1, 4, none⟩) (by simp only []; omega) (.slice A5 n5 c5)
  replace l0 := liM.set l0 (p := ⟨w.heap.size + 1, 4, none⟩) (u := .slice A5 n5 c5) (by simp only []; omega)
  replace l1 := liF.set l1 (p := ⟨w.heap.size + 1, 4, none⟩) (u := .slice A5 n5 c5) (by simp only []; omega)
  replace B1e : Blk _ _ _ #[.slice A1 n1 c1, .slice A2 n2 c2, .slice A3 n3 c3, .slice A4 n4 c4, .slice A5 n5 c5, .slice A6 n6 c6, .int .i64 0, .slice none 0 0] := B1e.set_ 5 (.slice A6 n6 c6)
  replace hBw2_0 := Below.setCell hBw2_0 (p := ⟨w.heap.size + 1, 5, none⟩) (by simp only []; omega) (.slice A6 n6 c6)
  replace l0 := liM.set l0 (p := ⟨w.heap.size + 1, 5, none⟩) (u := .slice A6 n6 c6) (by simp only []; omega)
  replace l1 := liF.set l1 (p := ⟨w.heap.size + 1, 5, none⟩) (u := .slice A6 n6 c6) (by simp only []; omega)
  replace B1e : Blk _ _ _ #[.slice A1 n1 c1, .slice A2 n2 c2, .slice A3 n3 c3, .slice A4 n4 c4, .slice A5 n5 c5, .slice A6 n6 c6, .int .i64 tk, .slice none 0 0] := B1e.set_ 6 (.int .i64 tk)
  replace hBw2_0 := Below.setCell hBw2_0 (p := ⟨w.heap.size + 1, 6, none⟩) (by simp only []; omega) (.int .i64 tk)
  replace l0 := liM.set l0 (p := ⟨w.heap.size + 1, 6, none⟩) (u := .int .i64 tk) (by simp only []; omega)
  replace l1 := liF.set l1 (p := ⟨w.heap.size + 1, 6, none⟩) (u := .int .i64 tk) (by simp only []; omega)
  replace B1e : Blk _ _ _ #[.slice A1 n1 c1, .slice A2 n2 c2, .slice A3 n3 c3, .slice A4 n4 c4, .slice A5 n5 c5, .slice A6 n6 c6, .int .i64 tk, .slice A7 n7 c7] := B1e.set_ 7 (.slice A7 n7 c7)
  replace hBw2_0 := Below.setCell hBw2_0 (p := ⟨w.heap.size + 1, 7, none⟩) (by simp only []; omega) (.slice A7 n7 c7)
  replace l0 := liM.set l0 (p := ⟨w.heap.size + 1, 7, none⟩) (u := .slice A7 n7 c7) (by simp only []; omega)
  replace l1 := liF.set l1 (p := ⟨w.heap.size + 1, 7, none⟩) (u := .slice A7 n7 c7) (by simp only []; omega)
  have r0 := blk_cells B1e 0 _ rfl
  have r1 := blk_cells B1e 1 _ rfl
  have r2 := blk_cells B1e 2 _ rfl
  have r3 := blk_cells B1e 3 _ rfl
  have r4 := blk_cells B1e 4 _ rfl
  have r5 := blk_cells B1e 5 _ rfl
  have r6 := blk_cells B1e 6 _ rfl
  have r7 := blk_cells B1e 7 _ rfl
  have HL := Lib.hid (show liW _ w.heap.size (((((⟨A1, n1, c1, a1⟩, ⟨A2, n2, c2, a2⟩, ⟨A3, n3, c3, a3⟩), ⟨A4, n4, c4, a4⟩, ⟨A5, n5, c5, a5⟩, ⟨A6, n6, c6, a6⟩, tk) : MacR), ⟨A7, n7, c7, a7⟩) : WatR) from ⟨liM.mono l0 (by omega), liF.mono l1 (by omega)⟩)
  have HC := Lib.hid (show cW (((((⟨A1, n1, c1, a1⟩, ⟨A2, n2, c2, a2⟩, ⟨A3, n3, c3, a3⟩), ⟨A4, n4, c4, a4⟩, ⟨A5, n5, c5, a5⟩, ⟨A6, n6, c6, a6⟩, tk) : MacR), ⟨A7, n7, c7, a7⟩) : WatR) = cW ⟨⟨⟨p, c, t⟩, o, k, d, tick⟩, g⟩ by simp only [cW]; simp only [] at hc1; rw [hc0, hc1])
  clear l0 l1 hc0 hc1 B0 B1 B2 B1e
  go_wp2
  exact bodyPost_ret (v := watV (((((⟨A1, n1, c1, a1⟩, ⟨A2, n2, c2, a2⟩, ⟨A3, n3, c3, a3⟩), ⟨A4, n4, c4, a4⟩, ⟨A5, n5, c5, a5⟩, ⟨A6, n6, c6, a6⟩, tk) : MacR), ⟨A7, n7, c7, a7⟩) : WatR)) (by simp [results, Tryz.results22, go_sem, watV, macV, setV, SV.v, r0, r1, r2, r3, r4, r5, r6, r7]) rfl ⟨(((((⟨A1, n1, c1, a1⟩, ⟨A2, n2, c2, a2⟩, ⟨A3, n3, c3, a3⟩), ⟨A4, n4, c4, a4⟩, ⟨A5, n5, c5, a5⟩, ⟨A6, n6, c6, a6⟩, tk) : MacR), ⟨A7, n7, c7, a7⟩) : WatR), rfl, HL.out, HC.out, hBw2_0⟩
set_option maxHeartbeats 1000000 in
theorem eqWatch_any (s s' : WatR) (w : World) (h : okW w s) (h' : okW w s') (hc : cW s = cW s') :
    Calls Tryz.prog 24 #[watV s, watV s'] w fun e w' => .returned (.bool true) = e ∧ Below w.heap.size w w' := by
  obtain ⟨⟨⟨p, c, t⟩, o, k, d, tick⟩, g⟩ := s
  obtain ⟨⟨⟨p9, c9, t9⟩, o9, k9, d9, tick9⟩, g9⟩ := s'
  obtain ⟨hm, hg⟩ := h
  obtain ⟨hm', hg'⟩ := h'
  simp only [cW, Prod.mk.injEq] at hc
  obtain ⟨e0, e1⟩ := hc
  have hb0 := alo (alo (Below.refl w.heap.size w) (.cells #[p.v, c.v, t.v, o.v, k.v, d.v, .int .i64 tick, g.v] 60)) (.cells #[p9.v, c9.v, t9.v, o9.v, k9.v, d9.v, .int .i64 tick9, g9.v] 60)
  have B1 := (Blk.new w 60 #[p.v, c.v, t.v, o.v, k.v, d.v, .int .i64 tick, g.v]).alloc (.cells #[p9.v, c9.v, t9.v, o9.v, k9.v, d9.v, .int .i64 tick9, g9.v] 60)
  have B2 := Blk.new2 w (.cells #[p.v, c.v, t.v, o.v, k.v, d.v, .int .i64 tick, g.v] 60) 60 #[p9.v, c9.v, t9.v, o9.v, k9.v, d9.v, .int .i64 tick9, g9.v]
  simp only [watV, macV, setV]
  go_enter Tryz.func24, Tryz.ntmps24
  have x0 := blk_cells B1 0 _ rfl
  have y0 := blk_cells B2 0 _ rfl
  have x1 := blk_cells B1 1 _ rfl
  have y1 := blk_cells B2 1 _ rfl
  have x2 := blk_cells B1 2 _ rfl
  have y2 := blk_cells B2 2 _ rfl
  have x3 := blk_cells B1 3 _ rfl
  have y3 := blk_cells B2 3 _ rfl
  have x4 := blk_cells B1 4 _ rfl
  have y4 := blk_cells B2 4 _ rfl
  have x5 := blk_cells B1 5 _ rfl
  have y5 := blk_cells B2 5 _ rfl
  have x6 := blk_cells B1 6 _ rfl
  have y6 := blk_cells B2 6 _ rfl
  have x7 := blk_cells B1 7 _ rfl
  have y7 := blk_cells B2 7 _ rfl
  go_wp2_with fail
  refine (eqMachine_any ((p, c, t), o, k, d, tick) ((p9, c9, t9), o9, k9, d9, tick9) _ (hm.below hb0) (hm'.below hb0) e0).mono ?_
  rintro e w1 ⟨rfl, hbw1⟩
  have hBw1 := thn hb0 hbw1
  replace B1 := B1.below hbw1
  replace B2 := B2.below hbw1
  clear x0 y0 x1 y1 x2 y2 x3 y3 x4 y4 x5 y5 x6 y6 x7 y7
  have x0 := blk_cells B1 0 _ rfl
  have y0 := blk_cells B2 0 _ rfl
  have x1 := blk_cells B1 1 _ rfl
  have y1 := blk_cells B2 1 _ rfl
  have x2 := blk_cells B1 2 _ rfl
  have y2 := blk_cells B2 2 _ rfl
  have x3 := blk_cells B1 3 _ rfl
  have y3 := blk_cells B2 3 _ rfl
  have x4 := blk_cells B1 4 _ rfl
  have y4 := blk_cells B2 4 _ rfl
  have x5 := blk_cells B1 5 _ rfl
  have y5 := blk_cells B2 5 _ rfl
  have x6 := blk_cells B1 6 _ rfl
  have y6 := blk_cells B2 6 _ rfl
  have x7 := blk_cells B1 7 _ rfl
  have y7 := blk_cells B2 7 _ rfl
  go_wp2_with fail
  refine (eqHealthS_L g g9 _ (hg.below hBw1) (hg'.below hBw1) e1).mono ?_
  rintro e w2 ⟨rfl, hbw2⟩
  have hBw2 := thn hBw1 hbw2
  replace B1 := B1.below hbw2
  replace B2 := B2.below hbw2
  clear x0 y0 x1 y1 x2 y2 x3 y3 x4 y4 x5 y5 x6 y6 x7 y7
  have x0 := blk_cells B1 0 _ rfl
  have y0 := blk_cells B2 0 _ rfl
  have x1 := blk_cells B1 1 _ rfl
  have y1 := blk_cells B2 1 _ rfl
  have x2 := blk_cells B1 2 _ rfl
  have y2 := blk_cells B2 2 _ rfl
  have x3 := blk_cells B1 3 _ rfl
  have y3 := blk_cells B2 3 _ rfl
  have x4 := blk_cells B1 4 _ rfl
  have y4 := blk_cells B2 4 _ rfl
  have x5 := blk_cells B1 5 _ rfl
  have y5 := blk_cells B2 5 _ rfl
  have x6 := blk_cells B1 6 _ rfl
  have y6 := blk_cells B2 6 _ rfl
  have x7 := blk_cells B1 7 _ rfl
  have y7 := blk_cells B2 7 _ rfl
  go_wp2
  go_ret
  exact ⟨rfl, hBw2⟩
end Go.Proofs.YtckgdlgdipfgmaaGreat
