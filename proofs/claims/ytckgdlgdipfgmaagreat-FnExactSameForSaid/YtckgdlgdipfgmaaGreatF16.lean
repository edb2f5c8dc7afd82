/- The walk of FnExactSameFor. Arguments opened: slices of flat elements, as a list that the slice reads as. An argument of type Machine of an exact law opened. -/
import Derived.Test.YtckgdlgdipfgmaaGreatF1
import Derived.Test.YtckgdlgdipfgmaaGreatF5
import Derived.Test.YtckgdlgdipfgmaaGreatF8
import Derived.Test.YtckgdlgdipfgmaaGreatF11
import Derived.Test.YtckgdlgdipfgmaaGreatF13
import Derived.Test.YtckgdlgdipfgmaaGreatF15
import Derived.ProofKit
import Derived.OpenShut
import Derived.ChangeOld
import Derived.Deep.Slices
import Derived.Deep.Strs
import Derived.Lib.SmallJoins

namespace Go.Proofs.YtckgdlgdipfgmaaGreat
set_option linter.unusedVariables false
set_option linter.unusedSimpArgs false
open Go.RowKit

def relSF8 (q : Nat) (va vb : Value) (n : Int) (C D : MacC) (r : Bool) : Nat → Value → World → Prop
  | 0, v, _ => v = va
  | 1, v, W => ∃ m9 : MacR, v = macV m9 ∧ liM W (q) m9 ∧ cM m9 = C
  | 2, v, _ => v = vb
  | 3, v, W => ∃ m9 : MacR, v = macV m9 ∧ liM W (q) m9 ∧ cM m9 = D
  | 4, v, _ => v = .int .i64 n
  | 5, v, _ => v = .bool r
  | _, _, _ => True
theorem relSF8_below (q : Nat) (va vb : Value) (n : Int) (C D : MacC) (r : Bool) {i : Nat} {v : Value} {w w' : World} (h : relSF8 q va vb n C D r i v w) (hb : Below w.heap.size w w') : relSF8 q va vb n C D r i v w' := by
  match i, h with
  | 0, h => exact h
  | 1, ⟨m9, e, h, l⟩ => exact ⟨m9, e, h.below hb, l⟩
  | 2, h => exact h
  | 3, ⟨m9, e, h, l⟩ => exact ⟨m9, e, h.below hb, l⟩
  | 4, h => exact h
  | 5, h => exact h
  | n + 6, _ => trivial

def relSF9 (q : Nat) (va vx : Value) (C : MacC) : Nat → Value → World → Prop
  | 0, v, _ => v = vx
  | 1, v, _ => v = va
  | 2, v, W => ∃ m9 : MacR, v = macV m9 ∧ liM W (q) m9 ∧ cM m9 = C
  | 3, v, _ => v = .bool true
  | 4, v, _ => v = .bool false
  | _, _, _ => True
theorem relSF9_below (q : Nat) (va vx : Value) (C : MacC) {i : Nat} {v : Value} {w w' : World} (h : relSF9 q va vx C i v w) (hb : Below w.heap.size w w') : relSF9 q va vx C i v w' := by
  match i, h with
  | 0, h => exact h
  | 1, h => exact h
  | 2, ⟨m9, e, h, l⟩ => exact ⟨m9, e, h.below hb, l⟩
  | 3, h => exact h
  | 4, h => exact h
  | n + 5, _ => trivial

def relSF10 (q : Nat) (va vx : Value) (C : MacC) : Nat → Value → World → Prop
  | 0, v, _ => v = vx
  | 1, v, _ => v = va
  | 2, v, W => ∃ m9 : MacR, v = macV m9 ∧ liM W (q) m9 ∧ cM m9 = C
  | 3, v, _ => v = .bool true
  | 4, v, _ => v = .bool false
  | _, _, _ => True
theorem relSF10_below (q : Nat) (va vx : Value) (C : MacC) {i : Nat} {v : Value} {w w' : World} (h : relSF10 q va vx C i v w) (hb : Below w.heap.size w w') : relSF10 q va vx C i v w' := by
  match i, h with
  | 0, h => exact h
  | 1, h => exact h
  | 2, ⟨m9, e, h, l⟩ => exact ⟨m9, e, h.below hb, l⟩
  | 3, h => exact h
  | 4, h => exact h
  | n + 5, _ => trivial

set_option maxRecDepth 100000 in
set_option maxHeartbeats 4000000 in
theorem lawExactSameFor (a b : MacR) (n : Int) (w : World) (ha : okM w a) (hb : okM w b) :
    Calls Tryz.prog 3 #[macV a, macV b, .int .i64 n] w fun e w' => .returned (.bool true) = e ∧ Below w.heap.size w w' := by
  have hz1 := fun W hW => szMachine_any a 1048576 (by omega) W (ha.below hW)
  have hz2 := fun W hW l hl => szMachine_any b l hl W (hb.below hW)
  have hTa := fun W hW hsm => toMachine_any a hsm W (ha.below hW)
  have hTb := fun W hW hsm => toMachine_any b hsm W (hb.below hW)
  clear ha hb
  obtain ⟨⟨⟨A1, n1, c1, x1⟩, ⟨A2, n2, c2, x2⟩, ⟨A3, n3, c3, x3⟩⟩, ⟨A4, n4, c4, x4⟩, ⟨A5, n5, c5, x5⟩, ⟨A6, n6, c6, x6⟩, tick⟩ := a
  obtain ⟨⟨⟨D1, d1, e1, y1⟩, ⟨D2, d2, e2, y2⟩, ⟨D3, d3, e3, y3⟩⟩, ⟨D4, d4, e4, y4⟩, ⟨D5, d5, e5, y5⟩, ⟨D6, d6, e6, y6⟩, tock⟩ := b
  have hb0 := alo (alo (Below.refl w.heap.size w) (.cells #[.slice A1 n1 c1, .slice A2 n2 c2, .slice A3 n3 c3, .slice A4 n4 c4, .slice A5 n5 c5, .slice A6 n6 c6, .int .i64 tick] 31)) (.cells #[.slice D1 d1 e1, .slice D2 d2 e2, .slice D3 d3 e3, .slice D4 d4 e4, .slice D5 d5 e5, .slice D6 d6 e6, .int .i64 tock] 31)
  have B1 := (Blk.new w 31 #[.slice A1 n1 c1, .slice A2 n2 c2, .slice A3 n3 c3, .slice A4 n4 c4, .slice A5 n5 c5, .slice A6 n6 c6, .int .i64 tick]).alloc (.cells #[.slice D1 d1 e1, .slice D2 d2 e2, .slice D3 d3 e3, .slice D4 d4 e4, .slice D5 d5 e5, .slice D6 d6 e6, .int .i64 tock] 31)
  have B2 := Blk.new2 w (.cells #[.slice A1 n1 c1, .slice A2 n2 c2, .slice A3 n3 c3, .slice A4 n4 c4, .slice A5 n5 c5, .slice A6 n6 c6, .int .i64 tick] 31) 31 #[.slice D1 d1 e1, .slice D2 d2 e2, .slice D3 d3 e3, .slice D4 d4 e4, .slice D5 d5 e5, .slice D6 d6 e6, .int .i64 tock]
  obtain ⟨C, hC⟩ : ∃ C : MacC, cM ((((⟨A1, n1, c1, x1⟩, ⟨A2, n2, c2, x2⟩, ⟨A3, n3, c3, x3⟩) : SetR), ⟨A4, n4, c4, x4⟩, ⟨A5, n5, c5, x5⟩, ⟨A6, n6, c6, x6⟩, tick) : MacR) = C := ⟨_, rfl⟩
  obtain ⟨D, hD⟩ : ∃ C : MacC, cM ((((⟨D1, d1, e1, y1⟩, ⟨D2, d2, e2, y2⟩, ⟨D3, d3, e3, y3⟩) : SetR), ⟨D4, d4, e4, y4⟩, ⟨D5, d5, e5, y5⟩, ⟨D6, d6, e6, y6⟩, tock) : MacR) = C := ⟨_, rfl⟩
  simp only [hC] at hTa
  simp only [hD] at hTb
  have hSp := fun (W : World) (q r : Nat) (m m' : MacR) (hm : liM W q m) (hc : cM m = C) (hm' : liM W r m') (hc' : cM m' = D) => show Calls Tryz.prog 8 #[macV m, macV m', .int .i64 n] W fun e w' => .returned (.bool (sameForC C D n)) = e ∧ Below W.heap.size W w' by rw [← hc, ← hc']; exact specSameFor_any m m' n W hm.ok hm'.ok hm.nl hm'.nl
  have hIm := fun (W : World) (q r : Nat) (m m' : MacR) (hm : liM W q m) (hc : cM m = C) (hm' : liM W r m') (hc' : cM m' = D) => show Calls Tryz.prog 10 #[macV m, macV m', .int .i64 n] W fun e w' => .returned (.bool (sameForC C D n)) = e ∧ Below W.heap.size W w' by rw [← hc, ← hc']; exact sameFor_any m m' n W hm.ok hm'.ok hm.nl hm'.nl
  simp only [macV, setV, SV.v_mk] at hz1 hz2 hTa hTb ⊢
  clear hC hD
  generalize sameForC C D n = r at *
  skip
  skip
  have cB1_0 := B1.c0; have cB1_1 := B1.c1; have cB1_2 := B1.c2; have cB1_3 := B1.c3; have cB1_4 := B1.c4; have cB1_5 := B1.c5; have cB1_6 := B1.c6; have fB1 := B1.frozen; have cB2_0 := B2.c0; have cB2_1 := B2.c1; have cB2_2 := B2.c2; have cB2_3 := B2.c3; have cB2_4 := B2.c4; have cB2_5 := B2.c5; have cB2_6 := B2.c6; have fB2 := B2.frozen
  go_enter Tryz.func3, Tryz.ntmps3
  go_wp2_with fail
  refine (hz1 _ hb0).mono ?_
  rintro e w1 ⟨m1, rfl, hm1, hsm1, hb1⟩
  have hB1 := thn hb0 hb1
  replace B1 := B1.below hb1
  replace B2 := B2.below hb1
  clear cB1_0 cB1_1 cB1_2 cB1_3 cB1_4 cB1_5 cB1_6 fB1 cB2_0 cB2_1 cB2_2 cB2_3 cB2_4 cB2_5 cB2_6 fB2
  clear hz1 hb1 hb0
  by_cases hneg : m1 < 0
  · go_wp2
    go_ret
    exact ⟨rfl, hB1⟩
  · have hsm1 := hsm1 (by omega)
    have hTa := fun W hW => hTa W hW hsm1
    have cB1_0 := B1.c0; have cB1_1 := B1.c1; have cB1_2 := B1.c2; have cB1_3 := B1.c3; have cB1_4 := B1.c4; have cB1_5 := B1.c5; have cB1_6 := B1.c6; have fB1 := B1.frozen; have cB2_0 := B2.c0; have cB2_1 := B2.c1; have cB2_2 := B2.c2; have cB2_3 := B2.c3; have cB2_4 := B2.c4; have cB2_5 := B2.c5; have cB2_6 := B2.c6; have fB2 := B2.frozen
    go_wp2_with fail
    refine (hz2 _ hB1 m1 ⟨by omega, by omega⟩).mono ?_
    rintro e w2 ⟨m2, rfl, hm2, hsm2, hb2⟩
    have hB2 := thn hB1 hb2
    replace B1 := B1.below hb2
    replace B2 := B2.below hb2
    clear cB1_0 cB1_1 cB1_2 cB1_3 cB1_4 cB1_5 cB1_6 fB1 cB2_0 cB2_1 cB2_2 cB2_3 cB2_4 cB2_5 cB2_6 fB2
    clear hz2 hb2 hB1
    by_cases hneg2 : m2 < 0
    · go_wp2
      go_ret
      exact ⟨rfl, hB2⟩
    · have hsm2 := hsm2 (by omega)
      have hTb := fun W hW => hTb W hW hsm2
      clear hsm1 hsm2
      have hTa2 := fun W hW => hTa W (thn hB2 hW)
      have hTb2 := fun W hW => hTb W (thn hB2 hW)
      go_wp2_with fail
      clear hneg hneg2 hm1 hm2
      refine region_rel (by kernel_rfl) (fun iz vz wz => relSF8 w2.heap.size (.agg #[.slice A1 n1 c1, .slice A2 n2 c2, .slice A3 n3 c3, .slice A4 n4 c4, .slice A5 n5 c5, .slice A6 n6 c6, .int .i64 tick]) (.agg #[.slice D1 d1 e1, .slice D2 d2 e2, .slice D3 d3 e3, .slice D4 d4 e4, .slice D5 d5 e5, .slice D6 d6 e6, .int .i64 tock]) n C D r iz vz wz) (fun wz wz' => Below wz.heap.size wz wz') (fun _ wz' => Below w2.heap.size w2 wz') 6 _ w2 (by kernel_rfl) (by kernel_rfl) (fun iz vz wz wz' h hb => relSF8_below w2.heap.size (.agg #[.slice A1 n1 c1, .slice A2 n2 c2, .slice A3 n3 c3, .slice A4 n4 c4, .slice A5 n5 c5, .slice A6 n6 c6, .int .i64 tick]) (.agg #[.slice D1 d1 e1, .slice D2 d2 e2, .slice D3 d3 e3, .slice D4 d4 e4, .slice D5 d5 e5, .slice D6 d6 e6, .int .i64 tock]) n C D r h hb) (fun wz => Below.refl _ _) (fun _ _ _ _ h => h) (show Below w2.heap.size w2 w2.drew from (Below.refl _ _).drew) ?_ ?_
      · intro i o him ho a wa cc hcc hJ hfr hdep
        have B1 := B1.below hJ
        have B2 := B2.below hJ
        have cB1_0 := B1.c0; have cB1_1 := B1.c1; have cB1_2 := B1.c2; have cB1_3 := B1.c3; have cB1_4 := B1.c4; have cB1_5 := B1.c5; have cB1_6 := B1.c6; have fB1 := B1.frozen; have cB2_0 := B2.c0; have cB2_1 := B2.c1; have cB2_2 := B2.c2; have cB2_3 := B2.c3; have cB2_4 := B2.c4; have cB2_5 := B2.c5; have cB2_6 := B2.c6; have fB2 := B2.frozen
        match i, ho, him with
        | 0, ho, _ =>
          injection ho with ho
          subst ho
          have h3 := hfr.2.2 3 (drawFrM_spec (by kernel_rfl))
          clear hdep hfr
          simp only [Array.getD_eq_getD_getElem?] at h3
          refine .inl ⟨rfl, ?_⟩
          unfold Oper.wp
          go_simp
          exact LeavesR.val rfl (Below.refl _ _) hJ
        | 1, ho, _ =>
          injection ho with ho
          subst ho
          have h22 := hdep ⟨0, .data⟩ (by simp) (by kernel_rfl) _ 22 rfl rfl
          clear hdep hfr
          replace h22 : a.tmps.getD 22 undef = (.agg #[.slice A1 n1 c1, .slice A2 n2 c2, .slice A3 n3 c3, .slice A4 n4 c4, .slice A5 n5 c5, .slice A6 n6 c6, .int .i64 tick]) := h22
          simp only [Array.getD_eq_getD_getElem?] at h22
          refine .inl ⟨rfl, ?_⟩
          unfold Oper.wp
          go_simp
          refine (hTa2 _ hJ).mono ?_
          rintro e wb ⟨m9, rfl, l9, c9, hb'⟩
          exact LeavesR.val ⟨m9, rfl, l9.mono (by have := hJ.size; omega), c9⟩ hb' (thn hJ hb')
        | 2, ho, _ =>
          injection ho with ho
          subst ho
          have h4 := hfr.2.2 4 (drawFrM_spec (by kernel_rfl))
          clear hdep hfr
          simp only [Array.getD_eq_getD_getElem?] at h4
          refine .inl ⟨rfl, ?_⟩
          unfold Oper.wp
          go_simp
          exact LeavesR.val rfl (Below.refl _ _) hJ
        | 3, ho, _ =>
          injection ho with ho
          subst ho
          have h24 := hdep ⟨2, .data⟩ (by simp) (by kernel_rfl) _ 24 rfl rfl
          clear hdep hfr
          replace h24 : a.tmps.getD 24 undef = (.agg #[.slice D1 d1 e1, .slice D2 d2 e2, .slice D3 d3 e3, .slice D4 d4 e4, .slice D5 d5 e5, .slice D6 d6 e6, .int .i64 tock]) := h24
          simp only [Array.getD_eq_getD_getElem?] at h24
          refine .inl ⟨rfl, ?_⟩
          unfold Oper.wp
          go_simp
          refine (hTb2 _ hJ).mono ?_
          rintro e wb ⟨m9, rfl, l9, c9, hb'⟩
          exact LeavesR.val ⟨m9, rfl, l9.mono (by have := hJ.size; omega), c9⟩ hb' (thn hJ hb')
        | 4, ho, _ =>
          injection ho with ho
          subst ho
          have h2 := hfr.2.2 2 (drawFrM_spec (by kernel_rfl))
          clear hdep hfr
          simp only [Array.getD_eq_getD_getElem?] at h2
          refine .inl ⟨rfl, ?_⟩
          unfold Oper.wp
          go_simp
          exact LeavesR.val rfl (Below.refl _ _) hJ
        | 5, ho, _ =>
          injection ho with ho
          subst ho
          have h23 := hdep ⟨1, .data⟩ (by simp) (by kernel_rfl) _ 23 rfl rfl
          have h25 := hdep ⟨3, .data⟩ (by simp) (by kernel_rfl) _ 25 rfl rfl
          have h26 := hdep ⟨4, .data⟩ (by simp) (by kernel_rfl) _ 26 rfl rfl
          clear hdep hfr
          obtain ⟨m23, h23, S23, L23⟩ := h23
          simp only [Array.getD_eq_getD_getElem?] at h23
          obtain ⟨m25, h25, S25, L25⟩ := h25
          simp only [Array.getD_eq_getD_getElem?] at h25
          replace h26 : a.tmps.getD 26 undef = .int .i64 n := h26
          simp only [Array.getD_eq_getD_getElem?] at h26
          refine .inl ⟨rfl, ?_⟩
          unfold Oper.wp
          go_simp
          refine (hSp _ _ _ _ _ S23 L23 S25 L25).mono ?_
          rintro e wb ⟨rfl, hb'⟩
          exact LeavesR.val rfl hb' (thn hJ hb')
        | n + 6, _, him => exact absurd him (by omega)
      · intro V w3 hV hJ
        have hV0 := hV 0 _ 22 (by decide) rfl rfl
        replace hV0 : V 0 = (.agg #[.slice A1 n1 c1, .slice A2 n2 c2, .slice A3 n3 c3, .slice A4 n4 c4, .slice A5 n5 c5, .slice A6 n6 c6, .int .i64 tick]) := hV0
        obtain ⟨mE23, hV1, SE23, LE23⟩ := hV 1 _ 23 (by decide) rfl rfl
        have hV2 := hV 2 _ 24 (by decide) rfl rfl
        replace hV2 : V 2 = (.agg #[.slice D1 d1 e1, .slice D2 d2 e2, .slice D3 d3 e3, .slice D4 d4 e4, .slice D5 d5 e5, .slice D6 d6 e6, .int .i64 tock]) := hV2
        obtain ⟨mE25, hV3, SE25, LE25⟩ := hV 3 _ 25 (by decide) rfl rfl
        have hV4 := hV 4 _ 26 (by decide) rfl rfl
        replace hV4 : V 4 = .int .i64 n := hV4
        have hV5 := hV 5 _ 27 (by decide) rfl rfl
        replace hV5 : V 5 = .bool r := hV5
        clear hV
        simp only [puts, List.drop, Act.put, List.getElem?_toArray, List.getElem?_cons_succ, List.getElem?_cons_zero, List.setIfInBounds_toArray, List.set_cons_succ, List.set_cons_zero, hV0, hV1, hV2, hV3, hV4, hV5]
        clear hV0 hV1 hV2 hV3 hV4 hV5
        replace B1 := B1.below hJ
        replace B2 := B2.below hJ
        have hB3 := thn hB2 hJ
        clear hTa2 hTb2 hB2 hJ SE23 SE25 LE23 LE25
        skip
        have cB1_0 := B1.c0; have cB1_1 := B1.c1; have cB1_2 := B1.c2; have cB1_3 := B1.c3; have cB1_4 := B1.c4; have cB1_5 := B1.c5; have cB1_6 := B1.c6; have fB1 := B1.frozen; have cB2_0 := B2.c0; have cB2_1 := B2.c1; have cB2_2 := B2.c2; have cB2_3 := B2.c3; have cB2_4 := B2.c4; have cB2_5 := B2.c5; have cB2_6 := B2.c6; have fB2 := B2.frozen
        go_wp2_with fail
        refine (hTa _ hB3).mono ?_
        rintro e w4 ⟨m4, rfl, l4, hc4, hb4⟩
        have hB4 := thn hB3 hb4
        replace B1 := B1.below hb4
        replace B2 := B2.below hb4
        clear cB1_0 cB1_1 cB1_2 cB1_3 cB1_4 cB1_5 cB1_6 fB1 cB2_0 cB2_1 cB2_2 cB2_3 cB2_4 cB2_5 cB2_6 fB2
        clear hB3 hb4
        obtain ⟨⟨⟨F1, f1, g1, u1⟩, ⟨F2, f2, g2, u2⟩, ⟨F3, f3, g3, u3⟩⟩, ⟨F4, f4, g4, u4⟩, ⟨F5, f5, g5, u5⟩, ⟨F6, f6, g6, u6⟩, tack⟩ := m4
        have hBx := alo hB4 (.cells #[.slice F1 f1 g1, .slice F2 f2 g2, .slice F3 f3 g3, .slice F4 f4 g4, .slice F5 f5 g5, .slice F6 f6 g6, .int .i64 tack] 43)
        have l4 := l4.below (alo (Below.refl w4.heap.size w4) (.cells #[.slice F1 f1 g1, .slice F2 f2 g2, .slice F3 f3 g3, .slice F4 f4 g4, .slice F5 f5 g5, .slice F6 f6 g6, .int .i64 tack] 43))
        have B5 := Blk.new w4 43 #[.slice F1 f1 g1, .slice F2 f2 g2, .slice F3 f3 g3, .slice F4 f4 g4, .slice F5 f5 g5, .slice F6 f6 g6, .int .i64 tack]
        replace B1 := B1.alloc (.cells #[.slice F1 f1 g1, .slice F2 f2 g2, .slice F3 f3 g3, .slice F4 f4 g4, .slice F5 f5 g5, .slice F6 f6 g6, .int .i64 tack] 43)
        replace B2 := B2.alloc (.cells #[.slice F1 f1 g1, .slice F2 f2 g2, .slice F3 f3 g3, .slice F4 f4 g4, .slice F5 f5 g5, .slice F6 f6 g6, .int .i64 tack] 43)
        simp only [macV, setV, SV.v_mk]
        clear hB4
        have cB1_0 := B1.c0; have cB1_1 := B1.c1; have cB1_2 := B1.c2; have cB1_3 := B1.c3; have cB1_4 := B1.c4; have cB1_5 := B1.c5; have cB1_6 := B1.c6; have fB1 := B1.frozen; have cB2_0 := B2.c0; have cB2_1 := B2.c1; have cB2_2 := B2.c2; have cB2_3 := B2.c3; have cB2_4 := B2.c4; have cB2_5 := B2.c5; have cB2_6 := B2.c6; have fB2 := B2.frozen
        go_wp2_with fail
        refine (hTb _ hBx).mono ?_
        rintro e w5 ⟨m5, rfl, l5, hc5, hb5⟩
        have hB5 := thn hBx hb5
        replace B1 := B1.below hb5
        replace B2 := B2.below hb5
        replace B5 := B5.below hb5
        have l4 := l4.below hb5
        clear cB1_0 cB1_1 cB1_2 cB1_3 cB1_4 cB1_5 cB1_6 fB1 cB2_0 cB2_1 cB2_2 cB2_3 cB2_4 cB2_5 cB2_6 fB2
        clear hBx hb5
        obtain ⟨⟨⟨G1, k1, j1, v1⟩, ⟨G2, k2, j2, v2⟩, ⟨G3, k3, j3, v3⟩⟩, ⟨G4, k4, j4, v4⟩, ⟨G5, k5, j5, v5⟩, ⟨G6, k6, j6, v6⟩, tuck⟩ := m5
        have hBy := alo hB5 (.cells #[.slice G1 k1 j1, .slice G2 k2 j2, .slice G3 k3 j3, .slice G4 k4 j4, .slice G5 k5 j5, .slice G6 k6 j6, .int .i64 tuck] 43)
        have l4 := l4.below (alo (Below.refl w5.heap.size w5) (.cells #[.slice G1 k1 j1, .slice G2 k2 j2, .slice G3 k3 j3, .slice G4 k4 j4, .slice G5 k5 j5, .slice G6 k6 j6, .int .i64 tuck] 43))
        have l5 := l5.below (alo (Below.refl w5.heap.size w5) (.cells #[.slice G1 k1 j1, .slice G2 k2 j2, .slice G3 k3 j3, .slice G4 k4 j4, .slice G5 k5 j5, .slice G6 k6 j6, .int .i64 tuck] 43))
        have B6 := Blk.new w5 43 #[.slice G1 k1 j1, .slice G2 k2 j2, .slice G3 k3 j3, .slice G4 k4 j4, .slice G5 k5 j5, .slice G6 k6 j6, .int .i64 tuck]
        replace B1 := B1.alloc (.cells #[.slice G1 k1 j1, .slice G2 k2 j2, .slice G3 k3 j3, .slice G4 k4 j4, .slice G5 k5 j5, .slice G6 k6 j6, .int .i64 tuck] 43)
        replace B2 := B2.alloc (.cells #[.slice G1 k1 j1, .slice G2 k2 j2, .slice G3 k3 j3, .slice G4 k4 j4, .slice G5 k5 j5, .slice G6 k6 j6, .int .i64 tuck] 43)
        replace B5 := B5.alloc (.cells #[.slice G1 k1 j1, .slice G2 k2 j2, .slice G3 k3 j3, .slice G4 k4 j4, .slice G5 k5 j5, .slice G6 k6 j6, .int .i64 tuck] 43)
        have hq := hIm _ _ _ _ _ l4 hc4 l5 hc5
        simp only [macV, setV, SV.v_mk] at hq ⊢
        clear hB5
        skip
        have cB1_0 := B1.c0; have cB1_1 := B1.c1; have cB1_2 := B1.c2; have cB1_3 := B1.c3; have cB1_4 := B1.c4; have cB1_5 := B1.c5; have cB1_6 := B1.c6; have fB1 := B1.frozen; have cB2_0 := B2.c0; have cB2_1 := B2.c1; have cB2_2 := B2.c2; have cB2_3 := B2.c3; have cB2_4 := B2.c4; have cB2_5 := B2.c5; have cB2_6 := B2.c6; have fB2 := B2.frozen; have cB5_0 := B5.c0; have cB5_1 := B5.c1; have cB5_2 := B5.c2; have cB5_3 := B5.c3; have cB5_4 := B5.c4; have cB5_5 := B5.c5; have cB5_6 := B5.c6; have fB5 := B5.frozen; have cB6_0 := B6.c0; have cB6_1 := B6.c1; have cB6_2 := B6.c2; have cB6_3 := B6.c3; have cB6_4 := B6.c4; have cB6_5 := B6.c5; have cB6_6 := B6.c6; have fB6 := B6.frozen
        go_wp2_with fail
        refine hq.mono ?_
        rintro e w6 ⟨rfl, hb6⟩
        have hB6 := thn hBy hb6
        replace B1 := B1.below hb6
        replace B2 := B2.below hb6
        replace B5 := B5.below hb6
        replace B6 := B6.below hb6
        have l4 := l4.below hb6
        have l5 := l5.below hb6
        clear cB1_0 cB1_1 cB1_2 cB1_3 cB1_4 cB1_5 cB1_6 fB1 cB2_0 cB2_1 cB2_2 cB2_3 cB2_4 cB2_5 cB2_6 fB2 cB5_0 cB5_1 cB5_2 cB5_3 cB5_4 cB5_5 cB5_6 fB5 cB6_0 cB6_1 cB6_2 cB6_3 cB6_4 cB6_5 cB6_6 fB6
        clear hq hBy hb6
        have hTa2 := fun W hW => hTa W (thn hB6 hW)
        have hE := fun W (hW : Below w6.heap.size w6 W) m (hm : liM W w6.heap.size m) (hc : cM m = C) => eqMachine_any _ m W (l4.ok.below hW) hm.ok (hc4.trans hc.symm)
        simp only [macV, setV, SV.v_mk] at hE
        go_wp2_with fail
        refine region_rel (by kernel_rfl) (fun iz vz wz => relSF9 w6.heap.size (.agg #[.slice A1 n1 c1, .slice A2 n2 c2, .slice A3 n3 c3, .slice A4 n4 c4, .slice A5 n5 c5, .slice A6 n6 c6, .int .i64 tick]) (.agg #[.slice F1 f1 g1, .slice F2 f2 g2, .slice F3 f3 g3, .slice F4 f4 g4, .slice F5 f5 g5, .slice F6 f6 g6, .int .i64 tack]) C iz vz wz) (fun wz wz' => Below wz.heap.size wz wz') (fun _ wz' => Below w6.heap.size w6 wz') 5 _ w6 (by kernel_rfl) (by kernel_rfl) (fun iz vz wz wz' h hb => relSF9_below w6.heap.size (.agg #[.slice A1 n1 c1, .slice A2 n2 c2, .slice A3 n3 c3, .slice A4 n4 c4, .slice A5 n5 c5, .slice A6 n6 c6, .int .i64 tick]) (.agg #[.slice F1 f1 g1, .slice F2 f2 g2, .slice F3 f3 g3, .slice F4 f4 g4, .slice F5 f5 g5, .slice F6 f6 g6, .int .i64 tack]) C h hb) (fun wz => Below.refl _ _) (fun _ _ _ _ h => h) (show Below w6.heap.size w6 w6.drew from (Below.refl _ _).drew) ?_ ?_
        · intro i o him ho a wa cc hcc hJ hfr hdep
          have B1 := B1.below hJ
          have B2 := B2.below hJ
          have B5 := B5.below hJ
          have B6 := B6.below hJ
          have cB1_0 := B1.c0; have cB1_1 := B1.c1; have cB1_2 := B1.c2; have cB1_3 := B1.c3; have cB1_4 := B1.c4; have cB1_5 := B1.c5; have cB1_6 := B1.c6; have fB1 := B1.frozen; have cB2_0 := B2.c0; have cB2_1 := B2.c1; have cB2_2 := B2.c2; have cB2_3 := B2.c3; have cB2_4 := B2.c4; have cB2_5 := B2.c5; have cB2_6 := B2.c6; have fB2 := B2.frozen; have cB5_0 := B5.c0; have cB5_1 := B5.c1; have cB5_2 := B5.c2; have cB5_3 := B5.c3; have cB5_4 := B5.c4; have cB5_5 := B5.c5; have cB5_6 := B5.c6; have fB5 := B5.frozen; have cB6_0 := B6.c0; have cB6_1 := B6.c1; have cB6_2 := B6.c2; have cB6_3 := B6.c3; have cB6_4 := B6.c4; have cB6_5 := B6.c5; have cB6_6 := B6.c6; have fB6 := B6.frozen
          match i, ho, him with
          | 0, ho, _ =>
            injection ho with ho
            subst ho
            have h9 := hfr.2.2 9 (drawFrM_spec (by kernel_rfl))
            clear hdep hfr
            simp only [Array.getD_eq_getD_getElem?] at h9
            refine .inl ⟨rfl, ?_⟩
            unfold Oper.wp
            go_simp
            exact LeavesR.val rfl (Below.refl _ _) hJ
          | 1, ho, _ =>
            injection ho with ho
            subst ho
            have h3 := hfr.2.2 3 (drawFrM_spec (by kernel_rfl))
            clear hdep hfr
            simp only [Array.getD_eq_getD_getElem?] at h3
            refine .inl ⟨rfl, ?_⟩
            unfold Oper.wp
            go_simp
            exact LeavesR.val rfl (Below.refl _ _) hJ
          | 2, ho, _ =>
            injection ho with ho
            subst ho
            have h40 := hdep ⟨1, .data⟩ (by simp) (by kernel_rfl) _ 40 rfl rfl
            clear hdep hfr
            replace h40 : a.tmps.getD 40 undef = (.agg #[.slice A1 n1 c1, .slice A2 n2 c2, .slice A3 n3 c3, .slice A4 n4 c4, .slice A5 n5 c5, .slice A6 n6 c6, .int .i64 tick]) := h40
            simp only [Array.getD_eq_getD_getElem?] at h40
            refine .inl ⟨rfl, ?_⟩
            unfold Oper.wp
            go_simp
            refine (hTa2 _ hJ).mono ?_
            rintro e wb ⟨m9, rfl, l9, c9, hb'⟩
            exact LeavesR.val ⟨m9, rfl, l9.mono (by have := hJ.size; omega), c9⟩ hb' (thn hJ hb')
          | 3, ho, _ =>
            injection ho with ho
            subst ho
            have h39 := hdep ⟨0, .data⟩ (by simp) (by kernel_rfl) _ 39 rfl rfl
            have h41 := hdep ⟨2, .data⟩ (by simp) (by kernel_rfl) _ 41 rfl rfl
            clear hdep hfr
            replace h39 : a.tmps.getD 39 undef = (.agg #[.slice F1 f1 g1, .slice F2 f2 g2, .slice F3 f3 g3, .slice F4 f4 g4, .slice F5 f5 g5, .slice F6 f6 g6, .int .i64 tack]) := h39
            simp only [Array.getD_eq_getD_getElem?] at h39
            obtain ⟨m41, h41, S41, L41⟩ := h41
            simp only [Array.getD_eq_getD_getElem?] at h41
            refine .inl ⟨rfl, ?_⟩
            unfold Oper.wp
            go_simp
            refine (hE _ hJ _ S41 L41).mono ?_
            rintro e wb ⟨rfl, hb'⟩
            exact LeavesR.val rfl hb' (thn hJ hb')
          | 4, ho, _ =>
            injection ho with ho
            subst ho
            have h42 := hdep ⟨3, .data⟩ (by simp) (by kernel_rfl) _ 42 rfl rfl
            clear hdep hfr
            replace h42 : a.tmps.getD 42 undef = .bool true := h42
            simp only [Array.getD_eq_getD_getElem?] at h42
            refine .inl ⟨rfl, ?_⟩
            unfold Oper.wp
            go_simp
            exact LeavesR.val rfl (Below.refl _ _) hJ
          | n + 5, _, him => exact absurd him (by omega)
        · intro V w7 hV hJ
          have hV0 := hV 0 _ 39 (by decide) rfl rfl
          replace hV0 : V 0 = (.agg #[.slice F1 f1 g1, .slice F2 f2 g2, .slice F3 f3 g3, .slice F4 f4 g4, .slice F5 f5 g5, .slice F6 f6 g6, .int .i64 tack]) := hV0
          have hV1 := hV 1 _ 40 (by decide) rfl rfl
          replace hV1 : V 1 = (.agg #[.slice A1 n1 c1, .slice A2 n2 c2, .slice A3 n3 c3, .slice A4 n4 c4, .slice A5 n5 c5, .slice A6 n6 c6, .int .i64 tick]) := hV1
          obtain ⟨mE41, hV2, SE41, LE41⟩ := hV 2 _ 41 (by decide) rfl rfl
          have hV3 := hV 3 _ 42 (by decide) rfl rfl
          replace hV3 : V 3 = .bool true := hV3
          have hV4 := hV 4 _ 43 (by decide) rfl rfl
          replace hV4 : V 4 = .bool false := hV4
          clear hV
          simp only [puts, List.drop, Act.put, List.getElem?_toArray, List.getElem?_cons_succ, List.getElem?_cons_zero, List.setIfInBounds_toArray, List.set_cons_succ, List.set_cons_zero, hV0, hV1, hV2, hV3, hV4]
          clear hV0 hV1 hV2 hV3 hV4
          replace B1 := B1.below hJ
          replace B2 := B2.below hJ
          replace B5 := B5.below hJ
          replace B6 := B6.below hJ
          have hB7 := thn hB6 hJ
          have l5 := l5.below hJ
          clear hTa2 hE hB6 hJ SE41 LE41 l4 hc4
          have hTb2 := fun W hW => hTb W (thn hB7 hW)
          have hE := fun W (hW : Below w7.heap.size w7 W) m (hm : liM W w7.heap.size m) (hc : cM m = D) => eqMachine_any _ m W (l5.ok.below hW) hm.ok (hc5.trans hc.symm)
          simp only [macV, setV, SV.v_mk] at hE
          have cB1_0 := B1.c0; have cB1_1 := B1.c1; have cB1_2 := B1.c2; have cB1_3 := B1.c3; have cB1_4 := B1.c4; have cB1_5 := B1.c5; have cB1_6 := B1.c6; have fB1 := B1.frozen; have cB2_0 := B2.c0; have cB2_1 := B2.c1; have cB2_2 := B2.c2; have cB2_3 := B2.c3; have cB2_4 := B2.c4; have cB2_5 := B2.c5; have cB2_6 := B2.c6; have fB2 := B2.frozen; have cB5_0 := B5.c0; have cB5_1 := B5.c1; have cB5_2 := B5.c2; have cB5_3 := B5.c3; have cB5_4 := B5.c4; have cB5_5 := B5.c5; have cB5_6 := B5.c6; have fB5 := B5.frozen; have cB6_0 := B6.c0; have cB6_1 := B6.c1; have cB6_2 := B6.c2; have cB6_3 := B6.c3; have cB6_4 := B6.c4; have cB6_5 := B6.c5; have cB6_6 := B6.c6; have fB6 := B6.frozen
          go_wp2_with fail
          refine region_rel (by kernel_rfl) (fun iz vz wz => relSF10 w7.heap.size (.agg #[.slice D1 d1 e1, .slice D2 d2 e2, .slice D3 d3 e3, .slice D4 d4 e4, .slice D5 d5 e5, .slice D6 d6 e6, .int .i64 tock]) (.agg #[.slice G1 k1 j1, .slice G2 k2 j2, .slice G3 k3 j3, .slice G4 k4 j4, .slice G5 k5 j5, .slice G6 k6 j6, .int .i64 tuck]) D iz vz wz) (fun wz wz' => Below wz.heap.size wz wz') (fun _ wz' => Below w7.heap.size w7 wz') 5 _ w7 (by kernel_rfl) (by kernel_rfl) (fun iz vz wz wz' h hb => relSF10_below w7.heap.size (.agg #[.slice D1 d1 e1, .slice D2 d2 e2, .slice D3 d3 e3, .slice D4 d4 e4, .slice D5 d5 e5, .slice D6 d6 e6, .int .i64 tock]) (.agg #[.slice G1 k1 j1, .slice G2 k2 j2, .slice G3 k3 j3, .slice G4 k4 j4, .slice G5 k5 j5, .slice G6 k6 j6, .int .i64 tuck]) D h hb) (fun wz => Below.refl _ _) (fun _ _ _ _ h => h) (show Below w7.heap.size w7 w7.drew from (Below.refl _ _).drew) ?_ ?_
          · intro i o him ho a wa cc hcc hJ hfr hdep
            have B1 := B1.below hJ
            have B2 := B2.below hJ
            have B5 := B5.below hJ
            have B6 := B6.below hJ
            have cB1_0 := B1.c0; have cB1_1 := B1.c1; have cB1_2 := B1.c2; have cB1_3 := B1.c3; have cB1_4 := B1.c4; have cB1_5 := B1.c5; have cB1_6 := B1.c6; have fB1 := B1.frozen; have cB2_0 := B2.c0; have cB2_1 := B2.c1; have cB2_2 := B2.c2; have cB2_3 := B2.c3; have cB2_4 := B2.c4; have cB2_5 := B2.c5; have cB2_6 := B2.c6; have fB2 := B2.frozen; have cB5_0 := B5.c0; have cB5_1 := B5.c1; have cB5_2 := B5.c2; have cB5_3 := B5.c3; have cB5_4 := B5.c4; have cB5_5 := B5.c5; have cB5_6 := B5.c6; have fB5 := B5.frozen; have cB6_0 := B6.c0; have cB6_1 := B6.c1; have cB6_2 := B6.c2; have cB6_3 := B6.c3; have cB6_4 := B6.c4; have cB6_5 := B6.c5; have cB6_6 := B6.c6; have fB6 := B6.frozen
            match i, ho, him with
            | 0, ho, _ =>
              injection ho with ho
              subst ho
              have h10 := hfr.2.2 10 (drawFrM_spec (by kernel_rfl))
              clear hdep hfr
              simp only [Array.getD_eq_getD_getElem?] at h10
              refine .inl ⟨rfl, ?_⟩
              unfold Oper.wp
              go_simp
              exact LeavesR.val rfl (Below.refl _ _) hJ
            | 1, ho, _ =>
              injection ho with ho
              subst ho
              have h4 := hfr.2.2 4 (drawFrM_spec (by kernel_rfl))
              clear hdep hfr
              simp only [Array.getD_eq_getD_getElem?] at h4
              refine .inl ⟨rfl, ?_⟩
              unfold Oper.wp
              go_simp
              exact LeavesR.val rfl (Below.refl _ _) hJ
            | 2, ho, _ =>
              injection ho with ho
              subst ho
              have h45 := hdep ⟨1, .data⟩ (by simp) (by kernel_rfl) _ 45 rfl rfl
              clear hdep hfr
              replace h45 : a.tmps.getD 45 undef = (.agg #[.slice D1 d1 e1, .slice D2 d2 e2, .slice D3 d3 e3, .slice D4 d4 e4, .slice D5 d5 e5, .slice D6 d6 e6, .int .i64 tock]) := h45
              simp only [Array.getD_eq_getD_getElem?] at h45
              refine .inl ⟨rfl, ?_⟩
              unfold Oper.wp
              go_simp
              refine (hTb2 _ hJ).mono ?_
              rintro e wb ⟨m9, rfl, l9, c9, hb'⟩
              exact LeavesR.val ⟨m9, rfl, l9.mono (by have := hJ.size; omega), c9⟩ hb' (thn hJ hb')
            | 3, ho, _ =>
              injection ho with ho
              subst ho
              have h44 := hdep ⟨0, .data⟩ (by simp) (by kernel_rfl) _ 44 rfl rfl
              have h46 := hdep ⟨2, .data⟩ (by simp) (by kernel_rfl) _ 46 rfl rfl
              clear hdep hfr
              replace h44 : a.tmps.getD 44 undef = (.agg #[.slice G1 k1 j1, .slice G2 k2 j2, .slice G3 k3 j3, .slice G4 k4 j4, .slice G5 k5 j5, .slice G6 k6 j6, .int .i64 tuck]) := h44
              simp only [Array.getD_eq_getD_getElem?] at h44
              obtain ⟨m46, h46, S46, L46⟩ := h46
              simp only [Array.getD_eq_getD_getElem?] at h46
              refine .inl ⟨rfl, ?_⟩
              unfold Oper.wp
              go_simp
              refine (hE _ hJ _ S46 L46).mono ?_
              rintro e wb ⟨rfl, hb'⟩
              exact LeavesR.val rfl hb' (thn hJ hb')
            | 4, ho, _ =>
              injection ho with ho
              subst ho
              have h47 := hdep ⟨3, .data⟩ (by simp) (by kernel_rfl) _ 47 rfl rfl
              clear hdep hfr
              replace h47 : a.tmps.getD 47 undef = .bool true := h47
              simp only [Array.getD_eq_getD_getElem?] at h47
              refine .inl ⟨rfl, ?_⟩
              unfold Oper.wp
              go_simp
              exact LeavesR.val rfl (Below.refl _ _) hJ
            | n + 5, _, him => exact absurd him (by omega)
          · intro V w8 hV hJ
            have hV0 := hV 0 _ 44 (by decide) rfl rfl
            replace hV0 : V 0 = (.agg #[.slice G1 k1 j1, .slice G2 k2 j2, .slice G3 k3 j3, .slice G4 k4 j4, .slice G5 k5 j5, .slice G6 k6 j6, .int .i64 tuck]) := hV0
            have hV1 := hV 1 _ 45 (by decide) rfl rfl
            replace hV1 : V 1 = (.agg #[.slice D1 d1 e1, .slice D2 d2 e2, .slice D3 d3 e3, .slice D4 d4 e4, .slice D5 d5 e5, .slice D6 d6 e6, .int .i64 tock]) := hV1
            obtain ⟨mE46, hV2, SE46, LE46⟩ := hV 2 _ 46 (by decide) rfl rfl
            have hV3 := hV 3 _ 47 (by decide) rfl rfl
            replace hV3 : V 3 = .bool true := hV3
            have hV4 := hV 4 _ 48 (by decide) rfl rfl
            replace hV4 : V 4 = .bool false := hV4
            clear hV
            simp only [puts, List.drop, Act.put, List.getElem?_toArray, List.getElem?_cons_succ, List.getElem?_cons_zero, List.setIfInBounds_toArray, List.set_cons_succ, List.set_cons_zero, hV0, hV1, hV2, hV3, hV4]
            clear hV0 hV1 hV2 hV3 hV4
            replace B1 := B1.below hJ
            replace B2 := B2.below hJ
            replace B5 := B5.below hJ
            replace B6 := B6.below hJ
            have hB8 := thn hB7 hJ
            go_wp2
            go_ret
            exact ⟨rfl, hB8⟩
end Go.Proofs.YtckgdlgdipfgmaaGreat

namespace Go.Proofs.YtckgdlgdipfgmaaGreat
set_option linter.unusedVariables false
set_option linter.unusedSimpArgs false
open Go.RowKit Go.ChangeShapes Go.WideShapes Go.ChangeAt Go.Deep Go.Joins

section
variable {H : Type} {en : TypeId × Value → H} {P : Program} {w : World} {base : Nat} {spare : Nat → Bool} {held : Bool}

theorem sl_of_trod {α : Type} [Inhabited α] {t e k fuel : Nat} {enc : α → List Value} {cs : List Value} {x : DataW H × List MemPlace} (ht : P.underlying t = some (.slice e)) (hk : P.cellsOf e = k) (hk0 : 0 < k) (hlen : ∀ y, (enc y).length = k)
    (dec : ∀ n cs x, cs.length = k → DataW.trod en P w base spare held n e cs = some x → ∃ y : α, enc y = cs) (h : DataW.trod en P w base spare held fuel t cs = some x) :
    ∃ A len cap xs, cs = [.slice A len cap] ∧ Sl w k enc A len cap xs := by
  rcases open_slice ht h with ⟨rfl, _⟩ | ⟨a, len, cap, m, n, D, Pl, rfl, _, hl, hm, hmm, _, hx⟩
  · exact ⟨none, 0, 0, [], rfl, rfl, Nat.le_refl _, by omega, fun h => absurd h (by omega)⟩
  · have hlm : len ≤ m := by rw [hmm]; split <;> omega
    obtain ⟨Y, hY⟩ := choose_lt (α := α) (p := fun i y => w.cells? base (a.add (i * k)) k = some (enc y)) (n := len) (fun i hi => by
      obtain ⟨cs', h1, h2⟩ := hx i (by omega)
      rw [hk] at h1
      obtain ⟨_, hl', _⟩ := World.cells?_some h1
      obtain ⟨y, rfl⟩ := dec _ _ _ hl' h2
      exact ⟨y, h1⟩)
    refine ⟨some a, len, cap, (List.range len).map Y, rfl, by simp, hl, by simpa [maxLen] using hm, fun h0 => ?_⟩
    obtain ⟨b, o, spot⟩ := a
    have hc : ∀ i j, i < len → j < k → w.cell? ((⟨b, o, spot⟩ : Addr).add (i * k) |>.add j) = (enc (Y i))[j]? := fun i j hi hj => (World.cells?_some (hY i hi)).2.2 j hj
    have h1 := hc 0 0 h0 hk0
    have hv : ∃ u, (enc (Y 0))[0]? = some u := ⟨_, List.getElem?_eq_getElem (by rw [hlen]; exact hk0)⟩
    obtain ⟨u, hu⟩ := hv
    rw [hu] at h1
    have hspot : spot = none := by simpa [Addr.add] using World.cell?_spot h1
    subst hspot
    have hadd : ∀ i, (⟨b, o, none⟩ : Addr).add i = ⟨b, o + i, none⟩ := fun i => Addr.add_lit b o i
    refine ⟨b, o, rfl, ?_, fun j y hj i v hv => ?_⟩
    · have := World.block_lt_of_cell? w _ h1
      rw [hadd, Addr.add_lit] at this
      exact this
    · have hjl : j < len := by
        have := (List.getElem?_eq_some_iff.1 hj).1
        simpa using this
      have hyj : y = Y j := by
        rw [List.getElem?_map, List.getElem?_range hjl] at hj
        simpa using hj.symm
      subst hyj
      have hi : i < k := by
        have := (List.getElem?_eq_some_iff.1 hv).1
        rw [hlen] at this; exact this
      have := hc j i hjl hi
      rw [hadd, Addr.add_lit, hv] at this
      exact this

theorem dec_int {e n : Nat} {cs : List Value} {x : DataW H × List MemPlace} (he : P.underlying e = some (.int .i64)) (h : DataW.trod en P w base spare held n e cs = some x) : ∃ y : Int, eI y = cs := by
  obtain ⟨a, rfl, _⟩ := DataW.trod_int he h
  exact ⟨a, rfl⟩
theorem dec_ii {e n : Nat} {f0 f1 : Field} {cs : List Value} {x : DataW H × List MemPlace} (hs : P.underlying e = some (.struct #[f0, f1])) (hone : oneCellFields P #[f0, f1] = true) (hl : cs.length = 2)
    (h0 : P.underlying f0.type = some (.int .i64)) (h1 : P.underlying f1.type = some (.int .i64)) (h : DataW.trod en P w base spare held n e cs = some x) : ∃ y : Int × Int, eS y = cs := by
  obtain ⟨y0, y1, m, _, _, g0, g1⟩ := trod_struct2 hs h
  obtain ⟨o0, k0⟩ := hone_of hone 0 f0 rfl
  obtain ⟨o1, k1⟩ := hone_of hone 1 f1 rfl
  match cs, hl with
  | [c0, c1], _ =>
    obtain ⟨a0, e0, _⟩ := DataW.trod_int h0 (by simpa [o0, k0] using g0)
    obtain ⟨a1, e1, _⟩ := DataW.trod_int h1 (by simpa [o1, k1] using g1)
    simp at e0 e1
    subst e0 e1
    exact ⟨(a0, a1), rfl⟩
theorem dec_iib {e n : Nat} {f0 f1 f2 : Field} {cs : List Value} {x : DataW H × List MemPlace} (hs : P.underlying e = some (.struct #[f0, f1, f2])) (hone : oneCellFields P #[f0, f1, f2] = true) (hl : cs.length = 3)
    (h0 : P.underlying f0.type = some (.int .i64)) (h1 : P.underlying f1.type = some (.int .i64)) (h2 : P.underlying f2.type = some .bool) (h : DataW.trod en P w base spare held n e cs = some x) : ∃ (a b : Int) (c : Bool), cs = [.int .i64 a, .int .i64 b, .bool c] := by
  obtain ⟨y0, y1, y2, m, _, _, g0, g1, g2⟩ := trod_struct3 hs h
  obtain ⟨o0, k0⟩ := hone_of hone 0 f0 rfl
  obtain ⟨o1, k1⟩ := hone_of hone 1 f1 rfl
  obtain ⟨o2, k2⟩ := hone_of hone 2 f2 rfl
  match cs, hl with
  | [c0, c1, c2], _ =>
    obtain ⟨a0, e0, _⟩ := DataW.trod_int h0 (by simpa [o0, k0] using g0)
    obtain ⟨a1, e1, _⟩ := DataW.trod_int h1 (by simpa [o1, k1] using g1)
    obtain ⟨a2, e2, _⟩ := DataW.trod_bool h2 (by simpa [o2, k2] using g2)
    simp at e0 e1 e2
    subst e0 e1 e2
    exact ⟨a0, a1, a2, rfl⟩
end
section
variable {H : Type} {en : TypeId × Value → H} {P : Program} {w : World} {base : Nat} {spare : Nat → Bool} {held : Bool}
/-- A struct of one field of one cell, opened. -/
theorem open_agg1 {r : Reach} {b0 : Nat} {t : TypeId} {f0 : Field} {v : Value} {d : DataW H} {p : List MemPlace} (hs : P.underlying t = some (.struct #[f0])) (hone : oneCellFields P #[f0] = true) (hC : P.cellsOf t = 1)
    (hv : Value.okWide P w r b0 t v) (h : DataW.Trod en P w base spare held t v d p) :
    ∃ (v0 : Value) (y0 : DataW H × List MemPlace) (n : Nat), v = .agg #[v0] ∧ d = .agg [y0.1] ∧ p = y0.2 ∧ DataW.trod en P w base spare held n f0.type [v0] = some y0 := by
  obtain ⟨cs, rfl, hsz⟩ := okWide_struct hs hv
  rw [hC] at hsz
  obtain ⟨c0, rfl⟩ : ∃ c0, cs = #[c0] := by
    obtain ⟨l⟩ := cs
    match l, hsz with
    | [c0], _ => exact ⟨c0, rfl⟩
  obtain ⟨fuel, hf⟩ := h
  obtain ⟨y0, n, hx, _, h0⟩ := trod_struct1 hs hf
  obtain ⟨o0, k0⟩ := hone_of hone 0 f0 rfl
  simp only [Prod.mk.injEq] at hx
  exact ⟨c0, y0, n, rfl, hx.1, hx.2, by simpa [Value.cells, o0, k0] using h0⟩
end
end Go.Proofs.YtckgdlgdipfgmaaGreat

namespace Go.Proofs.YtckgdlgdipfgmaaGreat
set_option linter.unusedVariables false
set_option linter.unusedSimpArgs false
open Go.RowKit Go.ChangeShapes Go.WideShapes Go.ChangeAt Go.Deep Go.Joins

section
variable {H : Type} {en : TypeId × Value → H} {P : Program} {w : World} {base : Nat} {spare : Nat → Bool} {held : Bool}
theorem sl_of_trodQ {α : Type} [Inhabited α] {ok : α → Prop} {t e k fuel : Nat} {enc : α → List Value} {cs : List Value} {x : DataW H × List MemPlace} (ht : P.underlying t = some (.slice e)) (hk : P.cellsOf e = k) (hk0 : 0 < k) (hlen : ∀ y, (enc y).length = k)
    (dec : ∀ n cs x, cs.length = k → DataW.trod en P w base spare held n e cs = some x → ∃ y : α, enc y = cs ∧ ok y) (h : DataW.trod en P w base spare held fuel t cs = some x) :
    ∃ A len cap xs, cs = [.slice A len cap] ∧ Sl w k enc A len cap xs ∧ ∀ y ∈ xs, ok y := by
  rcases open_slice ht h with ⟨rfl, _⟩ | ⟨a, len, cap, m, n, D, Pl, rfl, _, hl, hm, hmm, _, hx⟩
  · exact ⟨none, 0, 0, [], rfl, ⟨rfl, Nat.le_refl _, by omega, fun h => absurd h (by omega)⟩, fun y hy => by cases hy⟩
  · have hlm : len ≤ m := by rw [hmm]; split <;> omega
    obtain ⟨Y, hY⟩ := choose_lt (α := α) (p := fun i y => w.cells? base (a.add (i * k)) k = some (enc y) ∧ ok y) (n := len) (fun i hi => by
      obtain ⟨cs', h1, h2⟩ := hx i (by omega)
      rw [hk] at h1
      obtain ⟨_, hl', _⟩ := World.cells?_some h1
      obtain ⟨y, rfl, hy⟩ := dec _ _ _ hl' h2
      exact ⟨y, h1, hy⟩)
    refine ⟨some a, len, cap, (List.range len).map Y, rfl, ⟨by simp, hl, by simpa [maxLen] using hm, fun h0 => ?_⟩, fun y hy => ?_⟩
    · obtain ⟨b, o, spot⟩ := a
      have hc : ∀ i j, i < len → j < k → w.cell? ((⟨b, o, spot⟩ : Addr).add (i * k) |>.add j) = (enc (Y i))[j]? := fun i j hi hj => (World.cells?_some (hY i hi).1).2.2 j hj
      have h1 := hc 0 0 h0 hk0
      have hv : ∃ u, (enc (Y 0))[0]? = some u := ⟨_, List.getElem?_eq_getElem (by rw [hlen]; exact hk0)⟩
      obtain ⟨u, hu⟩ := hv
      rw [hu] at h1
      have hspot : spot = none := by simpa [Addr.add] using World.cell?_spot h1
      subst hspot
      have hadd : ∀ i, (⟨b, o, none⟩ : Addr).add i = ⟨b, o + i, none⟩ := fun i => Addr.add_lit b o i
      refine ⟨b, o, rfl, ?_, fun j y hj i v hv => ?_⟩
      · have := World.block_lt_of_cell? w _ h1
        rw [hadd, Addr.add_lit] at this
        exact this
      · have hjl : j < len := by
          have := (List.getElem?_eq_some_iff.1 hj).1
          simpa using this
        have hyj : y = Y j := by
          rw [List.getElem?_map, List.getElem?_range hjl] at hj
          simpa using hj.symm
        subst hyj
        have hi : i < k := by
          have := (List.getElem?_eq_some_iff.1 hv).1
          rw [hlen] at this; exact this
        have := hc j i hjl hi
        rw [hadd, Addr.add_lit, hv] at this
        exact this
    · obtain ⟨i, hi, rfl⟩ := List.mem_map.1 hy
      exact (hY i (List.mem_range.1 hi)).2

theorem dec_iii {e n : Nat} {f0 f1 f2 : Field} {cs : List Value} {x : DataW H × List MemPlace} (hs : P.underlying e = some (.struct #[f0, f1, f2])) (hone : oneCellFields P #[f0, f1, f2] = true) (hl : cs.length = 3)
    (h0 : P.underlying f0.type = some (.int .i64)) (h1 : P.underlying f1.type = some (.int .i64)) (h2 : P.underlying f2.type = some (.int .i64)) (h : DataW.trod en P w base spare held n e cs = some x) : ∃ y : Int × Int × Int, eO y = cs := by
  obtain ⟨y0, y1, y2, m, _, _, g0, g1, g2⟩ := trod_struct3 hs h
  obtain ⟨o0, k0⟩ := hone_of hone 0 f0 rfl
  obtain ⟨o1, k1⟩ := hone_of hone 1 f1 rfl
  obtain ⟨o2, k2⟩ := hone_of hone 2 f2 rfl
  match cs, hl with
  | [c0, c1, c2], _ =>
    obtain ⟨a0, e0, _⟩ := DataW.trod_int h0 (by simpa [o0, k0] using g0)
    obtain ⟨a1, e1, _⟩ := DataW.trod_int h1 (by simpa [o1, k1] using g1)
    obtain ⟨a2, e2, _⟩ := DataW.trod_int h2 (by simpa [o2, k2] using g2)
    simp at e0 e1 e2
    subst e0 e1 e2
    exact ⟨(a0, a1, a2), rfl⟩
theorem dec_iiii {e n : Nat} {f0 f1 f2 f3 : Field} {cs : List Value} {x : DataW H × List MemPlace} (hs : P.underlying e = some (.struct #[f0, f1, f2, f3])) (hone : oneCellFields P #[f0, f1, f2, f3] = true) (hl : cs.length = 4)
    (h0 : P.underlying f0.type = some (.int .i64)) (h1 : P.underlying f1.type = some (.int .i64)) (h2 : P.underlying f2.type = some (.int .i64)) (h3 : P.underlying f3.type = some (.int .i64)) (h : DataW.trod en P w base spare held n e cs = some x) : ∃ y : Int × Int × Int × Int, eC y = cs := by
  obtain ⟨y0, y1, y2, y3, m, _, _, g0, g1, g2, g3⟩ := trod_struct4 hs h
  obtain ⟨o0, k0⟩ := hone_of hone 0 f0 rfl
  obtain ⟨o1, k1⟩ := hone_of hone 1 f1 rfl
  obtain ⟨o2, k2⟩ := hone_of hone 2 f2 rfl
  obtain ⟨o3, k3⟩ := hone_of hone 3 f3 rfl
  match cs, hl with
  | [c0, c1, c2, c3], _ =>
    obtain ⟨a0, e0, _⟩ := DataW.trod_int h0 (by simpa [o0, k0] using g0)
    obtain ⟨a1, e1, _⟩ := DataW.trod_int h1 (by simpa [o1, k1] using g1)
    obtain ⟨a2, e2, _⟩ := DataW.trod_int h2 (by simpa [o2, k2] using g2)
    obtain ⟨a3, e3, _⟩ := DataW.trod_int h3 (by simpa [o3, k3] using g3)
    simp at e0 e1 e2 e3
    subst e0 e1 e2 e3
    exact ⟨(a0, a1, a2, a3), rfl⟩
/-- A slice of flat elements, opened as one value. -/
theorem dec_s {α : Type} [Inhabited α] {t e k : Nat} {enc : α → List Value} (ht : P.underlying t = some (.slice e)) (hk : P.cellsOf e = k) (hk0 : 0 < k) (hlen : ∀ y, (enc y).length = k)
    (dec : ∀ n cs x, cs.length = k → DataW.trod en P w base spare held n e cs = some x → ∃ y : α, enc y = cs) {n : Nat} {cs : List Value} {x : DataW H × List MemPlace} (h : DataW.trod en P w base spare held n t cs = some x) :
    ∃ y : SV α, [y.v] = cs ∧ Sl w k enc y.A y.n y.c y.xs := by
  obtain ⟨A, len, cap, xs, rfl, hs⟩ := sl_of_trod ht hk hk0 hlen dec h
  exact ⟨⟨A, len, cap, xs⟩, rfl, hs⟩
theorem dec_s1 {β : Type} {Q : SV β → Prop} {e n : Nat} {f0 : Field} {cs : List Value} {x : DataW H × List MemPlace} (hs : P.underlying e = some (.struct #[f0])) (hone : oneCellFields P #[f0] = true) (hl : cs.length = 1)
    (d : ∀ n cs x, DataW.trod en P w base spare held n f0.type cs = some x → ∃ y : SV β, [y.v] = cs ∧ Q y) (h : DataW.trod en P w base spare held n e cs = some x) : ∃ y : SV β, [y.v] = cs ∧ Q y := by
  obtain ⟨y0, m, _, _, g0⟩ := trod_struct1 hs h
  obtain ⟨o0, k0⟩ := hone_of hone 0 f0 rfl
  match cs, hl with
  | [c0], _ => exact d _ _ _ (by simpa [o0, k0] using g0)
theorem dec_si {β : Type} {Q : SV β → Prop} {e n : Nat} {f0 f1 : Field} {cs : List Value} {x : DataW H × List MemPlace} (hs : P.underlying e = some (.struct #[f0, f1])) (hone : oneCellFields P #[f0, f1] = true) (hl : cs.length = 2)
    (d : ∀ n cs x, DataW.trod en P w base spare held n f0.type cs = some x → ∃ y : SV β, [y.v] = cs ∧ Q y) (h1 : P.underlying f1.type = some (.int .i64)) (h : DataW.trod en P w base spare held n e cs = some x) :
    ∃ y : SV β × Int, [y.1.v, .int .i64 y.2] = cs ∧ Q y.1 := by
  obtain ⟨y0, y1, m, _, _, g0, g1⟩ := trod_struct2 hs h
  obtain ⟨o0, k0⟩ := hone_of hone 0 f0 rfl
  obtain ⟨o1, k1⟩ := hone_of hone 1 f1 rfl
  match cs, hl with
  | [c0, c1], _ =>
    obtain ⟨y, e0, hq⟩ := d _ [c0] _ (by simpa [o0, k0] using g0)
    obtain ⟨a1, e1, _⟩ := DataW.trod_int h1 (by simpa [o1, k1] using g1)
    simp at e0 e1
    subst e0 e1
    exact ⟨(y, a1), rfl, hq⟩
theorem dec_sib {β : Type} {Q : SV β → Prop} {e n : Nat} {f0 f1 f2 : Field} {cs : List Value} {x : DataW H × List MemPlace} (hs : P.underlying e = some (.struct #[f0, f1, f2])) (hone : oneCellFields P #[f0, f1, f2] = true) (hl : cs.length = 3)
    (d : ∀ n cs x, DataW.trod en P w base spare held n f0.type cs = some x → ∃ y : SV β, [y.v] = cs ∧ Q y) (h1 : P.underlying f1.type = some (.int .i64)) (h2 : P.underlying f2.type = some .bool) (h : DataW.trod en P w base spare held n e cs = some x) :
    ∃ y : SV β × Int × Bool, [y.1.v, .int .i64 y.2.1, .bool y.2.2] = cs ∧ Q y.1 := by
  obtain ⟨y0, y1, y2, m, _, _, g0, g1, g2⟩ := trod_struct3 hs h
  obtain ⟨o0, k0⟩ := hone_of hone 0 f0 rfl
  obtain ⟨o1, k1⟩ := hone_of hone 1 f1 rfl
  obtain ⟨o2, k2⟩ := hone_of hone 2 f2 rfl
  match cs, hl with
  | [c0, c1, c2], _ =>
    obtain ⟨y, e0, hq⟩ := d _ [c0] _ (by simpa [o0, k0] using g0)
    obtain ⟨a1, e1, _⟩ := DataW.trod_int h1 (by simpa [o1, k1] using g1)
    obtain ⟨a2, e2, _⟩ := DataW.trod_bool h2 (by simpa [o2, k2] using g2)
    simp at e0 e1 e2
    subst e0 e1 e2
    exact ⟨(y, a1, a2), rfl, hq⟩
/-- A slice of elements that hold slices, opened as one value. -/
theorem dec_sQ {α : Type} [Inhabited α] {ok : α → Prop} {t e k : Nat} {enc : α → List Value} (ht : P.underlying t = some (.slice e)) (hk : P.cellsOf e = k) (hk0 : 0 < k) (hlen : ∀ y, (enc y).length = k)
    (dec : ∀ n cs x, cs.length = k → DataW.trod en P w base spare held n e cs = some x → ∃ y : α, enc y = cs ∧ ok y) {n : Nat} {cs : List Value} {x : DataW H × List MemPlace} (h : DataW.trod en P w base spare held n t cs = some x) :
    ∃ y : SV α, [y.v] = cs ∧ (Sl w k enc y.A y.n y.c y.xs ∧ AllE ok y.xs) := by
  obtain ⟨A, len, cap, xs, rfl, hs, ho⟩ := sl_of_trodQ ht hk hk0 hlen dec h
  exact ⟨⟨A, len, cap, xs⟩, rfl, hs, ho⟩
end
instance {α : Type} : Inhabited (SV α) := ⟨⟨none, 0, 0, []⟩⟩
instance : Inhabited Win := ⟨⟨0, 0, false⟩⟩
section
variable {H : Type} {en : TypeId × Value → H} {w : World} {base : Nat} {spare : Nat → Bool} {held : Bool}
theorem dec_parts {n : Nat} {cs : List Value} {x : DataW H × List MemPlace} (h : DataW.trod en Tryz.prog w base spare held n 22 cs = some x) : ∃ y : SV PartV, [y.v] = cs ∧ okLP w y :=
  dec_sQ (α := PartV) (ok := okP w) (enc := eP) (k := 2) Tryz.underlying22 (by kernel_rfl) (by decide) (fun _ => rfl)
    (fun n cs x hl h => dec_si (β := Win) (Q := fun y => Sl w 3 Win.cells y.A y.n y.c y.xs) Tryz.underlying157 (by kernel_rfl) hl
      (fun n cs x h => dec_s (α := Win) (enc := Win.cells) (k := 3) Tryz.underlying155 (by kernel_rfl) (by decide) (fun _ => rfl)
        (fun n cs x hl h => by obtain ⟨a, b, c, rfl⟩ := dec_iib Tryz.underlying192 (by kernel_rfl) hl Tryz.underlying3 Tryz.underlying3 Tryz.underlying4 h; exact ⟨(⟨a, b, c⟩ : Win), rfl⟩) h)
      Tryz.underlying3 h) h
theorem dec_progs {n : Nat} {cs : List Value} {x : DataW H × List MemPlace} (h : DataW.trod en Tryz.prog w base spare held n 27 cs = some x) : ∃ y : SV OrdL, [y.v] = cs ∧ okLO w y :=
  dec_sQ (α := OrdL) (ok := okO w) (enc := eOL) (k := 1) Tryz.underlying27 (by kernel_rfl) (by decide) (fun _ => rfl)
    (fun n cs x hl h => dec_s (α := Int × Int × Int) (enc := eO) (k := 3) Tryz.underlying109 (by kernel_rfl) (by decide) (fun _ => rfl)
        (fun n cs x hl h => dec_iii Tryz.underlying165 (by kernel_rfl) hl Tryz.underlying3 Tryz.underlying3 Tryz.underlying3 h) h) h
theorem dec_cores {n : Nat} {cs : List Value} {x : DataW H × List MemPlace} (h : DataW.trod en Tryz.prog w base spare held n 28 cs = some x) : ∃ y : SV CoreT, [y.v] = cs ∧ okLC w y :=
  dec_sQ (α := CoreT) (ok := okC w) (enc := eCo) (k := 3) Tryz.underlying28 (by kernel_rfl) (by decide) (fun _ => rfl)
    (fun n cs x hl h => dec_sib (β := Int) (Q := fun y => Sl w 1 eI y.A y.n y.c y.xs) Tryz.underlying111 (by kernel_rfl) hl
      (fun n cs x h => dec_s (α := Int) (enc := eI) (k := 1) Tryz.underlying47 (by kernel_rfl) (by decide) (fun _ => rfl) (fun n cs x hl h => dec_int Tryz.underlying3 h) h)
      Tryz.underlying3 Tryz.underlying4 h) h
theorem dec_holds {n : Nat} {cs : List Value} {x : DataW H × List MemPlace} (h : DataW.trod en Tryz.prog w base spare held n 29 cs = some x) : ∃ y : SV HoldR, [y.v] = cs ∧ okLH w y :=
  dec_sQ (α := HoldR) (ok := okH w) (enc := eHr) (k := 1) Tryz.underlying29 (by kernel_rfl) (by decide) (fun _ => rfl)
    (fun n cs x hl h => dec_s1 (β := Int) (Q := fun y => Sl w 1 eI y.A y.n y.c y.xs) Tryz.underlying113 (by kernel_rfl) hl
      (fun n cs x h => dec_s (α := Int) (enc := eI) (k := 1) Tryz.underlying47 (by kernel_rfl) (by decide) (fun _ => rfl) (fun n cs x hl h => dec_int Tryz.underlying3 h) h) h) h
set_option maxRecDepth 100000 in
theorem dec_chans {n : Nat} {cs : List Value} {x : DataW H × List MemPlace} (h : DataW.trod en Tryz.prog w base spare held n 23 cs = some x) : ∃ y : SV ChanT, [y.v] = cs ∧ okF 4 eC w y :=
  dec_s (α := ChanT) (enc := eC) (k := 4) Tryz.underlying23 (by kernel_rfl) (by decide) (fun _ => rfl) (fun n cs x hl h => dec_iiii Tryz.underlying161 (by kernel_rfl) hl Tryz.underlying3 Tryz.underlying3 Tryz.underlying3 Tryz.underlying3 h) h
set_option maxRecDepth 100000 in
theorem dec_slots {n : Nat} {cs : List Value} {x : DataW H × List MemPlace} (h : DataW.trod en Tryz.prog w base spare held n 24 cs = some x) : ∃ y : SV (Int × Int), [y.v] = cs ∧ okF 2 eS w y :=
  dec_s (α := Int × Int) (enc := eS) (k := 2) Tryz.underlying24 (by kernel_rfl) (by decide) (fun _ => rfl) (fun n cs x hl h => dec_ii Tryz.underlying163 (by kernel_rfl) hl Tryz.underlying3 Tryz.underlying3 h) h
theorem dec_setup {n : Nat} {c0 c1 c2 : Value} {x : DataW H × List MemPlace} (h : DataW.trod en Tryz.prog w base spare held n 26 [c0, c1, c2] = some x) : ∃ s : SetR, setV s = .agg #[c0, c1, c2] ∧ okS w s := by
  obtain ⟨y0, y1, y2, m, _, _, g0, g1, g2⟩ := trod_struct3 Tryz.underlying26 h
  have k0 : Tryz.prog.cellsOf 22 = 1 := by kernel_rfl
  have k1 : Tryz.prog.cellsOf 23 = 1 := by kernel_rfl
  have k2 : Tryz.prog.cellsOf 24 = 1 := by kernel_rfl
  obtain ⟨s0, e0, h0⟩ := dec_parts (cs := [c0]) (by simpa [k0] using g0)
  obtain ⟨s1, e1, h1⟩ := dec_chans (cs := [c1]) (by simpa [k1] using g1)
  obtain ⟨s2, e2, h2⟩ := dec_slots (cs := [c2]) (by simpa [k2] using g2)
  simp only [List.cons.injEq, and_true] at e0 e1 e2
  subst e0 e1 e2
  exact ⟨(s0, s1, s2), rfl, h0, h1, h2⟩
set_option maxRecDepth 100000 in
theorem open_machine {r : Reach} {b0 : Nat} {v : Value} {d : DataW H} {p : List MemPlace} (hv : Value.okWide Tryz.prog w r b0 31 v) (h : DataW.Trod en Tryz.prog w base spare held 31 v d p) : ∃ m : MacR, v = macV m ∧ okM w m := by
  obtain ⟨cs, rfl, hsz⟩ := okWide_struct Tryz.underlying31 hv
  have k9 : Tryz.prog.cellsOf 31 = 7 := by kernel_rfl
  replace hsz := hsz.trans k9
  clear k9
  obtain ⟨l⟩ := cs
  obtain ⟨fuel, hf⟩ := h
  match l, hsz with
  | [c0, c1, c2, c3, c4, c5, c6], _ =>
    simp only [Value.cells] at hf
    obtain ⟨xs, n, _, _, _, hlen, hfi⟩ := DataW.trod_struct Tryz.underlying31 hf
    match xs, hlen with
    | [y0, y1, y2, y3, y4], _ =>
      have k0 : Tryz.prog.cellsOf 26 = 3 := by kernel_rfl
      have k1 : Tryz.prog.cellsOf 27 = 1 := by kernel_rfl
      have k2 : Tryz.prog.cellsOf 28 = 1 := by kernel_rfl
      have k3 : Tryz.prog.cellsOf 29 = 1 := by kernel_rfl
      have k4 : Tryz.prog.cellsOf 3 = 1 := by kernel_rfl
      obtain ⟨s0, e0, h0⟩ := dec_setup (c0 := c0) (c1 := c1) (c2 := c2) (by simpa [k0] using hfi 0 _ rfl)
      obtain ⟨s1, e1, h1⟩ := dec_progs (cs := [c3]) (by simpa [k1] using hfi 1 _ rfl)
      obtain ⟨s2, e2, h2⟩ := dec_cores (cs := [c4]) (by simpa [k2] using hfi 2 _ rfl)
      obtain ⟨s3, e3, h3⟩ := dec_holds (cs := [c5]) (by simpa [k3] using hfi 3 _ rfl)
      obtain ⟨a4, e4, _⟩ := DataW.trod_int (cs := [c6]) Tryz.underlying3 (by simpa [k4] using hfi 4 _ rfl)
      simp only [List.cons.injEq, and_true] at e1 e2 e3 e4
      obtain ⟨p0, p1, p2⟩ := s0
      simp only [setV, Value.agg.injEq, Array.mk.injEq, List.cons.injEq, and_true] at e0
      obtain ⟨rfl, rfl, rfl⟩ := e0
      subst e1 e2 e3 e4
      exact ⟨((p0, p1, p2), s1, s2, s3, a4), rfl, h0, h1, h2, h3⟩
end
end Go.Proofs.YtckgdlgdipfgmaaGreat
