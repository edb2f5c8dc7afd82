/- The walk of FnExactHoldSend. -/
import Derived.Test.YtenbpaoelipifaaHoldSS
import Derived.Test.YtenbpaoelipifaaExHold
import Derived.Test.YtenbpaoelipifaaRowH
import Derived.Test.YtenbpaoelipifaaRel
import Derived.Deep.RegionWith
namespace Go.Proofs.Ytenbpaoelipifaa
set_option linter.unusedVariables false
set_option linter.unusedSimpArgs false
open Go.RowKit

theorem holdSend_len (xs : List Int) (kind size m : Int) : (holdSend xs kind size m).1.length ≤ 5 := by
  unfold holdSend
  split
  · rename_i h
    simp only [Bool.and_eq_true] at h
    have := holdOk_len h.1
    unfold sendH
    split
    · simp
    · split
      · simp only [List.length_append, List.length_singleton]; omega
      · simp only []; omega
  · simp
def svH (s : SV Int) : Value := .agg #[s.v]
def relX10S (q n0 c0 g0 n1 : Nat) (A0 : Option Addr) (xs : List Int) : Nat → Value → World → Prop
  | 0, v, _ => v = .agg #[.slice (some ⟨g0, 0, none⟩) n1 n1]
  | 1, v, _ => v = .agg #[.slice A0 n0 c0]
  | 2, v, W => ∃ s, v = .agg #[s.v] ∧ SV.ok W (q) 1 eI s ∧ s.xs = xs
  | 3, v, _ => v = .bool true
  | 4, v, _ => v = .bool false
  | _, _, _ => True
theorem relX10S_below (q n0 c0 g0 n1 : Nat) (A0 : Option Addr) (xs : List Int) {i : Nat} {v : Value} {w w' : World} (h : relX10S q n0 c0 g0 n1 A0 xs i v w) (hb : Below w.heap.size w w') : relX10S q n0 c0 g0 n1 A0 xs i v w' := by
  match i, h with
  | 0, h => exact h
  | 1, h => exact h
  | 2, ⟨s, e, h, l⟩ => exact ⟨s, e, ⟨h.sl.below hb, h.fresh, h.nil, h.spot⟩, l⟩
  | 3, h => exact h
  | 4, h => exact h
  | n + 5, _ => trivial

set_option maxHeartbeats 4000000 in
theorem lawExactHoldSend (A : Option Addr) (n c : Nat) (xs : List Int) (t v m : Int) (w : World) (hs : Sl w 1 eI A n c xs) :
    Calls Try.prog 11 #[.agg #[.slice A n c], .int .i64 t, .int .i64 v, .int .i64 m] w fun e w' => .returned (.bool true) = e ∧ Below w.heap.size w w' := by
  have hle := hs.le
  have hmax := hs.max
  have hz := fun W => szHold_any A n c 1048576 (by omega) (by omega) W
  have h0 := alo (Below.refl w.heap.size w) (.cells #[.slice A n c] 50)
  skip
  have B1 := Blk.new w 50 #[.slice A n c]
  by_cases hn : n ≤ 1048576
  · rw [szOfInt_pos hn] at hz
    have hT := fun W hW => toHold_any A n c xs hn W (hs.below hW)
    have hone := fun W g (B : Blk W g 3 (xs.flatMap eI).toArray) => show Sl W 1 eI (some ⟨g, 0, none⟩) n n xs by have := Sl.of_blk B encI (by rw [hs.len]; omega); rw [hs.len] at this; exact this
    have hlen := Lib.hid hs.len
    skip
    skip
    go_enter Try.func11, Try.ntmps11
    go_wp2_with fail; refine (hz _).mono ?_; rintro e w0 ⟨rfl, hbw0⟩; replace B1 := Blk.belowOf B1 hbw0 (by repeat (first | exact B1 | apply Blk.alloc | apply Blk.drew | (apply Blk.far; rotate_left; (first | assumption | exact Ne.symm (by assumption))) | apply Blk.set_))
    replace h0 := thn h0 hbw0
    clear hbw0
    have cB1_0 := B1.c0; have fB1 := B1.frozen
    go_wp2_with fail
    refine (hT _ h0).mono ?_
    rintro e w1 ⟨g1, rfl, Bg1, lg1, hbw1⟩
    have hw1 := thn h0 hbw1
    skip
    replace B1 := B1.below hbw1
    have hsp := specHoldSend_any (some ⟨g1, 0, none⟩) n n xs t v m (by omega) (fun e => by cases e) w1 (hone w1 g1 Bg1)
    clear h0 Bg1 lg1 hbw1
    go_wp2_with fail
    refine hsp.mono ?_
    rintro e w2 ⟨⟨⟨xsS, zS⟩, vS⟩, rfl, ownS, heS, hbw2⟩
    simp only [hoV] at ownS heS ⊢
    obtain ⟨AS, cS, rfl, hAS, slS, frS⟩ := ownS.sl encI
    have ltS : ∀ b o, AS = some ⟨b, o, none⟩ → b < w2.heap.size := fun b o e => (frS b o e).2
    have h0W : w.heap.size ≤ w2.heap.size := (thn hw1 hbw2).size
    have h2 := alo (thn hw1 hbw2) (.cells #[.slice AS xsS.length cS] 52)
    have B8 := Blk.new w2 52 #[.slice AS xsS.length cS]
    replace B1 := (B1.below hbw2).alloc (.cells #[.slice AS xsS.length cS] 52)
    replace slS := slS.below (alo (Below.refl _ _) (.cells #[.slice AS xsS.length cS] 52))
    clear hsp hw1 hbw2 ownS hAS frS
    skip
    have cB1_0 := B1.c0; have fB1 := B1.frozen; have cB8_0 := B8.c0; have fB8 := B8.frozen
    go_wp2_with fail
    refine (hT _ h2).mono ?_
    rintro e w3 ⟨g2, rfl, Bg2, lg2, hbw3⟩
    have hw3 := thn h2 hbw3
    skip
    replace B1 := B1.below hbw3
    replace B8 := B8.below hbw3
    replace slS := slS.below hbw3
    have lg2' : w2.heap.size < g2 := by have := lg2; simp at this; omega
    have g2lt := Bg2.lt
    have WX : WS (w3.alloc (.cells #[.slice (some ⟨g2, 0, none⟩) n n] 52)) g2 3 1 eI ⟨some ⟨g2, 0, none⟩, n, n, xs⟩ := by
      have h9 := WS.of_blk (base := g2) (Bg2.alloc (.cells #[.slice (some ⟨g2, 0, none⟩) n n] 52)) (Nat.le_refl _) encI (by rw [hlen.out]; omega)
      rw [hlen.out] at h9
      exact h9
    have hX := alo hw3 (.cells #[.slice (some ⟨g2, 0, none⟩) n n] 52)
    have BX := Blk.new w3 52 #[.slice (some ⟨g2, 0, none⟩) n n]
    replace B1 := B1.alloc (.cells #[.slice (some ⟨g2, 0, none⟩) n n] 52)
    replace B8 := B8.alloc (.cells #[.slice (some ⟨g2, 0, none⟩) n n] 52)
    replace slS := slS.below (alo (Below.refl _ _) (.cells #[.slice (some ⟨g2, 0, none⟩) n n] 52))
    have hg2W : g2 < (w3.alloc (.cells #[.slice (some ⟨g2, 0, none⟩) n n] 52)).heap.size := by simp; omega
    have h2W : w2.heap.size < g2 := lg2'
    clear h2 hbw3 hw3 Bg2 lg2 lg2'
    skip
    have cB1_0 := B1.c0; have fB1 := B1.frozen; have cB8_0 := B8.c0; have fB8 := B8.frozen; have cBX_0 := BX.c0; have fBX := BX.frozen
    go_wp2_with fail
    generalize w3.alloc (.cells #[.slice (some ⟨g2, 0, none⟩) n n] 52) = W3 at *
    have hip := holdSendW_any (some ⟨g2, 0, none⟩) n n xs t v m WX.ok.plain _ WX.ok.sl
    refine hip.mono ?_
    rintro e w4 ⟨⟨⟨AI, nI, cI, lI⟩, zI⟩, rfl, wsI, heI, hbw4⟩
    simp only [hdV, SV.v] at wsI heI ⊢
    rw [← heS] at heI
    injection heI with hq1 hq2
    subst hq1 hq2
    have hlI := wsI.ok.sl.len
    simp only [] at hlI
    subst hlI
    have HQ := Lib.hid heS
    clear hip heS
    clear cB1_0 fB1 cB8_0 fB8 cBX_0 fBX
    have h4 := alo (thn hX hbw4) (.cells #[.slice AI lI.length cI] 52)
    have BI := Blk.new w4 52 #[.slice AI lI.length cI]
    replace B1 := (B1.below hbw4).alloc (.cells #[.slice AI lI.length cI] 52)
    replace B8 := (B8.below hbw4).alloc (.cells #[.slice AI lI.length cI] 52)
    replace BX := (BX.below hbw4).alloc (.cells #[.slice AI lI.length cI] 52)
    replace slS := (slS.below hbw4).below (alo (Below.refl _ _) (.cells #[.slice AI lI.length cI] 52))
    replace WX := (WX.below hbw4).below (alo (Below.refl _ _) (.cells #[.slice AI lI.length cI] 52))
    replace wsI := wsI.below (alo (Below.refl _ _) (.cells #[.slice AI lI.length cI] 52))
    have hE := fun W c' A' hI hS => eqHold_any AI A' lI.length cI c' lI W hI hS
    skip
    have cB1_0 := B1.c0; have fB1 := B1.frozen; have cB8_0 := B8.c0; have fB8 := B8.frozen; have cBX_0 := BX.c0; have fBX := BX.frozen; have cBI_0 := BI.c0; have fBI := BI.frozen
    go_wp2_with fail; refine (hE _ _ _ wsI.ok.sl slS).mono ?_; rintro e w5 ⟨rfl, hbw5⟩; replace B1 := Blk.belowOf B1 hbw5 (by repeat (first | exact B1 | apply Blk.alloc | apply Blk.drew | (apply Blk.far; rotate_left; (first | assumption | exact Ne.symm (by assumption))) | apply Blk.set_)); replace B8 := Blk.belowOf B8 hbw5 (by repeat (first | exact B8 | apply Blk.alloc | apply Blk.drew | (apply Blk.far; rotate_left; (first | assumption | exact Ne.symm (by assumption))) | apply Blk.set_)); replace BX := Blk.belowOf BX hbw5 (by repeat (first | exact BX | apply Blk.alloc | apply Blk.drew | (apply Blk.far; rotate_left; (first | assumption | exact Ne.symm (by assumption))) | apply Blk.set_)); replace BI := Blk.belowOf BI hbw5 (by repeat (first | exact BI | apply Blk.alloc | apply Blk.drew | (apply Blk.far; rotate_left; (first | assumption | exact Ne.symm (by assumption))) | apply Blk.set_))
    replace slS := slS.below hbw5
    replace WX := WX.below hbw5
    replace wsI := wsI.below hbw5
    have h5 := thn h4 hbw5
    clear hX hbw4 h4 hbw5
    clear cB1_0 fB1 cB8_0 fB8 cBX_0 fBX cBI_0 fBI
    have cB1_0 := B1.c0; have fB1 := B1.frozen; have cB8_0 := B8.c0; have fB8 := B8.frozen; have cBX_0 := BX.c0; have fBX := BX.frozen; have cBI_0 := BI.c0; have fBI := BI.frozen
    go_wp2_with fail
    have hTo : ∀ W, Below w5.heap.size w5 W → Calls Try.prog 32 #[.agg #[.slice A n c]] W (Post svH fun s w' => SV.ok w' W.heap.size 1 eI s ∧ s.xs = xs ∧ Below W.heap.size W w') := fun W hW => (hT W (thn h5 hW)).mono fun _ _ ⟨g, e, B, l, b⟩ => ⟨⟨some ⟨g, 0, none⟩, n, n, xs⟩, e, ⟨hone _ _ B, (fun b o e => by injection e with e; injection e with e1 _; omega), (fun e => by cases e), (fun ad e => by injection e with e; rw [← e])⟩, rfl, b⟩
    have hEo : ∀ W, Below w5.heap.size w5 W → ∀ A' n' c' (l' : List Int), SV.ok W w.heap.size 1 eI ⟨A', n', c', l'⟩ → Hid (l' = xs) → Calls Try.prog 34 #[.agg #[.slice (some ⟨g2, 0, none⟩) n n], .agg #[.slice A' n' c']] W fun e w' => .returned (.bool true) = e ∧ Below W.heap.size W w' := by
      intro W hW A' n' c' l' hS hl'
      have := hl'.out
      subst this
      have e1 := hS.sl.len
      simp only [] at e1
      have e2 : n' = n := e1.symm.trans hlen.out
      subst e2
      have h9 := eqHold_any (some ⟨g2, 0, none⟩) A' n' n' c' l' W (WX.ok.sl.below hW) hS.sl
      exact h9
    have h5s := h5.size
    refine region_rel (by kernel_rfl) (fun iz vz wz => relX10S w.heap.size n c g2 n A xs iz vz wz) (fun wz wz' => Below wz.heap.size wz wz') (fun _ wz' => Below w5.heap.size w5 wz') 5 _ w5 (by kernel_rfl) (by kernel_rfl) (fun iz vz wz wz' h hb => relX10S_below w.heap.size n c g2 n A xs h hb) (fun wz => Below.refl _ _) (fun _ _ _ _ h => h) (show Below w5.heap.size w5 w5.drew from (Below.refl _ _).drew) ?_ ?_
    · intro i o him ho a wa cc hcc hJ hfr hdep
      have B1 := B1.below hJ
      have B8 := B8.below hJ
      have BX := BX.below hJ
      have BI := BI.below hJ
      have cB1_0 := B1.c0; have fB1 := B1.frozen; have cB8_0 := B8.c0; have fB8 := B8.frozen; have cBX_0 := BX.c0; have fBX := BX.frozen; have cBI_0 := BI.c0; have fBI := BI.frozen
      match i, ho, him with
      | 0, ho, _ =>
        injection ho with ho
        subst ho
        have h12 := hfr.2.2 12 (drawFrM_spec (by kernel_rfl))
        clear hdep hfr
        simp only [Array.getD_eq_getD_getElem?] at h12
        refine .inl ⟨rfl, ?_⟩
        unfold Oper.wp
        go_simp
        exact LeavesR.val rfl (Below.refl _ _) hJ
      | 1, ho, _ =>
        injection ho with ho
        subst ho
        have h4 := hfr.2.2 4 (drawFrM_spec (by kernel_rfl))
        clear hdep hfr
        simp only [Array.getD_eq_getD_getElem?] at h4
        refine .inl ⟨rfl, ?_⟩
        unfold Oper.wp
        go_simp
        exact LeavesR.val rfl (Below.refl _ _) hJ
      | 2, ho, _ =>
        injection ho with ho
        subst ho
        have h54 := hdep ⟨1, .data⟩ (by simp) (by kernel_rfl) _ 54 rfl rfl
        clear hdep hfr
        replace h54 : a.tmps.getD 54 undef = .agg #[.slice A n c] := h54
        simp only [Array.getD_eq_getD_getElem?] at h54
        refine .inl ⟨rfl, ?_⟩
        unfold Oper.wp
        go_simp
        refine (hTo _ hJ).mono ?_
        rintro e wb ⟨s9, rfl, hok9, hl9, hb'⟩
        exact LeavesR.val ⟨s9, rfl, hok9.mono (by have := hJ.size; omega), hl9⟩ hb' (thn hJ hb')
      | 3, ho, _ =>
        injection ho with ho
        subst ho
        have h53 := hdep ⟨0, .data⟩ (by simp) (by kernel_rfl) _ 53 rfl rfl
        have h55 := hdep ⟨2, .data⟩ (by simp) (by kernel_rfl) _ 55 rfl rfl
        clear hdep hfr
        replace h53 : a.tmps.getD 53 undef = .agg #[.slice (some ⟨g2, 0, none⟩) n n] := h53
        simp only [Array.getD_eq_getD_getElem?] at h53
        obtain ⟨⟨A55, n55, c55, l55⟩, h55, S55, L55⟩ := h55
        simp only [SV.v] at h55 S55 L55
        replace L55 := Lib.hid L55
        simp only [Array.getD_eq_getD_getElem?] at h55
        refine .inl ⟨rfl, ?_⟩
        unfold Oper.wp
        go_simp
        refine (hEo _ hJ _ _ _ _ S55 L55).mono ?_
        rintro e wb ⟨rfl, hb'⟩
        exact LeavesR.val rfl hb' (thn hJ hb')
      | 4, ho, _ =>
        injection ho with ho
        subst ho
        have h56 := hdep ⟨3, .data⟩ (by simp) (by kernel_rfl) _ 56 rfl rfl
        clear hdep hfr
        replace h56 : a.tmps.getD 56 undef = .bool true := h56
        simp only [Array.getD_eq_getD_getElem?] at h56
        refine .inl ⟨rfl, ?_⟩
        unfold Oper.wp
        go_simp
        exact LeavesR.val rfl (Below.refl _ _) hJ
      | n + 5, _, him => exact absurd him (by omega)
    · intro V w6 hV hJ
      have hV0 := hV 0 _ 53 (by decide) rfl rfl
      replace hV0 : V 0 = .agg #[.slice (some ⟨g2, 0, none⟩) n n] := hV0
      have hV1 := hV 1 _ 54 (by decide) rfl rfl
      replace hV1 : V 1 = .agg #[.slice A n c] := hV1
      obtain ⟨⟨AE55, nE55, cE55, lE55⟩, hV2, SE55, LE55⟩ := hV 2 _ 55 (by decide) rfl rfl
      simp only [SV.v] at hV2 SE55 LE55
      have hV3 := hV 3 _ 56 (by decide) rfl rfl
      replace hV3 : V 3 = .bool true := hV3
      have hV4 := hV 4 _ 57 (by decide) rfl rfl
      replace hV4 : V 4 = .bool false := hV4
      clear hV
      simp only [puts, List.drop, Act.put, List.getElem?_toArray, List.getElem?_cons_succ, List.getElem?_cons_zero, List.setIfInBounds_toArray, List.set_cons_succ, List.set_cons_zero, hV0, hV1, hV2, hV3, hV4]
      clear hV0 hV1 hV2 hV3 hV4
      replace B1 := B1.below hJ
      replace B8 := B8.below hJ
      replace BX := BX.below hJ
      replace BI := BI.below hJ
      have h6 := thn h5 hJ
      replace slS := slS.below hJ
      replace WX := WX.below hJ
      replace wsI := wsI.below hJ
      clear hTo hEo hJ h5
      skip
      have cB1_0 := B1.c0; have fB1 := B1.frozen; have cB8_0 := B8.c0; have fB8 := B8.frozen; have cBX_0 := BX.c0; have fBX := BX.frozen; have cBI_0 := BI.c0; have fBI := BI.frozen
      have hM := markHold_any ⟨some ⟨g2, 0, none⟩, n, n, xs⟩ 1 g2 (by omega) (by simp only []; omega) _ WX
      simp only [SV.v] at hM
      go_wp2_with fail
      refine hM.mono ?_
      rintro e w7 ⟨rfl, hg7, -⟩
      have h7 := Below.other h6 hg7 (fun g e => by have := row_some e; omega) h6.size
      replace B1 := B1.other hg7 (WX.rowNe B1 (by decide))
      replace B8 := B8.other hg7 (WX.rowNe B8 (by decide))
      replace BX := BX.other hg7 (WX.rowNe BX (by decide))
      replace BI := BI.other hg7 (WX.rowNe BI (by decide))
      replace slS := slS.other hg7 (fun b o e e' => by have := row_some e'; have := ltS b o e; omega)
      replace wsI := wsI.other hg7 (fun b o e e' => by have := row_some e'; have := wsI.ok.fresh b o e; omega)
      clear WX hg7 hM h6
      clear cB1_0 fB1 cB8_0 fB8 cBX_0 fBX cBI_0 fBI
      have cB1_0 := B1.c0; have fB1 := B1.frozen; have cB8_0 := B8.c0; have fB8 := B8.frozen; have cBX_0 := BX.c0; have fBX := BX.frozen; have cBI_0 := BI.c0; have fBI := BI.frozen
      have hk0 : ¬ (1 + (n : Int)) < 0 := by omega
      go_wp2_with fail; refine (hE _ _ _ wsI.ok.sl slS).mono ?_; rintro e w8 ⟨rfl, hbw8⟩; replace B1 := Blk.belowOf B1 hbw8 (by repeat (first | exact B1 | apply Blk.alloc | apply Blk.drew | (apply Blk.far; rotate_left; (first | assumption | exact Ne.symm (by assumption))) | apply Blk.set_)); replace B8 := Blk.belowOf B8 hbw8 (by repeat (first | exact B8 | apply Blk.alloc | apply Blk.drew | (apply Blk.far; rotate_left; (first | assumption | exact Ne.symm (by assumption))) | apply Blk.set_)); replace BX := Blk.belowOf BX hbw8 (by repeat (first | exact BX | apply Blk.alloc | apply Blk.drew | (apply Blk.far; rotate_left; (first | assumption | exact Ne.symm (by assumption))) | apply Blk.set_)); replace BI := Blk.belowOf BI hbw8 (by repeat (first | exact BI | apply Blk.alloc | apply Blk.drew | (apply Blk.far; rotate_left; (first | assumption | exact Ne.symm (by assumption))) | apply Blk.set_))
      replace slS := slS.below hbw8
      replace wsI := wsI.below hbw8
      have h8 := thn h7 hbw8
      clear hbw8 h7
      clear cB1_0 fB1 cB8_0 fB8 cBX_0 fBX cBI_0 fBI
      have cB1_0 := B1.c0; have fB1 := B1.frozen; have cB8_0 := B8.c0; have fB8 := B8.frozen; have cBX_0 := BX.c0; have fBX := BX.frozen; have cBI_0 := BI.c0; have fBI := BI.frozen
      have hlI := holdSend_len xs t v m
      rw [← HQ.out] at hlI
      simp only [] at hlI
      have hM := markHold_any ⟨AI, lI.length, cI, lI⟩ 1 W3.heap.size (by omega) (by simp only []; omega) _ wsI
      simp only [SV.v] at hM
      go_wp2_with fail
      refine hM.mono ?_
      rintro e w9 ⟨rfl, hg9, ws9⟩
      have h9 := Below.other h8 hg9 (fun g e => by have := (wsI.rowGe e).1; omega) h8.size
      replace B1 := B1.other hg9 (wsI.rowNe B1 (by decide))
      replace B8 := B8.other hg9 (wsI.rowNe B8 (by decide))
      replace BX := BX.other hg9 (wsI.rowNe BX (by decide))
      replace BI := BI.other hg9 (wsI.rowNe BI (by decide))
      replace slS := slS.other hg9 (fun b o e e' => by have := (wsI.rowGe e').1; have := ltS b o e; omega)
      have slM := ws9.ok.sl
      simp only [] at slM
      clear wsI hg9 hM h8 ws9
      clear cB1_0 fB1 cB8_0 fB8 cBX_0 fBX cBI_0 fBI
      have cB1_0 := B1.c0; have fB1 := B1.frozen; have cB8_0 := B8.c0; have fB8 := B8.frozen; have cBX_0 := BX.c0; have fBX := BX.frozen; have cBI_0 := BI.c0; have fBI := BI.frozen
      have hk1 : ¬ (1 + (lI.length : Int)) < 0 := by omega
      go_wp2_with fail; refine (heldHold_any AI lI.length cI 1 (by omega) (by omega) _ slM).mono ?_; rintro e w10 ⟨rfl, hbw10⟩; replace B1 := Blk.belowOf B1 hbw10 (by repeat (first | exact B1 | apply Blk.alloc | apply Blk.drew | (apply Blk.far; rotate_left; (first | assumption | exact Ne.symm (by assumption))) | apply Blk.set_)); replace B8 := Blk.belowOf B8 hbw10 (by repeat (first | exact B8 | apply Blk.alloc | apply Blk.drew | (apply Blk.far; rotate_left; (first | assumption | exact Ne.symm (by assumption))) | apply Blk.set_)); replace BX := Blk.belowOf BX hbw10 (by repeat (first | exact BX | apply Blk.alloc | apply Blk.drew | (apply Blk.far; rotate_left; (first | assumption | exact Ne.symm (by assumption))) | apply Blk.set_)); replace BI := Blk.belowOf BI hbw10 (by repeat (first | exact BI | apply Blk.alloc | apply Blk.drew | (apply Blk.far; rotate_left; (first | assumption | exact Ne.symm (by assumption))) | apply Blk.set_))
      replace slS := slS.below hbw10
      replace slM := slM.below hbw10
      have h10 := thn h9 hbw10
      clear hbw10 h9
      clear cB1_0 fB1 cB8_0 fB8 cBX_0 fBX cBI_0 fBI
      have cB1_0 := B1.c0; have fB1 := B1.frozen; have cB8_0 := B8.c0; have fB8 := B8.frozen; have cBX_0 := BX.c0; have fBX := BX.frozen; have cBI_0 := BI.c0; have fBI := BI.frozen
      go_wp2_with fail
      refine (hT _ h10).mono ?_
      rintro e w11 ⟨g3, rfl, Bg3, lg3, hbw11⟩
      have hw11 := thn h10 hbw11
      skip
      have WY : WS w11 g3 3 1 eI ⟨some ⟨g3, 0, none⟩, n, n, xs⟩ := by
        have h9 := WS.of_blk (base := g3) Bg3 (Nat.le_refl _) encI (by rw [hlen.out]; omega)
        rw [hlen.out] at h9
        exact h9
      have hip := holdSendW_any (some ⟨g3, 0, none⟩) n n xs t v m WY.ok.plain _ WY.ok.sl
      replace B1 := B1.below hbw11
      replace B8 := B8.below hbw11
      replace BX := BX.below hbw11
      replace BI := BI.below hbw11
      replace slS := slS.below hbw11
      replace slM := slM.below hbw11
      clear Bg3 lg3 WY hbw11 h10
      go_wp2_with fail
      refine hip.mono ?_
      rintro e w12 ⟨⟨⟨AJ, nJ, cJ, lJ⟩, zJ⟩, rfl, wsJ, heJ, hbw12⟩
      simp only [hdV, SV.v] at wsJ heJ ⊢
      rw [← HQ.out] at heJ
      injection heJ with hq1 hq2
      subst hq1 hq2
      have hlJ := wsJ.ok.sl.len
      simp only [] at hlJ
      subst hlJ
      have h12 := alo (thn hw11 hbw12) (.cells #[.slice AJ lJ.length cJ] 52)
      replace B1 := (B1.below hbw12).alloc (.cells #[.slice AJ lJ.length cJ] 52)
      replace B8 := (B8.below hbw12).alloc (.cells #[.slice AJ lJ.length cJ] 52)
      replace BI := (BI.below hbw12).alloc (.cells #[.slice AJ lJ.length cJ] 52)
      have BJ := Blk.new w12 52 #[.slice AJ lJ.length cJ]
      replace slS := (slS.below hbw12).below (alo (Below.refl _ _) (.cells #[.slice AJ lJ.length cJ] 52))
      replace slM := (slM.below hbw12).below (alo (Below.refl _ _) (.cells #[.slice AJ lJ.length cJ] 52))
      have wsJ2 := wsJ.below (alo (Below.refl _ _) (.cells #[.slice AJ lJ.length cJ] 52))
      have hE3 := eqHold_any AJ AS lJ.length cJ _ lJ _ wsJ2.ok.sl slS
      clear hbw12 hw11 hip wsJ wsJ2 hE BX
      skip
      skip
      have cB1_0 := B1.c0; have fB1 := B1.frozen; have cB8_0 := B8.c0; have fB8 := B8.frozen; have cBI_0 := BI.c0; have fBI := BI.frozen; have cBJ_0 := BJ.c0; have fBJ := BJ.frozen
      go_wp2_with fail; refine (hE3).mono ?_; rintro e w13 ⟨rfl, hbw13⟩; replace B1 := Blk.belowOf B1 hbw13 (by repeat (first | exact B1 | apply Blk.alloc | apply Blk.drew | (apply Blk.far; rotate_left; (first | assumption | exact Ne.symm (by assumption))) | apply Blk.set_)); replace B8 := Blk.belowOf B8 hbw13 (by repeat (first | exact B8 | apply Blk.alloc | apply Blk.drew | (apply Blk.far; rotate_left; (first | assumption | exact Ne.symm (by assumption))) | apply Blk.set_)); replace BI := Blk.belowOf BI hbw13 (by repeat (first | exact BI | apply Blk.alloc | apply Blk.drew | (apply Blk.far; rotate_left; (first | assumption | exact Ne.symm (by assumption))) | apply Blk.set_)); replace BJ := Blk.belowOf BJ hbw13 (by repeat (first | exact BJ | apply Blk.alloc | apply Blk.drew | (apply Blk.far; rotate_left; (first | assumption | exact Ne.symm (by assumption))) | apply Blk.set_))
      replace slM := slM.below hbw13
      have h13 := thn h12 hbw13
      clear cB1_0 fB1 cB8_0 fB8 cBI_0 fBI cBJ_0 fBJ
      have cB1_0 := B1.c0; have fB1 := B1.frozen; have cB8_0 := B8.c0; have fB8 := B8.frozen; have cBI_0 := BI.c0; have fBI := BI.frozen; have cBJ_0 := BJ.c0; have fBJ := BJ.frozen
      go_wp2_with fail; refine (heldHold_any AI lJ.length cI 1 (by omega) (by omega) _ slM).mono ?_; rintro e w14 ⟨rfl, hbw14⟩; replace B1 := Blk.belowOf B1 hbw14 (by repeat (first | exact B1 | apply Blk.alloc | apply Blk.drew | (apply Blk.far; rotate_left; (first | assumption | exact Ne.symm (by assumption))) | apply Blk.set_)); replace B8 := Blk.belowOf B8 hbw14 (by repeat (first | exact B8 | apply Blk.alloc | apply Blk.drew | (apply Blk.far; rotate_left; (first | assumption | exact Ne.symm (by assumption))) | apply Blk.set_)); replace BI := Blk.belowOf BI hbw14 (by repeat (first | exact BI | apply Blk.alloc | apply Blk.drew | (apply Blk.far; rotate_left; (first | assumption | exact Ne.symm (by assumption))) | apply Blk.set_)); replace BJ := Blk.belowOf BJ hbw14 (by repeat (first | exact BJ | apply Blk.alloc | apply Blk.drew | (apply Blk.far; rotate_left; (first | assumption | exact Ne.symm (by assumption))) | apply Blk.set_))
      go_wp2
      go_ret
      exact ⟨rfl, thn h13 hbw14⟩
  · rw [szOfInt_neg hn] at hz
    skip
    go_enter Try.func11, Try.ntmps11
    go_wp2_with fail; refine (hz _).mono ?_; rintro e w0 ⟨rfl, hbw0⟩; replace B1 := Blk.belowOf B1 hbw0 (by repeat (first | exact B1 | apply Blk.alloc | apply Blk.drew | (apply Blk.far; rotate_left; (first | assumption | exact Ne.symm (by assumption))) | apply Blk.set_))
    go_wp2
    go_ret
    exact ⟨rfl, thn h0 hbw0⟩
end Go.Proofs.Ytenbpaoelipifaa
