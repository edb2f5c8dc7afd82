/- The walk of FnExactLinkTake. -/
import Derived.Test.YtenbpaoelipifaaLinkTS
import Derived.Test.YtenbpaoelipifaaMarkH
import Derived.Test.YtenbpaoelipifaaExInt
import Derived.Deep.RegionWith
namespace Go.Proofs.Ytenbpaoelipifaa
set_option linter.unusedVariables false
set_option linter.unusedSimpArgs false
open Go.RowKit

theorem linkTake_len (d : Int) (xs : List (Int × Int)) (t : Int) : (linkTake d xs t).1.2.length ≤ 20 ∧ (linkTake d xs t).2.length ≤ 20 := by
  unfold linkTake
  split
  · rename_i h
    simp only [Bool.and_eq_true, linkOk, decide_eq_true_eq] at h
    have := takenL_le xs t
    simp only [List.length_drop]
    omega
  · simp
def svL (d : Int) (s : SV (Int × Int)) : Value := .agg #[.int .i64 d, s.v]
def relX10T (q n0 c0 g0 n1 : Nat) (d : Int) (A0 : Option Addr) (xs : List (Int × Int)) : Nat → Value → World → Prop
  | 0, v, _ => v = .agg #[.int .i64 d, .slice (some ⟨g0, 0, none⟩) n1 n1]
  | 1, v, _ => v = .agg #[.int .i64 d, .slice A0 n0 c0]
  | 2, v, W => ∃ s, v = .agg #[.int .i64 d, s.v] ∧ SV.ok W (q) 2 eS s ∧ s.xs = xs
  | 3, v, _ => v = .bool true
  | 4, v, _ => v = .bool false
  | _, _, _ => True
theorem relX10T_below (q n0 c0 g0 n1 : Nat) (d : Int) (A0 : Option Addr) (xs : List (Int × Int)) {i : Nat} {v : Value} {w w' : World} (h : relX10T q n0 c0 g0 n1 d A0 xs i v w) (hb : Below w.heap.size w w') : relX10T q n0 c0 g0 n1 d A0 xs i v w' := by
  match i, h with
  | 0, h => exact h
  | 1, h => exact h
  | 2, ⟨s, e, h, l⟩ => exact ⟨s, e, ⟨h.sl.below hb, h.fresh, h.nil, h.spot⟩, l⟩
  | 3, h => exact h
  | 4, h => exact h
  | n + 5, _ => trivial

set_option maxHeartbeats 4000000 in
theorem lawExactLinkTake (d : Int) (A : Option Addr) (n c : Nat) (xs : List (Int × Int)) (t : Int) (w : World) (hs : Sl w 2 eS A n c xs) :
    Calls Try.prog 12 #[.agg #[.int .i64 d, .slice A n c], .int .i64 t] w fun e w' => .returned (.bool true) = e ∧ Below w.heap.size w w' := by
  have hle := hs.le
  have hmax := hs.max
  have hz := fun W => szLink_any d A n c 1048576 (by omega) (by omega) W
  have h0 := alo (Below.refl w.heap.size w) (.cells #[.int .i64 d, .slice A n c] 24)
  skip
  have B1 := Blk.new w 24 #[.int .i64 d, .slice A n c]
  by_cases hn : n ≤ 1048576
  · rw [szOfPacket_pos hn] at hz
    have hT := fun W hW => toLink_any d A n c xs hn W (hs.below hW)
    have hone := fun W g (B : Blk W g 75 (xs.flatMap eS).toArray) => show Sl W 2 eS (some ⟨g, 0, none⟩) n n xs by have := Sl.of_blk B encS (by rw [hs.len]; omega); rw [hs.len] at this; exact this
    have hlen := Lib.hid hs.len
    simp only [linkV] at hz hT
    skip
    go_enter Try.func12, Try.ntmps12
    go_wp2_with fail; refine (hz _).mono ?_; rintro e w0 ⟨rfl, hbw0⟩; replace B1 := Blk.belowOf B1 hbw0 (by repeat (first | exact B1 | apply Blk.alloc | apply Blk.drew | (apply Blk.far; rotate_left; (first | assumption | exact Ne.symm (by assumption))) | apply Blk.set_))
    replace h0 := thn h0 hbw0
    clear hbw0
    have cB1_0 := B1.c0; have cB1_1 := B1.c1; have fB1 := B1.frozen
    go_wp2_with fail
    refine (hT _ h0).mono ?_
    rintro e w1 ⟨g1, rfl, Bg1, lg1, hbw1⟩
    have hw1 := thn h0 hbw1
    simp only [linkV]
    replace B1 := B1.below hbw1
    have hsp := specLinkTake_any d (some ⟨g1, 0, none⟩) n n xs t (by omega) (fun e => by cases e) w1 (hone w1 g1 Bg1)
    simp only [linkV] at hsp
    clear h0 Bg1 lg1 hbw1
    go_wp2_with fail
    refine hsp.mono ?_
    rintro e w2 ⟨⟨⟨⟨dS, xsS⟩, tS⟩, vS, vT⟩, rfl, ownS, ownT, heS, hbw2⟩
    simp only [lstV] at ownS ownT heS ⊢
    obtain ⟨AS, cS, rfl, hAS, slS, frS⟩ := ownS.sl encS
    obtain ⟨AT, cT, rfl, hAT, slT, frT⟩ := ownT.sl encI
    have ltT : ∀ b o, AT = some ⟨b, o, none⟩ → b < w2.heap.size := fun b o e => (frT b o e).2
    have ltS : ∀ b o, AS = some ⟨b, o, none⟩ → b < w2.heap.size := fun b o e => (frS b o e).2
    have h0W : w.heap.size ≤ w2.heap.size := (thn hw1 hbw2).size
    have h2 := alo (thn hw1 hbw2) (.cells #[.int .i64 dS, .slice AS xsS.length cS] 29)
    have B8 := Blk.new w2 29 #[.int .i64 dS, .slice AS xsS.length cS]
    replace B1 := (B1.below hbw2).alloc (.cells #[.int .i64 dS, .slice AS xsS.length cS] 29)
    replace slS := slS.below (alo (Below.refl _ _) (.cells #[.int .i64 dS, .slice AS xsS.length cS] 29))
    replace slT := slT.below (alo (Below.refl _ _) (.cells #[.int .i64 dS, .slice AS xsS.length cS] 29))
    clear hsp hw1 hbw2 ownS hAS frS ownT hAT frT
    skip
    have cB1_0 := B1.c0; have cB1_1 := B1.c1; have fB1 := B1.frozen; have cB8_0 := B8.c0; have cB8_1 := B8.c1; have fB8 := B8.frozen
    go_wp2_with fail
    refine (hT _ h2).mono ?_
    rintro e w3 ⟨g2, rfl, Bg2, lg2, hbw3⟩
    have hw3 := thn h2 hbw3
    simp only [linkV]
    replace B1 := B1.below hbw3
    replace B8 := B8.below hbw3
    replace slS := slS.below hbw3
    replace slT := slT.below hbw3
    have lg2' : w2.heap.size < g2 := by have := lg2; simp at this; omega
    have g2lt := Bg2.lt
    have WX : WS (w3.alloc (.cells #[.int .i64 d, .slice (some ⟨g2, 0, none⟩) n n] 29)) g2 75 2 eS ⟨some ⟨g2, 0, none⟩, n, n, xs⟩ := by
      have h9 := WS.of_blk (base := g2) (Bg2.alloc (.cells #[.int .i64 d, .slice (some ⟨g2, 0, none⟩) n n] 29)) (Nat.le_refl _) encS (by rw [hlen.out]; omega)
      rw [hlen.out] at h9
      exact h9
    have hX := alo hw3 (.cells #[.int .i64 d, .slice (some ⟨g2, 0, none⟩) n n] 29)
    have BX := Blk.new w3 29 #[.int .i64 d, .slice (some ⟨g2, 0, none⟩) n n]
    replace B1 := B1.alloc (.cells #[.int .i64 d, .slice (some ⟨g2, 0, none⟩) n n] 29)
    replace B8 := B8.alloc (.cells #[.int .i64 d, .slice (some ⟨g2, 0, none⟩) n n] 29)
    replace slS := slS.below (alo (Below.refl _ _) (.cells #[.int .i64 d, .slice (some ⟨g2, 0, none⟩) n n] 29))
    replace slT := slT.below (alo (Below.refl _ _) (.cells #[.int .i64 d, .slice (some ⟨g2, 0, none⟩) n n] 29))
    have hg2W : g2 < (w3.alloc (.cells #[.int .i64 d, .slice (some ⟨g2, 0, none⟩) n n] 29)).heap.size := by simp; omega
    have h2W : w2.heap.size < g2 := lg2'
    clear h2 hbw3 hw3 Bg2 lg2 lg2'
    skip
    have cB1_0 := B1.c0; have cB1_1 := B1.c1; have fB1 := B1.frozen; have cB8_0 := B8.c0; have cB8_1 := B8.c1; have fB8 := B8.frozen; have cBX_0 := BX.c0; have cBX_1 := BX.c1; have fBX := BX.frozen
    go_wp2_with fail
    generalize w3.alloc (.cells #[.int .i64 d, .slice (some ⟨g2, 0, none⟩) n n] 29) = W3 at *
    have hip := linkTake_any d (some ⟨g2, 0, none⟩) n n xs t WX.ok.plain _ WX.ok.sl
    simp only [linkV] at hip
    refine hip.mono ?_
    rintro e w4 ⟨⟨dI, ⟨AI, nI, cI, lI⟩, ⟨AK, nK, cK, lK⟩⟩, rfl, wsI, wsK, heI, hbw4⟩
    simp only [ltV, SV.v] at wsI wsK heI ⊢
    rw [← heS] at heI
    injection heI with hq1 hq2
    injection hq1 with hq3 hq4
    subst hq2 hq3 hq4
    have hlI := wsI.ok.sl.len
    have hlK := wsK.ok.sl.len
    simp only [] at hlI hlK
    subst hlI hlK
    have HQ := Lib.hid heS
    clear hip heS
    clear cB1_0 cB1_1 fB1 cB8_0 cB8_1 fB8 cBX_0 cBX_1 fBX
    have h4 := alo (thn hX hbw4) (.cells #[.int .i64 dI, .slice AI lI.length cI] 29)
    have BI := Blk.new w4 29 #[.int .i64 dI, .slice AI lI.length cI]
    replace B1 := (B1.below hbw4).alloc (.cells #[.int .i64 dI, .slice AI lI.length cI] 29)
    replace B8 := (B8.below hbw4).alloc (.cells #[.int .i64 dI, .slice AI lI.length cI] 29)
    replace BX := (BX.below hbw4).alloc (.cells #[.int .i64 dI, .slice AI lI.length cI] 29)
    replace slS := (slS.below hbw4).below (alo (Below.refl _ _) (.cells #[.int .i64 dI, .slice AI lI.length cI] 29))
    replace slT := (slT.below hbw4).below (alo (Below.refl _ _) (.cells #[.int .i64 dI, .slice AI lI.length cI] 29))
    replace WX := (WX.below hbw4).below (alo (Below.refl _ _) (.cells #[.int .i64 dI, .slice AI lI.length cI] 29))
    replace wsI := wsI.below (alo (Below.refl _ _) (.cells #[.int .i64 dI, .slice AI lI.length cI] 29))
    replace wsK := wsK.below (alo (Below.refl _ _) (.cells #[.int .i64 dI, .slice AI lI.length cI] 29))
    have hE := fun W c' A' hI hS => eqLink_any dI AI A' lI.length cI c' lI W hI hS
    simp only [linkV] at hE
    skip
    have cB1_0 := B1.c0; have cB1_1 := B1.c1; have fB1 := B1.frozen; have cB8_0 := B8.c0; have cB8_1 := B8.c1; have fB8 := B8.frozen; have cBX_0 := BX.c0; have cBX_1 := BX.c1; have fBX := BX.frozen; have cBI_0 := BI.c0; have cBI_1 := BI.c1; have fBI := BI.frozen
    go_wp2_with fail; refine (hE _ _ _ wsI.ok.sl slS).mono ?_; rintro e w5 ⟨rfl, hbw5⟩; replace B1 := Blk.belowOf B1 hbw5 (by repeat (first | exact B1 | apply Blk.alloc | apply Blk.drew | (apply Blk.far; rotate_left; (first | assumption | exact Ne.symm (by assumption))) | apply Blk.set_)); replace B8 := Blk.belowOf B8 hbw5 (by repeat (first | exact B8 | apply Blk.alloc | apply Blk.drew | (apply Blk.far; rotate_left; (first | assumption | exact Ne.symm (by assumption))) | apply Blk.set_)); replace BX := Blk.belowOf BX hbw5 (by repeat (first | exact BX | apply Blk.alloc | apply Blk.drew | (apply Blk.far; rotate_left; (first | assumption | exact Ne.symm (by assumption))) | apply Blk.set_)); replace BI := Blk.belowOf BI hbw5 (by repeat (first | exact BI | apply Blk.alloc | apply Blk.drew | (apply Blk.far; rotate_left; (first | assumption | exact Ne.symm (by assumption))) | apply Blk.set_))
    replace slS := slS.below hbw5
    replace slT := slT.below hbw5
    replace WX := WX.below hbw5
    replace wsI := wsI.below hbw5
    replace wsK := wsK.below hbw5
    have h5 := thn h4 hbw5
    clear hX hbw4 h4 hbw5
    clear cB1_0 cB1_1 fB1 cB8_0 cB8_1 fB8 cBX_0 cBX_1 fBX cBI_0 cBI_1 fBI
    have cB1_0 := B1.c0; have cB1_1 := B1.c1; have fB1 := B1.frozen; have cB8_0 := B8.c0; have cB8_1 := B8.c1; have fB8 := B8.frozen; have cBX_0 := BX.c0; have cBX_1 := BX.c1; have fBX := BX.frozen; have cBI_0 := BI.c0; have cBI_1 := BI.c1; have fBI := BI.frozen
    go_wp2_with fail; refine (eqIntS_any AK AT lK.length cK cT lK _ wsK.ok.sl slT).mono ?_; rintro e w5b ⟨rfl, hbw5b⟩; replace B1 := Blk.belowOf B1 hbw5b (by repeat (first | exact B1 | apply Blk.alloc | apply Blk.drew | (apply Blk.far; rotate_left; (first | assumption | exact Ne.symm (by assumption))) | apply Blk.set_)); replace B8 := Blk.belowOf B8 hbw5b (by repeat (first | exact B8 | apply Blk.alloc | apply Blk.drew | (apply Blk.far; rotate_left; (first | assumption | exact Ne.symm (by assumption))) | apply Blk.set_)); replace BX := Blk.belowOf BX hbw5b (by repeat (first | exact BX | apply Blk.alloc | apply Blk.drew | (apply Blk.far; rotate_left; (first | assumption | exact Ne.symm (by assumption))) | apply Blk.set_)); replace BI := Blk.belowOf BI hbw5b (by repeat (first | exact BI | apply Blk.alloc | apply Blk.drew | (apply Blk.far; rotate_left; (first | assumption | exact Ne.symm (by assumption))) | apply Blk.set_))
    replace slS := slS.below hbw5b
    replace slT := slT.below hbw5b
    replace WX := WX.below hbw5b
    replace wsI := wsI.below hbw5b
    replace wsK := wsK.below hbw5b
    replace h5 := thn h5 hbw5b
    clear hbw5b
    clear cB1_0 cB1_1 fB1 cB8_0 cB8_1 fB8 cBX_0 cBX_1 fBX cBI_0 cBI_1 fBI
    have cB1_0 := B1.c0; have cB1_1 := B1.c1; have fB1 := B1.frozen; have cB8_0 := B8.c0; have cB8_1 := B8.c1; have fB8 := B8.frozen; have cBX_0 := BX.c0; have cBX_1 := BX.c1; have fBX := BX.frozen; have cBI_0 := BI.c0; have cBI_1 := BI.c1; have fBI := BI.frozen
    go_wp2_with fail
    have hTo : ∀ W, Below w5b.heap.size w5b W → Calls Try.prog 15 #[.agg #[.int .i64 d, .slice A n c]] W (Post (svL d) fun s w' => SV.ok w' W.heap.size 2 eS s ∧ s.xs = xs ∧ Below W.heap.size W w') := fun W hW => (hT W (thn h5 hW)).mono fun _ _ ⟨g, e, B, l, b⟩ => ⟨⟨some ⟨g, 0, none⟩, n, n, xs⟩, e, ⟨hone _ _ B, (fun b o e => by injection e with e; injection e with e1 _; omega), (fun e => by cases e), (fun ad e => by injection e with e; rw [← e])⟩, rfl, b⟩
    have hEo : ∀ W, Below w5b.heap.size w5b W → ∀ A' n' c' (l' : List (Int × Int)), SV.ok W w.heap.size 2 eS ⟨A', n', c', l'⟩ → Hid (l' = xs) → Calls Try.prog 17 #[.agg #[.int .i64 d, .slice (some ⟨g2, 0, none⟩) n n], .agg #[.int .i64 d, .slice A' n' c']] W fun e w' => .returned (.bool true) = e ∧ Below W.heap.size W w' := by
      intro W hW A' n' c' l' hS hl'
      have := hl'.out
      subst this
      have e1 := hS.sl.len
      simp only [] at e1
      have e2 : n' = n := e1.symm.trans hlen.out
      subst e2
      have h9 := eqLink_any d (some ⟨g2, 0, none⟩) A' n' n' c' l' W (WX.ok.sl.below hW) hS.sl
      simp only [linkV] at h9
      exact h9
    have h5s := h5.size
    refine region_rel (by kernel_rfl) (fun iz vz wz => relX10T w.heap.size n c g2 n d A xs iz vz wz) (fun wz wz' => Below wz.heap.size wz wz') (fun _ wz' => Below w5b.heap.size w5b wz') 5 _ w5b (by kernel_rfl) (by kernel_rfl) (fun iz vz wz wz' h hb => relX10T_below w.heap.size n c g2 n d A xs h hb) (fun wz => Below.refl _ _) (fun _ _ _ _ h => h) (show Below w5b.heap.size w5b w5b.drew from (Below.refl _ _).drew) ?_ ?_
    · intro i o him ho a wa cc hcc hJ hfr hdep
      have B1 := B1.below hJ
      have B8 := B8.below hJ
      have BX := BX.below hJ
      have BI := BI.below hJ
      have cB1_0 := B1.c0; have cB1_1 := B1.c1; have fB1 := B1.frozen; have cB8_0 := B8.c0; have cB8_1 := B8.c1; have fB8 := B8.frozen; have cBX_0 := BX.c0; have cBX_1 := BX.c1; have fBX := BX.frozen; have cBI_0 := BI.c0; have cBI_1 := BI.c1; have fBI := BI.frozen
      match i, ho, him with
      | 0, ho, _ =>
        injection ho with ho
        subst ho
        have h8 := hfr.2.2 8 (drawFrM_spec (by kernel_rfl))
        clear hdep hfr
        simp only [Array.getD_eq_getD_getElem?] at h8
        refine .inl ⟨rfl, ?_⟩
        unfold Oper.wp
        go_simp
        exact LeavesR.val rfl (Below.refl _ _) hJ
      | 1, ho, _ =>
        injection ho with ho
        subst ho
        have h2 := hfr.2.2 2 (drawFrM_spec (by kernel_rfl))
        clear hdep hfr
        simp only [Array.getD_eq_getD_getElem?] at h2
        refine .inl ⟨rfl, ?_⟩
        unfold Oper.wp
        go_simp
        exact LeavesR.val rfl (Below.refl _ _) hJ
      | 2, ho, _ =>
        injection ho with ho
        subst ho
        have h47 := hdep ⟨1, .data⟩ (by simp) (by kernel_rfl) _ 47 rfl rfl
        clear hdep hfr
        replace h47 : a.tmps.getD 47 undef = .agg #[.int .i64 d, .slice A n c] := h47
        simp only [Array.getD_eq_getD_getElem?] at h47
        refine .inl ⟨rfl, ?_⟩
        unfold Oper.wp
        go_simp
        refine (hTo _ hJ).mono ?_
        rintro e wb ⟨s9, rfl, hok9, hl9, hb'⟩
        exact LeavesR.val ⟨s9, rfl, hok9.mono (by have := hJ.size; omega), hl9⟩ hb' (thn hJ hb')
      | 3, ho, _ =>
        injection ho with ho
        subst ho
        have h46 := hdep ⟨0, .data⟩ (by simp) (by kernel_rfl) _ 46 rfl rfl
        have h48 := hdep ⟨2, .data⟩ (by simp) (by kernel_rfl) _ 48 rfl rfl
        clear hdep hfr
        replace h46 : a.tmps.getD 46 undef = .agg #[.int .i64 d, .slice (some ⟨g2, 0, none⟩) n n] := h46
        simp only [Array.getD_eq_getD_getElem?] at h46
        obtain ⟨⟨A48, n48, c48, l48⟩, h48, S48, L48⟩ := h48
        simp only [SV.v] at h48 S48 L48
        replace L48 := Lib.hid L48
        simp only [Array.getD_eq_getD_getElem?] at h48
        refine .inl ⟨rfl, ?_⟩
        unfold Oper.wp
        go_simp
        refine (hEo _ hJ _ _ _ _ S48 L48).mono ?_
        rintro e wb ⟨rfl, hb'⟩
        exact LeavesR.val rfl hb' (thn hJ hb')
      | 4, ho, _ =>
        injection ho with ho
        subst ho
        have h49 := hdep ⟨3, .data⟩ (by simp) (by kernel_rfl) _ 49 rfl rfl
        clear hdep hfr
        replace h49 : a.tmps.getD 49 undef = .bool true := h49
        simp only [Array.getD_eq_getD_getElem?] at h49
        refine .inl ⟨rfl, ?_⟩
        unfold Oper.wp
        go_simp
        exact LeavesR.val rfl (Below.refl _ _) hJ
      | n + 5, _, him => exact absurd him (by omega)
    · intro V w6 hV hJ
      have hV0 := hV 0 _ 46 (by decide) rfl rfl
      replace hV0 : V 0 = .agg #[.int .i64 d, .slice (some ⟨g2, 0, none⟩) n n] := hV0
      have hV1 := hV 1 _ 47 (by decide) rfl rfl
      replace hV1 : V 1 = .agg #[.int .i64 d, .slice A n c] := hV1
      obtain ⟨⟨AE48, nE48, cE48, lE48⟩, hV2, SE48, LE48⟩ := hV 2 _ 48 (by decide) rfl rfl
      simp only [SV.v] at hV2 SE48 LE48
      have hV3 := hV 3 _ 49 (by decide) rfl rfl
      replace hV3 : V 3 = .bool true := hV3
      have hV4 := hV 4 _ 50 (by decide) rfl rfl
      replace hV4 : V 4 = .bool false := hV4
      clear hV
      simp only [puts, List.drop, Act.put, List.getElem?_toArray, List.getElem?_cons_succ, List.getElem?_cons_zero, List.setIfInBounds_toArray, List.set_cons_succ, List.set_cons_zero, hV0, hV1, hV2, hV3, hV4]
      clear hV0 hV1 hV2 hV3 hV4
      replace B1 := B1.below hJ
      replace B8 := B8.below hJ
      replace BX := BX.below hJ
      replace BI := BI.below hJ
      have h6 := thn h5 hJ
      replace slS := slS.below hJ
      replace slT := slT.below hJ
      replace WX := WX.below hJ
      replace wsI := wsI.below hJ
      replace wsK := wsK.below hJ
      clear hTo hEo hJ h5
      skip
      have cB1_0 := B1.c0; have cB1_1 := B1.c1; have fB1 := B1.frozen; have cB8_0 := B8.c0; have cB8_1 := B8.c1; have fB8 := B8.frozen; have cBX_0 := BX.c0; have cBX_1 := BX.c1; have fBX := BX.frozen; have cBI_0 := BI.c0; have cBI_1 := BI.c1; have fBI := BI.frozen
      have hM := markLink_any d ⟨some ⟨g2, 0, none⟩, n, n, xs⟩ 1 g2 (by omega) (by simp only []; omega) _ WX
      simp only [SV.v] at hM
      go_wp2_with fail
      refine hM.mono ?_
      rintro e w7 ⟨rfl, hg7, -⟩
      have h7 := Below.other h6 hg7 (fun g e => by have := row_some e; omega) h6.size
      replace B1 := B1.other hg7 (WX.rowNe B1 (by decide))
      replace B8 := B8.other hg7 (WX.rowNe B8 (by decide))
      replace BX := BX.other hg7 (WX.rowNe BX (by decide))
      replace BI := BI.other hg7 (WX.rowNe BI (by decide))
      replace slS := slS.other hg7 (fun b o e e' => by have := row_some e'; have := ltS b o e; omega)
      replace slT := slT.other hg7 (fun b o e e' => by have := row_some e'; have := ltT b o e; omega)
      replace wsI := wsI.other hg7 (fun b o e e' => by have := row_some e'; have := wsI.ok.fresh b o e; omega)
      replace wsK := wsK.other hg7 (fun b o e e' => by have := row_some e'; have := wsK.ok.fresh b o e; omega)
      clear WX hg7 hM h6
      clear cB1_0 cB1_1 fB1 cB8_0 cB8_1 fB8 cBX_0 cBX_1 fBX cBI_0 cBI_1 fBI
      have cB1_0 := B1.c0; have cB1_1 := B1.c1; have fB1 := B1.frozen; have cB8_0 := B8.c0; have cB8_1 := B8.c1; have fB8 := B8.frozen; have cBX_0 := BX.c0; have cBX_1 := BX.c1; have fBX := BX.frozen; have cBI_0 := BI.c0; have cBI_1 := BI.c1; have fBI := BI.frozen
      have hk0 : ¬ (1 + 2 * (n : Int)) < 0 := by omega
      go_wp2_with fail; refine (hE _ _ _ wsI.ok.sl slS).mono ?_; rintro e w8 ⟨rfl, hbw8⟩; replace B1 := Blk.belowOf B1 hbw8 (by repeat (first | exact B1 | apply Blk.alloc | apply Blk.drew | (apply Blk.far; rotate_left; (first | assumption | exact Ne.symm (by assumption))) | apply Blk.set_)); replace B8 := Blk.belowOf B8 hbw8 (by repeat (first | exact B8 | apply Blk.alloc | apply Blk.drew | (apply Blk.far; rotate_left; (first | assumption | exact Ne.symm (by assumption))) | apply Blk.set_)); replace BX := Blk.belowOf BX hbw8 (by repeat (first | exact BX | apply Blk.alloc | apply Blk.drew | (apply Blk.far; rotate_left; (first | assumption | exact Ne.symm (by assumption))) | apply Blk.set_)); replace BI := Blk.belowOf BI hbw8 (by repeat (first | exact BI | apply Blk.alloc | apply Blk.drew | (apply Blk.far; rotate_left; (first | assumption | exact Ne.symm (by assumption))) | apply Blk.set_))
      replace slS := slS.below hbw8
      replace slT := slT.below hbw8
      replace wsI := wsI.below hbw8
      replace wsK := wsK.below hbw8
      have h8 := thn h7 hbw8
      clear hbw8 h7
      clear cB1_0 cB1_1 fB1 cB8_0 cB8_1 fB8 cBX_0 cBX_1 fBX cBI_0 cBI_1 fBI
      have cB1_0 := B1.c0; have cB1_1 := B1.c1; have fB1 := B1.frozen; have cB8_0 := B8.c0; have cB8_1 := B8.c1; have fB8 := B8.frozen; have cBX_0 := BX.c0; have cBX_1 := BX.c1; have fBX := BX.frozen; have cBI_0 := BI.c0; have cBI_1 := BI.c1; have fBI := BI.frozen
      go_wp2_with fail; refine (eqIntS_any AK AT lK.length cK cT lK _ wsK.ok.sl slT).mono ?_; rintro e w8b ⟨rfl, hbw8b⟩; replace B1 := Blk.belowOf B1 hbw8b (by repeat (first | exact B1 | apply Blk.alloc | apply Blk.drew | (apply Blk.far; rotate_left; (first | assumption | exact Ne.symm (by assumption))) | apply Blk.set_)); replace B8 := Blk.belowOf B8 hbw8b (by repeat (first | exact B8 | apply Blk.alloc | apply Blk.drew | (apply Blk.far; rotate_left; (first | assumption | exact Ne.symm (by assumption))) | apply Blk.set_)); replace BX := Blk.belowOf BX hbw8b (by repeat (first | exact BX | apply Blk.alloc | apply Blk.drew | (apply Blk.far; rotate_left; (first | assumption | exact Ne.symm (by assumption))) | apply Blk.set_)); replace BI := Blk.belowOf BI hbw8b (by repeat (first | exact BI | apply Blk.alloc | apply Blk.drew | (apply Blk.far; rotate_left; (first | assumption | exact Ne.symm (by assumption))) | apply Blk.set_))
      replace slS := slS.below hbw8b
      replace slT := slT.below hbw8b
      replace wsI := wsI.below hbw8b
      replace wsK := wsK.below hbw8b
      replace h8 := thn h8 hbw8b
      clear hbw8b
      clear cB1_0 cB1_1 fB1 cB8_0 cB8_1 fB8 cBX_0 cBX_1 fBX cBI_0 cBI_1 fBI
      have cB1_0 := B1.c0; have cB1_1 := B1.c1; have fB1 := B1.frozen; have cB8_0 := B8.c0; have cB8_1 := B8.c1; have fB8 := B8.frozen; have cBX_0 := BX.c0; have cBX_1 := BX.c1; have fBX := BX.frozen; have cBI_0 := BI.c0; have cBI_1 := BI.c1; have fBI := BI.frozen
      have hlI := linkTake_len d xs t
      rw [← HQ.out] at hlI
      simp only [] at hlI
      obtain ⟨hlI, hlK⟩ := hlI
      have hM := markLink_any dI ⟨AI, lI.length, cI, lI⟩ 1 W3.heap.size (by omega) (by simp only []; omega) _ wsI
      simp only [SV.v] at hM
      go_wp2_with fail
      refine hM.mono ?_
      rintro e w9 ⟨rfl, hg9, ws9⟩
      have h9 := Below.other h8 hg9 (fun g e => by have := (wsI.rowGe e).1; omega) h8.size
      replace B1 := B1.other hg9 (wsI.rowNe B1 (by decide))
      replace B8 := B8.other hg9 (wsI.rowNe B8 (by decide))
      replace BX := BX.other hg9 (wsI.rowNe BX (by decide))
      replace BI := BI.other hg9 (wsI.rowNe BI (by decide))
      replace slS := slS.other hg9 (fun b o e e' => by have := (wsI.rowGe e').1; have := ltS b o e; omega)
      replace slT := slT.other hg9 (fun b o e e' => by have := (wsI.rowGe e').1; have := ltT b o e; omega)
      replace wsK := wsK.other2 wsI (by decide) hg9
      clear wsI hg9 hM h8
      clear cB1_0 cB1_1 fB1 cB8_0 cB8_1 fB8 cBX_0 cBX_1 fBX cBI_0 cBI_1 fBI
      have cB1_0 := B1.c0; have cB1_1 := B1.c1; have fB1 := B1.frozen; have cB8_0 := B8.c0; have cB8_1 := B8.c1; have fB8 := B8.frozen; have cBX_0 := BX.c0; have cBX_1 := BX.c1; have fBX := BX.frozen; have cBI_0 := BI.c0; have cBI_1 := BI.c1; have fBI := BI.frozen
      have hM := markIntS_any ⟨AK, lK.length, cK, lK⟩ (1 + 2 * (lI.length : Int)) W3.heap.size (by omega) (by simp only []; omega) _ wsK
      simp only [SV.v] at hM
      go_wp2_with fail
      refine hM.mono ?_
      rintro e w9b ⟨rfl, hg9, ws9b⟩
      replace h9 := Below.other h9 hg9 (fun g e => by have := (wsK.rowGe e).1; omega) h9.size
      replace B1 := B1.other hg9 (wsK.rowNe B1 (by decide))
      replace B8 := B8.other hg9 (wsK.rowNe B8 (by decide))
      replace BX := BX.other hg9 (wsK.rowNe BX (by decide))
      replace BI := BI.other hg9 (wsK.rowNe BI (by decide))
      replace slS := slS.other hg9 (fun b o e e' => by have := (wsK.rowGe e').1; have := ltS b o e; omega)
      replace slT := slT.other hg9 (fun b o e e' => by have := (wsK.rowGe e').1; have := ltT b o e; omega)
      replace ws9 := ws9.other2 wsK (by decide) hg9
      have slM := ws9.ok.sl
      have slN := ws9b.ok.sl
      simp only [] at slM slN
      clear wsK hg9 hM ws9 ws9b
      clear cB1_0 cB1_1 fB1 cB8_0 cB8_1 fB8 cBX_0 cBX_1 fBX cBI_0 cBI_1 fBI
      have cB1_0 := B1.c0; have cB1_1 := B1.c1; have fB1 := B1.frozen; have cB8_0 := B8.c0; have cB8_1 := B8.c1; have fB8 := B8.frozen; have cBX_0 := BX.c0; have cBX_1 := BX.c1; have fBX := BX.frozen; have cBI_0 := BI.c0; have cBI_1 := BI.c1; have fBI := BI.frozen
      have hk1 : ¬ (1 + 2 * (lI.length : Int)) < 0 := by omega
      go_wp2_with fail; refine (heldLink_any dI AI lI.length cI 1 (by omega) (by omega) _ slM).mono ?_; rintro e w10 ⟨rfl, hbw10⟩; replace B1 := Blk.belowOf B1 hbw10 (by repeat (first | exact B1 | apply Blk.alloc | apply Blk.drew | (apply Blk.far; rotate_left; (first | assumption | exact Ne.symm (by assumption))) | apply Blk.set_)); replace B8 := Blk.belowOf B8 hbw10 (by repeat (first | exact B8 | apply Blk.alloc | apply Blk.drew | (apply Blk.far; rotate_left; (first | assumption | exact Ne.symm (by assumption))) | apply Blk.set_)); replace BX := Blk.belowOf BX hbw10 (by repeat (first | exact BX | apply Blk.alloc | apply Blk.drew | (apply Blk.far; rotate_left; (first | assumption | exact Ne.symm (by assumption))) | apply Blk.set_)); replace BI := Blk.belowOf BI hbw10 (by repeat (first | exact BI | apply Blk.alloc | apply Blk.drew | (apply Blk.far; rotate_left; (first | assumption | exact Ne.symm (by assumption))) | apply Blk.set_))
      replace slS := slS.below hbw10
      replace slT := slT.below hbw10
      replace slM := slM.below hbw10
      replace slN := slN.below hbw10
      have h10 := thn h9 hbw10
      clear hbw10 h9
      clear cB1_0 cB1_1 fB1 cB8_0 cB8_1 fB8 cBX_0 cBX_1 fBX cBI_0 cBI_1 fBI
      have cB1_0 := B1.c0; have cB1_1 := B1.c1; have fB1 := B1.frozen; have cB8_0 := B8.c0; have cB8_1 := B8.c1; have fB8 := B8.frozen; have cBX_0 := BX.c0; have cBX_1 := BX.c1; have fBX := BX.frozen; have cBI_0 := BI.c0; have cBI_1 := BI.c1; have fBI := BI.frozen
      have hk2 : ¬ (1 + 2 * (lI.length : Int)) + (lK.length : Int) < 0 := by omega
      go_wp2_with fail; refine (heldIntS_any AK lK.length cK (1 + 2 * (lI.length : Int)) (by omega) (by omega) _ slN).mono ?_; rintro e w10b ⟨rfl, hbw10b⟩; replace B1 := Blk.belowOf B1 hbw10b (by repeat (first | exact B1 | apply Blk.alloc | apply Blk.drew | (apply Blk.far; rotate_left; (first | assumption | exact Ne.symm (by assumption))) | apply Blk.set_)); replace B8 := Blk.belowOf B8 hbw10b (by repeat (first | exact B8 | apply Blk.alloc | apply Blk.drew | (apply Blk.far; rotate_left; (first | assumption | exact Ne.symm (by assumption))) | apply Blk.set_)); replace BX := Blk.belowOf BX hbw10b (by repeat (first | exact BX | apply Blk.alloc | apply Blk.drew | (apply Blk.far; rotate_left; (first | assumption | exact Ne.symm (by assumption))) | apply Blk.set_)); replace BI := Blk.belowOf BI hbw10b (by repeat (first | exact BI | apply Blk.alloc | apply Blk.drew | (apply Blk.far; rotate_left; (first | assumption | exact Ne.symm (by assumption))) | apply Blk.set_))
      replace slS := slS.below hbw10b
      replace slT := slT.below hbw10b
      replace slM := slM.below hbw10b
      replace slN := slN.below hbw10b
      replace h10 := thn h10 hbw10b
      clear hbw10b
      clear cB1_0 cB1_1 fB1 cB8_0 cB8_1 fB8 cBX_0 cBX_1 fBX cBI_0 cBI_1 fBI
      have cB1_0 := B1.c0; have cB1_1 := B1.c1; have fB1 := B1.frozen; have cB8_0 := B8.c0; have cB8_1 := B8.c1; have fB8 := B8.frozen; have cBX_0 := BX.c0; have cBX_1 := BX.c1; have fBX := BX.frozen; have cBI_0 := BI.c0; have cBI_1 := BI.c1; have fBI := BI.frozen
      go_wp2_with fail
      refine (hT _ h10).mono ?_
      rintro e w11 ⟨g3, rfl, Bg3, lg3, hbw11⟩
      have hw11 := thn h10 hbw11
      simp only [linkV]
      have WY : WS w11 g3 75 2 eS ⟨some ⟨g3, 0, none⟩, n, n, xs⟩ := by
        have h9 := WS.of_blk (base := g3) Bg3 (Nat.le_refl _) encS (by rw [hlen.out]; omega)
        rw [hlen.out] at h9
        exact h9
      have hip := linkTake_any d (some ⟨g3, 0, none⟩) n n xs t WY.ok.plain _ WY.ok.sl
      simp only [linkV] at hip
      replace B1 := B1.below hbw11
      replace B8 := B8.below hbw11
      replace BX := BX.below hbw11
      replace BI := BI.below hbw11
      replace slS := slS.below hbw11
      replace slT := slT.below hbw11
      replace slM := slM.below hbw11
      replace slN := slN.below hbw11
      clear Bg3 lg3 WY hbw11 h10
      go_wp2_with fail
      refine hip.mono ?_
      rintro e w12 ⟨⟨dJ, ⟨AJ, nJ, cJ, lJ⟩, ⟨AL, nL, cL, lL⟩⟩, rfl, wsJ, wsL, heJ, hbw12⟩
      simp only [ltV, SV.v] at wsJ wsL heJ ⊢
      rw [← HQ.out] at heJ
      injection heJ with hq1 hq2
      injection hq1 with hq3 hq4
      subst hq2 hq3 hq4
      have hlJ := wsJ.ok.sl.len
      have hlL := wsL.ok.sl.len
      simp only [] at hlJ hlL
      subst hlJ hlL
      have h12 := alo (thn hw11 hbw12) (.cells #[.int .i64 dJ, .slice AJ lJ.length cJ] 29)
      replace B1 := (B1.below hbw12).alloc (.cells #[.int .i64 dJ, .slice AJ lJ.length cJ] 29)
      replace B8 := (B8.below hbw12).alloc (.cells #[.int .i64 dJ, .slice AJ lJ.length cJ] 29)
      replace BI := (BI.below hbw12).alloc (.cells #[.int .i64 dJ, .slice AJ lJ.length cJ] 29)
      have BJ := Blk.new w12 29 #[.int .i64 dJ, .slice AJ lJ.length cJ]
      replace slS := (slS.below hbw12).below (alo (Below.refl _ _) (.cells #[.int .i64 dJ, .slice AJ lJ.length cJ] 29))
      replace slT := (slT.below hbw12).below (alo (Below.refl _ _) (.cells #[.int .i64 dJ, .slice AJ lJ.length cJ] 29))
      replace slM := (slM.below hbw12).below (alo (Below.refl _ _) (.cells #[.int .i64 dJ, .slice AJ lJ.length cJ] 29))
      replace slN := (slN.below hbw12).below (alo (Below.refl _ _) (.cells #[.int .i64 dJ, .slice AJ lJ.length cJ] 29))
      have wsL2 := wsL.below (alo (Below.refl _ _) (.cells #[.int .i64 dJ, .slice AJ lJ.length cJ] 29))
      have wsJ2 := wsJ.below (alo (Below.refl _ _) (.cells #[.int .i64 dJ, .slice AJ lJ.length cJ] 29))
      have hE3 := eqLink_any dJ AJ AS lJ.length cJ _ lJ _ wsJ2.ok.sl slS
      simp only [linkV] at hE3
      clear hbw12 hw11 hip wsJ wsJ2 wsL hE BX
      skip
      skip
      have cB1_0 := B1.c0; have cB1_1 := B1.c1; have fB1 := B1.frozen; have cB8_0 := B8.c0; have cB8_1 := B8.c1; have fB8 := B8.frozen; have cBI_0 := BI.c0; have cBI_1 := BI.c1; have fBI := BI.frozen; have cBJ_0 := BJ.c0; have cBJ_1 := BJ.c1; have fBJ := BJ.frozen
      go_wp2_with fail; refine (hE3).mono ?_; rintro e w13 ⟨rfl, hbw13⟩; replace B1 := Blk.belowOf B1 hbw13 (by repeat (first | exact B1 | apply Blk.alloc | apply Blk.drew | (apply Blk.far; rotate_left; (first | assumption | exact Ne.symm (by assumption))) | apply Blk.set_)); replace B8 := Blk.belowOf B8 hbw13 (by repeat (first | exact B8 | apply Blk.alloc | apply Blk.drew | (apply Blk.far; rotate_left; (first | assumption | exact Ne.symm (by assumption))) | apply Blk.set_)); replace BI := Blk.belowOf BI hbw13 (by repeat (first | exact BI | apply Blk.alloc | apply Blk.drew | (apply Blk.far; rotate_left; (first | assumption | exact Ne.symm (by assumption))) | apply Blk.set_)); replace BJ := Blk.belowOf BJ hbw13 (by repeat (first | exact BJ | apply Blk.alloc | apply Blk.drew | (apply Blk.far; rotate_left; (first | assumption | exact Ne.symm (by assumption))) | apply Blk.set_))
      replace slM := slM.below hbw13
      replace slN := slN.below hbw13
      have h13 := thn h12 hbw13
      clear cB1_0 cB1_1 fB1 cB8_0 cB8_1 fB8 cBI_0 cBI_1 fBI cBJ_0 cBJ_1 fBJ
      have cB1_0 := B1.c0; have cB1_1 := B1.c1; have fB1 := B1.frozen; have cB8_0 := B8.c0; have cB8_1 := B8.c1; have fB8 := B8.frozen; have cBI_0 := BI.c0; have cBI_1 := BI.c1; have fBI := BI.frozen; have cBJ_0 := BJ.c0; have cBJ_1 := BJ.c1; have fBJ := BJ.frozen
      go_wp2_with fail; refine (eqIntS_any AL AT lL.length cL cT lL _ (wsL2.ok.sl.below hbw13) (slT.below hbw13)).mono ?_; rintro e w13b ⟨rfl, hbw13b⟩; replace B1 := Blk.belowOf B1 hbw13b (by repeat (first | exact B1 | apply Blk.alloc | apply Blk.drew | (apply Blk.far; rotate_left; (first | assumption | exact Ne.symm (by assumption))) | apply Blk.set_)); replace B8 := Blk.belowOf B8 hbw13b (by repeat (first | exact B8 | apply Blk.alloc | apply Blk.drew | (apply Blk.far; rotate_left; (first | assumption | exact Ne.symm (by assumption))) | apply Blk.set_)); replace BI := Blk.belowOf BI hbw13b (by repeat (first | exact BI | apply Blk.alloc | apply Blk.drew | (apply Blk.far; rotate_left; (first | assumption | exact Ne.symm (by assumption))) | apply Blk.set_)); replace BJ := Blk.belowOf BJ hbw13b (by repeat (first | exact BJ | apply Blk.alloc | apply Blk.drew | (apply Blk.far; rotate_left; (first | assumption | exact Ne.symm (by assumption))) | apply Blk.set_))
      replace slM := slM.below hbw13b
      replace slN := slN.below hbw13b
      have h13b := thn h13 hbw13b
      clear cB1_0 cB1_1 fB1 cB8_0 cB8_1 fB8 cBI_0 cBI_1 fBI cBJ_0 cBJ_1 fBJ
      have cB1_0 := B1.c0; have cB1_1 := B1.c1; have fB1 := B1.frozen; have cB8_0 := B8.c0; have cB8_1 := B8.c1; have fB8 := B8.frozen; have cBI_0 := BI.c0; have cBI_1 := BI.c1; have fBI := BI.frozen; have cBJ_0 := BJ.c0; have cBJ_1 := BJ.c1; have fBJ := BJ.frozen
      go_wp2_with fail; refine (heldLink_any dJ AI lJ.length cI 1 (by omega) (by omega) _ slM).mono ?_; rintro e w14 ⟨rfl, hbw14⟩; replace B1 := Blk.belowOf B1 hbw14 (by repeat (first | exact B1 | apply Blk.alloc | apply Blk.drew | (apply Blk.far; rotate_left; (first | assumption | exact Ne.symm (by assumption))) | apply Blk.set_)); replace B8 := Blk.belowOf B8 hbw14 (by repeat (first | exact B8 | apply Blk.alloc | apply Blk.drew | (apply Blk.far; rotate_left; (first | assumption | exact Ne.symm (by assumption))) | apply Blk.set_)); replace BI := Blk.belowOf BI hbw14 (by repeat (first | exact BI | apply Blk.alloc | apply Blk.drew | (apply Blk.far; rotate_left; (first | assumption | exact Ne.symm (by assumption))) | apply Blk.set_)); replace BJ := Blk.belowOf BJ hbw14 (by repeat (first | exact BJ | apply Blk.alloc | apply Blk.drew | (apply Blk.far; rotate_left; (first | assumption | exact Ne.symm (by assumption))) | apply Blk.set_))
      replace slN := slN.below hbw14
      have h14 := thn h13b hbw14
      go_wp2_with fail; refine (heldIntS_any AK lL.length cK (1 + 2 * (lJ.length : Int)) (by omega) (by omega) _ slN).mono ?_; rintro e w15 ⟨rfl, hbw15⟩; replace B1 := Blk.belowOf B1 hbw15 (by repeat (first | exact B1 | apply Blk.alloc | apply Blk.drew | (apply Blk.far; rotate_left; (first | assumption | exact Ne.symm (by assumption))) | apply Blk.set_)); replace B8 := Blk.belowOf B8 hbw15 (by repeat (first | exact B8 | apply Blk.alloc | apply Blk.drew | (apply Blk.far; rotate_left; (first | assumption | exact Ne.symm (by assumption))) | apply Blk.set_)); replace BI := Blk.belowOf BI hbw15 (by repeat (first | exact BI | apply Blk.alloc | apply Blk.drew | (apply Blk.far; rotate_left; (first | assumption | exact Ne.symm (by assumption))) | apply Blk.set_)); replace BJ := Blk.belowOf BJ hbw15 (by repeat (first | exact BJ | apply Blk.alloc | apply Blk.drew | (apply Blk.far; rotate_left; (first | assumption | exact Ne.symm (by assumption))) | apply Blk.set_))
      go_wp2
      go_ret
      exact ⟨rfl, thn h14 hbw15⟩
  · rw [szOfPacket_neg hn] at hz
    simp only [linkV] at hz
    skip
    go_enter Try.func12, Try.ntmps12
    go_wp2_with fail; refine (hz _).mono ?_; rintro e w0 ⟨rfl, hbw0⟩; replace B1 := Blk.belowOf B1 hbw0 (by repeat (first | exact B1 | apply Blk.alloc | apply Blk.drew | (apply Blk.far; rotate_left; (first | assumption | exact Ne.symm (by assumption))) | apply Blk.set_))
    go_wp2
    go_ret
    exact ⟨rfl, thn h0 hbw0⟩
end Go.Proofs.Ytenbpaoelipifaa
