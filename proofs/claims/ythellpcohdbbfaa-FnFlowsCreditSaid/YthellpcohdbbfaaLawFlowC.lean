/- The walk of FnFlowsCredit. -/
import Derived.Test.YthellpcohdbbfaaLawFlowD
import Derived.Test.YthellpcohdbbfaaRel
namespace Go.Proofs.Ythellpcohdbbfaa
set_option linter.unusedVariables false
set_option linter.unusedSimpArgs false
open Go.RowKit

def ftV (x : SV Chan × Int × Int) : Value := .tuple #[x.1.v, .int .i64 x.2.1, .int .i64 x.2.2]
set_option maxHeartbeats 1000000 in
theorem drawFlowsTo_any (A : Option Addr) (n c : Nat) (zs : List Int) (w : World) (h : Code w A n c zs) :
    Calls Try.prog 19 #[.slice A n c] w (Post ftV fun x w' => SV.ok w' w.heap.size 4 eC x.1 ∧ x.1.n ≤ 13 ∧ (-1 ≤ x.2.1 ∧ x.2.1 ≤ 6) ∧ Below w.heap.size w w') := by
  obtain ⟨r, hr, hrw⟩ : ∃ r, w.heap.size = r ∧ w.heap.size ≤ r := ⟨_, rfl, Nat.le_refl _⟩
  have hopen := open_at r A n c zs w h hr
  clear h hr
  go_enter Try.func19, Try.ntmps19
  go_wp2_with fail
  refine hopen.mono ?_
  rintro e w0 ⟨rfl, hrd, hb, hsz⟩
  replace hb := hb.mono hrw
  have hS := Stp.refl hrd
  have hr0 := hrd.lt
  clear hrd hopen
  have hz0 := hb.size
  go_wp2_with fail; refine (l20Net_any r 14 _ _ (by repeat (first | exact hS.rd | apply Rd.drew | apply Rd.alloc | (apply Rd.setCell; rotate_left; assumption))) (by omega) (by omega)).mono ?_; rintro e w1 ⟨x, rfl, hs1, hs2, hs3, hs4, hs⟩; replace hS := Stp.trans (by repeat (first | exact hS | apply Stp.drew | apply Stp.alloc | (apply Stp.set; assumption; assumption))) hs; clear hs
  obtain ⟨⟨A1, n1, c1, xs⟩, parts⟩ := x
  simp only [netV, SV.v] at hs1 hs2 hs4 ⊢
  obtain ⟨hp0, hp1⟩ := hs4
  have hok : ∀ W, Sl W 4 eC A1 n1 c1 xs → SV.ok W w.heap.size 4 eC ⟨A1, n1, c1, xs⟩ := fun W hW => ⟨hW, fun b o e => Nat.le_trans hz0 (hs1.fresh b o e), hs1.nil, hs1.spot⟩
  have hne : ∀ b o, A1 = some ⟨b, o, none⟩ → b ≠ r := fun b o e => by have := hs1.fresh b o e; omega
  have hsl := hs1.sl
  clear hs1 hs3
  by_cases hp : 1 < parts
  · have hmx : (if 1 < parts then parts else 1) = parts := if_pos hp
    go_wp2_with fail
    refine (pick_any _ _ _ _ hS.rd (by omega) (by omega)).mono ?_
    rintro e w2 ⟨v2, rfl, hv20, hv21, hs⟩
    replace hsl := hsl.stp hs hne
    replace hS := Stp.trans (by repeat (first | exact hS | apply Stp.drew | apply Stp.alloc)) hs; clear hs
    go_wp2_with fail
    refine (pick_any _ 14 _ _ hS.rd (by omega) (by omega)).mono ?_
    rintro e w3 ⟨v3, rfl, hv30, hv31, hs⟩
    replace hsl := hsl.stp hs hne
    replace hS := Stp.trans (by repeat (first | exact hS | apply Stp.drew | apply Stp.alloc)) hs; clear hs
    have hBel := hS.belowT (a := w) (B := w.heap.size) hb (by assumption) hb.size
    go_wp2
    go_ret3
    exact ⟨(⟨A1, n1, c1, xs⟩, parts, v2 - v3 / 13), rfl, hok _ hsl, hs2, ⟨hp0, hp1⟩, hBel⟩
  · have hmx : (if 1 < parts then parts else 1) = 1 := if_neg hp
    go_wp2_with fail
    refine (pick_any _ _ _ _ hS.rd (by omega) (by omega)).mono ?_
    rintro e w2 ⟨v2, rfl, hv20, hv21, hs⟩
    replace hsl := hsl.stp hs hne
    replace hS := Stp.trans (by repeat (first | exact hS | apply Stp.drew | apply Stp.alloc)) hs; clear hs
    go_wp2_with fail
    refine (pick_any _ 14 _ _ hS.rd (by omega) (by omega)).mono ?_
    rintro e w3 ⟨v3, rfl, hv30, hv31, hs⟩
    replace hsl := hsl.stp hs hne
    replace hS := Stp.trans (by repeat (first | exact hS | apply Stp.drew | apply Stp.alloc)) hs; clear hs
    have hBel := hS.belowT (a := w) (B := w.heap.size) hb (by assumption) hb.size
    go_wp2
    go_ret3
    exact ⟨(⟨A1, n1, c1, xs⟩, parts, v2 - v3 / 13), rfl, hok _ hsl, hs2, ⟨hp0, hp1⟩, hBel⟩
theorem chan_ok {k a b d parts : Int} (h : chansOk [(k, a, b, d)] parts = true) : (a == b) = false ∧ 0 ≤ a ∧ a < parts ∧ 0 ≤ b ∧ b < parts := by
  simp only [chansOk, chanOk, Bool.and_eq_true, List.all_eq_true, List.mem_singleton, forall_eq, inB_true, Bool.not_eq_true'] at h
  obtain ⟨h1, h2, h3, h4, h5, h6⟩ := h
  exact ⟨h6, h4.1, by omega, h5.1, by omega⟩
theorem flow_fwd {k a b d parts : Int} (h : chansOk [(k, a, b, d)] parts = true) : flowD [(k, a, b, d)] parts a b = true := by
  obtain ⟨_, h1, h2, h3, h4⟩ := chan_ok h
  rw [flowD_yes h h1 h2 h3 h4]
  simp [directB, dirP]
theorem flow_bwd {k a b d parts : Int} (h : chansOk [(k, a, b, d)] parts = true) : flowD [(k, a, b, d)] parts b a = (k == 3) := by
  obtain ⟨h0, h1, h2, h3, h4⟩ := chan_ok h
  rw [flowD_yes h h3 h4 h1 h2]
  have h0' : ¬ a = b := by simpa using h0
  have h1' : (b == a) = false := by simpa using fun e : b = a => h0' e.symm
  simp [directB, dirP, h0, h1']
def relFC (g o n c kk q : Nat) (ck fa tb parts : Int) (kb : Bool) : Nat → Value → World → Prop
  | 0, v, _ => v = .slice (some ⟨g, o, none⟩) n c
  | 1, v, _ => v = .int .i64 kk
  | 2, v, _ => v = .int .i64 kk
  | 3, v, _ => v = .int .i64 ((kk : Int) + 1)
  | 4, v, _ => v = .slice (some ⟨g, o + kk * 4, none⟩) 1 (c - kk)
  | 5, v, _ => v = .int .i64 parts
  | 6, v, _ => v = .pointer (some ⟨q, 1, none⟩)
  | 7, v, _ => v = .int .i64 fa
  | 8, v, _ => v = .pointer (some ⟨q, 2, none⟩)
  | 9, v, _ => v = .int .i64 tb
  | 10, v, _ => v = .bool true
  | 11, v, _ => v = .bool false
  | 12, v, _ => v = .bool false
  | 13, v, _ => v = .slice (some ⟨g, o, none⟩) n c
  | 14, v, _ => v = .int .i64 kk
  | 15, v, _ => v = .int .i64 kk
  | 16, v, _ => v = .int .i64 ((kk : Int) + 1)
  | 17, v, _ => v = .slice (some ⟨g, o + kk * 4, none⟩) 1 (c - kk)
  | 18, v, _ => v = .int .i64 parts
  | 19, v, _ => v = .pointer (some ⟨q, 2, none⟩)
  | 20, v, _ => v = .int .i64 tb
  | 21, v, _ => v = .pointer (some ⟨q, 1, none⟩)
  | 22, v, _ => v = .int .i64 fa
  | 23, v, _ => v = .bool kb
  | 24, v, _ => v = .pointer (some ⟨q, 0, none⟩)
  | 25, v, _ => v = .int .i64 ck
  | 26, v, _ => v = .bool kb
  | 27, v, _ => v = .bool false
  | 28, v, _ => v = .bool false
  | _, _, _ => True
theorem relFC_below (g o n c kk q : Nat) (ck fa tb parts : Int) (kb : Bool) {i : Nat} {v : Value} {w w' : World} (h : relFC g o n c kk q ck fa tb parts kb i v w) (hb : Below w.heap.size w w') : relFC g o n c kk q ck fa tb parts kb i v w' := by
  match i, h with
  | 0, h => exact h
  | 1, h => exact h
  | 2, h => exact h
  | 3, h => exact h
  | 4, h => exact h
  | 5, h => exact h
  | 6, h => exact h
  | 7, h => exact h
  | 8, h => exact h
  | 9, h => exact h
  | 10, h => exact h
  | 11, h => exact h
  | 12, h => exact h
  | 13, h => exact h
  | 14, h => exact h
  | 15, h => exact h
  | 16, h => exact h
  | 17, h => exact h
  | 18, h => exact h
  | 19, h => exact h
  | 20, h => exact h
  | 21, h => exact h
  | 22, h => exact h
  | 23, h => exact h
  | 24, h => exact h
  | 25, h => exact h
  | 26, h => exact h
  | 27, h => exact h
  | 28, h => exact h
  | n + 29, _ => trivial

set_option maxRecDepth 100000 in
set_option maxHeartbeats 2000000 in
theorem lawFlowsCredit (A : Option Addr) (n c : Nat) (zs : List Int) (w : World) (h : Code w A n c zs) :
    Calls Try.prog 4 #[.slice A n c] w fun e w' => .returned (.bool true) = e ∧ Below w.heap.size w w' := by
  have hle := h.le
  have hmax := h.max
  by_cases hn : n ≤ 1048576
  · have hdraw := drawFlowsTo_any A n c zs w h
    clear h
    go_enter Try.func4, Try.ntmps4
    go_wp2_with fail
    refine hdraw.mono ?_
    rintro e w1 ⟨⟨⟨A1, n1, c1, xs⟩, parts, f⟩, rfl, ⟨hsl, -, -, -⟩, hn1, ⟨hp0, hp1⟩, hb⟩
    clear hdraw
    simp only [ftV, SV.v] at hsl hn1 hp0 hp1 ⊢
    have hle1 := hsl.le
    have hmax1 := hsl.max
    have hI := channelsValid_any A1 n1 c1 xs parts w1 hsl
    have hV := fun W hW => specChannelsValid_any A1 n1 c1 xs parts (by omega) W (hsl.below hW)
    have HOne := Lib.hid (fun y k h1 h2 => @chansOk_one xs parts y k h1 h2)
    generalize chansOk xs parts = v at *
    go_wp2_with fail
    refine hI.mono ?_
    rintro e w2 ⟨rfl, hb2⟩
    go_wp2_with fail
    refine (hV _ hb2).mono ?_
    rintro e w3 ⟨rfl, hb3⟩
    have hB3 := thn hb2 hb3
    clear hI hb2 hb3
    go_wp2
    go_loopg [6] n1 (fun gg s6 wr => ∃ kk : Nat, kk ≤ n1 ∧ n1 - kk ≤ gg ∧ s6 = .int .i64 kk ∧ Aside (Below w1.heap.size w1 wr))
    case atStart => exact ⟨0, Nat.zero_le _, by omega, rfl, (show Aside _ from hB3)⟩
    case round =>
      clear hB3
      obtain ⟨kk, hkk, hg, rfl, BW⟩ := hrel
      by_cases hlt : kk < n1
      · have hltz : (kk : Int) < (n1 : Int) := by omega
        have hq := hV wr BW.out
        cases v
        · clear HOne hV
          go_wp2_with fail
          refine hq.mono ?_
          rintro e w4 ⟨rfl, hb4⟩
          skip
          go_wp2_with fail; refine (alive_any _).mono ?_; rintro e w9 ⟨rfl, hbw9⟩
          go_wp2
          go_ret
          exact ⟨rfl, thn hb (thn (thn BW.out hb4) hbw9)⟩
        · go_wp2_with fail
          refine hq.mono ?_
          rintro e w4 ⟨rfl, hb4⟩
          have hB4 := thn BW.out hb4
          obtain ⟨g, o', rfl, y, hyk, hc⟩ := hsl.nth hlt hB4
          have hone := HOne.out _ _ (by simp) hyk
          have hcut := (hsl.below hB4).cut hlt hyk
          obtain ⟨ck, fa, tb, d⟩ := y
          have hc0 := hc 0 _ rfl
          have hc1 := hc 1 _ rfl
          have hc2 := hc 2 _ rfl
          have hc3 := hc 3 _ rfl
          simp only [eC, Nat.add_zero] at hc0 hc1 hc2 hc3
          have hB5 := alo hB4 (.cells #[.int .i64 ck, .int .i64 fa, .int .i64 tb, .int .i64 d] 25)
          have hcut5 := hcut.below (alo (Below.refl _ _) (.cells #[.int .i64 ck, .int .i64 fa, .int .i64 tb, .int .i64 d] 25))
          have B7 := Blk.new w4 25 #[.int .i64 ck, .int .i64 fa, .int .i64 tb, .int .i64 d]
          have hFw := fun W (h : Below (w4.alloc (.cells #[.int .i64 ck, .int .i64 fa, .int .i64 tb, .int .i64 d] 25)).heap.size (w4.alloc (.cells #[.int .i64 ck, .int .i64 fa, .int .i64 tb, .int .i64 d] 25)) W) => flowDirect_any _ _ _ [(ck, fa, tb, d)] parts fa tb (by omega) W (hcut5.below h)
          have hBw := fun W (h : Below (w4.alloc (.cells #[.int .i64 ck, .int .i64 fa, .int .i64 tb, .int .i64 d] 25)).heap.size (w4.alloc (.cells #[.int .i64 ck, .int .i64 fa, .int .i64 tb, .int .i64 d] 25)) W) => flowDirect_any _ _ _ [(ck, fa, tb, d)] parts tb fa (by omega) W (hcut5.below h)
          rw [flow_fwd hone] at hFw
          rw [flow_bwd hone] at hBw
          obtain ⟨kb, hkb⟩ : ∃ kb, (ck == (3 : Int)) = kb := ⟨_, rfl⟩
          rw [hkb] at hBw
          have hck : ¬ c1 = kk := by omega
          have hwk : IntKind.i64.wrap ((kk : Int) + 1) = (kk : Int) + 1 := IntWalk.i64_in _ (by omega)
          have hk1 : (0 : Int) ≤ (kk : Int) + 1 := by omega
          have hk2 : (kk : Int) ≤ (kk : Int) + 1 := by omega
          have hk3 : (kk : Int) + 1 ≤ (c1 : Int) := by omega
          have hk4 : ((kk : Int) + 1).toNat = kk + 1 := by omega
          clear hc hyk hone hcut hcut5 hq hb4 hV HOne
          go_wp2_with fail
          generalize w4.alloc (.cells #[.int .i64 ck, .int .i64 fa, .int .i64 tb, .int .i64 d] 25) = w5 at *
          clear hc0 hc1 hc2 hc3
          refine region_rel (by kernel_rfl) (fun i v w => relFC g o' n1 c1 kk w4.heap.size ck fa tb parts kb i v w) (fun w w' => Below w.heap.size w w') (fun _ w' => Below w5.heap.size w5 w') 29 _ w5 (by kernel_rfl) (by kernel_rfl) (fun i v w w' h hb => relFC_below g o' n1 c1 kk w4.heap.size ck fa tb parts kb h hb) (fun w => Below.refl _ _) (fun _ _ _ _ h => h) (show Below w5.heap.size w5 w5.drew from (Below.refl _ _).drew) ?_ ?_
          · intro i o him ho a wa cc hcc hJ hfr hdep
            have B7 := B7.below hJ
            have cB7_0 := B7.c0; have cB7_1 := B7.c1; have cB7_2 := B7.c2; have cB7_3 := B7.c3; have fB7 := B7.frozen
            match i, ho, him with
            | 0, ho, _ =>
              injection ho with ho
              subst ho
              have h3 := hfr.2.2 3 (drawFrM_spec (by kernel_rfl))
              clear hdep hfr
              simp only [Array.getD_eq_getD_getElem?] at h3
              refine .inl ⟨rfl, ?_⟩
              unfold Oper.wp
              go_simp
              exact LeavesR.val rfl (Below.refl _ _) hJ
            | 1, ho, _ =>
              injection ho with ho
              subst ho
              have h6 := hfr.2.2 6 (drawFrM_spec (by kernel_rfl))
              clear hdep hfr
              simp only [Array.getD_eq_getD_getElem?] at h6
              refine .inl ⟨rfl, ?_⟩
              unfold Oper.wp
              go_simp
              exact LeavesR.val rfl (Below.refl _ _) hJ
            | 2, ho, _ =>
              injection ho with ho
              subst ho
              have h6 := hfr.2.2 6 (drawFrM_spec (by kernel_rfl))
              clear hdep hfr
              simp only [Array.getD_eq_getD_getElem?] at h6
              refine .inl ⟨rfl, ?_⟩
              unfold Oper.wp
              go_simp
              exact LeavesR.val rfl (Below.refl _ _) hJ
            | 3, ho, _ =>
              injection ho with ho
              subst ho
              have h41 := hdep ⟨2, .data⟩ (by simp) (by kernel_rfl) _ 41 rfl rfl
              clear hdep hfr
              replace h41 : a.tmps.getD 41 undef = .int .i64 kk := h41
              simp only [Array.getD_eq_getD_getElem?] at h41
              refine .inl ⟨rfl, ?_⟩
              unfold Oper.wp
              go_simp
              exact LeavesR.val rfl (Below.refl _ _) hJ
            | 4, ho, _ =>
              injection ho with ho
              subst ho
              have h39 := hdep ⟨0, .data⟩ (by simp) (by kernel_rfl) _ 39 rfl rfl
              have h40 := hdep ⟨1, .data⟩ (by simp) (by kernel_rfl) _ 40 rfl rfl
              have h42 := hdep ⟨3, .data⟩ (by simp) (by kernel_rfl) _ 42 rfl rfl
              clear hdep hfr
              replace h39 : a.tmps.getD 39 undef = .slice (some ⟨g, o', none⟩) n1 c1 := h39
              simp only [Array.getD_eq_getD_getElem?] at h39
              replace h40 : a.tmps.getD 40 undef = .int .i64 kk := h40
              simp only [Array.getD_eq_getD_getElem?] at h40
              replace h42 : a.tmps.getD 42 undef = .int .i64 ((kk : Int) + 1) := h42
              simp only [Array.getD_eq_getD_getElem?] at h42
              refine .inl ⟨rfl, ?_⟩
              unfold Oper.wp
              go_simp
              exact LeavesR.val rfl (Below.refl _ _) hJ
            | 5, ho, _ =>
              injection ho with ho
              subst ho
              have h4 := hfr.2.2 4 (drawFrM_spec (by kernel_rfl))
              clear hdep hfr
              simp only [Array.getD_eq_getD_getElem?] at h4
              refine .inl ⟨rfl, ?_⟩
              unfold Oper.wp
              go_simp
              exact LeavesR.val rfl (Below.refl _ _) hJ
            | 6, ho, _ =>
              injection ho with ho
              subst ho
              have h7 := hfr.2.2 7 (drawFrM_spec (by kernel_rfl))
              clear hdep hfr
              simp only [Array.getD_eq_getD_getElem?] at h7
              refine .inl ⟨rfl, ?_⟩
              unfold Oper.wp
              go_simp
              exact LeavesR.val rfl (Below.refl _ _) hJ
            | 7, ho, _ =>
              injection ho with ho
              subst ho
              have h45 := hdep ⟨6, .data⟩ (by simp) (by kernel_rfl) _ 45 rfl rfl
              clear hdep hfr
              replace h45 : a.tmps.getD 45 undef = .pointer (some ⟨w4.heap.size, 1, none⟩) := h45
              simp only [Array.getD_eq_getD_getElem?] at h45
              refine .inl ⟨rfl, ?_⟩
              unfold Oper.wp
              go_simp
              exact LeavesR.val rfl (Below.refl _ _) hJ
            | 8, ho, _ =>
              injection ho with ho
              subst ho
              have h7 := hfr.2.2 7 (drawFrM_spec (by kernel_rfl))
              clear hdep hfr
              simp only [Array.getD_eq_getD_getElem?] at h7
              refine .inl ⟨rfl, ?_⟩
              unfold Oper.wp
              go_simp
              exact LeavesR.val rfl (Below.refl _ _) hJ
            | 9, ho, _ =>
              injection ho with ho
              subst ho
              have h47 := hdep ⟨8, .data⟩ (by simp) (by kernel_rfl) _ 47 rfl rfl
              clear hdep hfr
              replace h47 : a.tmps.getD 47 undef = .pointer (some ⟨w4.heap.size, 2, none⟩) := h47
              simp only [Array.getD_eq_getD_getElem?] at h47
              refine .inl ⟨rfl, ?_⟩
              unfold Oper.wp
              go_simp
              exact LeavesR.val rfl (Below.refl _ _) hJ
            | 10, ho, _ =>
              injection ho with ho
              subst ho
              have h43 := hdep ⟨4, .data⟩ (by simp) (by kernel_rfl) _ 43 rfl rfl
              have h44 := hdep ⟨5, .data⟩ (by simp) (by kernel_rfl) _ 44 rfl rfl
              have h46 := hdep ⟨7, .data⟩ (by simp) (by kernel_rfl) _ 46 rfl rfl
              have h48 := hdep ⟨9, .data⟩ (by simp) (by kernel_rfl) _ 48 rfl rfl
              clear hdep hfr
              replace h43 : a.tmps.getD 43 undef = .slice (some ⟨g, o' + kk * 4, none⟩) 1 (c1 - kk) := h43
              simp only [Array.getD_eq_getD_getElem?] at h43
              replace h44 : a.tmps.getD 44 undef = .int .i64 parts := h44
              simp only [Array.getD_eq_getD_getElem?] at h44
              replace h46 : a.tmps.getD 46 undef = .int .i64 fa := h46
              simp only [Array.getD_eq_getD_getElem?] at h46
              replace h48 : a.tmps.getD 48 undef = .int .i64 tb := h48
              simp only [Array.getD_eq_getD_getElem?] at h48
              refine .inl ⟨rfl, ?_⟩
              unfold Oper.wp
              go_simp
              refine (hFw _ hJ).mono ?_
              rintro e wb ⟨rfl, hb'⟩
              exact LeavesR.val rfl hb' (thn hJ hb')
            | 11, ho, _ =>
              injection ho with ho
              subst ho
              have h49 := hdep ⟨10, .data⟩ (by simp) (by kernel_rfl) _ 49 rfl rfl
              clear hdep hfr
              replace h49 : a.tmps.getD 49 undef = .bool true := h49
              simp only [Array.getD_eq_getD_getElem?] at h49
              refine .inl ⟨rfl, ?_⟩
              unfold Oper.wp
              go_simp
              exact LeavesR.val rfl (Below.refl _ _) hJ
            | 12, ho, _ =>
              injection ho with ho
              subst ho
              have h50 := hdep ⟨11, .data⟩ (by simp) (by kernel_rfl) _ 50 rfl rfl
              clear hdep hfr
              replace h50 : a.tmps.getD 50 undef = .bool false := h50
              simp only [Array.getD_eq_getD_getElem?] at h50
              refine .inl ⟨rfl, ?_⟩
              unfold Oper.wp
              go_simp
              exact LeavesR.val rfl (Below.refl _ _) hJ
            | 13, ho, _ =>
              injection ho with ho
              subst ho
              have hG := hdep ⟨12, .guard⟩ (by simp) (by kernel_rfl) _ 51 rfl rfl
              have h3 := hfr.2.2 3 (drawFrM_spec (by kernel_rfl))
              clear hdep hfr
              replace hG : a.tmps.getD 51 undef = .bool false := hG
              simp only [Array.getD_eq_getD_getElem?] at h3
              refine .inl ⟨wanted_of rfl rfl rfl hG, ?_⟩
              clear hG
              unfold Oper.wp
              go_simp
              exact LeavesR.val rfl (Below.refl _ _) hJ
            | 14, ho, _ =>
              injection ho with ho
              subst ho
              have hG := hdep ⟨12, .guard⟩ (by simp) (by kernel_rfl) _ 51 rfl rfl
              have h6 := hfr.2.2 6 (drawFrM_spec (by kernel_rfl))
              clear hdep hfr
              replace hG : a.tmps.getD 51 undef = .bool false := hG
              simp only [Array.getD_eq_getD_getElem?] at h6
              refine .inl ⟨wanted_of rfl rfl rfl hG, ?_⟩
              clear hG
              unfold Oper.wp
              go_simp
              exact LeavesR.val rfl (Below.refl _ _) hJ
            | 15, ho, _ =>
              injection ho with ho
              subst ho
              have hG := hdep ⟨12, .guard⟩ (by simp) (by kernel_rfl) _ 51 rfl rfl
              have h6 := hfr.2.2 6 (drawFrM_spec (by kernel_rfl))
              clear hdep hfr
              replace hG : a.tmps.getD 51 undef = .bool false := hG
              simp only [Array.getD_eq_getD_getElem?] at h6
              refine .inl ⟨wanted_of rfl rfl rfl hG, ?_⟩
              clear hG
              unfold Oper.wp
              go_simp
              exact LeavesR.val rfl (Below.refl _ _) hJ
            | 16, ho, _ =>
              injection ho with ho
              subst ho
              have hG := hdep ⟨12, .guard⟩ (by simp) (by kernel_rfl) _ 51 rfl rfl
              have h54 := hdep ⟨15, .data⟩ (by simp) (by kernel_rfl) _ 54 rfl rfl
              clear hdep hfr
              replace hG : a.tmps.getD 51 undef = .bool false := hG
              replace h54 : a.tmps.getD 54 undef = .int .i64 kk := h54
              simp only [Array.getD_eq_getD_getElem?] at h54
              refine .inl ⟨wanted_of rfl rfl rfl hG, ?_⟩
              clear hG
              unfold Oper.wp
              go_simp
              exact LeavesR.val rfl (Below.refl _ _) hJ
            | 17, ho, _ =>
              injection ho with ho
              subst ho
              have hG := hdep ⟨12, .guard⟩ (by simp) (by kernel_rfl) _ 51 rfl rfl
              have h52 := hdep ⟨13, .data⟩ (by simp) (by kernel_rfl) _ 52 rfl rfl
              have h53 := hdep ⟨14, .data⟩ (by simp) (by kernel_rfl) _ 53 rfl rfl
              have h55 := hdep ⟨16, .data⟩ (by simp) (by kernel_rfl) _ 55 rfl rfl
              clear hdep hfr
              replace hG : a.tmps.getD 51 undef = .bool false := hG
              replace h52 : a.tmps.getD 52 undef = .slice (some ⟨g, o', none⟩) n1 c1 := h52
              simp only [Array.getD_eq_getD_getElem?] at h52
              replace h53 : a.tmps.getD 53 undef = .int .i64 kk := h53
              simp only [Array.getD_eq_getD_getElem?] at h53
              replace h55 : a.tmps.getD 55 undef = .int .i64 ((kk : Int) + 1) := h55
              simp only [Array.getD_eq_getD_getElem?] at h55
              refine .inl ⟨wanted_of rfl rfl rfl hG, ?_⟩
              clear hG
              unfold Oper.wp
              go_simp
              exact LeavesR.val rfl (Below.refl _ _) hJ
            | 18, ho, _ =>
              injection ho with ho
              subst ho
              have hG := hdep ⟨12, .guard⟩ (by simp) (by kernel_rfl) _ 51 rfl rfl
              have h4 := hfr.2.2 4 (drawFrM_spec (by kernel_rfl))
              clear hdep hfr
              replace hG : a.tmps.getD 51 undef = .bool false := hG
              simp only [Array.getD_eq_getD_getElem?] at h4
              refine .inl ⟨wanted_of rfl rfl rfl hG, ?_⟩
              clear hG
              unfold Oper.wp
              go_simp
              exact LeavesR.val rfl (Below.refl _ _) hJ
            | 19, ho, _ =>
              injection ho with ho
              subst ho
              have hG := hdep ⟨12, .guard⟩ (by simp) (by kernel_rfl) _ 51 rfl rfl
              have h7 := hfr.2.2 7 (drawFrM_spec (by kernel_rfl))
              clear hdep hfr
              replace hG : a.tmps.getD 51 undef = .bool false := hG
              simp only [Array.getD_eq_getD_getElem?] at h7
              refine .inl ⟨wanted_of rfl rfl rfl hG, ?_⟩
              clear hG
              unfold Oper.wp
              go_simp
              exact LeavesR.val rfl (Below.refl _ _) hJ
            | 20, ho, _ =>
              injection ho with ho
              subst ho
              have hG := hdep ⟨12, .guard⟩ (by simp) (by kernel_rfl) _ 51 rfl rfl
              have h58 := hdep ⟨19, .data⟩ (by simp) (by kernel_rfl) _ 58 rfl rfl
              clear hdep hfr
              replace hG : a.tmps.getD 51 undef = .bool false := hG
              replace h58 : a.tmps.getD 58 undef = .pointer (some ⟨w4.heap.size, 2, none⟩) := h58
              simp only [Array.getD_eq_getD_getElem?] at h58
              refine .inl ⟨wanted_of rfl rfl rfl hG, ?_⟩
              clear hG
              unfold Oper.wp
              go_simp
              exact LeavesR.val rfl (Below.refl _ _) hJ
            | 21, ho, _ =>
              injection ho with ho
              subst ho
              have hG := hdep ⟨12, .guard⟩ (by simp) (by kernel_rfl) _ 51 rfl rfl
              have h7 := hfr.2.2 7 (drawFrM_spec (by kernel_rfl))
              clear hdep hfr
              replace hG : a.tmps.getD 51 undef = .bool false := hG
              simp only [Array.getD_eq_getD_getElem?] at h7
              refine .inl ⟨wanted_of rfl rfl rfl hG, ?_⟩
              clear hG
              unfold Oper.wp
              go_simp
              exact LeavesR.val rfl (Below.refl _ _) hJ
            | 22, ho, _ =>
              injection ho with ho
              subst ho
              have hG := hdep ⟨12, .guard⟩ (by simp) (by kernel_rfl) _ 51 rfl rfl
              have h60 := hdep ⟨21, .data⟩ (by simp) (by kernel_rfl) _ 60 rfl rfl
              clear hdep hfr
              replace hG : a.tmps.getD 51 undef = .bool false := hG
              replace h60 : a.tmps.getD 60 undef = .pointer (some ⟨w4.heap.size, 1, none⟩) := h60
              simp only [Array.getD_eq_getD_getElem?] at h60
              refine .inl ⟨wanted_of rfl rfl rfl hG, ?_⟩
              clear hG
              unfold Oper.wp
              go_simp
              exact LeavesR.val rfl (Below.refl _ _) hJ
            | 23, ho, _ =>
              injection ho with ho
              subst ho
              have hG := hdep ⟨12, .guard⟩ (by simp) (by kernel_rfl) _ 51 rfl rfl
              have h56 := hdep ⟨17, .data⟩ (by simp) (by kernel_rfl) _ 56 rfl rfl
              have h57 := hdep ⟨18, .data⟩ (by simp) (by kernel_rfl) _ 57 rfl rfl
              have h59 := hdep ⟨20, .data⟩ (by simp) (by kernel_rfl) _ 59 rfl rfl
              have h61 := hdep ⟨22, .data⟩ (by simp) (by kernel_rfl) _ 61 rfl rfl
              clear hdep hfr
              replace hG : a.tmps.getD 51 undef = .bool false := hG
              replace h56 : a.tmps.getD 56 undef = .slice (some ⟨g, o' + kk * 4, none⟩) 1 (c1 - kk) := h56
              simp only [Array.getD_eq_getD_getElem?] at h56
              replace h57 : a.tmps.getD 57 undef = .int .i64 parts := h57
              simp only [Array.getD_eq_getD_getElem?] at h57
              replace h59 : a.tmps.getD 59 undef = .int .i64 tb := h59
              simp only [Array.getD_eq_getD_getElem?] at h59
              replace h61 : a.tmps.getD 61 undef = .int .i64 fa := h61
              simp only [Array.getD_eq_getD_getElem?] at h61
              refine .inl ⟨wanted_of rfl rfl rfl hG, ?_⟩
              clear hG
              unfold Oper.wp
              go_simp
              refine (hBw _ hJ).mono ?_
              rintro e wb ⟨rfl, hb'⟩
              exact LeavesR.val rfl hb' (thn hJ hb')
            | 24, ho, _ =>
              injection ho with ho
              subst ho
              have hG := hdep ⟨12, .guard⟩ (by simp) (by kernel_rfl) _ 51 rfl rfl
              have h7 := hfr.2.2 7 (drawFrM_spec (by kernel_rfl))
              clear hdep hfr
              replace hG : a.tmps.getD 51 undef = .bool false := hG
              simp only [Array.getD_eq_getD_getElem?] at h7
              refine .inl ⟨wanted_of rfl rfl rfl hG, ?_⟩
              clear hG
              unfold Oper.wp
              go_simp
              exact LeavesR.val rfl (Below.refl _ _) hJ
            | 25, ho, _ =>
              injection ho with ho
              subst ho
              have hG := hdep ⟨12, .guard⟩ (by simp) (by kernel_rfl) _ 51 rfl rfl
              have h63 := hdep ⟨24, .data⟩ (by simp) (by kernel_rfl) _ 63 rfl rfl
              clear hdep hfr
              replace hG : a.tmps.getD 51 undef = .bool false := hG
              replace h63 : a.tmps.getD 63 undef = .pointer (some ⟨w4.heap.size, 0, none⟩) := h63
              simp only [Array.getD_eq_getD_getElem?] at h63
              refine .inl ⟨wanted_of rfl rfl rfl hG, ?_⟩
              clear hG
              unfold Oper.wp
              go_simp
              exact LeavesR.val rfl (Below.refl _ _) hJ
            | 26, ho, _ =>
              injection ho with ho
              subst ho
              have hG := hdep ⟨12, .guard⟩ (by simp) (by kernel_rfl) _ 51 rfl rfl
              have h64 := hdep ⟨25, .data⟩ (by simp) (by kernel_rfl) _ 64 rfl rfl
              clear hdep hfr
              replace hG : a.tmps.getD 51 undef = .bool false := hG
              replace h64 : a.tmps.getD 64 undef = .int .i64 ck := h64
              simp only [Array.getD_eq_getD_getElem?] at h64
              refine .inl ⟨wanted_of rfl rfl rfl hG, ?_⟩
              clear hG
              unfold Oper.wp
              go_simp
              exact LeavesR.val rfl (Below.refl _ _) hJ
            | 27, ho, _ =>
              injection ho with ho
              subst ho
              have hG := hdep ⟨12, .guard⟩ (by simp) (by kernel_rfl) _ 51 rfl rfl
              have h62 := hdep ⟨23, .data⟩ (by simp) (by kernel_rfl) _ 62 rfl rfl
              have h65 := hdep ⟨26, .data⟩ (by simp) (by kernel_rfl) _ 65 rfl rfl
              clear hdep hfr
              replace hG : a.tmps.getD 51 undef = .bool false := hG
              replace h62 : a.tmps.getD 62 undef = .bool kb := h62
              simp only [Array.getD_eq_getD_getElem?] at h62
              replace h65 : a.tmps.getD 65 undef = .bool kb := h65
              simp only [Array.getD_eq_getD_getElem?] at h65
              refine .inl ⟨wanted_of rfl rfl rfl hG, ?_⟩
              clear hG
              unfold Oper.wp
              go_simp
              exact LeavesR.val rfl (Below.refl _ _) hJ
            | 28, ho, _ =>
              injection ho with ho
              subst ho
              have h51 := hdep ⟨12, .data⟩ (by simp) (by kernel_rfl) _ 51 rfl rfl
              have h66 := hdep ⟨27, .data⟩ (by simp) (by kernel_rfl) _ 66 rfl rfl
              clear hdep hfr
              replace h51 : a.tmps.getD 51 undef = .bool false := h51
              simp only [Array.getD_eq_getD_getElem?] at h51
              replace h66 : a.tmps.getD 66 undef = .bool false := h66
              simp only [Array.getD_eq_getD_getElem?] at h66
              refine .inl ⟨rfl, ?_⟩
              unfold Oper.wp
              go_simp
              exact LeavesR.val rfl (Below.refl _ _) hJ
            | n + 29, _, him => exact absurd him (by omega)
          · intro V w6 hV hJ
            have hV0 := hV 0 _ 39 (by decide) rfl rfl
            replace hV0 : V 0 = .slice (some ⟨g, o', none⟩) n1 c1 := hV0
            have hV1 := hV 1 _ 40 (by decide) rfl rfl
            replace hV1 : V 1 = .int .i64 kk := hV1
            have hV2 := hV 2 _ 41 (by decide) rfl rfl
            replace hV2 : V 2 = .int .i64 kk := hV2
            have hV3 := hV 3 _ 42 (by decide) rfl rfl
            replace hV3 : V 3 = .int .i64 ((kk : Int) + 1) := hV3
            have hV4 := hV 4 _ 43 (by decide) rfl rfl
            replace hV4 : V 4 = .slice (some ⟨g, o' + kk * 4, none⟩) 1 (c1 - kk) := hV4
            have hV5 := hV 5 _ 44 (by decide) rfl rfl
            replace hV5 : V 5 = .int .i64 parts := hV5
            have hV6 := hV 6 _ 45 (by decide) rfl rfl
            replace hV6 : V 6 = .pointer (some ⟨w4.heap.size, 1, none⟩) := hV6
            have hV7 := hV 7 _ 46 (by decide) rfl rfl
            replace hV7 : V 7 = .int .i64 fa := hV7
            have hV8 := hV 8 _ 47 (by decide) rfl rfl
            replace hV8 : V 8 = .pointer (some ⟨w4.heap.size, 2, none⟩) := hV8
            have hV9 := hV 9 _ 48 (by decide) rfl rfl
            replace hV9 : V 9 = .int .i64 tb := hV9
            have hV10 := hV 10 _ 49 (by decide) rfl rfl
            replace hV10 : V 10 = .bool true := hV10
            have hV11 := hV 11 _ 50 (by decide) rfl rfl
            replace hV11 : V 11 = .bool false := hV11
            have hV12 := hV 12 _ 51 (by decide) rfl rfl
            replace hV12 : V 12 = .bool false := hV12
            have hV13 := hV 13 _ 52 (by decide) rfl rfl
            replace hV13 : V 13 = .slice (some ⟨g, o', none⟩) n1 c1 := hV13
            have hV14 := hV 14 _ 53 (by decide) rfl rfl
            replace hV14 : V 14 = .int .i64 kk := hV14
            have hV15 := hV 15 _ 54 (by decide) rfl rfl
            replace hV15 : V 15 = .int .i64 kk := hV15
            have hV16 := hV 16 _ 55 (by decide) rfl rfl
            replace hV16 : V 16 = .int .i64 ((kk : Int) + 1) := hV16
            have hV17 := hV 17 _ 56 (by decide) rfl rfl
            replace hV17 : V 17 = .slice (some ⟨g, o' + kk * 4, none⟩) 1 (c1 - kk) := hV17
            have hV18 := hV 18 _ 57 (by decide) rfl rfl
            replace hV18 : V 18 = .int .i64 parts := hV18
            have hV19 := hV 19 _ 58 (by decide) rfl rfl
            replace hV19 : V 19 = .pointer (some ⟨w4.heap.size, 2, none⟩) := hV19
            have hV20 := hV 20 _ 59 (by decide) rfl rfl
            replace hV20 : V 20 = .int .i64 tb := hV20
            have hV21 := hV 21 _ 60 (by decide) rfl rfl
            replace hV21 : V 21 = .pointer (some ⟨w4.heap.size, 1, none⟩) := hV21
            have hV22 := hV 22 _ 61 (by decide) rfl rfl
            replace hV22 : V 22 = .int .i64 fa := hV22
            have hV23 := hV 23 _ 62 (by decide) rfl rfl
            replace hV23 : V 23 = .bool kb := hV23
            have hV24 := hV 24 _ 63 (by decide) rfl rfl
            replace hV24 : V 24 = .pointer (some ⟨w4.heap.size, 0, none⟩) := hV24
            have hV25 := hV 25 _ 64 (by decide) rfl rfl
            replace hV25 : V 25 = .int .i64 ck := hV25
            have hV26 := hV 26 _ 65 (by decide) rfl rfl
            replace hV26 : V 26 = .bool kb := hV26
            have hV27 := hV 27 _ 66 (by decide) rfl rfl
            replace hV27 : V 27 = .bool false := hV27
            have hV28 := hV 28 _ 67 (by decide) rfl rfl
            replace hV28 : V 28 = .bool false := hV28
            clear hV
            simp only [puts, List.drop, Act.put, List.getElem?_toArray, List.getElem?_cons_succ, List.getElem?_cons_zero, List.setIfInBounds_toArray, List.set_cons_succ, List.set_cons_zero, hV0, hV1, hV2, hV3, hV4, hV5, hV6, hV7, hV8, hV9, hV10, hV11, hV12, hV13, hV14, hV15, hV16, hV17, hV18, hV19, hV20, hV21, hV22, hV23, hV24, hV25, hV26, hV27, hV28]
            clear hV0 hV1 hV2 hV3 hV4 hV5 hV6 hV7 hV8 hV9 hV10 hV11 hV12 hV13 hV14 hV15 hV16 hV17 hV18 hV19 hV20 hV21 hV22 hV23 hV24 hV25 hV26 hV27 hV28
            replace B7 := B7.below hJ
            clear hwk hk1 hk2 hk3 hk4 hck
            go_wp2
            go_roundg (n1 - (kk + 1))
            case measure => omega
            case rel => exact ⟨kk + 1, by omega, by omega, by go_num, (show Aside _ from thn hB5 hJ)⟩
      · have hltz : ¬ (kk : Int) < (n1 : Int) := by omega
        obtain rfl : n1 = kk := by omega
        clear hV HOne
        skip
        go_wp2_with fail; refine (alive_any _).mono ?_; rintro e w9 ⟨rfl, hbw9⟩
        go_wp2
        go_ret
        exact ⟨rfl, thn hb (thn BW.out hbw9)⟩
  · clear h
    go_enter Try.func4, Try.ntmps4
    go_wp2
    go_ret
    exact ⟨rfl, Below.refl _ _⟩
end Go.Proofs.Ythellpcohdbbfaa
