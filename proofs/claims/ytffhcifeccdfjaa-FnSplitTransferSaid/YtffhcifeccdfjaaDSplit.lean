/- A transfer and a size drawn. -/
import Derived.Test.YtffhcifeccdfjaaTransfer
import Derived.Test.YtffhcifeccdfjaaStore
namespace Go.Proofs.Ytffhcifeccdfjaa
set_option linter.unusedVariables false
set_option linter.unusedSimpArgs false
open Go.RowKit

def stV (x : (Int × Int × Bool) × Int) : Value := .tuple #[trCells x.1, .int .i64 x.2]
def tyST (r : Nat) (G B : Nat) (p q : Int) (z : Bool) : Nat → Ty
  | 0 => .pure (fun v => v = .agg #[.int .i64 p, .int .i64 q, .bool z])
  | 1 => .pure (fun v => v = .pointer (some ⟨r, 0, none⟩))
  | 2 => .pure (isInt 0 9)
  | 3 => .pure (isInt 1 10)
  | 4 => .lit 4 0 66
  | 5 => .lit 7 0 4
  | 6 => .pure (fun v => v = .pointer (some ⟨r, 0, none⟩))
  | 7 => .pure (isInt 0 7)
  | 8 => .elt 0 4
  | 9 => .pure (isInt 0 4)
  | 10 => .elt 0 66
  | 11 => .pure (isInt 0 66)
  | 12 => .pure fun _ => True
  | _ => .pure fun _ => True

set_option maxRecDepth 100000 in
set_option maxHeartbeats 1000000 in
theorem drawSplitTransfer_any (A : Option Addr) (n c : Nat) (zs : List Int) (w : World) (h : Code w A n c zs) :
    Calls Try.prog 11 #[.slice A n c] w (Post stV fun x w' => TrB x.1 ∧ (0 ≤ x.2 ∧ x.2 ≤ 65) ∧ Below w.heap.size w w') := by
  obtain ⟨r, hr, hrw⟩ : ∃ r, w.heap.size + 1 = r ∧ w.heap.size < r := ⟨_, rfl, Nat.lt_succ_self _⟩
  have B1 := Blk.new w 24 #[.int .i64 0, .int .i64 0, .bool false]
  have hopen := open_at r A n c zs (w.alloc (.cells #[.int .i64 0, .int .i64 0, .bool false] 24)) (h.below ((Below.refl _ _).alloc (Nat.le_refl _) _)) (by simpa using hr)
  clear h
  go_enter Try.func11, Try.ntmps11
  go_wp2_with fail
  refine hopen.mono ?_
  rintro e w0 ⟨rfl, hrd, hb, hsz⟩
  clear hopen
  replace B1 := B1.below (hb.mono (by simp; omega))
  clear hr
  replace hb := ((Below.refl _ _).alloc (Nat.le_refl _) _).trans (hb.mono (Nat.le_of_lt hrw))
  have nB1 := Nat.ne_of_lt hrw
  replace hrw := Nat.le_of_lt hrw
  have hS := Stp.refl hrd
  have hr0 := hrd.lt
  clear hrd
  have hz0 := hb.size
  go_wp2_with fail; refine (l20Transfer_any r 9 _ _ (by repeat (first | exact hS.rd | apply Rd.drew | apply Rd.alloc | (apply Rd.setCell; rotate_left; assumption))) (by omega) (by omega)).mono ?_; rintro e w1 ⟨⟨p, q, z⟩, rfl, hx, hs⟩; replace B1 := Blk.stpOf B1 hs (by repeat (first | exact B1 | apply Blk.alloc | apply Blk.drew | (apply Blk.far; rotate_left; (first | assumption | exact Ne.symm (by assumption))) | apply Blk.set_)) (by assumption); replace hS := Stp.trans (by repeat (first | exact hS | apply Stp.drew | apply Stp.alloc | (apply Stp.set; assumption; assumption))) hs; clear hs
  have B2 := Blk.new w1 24 #[.int .i64 p, .int .i64 q, .bool z]; have lB2 := hS.rd.lt; have nB2 := Nat.ne_of_gt lB2; have sB2 := hS.grown.size; have dB1B2 := Nat.ne_of_lt B1.lt
  simp only [trCells]
  have hw1 := hS.grown.size
  replace hS := hS.alloc (.cells #[.int .i64 p, .int .i64 q, .bool z] 24)
  replace B1 := B1.alloc (.cells #[.int .i64 p, .int .i64 q, .bool z] 24)
  go_wp2_with fail
  refine region_store (by kernel_rfl) (fun i v w => (tyST r w.heap.size w1.heap.size p q z i).holds r 3 v w) 12 13 #[.int .i64 p, .int .i64 q, .bool z] hS.rd B1 (noU8_3 (by intro z e; cases e) (by intro z e; cases e) (by intro z e; cases e)) rfl (by decide) (by decide) (by kernel_rfl) (by kernel_rfl) (fun i v w w' => Ty.stableR _ v w w') ?_ ?_
  · intro i o him ho a wa cc hcc hJ hfr hdep
    have hs1 := Stp.refl hJ.rd
    have hrl := hJ.rd.lt
    replace B2 := hJ.old B2 (by assumption) (by first | assumption | exact Ne.symm (by assumption))
    clear hS
    match i, ho, him with
    | 0, ho, _ =>
      injection ho with ho
      subst ho
      have h5 := hfr.2.2 5 (drawFr_spec (by kernel_rfl))
      clear hdep hfr
      simp only [Array.getD_eq_getD_getElem?] at h5
      have cL0 := B2.c0
      have cL1 := B2.c1
      have cL2 := B2.c2
      unfold Oper.wp
      go_simp
      exact leaves_stp hJ (by assumption) (by decide) rfl (hs1.le (by omega))
    | 1, ho, _ =>
      injection ho with ho
      subst ho
      have h4 := hfr.2.2 4 (drawFr_spec (by kernel_rfl))
      clear hdep hfr
      simp only [Array.getD_eq_getD_getElem?] at h4
      unfold Oper.wp
      go_simp
      exact leaves_stp hJ (by assumption) (by decide) rfl (hs1.le (by omega))
    | 2, ho, _ =>
      injection ho with ho
      subst ho
      have h11 := hdep ⟨1, .data⟩ (by simp) (by kernel_rfl) _ 11 rfl rfl
      clear hdep hfr
      replace h11 : a.tmps.getD 11 undef = .pointer (some ⟨r, 0, none⟩) := h11
      simp only [Array.getD_eq_getD_getElem?] at h11
      unfold Oper.wp
      go_simp
      refine (pick_any r (9) _ wa hs1.rd (by omega) (by omega)).mono ?_
      rintro e wb ⟨v, rfl, hv0, hv1, hs⟩
      exact leaves_stp hJ (by assumption) (by decide) ⟨v, rfl, by omega, by omega⟩ hs
    | 3, ho, _ =>
      injection ho with ho
      subst ho
      have h12 := hdep ⟨2, .data⟩ (by simp) (by kernel_rfl) _ 12 rfl rfl
      clear hdep hfr
      obtain ⟨x12, h12, hx120, hx121⟩ := h12
      simp only [Array.getD_eq_getD_getElem?] at h12
      have hwr := IntWalk.i64_in ((1) + x12) (by omega)
      unfold Oper.wp
      go_simp
      exact leaves_stp hJ (by assumption) (by decide) ⟨_, rfl, by omega, by omega⟩ (hs1.le (by omega))
    | 4, ho, _ =>
      injection ho with ho
      subst ho
      have h13 := hdep ⟨3, .data⟩ (by simp) (by kernel_rfl) _ 13 rfl rfl
      clear hdep hfr
      obtain ⟨x13, h13, hx130, hx131⟩ := h13
      simp only [Array.getD_eq_getD_getElem?] at h13
      unfold Oper.wp
      go_simp
      refine leaves_stp hJ (by assumption) (by decide) ⟨wa.heap.size, _, rfl, hrl, heap_alloc_new wa _, rfl, ?_⟩ ((hs1.alloc _).le (by omega))
      simp only [List.forall_mem_cons]
      exact ⟨⟨_, rfl, by omega, by omega⟩, ⟨_, rfl, by omega, by omega⟩, ⟨_, rfl, by omega, by omega⟩, ⟨_, rfl, by omega, by omega⟩, by simp⟩
    | 5, ho, _ =>
      injection ho with ho
      subst ho
      clear hdep hfr
      unfold Oper.wp
      go_simp
      refine leaves_stp hJ (by assumption) (by decide) ⟨wa.heap.size, _, rfl, hrl, heap_alloc_new wa _, rfl, ?_⟩ ((hs1.alloc _).le (by omega))
      simp only [List.forall_mem_cons]
      exact ⟨⟨_, rfl, by omega, by omega⟩, ⟨_, rfl, by omega, by omega⟩, ⟨_, rfl, by omega, by omega⟩, ⟨_, rfl, by omega, by omega⟩, ⟨_, rfl, by omega, by omega⟩, ⟨_, rfl, by omega, by omega⟩, ⟨_, rfl, by omega, by omega⟩, by simp⟩
    | 6, ho, _ =>
      injection ho with ho
      subst ho
      have h4 := hfr.2.2 4 (drawFr_spec (by kernel_rfl))
      clear hdep hfr
      simp only [Array.getD_eq_getD_getElem?] at h4
      unfold Oper.wp
      go_simp
      exact leaves_stp hJ (by assumption) (by decide) rfl (hs1.le (by omega))
    | 7, ho, _ =>
      injection ho with ho
      subst ho
      have h16 := hdep ⟨6, .data⟩ (by simp) (by kernel_rfl) _ 16 rfl rfl
      clear hdep hfr
      replace h16 : a.tmps.getD 16 undef = .pointer (some ⟨r, 0, none⟩) := h16
      simp only [Array.getD_eq_getD_getElem?] at h16
      unfold Oper.wp
      go_simp
      refine (pick_any r (7) _ wa hs1.rd (by omega) (by omega)).mono ?_
      rintro e wb ⟨v, rfl, hv0, hv1, hs⟩
      exact leaves_stp hJ (by assumption) (by decide) ⟨v, rfl, by omega, by omega⟩ hs
    | 8, ho, _ =>
      injection ho with ho
      subst ho
      have h15 := hdep ⟨5, .data⟩ (by simp) (by kernel_rfl) _ 15 rfl rfl
      have h17 := hdep ⟨7, .data⟩ (by simp) (by kernel_rfl) _ 17 rfl rfl
      clear hdep hfr
      obtain ⟨g, cs, h15, hg, hh, hcs, hc⟩ := h15
      simp only [Array.getD_eq_getD_getElem?] at h15
      obtain ⟨x17, h17, hx170, hx171⟩ := h17
      simp only [Array.getD_eq_getD_getElem?] at h17
      have HE := Lib.hid (Ty.at_ hg hh hcs hc (x := x17) (by omega) (by omega))
      clear hh hcs hc
      unfold Oper.wp
      go_simp
      exact leaves_stp hJ (by assumption) (by decide) HE.out (hs1.le (by omega))
    | 9, ho, _ =>
      injection ho with ho
      subst ho
      have h18 := hdep ⟨8, .data⟩ (by simp) (by kernel_rfl) _ 18 rfl rfl
      clear hdep hfr
      obtain ⟨g, i, u, h18, hg, hc, x, rfl, hx0, hx1⟩ := h18
      simp only [Array.getD_eq_getD_getElem?] at h18
      unfold Oper.wp
      go_simp
      exact leaves_stp hJ (by assumption) (by decide) ⟨x, rfl, hx0, hx1⟩ (hs1.le (by omega))
    | 10, ho, _ =>
      injection ho with ho
      subst ho
      have h14 := hdep ⟨4, .data⟩ (by simp) (by kernel_rfl) _ 14 rfl rfl
      have h19 := hdep ⟨9, .data⟩ (by simp) (by kernel_rfl) _ 19 rfl rfl
      clear hdep hfr
      obtain ⟨g, cs, h14, hg, hh, hcs, hc⟩ := h14
      simp only [Array.getD_eq_getD_getElem?] at h14
      obtain ⟨x19, h19, hx190, hx191⟩ := h19
      simp only [Array.getD_eq_getD_getElem?] at h19
      have HE := Lib.hid (Ty.at_ hg hh hcs hc (x := x19) (by omega) (by omega))
      clear hh hcs hc
      unfold Oper.wp
      go_simp
      exact leaves_stp hJ (by assumption) (by decide) HE.out (hs1.le (by omega))
    | 11, ho, _ =>
      injection ho with ho
      subst ho
      have h20 := hdep ⟨10, .data⟩ (by simp) (by kernel_rfl) _ 20 rfl rfl
      clear hdep hfr
      obtain ⟨g, i, u, h20, hg, hc, x, rfl, hx0, hx1⟩ := h20
      simp only [Array.getD_eq_getD_getElem?] at h20
      unfold Oper.wp
      go_simp
      exact leaves_stp hJ (by assumption) (by decide) ⟨x, rfl, hx0, hx1⟩ (hs1.le (by omega))
    | 12, ho, _ =>
      injection ho with ho
      subst ho
      have h2 := hfr.2.2 2 (drawFr_spec (by kernel_rfl))
      have h10 := hdep ⟨0, .data⟩ (by simp) (by kernel_rfl) _ 10 rfl rfl
      clear hdep hfr
      simp only [Array.getD_eq_getD_getElem?] at h2
      replace h10 : a.tmps.getD 10 undef = .agg #[.int .i64 p, .int .i64 q, .bool z] := h10
      simp only [Array.getD_eq_getD_getElem?] at h10
      obtain ⟨cs0, Bg, hn0, hN0⟩ := hJ.res
      obtain ⟨u0, u1, u2, rfl⟩ := three_of hn0
      have e0 := Bg.c0
      have e1 := Bg.c1
      have e2 := Bg.c2
      have ef := Bg.frozen
      unfold Oper.wp
      go_simp
      exact leaves_put (v := undef) hJ rfl (by omega) (((Bg.set_ 0 _).set_ 1 _).set_ 2 _) rfl (noU8_3 (by intro z e; cases e) (by intro z e; cases e) (by intro z e; cases e)) (by simp [World.setCell]) rfl rfl rfl (fun k hk => by rw [Below.heap_setCell _ _ _ _ hk, Below.heap_setCell _ _ _ _ hk, Below.heap_setCell _ _ _ _ hk])
    | n + 13, _, him => exact absurd him (by omega)
  · intro V w3 hV hBs hJ
    have hV0 := hV 0 _ 10 (by decide) rfl rfl
    replace hV0 : V 0 = .agg #[.int .i64 p, .int .i64 q, .bool z] := hV0
    have hV1 := hV 1 _ 11 (by decide) rfl rfl
    replace hV1 : V 1 = .pointer (some ⟨r, 0, none⟩) := hV1
    obtain ⟨x12, hV2, hx120, hx121⟩ := hV 2 _ 12 (by decide) rfl rfl
    obtain ⟨x13, hV3, hx130, hx131⟩ := hV 3 _ 13 (by decide) rfl rfl
    obtain ⟨_, _, hV4, _⟩ := hV 4 _ 14 (by decide) rfl rfl
    obtain ⟨_, _, hV5, _⟩ := hV 5 _ 15 (by decide) rfl rfl
    have hV6 := hV 6 _ 16 (by decide) rfl rfl
    replace hV6 : V 6 = .pointer (some ⟨r, 0, none⟩) := hV6
    obtain ⟨x17, hV7, hx170, hx171⟩ := hV 7 _ 17 (by decide) rfl rfl
    obtain ⟨_, _, _, hV8, _⟩ := hV 8 _ 18 (by decide) rfl rfl
    obtain ⟨x19, hV9, hx190, hx191⟩ := hV 9 _ 19 (by decide) rfl rfl
    obtain ⟨_, _, _, hV10, _⟩ := hV 10 _ 20 (by decide) rfl rfl
    obtain ⟨x21, hV11, hx210, hx211⟩ := hV 11 _ 21 (by decide) rfl rfl
    clear hV
    simp only [puts, List.drop, Act.put, hV0, hV1, hV2, hV3, hV4, hV5, hV6, hV7, hV8, hV9, hV10, hV11]
    clear hV0 hV1 hV2 hV3 hV4 hV5 hV6 hV7 hV8 hV9 hV10 hV11
    have hBel := hS.belowT (a := w) (B := w.heap.size) hb (by assumption) hb.size
    have hBel2 : Below w.heap.size w w3 := hBel.trans (hJ.below (by omega) (Nat.le_refl _) (by simp; omega))
    have hx21 : 0 ≤ x21 ∧ x21 ≤ 65 := by omega
    replace B1 := hBs
    skip
    have cB1_0 := B1.c0; have cB1_1 := B1.c1; have cB1_2 := B1.c2; have fB1 := B1.frozen
    go_wp2
    exact bodyPost_ret (v := stV ((p, q, z), x21)) (by simp [results, Try.results11, go_sem, stV, trCells, cB1_0, cB1_1, cB1_2]) rfl ⟨_, rfl, hx, hx21, hBel2⟩
end Go.Proofs.Ytffhcifeccdfjaa
