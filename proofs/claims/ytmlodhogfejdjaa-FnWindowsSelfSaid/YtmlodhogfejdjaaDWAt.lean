/- DrawWindowAt. -/
import Derived.Test.YtmlodhogfejdjaaDWin
import Derived.Test.YtmlodhogfejdjaaReg
namespace Go.Proofs.Ytmlodhogfejdjaa
open Go.RowKit

def watV (x : SV Win × Int × Bool) : Value := .tuple #[x.1.v, .int .i64 x.2.1, .bool x.2.2]
def tyWA (r : Nat) (A : Option Addr) (n c : Nat) : Nat → Ty
  | 0 => .pure (fun v => v = .slice A n c)
  | 1 => .pure (fun v => v = .pointer (some ⟨r, 0, none⟩))
  | 2 => .pure (isInt 0 60)
  | 3 => .lit 3 (-1) 4096
  | 4 => .lit 6 0 3
  | 5 => .pure (fun v => v = .pointer (some ⟨r, 0, none⟩))
  | 6 => .pure (isInt 0 6)
  | 7 => .elt 0 3
  | 8 => .pure (isInt 0 3)
  | 9 => .elt (-1) 4096
  | 10 => .pure (isInt (-1) 4096)
  | 11 => .pure (fun v => v = .pointer (some ⟨r, 0, none⟩))
  | 12 => .pure (isInt 0 2)
  | 13 => .pure isBool
  | 14 => .pure (fun v => v = .slice A n c)
  | 15 => .pure (isInt (-1) 4096)
  | _ => .pure fun _ => True

set_option maxRecDepth 100000 in
set_option maxHeartbeats 1000000 in
theorem drawWindowAt_any (A : Option Addr) (n c : Nat) (zs : List Int) (w : World) (h : Code w A n c zs) :
    Calls Try.prog 28 #[.slice A n c] w (Post watV fun x w' => SV.ok w' w.heap.size 3 Win.cells x.1 ∧ x.1.n ≤ 13 ∧ (-1 ≤ x.2.1 ∧ x.2.1 < 4096) ∧ Below w.heap.size w w') := by
  obtain ⟨r, hr, hrw⟩ : ∃ r, w.heap.size = r ∧ w.heap.size ≤ r := ⟨_, rfl, Nat.le_refl _⟩
  have hopen := open_at r A n c zs w h hr
  clear h hr
  go_enter Try.func28, Try.ntmps28
  go_wp2_with fail
  refine hopen.mono ?_
  rintro e w0 ⟨rfl, hrd, hb, hsz⟩
  replace hb := hb.mono hrw
  have hS := Stp.refl hrd
  have hr0 := hrd.lt
  clear hrd hopen
  have hz0 := hb.size
  go_wp2_with fail; refine (l20Windows_any r 4 12 _ _ (by repeat (first | exact hS.rd | apply Rd.drew | apply Rd.alloc | (apply Rd.setCell; rotate_left; assumption))) (by omega) (by omega)).mono ?_; rintro e w1 ⟨s, rfl, hs1, hs2, hs3, hs⟩; replace hS := Stp.trans (by repeat (first | exact hS | apply Stp.drew | apply Stp.alloc | (apply Stp.set; assumption; assumption))) hs; clear hs
  obtain ⟨A1, n1, c1, xs⟩ := s
  simp only [SV.v] at hs1 hs2 ⊢
  go_wp2_with fail
  refine region_prefix (by kernel_rfl) (fun i v w => (tyWA r A1 n1 c1 i).holds r 3 v w) r 97 16 _ _ _ _ (by kernel_rfl) (by kernel_rfl) (fun i v w w' => Ty.stable _ v w w') (Stp.refl hS.rd) ?_ ?_
  · intro i o him ho a wa b' hb' hS1 hfr hdep
    have hs1 := Stp.refl hS1.rd
    have hbb : b' ≤ 1000000000 := by omega
    have hrl := hS1.rd.lt
    clear hS1 hS
    match i, ho, him with
    | 0, ho, _ =>
      injection ho with ho
      subst ho
      have h6 := hfr.2.2 6 (drawFr_spec (by kernel_rfl))
      clear hdep hfr hb'
      simp only [Array.getD_eq_getD_getElem?] at h6
      unfold Oper.wp
      go_simp
      exact Leaves.val rfl (hs1.le (by omega))
    | 1, ho, _ =>
      injection ho with ho
      subst ho
      have h5 := hfr.2.2 5 (drawFr_spec (by kernel_rfl))
      clear hdep hfr hb'
      simp only [Array.getD_eq_getD_getElem?] at h5
      unfold Oper.wp
      go_simp
      exact Leaves.val rfl (hs1.le (by omega))
    | 2, ho, _ =>
      injection ho with ho
      subst ho
      have h12 := hdep ⟨1, .data⟩ (by simp) (by kernel_rfl) _ 12 rfl rfl
      clear hdep hfr hb'
      replace h12 : a.tmps.getD 12 undef = .pointer (some ⟨r, 0, none⟩) := h12
      simp only [Array.getD_eq_getD_getElem?] at h12
      unfold Oper.wp
      go_simp
      refine (pick_any r (60) b' wa hs1.rd hbb (by omega)).mono ?_
      rintro e wb ⟨v, rfl, hv0, hv1, hs⟩
      exact Leaves.val ⟨v, rfl, by omega, by omega⟩ hs
    | 3, ho, _ =>
      injection ho with ho
      subst ho
      have h13 := hdep ⟨2, .data⟩ (by simp) (by kernel_rfl) _ 13 rfl rfl
      clear hdep hfr hb'
      obtain ⟨x13, h13, hx130, hx131⟩ := h13
      simp only [Array.getD_eq_getD_getElem?] at h13
      unfold Oper.wp
      go_simp
      refine Leaves.val ⟨wa.heap.size, _, rfl, hrl, heap_alloc_new wa _, rfl, ?_⟩ ((hs1.alloc _).le (by omega))
      simp only [List.forall_mem_cons]
      exact ⟨⟨_, rfl, by omega, by omega⟩, ⟨_, rfl, by omega, by omega⟩, ⟨_, rfl, by omega, by omega⟩, by simp⟩
    | 4, ho, _ =>
      injection ho with ho
      subst ho
      clear hdep hfr hb'
      unfold Oper.wp
      go_simp
      refine Leaves.val ⟨wa.heap.size, _, rfl, hrl, heap_alloc_new wa _, rfl, ?_⟩ ((hs1.alloc _).le (by omega))
      simp only [List.forall_mem_cons]
      exact ⟨⟨_, rfl, by omega, by omega⟩, ⟨_, rfl, by omega, by omega⟩, ⟨_, rfl, by omega, by omega⟩, ⟨_, rfl, by omega, by omega⟩, ⟨_, rfl, by omega, by omega⟩, ⟨_, rfl, by omega, by omega⟩, by simp⟩
    | 5, ho, _ =>
      injection ho with ho
      subst ho
      have h5 := hfr.2.2 5 (drawFr_spec (by kernel_rfl))
      clear hdep hfr hb'
      simp only [Array.getD_eq_getD_getElem?] at h5
      unfold Oper.wp
      go_simp
      exact Leaves.val rfl (hs1.le (by omega))
    | 6, ho, _ =>
      injection ho with ho
      subst ho
      have h16 := hdep ⟨5, .data⟩ (by simp) (by kernel_rfl) _ 16 rfl rfl
      clear hdep hfr hb'
      replace h16 : a.tmps.getD 16 undef = .pointer (some ⟨r, 0, none⟩) := h16
      simp only [Array.getD_eq_getD_getElem?] at h16
      unfold Oper.wp
      go_simp
      refine (pick_any r (6) b' wa hs1.rd hbb (by omega)).mono ?_
      rintro e wb ⟨v, rfl, hv0, hv1, hs⟩
      exact Leaves.val ⟨v, rfl, by omega, by omega⟩ hs
    | 7, ho, _ =>
      injection ho with ho
      subst ho
      have h15 := hdep ⟨4, .data⟩ (by simp) (by kernel_rfl) _ 15 rfl rfl
      have h17 := hdep ⟨6, .data⟩ (by simp) (by kernel_rfl) _ 17 rfl rfl
      clear hdep hfr hb'
      obtain ⟨g, cs, h15, hg, hh, hcs, hc⟩ := h15
      simp only [Array.getD_eq_getD_getElem?] at h15
      obtain ⟨x17, h17, hx170, hx171⟩ := h17
      simp only [Array.getD_eq_getD_getElem?] at h17
      have HE := Lib.hid (Ty.at_ hg hh hcs hc (x := x17) (by omega) (by omega))
      clear hh hcs hc
      unfold Oper.wp
      go_simp
      exact Leaves.val HE.out (hs1.le (by omega))
    | 8, ho, _ =>
      injection ho with ho
      subst ho
      have h18 := hdep ⟨7, .data⟩ (by simp) (by kernel_rfl) _ 18 rfl rfl
      clear hdep hfr hb'
      obtain ⟨g, i, u, h18, hg, hc, x, rfl, hx0, hx1⟩ := h18
      simp only [Array.getD_eq_getD_getElem?] at h18
      unfold Oper.wp
      go_simp
      exact Leaves.val ⟨x, rfl, hx0, hx1⟩ (hs1.le (by omega))
    | 9, ho, _ =>
      injection ho with ho
      subst ho
      have h14 := hdep ⟨3, .data⟩ (by simp) (by kernel_rfl) _ 14 rfl rfl
      have h19 := hdep ⟨8, .data⟩ (by simp) (by kernel_rfl) _ 19 rfl rfl
      clear hdep hfr hb'
      obtain ⟨g, cs, h14, hg, hh, hcs, hc⟩ := h14
      simp only [Array.getD_eq_getD_getElem?] at h14
      obtain ⟨x19, h19, hx190, hx191⟩ := h19
      simp only [Array.getD_eq_getD_getElem?] at h19
      have HE := Lib.hid (Ty.at_ hg hh hcs hc (x := x19) (by omega) (by omega))
      clear hh hcs hc
      unfold Oper.wp
      go_simp
      exact Leaves.val HE.out (hs1.le (by omega))
    | 10, ho, _ =>
      injection ho with ho
      subst ho
      have h20 := hdep ⟨9, .data⟩ (by simp) (by kernel_rfl) _ 20 rfl rfl
      clear hdep hfr hb'
      obtain ⟨g, i, u, h20, hg, hc, x, rfl, hx0, hx1⟩ := h20
      simp only [Array.getD_eq_getD_getElem?] at h20
      unfold Oper.wp
      go_simp
      exact Leaves.val ⟨x, rfl, hx0, hx1⟩ (hs1.le (by omega))
    | 11, ho, _ =>
      injection ho with ho
      subst ho
      have h5 := hfr.2.2 5 (drawFr_spec (by kernel_rfl))
      clear hdep hfr hb'
      simp only [Array.getD_eq_getD_getElem?] at h5
      unfold Oper.wp
      go_simp
      exact Leaves.val rfl (hs1.le (by omega))
    | 12, ho, _ =>
      injection ho with ho
      subst ho
      have h22 := hdep ⟨11, .data⟩ (by simp) (by kernel_rfl) _ 22 rfl rfl
      clear hdep hfr hb'
      replace h22 : a.tmps.getD 22 undef = .pointer (some ⟨r, 0, none⟩) := h22
      simp only [Array.getD_eq_getD_getElem?] at h22
      unfold Oper.wp
      go_simp
      refine (pick_any r (2) b' wa hs1.rd hbb (by omega)).mono ?_
      rintro e wb ⟨v, rfl, hv0, hv1, hs⟩
      exact Leaves.val ⟨v, rfl, by omega, by omega⟩ hs
    | 13, ho, _ =>
      injection ho with ho
      subst ho
      have h23 := hdep ⟨12, .data⟩ (by simp) (by kernel_rfl) _ 23 rfl rfl
      clear hdep hfr hb'
      obtain ⟨x23, h23, hx230, hx231⟩ := h23
      simp only [Array.getD_eq_getD_getElem?] at h23
      unfold Oper.wp
      go_simp
      exact Leaves.val ⟨_, rfl⟩ (hs1.le (by omega))
    | 14, ho, _ =>
      injection ho with ho
      subst ho
      have h11 := hdep ⟨0, .data⟩ (by simp) (by kernel_rfl) _ 11 rfl rfl
      clear hdep hfr hb'
      replace h11 : a.tmps.getD 11 undef = .slice A1 n1 c1 := h11
      simp only [Array.getD_eq_getD_getElem?] at h11
      unfold Oper.wp
      go_simp
      exact Leaves.val rfl (hs1.le (by omega))
    | 15, ho, _ =>
      injection ho with ho
      subst ho
      have h21 := hdep ⟨10, .data⟩ (by simp) (by kernel_rfl) _ 21 rfl rfl
      clear hdep hfr hb'
      obtain ⟨x21, h21, hx210, hx211⟩ := h21
      simp only [Array.getD_eq_getD_getElem?] at h21
      unfold Oper.wp
      go_simp
      exact Leaves.val ⟨_, rfl, by omega, by omega⟩ (hs1.le (by omega))
    | n + 16, _, him => exact absurd him (by omega)
  · intro V w2 hV hs
    have hV0 := hV 0 _ 11 (by decide) rfl rfl
    replace hV0 : V 0 = .slice A1 n1 c1 := hV0
    have hV1 := hV 1 _ 12 (by decide) rfl rfl
    replace hV1 : V 1 = .pointer (some ⟨r, 0, none⟩) := hV1
    obtain ⟨x13, hV2, hx130, hx131⟩ := hV 2 _ 13 (by decide) rfl rfl
    obtain ⟨_, _, hV3, _⟩ := hV 3 _ 14 (by decide) rfl rfl
    obtain ⟨_, _, hV4, _⟩ := hV 4 _ 15 (by decide) rfl rfl
    have hV5 := hV 5 _ 16 (by decide) rfl rfl
    replace hV5 : V 5 = .pointer (some ⟨r, 0, none⟩) := hV5
    obtain ⟨x17, hV6, hx170, hx171⟩ := hV 6 _ 17 (by decide) rfl rfl
    obtain ⟨_, _, _, hV7, _⟩ := hV 7 _ 18 (by decide) rfl rfl
    obtain ⟨x19, hV8, hx190, hx191⟩ := hV 8 _ 19 (by decide) rfl rfl
    obtain ⟨_, _, _, hV9, _⟩ := hV 9 _ 20 (by decide) rfl rfl
    obtain ⟨x21, hV10, hx210, hx211⟩ := hV 10 _ 21 (by decide) rfl rfl
    have hV11 := hV 11 _ 22 (by decide) rfl rfl
    replace hV11 : V 11 = .pointer (some ⟨r, 0, none⟩) := hV11
    obtain ⟨x23, hV12, hx230, hx231⟩ := hV 12 _ 23 (by decide) rfl rfl
    obtain ⟨x24, hV13⟩ := hV 13 _ 24 (by decide) rfl rfl
    have hV14 := hV 14 _ 2 (by decide) rfl rfl
    replace hV14 : V 14 = .slice A1 n1 c1 := hV14
    obtain ⟨x3, hV15, hx30, hx31⟩ := hV 15 _ 3 (by decide) rfl rfl
    clear hV
    simp only [puts, List.drop, Act.put, hV0, hV1, hV2, hV3, hV4, hV5, hV6, hV7, hV8, hV9, hV10, hV11, hV12, hV13, hV14, hV15]
    clear hV0 hV1 hV2 hV3 hV4 hV5 hV6 hV7 hV8 hV9 hV10 hV11 hV12 hV13 hV14 hV15
    have hs1' := hs1.sl.stp hs fun b o e => by have := hs1.fresh b o e; omega
    replace hS := Stp.trans (by repeat (first | exact hS | apply Stp.drew | apply Stp.alloc)) hs; clear hs
    have hBel := hS.belowT (a := w) (B := w.heap.size) hb (by assumption) hb.size
    go_wp2
    go_ret3
    exact ⟨(⟨A1, n1, c1, xs⟩, x3, x24), rfl, ⟨hs1', fun b o e => Nat.le_trans hz0 (hs1.fresh b o e), hs1.nil, hs1.spot⟩, hs2, ⟨by omega, by omega⟩, hBel⟩
end Go.Proofs.Ytmlodhogfejdjaa
