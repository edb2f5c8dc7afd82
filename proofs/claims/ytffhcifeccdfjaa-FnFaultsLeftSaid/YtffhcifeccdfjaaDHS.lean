/- Health, a table and a fault drawn. -/
import Derived.Test.YtffhcifeccdfjaaHealth
import Derived.Test.YtffhcifeccdfjaaAct
import Derived.Test.YtffhcifeccdfjaaStore
namespace Go.Proofs.Ytffhcifeccdfjaa
set_option linter.unusedVariables false
set_option linter.unusedSimpArgs false
open Go.RowKit

def hsV (x : (Bool × Int) × SV Int × Int) : Value := .tuple #[.agg #[.bool x.1.1, .int .i64 x.1.2], x.2.1.v, .int .i64 x.2.2]
def tyHS (r : Nat) (G B : Nat) (f : Bool) (x : Int) (A : Option Addr) (n c : Nat) : Nat → Ty
  | 0 => .pure (fun v => v = .agg #[.bool f, .int .i64 x])
  | 1 => .pure (fun v => v = .slice A n c)
  | 2 => .pure (fun v => v = .pointer (some ⟨r, 0, none⟩))
  | 3 => .pure (isInt 0 5)
  | 4 => .pure (fun v => v = .pointer (some ⟨r, 0, none⟩))
  | 5 => .pure (isInt 0 14)
  | 6 => .pure (isInt 0 2)
  | 7 => .pure (isInt (-1) 5)
  | 8 => .pure fun _ => True
  | 9 => .pure (fun v => v = .slice A n c)
  | _ => .pure fun _ => True

set_option maxRecDepth 100000 in
set_option maxHeartbeats 1000000 in
theorem drawHealthStep_any (A : Option Addr) (n c : Nat) (zs : List Int) (w : World) (h : Code w A n c zs) :
    Calls Try.prog 25 #[.slice A n c] w (Post hsV fun x w' => SV.ok w' w.heap.size 1 eI x.2.1 ∧ x.2.1.n ≤ 4 ∧ (-1 ≤ x.2.2 ∧ x.2.2 ≤ 4) ∧ Below w.heap.size w w') := by
  obtain ⟨r, hr, hrw⟩ : ∃ r, w.heap.size + 1 = r ∧ w.heap.size < r := ⟨_, rfl, Nat.lt_succ_self _⟩
  have B1 := Blk.new w 50 #[.bool false, .int .i64 0]
  have hopen := open_at r A n c zs (w.alloc (.cells #[.bool false, .int .i64 0] 50)) (h.below ((Below.refl _ _).alloc (Nat.le_refl _) _)) (by simpa using hr)
  clear h
  go_enter Try.func25, Try.ntmps25
  go_wp2_with fail
  refine hopen.mono ?_
  rintro e w0 ⟨rfl, hrd, hb, hsz⟩
  clear hopen
  replace B1 := B1.below (hb.mono (by simp; omega))
  clear hr
  replace hb := ((Below.refl _ _).alloc (Nat.le_refl _) _).trans (hb.mono (Nat.le_of_lt hrw))
  have nB1 := Nat.ne_of_lt hrw
  replace hrw := Nat.le_of_lt hrw
  have hS := Stp.refl hrd
  have hr0 := hrd.lt
  clear hrd
  have hz0 := hb.size
  go_wp2_with fail; refine (l20Health_any r 14 _ _ (by repeat (first | exact hS.rd | apply Rd.drew | apply Rd.alloc | (apply Rd.setCell; rotate_left; assumption))) (by omega) (by omega)).mono ?_; rintro e w1 ⟨⟨f, x⟩, rfl, hs⟩; replace B1 := Blk.stpOf B1 hs (by repeat (first | exact B1 | apply Blk.alloc | apply Blk.drew | (apply Blk.far; rotate_left; (first | assumption | exact Ne.symm (by assumption))) | apply Blk.set_)) (by assumption); replace hS := Stp.trans (by repeat (first | exact hS | apply Stp.drew | apply Stp.alloc | (apply Stp.set; assumption; assumption))) hs; clear hs
  have B2 := Blk.new w1 50 #[.bool f, .int .i64 x]; have lB2 := hS.rd.lt; have nB2 := Nat.ne_of_gt lB2; have sB2 := hS.grown.size; have dB1B2 := Nat.ne_of_lt B1.lt
  go_wp2_with fail; refine (l20Actions_any r 14 _ _ (by repeat (first | exact hS.rd | apply Rd.drew | apply Rd.alloc | (apply Rd.setCell; rotate_left; assumption))) (by omega) (by omega)).mono ?_; rintro e w2 ⟨s, rfl, hs1, hs2, hs⟩; replace B1 := Blk.stpOf B1 hs (by repeat (first | exact B1 | apply Blk.alloc | apply Blk.drew | (apply Blk.far; rotate_left; (first | assumption | exact Ne.symm (by assumption))) | apply Blk.set_)) (by assumption); replace B2 := Blk.stpOf B2 hs (by repeat (first | exact B2 | apply Blk.alloc | apply Blk.drew | (apply Blk.far; rotate_left; (first | assumption | exact Ne.symm (by assumption))) | apply Blk.set_)) (by assumption); replace hS := Stp.trans (by repeat (first | exact hS | apply Stp.drew | apply Stp.alloc | (apply Stp.set; assumption; assumption))) hs; clear hs
  obtain ⟨A1, n1, c1, xs⟩ := s
  simp only [SV.v] at hs1 hs2 ⊢
  have hw1 := hS.grown.size
  go_wp2_with fail
  refine region_store (by kernel_rfl) (fun i v w => (tyHS r w.heap.size w1.heap.size f x A1 n1 c1 i).holds r 3 v w) 8 10 #[.bool f, .int .i64 x] hS.rd B1 (noU8_2 (by intro z e; cases e) (by intro z e; cases e)) rfl (by decide) (by decide) (by kernel_rfl) (by kernel_rfl) (fun i v w w' => Ty.stableR _ v w w') ?_ ?_
  · intro i o him ho a wa cc hcc hJ hfr hdep
    have hs1 := Stp.refl hJ.rd
    have hrl := hJ.rd.lt
    replace B2 := hJ.old B2 (by assumption) (by first | assumption | exact Ne.symm (by assumption))
    clear hS
    match i, ho, him with
    | 0, ho, _ =>
      injection ho with ho
      subst ho
      have h6 := hfr.2.2 6 (drawFr_spec (by kernel_rfl))
      clear hdep hfr
      simp only [Array.getD_eq_getD_getElem?] at h6
      have cL0 := B2.c0
      have cL1 := B2.c1
      unfold Oper.wp
      go_simp
      exact leaves_stp hJ (by assumption) (by decide) rfl (hs1.le (by omega))
    | 1, ho, _ =>
      injection ho with ho
      subst ho
      have h7 := hfr.2.2 7 (drawFr_spec (by kernel_rfl))
      clear hdep hfr
      simp only [Array.getD_eq_getD_getElem?] at h7
      unfold Oper.wp
      go_simp
      exact leaves_stp hJ (by assumption) (by decide) rfl (hs1.le (by omega))
    | 2, ho, _ =>
      injection ho with ho
      subst ho
      have h5 := hfr.2.2 5 (drawFr_spec (by kernel_rfl))
      clear hdep hfr
      simp only [Array.getD_eq_getD_getElem?] at h5
      unfold Oper.wp
      go_simp
      exact leaves_stp hJ (by assumption) (by decide) rfl (hs1.le (by omega))
    | 3, ho, _ =>
      injection ho with ho
      subst ho
      have h16 := hdep ⟨2, .data⟩ (by simp) (by kernel_rfl) _ 16 rfl rfl
      clear hdep hfr
      replace h16 : a.tmps.getD 16 undef = .pointer (some ⟨r, 0, none⟩) := h16
      simp only [Array.getD_eq_getD_getElem?] at h16
      unfold Oper.wp
      go_simp
      refine (pick_any r (5) _ wa hs1.rd (by omega) (by omega)).mono ?_
      rintro e wb ⟨v, rfl, hv0, hv1, hs⟩
      exact leaves_stp hJ (by assumption) (by decide) ⟨v, rfl, by omega, by omega⟩ hs
    | 4, ho, _ =>
      injection ho with ho
      subst ho
      have h5 := hfr.2.2 5 (drawFr_spec (by kernel_rfl))
      clear hdep hfr
      simp only [Array.getD_eq_getD_getElem?] at h5
      unfold Oper.wp
      go_simp
      exact leaves_stp hJ (by assumption) (by decide) rfl (hs1.le (by omega))
    | 5, ho, _ =>
      injection ho with ho
      subst ho
      have h18 := hdep ⟨4, .data⟩ (by simp) (by kernel_rfl) _ 18 rfl rfl
      clear hdep hfr
      replace h18 : a.tmps.getD 18 undef = .pointer (some ⟨r, 0, none⟩) := h18
      simp only [Array.getD_eq_getD_getElem?] at h18
      unfold Oper.wp
      go_simp
      refine (pick_any r (14) _ wa hs1.rd (by omega) (by omega)).mono ?_
      rintro e wb ⟨v, rfl, hv0, hv1, hs⟩
      exact leaves_stp hJ (by assumption) (by decide) ⟨v, rfl, by omega, by omega⟩ hs
    | 6, ho, _ =>
      injection ho with ho
      subst ho
      have h19 := hdep ⟨5, .data⟩ (by simp) (by kernel_rfl) _ 19 rfl rfl
      clear hdep hfr
      obtain ⟨x19, h19, hx190, hx191⟩ := h19
      simp only [Array.getD_eq_getD_getElem?] at h19
      have hwr : IntKind.i64.wrap (Int.tdiv x19 (13)) = x19 / (13) := by rw [Int.tdiv_eq_ediv_of_nonneg (by omega)]; exact IntWalk.i64_in _ (by omega)
      unfold Oper.wp
      go_simp
      exact leaves_stp hJ (by assumption) (by decide) ⟨_, rfl, by omega, by omega⟩ (hs1.le (by omega))
    | 7, ho, _ =>
      injection ho with ho
      subst ho
      have h17 := hdep ⟨3, .data⟩ (by simp) (by kernel_rfl) _ 17 rfl rfl
      have h20 := hdep ⟨6, .data⟩ (by simp) (by kernel_rfl) _ 20 rfl rfl
      clear hdep hfr
      obtain ⟨x17, h17, hx170, hx171⟩ := h17
      simp only [Array.getD_eq_getD_getElem?] at h17
      obtain ⟨x20, h20, hx200, hx201⟩ := h20
      simp only [Array.getD_eq_getD_getElem?] at h20
      have hwr := IntWalk.i64_in (x17 - x20) (by omega)
      unfold Oper.wp
      go_simp
      exact leaves_stp hJ (by assumption) (by decide) ⟨_, rfl, by omega, by omega⟩ (hs1.le (by omega))
    | 8, ho, _ =>
      injection ho with ho
      subst ho
      have h2 := hfr.2.2 2 (drawFr_spec (by kernel_rfl))
      have h14 := hdep ⟨0, .data⟩ (by simp) (by kernel_rfl) _ 14 rfl rfl
      clear hdep hfr
      simp only [Array.getD_eq_getD_getElem?] at h2
      replace h14 : a.tmps.getD 14 undef = .agg #[.bool f, .int .i64 x] := h14
      simp only [Array.getD_eq_getD_getElem?] at h14
      obtain ⟨cs0, Bg, hn0, hN0⟩ := hJ.res
      obtain ⟨u0, u1, rfl⟩ := two_of hn0
      have e0 := Bg.c0
      have e1 := Bg.c1
      have ef := Bg.frozen
      unfold Oper.wp
      go_simp
      exact leaves_put (v := undef) hJ rfl (by omega) ((Bg.set_ 0 _).set_ 1 _) rfl (noU8_2 (by intro z e; cases e) (by intro z e; cases e)) (by simp [World.setCell]) rfl rfl rfl (fun k hk => by rw [Below.heap_setCell _ _ _ _ hk, Below.heap_setCell _ _ _ _ hk])
    | 9, ho, _ =>
      injection ho with ho
      subst ho
      have h15 := hdep ⟨1, .data⟩ (by simp) (by kernel_rfl) _ 15 rfl rfl
      clear hdep hfr
      replace h15 : a.tmps.getD 15 undef = .slice A1 n1 c1 := h15
      simp only [Array.getD_eq_getD_getElem?] at h15
      unfold Oper.wp
      go_simp
      exact leaves_stp hJ (by assumption) (by decide) rfl (hs1.le (by omega))
    | n + 10, _, him => exact absurd him (by omega)
  · intro V w3 hV hBs hJ
    have hV0 := hV 0 _ 14 (by decide) rfl rfl
    replace hV0 : V 0 = .agg #[.bool f, .int .i64 x] := hV0
    have hV1 := hV 1 _ 15 (by decide) rfl rfl
    replace hV1 : V 1 = .slice A1 n1 c1 := hV1
    have hV2 := hV 2 _ 16 (by decide) rfl rfl
    replace hV2 : V 2 = .pointer (some ⟨r, 0, none⟩) := hV2
    obtain ⟨x17, hV3, hx170, hx171⟩ := hV 3 _ 17 (by decide) rfl rfl
    have hV4 := hV 4 _ 18 (by decide) rfl rfl
    replace hV4 : V 4 = .pointer (some ⟨r, 0, none⟩) := hV4
    obtain ⟨x19, hV5, hx190, hx191⟩ := hV 5 _ 19 (by decide) rfl rfl
    obtain ⟨x20, hV6, hx200, hx201⟩ := hV 6 _ 20 (by decide) rfl rfl
    obtain ⟨x21, hV7, hx210, hx211⟩ := hV 7 _ 21 (by decide) rfl rfl
    have hV9 := hV 9 _ 3 (by decide) rfl rfl
    replace hV9 : V 9 = .slice A1 n1 c1 := hV9
    clear hV
    simp only [puts, List.drop, Act.put, hV0, hV1, hV2, hV3, hV4, hV5, hV6, hV7, hV9]
    clear hV0 hV1 hV2 hV3 hV4 hV5 hV6 hV7 hV9
    have hok : SV.ok w3 w.heap.size 1 eI ⟨A1, n1, c1, xs⟩ := ⟨hs1.sl.turned hJ (fun q o e => by have := hs1.fresh q o e; simp at this; omega), fun q o e => by have := hs1.fresh q o e; simp at this; omega, hs1.nil, hs1.spot⟩
    have hBel := hS.belowT (a := w) (B := w.heap.size) hb (by assumption) hb.size
    have hBel2 : Below w.heap.size w w3 := hBel.trans (hJ.below (by omega) (Nat.le_refl _) (by omega))
    have hx21 : -1 ≤ x21 ∧ x21 ≤ 4 := by omega
    replace B1 := hBs
    skip
    have cB1_0 := B1.c0; have cB1_1 := B1.c1; have fB1 := B1.frozen
    go_wp2
    exact bodyPost_ret (v := hsV ((f, x), ⟨A1, n1, c1, xs⟩, x21)) (by simp [results, Try.results25, go_sem, hsV, SV.v, cB1_0, cB1_1]) rfl ⟨_, rfl, hok, hs2, hx21, hBel2⟩

theorem drawFaultsLeft_any (A : Option Addr) (n c : Nat) (zs : List Int) (w : World) (h : Code w A n c zs) :
    Calls Try.prog 29 #[.slice A n c] w (Post hsV fun x w' => SV.ok w' w.heap.size 1 eI x.2.1 ∧ x.2.1.n ≤ 4 ∧ (-1 ≤ x.2.2 ∧ x.2.2 ≤ 4) ∧ Below w.heap.size w w') := by
  have hb0 := alo (Below.refl w.heap.size w) (.cells #[.bool false, .int .i64 0] 50)
  have hd := drawHealthStep_any A n c zs _ (h.below hb0)
  skip
  have B1 := Blk.new w 50 #[.bool false, .int .i64 0]
  clear h
  go_enter Try.func29, Try.ntmps29
  go_wp2_with fail
  refine hd.mono ?_
  rintro e w1 ⟨⟨⟨f, x⟩, ⟨A1, n1, c1, xs⟩, y⟩, rfl, hs1, hs2, hs3, hb⟩
  clear hd
  replace B1 := B1.below hb
  have hBel := thn hb0 hb
  simp only [hsV, SV.v] at hs1 hs2 hs3 ⊢
  have hok : SV.ok ((w1.setCell ⟨w.heap.size, 0, none⟩ (.bool f)).setCell ⟨w.heap.size, 1, none⟩ (.int .i64 x)) w.heap.size 1 eI ⟨A1, n1, c1, xs⟩ := by
    have hne : ∀ b o, A1 = some ⟨b, o, none⟩ → b ≠ w.heap.size := fun b o e => by have := hs1.fresh b o e; simp at this; omega
    refine ⟨hs1.sl.keep (by simp [World.setCell]) fun b o e => ?_, fun b o e => by have := hs1.fresh b o e; simp at this; omega, hs1.nil, hs1.spot⟩
    rw [Below.heap_setCell _ _ _ _ (hne b o e), Below.heap_setCell _ _ _ _ (hne b o e)]
  have cB1_0 := B1.c0; have cB1_1 := B1.c1; have fB1 := B1.frozen
  go_wp2
  exact bodyPost_ret (v := hsV ((f, x), ⟨A1, n1, c1, xs⟩, y)) (by simp [results, Try.results29, go_sem, hsV, SV.v, cB1_0, cB1_1]) rfl ⟨_, rfl, hok, hs2, hs3, (by repeat (first | exact Below.refl _ _ | assumption | apply alo | (apply Below.setCell; rotate_left; (first | assumption | exact Nat.le_refl _ | (simp only []; omega))) | apply Below.drew | apply belowDrewN | (refine thn ?_ (by assumption))))⟩
end Go.Proofs.Ytffhcifeccdfjaa
