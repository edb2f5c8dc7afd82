/- FnProgramValid: the draw and the law. -/
import Derived.Test.YtffhcifeccdfjaaDProg
import Derived.Test.YtffhcifeccdfjaaAlive
namespace Go.Proofs.Ytffhcifeccdfjaa
set_option linter.unusedVariables false
set_option linter.unusedSimpArgs false
open Go.RowKit

def progV (x : SV (Int × Int × Int) × Int) : Value := .tuple #[x.1.v, .int .i64 x.2]
def tyPr (r : Nat) (A : Option Addr) (n c : Nat) : Nat → Ty
  | 0 => .pure (fun v => v = .slice A n c)
  | 1 => .pure (isInt 1 5)
  | 2 => .lit 3 0 10
  | 3 => .lit 8 0 3
  | 4 => .pure (fun v => v = .pointer (some ⟨r, 0, none⟩))
  | 5 => .pure (isInt 0 8)
  | 6 => .elt 0 3
  | 7 => .pure (isInt 0 3)
  | 8 => .elt 0 10
  | 9 => .pure (isInt 0 10)
  | 10 => .pure (fun v => v = .slice A n c)
  | _ => .pure fun _ => True

set_option maxRecDepth 100000 in
set_option maxHeartbeats 1000000 in
theorem drawProgramValid_any (A : Option Addr) (n c : Nat) (zs : List Int) (w : World) (h : Code w A n c zs) :
    Calls Try.prog 22 #[.slice A n c] w (Post progV fun x w' => SV.ok w' w.heap.size 3 eO x.1 ∧ x.1.n ≤ 21 ∧ (0 ≤ x.2 ∧ x.2 < 10) ∧ Below w.heap.size w w') := by
  obtain ⟨r, hr, hrw⟩ : ∃ r, w.heap.size = r ∧ w.heap.size ≤ r := ⟨_, rfl, Nat.le_refl _⟩
  have hopen := open_at r A n c zs w h hr
  clear h hr
  go_enter Try.func22, Try.ntmps22
  go_wp2_with fail
  refine hopen.mono ?_
  rintro e w0 ⟨rfl, hrd, hb, hsz⟩
  replace hb := hb.mono hrw
  have hS := Stp.refl hrd
  have hr0 := hrd.lt
  clear hrd hopen
  have hz0 := hb.size
  go_wp2_with fail; refine (pick_any _ (4) _ _ (by repeat (first | exact hS.rd | apply Rd.drew | apply Rd.alloc | (apply Rd.setCell; rotate_left; assumption))) (by omega) (by omega)).mono ?_; rintro e w1 ⟨v0, rfl, hv00, hv01, hs⟩; replace hS := Stp.trans (by repeat (first | exact hS | apply Stp.drew | apply Stp.alloc | (apply Stp.set; assumption; assumption))) hs; clear hs
  have hw0 := IntWalk.i64_in (1 + v0) (by omega)
  obtain ⟨p, hp⟩ : ∃ p, 1 + v0 = p := ⟨_, rfl⟩
  rw [hp] at hw0
  have hp1 : 1 ≤ p ∧ p ≤ 4 := by omega
  have hz1 := hS.grown.size
  go_wp2_with fail; refine (l20Program_any r p _ _ (by repeat (first | exact hS.rd | apply Rd.drew | apply Rd.alloc | (apply Rd.setCell; rotate_left; assumption))) (by omega) (by omega)).mono ?_; rintro e w2 ⟨s, rfl, hs1, hs2, hs⟩; replace hS := Stp.trans (by repeat (first | exact hS | apply Stp.drew | apply Stp.alloc | (apply Stp.set; assumption; assumption))) hs; clear hs
  obtain ⟨A1, n1, c1, xs⟩ := s
  simp only [SV.v] at hs1 hs2 ⊢
  go_wp2_with fail
  refine region_prefix (by kernel_rfl) (fun i v w => (tyPr r A1 n1 c1 i).holds r 3 v w) r 96 11 _ _ _ _ (by kernel_rfl) (by kernel_rfl) (fun i v w w' => Ty.stable _ v w w') (Stp.refl hS.rd) ?_ ?_
  · intro i o him ho a wa b' hb' hS1 hfr hdep
    have hs1 := Stp.refl hS1.rd
    have hbb : b' ≤ 1000000000 := by omega
    have hrl := hS1.rd.lt
    clear hS1 hS
    match i, ho, him with
    | 0, ho, _ =>
      injection ho with ho
      subst ho
      have h6 := hfr.2.2 6 (drawFr_spec (by kernel_rfl))
      clear hdep hfr hb'
      simp only [Array.getD_eq_getD_getElem?] at h6
      unfold Oper.wp
      go_simp
      exact Leaves.val rfl (hs1.le (by omega))
    | 1, ho, _ =>
      injection ho with ho
      subst ho
      have h5 := hfr.2.2 5 (drawFr_spec (by kernel_rfl))
      clear hdep hfr hb'
      simp only [Array.getD_eq_getD_getElem?] at h5
      unfold Oper.wp
      go_simp
      exact Leaves.val ⟨_, rfl, by omega, by omega⟩ (hs1.le (by omega))
    | 2, ho, _ =>
      injection ho with ho
      subst ho
      have h16 := hdep ⟨1, .data⟩ (by simp) (by kernel_rfl) _ 16 rfl rfl
      clear hdep hfr hb'
      obtain ⟨x16, h16, hx160, hx161⟩ := h16
      simp only [Array.getD_eq_getD_getElem?] at h16
      unfold Oper.wp
      go_simp
      refine Leaves.val ⟨wa.heap.size, _, rfl, hrl, heap_alloc_new wa _, rfl, ?_⟩ ((hs1.alloc _).le (by omega))
      simp only [List.forall_mem_cons]
      exact ⟨⟨_, rfl, by omega, by omega⟩, ⟨_, rfl, by omega, by omega⟩, ⟨_, rfl, by omega, by omega⟩, by simp⟩
    | 3, ho, _ =>
      injection ho with ho
      subst ho
      clear hdep hfr hb'
      unfold Oper.wp
      go_simp
      refine Leaves.val ⟨wa.heap.size, _, rfl, hrl, heap_alloc_new wa _, rfl, ?_⟩ ((hs1.alloc _).le (by omega))
      simp only [List.forall_mem_cons]
      exact ⟨⟨_, rfl, by omega, by omega⟩, ⟨_, rfl, by omega, by omega⟩, ⟨_, rfl, by omega, by omega⟩, ⟨_, rfl, by omega, by omega⟩, ⟨_, rfl, by omega, by omega⟩, ⟨_, rfl, by omega, by omega⟩, ⟨_, rfl, by omega, by omega⟩, ⟨_, rfl, by omega, by omega⟩, by simp⟩
    | 4, ho, _ =>
      injection ho with ho
      subst ho
      have h4 := hfr.2.2 4 (drawFr_spec (by kernel_rfl))
      clear hdep hfr hb'
      simp only [Array.getD_eq_getD_getElem?] at h4
      unfold Oper.wp
      go_simp
      exact Leaves.val rfl (hs1.le (by omega))
    | 5, ho, _ =>
      injection ho with ho
      subst ho
      have h19 := hdep ⟨4, .data⟩ (by simp) (by kernel_rfl) _ 19 rfl rfl
      clear hdep hfr hb'
      replace h19 : a.tmps.getD 19 undef = .pointer (some ⟨r, 0, none⟩) := h19
      simp only [Array.getD_eq_getD_getElem?] at h19
      unfold Oper.wp
      go_simp
      refine (pick_any r (8) _ wa hs1.rd (by omega) (by omega)).mono ?_
      rintro e wb ⟨v, rfl, hv0, hv1, hs⟩
      exact Leaves.val ⟨v, rfl, by omega, by omega⟩ hs
    | 6, ho, _ =>
      injection ho with ho
      subst ho
      have h18 := hdep ⟨3, .data⟩ (by simp) (by kernel_rfl) _ 18 rfl rfl
      have h20 := hdep ⟨5, .data⟩ (by simp) (by kernel_rfl) _ 20 rfl rfl
      clear hdep hfr hb'
      obtain ⟨g, cs, h18, hg, hh, hcs, hc⟩ := h18
      simp only [Array.getD_eq_getD_getElem?] at h18
      obtain ⟨x20, h20, hx200, hx201⟩ := h20
      simp only [Array.getD_eq_getD_getElem?] at h20
      have HE := Lib.hid (Ty.at_ hg hh hcs hc (x := x20) (by omega) (by omega))
      clear hh hcs hc
      unfold Oper.wp
      go_simp
      exact Leaves.val HE.out (hs1.le (by omega))
    | 7, ho, _ =>
      injection ho with ho
      subst ho
      have h21 := hdep ⟨6, .data⟩ (by simp) (by kernel_rfl) _ 21 rfl rfl
      clear hdep hfr hb'
      obtain ⟨g, i, u, h21, hg, hc, x, rfl, hx0, hx1⟩ := h21
      simp only [Array.getD_eq_getD_getElem?] at h21
      unfold Oper.wp
      go_simp
      exact Leaves.val ⟨x, rfl, hx0, hx1⟩ (hs1.le (by omega))
    | 8, ho, _ =>
      injection ho with ho
      subst ho
      have h17 := hdep ⟨2, .data⟩ (by simp) (by kernel_rfl) _ 17 rfl rfl
      have h22 := hdep ⟨7, .data⟩ (by simp) (by kernel_rfl) _ 22 rfl rfl
      clear hdep hfr hb'
      obtain ⟨g, cs, h17, hg, hh, hcs, hc⟩ := h17
      simp only [Array.getD_eq_getD_getElem?] at h17
      obtain ⟨x22, h22, hx220, hx221⟩ := h22
      simp only [Array.getD_eq_getD_getElem?] at h22
      have HE := Lib.hid (Ty.at_ hg hh hcs hc (x := x22) (by omega) (by omega))
      clear hh hcs hc
      unfold Oper.wp
      go_simp
      exact Leaves.val HE.out (hs1.le (by omega))
    | 9, ho, _ =>
      injection ho with ho
      subst ho
      have h23 := hdep ⟨8, .data⟩ (by simp) (by kernel_rfl) _ 23 rfl rfl
      clear hdep hfr hb'
      obtain ⟨g, i, u, h23, hg, hc, x, rfl, hx0, hx1⟩ := h23
      simp only [Array.getD_eq_getD_getElem?] at h23
      unfold Oper.wp
      go_simp
      exact Leaves.val ⟨x, rfl, hx0, hx1⟩ (hs1.le (by omega))
    | 10, ho, _ =>
      injection ho with ho
      subst ho
      have h15 := hdep ⟨0, .data⟩ (by simp) (by kernel_rfl) _ 15 rfl rfl
      clear hdep hfr hb'
      replace h15 : a.tmps.getD 15 undef = .slice A1 n1 c1 := h15
      simp only [Array.getD_eq_getD_getElem?] at h15
      unfold Oper.wp
      go_simp
      exact Leaves.val rfl (hs1.le (by omega))
    | n + 11, _, him => exact absurd him (by omega)
  · intro V w3 hV hs
    have hV0 := hV 0 _ 15 (by decide) rfl rfl
    replace hV0 : V 0 = .slice A1 n1 c1 := hV0
    obtain ⟨x16, hV1, hx160, hx161⟩ := hV 1 _ 16 (by decide) rfl rfl
    obtain ⟨_, _, hV2, _⟩ := hV 2 _ 17 (by decide) rfl rfl
    obtain ⟨_, _, hV3, _⟩ := hV 3 _ 18 (by decide) rfl rfl
    have hV4 := hV 4 _ 19 (by decide) rfl rfl
    replace hV4 : V 4 = .pointer (some ⟨r, 0, none⟩) := hV4
    obtain ⟨x20, hV5, hx200, hx201⟩ := hV 5 _ 20 (by decide) rfl rfl
    obtain ⟨_, _, _, hV6, _⟩ := hV 6 _ 21 (by decide) rfl rfl
    obtain ⟨x22, hV7, hx220, hx221⟩ := hV 7 _ 22 (by decide) rfl rfl
    obtain ⟨_, _, _, hV8, _⟩ := hV 8 _ 23 (by decide) rfl rfl
    obtain ⟨x24, hV9, hx240, hx241⟩ := hV 9 _ 24 (by decide) rfl rfl
    have hV10 := hV 10 _ 2 (by decide) rfl rfl
    replace hV10 : V 10 = .slice A1 n1 c1 := hV10
    clear hV
    simp only [puts, List.drop, Act.put, List.getElem?_toArray, List.getElem?_cons_succ, List.getElem?_cons_zero, List.setIfInBounds_toArray, List.set_cons_succ, List.set_cons_zero, hV0, hV1, hV2, hV3, hV4, hV5, hV6, hV7, hV8, hV9, hV10]
    clear hV0 hV1 hV2 hV3 hV4 hV5 hV6 hV7 hV8 hV9 hV10
    have hs1' := hs1.sl.stp hs fun b o e => by have := hs1.fresh b o e; omega
    replace hS := Stp.trans (by repeat (first | exact hS | apply Stp.drew | apply Stp.alloc)) hs; clear hs
    have hBel := hS.belowT (a := w) (B := w.heap.size) hb (by assumption) hb.size
    go_wp2
    go_ret2
    exact ⟨(⟨A1, n1, c1, xs⟩, x24), rfl, ⟨hs1', fun b o e => by have := hs1.fresh b o e; omega, hs1.nil, hs1.spot⟩, hs2, ⟨by omega, by omega⟩, hBel⟩
theorem ordOk_next {cells len : Int} {x : Int × Int × Int} (h : ordOk cells len x = true) : ordOk (cells + 1) len x = true := by
  revert h
  unfold ordOk
  repeat' split
  all_goals simp only [Bool.and_eq_true, inB_true, beq_iff_eq, Bool.false_eq_true, false_implies]
  all_goals (try omega)
theorem progOk_next {xs : List (Int × Int × Int)} {cells : Int} (h : progOk xs cells = true) (h8 : cells ≠ 8) : progOk xs (cells + 1) = true := by
  simp only [progOk, Bool.and_eq_true, inB_true, List.all_eq_true] at h ⊢
  exact ⟨h.1, by omega, fun x hx => ordOk_next (h.2.2 x hx)⟩
theorem progOk_nil (cells : Int) : progOk [] cells = false := by
  simp only [progOk, Bool.and_eq_false_iff]
  exact .inl (by decide)
theorem progOk_bad (xs : List (Int × Int × Int)) (cells a : Int) (ha : cells ≤ a) : progOk (xs ++ [(7, a, 0)]) cells = false := by
  cases hc : progOk (xs ++ [(7, a, 0)]) cells with
  | false => rfl
  | true =>
    simp only [progOk, Bool.and_eq_true, inB_true, List.all_eq_true] at hc
    have h1 := hc.2.2 (7, a, 0) (by simp)
    simp [ordOk] at h1
    have := inB_true.1 h1
    omega

theorem ord_one (w : World) (a b d : Int) : Sl (w.alloc (.cells #[.int .i64 a, .int .i64 b, .int .i64 d] 48)) 3 eO (some ⟨w.heap.size, 0, none⟩) 1 1 [(a, b, d)] := Sl.of_blk (xs := [(a, b, d)]) (Blk.new w 48 #[.int .i64 a, .int .i64 b, .int .i64 d]) encO (by simp)
set_option maxRecDepth 100000 in
set_option maxHeartbeats 2000000 in
theorem lawProgramValid (A : Option Addr) (n c : Nat) (zs : List Int) (w : World) (h : Code w A n c zs) :
    Calls Try.prog 6 #[.slice A n c] w fun e w' => .returned (.bool true) = e ∧ Below w.heap.size w w' := by
  have hle := h.le
  have hmax := h.max
  by_cases hn : n ≤ 1048576
  · have hdraw := drawProgramValid_any A n c zs w h
    clear h
    go_enter Try.func6, Try.ntmps6
    go_wp2_with fail
    refine hdraw.mono ?_
    rintro e w1 ⟨⟨⟨A1, n1, c1, xs⟩, p⟩, rfl, ⟨hsl, -, hnil, -⟩, hn1, hp, hb⟩
    clear hdraw
    simp only [progV, SV.v] at hsl hnil hn1 hp ⊢
    obtain rfl : xs.length = n1 := hsl.len
    have hle1 := hsl.le
    have hmax1 := hsl.max
    have hI := fun W h => progValid_any A1 xs.length c1 xs p W h
    have hS := fun W h => specProgValid_any A1 xs.length c1 xs p (by omega) W h
    have hK := fun W h => progValid_any A1 xs.length c1 xs (p + 1) W h
    have hM := @progOk_next xs p
    have hN := fun W => progValid_any none 0 0 [] p W ⟨rfl, Nat.le_refl _, by omega, fun h => absurd h (by omega)⟩
    rw [progOk_nil] at hN
    generalize progOk xs p = v at *
    have hw := IntWalk.i64_in (p + 1) (by omega)
    skip
    go_wp2_with fail; refine (hI _ hsl).mono ?_; rintro e w2 ⟨rfl, hbw2⟩
    have hsl2 := hsl.below hbw2
    go_wp2_with fail; refine (hS _ hsl2).mono ?_; rintro e w3 ⟨rfl, hbw3⟩
    have hB3 : Below w.heap.size w w3 := (by repeat (first | exact Below.refl _ _ | assumption | apply alo | (apply Below.setCell; rotate_left; (first | assumption | exact Nat.le_refl _ | (simp only []; omega))) | apply Below.drew | apply belowDrewN | (refine thn ?_ (by assumption))))
    have hsl3 := hsl2.below hbw3
    clear hI hS hsl hsl2 hb hbw2 hbw3
    have own0 : Own (w3.alloc (.cells #[] 48)) w3.heap.size 48 3 eO (.slice (some ⟨w3.heap.size, 0, none⟩) 0 0) ([] : List (Int × Int × Int)) := Own.of_blk (Blk.new w3 48 #[]) (Nat.le_refl _) encO (by simp [maxLen])
    have src := hsl3.below (alo (Below.refl w3.heap.size w3) (.cells #[] 48))
    rcases (show ¬ 0 < p ∨ 0 < p by omega) with hp0 | hp0
    · go_wp2_with (first | (at_builtin; (refine app_own rfl _ _ appOrd rfl encO w3.heap.size _ [] rfl own0 _ _ _ xs rfl hnil src (by simp; omega) (by simp) ?_); intro v5 w5 own5 hg5; have hb35 := belowApp (alo (Below.refl w3.heap.size w3) (.cells #[] 48)) own0 hg5 (Nat.le_refl _) (by simp); simp only [List.nil_append] at own5; obtain ⟨A6, c6, hv6, -, -, -⟩ := own5.sl encO; subst hv6; have own6 := own5.alloc (.cells #[.int .i64 7, .int .i64 (0 : Int), .int .i64 0] 48); have src2 : Sl (w5.alloc (.cells #[.int .i64 7, .int .i64 (0 : Int), .int .i64 0] 48)) 3 eO (some ⟨w5.heap.size, 0, none⟩) 1 1 [((7 : Int), (0 : Int), (0 : Int))] := ord_one w5 7 (0 : Int) 0; have hb36 := alo hb35 (.cells #[.int .i64 7, .int .i64 (0 : Int), .int .i64 0] 48); have hz5 := hg5.size; clear own5 hg5 own0 src) | (at_builtin; (refine app_own rfl _ _ appOrd rfl encO w3.heap.size _ xs rfl own6 _ 1 1 [((7 : Int), (0 : Int), (0 : Int))] rfl (fun e => by cases e) src2 (by omega) hb36.size ?_); intro v7 w7 own7 hg7; have hb37 := belowApp hb36 own6 hg7 (Nat.le_refl _) hb36.size; obtain ⟨A7, c7, hv7, -, -, -⟩ := own7.sl encO; rw [show (xs ++ [((7 : Int), (0 : Int), (0 : Int))]).length = xs.length + 1 from by simp] at hv7; subst hv7; have hJ := progValid_any A7 (xs.length + 1) c7 (xs ++ [(7, (0 : Int), 0)]) p _ (own7.okv encO).sl; rw [progOk_bad xs p (0 : Int) (by omega)] at hJ; clear own6 own7 hg7 src2))
      refine hJ.mono ?_
      rintro e w8 ⟨rfl, hb8⟩
      clear hJ
      have hb9 := thn hb37 hb8
      go_wp2_with fail
      refine (hN _).mono ?_
      rintro e w10 ⟨rfl, hb10⟩
      have hb11 := thn hb9 hb10
      have hk := hK _ (hsl3.below hb11)
      clear hN hK hb8 hb9 hb10
      cases v
      · clear hM hk
        go_wp2_with fail
        refine (alive_any _).mono ?_
        rintro e w12 ⟨rfl, hb12⟩
        go_wp2
        go_ret
        exact ⟨rfl, hB3.trans ((thn hb11 hb12).mono hB3.size)⟩
      · by_cases h8 : p = (8 : Int)
        · have h8z : ((p : Int) == 8) = true := by rw [h8]; rfl
          clear hM hk
          go_wp2_with fail
          refine (alive_any _).mono ?_
          rintro e w12 ⟨rfl, hb12⟩
          go_wp2
          go_ret
          exact ⟨rfl, hB3.trans ((thn hb11 hb12).mono hB3.size)⟩
        · have h8z : ((p : Int) == 8) = false := by rw [beq_eq_false_iff_ne]; exact h8
          rw [hM rfl h8] at hk
          clear hM
          go_wp2_with fail
          refine hk.mono ?_
          rintro e w11 ⟨rfl, hbx⟩
          have hb13 := thn hb11 hbx
          go_wp2_with fail
          refine (alive_any _).mono ?_
          rintro e w12 ⟨rfl, hb12⟩
          go_wp2
          go_ret
          exact ⟨rfl, hB3.trans ((thn hb13 hb12).mono hB3.size)⟩
    · go_wp2_with (first | (at_builtin; (refine app_own rfl _ _ appOrd rfl encO w3.heap.size _ [] rfl own0 _ _ _ xs rfl hnil src (by simp; omega) (by simp) ?_); intro v5 w5 own5 hg5; have hb35 := belowApp (alo (Below.refl w3.heap.size w3) (.cells #[] 48)) own0 hg5 (Nat.le_refl _) (by simp); simp only [List.nil_append] at own5; obtain ⟨A6, c6, hv6, -, -, -⟩ := own5.sl encO; subst hv6; have own6 := own5.alloc (.cells #[.int .i64 7, .int .i64 (p), .int .i64 0] 48); have src2 : Sl (w5.alloc (.cells #[.int .i64 7, .int .i64 (p), .int .i64 0] 48)) 3 eO (some ⟨w5.heap.size, 0, none⟩) 1 1 [((7 : Int), (p), (0 : Int))] := ord_one w5 7 (p) 0; have hb36 := alo hb35 (.cells #[.int .i64 7, .int .i64 (p), .int .i64 0] 48); have hz5 := hg5.size; clear own5 hg5 own0 src) | (at_builtin; (refine app_own rfl _ _ appOrd rfl encO w3.heap.size _ xs rfl own6 _ 1 1 [((7 : Int), (p), (0 : Int))] rfl (fun e => by cases e) src2 (by omega) hb36.size ?_); intro v7 w7 own7 hg7; have hb37 := belowApp hb36 own6 hg7 (Nat.le_refl _) hb36.size; obtain ⟨A7, c7, hv7, -, -, -⟩ := own7.sl encO; rw [show (xs ++ [((7 : Int), (p), (0 : Int))]).length = xs.length + 1 from by simp] at hv7; subst hv7; have hJ := progValid_any A7 (xs.length + 1) c7 (xs ++ [(7, (p), 0)]) p _ (own7.okv encO).sl; rw [progOk_bad xs p (p) (by omega)] at hJ; clear own6 own7 hg7 src2))
      refine hJ.mono ?_
      rintro e w8 ⟨rfl, hb8⟩
      clear hJ
      have hb9 := thn hb37 hb8
      go_wp2_with fail
      refine (hN _).mono ?_
      rintro e w10 ⟨rfl, hb10⟩
      have hb11 := thn hb9 hb10
      have hk := hK _ (hsl3.below hb11)
      clear hN hK hb8 hb9 hb10
      cases v
      · clear hM hk
        go_wp2_with fail
        refine (alive_any _).mono ?_
        rintro e w12 ⟨rfl, hb12⟩
        go_wp2
        go_ret
        exact ⟨rfl, hB3.trans ((thn hb11 hb12).mono hB3.size)⟩
      · by_cases h8 : p = (8 : Int)
        · have h8z : ((p : Int) == 8) = true := by rw [h8]; rfl
          clear hM hk
          go_wp2_with fail
          refine (alive_any _).mono ?_
          rintro e w12 ⟨rfl, hb12⟩
          go_wp2
          go_ret
          exact ⟨rfl, hB3.trans ((thn hb11 hb12).mono hB3.size)⟩
        · have h8z : ((p : Int) == 8) = false := by rw [beq_eq_false_iff_ne]; exact h8
          rw [hM rfl h8] at hk
          clear hM
          go_wp2_with fail
          refine hk.mono ?_
          rintro e w11 ⟨rfl, hbx⟩
          have hb13 := thn hb11 hbx
          go_wp2_with fail
          refine (alive_any _).mono ?_
          rintro e w12 ⟨rfl, hb12⟩
          go_wp2
          go_ret
          exact ⟨rfl, hB3.trans ((thn hb13 hb12).mono hB3.size)⟩
  · clear h
    go_enter Try.func6, Try.ntmps6
    go_wp2
    go_ret
    exact ⟨rfl, Below.refl _ _⟩
end Go.Proofs.Ytffhcifeccdfjaa
