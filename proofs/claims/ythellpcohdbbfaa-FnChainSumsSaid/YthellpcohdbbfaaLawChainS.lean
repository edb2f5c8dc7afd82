/- The walk of FnChainSums. -/
import Derived.Test.YthellpcohdbbfaaChain
import Derived.Test.YthellpcohdbbfaaSame
import Derived.Test.YthellpcohdbbfaaAlive
import Derived.Test.YthellpcohdbbfaaRel
namespace Go.Proofs.Ythellpcohdbbfaa
set_option linter.unusedVariables false
set_option linter.unusedSimpArgs false
open Go.RowKit

theorem chainSum_pos {k : Int} {xs : List Int} (h : 0 < (chainS k xs).length) : (0 ≤ k ∧ k ≤ 1048572) ∧ chainS k xs = chainL k xs := by
  unfold chainS at h ⊢
  cases hv : inB k 0 1048572
  · rw [hv, if_neg Bool.false_ne_true] at h; simp at h
  · exact ⟨inB_true.1 hv, rfl⟩
theorem chainSum_eq {k : Int} (h : 0 ≤ k ∧ k ≤ 1048572) (xs : List Int) : chainS k xs = chainL k xs := by
  unfold chainS; rw [inB_true.2 h]; rfl
theorem chainL_drop (k : Int) (xs : List Int) : chainL (mixAll k (xs.take 1)) (xs.drop 1) = (chainL k xs).drop 1 := by
  apply List.ext_getElem?
  intro j
  rw [List.getElem?_drop]
  by_cases hj : j + 1 < xs.length
  · rw [chainL_at (by rw [List.length_drop]; omega), chainL_at (by omega), ← mixAll_app]
    congr 2
    rw [show 1 + j + 1 = 1 + (j + 1) by omega, List.take_add (i := 1)]
  · rw [List.getElem?_eq_none (by rw [chainL_len, List.length_drop]; omega), List.getElem?_eq_none (by rw [chainL_len]; omega)]
def relCS (k y0 yl : Int) (A1 : Option Addr) (b o n c1 : Nat) (ls : List Int) : Nat → Value → World → Prop
  | 0, v, _ => v = .slice (some ⟨b, o, none⟩) n n
  | 1, v, _ => v = .int .i64 n
  | 2, v, _ => v = .slice A1 n c1
  | 3, v, _ => v = .int .i64 n
  | 4, v, _ => v = .bool true
  | 5, v, _ => v = .bool true
  | 6, v, _ => v = .slice (some ⟨b, o, none⟩) n n
  | 7, v, _ => v = .pointer (some ⟨b, o, none⟩)
  | 8, v, _ => v = .int .i64 y0
  | 9, v, _ => v = .slice A1 n c1
  | 10, v, _ => v = .slice (if c1 = 1 then A1 else Option.map (fun x => x.add 1) A1) (n - 1) (c1 - 1)
  | 11, v, W => ∃ A9 n9 c9, v = .slice A9 n9 c9 ∧ Sl W 1 eI A9 n9 c9 ls
  | 12, v, _ => v = .slice (some ⟨b, o, none⟩) n n
  | 13, v, _ => v = .slice (if n = 1 then some ⟨b, o, none⟩ else some ⟨b, o + 1, none⟩) (n - 1) (n - 1)
  | 14, v, _ => v = .bool true
  | 15, v, _ => v = .bool true
  | 16, v, _ => v = .bool true
  | 17, v, _ => v = .slice (some ⟨b, o, none⟩) n n
  | 18, v, _ => v = .slice (some ⟨b, o, none⟩) n n
  | 19, v, _ => v = .int .i64 n
  | 20, v, _ => v = .int .i64 ((n : Int) - 1)
  | 21, v, _ => v = .pointer (some ⟨b, o + (n - 1), none⟩)
  | 22, v, _ => v = .int .i64 yl
  | 23, v, _ => v = .int .i64 k
  | 24, v, _ => v = .slice A1 n c1
  | 25, v, _ => v = .int .i64 yl
  | 26, v, _ => v = .bool true
  | 27, v, _ => v = .bool true
  | _, _, _ => True
theorem relCS_below (k y0 yl : Int) (A1 : Option Addr) (b o n c1 : Nat) (ls : List Int) {i : Nat} {v : Value} {w w' : World} (h : relCS k y0 yl A1 b o n c1 ls i v w) (hb : Below w.heap.size w w') : relCS k y0 yl A1 b o n c1 ls i v w' := by
  match i, h with
  | 0, h => exact h
  | 1, h => exact h
  | 2, h => exact h
  | 3, h => exact h
  | 4, h => exact h
  | 5, h => exact h
  | 6, h => exact h
  | 7, h => exact h
  | 8, h => exact h
  | 9, h => exact h
  | 10, h => exact h
  | 11, ⟨A9, n9, c9, e, B⟩ => exact ⟨A9, n9, c9, e, B.below hb⟩
  | 12, h => exact h
  | 13, h => exact h
  | 14, h => exact h
  | 15, h => exact h
  | 16, h => exact h
  | 17, h => exact h
  | 18, h => exact h
  | 19, h => exact h
  | 20, h => exact h
  | 21, h => exact h
  | 22, h => exact h
  | 23, h => exact h
  | 24, h => exact h
  | 25, h => exact h
  | 26, h => exact h
  | 27, h => exact h
  | n + 28, _ => trivial

set_option maxRecDepth 100000 in
set_option maxHeartbeats 1000000 in
theorem lawChainSums (A : Option Addr) (n c : Nat) (zs : List Int) (w : World) (h : Code w A n c zs) :
    Calls Try.prog 12 #[.slice A n c] w fun e w' => .returned (.bool true) = e ∧ Below w.heap.size w w' := by
  have hle := h.le
  have hmax := h.max
  by_cases hn : n ≤ 1048576
  · have hdraw := drawChainSums_any A n c zs w h
    clear h
    go_enter Try.func12, Try.ntmps12
    go_wp2_with fail
    refine hdraw.mono ?_
    rintro e w1 ⟨⟨k, ⟨A1, n1, c1, xs⟩⟩, rfl, -, -, ⟨hsl1, -, hnil1, -⟩, hn1, -, hb⟩
    clear hdraw
    simp only [kvV, SV.v] at hsl1 hnil1 hn1 ⊢
    have hle1 := hsl1.le
    have hmax1 := hsl1.max
    have hI := chainSums_any k A1 n1 c1 xs (by omega) w1 hsl1
    have hS := fun W hW => specChainSums_any k A1 n1 c1 xs (by omega) W (hsl1.below hW)
    have HP := Lib.hid (@chainSum_pos k xs)
    go_wp2_with fail
    refine hI.mono ?_
    rintro e w3 ⟨⟨A3, n3, c3, l3⟩, rfl, ⟨hsl3, -, hnil3, -⟩, hl3, hc3, hb3⟩
    simp only [SV.v] at hsl3 hl3 hnil3 hc3 ⊢
    subst hl3 hc3
    have hle3 := hsl3.le
    have hmax3 := hsl3.max
    go_wp2_with fail
    refine (hS _ hb3).mono ?_
    rintro e w4 ⟨⟨A4, n4, c4, l4⟩, rfl, ⟨hsl4, -, -, -⟩, hl4, hb4⟩
    simp only [SV.v] at hsl4 hl4 ⊢
    subst hl4
    have hE := sameInts_any A3 A4 c3 n4 c3 c4 _ _ w4 (hsl3.below hb4) hsl4
    rw [decide_eq_true rfl] at hE
    go_wp2_with fail
    refine hE.mono ?_
    rintro e w5 ⟨rfl, hb5⟩
    have hbx := thn hb4 hb5
    have hby := thn hb3 hbx
    clear hI hS hE hsl4 hb3 hb4 hb5
    replace hsl3 := hsl3.below hbx
    replace hsl1 := hsl1.below hby
    by_cases hz : c3 = 0
    · subst hz
      clear HP hsl1 hsl3
      skip
      go_wp2_with fail; refine (alive_any _).mono ?_; rintro e w6 ⟨rfl, hbw6⟩
      go_wp2
      go_ret
      exact ⟨rfl, thn hb (thn hby hbw6)⟩
    · obtain ⟨hkb, hxe⟩ := HP.out (by rw [hsl3.len]; omega)
      rw [hxe] at hsl3
      have hl1 := hsl1.len
      have hl3 := hsl3.len
      rw [chainL_len] at hl3
      obtain rfl : c3 = n1 := by omega
      have hn0 : ((c3 : Int) == 0) = false := by rw [beq_eq_false_iff_ne]; omega
      obtain ⟨b, o, rfl, y0, hy0, hc⟩ := hsl3.nth (kk := 0) (by omega) (Below.refl _ _)
      obtain ⟨b', o', hA, yl, hyl, hd⟩ := hsl3.nth (kk := c3 - 1) (by omega) (Below.refl _ _)
      obtain ⟨rfl, rfl⟩ : b = b' ∧ o = o' := by injection hA with hA; injection hA with h1 h2; exact ⟨h1, h2⟩
      have hc0 := hc 0 _ rfl
      have hd0 := hd 0 _ rfl
      simp only [eI, Nat.add_zero, Nat.mul_one, Nat.zero_mul] at hc0 hd0
      rw [chainL_at (by omega)] at hy0
      rw [chainL_at (by omega), show c3 - 1 + 1 = c3 by omega, List.take_of_length_le (by omega)] at hyl
      have hbl := World.block_lt_of_cell? _ _ hc0
      have hm0 := mixAll_bd k (xs.take (0 + 1)) hkb
      have hml : mix k xs = mixAll k xs := by unfold mix; rw [inB_true.2 hkb]; rfl
      obtain rfl : mixAll k (xs.take (0 + 1)) = y0 := by injection hy0
      obtain rfl : mixAll k xs = yl := by injection hyl
      have qa := fun W (h : Below w5.heap.size w5 W) => (h.cell (p := ⟨b, o, none⟩) hbl).trans hc0
      have qb := fun W (h : Below w5.heap.size w5 W) => (h.cell (p := ⟨b, o + (c3 - 1), none⟩) hbl).trans hd0
      have hM := fun W (h : Below w5.heap.size w5 W) => mix_any k A1 c3 c1 xs W (hsl1.below h)
      rw [hml] at hM
      have hC := fun W (h : Below w5.heap.size w5 W) => chainSums_any (mixAll k (xs.take (0 + 1))) _ _ _ _ (by omega) W ((hsl1.from1 1 (by omega)).below h)
      rw [chainSum_eq hm0, chainL_drop k xs] at hC
      have hx1 := hsl3.from1 1 (by omega)
      simp only [Option.map_some, Addr.add_lit] at hx1
      have hE := fun W (h : Below w5.heap.size w5 W) A n c (S : Sl W 1 eI A n c ((chainL k xs).drop 1)) => sameInts_any _ _ _ _ _ _ _ _ W S (hx1.below h)
      simp only [decide_true] at hE
      have hcz1 : 1 ≤ c1 := by omega
      have hcz3 : 1 ≤ c3 := by omega
      have hi1 : (0 : Int) ≤ (c3 : Int) - 1 := by omega
      have hi2 : (c3 : Int) - 1 < (c3 : Int) := by omega
      have hi3 : ((c3 : Int) - 1).toNat = c3 - 1 := by omega
      have hi4 : (0 : Int) < (c3 : Int) := by omega
      have hi5 : 0 < c3 := by omega
      have hi6 : (1 : Int) ≤ (c3 : Int) := by omega
      have hi7 : (1 : Int) ≤ (c1 : Int) := by omega
      have w1' : IntKind.i64.wrap ((c3 : Int) - 1) = (c3 : Int) - 1 := IntWalk.i64_in _ (by omega)
      generalize (chainL k xs).drop 1 = ls at *
      generalize mixAll k (xs.take (0 + 1)) = y0 at *
      generalize mixAll k xs = yl at *
      clear hc hd hy0 hyl hml hm0 hkb hxe HP hl3 hl1 hsl1 hsl3 hx1 hc0 hd0 hnil1 hnil3
      go_wp2_with fail
      refine region_rel (by kernel_rfl) (fun i v w => relCS k y0 yl A1 b o c3 c1 ls i v w) (fun w w' => Below w.heap.size w w') (fun _ w' => Below w5.heap.size w5 w') 28 _ w5 (by kernel_rfl) (by kernel_rfl) (fun i v w w' h hb => relCS_below k y0 yl A1 b o c3 c1 ls h hb) (fun w => Below.refl _ _) (fun _ _ _ _ h => h) (show Below w5.heap.size w5 w5.drew from (Below.refl _ _).drew) ?_ ?_
      · intro i o him ho a wa cc hcc hJ hfr hdep
        have c_qa := qa wa hJ
        have c_qb := qb wa hJ
        skip
        match i, ho, him with
        | 0, ho, _ =>
          injection ho with ho
          subst ho
          have h5 := hfr.2.2 5 (drawFrM_spec (by kernel_rfl))
          clear hdep hfr
          simp only [Array.getD_eq_getD_getElem?] at h5
          refine .inl ⟨rfl, ?_⟩
          unfold Oper.wp
          go_simp
          exact LeavesR.val rfl (Below.refl _ _) hJ
        | 1, ho, _ =>
          injection ho with ho
          subst ho
          have h27 := hdep ⟨0, .data⟩ (by simp) (by kernel_rfl) _ 27 rfl rfl
          clear hdep hfr
          replace h27 : a.tmps.getD 27 undef = .slice (some ⟨b, o, none⟩) c3 c3 := h27
          simp only [Array.getD_eq_getD_getElem?] at h27
          refine .inl ⟨rfl, ?_⟩
          unfold Oper.wp
          go_simp
          exact LeavesR.val rfl (Below.refl _ _) hJ
        | 2, ho, _ =>
          injection ho with ho
          subst ho
          have h4 := hfr.2.2 4 (drawFrM_spec (by kernel_rfl))
          clear hdep hfr
          simp only [Array.getD_eq_getD_getElem?] at h4
          refine .inl ⟨rfl, ?_⟩
          unfold Oper.wp
          go_simp
          exact LeavesR.val rfl (Below.refl _ _) hJ
        | 3, ho, _ =>
          injection ho with ho
          subst ho
          have h29 := hdep ⟨2, .data⟩ (by simp) (by kernel_rfl) _ 29 rfl rfl
          clear hdep hfr
          replace h29 : a.tmps.getD 29 undef = .slice A1 c3 c1 := h29
          simp only [Array.getD_eq_getD_getElem?] at h29
          refine .inl ⟨rfl, ?_⟩
          unfold Oper.wp
          go_simp
          exact LeavesR.val rfl (Below.refl _ _) hJ
        | 4, ho, _ =>
          injection ho with ho
          subst ho
          have h28 := hdep ⟨1, .data⟩ (by simp) (by kernel_rfl) _ 28 rfl rfl
          have h30 := hdep ⟨3, .data⟩ (by simp) (by kernel_rfl) _ 30 rfl rfl
          clear hdep hfr
          replace h28 : a.tmps.getD 28 undef = .int .i64 c3 := h28
          simp only [Array.getD_eq_getD_getElem?] at h28
          replace h30 : a.tmps.getD 30 undef = .int .i64 c3 := h30
          simp only [Array.getD_eq_getD_getElem?] at h30
          refine .inl ⟨rfl, ?_⟩
          unfold Oper.wp
          go_simp
          exact LeavesR.val rfl (Below.refl _ _) hJ
        | 5, ho, _ =>
          injection ho with ho
          subst ho
          have h31 := hdep ⟨4, .data⟩ (by simp) (by kernel_rfl) _ 31 rfl rfl
          clear hdep hfr
          replace h31 : a.tmps.getD 31 undef = .bool true := h31
          simp only [Array.getD_eq_getD_getElem?] at h31
          refine .inl ⟨rfl, ?_⟩
          unfold Oper.wp
          go_simp
          exact LeavesR.val rfl (Below.refl _ _) hJ
        | 6, ho, _ =>
          injection ho with ho
          subst ho
          have hG := hdep ⟨5, .guard⟩ (by simp) (by kernel_rfl) _ 32 rfl rfl
          have h5 := hfr.2.2 5 (drawFrM_spec (by kernel_rfl))
          clear hdep hfr
          replace hG : a.tmps.getD 32 undef = .bool true := hG
          simp only [Array.getD_eq_getD_getElem?] at h5
          refine .inl ⟨wanted_of rfl rfl rfl hG, ?_⟩
          clear hG
          unfold Oper.wp
          go_simp
          exact LeavesR.val rfl (Below.refl _ _) hJ
        | 7, ho, _ =>
          injection ho with ho
          subst ho
          have hG := hdep ⟨5, .guard⟩ (by simp) (by kernel_rfl) _ 32 rfl rfl
          have h33 := hdep ⟨6, .data⟩ (by simp) (by kernel_rfl) _ 33 rfl rfl
          clear hdep hfr
          replace hG : a.tmps.getD 32 undef = .bool true := hG
          replace h33 : a.tmps.getD 33 undef = .slice (some ⟨b, o, none⟩) c3 c3 := h33
          simp only [Array.getD_eq_getD_getElem?] at h33
          refine .inl ⟨wanted_of rfl rfl rfl hG, ?_⟩
          clear hG
          unfold Oper.wp
          go_simp
          exact LeavesR.val rfl (Below.refl _ _) hJ
        | 8, ho, _ =>
          injection ho with ho
          subst ho
          have hG := hdep ⟨5, .guard⟩ (by simp) (by kernel_rfl) _ 32 rfl rfl
          have h34 := hdep ⟨7, .data⟩ (by simp) (by kernel_rfl) _ 34 rfl rfl
          clear hdep hfr
          replace hG : a.tmps.getD 32 undef = .bool true := hG
          replace h34 : a.tmps.getD 34 undef = .pointer (some ⟨b, o, none⟩) := h34
          simp only [Array.getD_eq_getD_getElem?] at h34
          refine .inl ⟨wanted_of rfl rfl rfl hG, ?_⟩
          clear hG
          unfold Oper.wp
          go_simp
          exact LeavesR.val rfl (Below.refl _ _) hJ
        | 9, ho, _ =>
          injection ho with ho
          subst ho
          have hG := hdep ⟨5, .guard⟩ (by simp) (by kernel_rfl) _ 32 rfl rfl
          have h4 := hfr.2.2 4 (drawFrM_spec (by kernel_rfl))
          clear hdep hfr
          replace hG : a.tmps.getD 32 undef = .bool true := hG
          simp only [Array.getD_eq_getD_getElem?] at h4
          refine .inl ⟨wanted_of rfl rfl rfl hG, ?_⟩
          clear hG
          unfold Oper.wp
          go_simp
          exact LeavesR.val rfl (Below.refl _ _) hJ
        | 10, ho, _ =>
          injection ho with ho
          subst ho
          have hG := hdep ⟨5, .guard⟩ (by simp) (by kernel_rfl) _ 32 rfl rfl
          have h36 := hdep ⟨9, .data⟩ (by simp) (by kernel_rfl) _ 36 rfl rfl
          clear hdep hfr
          replace hG : a.tmps.getD 32 undef = .bool true := hG
          replace h36 : a.tmps.getD 36 undef = .slice A1 c3 c1 := h36
          simp only [Array.getD_eq_getD_getElem?] at h36
          refine .inl ⟨wanted_of rfl rfl rfl hG, ?_⟩
          clear hG
          unfold Oper.wp
          go_simp
          exact LeavesR.val rfl (Below.refl _ _) hJ
        | 11, ho, _ =>
          injection ho with ho
          subst ho
          have hG := hdep ⟨5, .guard⟩ (by simp) (by kernel_rfl) _ 32 rfl rfl
          have h35 := hdep ⟨8, .data⟩ (by simp) (by kernel_rfl) _ 35 rfl rfl
          have h37 := hdep ⟨10, .data⟩ (by simp) (by kernel_rfl) _ 37 rfl rfl
          clear hdep hfr
          replace hG : a.tmps.getD 32 undef = .bool true := hG
          replace h35 : a.tmps.getD 35 undef = .int .i64 y0 := h35
          simp only [Array.getD_eq_getD_getElem?] at h35
          replace h37 : a.tmps.getD 37 undef = .slice (if c1 = 1 then A1 else Option.map (fun x => x.add 1) A1) (c3 - 1) (c1 - 1) := h37
          simp only [Array.getD_eq_getD_getElem?] at h37
          refine .inl ⟨wanted_of rfl rfl rfl hG, ?_⟩
          clear hG
          unfold Oper.wp
          go_simp
          refine (hC _ hJ).mono ?_
          rintro e wb ⟨⟨A9, n9, c9, l9⟩, rfl, ⟨S9, -, -, -⟩, hl9, -, hb'⟩
          simp only [SV.v] at S9 hl9 ⊢
          rw [hl9] at S9
          exact LeavesR.val ⟨A9, n9, c9, rfl, S9⟩ hb' (thn hJ hb')
        | 12, ho, _ =>
          injection ho with ho
          subst ho
          have hG := hdep ⟨5, .guard⟩ (by simp) (by kernel_rfl) _ 32 rfl rfl
          have h5 := hfr.2.2 5 (drawFrM_spec (by kernel_rfl))
          clear hdep hfr
          replace hG : a.tmps.getD 32 undef = .bool true := hG
          simp only [Array.getD_eq_getD_getElem?] at h5
          refine .inl ⟨wanted_of rfl rfl rfl hG, ?_⟩
          clear hG
          unfold Oper.wp
          go_simp
          exact LeavesR.val rfl (Below.refl _ _) hJ
        | 13, ho, _ =>
          injection ho with ho
          subst ho
          have hG := hdep ⟨5, .guard⟩ (by simp) (by kernel_rfl) _ 32 rfl rfl
          have h39 := hdep ⟨12, .data⟩ (by simp) (by kernel_rfl) _ 39 rfl rfl
          clear hdep hfr
          replace hG : a.tmps.getD 32 undef = .bool true := hG
          replace h39 : a.tmps.getD 39 undef = .slice (some ⟨b, o, none⟩) c3 c3 := h39
          simp only [Array.getD_eq_getD_getElem?] at h39
          refine .inl ⟨wanted_of rfl rfl rfl hG, ?_⟩
          clear hG
          unfold Oper.wp
          go_simp
          exact LeavesR.val rfl (Below.refl _ _) hJ
        | 14, ho, _ =>
          injection ho with ho
          subst ho
          have hG := hdep ⟨5, .guard⟩ (by simp) (by kernel_rfl) _ 32 rfl rfl
          have h38 := hdep ⟨11, .data⟩ (by simp) (by kernel_rfl) _ 38 rfl rfl
          have h40 := hdep ⟨13, .data⟩ (by simp) (by kernel_rfl) _ 40 rfl rfl
          clear hdep hfr
          replace hG : a.tmps.getD 32 undef = .bool true := hG
          obtain ⟨A38, n38, c38, h38, S38⟩ := h38
          simp only [Array.getD_eq_getD_getElem?] at h38
          replace h40 : a.tmps.getD 40 undef = .slice (if c3 = 1 then some ⟨b, o, none⟩ else some ⟨b, o + 1, none⟩) (c3 - 1) (c3 - 1) := h40
          simp only [Array.getD_eq_getD_getElem?] at h40
          refine .inl ⟨wanted_of rfl rfl rfl hG, ?_⟩
          clear hG
          unfold Oper.wp
          go_simp
          refine (hE _ hJ _ _ _ S38).mono ?_
          rintro e wb ⟨rfl, hb'⟩
          exact LeavesR.val rfl hb' (thn hJ hb')
        | 15, ho, _ =>
          injection ho with ho
          subst ho
          have h32 := hdep ⟨5, .data⟩ (by simp) (by kernel_rfl) _ 32 rfl rfl
          have h41 := hdep ⟨14, .data⟩ (by simp) (by kernel_rfl) _ 41 rfl rfl
          clear hdep hfr
          replace h32 : a.tmps.getD 32 undef = .bool true := h32
          simp only [Array.getD_eq_getD_getElem?] at h32
          replace h41 : a.tmps.getD 41 undef = .bool true := h41
          simp only [Array.getD_eq_getD_getElem?] at h41
          refine .inl ⟨rfl, ?_⟩
          unfold Oper.wp
          go_simp
          exact LeavesR.val rfl (Below.refl _ _) hJ
        | 16, ho, _ =>
          injection ho with ho
          subst ho
          have h42 := hdep ⟨15, .data⟩ (by simp) (by kernel_rfl) _ 42 rfl rfl
          clear hdep hfr
          replace h42 : a.tmps.getD 42 undef = .bool true := h42
          simp only [Array.getD_eq_getD_getElem?] at h42
          refine .inl ⟨rfl, ?_⟩
          unfold Oper.wp
          go_simp
          exact LeavesR.val rfl (Below.refl _ _) hJ
        | 17, ho, _ =>
          injection ho with ho
          subst ho
          have hG := hdep ⟨16, .guard⟩ (by simp) (by kernel_rfl) _ 43 rfl rfl
          have h5 := hfr.2.2 5 (drawFrM_spec (by kernel_rfl))
          clear hdep hfr
          replace hG : a.tmps.getD 43 undef = .bool true := hG
          simp only [Array.getD_eq_getD_getElem?] at h5
          refine .inl ⟨wanted_of rfl rfl rfl hG, ?_⟩
          clear hG
          unfold Oper.wp
          go_simp
          exact LeavesR.val rfl (Below.refl _ _) hJ
        | 18, ho, _ =>
          injection ho with ho
          subst ho
          have hG := hdep ⟨16, .guard⟩ (by simp) (by kernel_rfl) _ 43 rfl rfl
          have h5 := hfr.2.2 5 (drawFrM_spec (by kernel_rfl))
          clear hdep hfr
          replace hG : a.tmps.getD 43 undef = .bool true := hG
          simp only [Array.getD_eq_getD_getElem?] at h5
          refine .inl ⟨wanted_of rfl rfl rfl hG, ?_⟩
          clear hG
          unfold Oper.wp
          go_simp
          exact LeavesR.val rfl (Below.refl _ _) hJ
        | 19, ho, _ =>
          injection ho with ho
          subst ho
          have hG := hdep ⟨16, .guard⟩ (by simp) (by kernel_rfl) _ 43 rfl rfl
          have h45 := hdep ⟨18, .data⟩ (by simp) (by kernel_rfl) _ 45 rfl rfl
          clear hdep hfr
          replace hG : a.tmps.getD 43 undef = .bool true := hG
          replace h45 : a.tmps.getD 45 undef = .slice (some ⟨b, o, none⟩) c3 c3 := h45
          simp only [Array.getD_eq_getD_getElem?] at h45
          refine .inl ⟨wanted_of rfl rfl rfl hG, ?_⟩
          clear hG
          unfold Oper.wp
          go_simp
          exact LeavesR.val rfl (Below.refl _ _) hJ
        | 20, ho, _ =>
          injection ho with ho
          subst ho
          have hG := hdep ⟨16, .guard⟩ (by simp) (by kernel_rfl) _ 43 rfl rfl
          have h46 := hdep ⟨19, .data⟩ (by simp) (by kernel_rfl) _ 46 rfl rfl
          clear hdep hfr
          replace hG : a.tmps.getD 43 undef = .bool true := hG
          replace h46 : a.tmps.getD 46 undef = .int .i64 c3 := h46
          simp only [Array.getD_eq_getD_getElem?] at h46
          refine .inl ⟨wanted_of rfl rfl rfl hG, ?_⟩
          clear hG
          unfold Oper.wp
          go_simp
          exact LeavesR.val rfl (Below.refl _ _) hJ
        | 21, ho, _ =>
          injection ho with ho
          subst ho
          have hG := hdep ⟨16, .guard⟩ (by simp) (by kernel_rfl) _ 43 rfl rfl
          have h44 := hdep ⟨17, .data⟩ (by simp) (by kernel_rfl) _ 44 rfl rfl
          have h47 := hdep ⟨20, .data⟩ (by simp) (by kernel_rfl) _ 47 rfl rfl
          clear hdep hfr
          replace hG : a.tmps.getD 43 undef = .bool true := hG
          replace h44 : a.tmps.getD 44 undef = .slice (some ⟨b, o, none⟩) c3 c3 := h44
          simp only [Array.getD_eq_getD_getElem?] at h44
          replace h47 : a.tmps.getD 47 undef = .int .i64 ((c3 : Int) - 1) := h47
          simp only [Array.getD_eq_getD_getElem?] at h47
          refine .inl ⟨wanted_of rfl rfl rfl hG, ?_⟩
          clear hG
          unfold Oper.wp
          go_simp
          exact LeavesR.val rfl (Below.refl _ _) hJ
        | 22, ho, _ =>
          injection ho with ho
          subst ho
          have hG := hdep ⟨16, .guard⟩ (by simp) (by kernel_rfl) _ 43 rfl rfl
          have h48 := hdep ⟨21, .data⟩ (by simp) (by kernel_rfl) _ 48 rfl rfl
          clear hdep hfr
          replace hG : a.tmps.getD 43 undef = .bool true := hG
          replace h48 : a.tmps.getD 48 undef = .pointer (some ⟨b, o + (c3 - 1), none⟩) := h48
          simp only [Array.getD_eq_getD_getElem?] at h48
          refine .inl ⟨wanted_of rfl rfl rfl hG, ?_⟩
          clear hG
          unfold Oper.wp
          go_simp
          exact LeavesR.val rfl (Below.refl _ _) hJ
        | 23, ho, _ =>
          injection ho with ho
          subst ho
          have hG := hdep ⟨16, .guard⟩ (by simp) (by kernel_rfl) _ 43 rfl rfl
          have h3 := hfr.2.2 3 (drawFrM_spec (by kernel_rfl))
          clear hdep hfr
          replace hG : a.tmps.getD 43 undef = .bool true := hG
          simp only [Array.getD_eq_getD_getElem?] at h3
          refine .inl ⟨wanted_of rfl rfl rfl hG, ?_⟩
          clear hG
          unfold Oper.wp
          go_simp
          exact LeavesR.val rfl (Below.refl _ _) hJ
        | 24, ho, _ =>
          injection ho with ho
          subst ho
          have hG := hdep ⟨16, .guard⟩ (by simp) (by kernel_rfl) _ 43 rfl rfl
          have h4 := hfr.2.2 4 (drawFrM_spec (by kernel_rfl))
          clear hdep hfr
          replace hG : a.tmps.getD 43 undef = .bool true := hG
          simp only [Array.getD_eq_getD_getElem?] at h4
          refine .inl ⟨wanted_of rfl rfl rfl hG, ?_⟩
          clear hG
          unfold Oper.wp
          go_simp
          exact LeavesR.val rfl (Below.refl _ _) hJ
        | 25, ho, _ =>
          injection ho with ho
          subst ho
          have hG := hdep ⟨16, .guard⟩ (by simp) (by kernel_rfl) _ 43 rfl rfl
          have h50 := hdep ⟨23, .data⟩ (by simp) (by kernel_rfl) _ 50 rfl rfl
          have h51 := hdep ⟨24, .data⟩ (by simp) (by kernel_rfl) _ 51 rfl rfl
          clear hdep hfr
          replace hG : a.tmps.getD 43 undef = .bool true := hG
          replace h50 : a.tmps.getD 50 undef = .int .i64 k := h50
          simp only [Array.getD_eq_getD_getElem?] at h50
          replace h51 : a.tmps.getD 51 undef = .slice A1 c3 c1 := h51
          simp only [Array.getD_eq_getD_getElem?] at h51
          refine .inl ⟨wanted_of rfl rfl rfl hG, ?_⟩
          clear hG
          unfold Oper.wp
          go_simp
          refine (hM _ hJ).mono ?_
          rintro e wb ⟨rfl, hb'⟩
          exact LeavesR.val rfl hb' (thn hJ hb')
        | 26, ho, _ =>
          injection ho with ho
          subst ho
          have hG := hdep ⟨16, .guard⟩ (by simp) (by kernel_rfl) _ 43 rfl rfl
          have h49 := hdep ⟨22, .data⟩ (by simp) (by kernel_rfl) _ 49 rfl rfl
          have h52 := hdep ⟨25, .data⟩ (by simp) (by kernel_rfl) _ 52 rfl rfl
          clear hdep hfr
          replace hG : a.tmps.getD 43 undef = .bool true := hG
          replace h49 : a.tmps.getD 49 undef = .int .i64 yl := h49
          simp only [Array.getD_eq_getD_getElem?] at h49
          replace h52 : a.tmps.getD 52 undef = .int .i64 yl := h52
          simp only [Array.getD_eq_getD_getElem?] at h52
          refine .inl ⟨wanted_of rfl rfl rfl hG, ?_⟩
          clear hG
          unfold Oper.wp
          go_simp
          exact LeavesR.val rfl (Below.refl _ _) hJ
        | 27, ho, _ =>
          injection ho with ho
          subst ho
          have h43 := hdep ⟨16, .data⟩ (by simp) (by kernel_rfl) _ 43 rfl rfl
          have h53 := hdep ⟨26, .data⟩ (by simp) (by kernel_rfl) _ 53 rfl rfl
          clear hdep hfr
          replace h43 : a.tmps.getD 43 undef = .bool true := h43
          simp only [Array.getD_eq_getD_getElem?] at h43
          replace h53 : a.tmps.getD 53 undef = .bool true := h53
          simp only [Array.getD_eq_getD_getElem?] at h53
          refine .inl ⟨rfl, ?_⟩
          unfold Oper.wp
          go_simp
          exact LeavesR.val rfl (Below.refl _ _) hJ
        | n + 28, _, him => exact absurd him (by omega)
      · intro V w6 hV hJ
        have hV0 := hV 0 _ 27 (by decide) rfl rfl
        replace hV0 : V 0 = .slice (some ⟨b, o, none⟩) c3 c3 := hV0
        have hV1 := hV 1 _ 28 (by decide) rfl rfl
        replace hV1 : V 1 = .int .i64 c3 := hV1
        have hV2 := hV 2 _ 29 (by decide) rfl rfl
        replace hV2 : V 2 = .slice A1 c3 c1 := hV2
        have hV3 := hV 3 _ 30 (by decide) rfl rfl
        replace hV3 : V 3 = .int .i64 c3 := hV3
        have hV4 := hV 4 _ 31 (by decide) rfl rfl
        replace hV4 : V 4 = .bool true := hV4
        have hV5 := hV 5 _ 32 (by decide) rfl rfl
        replace hV5 : V 5 = .bool true := hV5
        have hV6 := hV 6 _ 33 (by decide) rfl rfl
        replace hV6 : V 6 = .slice (some ⟨b, o, none⟩) c3 c3 := hV6
        have hV7 := hV 7 _ 34 (by decide) rfl rfl
        replace hV7 : V 7 = .pointer (some ⟨b, o, none⟩) := hV7
        have hV8 := hV 8 _ 35 (by decide) rfl rfl
        replace hV8 : V 8 = .int .i64 y0 := hV8
        have hV9 := hV 9 _ 36 (by decide) rfl rfl
        replace hV9 : V 9 = .slice A1 c3 c1 := hV9
        have hV10 := hV 10 _ 37 (by decide) rfl rfl
        replace hV10 : V 10 = .slice (if c1 = 1 then A1 else Option.map (fun x => x.add 1) A1) (c3 - 1) (c1 - 1) := hV10
        obtain ⟨_, _, _, hV11, _⟩ := hV 11 _ 38 (by decide) rfl rfl
        have hV12 := hV 12 _ 39 (by decide) rfl rfl
        replace hV12 : V 12 = .slice (some ⟨b, o, none⟩) c3 c3 := hV12
        have hV13 := hV 13 _ 40 (by decide) rfl rfl
        replace hV13 : V 13 = .slice (if c3 = 1 then some ⟨b, o, none⟩ else some ⟨b, o + 1, none⟩) (c3 - 1) (c3 - 1) := hV13
        have hV14 := hV 14 _ 41 (by decide) rfl rfl
        replace hV14 : V 14 = .bool true := hV14
        have hV15 := hV 15 _ 42 (by decide) rfl rfl
        replace hV15 : V 15 = .bool true := hV15
        have hV16 := hV 16 _ 43 (by decide) rfl rfl
        replace hV16 : V 16 = .bool true := hV16
        have hV17 := hV 17 _ 44 (by decide) rfl rfl
        replace hV17 : V 17 = .slice (some ⟨b, o, none⟩) c3 c3 := hV17
        have hV18 := hV 18 _ 45 (by decide) rfl rfl
        replace hV18 : V 18 = .slice (some ⟨b, o, none⟩) c3 c3 := hV18
        have hV19 := hV 19 _ 46 (by decide) rfl rfl
        replace hV19 : V 19 = .int .i64 c3 := hV19
        have hV20 := hV 20 _ 47 (by decide) rfl rfl
        replace hV20 : V 20 = .int .i64 ((c3 : Int) - 1) := hV20
        have hV21 := hV 21 _ 48 (by decide) rfl rfl
        replace hV21 : V 21 = .pointer (some ⟨b, o + (c3 - 1), none⟩) := hV21
        have hV22 := hV 22 _ 49 (by decide) rfl rfl
        replace hV22 : V 22 = .int .i64 yl := hV22
        have hV23 := hV 23 _ 50 (by decide) rfl rfl
        replace hV23 : V 23 = .int .i64 k := hV23
        have hV24 := hV 24 _ 51 (by decide) rfl rfl
        replace hV24 : V 24 = .slice A1 c3 c1 := hV24
        have hV25 := hV 25 _ 52 (by decide) rfl rfl
        replace hV25 : V 25 = .int .i64 yl := hV25
        have hV26 := hV 26 _ 53 (by decide) rfl rfl
        replace hV26 : V 26 = .bool true := hV26
        have hV27 := hV 27 _ 54 (by decide) rfl rfl
        replace hV27 : V 27 = .bool true := hV27
        clear hV
        simp only [puts, List.drop, Act.put, List.getElem?_toArray, List.getElem?_cons_succ, List.getElem?_cons_zero, List.setIfInBounds_toArray, List.set_cons_succ, List.set_cons_zero, hV0, hV1, hV2, hV3, hV4, hV5, hV6, hV7, hV8, hV9, hV10, hV11, hV12, hV13, hV14, hV15, hV16, hV17, hV18, hV19, hV20, hV21, hV22, hV23, hV24, hV25, hV26, hV27]
        clear hV0 hV1 hV2 hV3 hV4 hV5 hV6 hV7 hV8 hV9 hV10 hV11 hV12 hV13 hV14 hV15 hV16 hV17 hV18 hV19 hV20 hV21 hV22 hV23 hV24 hV25 hV26 hV27
        have c_qa := qa w6 hJ
        have c_qb := qb w6 hJ
        go_wp2
        all_goals
          go_ret
          exact ⟨rfl, thn hb (thn hby hJ)⟩
  · clear h
    go_enter Try.func12, Try.ntmps12
    go_wp2
    go_ret
    exact ⟨rfl, Below.refl _ _⟩
end Go.Proofs.Ythellpcohdbbfaa
