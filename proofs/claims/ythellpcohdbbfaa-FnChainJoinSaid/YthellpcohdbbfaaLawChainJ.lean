/- The walk of FnChainJoin. -/
import Derived.Test.YthellpcohdbbfaaChain
import Derived.Test.YthellpcohdbbfaaSame
import Derived.Test.YthellpcohdbbfaaAlive
namespace Go.Proofs.Ythellpcohdbbfaa
set_option linter.unusedVariables false
set_option linter.unusedSimpArgs false
open Go.RowKit

theorem chainL_app (k : Int) (xs ys : List Int) : chainL k (xs ++ ys) = chainL k xs ++ chainL (mixAll k xs) ys := by
  apply List.ext_getElem?
  intro j
  by_cases hj : j < xs.length
  · rw [chainL_at (by rw [List.length_append]; omega), List.getElem?_append_left (by rw [chainL_len]; exact hj), chainL_at hj, List.take_append_of_le_length (by omega)]
  · rw [List.getElem?_append_right (by rw [chainL_len]; omega), chainL_len]
    by_cases hj2 : j < (xs ++ ys).length
    · rw [chainL_at hj2, chainL_at (by rw [List.length_append] at hj2; omega), List.take_append, List.take_of_length_le (by omega), mixAll_app]
      congr 3
      rw [show j + 1 - xs.length = j - xs.length + 1 by omega]
    · rw [List.getElem?_eq_none (by rw [chainL_len]; omega), List.getElem?_eq_none (by rw [chainL_len, List.length_append] at *; omega)]
theorem chainS_pos {k : Int} {xs : List Int} (h : 0 < (chainS k xs).length) : (0 ≤ k ∧ k ≤ 1048572) ∧ chainS k xs = chainL k xs := by
  unfold chainS at h ⊢
  cases hv : inB k 0 1048572
  · rw [hv, if_neg Bool.false_ne_true] at h; simp at h
  · exact ⟨inB_true.1 hv, rfl⟩
theorem chainS_eq {k : Int} (h : 0 ≤ k ∧ k ≤ 1048572) (xs : List Int) : chainS k xs = chainL k xs := by
  unfold chainS; rw [inB_true.2 h]; rfl
set_option maxRecDepth 100000 in
set_option maxHeartbeats 2000000 in
theorem lawChainJoin (A : Option Addr) (n c : Nat) (zs : List Int) (A' : Option Addr) (n' c' : Nat) (zs' : List Int) (w : World) (h : Code w A n c zs) (h' : Code w A' n' c' zs') :
    Calls Try.prog 11 #[.slice A n c, .slice A' n' c'] w fun e w' => .returned (.bool true) = e ∧ Below w.heap.size w w' := by
  have hle := h.le
  have hmax := h.max
  have hle' := h'.le
  have hmax' := h'.max
  by_cases hn : n ≤ 1048576
  · have hnz : ¬ 1048576 < (n : Int) := by omega
    by_cases hn' : n' ≤ 1048576
    · have hnz' : ¬ 1048576 < (n' : Int) := by omega
      have hdraw := drawChainSums_any A n c zs w h
      have hdraw2 := fun W hW => drawChainSums_any A' n' c' zs' W (h'.below hW)
      clear h h'
      go_enter Try.func11, Try.ntmps11
      go_wp2_with fail
      refine hdraw.mono ?_
      rintro e w1 ⟨⟨k, ⟨A1, n1, c1, xs⟩⟩, rfl, -, -, ⟨hsl1, -, hnil1, -⟩, hn1, -, hb1⟩
      simp only [kvV, SV.v] at hsl1 hnil1 hn1 ⊢
      clear hdraw
      go_wp2_with fail
      refine (hdraw2 _ hb1).mono ?_
      rintro e w2 ⟨⟨k2, ⟨A2, n2, c2, ys⟩⟩, rfl, -, -, ⟨hsl2, -, hnil2, -⟩, hn2, -, hb2⟩
      simp only [kvV, SV.v] at hsl2 hnil2 hn2 ⊢
      clear hdraw2
      have hB := thn hb1 hb2
      replace hsl1 := hsl1.below hb2
      have hl1 := hsl1.len
      have hl2 := hsl2.len
      have hle1 := hsl1.le
      have hmax1 := hsl1.max
      have hle2 := hsl2.le
      have hmax2 := hsl2.max
      have hI := chainSums_any k A1 n1 c1 xs (by omega) w2 hsl1
      have hS := fun W hW => specChainSums_any k A1 n1 c1 xs (by omega) W (hsl1.below hW)
      have HP := Lib.hid (@chainS_pos k xs)
      clear hb1 hb2
      go_wp2_with fail
      refine hI.mono ?_
      rintro e w3 ⟨⟨A3, n3, c3, l3⟩, rfl, ⟨hsl3, -, hnil3, -⟩, hl3, -, hb3⟩
      simp only [SV.v] at hsl3 hl3 hnil3 ⊢
      subst hl3
      have hle3 := hsl3.le
      have hmax3 := hsl3.max
      go_wp2_with fail
      refine (hS _ hb3).mono ?_
      rintro e w4 ⟨⟨A4, n4, c4, l4⟩, rfl, ⟨hsl4, -, -, -⟩, hl4, hb4⟩
      simp only [SV.v] at hsl4 hl4 ⊢
      subst hl4
      have hE := sameInts_any A3 A4 n3 n4 c3 c4 _ _ w4 (hsl3.below hb4) hsl4
      rw [decide_eq_true rfl] at hE
      go_wp2_with fail
      refine hE.mono ?_
      rintro e w5 ⟨rfl, hb5⟩
      have hbx := thn hb4 hb5
      have hby := thn hb3 hbx
      clear hI hS hE hsl4 hb3 hb4 hb5
      replace hsl3 := hsl3.below hbx
      by_cases hz : n3 = 0
      · subst hz
        clear HP hsl1 hsl2 hsl3
        skip
        go_wp2_with fail; refine (alive_any _).mono ?_; rintro e w6 ⟨rfl, hbw6⟩
        go_wp2
        go_ret
        exact ⟨rfl, thn hB (thn hby hbw6)⟩
      · obtain ⟨hkb, hxe⟩ := HP.out (by rw [hsl3.len]; omega)
        rw [hxe] at hsl3
        have hl3 := hsl3.len
        rw [chainL_len] at hl3
        obtain rfl : n3 = n1 := by omega
        have hn0 : ((n3 : Int) == 0) = false := by rw [beq_eq_false_iff_ne]; omega
        obtain ⟨b, o, rfl, y, hyk, hc⟩ := hsl3.nth (kk := n3 - 1) (by omega) (Below.refl _ _)
        rw [chainL_at (by omega), show n3 - 1 + 1 = n3 by omega, List.take_of_length_le (by omega)] at hyk
        have hmb := mixAll_bd k xs hkb
        have HY := Lib.hid (show mixAll k xs = y by injection hyk)
        have hyb : 0 ≤ y ∧ y ≤ 1048572 := by rw [← HY.out]; exact hmb
        have hc0 := hc 0 _ rfl
        simp only [eI, Nat.add_zero, Nat.mul_one] at hc0
        have hi1 : (0 : Int) ≤ (n3 : Int) - 1 := by omega
        have hi2 : (n3 : Int) - 1 < (n3 : Int) := by omega
        have hi3 : ((n3 : Int) - 1).toNat = n3 - 1 := by omega
        have HL1 := Lib.hid hl1
        have HL2 := Lib.hid hl2
        have HJ := Lib.hid (chainL_app k xs ys)
        have hY := chainSums_any y A2 n2 c2 ys (by omega) w5 (hsl2.below hby)
        rw [chainS_eq hyb] at hY
        have HKB := Lib.hid hkb
        have hxl : xs.length ≤ 20 := by omega
        have hyl : ys.length ≤ 20 := by omega
        clear hc hyk hmb hyb hxe HP hl3 hl1 hl2 hkb
        go_wp2_with fail
        refine hY.mono ?_
        rintro e w6 ⟨⟨A6, n6, c6, l6⟩, rfl, ⟨hsl6, -, hnil6, -⟩, hl6, -, hb6⟩
        simp only [SV.v] at hsl6 hl6 hnil6 ⊢
        subst hl6
        have hle6 := hsl6.le
        have hmax6 := hsl6.max
        replace hby := thn hby hb6
        replace hsl3 := hsl3.below hb6
        replace hsl1 := hsl1.below hby
        replace hsl2 := hsl2.below hby
        clear hY hb6 hbx hi1 hi2 hi3 hc0
        have owna0 : Own ((w6).alloc (.cells #[] 3)) (w6).heap.size 3 1 eI _ ([] : List Int) := Own.of_blk (Blk.new (w6) 3 #[]) (Nat.le_refl _) encI (by simp [maxLen])
        have hBa0 := alo (Below.refl (w6).heap.size (w6)) (.cells #[] 3)
        have srca0 := (hsl1).below hBa0
        have HSa := Lib.hid (hsl2)
        have hlena : (xs).length + (ys).length ≤ 100000000 := by omega
        go_wp2_with (first
          | (at_builtin; refine app_own rfl _ _ appInt rfl encI (w6).heap.size _ [] rfl owna0 _ _ _ (xs) rfl hnil1 srca0 (by simp; omega) hBa0.size ?_; intro va1 wa1 owna1 hga1; have hBa1 := belowApp hBa0 owna0 hga1 (Nat.le_refl _) hBa0.size; clear hga1 owna0 hBa0 srca0; simp only [List.nil_append] at owna1; have srca1 := (HSa.out).below hBa1)
          | (at_builtin; refine app_own rfl _ _ appInt rfl encI (w6).heap.size _ (xs) rfl owna1 _ _ _ (ys) rfl hnil2 srca1 (Nat.le_trans (Nat.add_le_add_left (Nat.le_of_eq (HSa.out.len).symm) _) hlena) hBa1.size ?_; intro va2 wa2 owna2 hga2; have hBa2 := belowApp hBa1 owna1 hga2 (Nat.le_refl _) hBa1.size; clear hga2 owna1 hBa1 srca1))
        obtain ⟨A7, c7, rfl, _, hsl7, _⟩ := owna2.sl encI
        have hZ := chainSums_any k A7 _ c7 (xs ++ ys) (by simp; omega) _ hsl7
        rw [chainS_eq HKB.out] at hZ
        clear owna2 hsl7
        go_wp2_with fail
        refine hZ.mono ?_
        rintro e w8 ⟨⟨A8, n8, c8, l8⟩, rfl, ⟨hsl8, -, -, -⟩, hl8, -, hb8⟩
        simp only [SV.v] at hsl8 hl8 ⊢
        subst hl8
        have hle8 := hsl8.le
        have hmax8 := hsl8.max
        have hB8 := thn hBa2 hb8
        replace hsl3 := hsl3.below hB8
        replace hsl6 := hsl6.below hB8
        have hl3' : (chainL k xs).length ≤ 20 := by rw [chainL_len]; exact hxl
        have hl6' : (chainL y ys).length ≤ 20 := by rw [chainL_len]; exact hyl
        clear hZ hb8 hBa2
        have ownb0 : Own ((w8).alloc (.cells #[] 3)) (w8).heap.size 3 1 eI _ ([] : List Int) := Own.of_blk (Blk.new (w8) 3 #[]) (Nat.le_refl _) encI (by simp [maxLen])
        have hBb0 := alo (Below.refl (w8).heap.size (w8)) (.cells #[] 3)
        have srcb0 := (hsl3).below hBb0
        have HSb := Lib.hid (hsl6)
        have hlenb : (chainL k xs).length + (chainL y ys).length ≤ 100000000 := by omega
        go_wp2_with (first
          | (at_builtin; refine app_own rfl _ _ appInt rfl encI (w8).heap.size _ [] rfl ownb0 _ _ _ (chainL k xs) rfl (fun e => by cases e) srcb0 (by simp; omega) hBb0.size ?_; intro vb1 wb1 ownb1 hgb1; have hBb1 := belowApp hBb0 ownb0 hgb1 (Nat.le_refl _) hBb0.size; clear hgb1 ownb0 hBb0 srcb0; simp only [List.nil_append] at ownb1; have srcb1 := (HSb.out).below hBb1)
          | (at_builtin; refine app_own rfl _ _ appInt rfl encI (w8).heap.size _ (chainL k xs) rfl ownb1 _ _ _ (chainL y ys) rfl hnil6 srcb1 (Nat.le_trans (Nat.add_le_add_left (Nat.le_of_eq (HSb.out.len).symm) _) hlenb) hBb1.size ?_; intro vb2 wb2 ownb2 hgb2; have hBb2 := belowApp hBb1 ownb1 hgb2 (Nat.le_refl _) hBb1.size; clear hgb2 ownb1 hBb1 srcb1))
        obtain ⟨A9, c9, rfl, _, hsl9, _⟩ := ownb2.sl encI
        have hE := sameInts_any A8 A9 n8 _ c8 c9 _ _ _ (hsl8.below hBb2) hsl9
        rw [decide_eq_true (by rw [HJ.out, HY.out])] at hE
        clear ownb2 hsl9
        go_wp2_with fail
        refine hE.mono ?_
        rintro e w10 ⟨rfl, hb10⟩
        go_wp2
        go_ret
        exact ⟨rfl, thn hB (thn hby (thn hB8 (thn hBb2 hb10)))⟩
    · have hnz' : 1048576 < (n' : Int) := by omega
      clear h h'
      go_enter Try.func11, Try.ntmps11
      go_wp2
      go_ret
      exact ⟨rfl, Below.refl _ _⟩
  · have hnz : 1048576 < (n : Int) := by omega
    clear h h'
    go_enter Try.func11, Try.ntmps11
    go_wp2
    go_ret
    exact ⟨rfl, Below.refl _ _⟩
end Go.Proofs.Ythellpcohdbbfaa
