/- SetupNumbers of the program. Lists of numbers and of instructions compared: slices.Equal, l21Ints, l21Orders. -/
import Derived.Test.YtckgdlgdipfgmaaGreatF2
import Derived.Test.YtckgdlgdipfgmaaGreatF3
import Derived.Test.YtckgdlgdipfgmaaGreatF9
import Derived.Test.YtckgdlgdipfgmaaGreatF10
import Derived.Test.YtckgdlgdipfgmaaGreatF11
import Derived.BigQuiet
import Derived.Deep.QuietTactic

namespace Go.Proofs.YtckgdlgdipfgmaaGreat
set_option linter.unusedVariables false
set_option linter.unusedSimpArgs false
open Go.RowKit

theorem bit_below (b : Bool) (W : World) : Calls Tryz.prog 81 #[.bool b] W fun e w' => .returned (.int .i64 (bitI b)) = e ∧ Below W.heap.size W w' := (bit_any b W).mono fun e w' h => ⟨h.1, h.2 ▸ Below.refl _ _⟩
theorem flat_take_len {α : Type} {f : α → List Int} {m : Nat} (hf : ∀ x, (f x).length = m) (l : List α) (k : Nat) : (((l.take k).flatMap f)).length ≤ m * l.length := by
  rw [flat_len hf]
  exact Nat.mul_le_mul_left _ (by rw [List.length_take]; omega)
theorem su_slot {c : SetC} (h : setupOkC c = true) : ∀ x ∈ c.2.2, -1 ≤ x.1 ∧ x.1 ≤ 4 := by
  intro x hx
  have h1 := su_slots h
  have h2 := su_np h
  simp only [slotsOk, Bool.and_eq_true, List.all_eq_true, slotOk] at h1
  have h3 := inB_true.1 (h1.2.2 x hx).2
  omega
theorem su_win {c : SetC} (h : setupOkC c = true) : ∀ p ∈ c.1, p.1.length ≤ 12 := by
  intro p hp
  have := su_parts h
  simp only [partsOkC, Bool.and_eq_true, List.all_eq_true] at this
  exact winsOk12 (this.2 p hp).1
def relNW (q7 : Nat) (v3 : Value) (bs sz : Int) (wb : Bool) : Nat → Value → World → Prop
  | 0, v, _ => v = v3
  | 1, v, _ => v = .pointer (some ⟨q7, 0, none⟩)
  | 2, v, _ => v = .int .i64 bs
  | 3, v, _ => v = .pointer (some ⟨q7, 1, none⟩)
  | 4, v, _ => v = .int .i64 sz
  | 5, v, _ => v = .pointer (some ⟨q7, 2, none⟩)
  | 6, v, _ => v = .bool wb
  | 7, v, _ => v = .int .i64 (bitI wb)
  | 8, v, W => ∃ g, v = .slice (some ⟨g, 0, none⟩) 3 3 ∧ Blk W g 3 #[.int .i64 bs, .int .i64 sz, .int .i64 (bitI wb)]
  | _, _, _ => True
theorem relNW_below (q7 : Nat) (v3 : Value) (bs sz : Int) (wb : Bool) {i : Nat} {v : Value} {w w' : World} (h : relNW q7 v3 bs sz wb i v w) (hb : Below w.heap.size w w') : relNW q7 v3 bs sz wb i v w' := by
  match i, h with
  | 0, h => exact h
  | 1, h => exact h
  | 2, h => exact h
  | 3, h => exact h
  | 4, h => exact h
  | 5, h => exact h
  | 6, h => exact h
  | 7, h => exact h
  | 8, ⟨g, e, B⟩ => exact ⟨g, e, B.below hb⟩
  | n + 9, _ => trivial

set_option maxRecDepth 100000 in
set_option maxHeartbeats 4000000 in
theorem setupNumbers_any (s : SetR) (w : World) (h : okS w s) :
    Calls Tryz.prog 41 #[setV s] w (Post SV.v fun s' w' => okF 1 eI w' s' ∧ s'.xs = numsC (cS s) ∧ Below w.heap.size w w') := by
  obtain ⟨⟨A1, n1, c1, x1⟩, ⟨A2, n2, c2, x2⟩, ⟨A3, n3, c3, x3⟩⟩ := s
  have hs1 : Sl w 2 eP A1 n1 c1 x1 := h.1.1
  have HP := Lib.hid (show ∀ y ∈ x1, okP w y from h.1.2)
  have hs2 : Sl w 4 eC A2 n2 c2 x2 := h.2.1
  have hs3 : Sl w 2 eS A3 n3 c3 x3 := h.2.2
  have hle1 := hs1.le
  have hmax1 := hs1.max
  have hle2 := hs2.le
  have hmax2 := hs2.max
  have hle3 := hs3.le
  have hmax3 := hs3.max
  have hb0 := alo (Below.refl w.heap.size w) (.cells #[.slice A1 n1 c1, .slice A2 n2 c2, .slice A3 n3 c3] 38)
  have B0 := Blk.new w 38 #[.slice A1 n1 c1, .slice A2 n2 c2, .slice A3 n3 c3]
  have hq := setupValid_any _ _ (h.below hb0)
  have hgw : w.heap.size < (w.alloc (.cells #[.slice A1 n1 c1, .slice A2 n2 c2, .slice A3 n3 c3] 38)).heap.size := by simp
  obtain ⟨C, hC⟩ : ∃ C : SetC, cS ((⟨A1, n1, c1, x1⟩, ⟨A2, n2, c2, x2⟩, ⟨A3, n3, c3, x3⟩) : SetR) = C := ⟨_, rfl⟩
  rw [hC] at hq ⊢
  simp only [setV, SV.v_mk] at hq ⊢
  have E1 : C.1 = x1.map cP := by rw [← hC]; rfl
  have E2 : C.2.1 = x2 := by rw [← hC]; rfl
  have E3 : C.2.2 = x3 := by rw [← hC]; rfl
  have L1 : C.1.length = n1 := by rw [E1, List.length_map]; exact hs1.len
  clear hC h
  skip
  skip
  have cB0_0 := B0.c0; have cB0_1 := B0.c1; have cB0_2 := B0.c2; have fB0 := B0.frozen
  obtain ⟨v1, hv1⟩ : ∃ v, setupOkC C = v := ⟨_, rfl⟩
  rw [hv1] at hq
  have HR := Lib.hid (show numsC C = if v1 then numsL C else [] from by unfold numsC; rw [hv1])
  cases v1
  · go_enter Tryz.func41, Tryz.ntmps41
    go_wp2_with fail
    refine hq.mono ?_
    rintro e w1 ⟨rfl, hb1⟩
    go_wp2
    go_ret
    exact ⟨⟨none, 0, 0, []⟩, rfl, slN _ _ _, by rw [HR.out]; rfl, thn hb0 hb1⟩
  · have hP12 := Lib.hid (show ∀ y ∈ x1, y.1.n ≤ 12 from fun y hy => by
      have h1 := su_win hv1 (cP y) (by rw [E1]; exact List.mem_map_of_mem hy)
      have h2 := Sl.len (HP.out y hy)
      simp only [cP] at h1
      omega)
    have hSl := Lib.hid (show ∀ y ∈ x3, -1 ≤ y.1 ∧ y.1 ≤ 4 from fun y hy => su_slot hv1 y (by rw [E3]; exact hy))
    have hPn := Lib.hid (fun k => show (partsN ((x1.map cP).take k)).length ≤ 190 from by have := partsN_len hv1 k; rw [E1] at this; exact this)
    have hCn := Lib.hid (fun k => show (chansN (x2.take k)).length ≤ 32 from by
      have h1 := flat_take_len (f := chanN) (m := 4) (fun _ => rfl) x2 k
      have h2 := su_nc hv1
      rw [E2] at h2
      unfold chansN
      omega)
    have hSn := Lib.hid (fun k => show (slotsN (x3.take k)).length ≤ 24 from by
      have h1 := flat_take_len (f := slotN) (m := 2) (fun _ => rfl) x3 k
      have h2 := su_ns hv1
      rw [E3] at h2
      unfold slotsN
      omega)
    have hl2 := hs2.len
    have hl3 := hs3.len
    have hl1 := hs1.len
    have HN := Lib.hid (show numsC C = (((([(n1 : Int)] ++ partsN ((x1.map cP).take n1)) ++ [(n2 : Int)]) ++ chansN (x2.take n2)) ++ [(n3 : Int)]) ++ slotsN (x3.take n3) from by
      rw [HR.out, if_pos rfl]
      unfold numsL
      rw [L1, E1, E2, E3, hl2, hl3, List.take_of_length_le (show (x1.map cP).length ≤ n1 by rw [List.length_map]; omega), List.take_of_length_le (show x2.length ≤ n2 by omega), List.take_of_length_le (show x3.length ≤ n3 by omega)])
    clear E1 E2 E3 L1 hv1 HR hl1 hl2 hl3
    go_enter Tryz.func41, Tryz.ntmps41
    go_wp2_with fail
    generalize w.alloc (.cells #[.slice A1 n1 c1, .slice A2 n2 c2, .slice A3 n3 c3] 38) = W at *
    refine hq.mono ?_
    rintro e w1 ⟨rfl, hb1⟩
    have hsW1 := hs1.below hb0
    have hsW2 := hs2.below hb0
    have hsW3 := hs3.below hb0
    have B0w := B0.below hb1
    clear cB0_0 cB0_1 cB0_2 fB0
    have z0 := B0w.c0
    have z0a := (B0w.alloc (.cells #[.int .i64 n1] 3)).c0
    have own0 := Own.of_blk (base := W.heap.size) (xs := [(n1 : Int)]) (enc := eI) (Blk.new w1 3 #[.int .i64 n1]) hb1.size encI (by simp [maxLen])
    have hb2 := alo hb1 (.cells #[.int .i64 n1] 3)
    simp only [List.length_singleton] at own0
    clear hq hb1 B0w
    go_wp2_with fail
    clear z0 z0a
    go_loopg [3, 22] n1 (fun gg s3 s22 wr => ∃ (kk : Nat) (v : Value), kk ≤ n1 ∧ n1 - kk ≤ gg ∧ s3 = v ∧ s22 = .int .i64 kk ∧ Aside (Below W.heap.size W wr) ∧ Aside (Own wr W.heap.size 3 1 eI v ([(n1 : Int)] ++ partsN ((x1.map cP).take kk))))
    case atStart => exact ⟨0, _, Nat.zero_le _, by omega, rfl, rfl, (show Aside _ from hb2), (show Aside _ from own0)⟩
    case round =>
      obtain ⟨kk, v, hkk, hg, hv3, rfl, BW, OW⟩ := hrel
      subst hv3
      clear own0 hb2
      have own6 := OW.out
      have hbw := BW.out
      clear OW BW
      by_cases hlt : kk < n1
      · have hltz : (kk : Int) < (n1 : Int) := by omega
        obtain ⟨b1, o1, rfl, y1, hx1, hc1⟩ := hsW1.nth hlt hbw
        have q0 := hc1 0 _ rfl
        have q1 := hc1 1 _ rfl
        have hm1 := List.mem_of_getElem? hx1
        have hy1 := okP.below (HP.out y1 hm1) (thn hb0 hbw)
        have hP9 := Lib.hid (fun V (hV : Below W.heap.size W V) => okP.below (HP.out y1 hm1) (thn hb0 hV))
        have h12 := hP12.out y1 hm1
        have HT := Lib.hid (show partsN ((x1.map cP).take (kk + 1)) = partsN ((x1.map cP).take kk) ++ partN (cP y1) from flat_step (mapAt (f := cP) hx1))
        have hpn := hPn.out kk
        clear hc1 hx1 hm1
        obtain ⟨⟨A9, n9, c9, x9⟩, m9⟩ := y1
        simp only [eP, SV.v, Nat.add_zero] at q0 q1 h12
        simp only [okP] at hy1 hP9
        have hle9 := hy1.le
        have hmax9 := hy1.max
        have hl9 := hy1.len
        have HT2 := Lib.hid (show partN (cP (⟨A9, n9, c9, x9⟩, m9)) = [m9, (n9 : Int)] ++ winsN (x9.take n9) from by simp only [partN, cP]; rw [hl9, List.take_of_length_le (Nat.le_of_eq hl9)])
        have B5 := Blk.new wr 118 #[.slice A9 n9 c9, .int .i64 m9]
        have B5z := B5.alloc (.cells #[.int .i64 m9, .int .i64 n9] 3)
        have x0 := B5.c0
        have x1' := B5.c1
        have own7 := (own6.alloc (.cells #[.slice A9 n9 c9, .int .i64 m9] 118)).alloc (.cells #[.int .i64 m9, .int .i64 n9] 3)
        have hbY := alo (alo hbw (.cells #[.slice A9 n9 c9, .int .i64 m9] 118)) (.cells #[.int .i64 m9, .int .i64 n9] 3)
        have src7 := Sl.of_blk (xs := [m9, (n9 : Int)]) (Blk.new2 wr (.cells #[.slice A9 n9 c9, .int .i64 m9] 118) 3 #[.int .i64 m9, .int .i64 n9]) encI (by simp)
        have hlen7 : ([(n1 : Int)] ++ partsN ((x1.map cP).take kk)).length + 2 ≤ 100000000 := by rw [List.length_append, List.length_singleton]; omega
        go_wp2_with (at_builtin; refine app_own rfl _ _ appInt rfl encI W.heap.size _ _ rfl own7 _ 2 2 [m9, (n9 : Int)] rfl (fun e => by cases e) src7 hlen7 hbY.size ?_; intro v5 w5 own5 hg5; have hb5 := belowApp hbY own7 hg5 (Nat.le_refl _) hbY.size; have B5a := B5z.appO hg5 (own7.neBlk B5z (by decide)); have xa := B5a.c0; clear hg5)
        have sl9 := hP9.out w5 hb5
        clear own7 own6 src7 hlen7 hbY B5z B5 x0 x1' hy1 hbw q0 q1 xa B5a
        have hld : ([(n1 : Int)] ++ partsN ((x1.map cP).take kk)).length ≤ 191 := by rw [List.length_append, List.length_singleton]; omega
        generalize hLd : [(n1 : Int)] ++ partsN ((x1.map cP).take kk) = Ld at own5 hld
        replace hLd := Lib.hid hLd
        go_loopg [3, 37] n9 (fun gg s3 s37 wr => ∃ (jj : Nat) (v : Value), jj ≤ n9 ∧ n9 - jj ≤ gg ∧ s3 = v ∧ s37 = .int .i64 jj ∧ Aside (Below W.heap.size W wr) ∧ Aside (Own wr W.heap.size 3 1 eI v ((Ld ++ [m9, (n9 : Int)]) ++ winsN (x9.take jj))))
        case atStart => exact ⟨0, _, Nat.zero_le _, by omega, rfl, rfl, (show Aside _ from hb5), (show Aside _ from by rw [List.take_zero, show winsN [] = [] from rfl, List.append_nil]; exact own5)⟩
        case round =>
          obtain ⟨jj, v, hjj, hgj, hv3, rfl, BW, OW⟩ := hrel
          replace hv3 := hv3.symm
          subst hv3
          clear own5 hb5 sl9
          have own6 := OW.out
          have hbw := BW.out
          clear OW BW
          by_cases hlj : jj < n9
          · have hljz : (jj : Int) < (n9 : Int) := by omega
            obtain ⟨b9, o9, rfl, z, hxz, hcz⟩ := (hP9.out _ hbw).nth hlj (Below.refl _ _)
            have q0 := hcz 0 _ rfl
            have q1 := hcz 1 _ rfl
            have q2 := hcz 2 _ rfl
            have HW := Lib.hid (show winsN (x9.take (jj + 1)) = winsN (x9.take jj) ++ winN z from flat_step hxz)
            clear hcz hxz
            obtain ⟨bs, sz, wb⟩ := z
            simp only [Win.cells, Nat.add_zero] at q0 q1 q2
            simp only [winN] at HW
            have B7 := Blk.new wr 121 #[.int .i64 bs, .int .i64 sz, .bool wb]
            have hbV := alo hbw (.cells #[.int .i64 bs, .int .i64 sz, .bool wb] 121)
            have own7 := own6.alloc (.cells #[.int .i64 bs, .int .i64 sz, .bool wb] 121)
            have hwl : (winsN (x9.take jj)).length ≤ 36 := by
              rw [winsN_len, List.length_take]; omega
            have hlen9 : ((Ld ++ [m9, (n9 : Int)]) ++ winsN (x9.take jj)).length + 3 ≤ 100000000 := by
              rw [List.length_append, List.length_append, List.length_cons, List.length_singleton]; omega
            clear own6 hbw
            go_wp2_with fail
            clear q0 q1 q2
            generalize wr.alloc (.cells #[.int .i64 bs, .int .i64 sz, .bool wb] 121) = W2 at *
            generalize wr.heap.size = g7 at *
            refine region_rel (by kernel_rfl) (fun iz vz wz => relNW g7 v bs sz wb iz vz wz) (fun wz wz' => Below wz.heap.size wz wz') (fun _ wz' => Below W2.heap.size W2 wz') 9 _ W2 (by kernel_rfl) (by kernel_rfl) (fun iz vz wz wz' h hb => relNW_below g7 v bs sz wb h hb) (fun wz => Below.refl _ _) (fun _ _ _ _ h => h) (show Below W2.heap.size W2 W2.drew from (Below.refl _ _).drew) ?_ ?_
            · intro i o him ho a wa cc hcc hJ hfr hdep
              have B7 := B7.below hJ
              have cB7_0 := B7.c0; have cB7_1 := B7.c1; have cB7_2 := B7.c2; have fB7 := B7.frozen
              match i, ho, him with
              | 0, ho, _ =>
                injection ho with ho
                subst ho
                have h3 := hfr.2.2 3 (drawFrM_spec (by kernel_rfl))
                clear hdep hfr
                simp only [Array.getD_eq_getD_getElem?] at h3
                refine .inl ⟨rfl, ?_⟩
                unfold Oper.wp
                go_simp
                exact LeavesR.val rfl (Below.refl _ _) hJ
              | 1, ho, _ =>
                injection ho with ho
                subst ho
                have h7 := hfr.2.2 7 (drawFrM_spec (by kernel_rfl))
                clear hdep hfr
                simp only [Array.getD_eq_getD_getElem?] at h7
                refine .inl ⟨rfl, ?_⟩
                unfold Oper.wp
                go_simp
                exact LeavesR.val rfl (Below.refl _ _) hJ
              | 2, ho, _ =>
                injection ho with ho
                subst ho
                have h42 := hdep ⟨1, .data⟩ (by simp) (by kernel_rfl) _ 42 rfl rfl
                clear hdep hfr
                replace h42 : a.tmps.getD 42 undef = .pointer (some ⟨g7, 0, none⟩) := h42
                simp only [Array.getD_eq_getD_getElem?] at h42
                refine .inl ⟨rfl, ?_⟩
                unfold Oper.wp
                go_simp
                exact LeavesR.val rfl (Below.refl _ _) hJ
              | 3, ho, _ =>
                injection ho with ho
                subst ho
                have h7 := hfr.2.2 7 (drawFrM_spec (by kernel_rfl))
                clear hdep hfr
                simp only [Array.getD_eq_getD_getElem?] at h7
                refine .inl ⟨rfl, ?_⟩
                unfold Oper.wp
                go_simp
                exact LeavesR.val rfl (Below.refl _ _) hJ
              | 4, ho, _ =>
                injection ho with ho
                subst ho
                have h44 := hdep ⟨3, .data⟩ (by simp) (by kernel_rfl) _ 44 rfl rfl
                clear hdep hfr
                replace h44 : a.tmps.getD 44 undef = .pointer (some ⟨g7, 1, none⟩) := h44
                simp only [Array.getD_eq_getD_getElem?] at h44
                refine .inl ⟨rfl, ?_⟩
                unfold Oper.wp
                go_simp
                exact LeavesR.val rfl (Below.refl _ _) hJ
              | 5, ho, _ =>
                injection ho with ho
                subst ho
                have h7 := hfr.2.2 7 (drawFrM_spec (by kernel_rfl))
                clear hdep hfr
                simp only [Array.getD_eq_getD_getElem?] at h7
                refine .inl ⟨rfl, ?_⟩
                unfold Oper.wp
                go_simp
                exact LeavesR.val rfl (Below.refl _ _) hJ
              | 6, ho, _ =>
                injection ho with ho
                subst ho
                have h46 := hdep ⟨5, .data⟩ (by simp) (by kernel_rfl) _ 46 rfl rfl
                clear hdep hfr
                replace h46 : a.tmps.getD 46 undef = .pointer (some ⟨g7, 2, none⟩) := h46
                simp only [Array.getD_eq_getD_getElem?] at h46
                refine .inl ⟨rfl, ?_⟩
                unfold Oper.wp
                go_simp
                exact LeavesR.val rfl (Below.refl _ _) hJ
              | 7, ho, _ =>
                injection ho with ho
                subst ho
                have h47 := hdep ⟨6, .data⟩ (by simp) (by kernel_rfl) _ 47 rfl rfl
                clear hdep hfr
                replace h47 : a.tmps.getD 47 undef = .bool wb := h47
                simp only [Array.getD_eq_getD_getElem?] at h47
                refine .inl ⟨rfl, ?_⟩
                unfold Oper.wp
                go_simp
                refine (bit_below wb _).mono ?_
                rintro e wb ⟨rfl, hb'⟩
                exact LeavesR.val rfl hb' (thn hJ hb')
              | 8, ho, _ =>
                injection ho with ho
                subst ho
                have h43 := hdep ⟨2, .data⟩ (by simp) (by kernel_rfl) _ 43 rfl rfl
                have h45 := hdep ⟨4, .data⟩ (by simp) (by kernel_rfl) _ 45 rfl rfl
                have h48 := hdep ⟨7, .data⟩ (by simp) (by kernel_rfl) _ 48 rfl rfl
                clear hdep hfr
                replace h43 : a.tmps.getD 43 undef = .int .i64 bs := h43
                simp only [Array.getD_eq_getD_getElem?] at h43
                replace h45 : a.tmps.getD 45 undef = .int .i64 sz := h45
                simp only [Array.getD_eq_getD_getElem?] at h45
                replace h48 : a.tmps.getD 48 undef = .int .i64 (bitI wb) := h48
                simp only [Array.getD_eq_getD_getElem?] at h48
                refine .inl ⟨rfl, ?_⟩
                unfold Oper.wp
                go_simp
                exact LeavesR.val ⟨_, rfl, Blk.new wa _ _⟩ (alo (Below.refl _ _) _) (alo hJ _)
              | n + 9, _, him => exact absurd him (by omega)
            · intro V w9 hV hJ
              have hV0 := hV 0 _ 41 (by decide) rfl rfl
              replace hV0 : V 0 = v := hV0
              have hV1 := hV 1 _ 42 (by decide) rfl rfl
              replace hV1 : V 1 = .pointer (some ⟨g7, 0, none⟩) := hV1
              have hV2 := hV 2 _ 43 (by decide) rfl rfl
              replace hV2 : V 2 = .int .i64 bs := hV2
              have hV3 := hV 3 _ 44 (by decide) rfl rfl
              replace hV3 : V 3 = .pointer (some ⟨g7, 1, none⟩) := hV3
              have hV4 := hV 4 _ 45 (by decide) rfl rfl
              replace hV4 : V 4 = .int .i64 sz := hV4
              have hV5 := hV 5 _ 46 (by decide) rfl rfl
              replace hV5 : V 5 = .pointer (some ⟨g7, 2, none⟩) := hV5
              have hV6 := hV 6 _ 47 (by decide) rfl rfl
              replace hV6 : V 6 = .bool wb := hV6
              have hV7 := hV 7 _ 48 (by decide) rfl rfl
              replace hV7 : V 7 = .int .i64 (bitI wb) := hV7
              obtain ⟨gE49, hV8, NE49⟩ := hV 8 _ 49 (by decide) rfl rfl
              clear hV
              simp only [puts, List.drop, Act.put, List.getElem?_toArray, List.getElem?_cons_succ, List.getElem?_cons_zero, List.setIfInBounds_toArray, List.set_cons_succ, List.set_cons_zero, hV0, hV1, hV2, hV3, hV4, hV5, hV6, hV7, hV8]
              clear hV0 hV1 hV2 hV3 hV4 hV5 hV6 hV7 hV8
              replace B7 := B7.below hJ
              have own9 := own7.below hJ
              have hb9 := thn hbV hJ
              have src9 := Sl.of_blk (xs := [bs, sz, bitI wb]) NE49 encI (by simp)
              at_builtin
              refine app_own rfl _ _ appInt rfl encI W.heap.size _ _ rfl own9 _ 3 3 [bs, sz, bitI wb] rfl (fun e => by cases e) src9 hlen9 hb9.size ?_
              intro v10 w10 own10 hg10
              have hb10 := belowApp hb9 own9 hg10 (Nat.le_refl _) hb9.size
              go_wp2
              go_roundg (n9 - (jj + 1))
              case measure => omega
              case rel => exact ⟨jj + 1, _, by omega, by omega, rfl, by go_num, (show Aside _ from hb10), (show Aside _ from by rw [HW.out, ← List.append_assoc]; exact own10)⟩
          · have hljz : ¬ (jj : Int) < (n9 : Int) := by omega
            obtain rfl : n9 = jj := by omega
            have HE := Lib.hid (show [(n1 : Int)] ++ partsN ((x1.map cP).take (kk + 1)) = (Ld ++ [m9, (n9 : Int)]) ++ winsN (x9.take n9) from by rw [HT.out, HT2.out, ← hLd.out]; simp only [List.append_assoc])
            rw [← HE.out] at own6
            go_wp2
            go_roundg (n1 - (kk + 1))
            case measure => omega
            case rel => exact ⟨kk + 1, _, by omega, by omega, rfl, by go_num, (show Aside _ from hbw), (show Aside _ from own6)⟩
      · have hltz : ¬ (kk : Int) < (n1 : Int) := by omega
        obtain rfl : n1 = kk := by omega
        have hpn := hPn.out n1
        have hla : ([(n1 : Int)] ++ partsN ((x1.map cP).take n1)).length ≤ 191 := by rw [List.length_append, List.length_singleton]; omega
        generalize [(n1 : Int)] ++ partsN ((x1.map cP).take n1) = La at own6 hla HN
        have z1 := (B0.below hbw).c1
        have own7 := own6.alloc (.cells #[.int .i64 n2] 3)
        have hbY := alo hbw (.cells #[.int .i64 n2] 3)
        have src7 := Sl.of_blk (xs := [(n2 : Int)]) (Blk.new wr 3 #[.int .i64 n2]) encI (by simp)
        have hlen7 : La.length + 1 ≤ 100000000 := by omega
        go_wp2_with (at_builtin; refine app_own rfl _ _ appInt rfl encI W.heap.size _ _ rfl own7 _ 1 1 [(n2 : Int)] rfl (fun e => by cases e) src7 hlen7 hbY.size ?_; intro v5 w5 own5 hg5; have hb5 := belowApp hbY own7 hg5 (Nat.le_refl _) hbY.size; have z1b := (B0.below hb5).c1; clear hg5)
        clear own7 own6 src7 hlen7 hbY z1 z1b hbw
        go_loopg [3, 62] n2 (fun gg s3 s62 wr => ∃ (kk : Nat) (v : Value), kk ≤ n2 ∧ n2 - kk ≤ gg ∧ s3 = v ∧ s62 = .int .i64 kk ∧ Aside (Below W.heap.size W wr) ∧ Aside (Own wr W.heap.size 3 1 eI v ((La ++ [(n2 : Int)]) ++ chansN (x2.take kk))))
        case atStart => exact ⟨0, _, Nat.zero_le _, by omega, rfl, rfl, (show Aside _ from hb5), (show Aside _ from by rw [List.take_zero, show chansN [] = [] from rfl, List.append_nil]; exact own5)⟩
        case round =>
          obtain ⟨kk, v, hkk, hg, hv3, rfl, BW, OW⟩ := hrel
          replace hv3 := hv3.symm
          subst hv3
          clear own5 hb5
          have own6 := OW.out
          have hbw := BW.out
          clear OW BW
          have hcn := hCn.out kk
          by_cases hlt : kk < n2
          · have hltz : (kk : Int) < (n2 : Int) := by omega
            obtain ⟨b1, o1, rfl, y1, hx1, hc1⟩ := hsW2.nth hlt hbw
            have q0 := hc1 0 _ rfl
            have q1 := hc1 1 _ rfl
            have q2 := hc1 2 _ rfl
            have q3 := hc1 3 _ rfl
            have HT := Lib.hid (show chansN (x2.take (kk + 1)) = chansN (x2.take kk) ++ chanN y1 from flat_step hx1)
            clear hc1 hx1
            obtain ⟨k2, f2, t2, z2⟩ := y1
            simp only [eC, Nat.add_zero] at q0 q1 q2 q3
            simp only [chanN] at HT
            have B8 := Blk.new wr 78 #[.int .i64 k2, .int .i64 f2, .int .i64 t2, .int .i64 z2]
            have x0 := B8.c0
            have x1' := B8.c1
            have x2' := B8.c2
            have x3' := B8.c3
            have own7 := (own6.alloc (.cells #[.int .i64 k2, .int .i64 f2, .int .i64 t2, .int .i64 z2] 78)).alloc (.cells #[.int .i64 k2, .int .i64 f2, .int .i64 t2, .int .i64 z2] 3)
            have hbY := alo (alo hbw (.cells #[.int .i64 k2, .int .i64 f2, .int .i64 t2, .int .i64 z2] 78)) (.cells #[.int .i64 k2, .int .i64 f2, .int .i64 t2, .int .i64 z2] 3)
            have src7 := Sl.of_blk (xs := [k2, f2, t2, z2]) (Blk.new2 wr (.cells #[.int .i64 k2, .int .i64 f2, .int .i64 t2, .int .i64 z2] 78) 3 #[.int .i64 k2, .int .i64 f2, .int .i64 t2, .int .i64 z2]) encI (by simp)
            have hlen7 : ((La ++ [(n2 : Int)]) ++ chansN (x2.take kk)).length + 4 ≤ 100000000 := by rw [List.length_append, List.length_append, List.length_singleton]; omega
            go_wp2_with (at_builtin; refine app_own rfl _ _ appInt rfl encI W.heap.size _ _ rfl own7 _ 4 4 [k2, f2, t2, z2] rfl (fun e => by cases e) src7 hlen7 hbY.size ?_; intro v5 w5 own5 hg5; have hb5 := belowApp hbY own7 hg5 (Nat.le_refl _) hbY.size; clear hg5)
            go_roundg (n2 - (kk + 1))
            case measure => omega
            case rel => exact ⟨kk + 1, _, by omega, by omega, rfl, by go_num, (show Aside _ from hb5), (show Aside _ from by rw [HT.out, ← List.append_assoc]; exact own5)⟩
          · have hltz : ¬ (kk : Int) < (n2 : Int) := by omega
            obtain rfl : n2 = kk := by omega
            have hlb : ((La ++ [(n2 : Int)]) ++ chansN (x2.take n2)).length ≤ 224 := by rw [List.length_append, List.length_append, List.length_singleton]; omega
            generalize (La ++ [(n2 : Int)]) ++ chansN (x2.take n2) = Lb at own6 hlb HN
            have z2 := (B0.below hbw).c2
            have own7 := own6.alloc (.cells #[.int .i64 n3] 3)
            have hbY := alo hbw (.cells #[.int .i64 n3] 3)
            have src7 := Sl.of_blk (xs := [(n3 : Int)]) (Blk.new wr 3 #[.int .i64 n3]) encI (by simp)
            have hlen7 : Lb.length + 1 ≤ 100000000 := by omega
            go_wp2_with (at_builtin; refine app_own rfl _ _ appInt rfl encI W.heap.size _ _ rfl own7 _ 1 1 [(n3 : Int)] rfl (fun e => by cases e) src7 hlen7 hbY.size ?_; intro v5 w5 own5 hg5; have hb5 := belowApp hbY own7 hg5 (Nat.le_refl _) hbY.size; have z2b := (B0.below hb5).c2; clear hg5)
            clear own7 own6 src7 hlen7 hbY z2 z2b hbw
            go_loopg [3, 87] n3 (fun gg s3 s87 wr => ∃ (kk : Nat) (v : Value), kk ≤ n3 ∧ n3 - kk ≤ gg ∧ s3 = v ∧ s87 = .int .i64 kk ∧ Aside (Below W.heap.size W wr) ∧ Aside (Own wr W.heap.size 3 1 eI v ((Lb ++ [(n3 : Int)]) ++ slotsN (x3.take kk))))
            case atStart => exact ⟨0, _, Nat.zero_le _, by omega, rfl, rfl, (show Aside _ from hb5), (show Aside _ from by rw [List.take_zero, show slotsN [] = [] from rfl, List.append_nil]; exact own5)⟩
            case round =>
              obtain ⟨kk, v, hkk, hg, hv3, rfl, BW, OW⟩ := hrel
              replace hv3 := hv3.symm
              subst hv3
              clear own5 hb5
              have own6 := OW.out
              have hbw := BW.out
              clear OW BW
              have hsn := hSn.out kk
              by_cases hlt : kk < n3
              · have hltz : (kk : Int) < (n3 : Int) := by omega
                obtain ⟨b1, o1, rfl, y1, hx1, hc1⟩ := hsW3.nth hlt hbw
                have q0 := hc1 0 _ rfl
                have q1 := hc1 1 _ rfl
                have hyb := hSl.out y1 (List.mem_of_getElem? hx1)
                have HT := Lib.hid (show slotsN (x3.take (kk + 1)) = slotsN (x3.take kk) ++ slotN y1 from flat_step hx1)
                clear hc1 hx1
                obtain ⟨a, d⟩ := y1
                simp only [eS, Nat.add_zero] at q0 q1 hyb
                simp only [slotN] at HT
                have hw := IntWalk.i64_in (a + 1) (by omega)
                have B8 := Blk.new wr 123 #[.int .i64 a, .int .i64 d]
                have x0 := B8.c0
                have x1' := B8.c1
                have own7 := (own6.alloc (.cells #[.int .i64 a, .int .i64 d] 123)).alloc (.cells #[.int .i64 (a + 1), .int .i64 d] 3)
                have hbY := alo (alo hbw (.cells #[.int .i64 a, .int .i64 d] 123)) (.cells #[.int .i64 (a + 1), .int .i64 d] 3)
                have src7 := Sl.of_blk (xs := [a + 1, d]) (Blk.new2 wr (.cells #[.int .i64 a, .int .i64 d] 123) 3 #[.int .i64 (a + 1), .int .i64 d]) encI (by simp)
                have hlen7 : ((Lb ++ [(n3 : Int)]) ++ slotsN (x3.take kk)).length + 2 ≤ 100000000 := by rw [List.length_append, List.length_append, List.length_singleton]; omega
                go_wp2_with (at_builtin; refine app_own rfl _ _ appInt rfl encI W.heap.size _ _ rfl own7 _ 2 2 [a + 1, d] rfl (fun e => by cases e) src7 hlen7 hbY.size ?_; intro v5 w5 own5 hg5; have hb5 := belowApp hbY own7 hg5 (Nat.le_refl _) hbY.size; clear hg5)
                go_roundg (n3 - (kk + 1))
                case measure => omega
                case rel => exact ⟨kk + 1, _, by omega, by omega, rfl, by go_num, (show Aside _ from hb5), (show Aside _ from by rw [HT.out, ← List.append_assoc]; exact own5)⟩
              · have hltz : ¬ (kk : Int) < (n3 : Int) := by omega
                obtain rfl : n3 = kk := by omega
                rw [← HN.out] at own6
                obtain ⟨A8, c8, rfl, hA8, sl8, -⟩ := own6.sl encI
                have hle8 := sl8.le
                have hmax8 := sl8.max
                have hcp := fun W => clipInt_any A8 _ c8 hle8 hmax8 hA8.1 W
                go_wp2_with fail
                refine (hcp _).mono ?_; rintro e w' ⟨rfl, rfl⟩
                go_wp2
                go_ret
                exact ⟨⟨A8, _, _, _⟩, rfl, ⟨rfl, Nat.le_refl _, Nat.le_trans hle8 hmax8, sl8.cells⟩, rfl, thn hb0 hbw⟩
end Go.Proofs.YtckgdlgdipfgmaaGreat

namespace Go.Proofs.YtckgdlgdipfgmaaGreat
set_option linter.unusedVariables false
set_option linter.unusedSimpArgs false
open Go.RowKit

theorem eqI_any (A A' : Option Addr) (n n' c c' : Nat) (xs ys : List Int) (w : World) (hs : Sl w 1 eI A n c xs) (hs' : Sl w 1 eI A' n' c' ys) :
    Calls Tryz.prog 40 #[.slice A n c, .slice A' n' c'] w fun e w' => .returned (.bool (decide (xs = ys))) = e ∧ Below w.heap.size w w' := by
  have hle := hs.le
  have hmax := hs.max
  have hle' := hs'.le
  have hmax' := hs'.max
  by_cases hn : n = n'
  · subst hn
    go_enter Tryz.func40, Tryz.ntmps40
    go_wp2
    go_loopg [13] n (fun gg s3 wr => ∃ kk : Nat, kk ≤ n ∧ n - kk ≤ gg ∧ s3 = .int .i64 kk ∧ Aside (Below w.heap.size w wr) ∧ Aside (∀ j, j < kk → xs[j]? = ys[j]?))
    case atStart => exact ⟨0, Nat.zero_le _, by omega, rfl, (show Aside _ from Below.refl _ _), fun j hj => absurd hj (Nat.not_lt_zero _)⟩
    case round =>
      obtain ⟨kk, hkk, hg, rfl, BW, AA⟩ := hrel
      by_cases hlt : kk < n
      · have hltz : (kk : Int) < (n : Int) := by omega
        obtain ⟨b, o, rfl, y, hy, hc⟩ := hs.nth hlt BW.out
        obtain ⟨b', o', rfl, y', hy', hc'⟩ := hs'.nth hlt BW.out
        have hc0 := hc 0 _ rfl
        have hc0' := hc' 0 _ rfl
        clear hc hc'
        simp only [eI, Nat.add_zero, Nat.mul_one] at hc0 hc0'
        have HX := Lib.hid hy
        have HY := Lib.hid hy'
        clear hy hy'
        by_cases hq : y = y'
        · subst hq
          go_wp2_with fail
          go_quiet (fail)
          go_wp2
          go_roundg (n - (kk + 1))
          case measure => omega
          case rel => exact ⟨kk + 1, by omega, by omega, by go_num, (show Aside _ from belowDrewN' BW.out _), (show Aside _ from same_step AA.out HX.out HY.out)⟩
        · go_wp2_with fail
          go_quiet (fail)
          go_wp2
          go_ret
          exact ⟨by rw [decide_eq_false (same_fails HX.out HY.out hq)]; rfl, belowDrewN' BW.out _⟩
      · have hltz : ¬ (kk : Int) < (n : Int) := by omega
        obtain rfl : kk = n := by omega
        go_wp2
        go_ret
        exact ⟨by rw [decide_eq_true (same_holds hs.len hs'.len AA.out)]; rfl, BW.out⟩
  · have hn' : ¬ xs = ys := fun e => hn (by rw [← hs.len, ← hs'.len, e])
    rw [decide_eq_false hn']
    have hnz : ¬ (n : Int) = (n' : Int) := by omega
    go_enter Tryz.func40, Tryz.ntmps40
    go_wp2
    go_ret
    exact ⟨rfl, Below.refl _ _⟩
theorem l21Ints_any (A A' : Option Addr) (n n' c c' : Nat) (xs ys : List Int) (w : World) (hs : Sl w 1 eI A n c xs) (hs' : Sl w 1 eI A' n' c' ys) :
    Calls Tryz.prog 31 #[.slice A n c, .slice A' n' c'] w fun e w' => .returned (.bool (decide (xs = ys))) = e ∧ Below w.heap.size w w' := by
  have hle := hs.le
  have hmax := hs.max
  have hle' := hs'.le
  have hmax' := hs'.max
  by_cases hn : n = n'
  · subst hn
    go_enter Tryz.func31, Tryz.ntmps31
    go_wp2
    go_loopg [5] n (fun gg s3 wr => ∃ kk : Nat, kk ≤ n ∧ n - kk ≤ gg ∧ s3 = .int .i64 kk ∧ Aside (Below w.heap.size w wr) ∧ Aside (∀ j, j < kk → xs[j]? = ys[j]?))
    case atStart => exact ⟨0, Nat.zero_le _, by omega, rfl, (show Aside _ from Below.refl _ _), fun j hj => absurd hj (Nat.not_lt_zero _)⟩
    case round =>
      obtain ⟨kk, hkk, hg, rfl, BW, AA⟩ := hrel
      by_cases hlt : kk < n
      · have hltz : (kk : Int) < (n : Int) := by omega
        obtain ⟨b, o, rfl, y, hy, hc⟩ := hs.nth hlt BW.out
        obtain ⟨b', o', rfl, y', hy', hc'⟩ := hs'.nth hlt BW.out
        have hc0 := hc 0 _ rfl
        have hc0' := hc' 0 _ rfl
        clear hc hc'
        simp only [eI, Nat.add_zero, Nat.mul_one] at hc0 hc0'
        have HX := Lib.hid hy
        have HY := Lib.hid hy'
        clear hy hy'
        by_cases hq : y = y'
        · subst hq
          go_wp2_with fail
          go_quiet (fail)
          go_wp2
          go_roundg (n - (kk + 1))
          case measure => omega
          case rel => exact ⟨kk + 1, by omega, by omega, by go_num, (show Aside _ from belowDrewN' BW.out _), (show Aside _ from same_step AA.out HX.out HY.out)⟩
        · go_wp2_with fail
          go_quiet (fail)
          go_wp2
          go_ret
          exact ⟨by rw [decide_eq_false (same_fails HX.out HY.out hq)]; rfl, belowDrewN' BW.out _⟩
      · have hltz : ¬ (kk : Int) < (n : Int) := by omega
        obtain rfl : kk = n := by omega
        go_wp2
        go_ret
        exact ⟨by rw [decide_eq_true (same_holds hs.len hs'.len AA.out)]; rfl, BW.out⟩
  · have hn' : ¬ xs = ys := fun e => hn (by rw [← hs.len, ← hs'.len, e])
    rw [decide_eq_false hn']
    have hnz : ¬ (n : Int) = (n' : Int) := by omega
    go_enter Tryz.func31, Tryz.ntmps31
    go_wp2
    go_ret
    exact ⟨rfl, Below.refl _ _⟩
set_option maxHeartbeats 1000000 in
theorem eqO_any (A A' : Option Addr) (n n' c c' : Nat) (xs ys : List (Int × Int × Int)) (w : World) (hs : Sl w 3 eO A n c xs) (hs' : Sl w 3 eO A' n' c' ys) :
    Calls Tryz.prog 43 #[.slice A n c, .slice A' n' c'] w fun e w' => .returned (.bool (decide (xs = ys))) = e ∧ Below w.heap.size w w' := by
  have hle := hs.le
  have hmax := hs.max
  have hle' := hs'.le
  have hmax' := hs'.max
  by_cases hn : n = n'
  · subst hn
    go_enter Tryz.func43, Tryz.ntmps43
    go_wp2
    go_loopg [13] n (fun gg s3 wr => ∃ kk : Nat, kk ≤ n ∧ n - kk ≤ gg ∧ s3 = .int .i64 kk ∧ Aside (Below w.heap.size w wr) ∧ Aside (∀ j, j < kk → xs[j]? = ys[j]?))
    case atStart => exact ⟨0, Nat.zero_le _, by omega, rfl, (show Aside _ from Below.refl _ _), fun j hj => absurd hj (Nat.not_lt_zero _)⟩
    case round =>
      obtain ⟨kk, hkk, hg, rfl, BW, AA⟩ := hrel
      by_cases hlt : kk < n
      · have hltz : (kk : Int) < (n : Int) := by omega
        obtain ⟨b, o, rfl, y, hy, hc⟩ := hs.nth hlt BW.out
        obtain ⟨b', o', rfl, y', hy', hc'⟩ := hs'.nth hlt BW.out
        have q0 := hc 0 _ rfl
        have q1 := hc 1 _ rfl
        have q2 := hc 2 _ rfl
        have r0 := hc' 0 _ rfl
        have r1 := hc' 1 _ rfl
        have r2 := hc' 2 _ rfl
        clear hc hc'
        simp only [eO, Nat.add_zero] at q0 q1 q2 r0 r1 r2
        have HX := Lib.hid hy
        have HY := Lib.hid hy'
        clear hy hy'
        by_cases hq : y = y'
        · subst hq
          go_wp2_with fail
          go_quiet (fail)
          go_wp2
          go_roundg (n - (kk + 1))
          case measure => omega
          case rel => exact ⟨kk + 1, by omega, by omega, by go_num, (show Aside _ from belowDrewN' BW.out _), (show Aside _ from same_step AA.out HX.out HY.out)⟩
        · have HN := Lib.hid (same_fails HX.out HY.out hq)
          obtain ⟨y0, y1, y2⟩ := y
          obtain ⟨z0, z1, z2⟩ := y'
          simp only [] at q0 q1 q2 r0 r1 r2
          clear HX HY
          by_cases h0 : y0 = z0
          · subst h0
            by_cases h1 : y1 = z1
            · subst h1
              have h2 : ¬ y2 = z2 := fun e => hq (by rw [e])
              clear hq
              go_wp2_with fail
              go_quiet (fail)
              go_wp2
              go_ret
              exact ⟨by rw [decide_eq_false HN.out]; rfl, belowDrewN' BW.out _⟩
            · clear hq
              go_wp2_with fail
              go_quiet (fail)
              go_wp2
              go_ret
              exact ⟨by rw [decide_eq_false HN.out]; rfl, belowDrewN' BW.out _⟩
          · clear hq
            go_wp2_with fail
            go_quiet (fail)
            go_wp2
            go_ret
            exact ⟨by rw [decide_eq_false HN.out]; rfl, belowDrewN' BW.out _⟩
      · have hltz : ¬ (kk : Int) < (n : Int) := by omega
        obtain rfl : kk = n := by omega
        go_wp2
        go_ret
        exact ⟨by rw [decide_eq_true (same_holds hs.len hs'.len AA.out)]; rfl, BW.out⟩
  · have hn' : ¬ xs = ys := fun e => hn (by rw [← hs.len, ← hs'.len, e])
    rw [decide_eq_false hn']
    have hnz : ¬ (n : Int) = (n' : Int) := by omega
    go_enter Tryz.func43, Tryz.ntmps43
    go_wp2
    go_ret
    exact ⟨rfl, Below.refl _ _⟩
set_option maxHeartbeats 1000000 in
theorem l21Orders_any (A A' : Option Addr) (n n' c c' : Nat) (xs ys : List (Int × Int × Int)) (w : World) (hs : Sl w 3 eO A n c xs) (hs' : Sl w 3 eO A' n' c' ys) :
    Calls Tryz.prog 34 #[.slice A n c, .slice A' n' c'] w fun e w' => .returned (.bool (decide (xs = ys))) = e ∧ Below w.heap.size w w' := by
  have hle := hs.le
  have hmax := hs.max
  have hle' := hs'.le
  have hmax' := hs'.max
  by_cases hn : n = n'
  · subst hn
    go_enter Tryz.func34, Tryz.ntmps34
    go_wp2
    go_loopg [5] n (fun gg s3 wr => ∃ kk : Nat, kk ≤ n ∧ n - kk ≤ gg ∧ s3 = .int .i64 kk ∧ Aside (Below w.heap.size w wr) ∧ Aside (∀ j, j < kk → xs[j]? = ys[j]?))
    case atStart => exact ⟨0, Nat.zero_le _, by omega, rfl, (show Aside _ from Below.refl _ _), fun j hj => absurd hj (Nat.not_lt_zero _)⟩
    case round =>
      obtain ⟨kk, hkk, hg, rfl, BW, AA⟩ := hrel
      by_cases hlt : kk < n
      · have hltz : (kk : Int) < (n : Int) := by omega
        obtain ⟨b, o, rfl, y, hy, hc⟩ := hs.nth hlt BW.out
        obtain ⟨b', o', rfl, y', hy', hc'⟩ := hs'.nth hlt BW.out
        have q0 := hc 0 _ rfl
        have q1 := hc 1 _ rfl
        have q2 := hc 2 _ rfl
        have r0 := hc' 0 _ rfl
        have r1 := hc' 1 _ rfl
        have r2 := hc' 2 _ rfl
        clear hc hc'
        simp only [eO, Nat.add_zero] at q0 q1 q2 r0 r1 r2
        have HX := Lib.hid hy
        have HY := Lib.hid hy'
        clear hy hy'
        by_cases hq : y = y'
        · subst hq
          go_wp2_with fail
          go_quiet (fail)
          go_wp2
          go_roundg (n - (kk + 1))
          case measure => omega
          case rel => exact ⟨kk + 1, by omega, by omega, by go_num, (show Aside _ from belowDrewN' BW.out _), (show Aside _ from same_step AA.out HX.out HY.out)⟩
        · have HN := Lib.hid (same_fails HX.out HY.out hq)
          obtain ⟨y0, y1, y2⟩ := y
          obtain ⟨z0, z1, z2⟩ := y'
          simp only [] at q0 q1 q2 r0 r1 r2
          clear HX HY
          by_cases h0 : y0 = z0
          · subst h0
            by_cases h1 : y1 = z1
            · subst h1
              have h2 : ¬ y2 = z2 := fun e => hq (by rw [e])
              clear hq
              go_wp2_with fail
              go_quiet (fail)
              go_wp2
              go_ret
              exact ⟨by rw [decide_eq_false HN.out]; rfl, belowDrewN' BW.out _⟩
            · clear hq
              go_wp2_with fail
              go_quiet (fail)
              go_wp2
              go_ret
              exact ⟨by rw [decide_eq_false HN.out]; rfl, belowDrewN' BW.out _⟩
          · clear hq
            go_wp2_with fail
            go_quiet (fail)
            go_wp2
            go_ret
            exact ⟨by rw [decide_eq_false HN.out]; rfl, belowDrewN' BW.out _⟩
      · have hltz : ¬ (kk : Int) < (n : Int) := by omega
        obtain rfl : kk = n := by omega
        go_wp2
        go_ret
        exact ⟨by rw [decide_eq_true (same_holds hs.len hs'.len AA.out)]; rfl, BW.out⟩
  · have hn' : ¬ xs = ys := fun e => hn (by rw [← hs.len, ← hs'.len, e])
    rw [decide_eq_false hn']
    have hnz : ¬ (n : Int) = (n' : Int) := by omega
    go_enter Tryz.func34, Tryz.ntmps34
    go_wp2
    go_ret
    exact ⟨rfl, Below.refl _ _⟩
end Go.Proofs.YtckgdlgdipfgmaaGreat
