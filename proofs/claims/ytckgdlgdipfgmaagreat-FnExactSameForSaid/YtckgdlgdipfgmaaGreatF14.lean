/- SetupNumbers of the reference. -/
import Derived.Test.YtckgdlgdipfgmaaGreatF12

namespace Go.Proofs.YtckgdlgdipfgmaaGreat
set_option linter.unusedVariables false
set_option linter.unusedSimpArgs false
open Go.RowKit

def relSW (q5 b9 o9 n9 c9 jj : Nat) (v3 : Value) (bs sz wi : Int) : Nat → Value → World → Prop
  | 0, v, _ => v = v3
  | 1, v, _ => v = .pointer (some ⟨q5, 0, none⟩)
  | 2, v, _ => v = .slice (some ⟨b9, o9, none⟩) n9 c9
  | 3, v, _ => v = .int .i64 jj
  | 4, v, _ => v = .pointer (some ⟨b9, o9 + jj * 3, none⟩)
  | 5, v, _ => v = .pointer (some ⟨b9, o9 + jj * 3, none⟩)
  | 6, v, _ => v = .int .i64 bs
  | 7, v, _ => v = .pointer (some ⟨q5, 0, none⟩)
  | 8, v, _ => v = .slice (some ⟨b9, o9, none⟩) n9 c9
  | 9, v, _ => v = .int .i64 jj
  | 10, v, _ => v = .pointer (some ⟨b9, o9 + jj * 3, none⟩)
  | 11, v, _ => v = .pointer (some ⟨b9, o9 + jj * 3 + 1, none⟩)
  | 12, v, _ => v = .int .i64 sz
  | 13, v, _ => v = .int .i64 wi
  | 14, v, W => ∃ g, v = .slice (some ⟨g, 0, none⟩) 3 3 ∧ Blk W g 3 #[.int .i64 bs, .int .i64 sz, .int .i64 wi]
  | _, _, _ => True
theorem relSW_below (q5 b9 o9 n9 c9 jj : Nat) (v3 : Value) (bs sz wi : Int) {i : Nat} {v : Value} {w w' : World} (h : relSW q5 b9 o9 n9 c9 jj v3 bs sz wi i v w) (hb : Below w.heap.size w w') : relSW q5 b9 o9 n9 c9 jj v3 bs sz wi i v w' := by
  match i, h with
  | 0, h => exact h
  | 1, h => exact h
  | 2, h => exact h
  | 3, h => exact h
  | 4, h => exact h
  | 5, h => exact h
  | 6, h => exact h
  | 7, h => exact h
  | 8, h => exact h
  | 9, h => exact h
  | 10, h => exact h
  | 11, h => exact h
  | 12, h => exact h
  | 13, h => exact h
  | 14, ⟨g, e, B⟩ => exact ⟨g, e, B.below hb⟩
  | n + 15, _ => trivial

def relSS (q b9 o9 n9 c9 jj : Nat) (v3 : Value) (sa sd : Int) : Nat → Value → World → Prop
  | 0, v, _ => v = v3
  | 1, v, _ => v = .pointer (some ⟨q, 2, none⟩)
  | 2, v, _ => v = .slice (some ⟨b9, o9, none⟩) n9 c9
  | 3, v, _ => v = .int .i64 jj
  | 4, v, _ => v = .pointer (some ⟨b9, o9 + jj * 2, none⟩)
  | 5, v, _ => v = .pointer (some ⟨b9, o9 + jj * 2, none⟩)
  | 6, v, _ => v = .int .i64 sa
  | 7, v, _ => v = .int .i64 (IntKind.i64.wrap (sa + 1))
  | 8, v, _ => v = .pointer (some ⟨q, 2, none⟩)
  | 9, v, _ => v = .slice (some ⟨b9, o9, none⟩) n9 c9
  | 10, v, _ => v = .int .i64 jj
  | 11, v, _ => v = .pointer (some ⟨b9, o9 + jj * 2, none⟩)
  | 12, v, _ => v = .pointer (some ⟨b9, o9 + jj * 2 + 1, none⟩)
  | 13, v, _ => v = .int .i64 sd
  | 14, v, W => ∃ g, v = .slice (some ⟨g, 0, none⟩) 2 2 ∧ Blk W g 3 #[.int .i64 (IntKind.i64.wrap (sa + 1)), .int .i64 sd]
  | _, _, _ => True
theorem relSS_below (q b9 o9 n9 c9 jj : Nat) (v3 : Value) (sa sd : Int) {i : Nat} {v : Value} {w w' : World} (h : relSS q b9 o9 n9 c9 jj v3 sa sd i v w) (hb : Below w.heap.size w w') : relSS q b9 o9 n9 c9 jj v3 sa sd i v w' := by
  match i, h with
  | 0, h => exact h
  | 1, h => exact h
  | 2, h => exact h
  | 3, h => exact h
  | 4, h => exact h
  | 5, h => exact h
  | 6, h => exact h
  | 7, h => exact h
  | 8, h => exact h
  | 9, h => exact h
  | 10, h => exact h
  | 11, h => exact h
  | 12, h => exact h
  | 13, h => exact h
  | 14, ⟨g, e, B⟩ => exact ⟨g, e, B.below hb⟩
  | n + 15, _ => trivial

set_option maxRecDepth 100000 in
set_option maxHeartbeats 8000000 in
theorem specSetupNumbers_any (s : SetR) (w : World) (h : okS w s) :
    Calls Tryz.prog 32 #[setV s] w (Post SV.v fun s' w' => okF 1 eI w' s' ∧ s'.xs = numsC (cS s) ∧ Below w.heap.size w w') := by
  obtain ⟨⟨A1, n1, c1, x1⟩, ⟨A2, n2, c2, x2⟩, ⟨A3, n3, c3, x3⟩⟩ := s
  have hs1 : Sl w 2 eP A1 n1 c1 x1 := h.1.1
  have HP := Lib.hid (show ∀ y ∈ x1, okP w y from h.1.2)
  have hs2 : Sl w 4 eC A2 n2 c2 x2 := h.2.1
  have hs3 : Sl w 2 eS A3 n3 c3 x3 := h.2.2
  have hle1 := hs1.le
  have hmax1 := hs1.max
  have hle2 := hs2.le
  have hmax2 := hs2.max
  have hle3 := hs3.le
  have hmax3 := hs3.max
  have hb0 := alo (Below.refl w.heap.size w) (.cells #[.slice A1 n1 c1, .slice A2 n2 c2, .slice A3 n3 c3] 38)
  have B0 := Blk.new w 38 #[.slice A1 n1 c1, .slice A2 n2 c2, .slice A3 n3 c3]
  have hq := specSetupValid_any _ _ (h.below hb0)
  have hgw : w.heap.size < (w.alloc (.cells #[.slice A1 n1 c1, .slice A2 n2 c2, .slice A3 n3 c3] 38)).heap.size := by simp
  obtain ⟨C, hC⟩ : ∃ C : SetC, cS ((⟨A1, n1, c1, x1⟩, ⟨A2, n2, c2, x2⟩, ⟨A3, n3, c3, x3⟩) : SetR) = C := ⟨_, rfl⟩
  rw [hC] at hq ⊢
  simp only [setV, SV.v_mk] at hq ⊢
  have E1 : C.1 = x1.map cP := by rw [← hC]; rfl
  have E2 : C.2.1 = x2 := by rw [← hC]; rfl
  have E3 : C.2.2 = x3 := by rw [← hC]; rfl
  have L1 : C.1.length = n1 := by rw [E1, List.length_map]; exact hs1.len
  clear hC h
  skip
  skip
  have cB0_0 := B0.c0; have cB0_1 := B0.c1; have cB0_2 := B0.c2; have fB0 := B0.frozen
  obtain ⟨v1, hv1⟩ : ∃ v, setupOkC C = v := ⟨_, rfl⟩
  rw [hv1] at hq
  have HR := Lib.hid (show numsC C = if v1 then numsL C else [] from by unfold numsC; rw [hv1])
  cases v1
  · go_enter Tryz.func32, Tryz.ntmps32
    go_wp2_with fail
    refine hq.mono ?_
    rintro e w1 ⟨rfl, hb1⟩
    go_wp2
    go_ret
    exact ⟨⟨some ⟨w1.heap.size, 0, none⟩, 0, 0, []⟩, rfl, ⟨rfl, Nat.le_refl _, by simp, fun h => absurd h (by simp)⟩, by rw [HR.out]; rfl, alo (thn hb0 hb1) _⟩
  · have hP12 := Lib.hid (show ∀ y ∈ x1, y.1.n ≤ 12 from fun y hy => by
      have h1 := su_win hv1 (cP y) (by rw [E1]; exact List.mem_map_of_mem hy)
      have h2 := Sl.len (HP.out y hy)
      simp only [cP] at h1
      omega)
    have hSl := Lib.hid (show ∀ y ∈ x3, -1 ≤ y.1 ∧ y.1 ≤ 4 from fun y hy => su_slot hv1 y (by rw [E3]; exact hy))
    have hPn := Lib.hid (fun k => show (partsN ((x1.map cP).take k)).length ≤ 190 from by have := partsN_len hv1 k; rw [E1] at this; exact this)
    have hCn := Lib.hid (fun k => show (chansN (x2.take k)).length ≤ 32 from by
      have h1 := flat_take_len (f := chanN) (m := 4) (fun _ => rfl) x2 k
      have h2 := su_nc hv1
      rw [E2] at h2
      unfold chansN
      omega)
    have hSn := Lib.hid (fun k => show (slotsN (x3.take k)).length ≤ 24 from by
      have h1 := flat_take_len (f := slotN) (m := 2) (fun _ => rfl) x3 k
      have h2 := su_ns hv1
      rw [E3] at h2
      unfold slotsN
      omega)
    have hl2 := hs2.len
    have hl3 := hs3.len
    have hl1 := hs1.len
    have HN := Lib.hid (show numsC C = (((([(n1 : Int)] ++ partsN ((x1.map cP).take n1)) ++ [(n2 : Int)]) ++ chansN (x2.take n2)) ++ [(n3 : Int)]) ++ slotsN (x3.take n3) from by
      rw [HR.out, if_pos rfl]
      unfold numsL
      rw [L1, E1, E2, E3, hl2, hl3, List.take_of_length_le (show (x1.map cP).length ≤ n1 by rw [List.length_map]; omega), List.take_of_length_le (show x2.length ≤ n2 by omega), List.take_of_length_le (show x3.length ≤ n3 by omega)])
    clear E1 E2 E3 L1 hv1 HR hl1 hl2 hl3
    go_enter Tryz.func32, Tryz.ntmps32
    go_wp2_with fail
    generalize w.alloc (.cells #[.slice A1 n1 c1, .slice A2 n2 c2, .slice A3 n3 c3] 38) = W at *
    refine hq.mono ?_
    rintro e w1 ⟨rfl, hb1⟩
    have hsW1 := hs1.below hb0
    have hsW2 := hs2.below hb0
    have hsW3 := hs3.below hb0
    have B0w := B0.below hb1
    clear cB0_0 cB0_1 cB0_2 fB0
    have z0 := B0w.c0
    have own0 := Own.of_blk (base := W.heap.size) (xs := [(n1 : Int)]) (enc := eI) (Blk.new w1 3 #[.int .i64 n1]) hb1.size encI (by simp [maxLen])
    have hb2 := alo hb1 (.cells #[.int .i64 n1] 3)
    simp only [List.length_singleton] at own0
    clear hq hb1 B0w
    go_wp2_with fail
    clear z0
    go_loopg [3, 4] n1 (fun gg s3 s4 wr => ∃ (kk : Nat) (v : Value), kk ≤ n1 ∧ n1 - kk ≤ gg ∧ s3 = v ∧ s4 = .int .i64 kk ∧ Aside (Below W.heap.size W wr) ∧ Aside (Own wr W.heap.size 3 1 eI v ([(n1 : Int)] ++ partsN ((x1.map cP).take kk))))
    case atStart => exact ⟨0, _, Nat.zero_le _, by omega, rfl, rfl, (show Aside _ from hb2), (show Aside _ from own0)⟩
    case round =>
      obtain ⟨kk, v, hkk, hg, hv3, rfl, BW, OW⟩ := hrel
      replace hv3 := hv3.symm
      subst hv3
      clear own0 hb2
      have own6 := OW.out
      have hbw := BW.out
      clear OW BW
      by_cases hlt : kk < n1
      · have hltz : (kk : Int) < (n1 : Int) := by omega
        have z0 := (B0.below hbw).c0
        obtain ⟨b1, o1, rfl, y1, hx1, hc1⟩ := hsW1.nth hlt hbw
        have q0 := hc1 0 _ rfl
        have q1 := hc1 1 _ rfl
        have hm1 := List.mem_of_getElem? hx1
        have hP9 := Lib.hid (fun V (hV : Below W.heap.size W V) => okP.below (HP.out y1 hm1) (thn hb0 hV))
        have h12 := hP12.out y1 hm1
        have HT := Lib.hid (show partsN ((x1.map cP).take (kk + 1)) = partsN ((x1.map cP).take kk) ++ partN (cP y1) from flat_step (mapAt (f := cP) hx1))
        have hpn := hPn.out kk
        clear hc1 hx1 hm1
        obtain ⟨⟨A9, n9, c9, x9⟩, m9⟩ := y1
        simp only [eP, SV.v, Nat.add_zero] at q0 q1 h12
        simp only [okP] at hP9
        have hy1 := hP9.out _ hbw
        have hle9 := hy1.le
        have hmax9 := hy1.max
        have hl9 := hy1.len
        have HT2 := Lib.hid (show partN (cP (⟨A9, n9, c9, x9⟩, m9)) = [m9, (n9 : Int)] ++ winsN (x9.take n9) from by simp only [partN, cP]; rw [hl9, List.take_of_length_le (Nat.le_of_eq hl9)])
        have B5 := Blk.new wr 118 #[.slice A9 n9 c9, .int .i64 m9]
        have B5z := B5.alloc (.cells #[.int .i64 m9, .int .i64 n9] 3)
        have x0 := B5.c0
        have x1' := B5.c1
        have own7 := (own6.alloc (.cells #[.slice A9 n9 c9, .int .i64 m9] 118)).alloc (.cells #[.int .i64 m9, .int .i64 n9] 3)
        have hbY := alo (alo hbw (.cells #[.slice A9 n9 c9, .int .i64 m9] 118)) (.cells #[.int .i64 m9, .int .i64 n9] 3)
        have src7 := Sl.of_blk (xs := [m9, (n9 : Int)]) (Blk.new2 wr (.cells #[.slice A9 n9 c9, .int .i64 m9] 118) 3 #[.int .i64 m9, .int .i64 n9]) encI (by simp)
        have hlen7 : ([(n1 : Int)] ++ partsN ((x1.map cP).take kk)).length + 2 ≤ 100000000 := by rw [List.length_append, List.length_singleton]; omega
        go_wp2_with (at_builtin; refine app_own rfl _ _ appInt rfl encI W.heap.size _ _ rfl own7 _ 2 2 [m9, (n9 : Int)] rfl (fun e => by cases e) src7 hlen7 hbY.size ?_; intro v5 w5 own5 hg5; have hb5 := belowApp hbY own7 hg5 (Nat.le_refl _) hbY.size; have B5a := B5z.appO hg5 (own7.neBlk B5z (by decide)); clear hg5)
        clear own7 own6 src7 hlen7 hbY B5z B5 x0 x1' hy1 hbw q0 q1 z0
        have hld : ([(n1 : Int)] ++ partsN ((x1.map cP).take kk)).length ≤ 191 := by rw [List.length_append, List.length_singleton]; omega
        generalize hLd : [(n1 : Int)] ++ partsN ((x1.map cP).take kk) = Ld at own5 hld
        replace hLd := Lib.hid hLd
        generalize wr.heap.size = g5 at B5a ⊢
        go_loopg [3, 6] n9 (fun gg s3 s6 wr => ∃ (jj : Nat) (v : Value), jj ≤ n9 ∧ n9 - jj ≤ gg ∧ s3 = v ∧ s6 = .int .i64 jj ∧ Aside (Below W.heap.size W wr) ∧ Aside (Blk wr g5 118 #[.slice A9 n9 c9, .int .i64 m9]) ∧ Aside (Own wr W.heap.size 3 1 eI v ((Ld ++ [m9, (n9 : Int)]) ++ winsN (x9.take jj))))
        case atStart => exact ⟨0, _, Nat.zero_le _, by omega, rfl, rfl, (show Aside _ from hb5), (show Aside _ from B5a), (show Aside _ from by rw [List.take_zero, show winsN [] = [] from rfl, List.append_nil]; exact own5)⟩
        case round =>
          obtain ⟨jj, v, hjj, hgj, hv3, rfl, BW, BB, OW⟩ := hrel
          replace hv3 := hv3.symm
          subst hv3
          clear own5 hb5 B5a
          have own6 := OW.out
          have hbw := BW.out
          have B5 := BB.out
          clear OW BW BB
          have x0 := B5.c0
          by_cases hlj : jj < n9
          · have hljz : (jj : Int) < (n9 : Int) := by omega
            obtain ⟨b9, o9, rfl, z, hxz, hcz⟩ := (hP9.out _ hbw).nth hlj (Below.refl _ _)
            have r0 := hcz 0 _ rfl
            have r1 := hcz 1 _ rfl
            have r2 := hcz 2 _ rfl
            have HWx := Lib.hid (show winsN (x9.take (jj + 1)) = winsN (x9.take jj) ++ winN z from flat_step hxz)
            clear hcz hxz
            obtain ⟨bs, sz, wb⟩ := z
            simp only [Win.cells, Nat.add_zero] at r0 r1 r2
            simp only [winN] at HWx
            have q0 : ∀ V, Below wr.heap.size wr V → V.cell? ⟨b9, o9 + jj * 3, none⟩ = some (.int .i64 bs) := fun V h => (h.cell (p := ⟨b9, o9 + jj * 3, none⟩) (World.block_lt_of_cell? _ _ r0)).trans r0
            have q1 : ∀ V, Below wr.heap.size wr V → V.cell? ⟨b9, o9 + jj * 3 + 1, none⟩ = some (.int .i64 sz) := fun V h => (h.cell (p := ⟨b9, o9 + jj * 3 + 1, none⟩) (World.block_lt_of_cell? _ _ r1)).trans r1
            have hwl : (winsN (x9.take jj)).length ≤ 36 := by
              rw [winsN_len, List.length_take]; omega
            have hlen9 : ((Ld ++ [m9, (n9 : Int)]) ++ winsN (x9.take jj)).length + 3 ≤ 100000000 := by
              rw [List.length_append, List.length_append, List.length_cons, List.length_singleton]; omega
            clear r0 r1
            cases wb
            · have HW := Lib.hid (show winsN (x9.take (jj + 1)) = winsN (x9.take jj) ++ [bs, sz, 0] from by rw [HWx.out, bitI_false])
              clear HWx
              go_wp2_with fail
              clear r2 x0
              refine region_rel (by kernel_rfl) (fun iz vz wz => relSW g5 b9 o9 n9 c9 jj v bs sz 0 iz vz wz) (fun wz wz' => Below wz.heap.size wz wz') (fun _ wz' => Below wr.heap.size wr wz') 15 _ wr (by kernel_rfl) (by kernel_rfl) (fun iz vz wz wz' h hb => relSW_below g5 b9 o9 n9 c9 jj v bs sz 0 h hb) (fun wz => Below.refl _ _) (fun _ _ _ _ h => h) (show Below wr.heap.size wr wr.drew from (Below.refl _ _).drew) ?_ ?_
              · intro i o him ho a wa cc hcc hJ hfr hdep
                have B5 := B5.below hJ
                have c_q0 := q0 wa hJ
                have c_q1 := q1 wa hJ
                have cB5_0 := B5.c0; have cB5_1 := B5.c1; have fB5 := B5.frozen
                match i, ho, him with
                | 0, ho, _ =>
                  injection ho with ho
                  subst ho
                  have h3 := hfr.2.2 3 (drawFrM_spec (by kernel_rfl))
                  clear hdep hfr
                  simp only [Array.getD_eq_getD_getElem?] at h3
                  refine .inl ⟨rfl, ?_⟩
                  unfold Oper.wp
                  go_simp
                  exact LeavesR.val rfl (Below.refl _ _) hJ
                | 1, ho, _ =>
                  injection ho with ho
                  subst ho
                  have h5 := hfr.2.2 5 (drawFrM_spec (by kernel_rfl))
                  clear hdep hfr
                  simp only [Array.getD_eq_getD_getElem?] at h5
                  refine .inl ⟨rfl, ?_⟩
                  unfold Oper.wp
                  go_simp
                  exact LeavesR.val rfl (Below.refl _ _) hJ
                | 2, ho, _ =>
                  injection ho with ho
                  subst ho
                  have h53 := hdep ⟨1, .data⟩ (by simp) (by kernel_rfl) _ 53 rfl rfl
                  clear hdep hfr
                  replace h53 : a.tmps.getD 53 undef = .pointer (some ⟨g5, 0, none⟩) := h53
                  simp only [Array.getD_eq_getD_getElem?] at h53
                  refine .inl ⟨rfl, ?_⟩
                  unfold Oper.wp
                  go_simp
                  exact LeavesR.val rfl (Below.refl _ _) hJ
                | 3, ho, _ =>
                  injection ho with ho
                  subst ho
                  have h6 := hfr.2.2 6 (drawFrM_spec (by kernel_rfl))
                  clear hdep hfr
                  simp only [Array.getD_eq_getD_getElem?] at h6
                  refine .inl ⟨rfl, ?_⟩
                  unfold Oper.wp
                  go_simp
                  exact LeavesR.val rfl (Below.refl _ _) hJ
                | 4, ho, _ =>
                  injection ho with ho
                  subst ho
                  have h54 := hdep ⟨2, .data⟩ (by simp) (by kernel_rfl) _ 54 rfl rfl
                  have h55 := hdep ⟨3, .data⟩ (by simp) (by kernel_rfl) _ 55 rfl rfl
                  clear hdep hfr
                  replace h54 : a.tmps.getD 54 undef = .slice (some ⟨b9, o9, none⟩) n9 c9 := h54
                  simp only [Array.getD_eq_getD_getElem?] at h54
                  replace h55 : a.tmps.getD 55 undef = .int .i64 jj := h55
                  simp only [Array.getD_eq_getD_getElem?] at h55
                  refine .inl ⟨rfl, ?_⟩
                  unfold Oper.wp
                  go_simp
                  exact LeavesR.val rfl (Below.refl _ _) hJ
                | 5, ho, _ =>
                  injection ho with ho
                  subst ho
                  have h56 := hdep ⟨4, .data⟩ (by simp) (by kernel_rfl) _ 56 rfl rfl
                  clear hdep hfr
                  replace h56 : a.tmps.getD 56 undef = .pointer (some ⟨b9, o9 + jj * 3, none⟩) := h56
                  simp only [Array.getD_eq_getD_getElem?] at h56
                  refine .inl ⟨rfl, ?_⟩
                  unfold Oper.wp
                  go_simp
                  exact LeavesR.val rfl (Below.refl _ _) hJ
                | 6, ho, _ =>
                  injection ho with ho
                  subst ho
                  have h57 := hdep ⟨5, .data⟩ (by simp) (by kernel_rfl) _ 57 rfl rfl
                  clear hdep hfr
                  replace h57 : a.tmps.getD 57 undef = .pointer (some ⟨b9, o9 + jj * 3, none⟩) := h57
                  simp only [Array.getD_eq_getD_getElem?] at h57
                  refine .inl ⟨rfl, ?_⟩
                  unfold Oper.wp
                  go_simp
                  exact LeavesR.val rfl (Below.refl _ _) hJ
                | 7, ho, _ =>
                  injection ho with ho
                  subst ho
                  have h5 := hfr.2.2 5 (drawFrM_spec (by kernel_rfl))
                  clear hdep hfr
                  simp only [Array.getD_eq_getD_getElem?] at h5
                  refine .inl ⟨rfl, ?_⟩
                  unfold Oper.wp
                  go_simp
                  exact LeavesR.val rfl (Below.refl _ _) hJ
                | 8, ho, _ =>
                  injection ho with ho
                  subst ho
                  have h59 := hdep ⟨7, .data⟩ (by simp) (by kernel_rfl) _ 59 rfl rfl
                  clear hdep hfr
                  replace h59 : a.tmps.getD 59 undef = .pointer (some ⟨g5, 0, none⟩) := h59
                  simp only [Array.getD_eq_getD_getElem?] at h59
                  refine .inl ⟨rfl, ?_⟩
                  unfold Oper.wp
                  go_simp
                  exact LeavesR.val rfl (Below.refl _ _) hJ
                | 9, ho, _ =>
                  injection ho with ho
                  subst ho
                  have h6 := hfr.2.2 6 (drawFrM_spec (by kernel_rfl))
                  clear hdep hfr
                  simp only [Array.getD_eq_getD_getElem?] at h6
                  refine .inl ⟨rfl, ?_⟩
                  unfold Oper.wp
                  go_simp
                  exact LeavesR.val rfl (Below.refl _ _) hJ
                | 10, ho, _ =>
                  injection ho with ho
                  subst ho
                  have h60 := hdep ⟨8, .data⟩ (by simp) (by kernel_rfl) _ 60 rfl rfl
                  have h61 := hdep ⟨9, .data⟩ (by simp) (by kernel_rfl) _ 61 rfl rfl
                  clear hdep hfr
                  replace h60 : a.tmps.getD 60 undef = .slice (some ⟨b9, o9, none⟩) n9 c9 := h60
                  simp only [Array.getD_eq_getD_getElem?] at h60
                  replace h61 : a.tmps.getD 61 undef = .int .i64 jj := h61
                  simp only [Array.getD_eq_getD_getElem?] at h61
                  refine .inl ⟨rfl, ?_⟩
                  unfold Oper.wp
                  go_simp
                  exact LeavesR.val rfl (Below.refl _ _) hJ
                | 11, ho, _ =>
                  injection ho with ho
                  subst ho
                  have h62 := hdep ⟨10, .data⟩ (by simp) (by kernel_rfl) _ 62 rfl rfl
                  clear hdep hfr
                  replace h62 : a.tmps.getD 62 undef = .pointer (some ⟨b9, o9 + jj * 3, none⟩) := h62
                  simp only [Array.getD_eq_getD_getElem?] at h62
                  refine .inl ⟨rfl, ?_⟩
                  unfold Oper.wp
                  go_simp
                  exact LeavesR.val rfl (Below.refl _ _) hJ
                | 12, ho, _ =>
                  injection ho with ho
                  subst ho
                  have h63 := hdep ⟨11, .data⟩ (by simp) (by kernel_rfl) _ 63 rfl rfl
                  clear hdep hfr
                  replace h63 : a.tmps.getD 63 undef = .pointer (some ⟨b9, o9 + jj * 3 + 1, none⟩) := h63
                  simp only [Array.getD_eq_getD_getElem?] at h63
                  refine .inl ⟨rfl, ?_⟩
                  unfold Oper.wp
                  go_simp
                  exact LeavesR.val rfl (Below.refl _ _) hJ
                | 13, ho, _ =>
                  injection ho with ho
                  subst ho
                  have h7 := hfr.2.2 7 (drawFrM_spec (by kernel_rfl))
                  clear hdep hfr
                  simp only [Array.getD_eq_getD_getElem?] at h7
                  refine .inl ⟨rfl, ?_⟩
                  unfold Oper.wp
                  go_simp
                  exact LeavesR.val rfl (Below.refl _ _) hJ
                | 14, ho, _ =>
                  injection ho with ho
                  subst ho
                  have h58 := hdep ⟨6, .data⟩ (by simp) (by kernel_rfl) _ 58 rfl rfl
                  have h64 := hdep ⟨12, .data⟩ (by simp) (by kernel_rfl) _ 64 rfl rfl
                  have h65 := hdep ⟨13, .data⟩ (by simp) (by kernel_rfl) _ 65 rfl rfl
                  clear hdep hfr
                  replace h58 : a.tmps.getD 58 undef = .int .i64 bs := h58
                  simp only [Array.getD_eq_getD_getElem?] at h58
                  replace h64 : a.tmps.getD 64 undef = .int .i64 sz := h64
                  simp only [Array.getD_eq_getD_getElem?] at h64
                  replace h65 : a.tmps.getD 65 undef = .int .i64 0 := h65
                  simp only [Array.getD_eq_getD_getElem?] at h65
                  refine .inl ⟨rfl, ?_⟩
                  unfold Oper.wp
                  go_simp
                  exact LeavesR.val ⟨_, rfl, Blk.new wa _ _⟩ (alo (Below.refl _ _) _) (alo hJ _)
                | n + 15, _, him => exact absurd him (by omega)
              · intro V w9 hV hJ
                have hV0 := hV 0 _ 52 (by decide) rfl rfl
                replace hV0 : V 0 = v := hV0
                have hV1 := hV 1 _ 53 (by decide) rfl rfl
                replace hV1 : V 1 = .pointer (some ⟨g5, 0, none⟩) := hV1
                have hV2 := hV 2 _ 54 (by decide) rfl rfl
                replace hV2 : V 2 = .slice (some ⟨b9, o9, none⟩) n9 c9 := hV2
                have hV3 := hV 3 _ 55 (by decide) rfl rfl
                replace hV3 : V 3 = .int .i64 jj := hV3
                have hV4 := hV 4 _ 56 (by decide) rfl rfl
                replace hV4 : V 4 = .pointer (some ⟨b9, o9 + jj * 3, none⟩) := hV4
                have hV5 := hV 5 _ 57 (by decide) rfl rfl
                replace hV5 : V 5 = .pointer (some ⟨b9, o9 + jj * 3, none⟩) := hV5
                have hV6 := hV 6 _ 58 (by decide) rfl rfl
                replace hV6 : V 6 = .int .i64 bs := hV6
                have hV7 := hV 7 _ 59 (by decide) rfl rfl
                replace hV7 : V 7 = .pointer (some ⟨g5, 0, none⟩) := hV7
                have hV8 := hV 8 _ 60 (by decide) rfl rfl
                replace hV8 : V 8 = .slice (some ⟨b9, o9, none⟩) n9 c9 := hV8
                have hV9 := hV 9 _ 61 (by decide) rfl rfl
                replace hV9 : V 9 = .int .i64 jj := hV9
                have hV10 := hV 10 _ 62 (by decide) rfl rfl
                replace hV10 : V 10 = .pointer (some ⟨b9, o9 + jj * 3, none⟩) := hV10
                have hV11 := hV 11 _ 63 (by decide) rfl rfl
                replace hV11 : V 11 = .pointer (some ⟨b9, o9 + jj * 3 + 1, none⟩) := hV11
                have hV12 := hV 12 _ 64 (by decide) rfl rfl
                replace hV12 : V 12 = .int .i64 sz := hV12
                have hV13 := hV 13 _ 65 (by decide) rfl rfl
                replace hV13 : V 13 = .int .i64 0 := hV13
                obtain ⟨gE66, hV14, NE66⟩ := hV 14 _ 66 (by decide) rfl rfl
                clear hV
                simp only [puts, List.drop, Act.put, List.getElem?_toArray, List.getElem?_cons_succ, List.getElem?_cons_zero, List.setIfInBounds_toArray, List.set_cons_succ, List.set_cons_zero, hV0, hV1, hV2, hV3, hV4, hV5, hV6, hV7, hV8, hV9, hV10, hV11, hV12, hV13, hV14]
                clear hV0 hV1 hV2 hV3 hV4 hV5 hV6 hV7 hV8 hV9 hV10 hV11 hV12 hV13 hV14
                replace B5 := B5.below hJ
                have c_q0 := q0 w9 hJ
                have c_q1 := q1 w9 hJ
                have own9 := own6.below hJ
                have hb9 := thn hbw hJ
                have src9 := Sl.of_blk (xs := [bs, sz, 0]) NE66 encI (by simp)
                at_builtin
                refine app_own rfl _ _ appInt rfl encI W.heap.size _ _ rfl own9 _ 3 3 [bs, sz, 0] rfl (fun e => by cases e) src9 hlen9 hb9.size ?_
                intro v10 w10 own10 hg10
                have hb10 := belowApp hb9 own9 hg10 (Nat.le_refl _) hb9.size
                have B5a := B5.appO hg10 (own9.neBlk B5 (by decide))
                go_wp2
                go_roundg (n9 - (jj + 1))
                case measure => omega
                case rel => exact ⟨jj + 1, _, by omega, by omega, rfl, by go_num, (show Aside _ from hb10), (show Aside _ from B5a), (show Aside _ from by rw [HW.out, ← List.append_assoc]; exact own10)⟩
            · have HW := Lib.hid (show winsN (x9.take (jj + 1)) = winsN (x9.take jj) ++ [bs, sz, 1] from by rw [HWx.out, bitI_true])
              clear HWx
              go_wp2_with fail
              clear r2 x0
              refine region_rel (by kernel_rfl) (fun iz vz wz => relSW g5 b9 o9 n9 c9 jj v bs sz 1 iz vz wz) (fun wz wz' => Below wz.heap.size wz wz') (fun _ wz' => Below wr.heap.size wr wz') 15 _ wr (by kernel_rfl) (by kernel_rfl) (fun iz vz wz wz' h hb => relSW_below g5 b9 o9 n9 c9 jj v bs sz 1 h hb) (fun wz => Below.refl _ _) (fun _ _ _ _ h => h) (show Below wr.heap.size wr wr.drew from (Below.refl _ _).drew) ?_ ?_
              · intro i o him ho a wa cc hcc hJ hfr hdep
                have B5 := B5.below hJ
                have c_q0 := q0 wa hJ
                have c_q1 := q1 wa hJ
                have cB5_0 := B5.c0; have cB5_1 := B5.c1; have fB5 := B5.frozen
                match i, ho, him with
                | 0, ho, _ =>
                  injection ho with ho
                  subst ho
                  have h3 := hfr.2.2 3 (drawFrM_spec (by kernel_rfl))
                  clear hdep hfr
                  simp only [Array.getD_eq_getD_getElem?] at h3
                  refine .inl ⟨rfl, ?_⟩
                  unfold Oper.wp
                  go_simp
                  exact LeavesR.val rfl (Below.refl _ _) hJ
                | 1, ho, _ =>
                  injection ho with ho
                  subst ho
                  have h5 := hfr.2.2 5 (drawFrM_spec (by kernel_rfl))
                  clear hdep hfr
                  simp only [Array.getD_eq_getD_getElem?] at h5
                  refine .inl ⟨rfl, ?_⟩
                  unfold Oper.wp
                  go_simp
                  exact LeavesR.val rfl (Below.refl _ _) hJ
                | 2, ho, _ =>
                  injection ho with ho
                  subst ho
                  have h53 := hdep ⟨1, .data⟩ (by simp) (by kernel_rfl) _ 53 rfl rfl
                  clear hdep hfr
                  replace h53 : a.tmps.getD 53 undef = .pointer (some ⟨g5, 0, none⟩) := h53
                  simp only [Array.getD_eq_getD_getElem?] at h53
                  refine .inl ⟨rfl, ?_⟩
                  unfold Oper.wp
                  go_simp
                  exact LeavesR.val rfl (Below.refl _ _) hJ
                | 3, ho, _ =>
                  injection ho with ho
                  subst ho
                  have h6 := hfr.2.2 6 (drawFrM_spec (by kernel_rfl))
                  clear hdep hfr
                  simp only [Array.getD_eq_getD_getElem?] at h6
                  refine .inl ⟨rfl, ?_⟩
                  unfold Oper.wp
                  go_simp
                  exact LeavesR.val rfl (Below.refl _ _) hJ
                | 4, ho, _ =>
                  injection ho with ho
                  subst ho
                  have h54 := hdep ⟨2, .data⟩ (by simp) (by kernel_rfl) _ 54 rfl rfl
                  have h55 := hdep ⟨3, .data⟩ (by simp) (by kernel_rfl) _ 55 rfl rfl
                  clear hdep hfr
                  replace h54 : a.tmps.getD 54 undef = .slice (some ⟨b9, o9, none⟩) n9 c9 := h54
                  simp only [Array.getD_eq_getD_getElem?] at h54
                  replace h55 : a.tmps.getD 55 undef = .int .i64 jj := h55
                  simp only [Array.getD_eq_getD_getElem?] at h55
                  refine .inl ⟨rfl, ?_⟩
                  unfold Oper.wp
                  go_simp
                  exact LeavesR.val rfl (Below.refl _ _) hJ
                | 5, ho, _ =>
                  injection ho with ho
                  subst ho
                  have h56 := hdep ⟨4, .data⟩ (by simp) (by kernel_rfl) _ 56 rfl rfl
                  clear hdep hfr
                  replace h56 : a.tmps.getD 56 undef = .pointer (some ⟨b9, o9 + jj * 3, none⟩) := h56
                  simp only [Array.getD_eq_getD_getElem?] at h56
                  refine .inl ⟨rfl, ?_⟩
                  unfold Oper.wp
                  go_simp
                  exact LeavesR.val rfl (Below.refl _ _) hJ
                | 6, ho, _ =>
                  injection ho with ho
                  subst ho
                  have h57 := hdep ⟨5, .data⟩ (by simp) (by kernel_rfl) _ 57 rfl rfl
                  clear hdep hfr
                  replace h57 : a.tmps.getD 57 undef = .pointer (some ⟨b9, o9 + jj * 3, none⟩) := h57
                  simp only [Array.getD_eq_getD_getElem?] at h57
                  refine .inl ⟨rfl, ?_⟩
                  unfold Oper.wp
                  go_simp
                  exact LeavesR.val rfl (Below.refl _ _) hJ
                | 7, ho, _ =>
                  injection ho with ho
                  subst ho
                  have h5 := hfr.2.2 5 (drawFrM_spec (by kernel_rfl))
                  clear hdep hfr
                  simp only [Array.getD_eq_getD_getElem?] at h5
                  refine .inl ⟨rfl, ?_⟩
                  unfold Oper.wp
                  go_simp
                  exact LeavesR.val rfl (Below.refl _ _) hJ
                | 8, ho, _ =>
                  injection ho with ho
                  subst ho
                  have h59 := hdep ⟨7, .data⟩ (by simp) (by kernel_rfl) _ 59 rfl rfl
                  clear hdep hfr
                  replace h59 : a.tmps.getD 59 undef = .pointer (some ⟨g5, 0, none⟩) := h59
                  simp only [Array.getD_eq_getD_getElem?] at h59
                  refine .inl ⟨rfl, ?_⟩
                  unfold Oper.wp
                  go_simp
                  exact LeavesR.val rfl (Below.refl _ _) hJ
                | 9, ho, _ =>
                  injection ho with ho
                  subst ho
                  have h6 := hfr.2.2 6 (drawFrM_spec (by kernel_rfl))
                  clear hdep hfr
                  simp only [Array.getD_eq_getD_getElem?] at h6
                  refine .inl ⟨rfl, ?_⟩
                  unfold Oper.wp
                  go_simp
                  exact LeavesR.val rfl (Below.refl _ _) hJ
                | 10, ho, _ =>
                  injection ho with ho
                  subst ho
                  have h60 := hdep ⟨8, .data⟩ (by simp) (by kernel_rfl) _ 60 rfl rfl
                  have h61 := hdep ⟨9, .data⟩ (by simp) (by kernel_rfl) _ 61 rfl rfl
                  clear hdep hfr
                  replace h60 : a.tmps.getD 60 undef = .slice (some ⟨b9, o9, none⟩) n9 c9 := h60
                  simp only [Array.getD_eq_getD_getElem?] at h60
                  replace h61 : a.tmps.getD 61 undef = .int .i64 jj := h61
                  simp only [Array.getD_eq_getD_getElem?] at h61
                  refine .inl ⟨rfl, ?_⟩
                  unfold Oper.wp
                  go_simp
                  exact LeavesR.val rfl (Below.refl _ _) hJ
                | 11, ho, _ =>
                  injection ho with ho
                  subst ho
                  have h62 := hdep ⟨10, .data⟩ (by simp) (by kernel_rfl) _ 62 rfl rfl
                  clear hdep hfr
                  replace h62 : a.tmps.getD 62 undef = .pointer (some ⟨b9, o9 + jj * 3, none⟩) := h62
                  simp only [Array.getD_eq_getD_getElem?] at h62
                  refine .inl ⟨rfl, ?_⟩
                  unfold Oper.wp
                  go_simp
                  exact LeavesR.val rfl (Below.refl _ _) hJ
                | 12, ho, _ =>
                  injection ho with ho
                  subst ho
                  have h63 := hdep ⟨11, .data⟩ (by simp) (by kernel_rfl) _ 63 rfl rfl
                  clear hdep hfr
                  replace h63 : a.tmps.getD 63 undef = .pointer (some ⟨b9, o9 + jj * 3 + 1, none⟩) := h63
                  simp only [Array.getD_eq_getD_getElem?] at h63
                  refine .inl ⟨rfl, ?_⟩
                  unfold Oper.wp
                  go_simp
                  exact LeavesR.val rfl (Below.refl _ _) hJ
                | 13, ho, _ =>
                  injection ho with ho
                  subst ho
                  have h7 := hfr.2.2 7 (drawFrM_spec (by kernel_rfl))
                  clear hdep hfr
                  simp only [Array.getD_eq_getD_getElem?] at h7
                  refine .inl ⟨rfl, ?_⟩
                  unfold Oper.wp
                  go_simp
                  exact LeavesR.val rfl (Below.refl _ _) hJ
                | 14, ho, _ =>
                  injection ho with ho
                  subst ho
                  have h58 := hdep ⟨6, .data⟩ (by simp) (by kernel_rfl) _ 58 rfl rfl
                  have h64 := hdep ⟨12, .data⟩ (by simp) (by kernel_rfl) _ 64 rfl rfl
                  have h65 := hdep ⟨13, .data⟩ (by simp) (by kernel_rfl) _ 65 rfl rfl
                  clear hdep hfr
                  replace h58 : a.tmps.getD 58 undef = .int .i64 bs := h58
                  simp only [Array.getD_eq_getD_getElem?] at h58
                  replace h64 : a.tmps.getD 64 undef = .int .i64 sz := h64
                  simp only [Array.getD_eq_getD_getElem?] at h64
                  replace h65 : a.tmps.getD 65 undef = .int .i64 1 := h65
                  simp only [Array.getD_eq_getD_getElem?] at h65
                  refine .inl ⟨rfl, ?_⟩
                  unfold Oper.wp
                  go_simp
                  exact LeavesR.val ⟨_, rfl, Blk.new wa _ _⟩ (alo (Below.refl _ _) _) (alo hJ _)
                | n + 15, _, him => exact absurd him (by omega)
              · intro V w9 hV hJ
                have hV0 := hV 0 _ 52 (by decide) rfl rfl
                replace hV0 : V 0 = v := hV0
                have hV1 := hV 1 _ 53 (by decide) rfl rfl
                replace hV1 : V 1 = .pointer (some ⟨g5, 0, none⟩) := hV1
                have hV2 := hV 2 _ 54 (by decide) rfl rfl
                replace hV2 : V 2 = .slice (some ⟨b9, o9, none⟩) n9 c9 := hV2
                have hV3 := hV 3 _ 55 (by decide) rfl rfl
                replace hV3 : V 3 = .int .i64 jj := hV3
                have hV4 := hV 4 _ 56 (by decide) rfl rfl
                replace hV4 : V 4 = .pointer (some ⟨b9, o9 + jj * 3, none⟩) := hV4
                have hV5 := hV 5 _ 57 (by decide) rfl rfl
                replace hV5 : V 5 = .pointer (some ⟨b9, o9 + jj * 3, none⟩) := hV5
                have hV6 := hV 6 _ 58 (by decide) rfl rfl
                replace hV6 : V 6 = .int .i64 bs := hV6
                have hV7 := hV 7 _ 59 (by decide) rfl rfl
                replace hV7 : V 7 = .pointer (some ⟨g5, 0, none⟩) := hV7
                have hV8 := hV 8 _ 60 (by decide) rfl rfl
                replace hV8 : V 8 = .slice (some ⟨b9, o9, none⟩) n9 c9 := hV8
                have hV9 := hV 9 _ 61 (by decide) rfl rfl
                replace hV9 : V 9 = .int .i64 jj := hV9
                have hV10 := hV 10 _ 62 (by decide) rfl rfl
                replace hV10 : V 10 = .pointer (some ⟨b9, o9 + jj * 3, none⟩) := hV10
                have hV11 := hV 11 _ 63 (by decide) rfl rfl
                replace hV11 : V 11 = .pointer (some ⟨b9, o9 + jj * 3 + 1, none⟩) := hV11
                have hV12 := hV 12 _ 64 (by decide) rfl rfl
                replace hV12 : V 12 = .int .i64 sz := hV12
                have hV13 := hV 13 _ 65 (by decide) rfl rfl
                replace hV13 : V 13 = .int .i64 1 := hV13
                obtain ⟨gE66, hV14, NE66⟩ := hV 14 _ 66 (by decide) rfl rfl
                clear hV
                simp only [puts, List.drop, Act.put, List.getElem?_toArray, List.getElem?_cons_succ, List.getElem?_cons_zero, List.setIfInBounds_toArray, List.set_cons_succ, List.set_cons_zero, hV0, hV1, hV2, hV3, hV4, hV5, hV6, hV7, hV8, hV9, hV10, hV11, hV12, hV13, hV14]
                clear hV0 hV1 hV2 hV3 hV4 hV5 hV6 hV7 hV8 hV9 hV10 hV11 hV12 hV13 hV14
                replace B5 := B5.below hJ
                have c_q0 := q0 w9 hJ
                have c_q1 := q1 w9 hJ
                have own9 := own6.below hJ
                have hb9 := thn hbw hJ
                have src9 := Sl.of_blk (xs := [bs, sz, 1]) NE66 encI (by simp)
                at_builtin
                refine app_own rfl _ _ appInt rfl encI W.heap.size _ _ rfl own9 _ 3 3 [bs, sz, 1] rfl (fun e => by cases e) src9 hlen9 hb9.size ?_
                intro v10 w10 own10 hg10
                have hb10 := belowApp hb9 own9 hg10 (Nat.le_refl _) hb9.size
                have B5a := B5.appO hg10 (own9.neBlk B5 (by decide))
                go_wp2
                go_roundg (n9 - (jj + 1))
                case measure => omega
                case rel => exact ⟨jj + 1, _, by omega, by omega, rfl, by go_num, (show Aside _ from hb10), (show Aside _ from B5a), (show Aside _ from by rw [HW.out, ← List.append_assoc]; exact own10)⟩
          · have hljz : ¬ (jj : Int) < (n9 : Int) := by omega
            obtain rfl : n9 = jj := by omega
            have HE := Lib.hid (show [(n1 : Int)] ++ partsN ((x1.map cP).take (kk + 1)) = (Ld ++ [m9, (n9 : Int)]) ++ winsN (x9.take n9) from by rw [HT.out, HT2.out, ← hLd.out]; simp only [List.append_assoc])
            rw [← HE.out] at own6
            go_wp2
            go_roundg (n1 - (kk + 1))
            case measure => omega
            case rel => exact ⟨kk + 1, _, by omega, by omega, rfl, by go_num, (show Aside _ from hbw), (show Aside _ from own6)⟩
      · have hltz : ¬ (kk : Int) < (n1 : Int) := by omega
        obtain rfl : n1 = kk := by omega
        have hpn := hPn.out n1
        have hla : ([(n1 : Int)] ++ partsN ((x1.map cP).take n1)).length ≤ 191 := by rw [List.length_append, List.length_singleton]; omega
        generalize [(n1 : Int)] ++ partsN ((x1.map cP).take n1) = La at own6 hla HN
        have z0 := (B0.below hbw).c0
        have z1 := (B0.below hbw).c1
        have own7 := own6.alloc (.cells #[.int .i64 n2] 3)
        have hbY := alo hbw (.cells #[.int .i64 n2] 3)
        have src7 := Sl.of_blk (xs := [(n2 : Int)]) (Blk.new wr 3 #[.int .i64 n2]) encI (by simp)
        have hlen7 : La.length + 1 ≤ 100000000 := by omega
        go_wp2_with (at_builtin; refine app_own rfl _ _ appInt rfl encI W.heap.size _ _ rfl own7 _ 1 1 [(n2 : Int)] rfl (fun e => by cases e) src7 hlen7 hbY.size ?_; intro v5 w5 own5 hg5; have hb5 := belowApp hbY own7 hg5 (Nat.le_refl _) hbY.size; clear hg5)
        clear own7 own6 src7 hlen7 hbY z0 z1 hbw
        go_loopg [3, 8] n2 (fun gg s3 s8 wr => ∃ (kk : Nat) (v : Value), kk ≤ n2 ∧ n2 - kk ≤ gg ∧ s3 = v ∧ s8 = .int .i64 kk ∧ Aside (Below W.heap.size W wr) ∧ Aside (Own wr W.heap.size 3 1 eI v ((La ++ [(n2 : Int)]) ++ chansN (x2.take kk))))
        case atStart => exact ⟨0, _, Nat.zero_le _, by omega, rfl, rfl, (show Aside _ from hb5), (show Aside _ from by rw [List.take_zero, show chansN [] = [] from rfl, List.append_nil]; exact own5)⟩
        case round =>
          obtain ⟨kk, v, hkk, hg, hv3, rfl, BW, OW⟩ := hrel
          replace hv3 := hv3.symm
          subst hv3
          clear own5 hb5
          have own6 := OW.out
          have hbw := BW.out
          clear OW BW
          have hcn := hCn.out kk
          have z1 := (B0.below hbw).c1
          by_cases hlt : kk < n2
          · have hltz : (kk : Int) < (n2 : Int) := by omega
            obtain ⟨b1, o1, rfl, y1, hx1, hc1⟩ := hsW2.nth hlt hbw
            have q0 := hc1 0 _ rfl
            have q1 := hc1 1 _ rfl
            have q2 := hc1 2 _ rfl
            have q3 := hc1 3 _ rfl
            have HT := Lib.hid (show chansN (x2.take (kk + 1)) = chansN (x2.take kk) ++ chanN y1 from flat_step hx1)
            clear hc1 hx1
            obtain ⟨k2, f2, t2, z2⟩ := y1
            simp only [eC, Nat.add_zero] at q0 q1 q2 q3
            simp only [chanN] at HT
            have B8 := Blk.new wr 78 #[.int .i64 k2, .int .i64 f2, .int .i64 t2, .int .i64 z2]
            have x0 := B8.c0
            have x1' := B8.c1
            have x2' := B8.c2
            have x3' := B8.c3
            have own7 := (own6.alloc (.cells #[.int .i64 k2, .int .i64 f2, .int .i64 t2, .int .i64 z2] 78)).alloc (.cells #[.int .i64 k2, .int .i64 f2, .int .i64 t2, .int .i64 z2] 3)
            have hbY := alo (alo hbw (.cells #[.int .i64 k2, .int .i64 f2, .int .i64 t2, .int .i64 z2] 78)) (.cells #[.int .i64 k2, .int .i64 f2, .int .i64 t2, .int .i64 z2] 3)
            have src7 := Sl.of_blk (xs := [k2, f2, t2, z2]) (Blk.new2 wr (.cells #[.int .i64 k2, .int .i64 f2, .int .i64 t2, .int .i64 z2] 78) 3 #[.int .i64 k2, .int .i64 f2, .int .i64 t2, .int .i64 z2]) encI (by simp)
            have hlen7 : ((La ++ [(n2 : Int)]) ++ chansN (x2.take kk)).length + 4 ≤ 100000000 := by rw [List.length_append, List.length_append, List.length_singleton]; omega
            go_wp2_with (at_builtin; refine app_own rfl _ _ appInt rfl encI W.heap.size _ _ rfl own7 _ 4 4 [k2, f2, t2, z2] rfl (fun e => by cases e) src7 hlen7 hbY.size ?_; intro v5 w5 own5 hg5; have hb5 := belowApp hbY own7 hg5 (Nat.le_refl _) hbY.size; clear hg5)
            go_roundg (n2 - (kk + 1))
            case measure => omega
            case rel => exact ⟨kk + 1, _, by omega, by omega, rfl, by go_num, (show Aside _ from hb5), (show Aside _ from by rw [HT.out, ← List.append_assoc]; exact own5)⟩
          · have hltz : ¬ (kk : Int) < (n2 : Int) := by omega
            obtain rfl : n2 = kk := by omega
            have hlb : ((La ++ [(n2 : Int)]) ++ chansN (x2.take n2)).length ≤ 224 := by rw [List.length_append, List.length_append, List.length_singleton]; omega
            generalize (La ++ [(n2 : Int)]) ++ chansN (x2.take n2) = Lb at own6 hlb HN
            have z2 := (B0.below hbw).c2
            have own7 := own6.alloc (.cells #[.int .i64 n3] 3)
            have hbY := alo hbw (.cells #[.int .i64 n3] 3)
            have src7 := Sl.of_blk (xs := [(n3 : Int)]) (Blk.new wr 3 #[.int .i64 n3]) encI (by simp)
            have hlen7 : Lb.length + 1 ≤ 100000000 := by omega
            go_wp2_with (at_builtin; refine app_own rfl _ _ appInt rfl encI W.heap.size _ _ rfl own7 _ 1 1 [(n3 : Int)] rfl (fun e => by cases e) src7 hlen7 hbY.size ?_; intro v5 w5 own5 hg5; have hb5 := belowApp hbY own7 hg5 (Nat.le_refl _) hbY.size; clear hg5)
            clear own7 own6 src7 hlen7 hbY z1 z2 hbw
            go_loopg [3, 10] n3 (fun gg s3 s10 wr => ∃ (kk : Nat) (v : Value), kk ≤ n3 ∧ n3 - kk ≤ gg ∧ s3 = v ∧ s10 = .int .i64 kk ∧ Aside (Below W.heap.size W wr) ∧ Aside (Own wr W.heap.size 3 1 eI v ((Lb ++ [(n3 : Int)]) ++ slotsN (x3.take kk))))
            case atStart => exact ⟨0, _, Nat.zero_le _, by omega, rfl, rfl, (show Aside _ from hb5), (show Aside _ from by rw [List.take_zero, show slotsN [] = [] from rfl, List.append_nil]; exact own5)⟩
            case round =>
              obtain ⟨kk, v, hkk, hg, hv3, rfl, BW, OW⟩ := hrel
              replace hv3 := hv3.symm
              subst hv3
              clear own5 hb5
              have own6 := OW.out
              have hbw := BW.out
              clear OW BW
              have hsn := hSn.out kk
              have B0q := B0.below hbw
              have z2 := B0q.c2
              by_cases hlt : kk < n3
              · have hltz : (kk : Int) < (n3 : Int) := by omega
                obtain ⟨b9, o9, rfl, y1, hx1, hc1⟩ := hsW3.nth hlt hbw
                have r0 := hc1 0 _ rfl
                have r1 := hc1 1 _ rfl
                have hyb := hSl.out y1 (List.mem_of_getElem? hx1)
                have HT := Lib.hid (show slotsN (x3.take (kk + 1)) = slotsN (x3.take kk) ++ slotN y1 from flat_step hx1)
                clear hc1 hx1
                obtain ⟨sa, sd⟩ := y1
                simp only [eS, Nat.add_zero] at r0 r1 hyb
                simp only [slotN] at HT
                have hw := Lib.hid (IntWalk.i64_in (sa + 1) (by omega))
                have q0 : ∀ V, Below wr.heap.size wr V → V.cell? ⟨b9, o9 + kk * 2, none⟩ = some (.int .i64 sa) := fun V h => (h.cell (p := ⟨b9, o9 + kk * 2, none⟩) (World.block_lt_of_cell? _ _ r0)).trans r0
                have q1 : ∀ V, Below wr.heap.size wr V → V.cell? ⟨b9, o9 + kk * 2 + 1, none⟩ = some (.int .i64 sd) := fun V h => (h.cell (p := ⟨b9, o9 + kk * 2 + 1, none⟩) (World.block_lt_of_cell? _ _ r1)).trans r1
                have hlen9 : ((Lb ++ [(n3 : Int)]) ++ slotsN (x3.take kk)).length + 2 ≤ 100000000 := by rw [List.length_append, List.length_append, List.length_singleton]; omega
                clear r0 r1 hyb
                go_wp2_with fail
                clear z2
                refine region_rel (by kernel_rfl) (fun iz vz wz => relSS w.heap.size b9 o9 n3 c3 kk v sa sd iz vz wz) (fun wz wz' => Below wz.heap.size wz wz') (fun _ wz' => Below wr.heap.size wr wz') 15 _ wr (by kernel_rfl) (by kernel_rfl) (fun iz vz wz wz' h hb => relSS_below w.heap.size b9 o9 n3 c3 kk v sa sd h hb) (fun wz => Below.refl _ _) (fun _ _ _ _ h => h) (show Below wr.heap.size wr wr.drew from (Below.refl _ _).drew) ?_ ?_
                · intro i o him ho a wa cc hcc hJ hfr hdep
                  have B0q := B0q.below hJ
                  have c_q0 := q0 wa hJ
                  have c_q1 := q1 wa hJ
                  have cB0q_0 := B0q.c0; have cB0q_1 := B0q.c1; have cB0q_2 := B0q.c2; have fB0q := B0q.frozen
                  match i, ho, him with
                  | 0, ho, _ =>
                    injection ho with ho
                    subst ho
                    have h3 := hfr.2.2 3 (drawFrM_spec (by kernel_rfl))
                    clear hdep hfr
                    simp only [Array.getD_eq_getD_getElem?] at h3
                    refine .inl ⟨rfl, ?_⟩
                    unfold Oper.wp
                    go_simp
                    exact LeavesR.val rfl (Below.refl _ _) hJ
                  | 1, ho, _ =>
                    injection ho with ho
                    subst ho
                    have h1 := hfr.2.2 1 (drawFrM_spec (by kernel_rfl))
                    clear hdep hfr
                    simp only [Array.getD_eq_getD_getElem?] at h1
                    refine .inl ⟨rfl, ?_⟩
                    unfold Oper.wp
                    go_simp
                    exact LeavesR.val rfl (Below.refl _ _) hJ
                  | 2, ho, _ =>
                    injection ho with ho
                    subst ho
                    have h111 := hdep ⟨1, .data⟩ (by simp) (by kernel_rfl) _ 111 rfl rfl
                    clear hdep hfr
                    replace h111 : a.tmps.getD 111 undef = .pointer (some ⟨w.heap.size, 2, none⟩) := h111
                    simp only [Array.getD_eq_getD_getElem?] at h111
                    refine .inl ⟨rfl, ?_⟩
                    unfold Oper.wp
                    go_simp
                    exact LeavesR.val rfl (Below.refl _ _) hJ
                  | 3, ho, _ =>
                    injection ho with ho
                    subst ho
                    have h10 := hfr.2.2 10 (drawFrM_spec (by kernel_rfl))
                    clear hdep hfr
                    simp only [Array.getD_eq_getD_getElem?] at h10
                    refine .inl ⟨rfl, ?_⟩
                    unfold Oper.wp
                    go_simp
                    exact LeavesR.val rfl (Below.refl _ _) hJ
                  | 4, ho, _ =>
                    injection ho with ho
                    subst ho
                    have h112 := hdep ⟨2, .data⟩ (by simp) (by kernel_rfl) _ 112 rfl rfl
                    have h113 := hdep ⟨3, .data⟩ (by simp) (by kernel_rfl) _ 113 rfl rfl
                    clear hdep hfr
                    replace h112 : a.tmps.getD 112 undef = .slice (some ⟨b9, o9, none⟩) n3 c3 := h112
                    simp only [Array.getD_eq_getD_getElem?] at h112
                    replace h113 : a.tmps.getD 113 undef = .int .i64 kk := h113
                    simp only [Array.getD_eq_getD_getElem?] at h113
                    refine .inl ⟨rfl, ?_⟩
                    unfold Oper.wp
                    go_simp
                    exact LeavesR.val rfl (Below.refl _ _) hJ
                  | 5, ho, _ =>
                    injection ho with ho
                    subst ho
                    have h114 := hdep ⟨4, .data⟩ (by simp) (by kernel_rfl) _ 114 rfl rfl
                    clear hdep hfr
                    replace h114 : a.tmps.getD 114 undef = .pointer (some ⟨b9, o9 + kk * 2, none⟩) := h114
                    simp only [Array.getD_eq_getD_getElem?] at h114
                    refine .inl ⟨rfl, ?_⟩
                    unfold Oper.wp
                    go_simp
                    exact LeavesR.val rfl (Below.refl _ _) hJ
                  | 6, ho, _ =>
                    injection ho with ho
                    subst ho
                    have h115 := hdep ⟨5, .data⟩ (by simp) (by kernel_rfl) _ 115 rfl rfl
                    clear hdep hfr
                    replace h115 : a.tmps.getD 115 undef = .pointer (some ⟨b9, o9 + kk * 2, none⟩) := h115
                    simp only [Array.getD_eq_getD_getElem?] at h115
                    refine .inl ⟨rfl, ?_⟩
                    unfold Oper.wp
                    go_simp
                    exact LeavesR.val rfl (Below.refl _ _) hJ
                  | 7, ho, _ =>
                    injection ho with ho
                    subst ho
                    have h116 := hdep ⟨6, .data⟩ (by simp) (by kernel_rfl) _ 116 rfl rfl
                    clear hdep hfr
                    replace h116 : a.tmps.getD 116 undef = .int .i64 sa := h116
                    simp only [Array.getD_eq_getD_getElem?] at h116
                    refine .inl ⟨rfl, ?_⟩
                    unfold Oper.wp
                    go_simp
                    exact LeavesR.val rfl (Below.refl _ _) hJ
                  | 8, ho, _ =>
                    injection ho with ho
                    subst ho
                    have h1 := hfr.2.2 1 (drawFrM_spec (by kernel_rfl))
                    clear hdep hfr
                    simp only [Array.getD_eq_getD_getElem?] at h1
                    refine .inl ⟨rfl, ?_⟩
                    unfold Oper.wp
                    go_simp
                    exact LeavesR.val rfl (Below.refl _ _) hJ
                  | 9, ho, _ =>
                    injection ho with ho
                    subst ho
                    have h118 := hdep ⟨8, .data⟩ (by simp) (by kernel_rfl) _ 118 rfl rfl
                    clear hdep hfr
                    replace h118 : a.tmps.getD 118 undef = .pointer (some ⟨w.heap.size, 2, none⟩) := h118
                    simp only [Array.getD_eq_getD_getElem?] at h118
                    refine .inl ⟨rfl, ?_⟩
                    unfold Oper.wp
                    go_simp
                    exact LeavesR.val rfl (Below.refl _ _) hJ
                  | 10, ho, _ =>
                    injection ho with ho
                    subst ho
                    have h10 := hfr.2.2 10 (drawFrM_spec (by kernel_rfl))
                    clear hdep hfr
                    simp only [Array.getD_eq_getD_getElem?] at h10
                    refine .inl ⟨rfl, ?_⟩
                    unfold Oper.wp
                    go_simp
                    exact LeavesR.val rfl (Below.refl _ _) hJ
                  | 11, ho, _ =>
                    injection ho with ho
                    subst ho
                    have h119 := hdep ⟨9, .data⟩ (by simp) (by kernel_rfl) _ 119 rfl rfl
                    have h120 := hdep ⟨10, .data⟩ (by simp) (by kernel_rfl) _ 120 rfl rfl
                    clear hdep hfr
                    replace h119 : a.tmps.getD 119 undef = .slice (some ⟨b9, o9, none⟩) n3 c3 := h119
                    simp only [Array.getD_eq_getD_getElem?] at h119
                    replace h120 : a.tmps.getD 120 undef = .int .i64 kk := h120
                    simp only [Array.getD_eq_getD_getElem?] at h120
                    refine .inl ⟨rfl, ?_⟩
                    unfold Oper.wp
                    go_simp
                    exact LeavesR.val rfl (Below.refl _ _) hJ
                  | 12, ho, _ =>
                    injection ho with ho
                    subst ho
                    have h121 := hdep ⟨11, .data⟩ (by simp) (by kernel_rfl) _ 121 rfl rfl
                    clear hdep hfr
                    replace h121 : a.tmps.getD 121 undef = .pointer (some ⟨b9, o9 + kk * 2, none⟩) := h121
                    simp only [Array.getD_eq_getD_getElem?] at h121
                    refine .inl ⟨rfl, ?_⟩
                    unfold Oper.wp
                    go_simp
                    exact LeavesR.val rfl (Below.refl _ _) hJ
                  | 13, ho, _ =>
                    injection ho with ho
                    subst ho
                    have h122 := hdep ⟨12, .data⟩ (by simp) (by kernel_rfl) _ 122 rfl rfl
                    clear hdep hfr
                    replace h122 : a.tmps.getD 122 undef = .pointer (some ⟨b9, o9 + kk * 2 + 1, none⟩) := h122
                    simp only [Array.getD_eq_getD_getElem?] at h122
                    refine .inl ⟨rfl, ?_⟩
                    unfold Oper.wp
                    go_simp
                    exact LeavesR.val rfl (Below.refl _ _) hJ
                  | 14, ho, _ =>
                    injection ho with ho
                    subst ho
                    have h117 := hdep ⟨7, .data⟩ (by simp) (by kernel_rfl) _ 117 rfl rfl
                    have h123 := hdep ⟨13, .data⟩ (by simp) (by kernel_rfl) _ 123 rfl rfl
                    clear hdep hfr
                    replace h117 : a.tmps.getD 117 undef = .int .i64 (IntKind.i64.wrap (sa + 1)) := h117
                    simp only [Array.getD_eq_getD_getElem?] at h117
                    replace h123 : a.tmps.getD 123 undef = .int .i64 sd := h123
                    simp only [Array.getD_eq_getD_getElem?] at h123
                    refine .inl ⟨rfl, ?_⟩
                    unfold Oper.wp
                    go_simp
                    exact LeavesR.val ⟨_, rfl, Blk.new wa _ _⟩ (alo (Below.refl _ _) _) (alo hJ _)
                  | n + 15, _, him => exact absurd him (by omega)
                · intro V w9 hV hJ
                  have hV0 := hV 0 _ 110 (by decide) rfl rfl
                  replace hV0 : V 0 = v := hV0
                  have hV1 := hV 1 _ 111 (by decide) rfl rfl
                  replace hV1 : V 1 = .pointer (some ⟨w.heap.size, 2, none⟩) := hV1
                  have hV2 := hV 2 _ 112 (by decide) rfl rfl
                  replace hV2 : V 2 = .slice (some ⟨b9, o9, none⟩) n3 c3 := hV2
                  have hV3 := hV 3 _ 113 (by decide) rfl rfl
                  replace hV3 : V 3 = .int .i64 kk := hV3
                  have hV4 := hV 4 _ 114 (by decide) rfl rfl
                  replace hV4 : V 4 = .pointer (some ⟨b9, o9 + kk * 2, none⟩) := hV4
                  have hV5 := hV 5 _ 115 (by decide) rfl rfl
                  replace hV5 : V 5 = .pointer (some ⟨b9, o9 + kk * 2, none⟩) := hV5
                  have hV6 := hV 6 _ 116 (by decide) rfl rfl
                  replace hV6 : V 6 = .int .i64 sa := hV6
                  have hV7 := hV 7 _ 117 (by decide) rfl rfl
                  replace hV7 : V 7 = .int .i64 (IntKind.i64.wrap (sa + 1)) := hV7
                  have hV8 := hV 8 _ 118 (by decide) rfl rfl
                  replace hV8 : V 8 = .pointer (some ⟨w.heap.size, 2, none⟩) := hV8
                  have hV9 := hV 9 _ 119 (by decide) rfl rfl
                  replace hV9 : V 9 = .slice (some ⟨b9, o9, none⟩) n3 c3 := hV9
                  have hV10 := hV 10 _ 120 (by decide) rfl rfl
                  replace hV10 : V 10 = .int .i64 kk := hV10
                  have hV11 := hV 11 _ 121 (by decide) rfl rfl
                  replace hV11 : V 11 = .pointer (some ⟨b9, o9 + kk * 2, none⟩) := hV11
                  have hV12 := hV 12 _ 122 (by decide) rfl rfl
                  replace hV12 : V 12 = .pointer (some ⟨b9, o9 + kk * 2 + 1, none⟩) := hV12
                  have hV13 := hV 13 _ 123 (by decide) rfl rfl
                  replace hV13 : V 13 = .int .i64 sd := hV13
                  obtain ⟨gE124, hV14, NE124⟩ := hV 14 _ 124 (by decide) rfl rfl
                  clear hV
                  simp only [puts, List.drop, Act.put, List.getElem?_toArray, List.getElem?_cons_succ, List.getElem?_cons_zero, List.setIfInBounds_toArray, List.set_cons_succ, List.set_cons_zero, hV0, hV1, hV2, hV3, hV4, hV5, hV6, hV7, hV8, hV9, hV10, hV11, hV12, hV13, hV14]
                  clear hV0 hV1 hV2 hV3 hV4 hV5 hV6 hV7 hV8 hV9 hV10 hV11 hV12 hV13 hV14
                  replace B0q := B0q.below hJ
                  have c_q0 := q0 w9 hJ
                  have c_q1 := q1 w9 hJ
                  rw [hw.out] at NE124
                  have own9 := own6.below hJ
                  have hb9 := thn hbw hJ
                  have src9 := Sl.of_blk (xs := [sa + 1, sd]) NE124 encI (by simp)
                  at_builtin
                  refine app_own rfl _ _ appInt rfl encI W.heap.size _ _ rfl own9 _ 2 2 [sa + 1, sd] rfl (fun e => by cases e) src9 hlen9 hb9.size ?_
                  intro v10 w10 own10 hg10
                  have hb10 := belowApp hb9 own9 hg10 (Nat.le_refl _) hb9.size
                  go_wp2
                  go_roundg (n3 - (kk + 1))
                  case measure => omega
                  case rel => exact ⟨kk + 1, _, by omega, by omega, rfl, by go_num, (show Aside _ from hb10), (show Aside _ from by rw [HT.out, ← List.append_assoc]; exact own10)⟩
              · have hltz : ¬ (kk : Int) < (n3 : Int) := by omega
                obtain rfl : n3 = kk := by omega
                rw [← HN.out] at own6
                obtain ⟨A8, c8, rfl, hA8, sl8, -⟩ := own6.sl encI
                have hle8 := sl8.le
                have hmax8 := sl8.max
                go_wp2
                go_ret
                exact ⟨⟨A8, _, _, _⟩, rfl, sl8, rfl, thn hb0 hbw⟩
end Go.Proofs.YtckgdlgdipfgmaaGreat
