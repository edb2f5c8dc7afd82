/- Machines: MachineValid of the reference. -/
import Derived.Test.YtckgdlgdipfgmaaGreatMachV
namespace Go.Proofs.YtckgdlgdipfgmaaGreat
set_option linter.unusedVariables false
set_option linter.unusedSimpArgs false
open Go.RowKit


set_option maxRecDepth 100000 in
set_option maxHeartbeats 4000000 in
theorem specMachineValid_any (m : MacR) (w : World) (h : okM w m) :
    Calls Tryz.prog 29 #[macV m] w fun e w' => .returned (.bool (machOkC (cM m))) = e ∧ Below w.heap.size w w' := by
  obtain ⟨⟨⟨A1, n1, c1, x1⟩, ⟨A2, n2, c2, x2⟩, ⟨A3, n3, c3, x3⟩⟩, ⟨A4, n4, c4, x4⟩, ⟨A5, n5, c5, x5⟩, ⟨A6, n6, c6, x6⟩, tick⟩ := m
  obtain ⟨hS, ho, hk, hh⟩ := h
  have hb0 := alo (Below.refl w.heap.size w) (.cells #[.slice A1 n1 c1, .slice A2 n2 c2, .slice A3 n3 c3, .slice A4 n4 c4, .slice A5 n5 c5, .slice A6 n6 c6, .int .i64 tick] 43)
  have B0 := Blk.new w 43 #[.slice A1 n1 c1, .slice A2 n2 c2, .slice A3 n3 c3, .slice A4 n4 c4, .slice A5 n5 c5, .slice A6 n6 c6, .int .i64 tick]
  have hq := specSetupValid_any _ _ (hS.below hb0)
  have hs1 : Sl w 2 eP A1 n1 c1 x1 := hS.1.1
  have hs2 : Sl w 4 eC A2 n2 c2 x2 := hS.2.1
  have hs4 : Sl w 1 eOL A4 n4 c4 x4 := ho.1
  have hs5 : Sl w 3 eCo A5 n5 c5 x5 := hk.1
  have hs6 : Sl w 1 eHr A6 n6 c6 x6 := hh.1
  have HO := Lib.hid (show ∀ y ∈ x4, okO w y from ho.2)
  have HK := Lib.hid (show ∀ y ∈ x5, okC w y from hk.2)
  have HH := Lib.hid (show ∀ y ∈ x6, okH w y from hh.2)
  have hle1 := hs1.le
  have hmax1 := hs1.max
  have hle2 := hs2.le
  have hmax2 := hs2.max
  have hle4 := hs4.le
  have hmax4 := hs4.max
  have hle5 := hs5.le
  have hmax5 := hs5.max
  have hle6 := hs6.le
  have hmax6 := hs6.max
  simp only [macV, setV, SV.v_mk] at hq ⊢
  obtain ⟨C, hC⟩ : ∃ C : MacC, cM ((((⟨A1, n1, c1, x1⟩, ⟨A2, n2, c2, x2⟩, ⟨A3, n3, c3, x3⟩) : SetR), ⟨A4, n4, c4, x4⟩, ⟨A5, n5, c5, x5⟩, ⟨A6, n6, c6, x6⟩, tick) : MacR) = C := ⟨_, rfl⟩
  have E1 := Lib.hid (show C.1.1 = x1.map cP by rw [← hC]; rfl)
  have E2 := Lib.hid (show C.1.2.1 = x2 by rw [← hC]; rfl)
  have E4 := Lib.hid (show C.2.1 = x4.map cO by rw [← hC]; rfl)
  have E5 := Lib.hid (show C.2.2.1 = x5.map cC by rw [← hC]; rfl)
  have E6 := Lib.hid (show C.2.2.2.1 = x6.map cH by rw [← hC]; rfl)
  have E7 := Lib.hid (show C.2.2.2.2 = tick by rw [← hC]; rfl)
  have L1 := Lib.hid (show C.1.1.length = n1 by rw [E1.out, List.length_map]; exact hs1.len)
  have L2 := Lib.hid (show C.1.2.1.length = n2 by rw [E2.out]; exact hs2.len)
  have L4 := Lib.hid (show C.2.1.length = n4 by rw [E4.out, List.length_map]; exact hs4.len)
  have L5 := Lib.hid (show C.2.2.1.length = n5 by rw [E5.out, List.length_map]; exact hs5.len)
  have L6 := Lib.hid (show C.2.2.2.1.length = n6 by rw [E6.out, List.length_map]; exact hs6.len)
  have HCO := Lib.hid (fun k (p : PartV) (y : OrdL) (z : CoreT) (hp : x1[k]? = some p) (hy : x4[k]? = some y) (hz : x5[k]? = some z) => show coreAt C k = coreFits (cC z) (cO y) p.2 from by unfold coreAt; rw [E5.out, E4.out, E1.out, mapAt hp, mapAt hy, mapAt hz]; rfl)
  have HPR := Lib.hid (fun k (p : PartV) (y : OrdL) (hp : x1[k]? = some p) (hy : x4[k]? = some y) => show progAt C.1.1 C.2.1 k = progOk y.xs p.2 from by unfold progAt; rw [E4.out, E1.out, mapAt hp, mapAt hy]; rfl)
  have HHO := Lib.hid (fun k (y : HoldR) (ch : ChanT) (hy : x6[k]? = some y) (hc : x2[k]? = some ch) => show holdAt C k = holdOk y.xs ch.1 ch.2.2.2 from by unfold holdAt; rw [E6.out, E2.out, mapAt hy, hc]; rfl)
  rw [show cS ((⟨A1, n1, c1, x1⟩, ⟨A2, n2, c2, x2⟩, ⟨A3, n3, c3, x3⟩) : SetR) = C.1 from by rw [← hC]; rfl] at hq
  rw [hC]
  clear hC hS ho hk hh
  obtain ⟨R, hR⟩ : ∃ R, machOkC C = R := ⟨_, rfl⟩
  have HR := Lib.hid hR
  rw [hR]
  clear hR
  skip
  skip
  have cB0_0 := B0.c0; have cB0_1 := B0.c1; have cB0_2 := B0.c2; have cB0_3 := B0.c3; have cB0_4 := B0.c4; have cB0_5 := B0.c5; have cB0_6 := B0.c6; have fB0 := B0.frozen
  obtain ⟨v1, hv1⟩ : ∃ v, setupOkC C.1 = v := ⟨_, rfl⟩
  rw [hv1] at hq
  have HV1 := Lib.hid hv1
  clear hv1
  cases v1
  · go_enter Tryz.func29, Tryz.ntmps29
    go_wp2_with fail; refine (hq).mono ?_; rintro e w1 ⟨rfl, hbw1⟩; replace B0 := Blk.belowOf B0 hbw1 (by repeat (first | exact B0 | apply Blk.alloc | apply Blk.drew | (apply Blk.far; rotate_left; (first | assumption | exact Ne.symm (by assumption))) | apply Blk.set_))
    go_wp2
    go_ret
    exact ⟨by rw [← HR.out, mo_progs (po_setup HV1.out)]; rfl, thn hb0 hbw1⟩
  · skip
    by_cases h4 : n4 = n1
    · subst h4
      by_cases h5 : n5 = n4
      · subst h5
        by_cases h6 : n6 = n2
        · subst h6
          go_enter Tryz.func29, Tryz.ntmps29
          go_wp2_with fail; refine (hq).mono ?_; rintro e w1 ⟨rfl, hbw1⟩; replace B0 := Blk.belowOf B0 hbw1 (by repeat (first | exact B0 | apply Blk.alloc | apply Blk.drew | (apply Blk.far; rotate_left; (first | assumption | exact Ne.symm (by assumption))) | apply Blk.set_))
          have hb1 := thn hb0 hbw1
          clear cB0_0 cB0_1 cB0_2 cB0_3 cB0_4 cB0_5 cB0_6 fB0
          have cB0_0 := B0.c0; have cB0_1 := B0.c1; have cB0_2 := B0.c2; have cB0_3 := B0.c3; have cB0_4 := B0.c4; have cB0_5 := B0.c5; have cB0_6 := B0.c6; have fB0 := B0.frozen
          clear hbw1 hb0 hq
          go_wp2_with fail
          go_loopg [3] n5 (fun gg s3 wr => ∃ kk : Nat, kk ≤ n5 ∧ n5 - kk ≤ gg ∧ s3 = .int .i64 kk ∧ Aside (Below w.heap.size w wr) ∧ Aside (Blk wr w.heap.size 43 #[.slice A1 n5 c1, .slice A2 n6 c2, .slice A3 n3 c3, .slice A4 n5 c4, .slice A5 n5 c5, .slice A6 n6 c6, .int .i64 tick]) ∧ Aside (∀ j, j < kk → progAt C.1.1 C.2.1 j = true ∧ coreAt C j = true))
          case atStart => exact ⟨0, Nat.zero_le _, by omega, rfl, (show Aside _ from hb1), (show Aside _ from B0), (show Aside _ from fun j hj => absurd hj (Nat.not_lt_zero _))⟩
          case round =>
            obtain ⟨kk, hkk, hg, rfl, BW, BB, AA⟩ := hrel
            clear cB0_0 cB0_1 cB0_2 cB0_3 cB0_4 cB0_5 cB0_6 fB0
            clear B0 hb1
            have B0 := BB.out
            clear BB
            have x4' := blk_cells B0 4 _ rfl
            by_cases hlt : kk < n5
            · have hltz : (kk : Int) < (n5 : Int) := by omega
              obtain ⟨b1, o1, rfl, y1, hx1, hc1⟩ := hs1.nth hlt BW.out
              obtain ⟨b4, o4, rfl, y4, hx4, hc4⟩ := hs4.nth hlt BW.out
              obtain ⟨b5, o5, rfl, y5, hx5, hc5⟩ := hs5.nth hlt BW.out
              have r1 := hc1 1 _ rfl
              have r4 := hc4 0 _ rfl
              have q0 := hc5 0 _ rfl
              have q1 := hc5 1 _ rfl
              have q2 := hc5 2 _ rfl
              have HPK := Lib.hid (HCO.out kk y1 y4 y5 hx1 hx4 hx5)
              have HPG := Lib.hid (HPR.out kk y1 y4 hx1 hx4)
              have hcel := setup_cells HV1.out (k := kk) (p := cP y1) (by rw [E1.out]; exact mapAt hx1)
              have hy4 := HO.out y4 (List.mem_of_getElem? hx4)
              have hy5 := HK.out y5 (List.mem_of_getElem? hx5)
              obtain ⟨⟨A7, n7, c7, x7⟩, m7⟩ := y1
              obtain ⟨A8, n8, c8, x8⟩ := y4
              obtain ⟨⟨A9, n9, c9, x9⟩, m9, t9⟩ := y5
              simp only [eP, eOL, eCo, SV.v, Nat.add_zero, Nat.mul_one] at r1 r4 q0 q1 q2
              simp only [cP] at hcel
              have hq := fun x : Near wr => specCoreValid_any (⟨A9, n9, c9, x9⟩, m9, t9) ⟨A8, n8, c8, x8⟩ m7 (by omega) x.W (okC.below hy5 (thn BW.out x.b)) (okO.below hy4 (thn BW.out x.b))
              have g1 := fun x : Near wr => ((x.b.cell (p := ⟨b1, o1 + kk * 2 + 1, none⟩) (World.block_lt_of_cell? _ _ r1)).trans r1)
              have g4 := fun x : Near wr => ((x.b.cell (p := ⟨b4, o4 + kk, none⟩) (World.block_lt_of_cell? _ _ r4)).trans r4)
              have k0 := fun x : Near wr => ((x.b.cell (p := ⟨b5, o5 + kk * 3, none⟩) (World.block_lt_of_cell? _ _ q0)).trans q0)
              have k1 := fun x : Near wr => ((x.b.cell (p := ⟨b5, o5 + kk * 3 + 1, none⟩) (World.block_lt_of_cell? _ _ q1)).trans q1)
              have k2 := fun x : Near wr => ((x.b.cell (p := ⟨b5, o5 + kk * 3 + 2, none⟩) (World.block_lt_of_cell? _ _ q2)).trans q2)
              simp only [cC, cO] at HPK HPG hq
              simp only [eCo, SV.v] at hq
              obtain ⟨v2, hv2⟩ : ∃ v2, progOk x8 m7 = v2 := ⟨_, rfl⟩
              obtain ⟨v3, hv3⟩ : ∃ v3, coreFits (x9, m9, t9) x8 m7 = v3 := ⟨_, rfl⟩
              rw [hv2] at HPG
              rw [hv3] at HPK
              simp only [hv2, hv3] at hq
              clear hc1 hc4 hc5 hx1 hx4 hx5 hy4 hy5 hv2 hv3 hcel q0 q1 q2 r1 r4
              skip
              skip
              go_wp2_with fail
              have qB0_0 := fun x => (B0.near x).c0; have qB0_1 := fun x => (B0.near x).c1; have qB0_2 := fun x => (B0.near x).c2; have qB0_3 := fun x => (B0.near x).c3; have qB0_4 := fun x => (B0.near x).c4; have qB0_5 := fun x => (B0.near x).c5; have qB0_6 := fun x => (B0.near x).c6; refine wp_region_near (by kernel_rfl) (by kernel_rfl) ?_; (repeat (go_big_quiet_step (first | (go_at_call 69; with_reducible exact near_call (hq _))))); refine wpQuiet_nil ?_; intro xN; have hbw2 := xN.b; generalize xN.W = w2 at hbw2 ⊢; clear xN; clear qB0_0 qB0_1 qB0_2 qB0_3 qB0_4 qB0_5 qB0_6; replace B0 := B0.below hbw2
              clear g1 g4 k0 k1 k2 hq x4'
              cases v2
              · cases v3
                all_goals
                  go_wp2
                  go_ret
                  exact ⟨by rw [← HR.out, mo_progs (po_prog (by rw [L1.out]; exact hlt) HPG.out)]; rfl, thn BW.out hbw2⟩
              · cases v3
                · go_wp2
                  go_ret
                  exact ⟨by rw [← HR.out, mo_core (by rw [L5.out]; exact hlt) HPK.out]; rfl, thn BW.out hbw2⟩
                · go_wp2
                  go_roundg (n5 - (kk + 1))
                  case measure => omega
                  case rel =>
                    refine ⟨kk + 1, by omega, by omega, by go_num, (show Aside _ from thn BW.out hbw2), (show Aside _ from B0), (show Aside _ from fun j hj => ?_)⟩
                    by_cases e : j = kk
                    · subst e; exact ⟨HPG.out, HPK.out⟩
                    · exact AA.out j (by omega)
            · have hltz : ¬ (kk : Int) < (n5 : Int) := by omega
              obtain rfl : n5 = kk := by omega
              have HCA := Lib.hid (show ∀ j, j < C.2.2.1.length → coreAt C j = true from fun j hj => (AA.out j (by rw [L5.out] at hj; exact hj)).2)
              have HPA := Lib.hid (po_true HV1.out (by rw [L4.out, L1.out]) (fun j hj => (AA.out j (by rw [L1.out] at hj; exact hj)).1))
              clear AA hltz hlt
              have hb1 := BW.out
              clear BW
              skip
              skip
              have cB0_0 := B0.c0; have cB0_1 := B0.c1; have cB0_2 := B0.c2; have cB0_3 := B0.c3; have cB0_4 := B0.c4; have cB0_5 := B0.c5; have cB0_6 := B0.c6; have fB0 := B0.frozen
              go_wp2_with fail
              go_loopg [4] n6 (fun gg s4 wr => ∃ kk : Nat, kk ≤ n6 ∧ n6 - kk ≤ gg ∧ s4 = .int .i64 kk ∧ Aside (Below w.heap.size w wr) ∧ Aside (Blk wr w.heap.size 43 #[.slice A1 n5 c1, .slice A2 n6 c2, .slice A3 n3 c3, .slice A4 n5 c4, .slice A5 n5 c5, .slice A6 n6 c6, .int .i64 tick]) ∧ Aside (∀ j, j < kk → holdAt C j = true))
              case atStart => exact ⟨0, Nat.zero_le _, by omega, rfl, (show Aside _ from hb1), (show Aside _ from B0), (show Aside _ from fun j hj => absurd hj (Nat.not_lt_zero _))⟩
              case round =>
                obtain ⟨kk, hkk, hg, rfl, BW, BB, AA⟩ := hrel
                clear cB0_0 cB0_1 cB0_2 cB0_3 cB0_4 cB0_5 cB0_6 fB0
                clear B0 hb1 x4'
                have B0 := BB.out
                clear BB
                have x5' := blk_cells B0 5 _ rfl
                by_cases hlt : kk < n6
                · have hltz : (kk : Int) < (n6 : Int) := by omega
                  obtain ⟨b2, o2, rfl, y2, hx2, hc2⟩ := hs2.nth hlt BW.out
                  obtain ⟨b6, o6, rfl, y6, hx6, hc6⟩ := hs6.nth hlt BW.out
                  have q0 := hc2 0 _ rfl
                  have q3 := hc2 3 _ rfl
                  have r0 := hc6 0 _ rfl
                  have HPK := Lib.hid (HHO.out kk y6 y2 hx6 hx2)
                  have hy6 := HH.out y6 (List.mem_of_getElem? hx6)
                  obtain ⟨k2, f2, t2, z2⟩ := y2
                  obtain ⟨A9, n9, c9, x9⟩ := y6
                  simp only [eC, eHr, SV.v, Nat.add_zero, Nat.mul_one] at r0 q0 q3
                  have hq := fun x : Near wr => specHoldValid_any A9 n9 c9 x9 k2 z2 x.W (okH.below hy6 (thn BW.out x.b))
                  have g0 := fun x : Near wr => ((x.b.cell (p := ⟨b6, o6 + kk, none⟩) (World.block_lt_of_cell? _ _ r0)).trans r0)
                  have g1 := fun x : Near wr => ((x.b.cell (p := ⟨b2, o2 + kk * 4, none⟩) (World.block_lt_of_cell? _ _ q0)).trans q0)
                  have g3 := fun x : Near wr => ((x.b.cell (p := ⟨b2, o2 + kk * 4 + 3, none⟩) (World.block_lt_of_cell? _ _ q3)).trans q3)
                  simp only [] at HPK
                  obtain ⟨v2, hv2⟩ : ∃ v2, holdOk x9 k2 z2 = v2 := ⟨_, rfl⟩
                  rw [hv2] at HPK
                  simp only [hv2] at hq
                  clear hc2 hc6 hx2 hx6 hy6 hv2 q0 q3 r0
                  skip
                  skip
                  go_wp2_with fail
                  have qB0_0 := fun x => (B0.near x).c0; have qB0_1 := fun x => (B0.near x).c1; have qB0_2 := fun x => (B0.near x).c2; have qB0_3 := fun x => (B0.near x).c3; have qB0_4 := fun x => (B0.near x).c4; have qB0_5 := fun x => (B0.near x).c5; have qB0_6 := fun x => (B0.near x).c6; refine wp_region_near (by kernel_rfl) (by kernel_rfl) ?_; (repeat (go_big_quiet_step (first | (go_at_call 70; with_reducible exact near_call (hq _))))); refine wpQuiet_nil ?_; intro xN; have hbw2 := xN.b; generalize xN.W = w2 at hbw2 ⊢; clear xN; clear qB0_0 qB0_1 qB0_2 qB0_3 qB0_4 qB0_5 qB0_6; replace B0 := B0.below hbw2
                  clear g0 g1 g3 hq x5'
                  cases v2
                  · go_wp2
                    go_ret
                    exact ⟨by rw [← HR.out, mo_hold (by rw [L6.out]; exact hlt) HPK.out]; rfl, thn BW.out hbw2⟩
                  · go_wp2
                    go_roundg (n6 - (kk + 1))
                    case measure => omega
                    case rel =>
                      refine ⟨kk + 1, by omega, by omega, by go_num, (show Aside _ from thn BW.out hbw2), (show Aside _ from B0), (show Aside _ from fun j hj => ?_)⟩
                      by_cases e : j = kk
                      · subst e; exact HPK.out
                      · exact AA.out j (by omega)
                · have hltz : ¬ (kk : Int) < (n6 : Int) := by omega
                  obtain rfl : n6 = kk := by omega
                  have HE := Lib.hid (mo_end HPA.out (by rw [L5.out, L4.out]) (by rw [L6.out, L2.out]) HCA.out (fun j hj => AA.out j (by rw [L6.out] at hj; exact hj)))
                  have hq := fun W => l1In_any tick 0 100000 W
                  have c6' := blk_cells B0 6 _ rfl
                  go_wp2_with fail; refine (hq _).mono ?_; rintro e w' ⟨rfl, rfl⟩
                  go_wp2
                  go_ret
                  exact ⟨by rw [← HR.out, HE.out, E7.out]; rfl, BW.out⟩
        · have hnz : ((n6 : Int) != (n2 : Int)) = true := by rw [bne_iff_ne]; omega
          have hnz2 : ¬ (n6 : Int) = (n2 : Int) := by omega
          have HN := Lib.hid h6
          clear h6
          skip
          go_enter Tryz.func29, Tryz.ntmps29
          go_wp2_with fail; refine (hq).mono ?_; rintro e w1 ⟨rfl, hbw1⟩; replace B0 := Blk.belowOf B0 hbw1 (by repeat (first | exact B0 | apply Blk.alloc | apply Blk.drew | (apply Blk.far; rotate_left; (first | assumption | exact Ne.symm (by assumption))) | apply Blk.set_))
          clear cB0_0 cB0_1 cB0_2 cB0_3 cB0_4 cB0_5 cB0_6 fB0
          have cB0_0 := B0.c0; have cB0_1 := B0.c1; have cB0_2 := B0.c2; have cB0_3 := B0.c3; have cB0_4 := B0.c4; have cB0_5 := B0.c5; have cB0_6 := B0.c6; have fB0 := B0.frozen
          go_wp2
          go_ret
          exact ⟨by rw [← HR.out, mo_len2 (by rw [L6.out, L2.out]; exact HN.out)]; rfl, thn hb0 hbw1⟩
      · have hnz : ((n5 : Int) != (n4 : Int)) = true := by rw [bne_iff_ne]; omega
        have hnz2 : ¬ (n5 : Int) = (n4 : Int) := by omega
        have HN := Lib.hid h5
        clear h5
        skip
        go_enter Tryz.func29, Tryz.ntmps29
        go_wp2_with fail; refine (hq).mono ?_; rintro e w1 ⟨rfl, hbw1⟩; replace B0 := Blk.belowOf B0 hbw1 (by repeat (first | exact B0 | apply Blk.alloc | apply Blk.drew | (apply Blk.far; rotate_left; (first | assumption | exact Ne.symm (by assumption))) | apply Blk.set_))
        clear cB0_0 cB0_1 cB0_2 cB0_3 cB0_4 cB0_5 cB0_6 fB0
        have cB0_0 := B0.c0; have cB0_1 := B0.c1; have cB0_2 := B0.c2; have cB0_3 := B0.c3; have cB0_4 := B0.c4; have cB0_5 := B0.c5; have cB0_6 := B0.c6; have fB0 := B0.frozen
        go_wp2
        go_ret
        exact ⟨by rw [← HR.out, mo_len1 (by rw [L5.out, L4.out]; exact HN.out)]; rfl, thn hb0 hbw1⟩
    · have hnz : ((n4 : Int) != (n1 : Int)) = true := by rw [bne_iff_ne]; omega
      have hnz2 : ¬ (n4 : Int) = (n1 : Int) := by omega
      have HN := Lib.hid h4
      clear h4
      skip
      go_enter Tryz.func29, Tryz.ntmps29
      go_wp2_with fail; refine (hq).mono ?_; rintro e w1 ⟨rfl, hbw1⟩; replace B0 := Blk.belowOf B0 hbw1 (by repeat (first | exact B0 | apply Blk.alloc | apply Blk.drew | (apply Blk.far; rotate_left; (first | assumption | exact Ne.symm (by assumption))) | apply Blk.set_))
      clear cB0_0 cB0_1 cB0_2 cB0_3 cB0_4 cB0_5 cB0_6 fB0
      have cB0_0 := B0.c0; have cB0_1 := B0.c1; have cB0_2 := B0.c2; have cB0_3 := B0.c3; have cB0_4 := B0.c4; have cB0_5 := B0.c5; have cB0_6 := B0.c6; have fB0 := B0.frozen
      go_wp2
      go_ret
      exact ⟨by rw [← HR.out, mo_progs (po_len (by rw [L4.out, L1.out]; exact HN.out))]; rfl, thn hb0 hbw1⟩
end Go.Proofs.YtckgdlgdipfgmaaGreat
