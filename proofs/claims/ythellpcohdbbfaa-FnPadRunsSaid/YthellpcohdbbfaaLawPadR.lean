/- The walk of FnPadRuns. -/
import Derived.Test.YthellpcohdbbfaaDPadR
import Derived.Test.YthellpcohdbbfaaPadR
import Derived.Test.YthellpcohdbbfaaSame
import Derived.Test.YthellpcohdbbfaaAlive
namespace Go.Proofs.Ythellpcohdbbfaa
set_option linter.unusedVariables false
set_option linter.unusedSimpArgs false
open Go.RowKit

theorem padRuns_pos {xs ys : List Int} (h : 0 < (padRuns xs ys).length) : needOk xs ys = true := by
  unfold padRuns at h
  cases hv : needOk xs ys
  · rw [hv, if_neg Bool.false_ne_true] at h; simp at h
  · rfl
theorem needOk_set {xs ys : List Int} {j : Nat} {v : Int} (h : needOk xs ys = true) (hv : 0 ≤ v) : needOk xs (ys.set j v) = true := by
  obtain ⟨h1, h2, h3⟩ := needOk_bd h
  unfold needOk
  rw [h1, List.length_set, decide_eq_true h2, Bool.true_and, Bool.true_and, List.all_eq_true]
  intro y hy
  rcases List.mem_or_eq_of_mem_set hy with h | h
  · exact decide_eq_true (h3 y h)
  · rw [h]; exact decide_eq_true hv

set_option maxRecDepth 100000 in
set_option maxHeartbeats 1000000 in
theorem lawPadRuns (A : Option Addr) (n c : Nat) (zs : List Int) (A' : Option Addr) (n' c' : Nat) (zs' : List Int) (w : World) (h : Code w A n c zs) (h' : Code w A' n' c' zs') :
    Calls Try.prog 9 #[.slice A n c, .slice A' n' c'] w fun e w' => .returned (.bool true) = e ∧ Below w.heap.size w w' := by
  have hle := h.le
  have hmax := h.max
  have hle' := h'.le
  have hmax' := h'.max
  clear h'
  by_cases hn : n ≤ 1048576
  · have hnz : ¬ 1048576 < (n : Int) := by omega
    by_cases hn' : n' ≤ 1048576
    · have hnz' : ¬ 1048576 < (n' : Int) := by omega
      have hdraw := drawPadRuns_any A n c zs w h
      clear h
      go_enter Try.func9, Try.ntmps9
      go_wp2_with fail
      refine hdraw.mono ?_
      rintro e w1 ⟨⟨⟨A1, n1, c1, xs⟩, ⟨A2, n2, c2, ys⟩⟩, rfl, ⟨hsl1, _, _, _⟩, ⟨hsl2, _, hnil2, _⟩, hn1, hn2, hjob, hb⟩
      clear hdraw hjob
      simp only [prV, SV.v] at hsl1 hsl2 hnil2 hn1 hn2 ⊢
      have hle1 := hsl1.le
      have hmax1 := hsl1.max
      have hle2 := hsl2.le
      have hmax2 := hsl2.max
      have hI := padRuns_any A1 A2 n1 n2 c1 c2 xs ys w1 hsl1 hsl2
      have hS := fun W hW => specPadRuns_any A1 A2 n1 n2 c1 c2 xs ys W (hsl1.below hW) (hsl2.below hW)
      have HP := Lib.hid (@padRuns_pos xs ys)
      go_wp2_with fail
      refine hI.mono ?_
      rintro e w2 ⟨⟨A3, nx, c3, l3⟩, rfl, ⟨hsl3, _, _, _⟩, hl3, hb2⟩
      simp only [SV.v] at hsl3 hl3 ⊢
      subst hl3
      have hle3 := hsl3.le
      have hmax3 := hsl3.max
      go_wp2_with fail
      refine (hS _ hb2).mono ?_
      rintro e w3 ⟨⟨A4, n4, c4, l4⟩, rfl, ⟨hsl4, _, _, _⟩, hl4, hb3⟩
      simp only [SV.v] at hsl4 hl4 ⊢
      subst hl4
      have hE := sameInts_any A3 A4 nx n4 c3 c4 _ _ w3 (hsl3.below hb3) hsl4
      rw [decide_eq_true rfl] at hE
      go_wp2_with fail
      refine hE.mono ?_
      rintro e w4 ⟨rfl, hb4⟩
      have hbx := thn hb3 hb4
      have hby := thn hb2 hbx
      clear hI hS hE hsl4 hb3 hb4 hb2
      have hl3 := hsl3.len
      replace hsl3 := hsl3.below hbx
      replace hsl1 := hsl1.below hby
      replace hsl2 := hsl2.below hby
      by_cases hz : nx = 0
      · subst hz
        clear HP hl3 hsl1 hsl2 hsl3
        skip
        go_wp2_with fail; refine (alive_any _).mono ?_; rintro e w6 ⟨rfl, hbw6⟩
        go_wp2
        go_ret
        exact ⟨rfl, thn hb (thn hby hbw6)⟩
      · have hok := HP.out (by omega)
        obtain ⟨_, hyl, hy0⟩ := needOk_bd hok
        have hl1 := hsl1.len
        have hl2 := hsl2.len
        have hx := padRuns_yes hok
        have hlz : (List.zipWith min xs ys).length = nx := by rw [← hl3, hx]
        rw [List.length_zipWith] at hlz
        obtain rfl : n1 = nx := by omega
        obtain rfl : n2 = n1 := by omega
        have hnz2 : ((n2 : Int) == 0) = false := by rw [beq_eq_false_iff_ne]; omega
        have HOK := Lib.hid hok
        rw [hx] at hsl3
        have HL2 := Lib.hid hl2
        have HL1 := Lib.hid hl1
        obtain ⟨j, hj⟩ : ∃ j : Nat, (n' : Int) % (n2 : Int) = (j : Int) := ⟨n' % n2, by omega⟩
        have hjn : j < n2 := by have := Int.emod_lt_of_pos (n' : Int) (b := (n2 : Int)) (by omega); omega
        obtain ⟨vv, hvv⟩ : ∃ vv, (n' : Int) / 3 % 30 = vv := ⟨_, rfl⟩
        have hv0 : 0 ≤ vv := by omega
        have hv30 : vv ≤ 30 := by omega
        have HJ := Lib.hid hj
        have own0 : Own (w4.alloc (.cells #[] 3)) w4.heap.size 3 1 eI _ ([] : List Int) := Own.of_blk (Blk.new w4 3 #[]) (Nat.le_refl _) encI (by simp [maxLen])
        have hB5 := alo (Below.refl w4.heap.size w4) (.cells #[] 3)
        have src := hsl2.below hB5
        have hlen1 : ys.length ≤ 100000000 := by omega
        clear hok hyl hy0 hx hlz hl1 hl2 hl3 HP
        go_wp2_with (at_builtin; refine app_own rfl _ _ appInt rfl encI w4.heap.size _ [] rfl own0 _ _ _ ys rfl hnil2 src (by simp; omega) hB5.size ?_; intro v5 w5 own5 hg5; have hB6 := belowApp hB5 own0 hg5 (Nat.le_refl _) hB5.size; clear hg5 own0 hB5 src; simp only [List.nil_append] at own5; have hform := own5.form (by have := HL2.out; omega); obtain ⟨g, c5, hv5, hg1, hg2, hc5, hm5⟩ := hform; rw [HL2.out] at hv5 hc5; subst hv5; have hcell := own5.cellI (j := j) (List.getElem?_eq_getElem (by have := HL2.out; omega)); have hfrz := own5.frozenAt j)
        have own6 := (own5.stored j vv).1
        have hB7 := Below.setCell hB6 (p := ⟨g, j, none⟩) hg1 (.int .i64 vv)
        have hslO := own6.slI encI
        have hP := padRuns_any A1 (some ⟨g, 0, none⟩) n2 n2 c1 c5 xs (ys.set j vv) _ (hsl1.below hB7) hslO
        have hset := padRuns_yes (needOk_set (j := j) HOK.out hv0)
        rw [hset] at hP
        clear own5 own6 hcell hfrz hset
        go_wp2_with fail
        refine hP.mono ?_
        rintro e w8 ⟨⟨A7, n7, c7, l7⟩, rfl, ⟨hsl7, _, _, _⟩, hl7, hb8⟩
        simp only [SV.v] at hsl7 hl7 ⊢
        subst hl7
        have hle7 := hsl7.le
        have hmax7 := hsl7.max
        have hn7 : n7 = n2 := by rw [← hsl7.len, List.length_zipWith, List.length_set]; have := HL1.out; have := HL2.out; omega
        subst hn7
        have hB8 := thn hB7 hb8
        clear hP hb8 hslO hB7 hB6
        go_wp2
        go_loopg [11] n7 (fun gg s11 wr => ∃ kk : Nat, kk ≤ n7 ∧ n7 - kk ≤ gg ∧ s11 = .int .i64 kk ∧ Aside (Below w8.heap.size w8 wr))
        case atStart => exact ⟨0, Nat.zero_le _, by omega, rfl, (show Aside _ from Below.refl _ _)⟩
        case round =>
          obtain ⟨kk, hkk, hg, rfl, BW⟩ := hrel
          by_cases hlt : kk < n7
          · have hltz : (kk : Int) < (n7 : Int) := by omega
            have hge : decide ((n7 : Int) ≤ (kk : Int)) = false := by rw [decide_eq_false_iff_not]; omega
            have hgeN : decide (n7 ≤ kk) = false := by rw [decide_eq_false_iff_not]; omega
            have hB9 := thn hB8 BW.out
            obtain ⟨b1, o1, rfl, x, hxk, hc1⟩ := hsl1.nth hlt hB9
            obtain ⟨b2, o2, rfl, y, hyk, hc2⟩ := hsl2.nth hlt hB9
            obtain ⟨b3, o3, rfl, z, hzk, hc3⟩ := hsl3.nth hlt hB9
            obtain ⟨b7, o7, rfl, t, htk, hc7⟩ := hsl7.nth hlt BW.out
            have d1 := hc1 0 _ rfl
            have d2 := hc2 0 _ rfl
            have d3 := hc3 0 _ rfl
            have d7 := hc7 0 _ rfl
            simp only [eI, Nat.add_zero, Nat.mul_one] at d1 d2 d3 d7
            have hz1 : z = min x y := by rw [zip_at hxk hyk] at hzk; injection hzk with e; exact e.symm
            have t1 : decide (x < z) = false := by rw [decide_eq_false_iff_not]; omega
            have t2 : decide (y < z) = false := by rw [decide_eq_false_iff_not]; omega
            have HZK := Lib.hid hzk
            have HTK := Lib.hid htk
            have HXY := Lib.hid (zip_at hxk hyk)
            have HYK := Lib.hid hyk
            have HXK := Lib.hid hxk
            clear hc1 hc2 hc3 hc7 hxk hyk hzk htk hz1
            by_cases hkj : kk = j
            · subst hkj
              go_wp2_with fail
              go_quiet (fail)
              go_wp2
              go_roundg (n7 - (kk + 1))
              case measure => omega
              case rel => exact ⟨kk + 1, by omega, by omega, by go_num, (show Aside _ from belowDrewN BW.out _)⟩
            · have hkz : ((kk : Int) != (j : Int)) = true := by simp; omega
              have htz : z = t := by
                have h1 := HTK.out
                rw [zip_at HXK.out (by rw [List.getElem?_set_ne (by omega)]; exact HYK.out)] at h1
                have h2 := HZK.out
                rw [HXY.out] at h2
                rw [h1] at h2
                injection h2 with h2
                exact h2.symm
              subst htz
              go_wp2_with fail
              go_quiet (fail)
              go_wp2
              go_roundg (n7 - (kk + 1))
              case measure => omega
              case rel => exact ⟨kk + 1, by omega, by omega, by go_num, (show Aside _ from belowDrewN BW.out _)⟩
          · have hltz : ¬ (kk : Int) < (n7 : Int) := by omega
            obtain rfl : n7 = kk := by omega
            go_wp2
            go_ret
            exact ⟨by simp, thn hb (thn hby (thn hB8 BW.out))⟩
    · have hnz' : 1048576 < (n' : Int) := by omega
      clear h
      go_enter Try.func9, Try.ntmps9
      go_wp2
      go_ret
      exact ⟨rfl, Below.refl _ _⟩
  · have hnz : 1048576 < (n : Int) := by omega
    clear h
    go_enter Try.func9, Try.ntmps9
    go_wp2
    go_ret
    exact ⟨rfl, Below.refl _ _⟩
end Go.Proofs.Ythellpcohdbbfaa
