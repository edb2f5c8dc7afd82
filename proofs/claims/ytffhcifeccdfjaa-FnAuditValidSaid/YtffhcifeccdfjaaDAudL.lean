/- The draw l20Audit. -/
import Derived.Test.YtffhcifeccdfjaaDAud
import Derived.Test.YtffhcifeccdfjaaDWin
import Derived.Deep.RegionWith
namespace Go.Proofs.Ytffhcifeccdfjaa
set_option linter.unusedVariables false
set_option linter.unusedSimpArgs false
open Go.RowKit

theorem Stp.callS {r T : Nat} {a w w' : World} {b : Int} (hS : Stp r T a b w) (hb : Below w.heap.size w w') : Stp r T a b w' := hS.none ⟨hb.os, hb.tape, hb.output, hb.size, fun i hi _ => hb.block i hi⟩
theorem specNewAud_any (k : Int) (hk : 0 ≤ k ∧ k ≤ 1048572) (w : World) : Calls Try.prog 90 #[.int .i64 k] w fun e w' => .returned (.agg #[.int .i64 k, .slice none 0 0, .int .i64 k]) = e ∧ Below w.heap.size w w' := by
  have hc := fun W => l1In_any k 0 1048572 W
  rw [inB_true.2 hk] at hc
  skip
  have B1 := Blk.new w 58 #[.int .i64 0, .slice none 0 0, .int .i64 0]
  go_enter Try.func90, Try.ntmps90
  go_wp2_with fail; refine (hc _).mono ?_; rintro e w' ⟨rfl, rfl⟩
  have cB1_0 := B1.c0; have cB1_1 := B1.c1; have cB1_2 := B1.c2; have fB1 := B1.frozen
  go_wp2
  exact bodyPost_ret (v := .agg #[.int .i64 k, .slice none 0 0, .int .i64 k]) (by simp [results, Try.results90, go_sem, cB1_0, cB1_1, cB1_2]) rfl ⟨rfl, (by repeat (first | exact Below.refl _ _ | assumption | apply alo | (apply Below.setCell; rotate_left; (first | assumption | exact Nat.le_refl _ | (simp only []; omega))) | apply Below.drew | apply belowDrewN | (refine thn ?_ (by assumption))))⟩
/-- The entries are small. -/
def sml (l : List Int) : Prop := ∀ y ∈ l, 0 ≤ y ∧ y ≤ 255
theorem sml_app {l : List Int} {y : Int} (h : sml l) (hy : 0 ≤ y ∧ y ≤ 255) : sml (l ++ [y]) := by
  intro z hz
  rcases List.mem_append.1 hz with h1 | h1
  · exact h z h1
  · rw [List.mem_singleton.1 h1]; exact hy
theorem audOk_nil {k : Int} (hk : 0 ≤ k ∧ k ≤ 1048572) : audOk k [] k = true := by
  simp only [audOk, Bool.and_eq_true, decide_eq_true_eq, beq_iff_eq, inB_true]
  exact ⟨by simp, hk, rfl⟩
def audR (x : (Int × Int) × SV Int) : Value := audS x.1.1 x.1.2 x.2

set_option maxRecDepth 100000 in
set_option maxHeartbeats 2000000 in
theorem l20Audit_any (r : Nat) (k0 b : Int) (w : World) (h : Rd w r 96 b) (hb : b ≤ 999900000) (hk0 : -1000 ≤ k0) :
    Calls Try.prog 67 #[.pointer (some ⟨r, 0, none⟩), .int .i64 k0] w (Post audR fun x w' => Own w' w.heap.size 3 1 eI x.2.v x.2.xs ∧ x.2.n ≤ 61 ∧ sml x.2.xs ∧ (-1 ≤ x.1.2 ∧ x.1.2 ≤ 1048573) ∧ Stp r 96 w (b + 200) w') := by
  have hr0 := h.lt
  have B1 := Blk.new w 58 #[.int .i64 0, .slice none 0 0, .int .i64 0]
  have hS := (Stp.refl h).alloc (.cells #[.int .i64 0, .slice none 0 0, .int .i64 0] 58)
  clear h
  go_enter Try.func67, Try.ntmps67
  go_wp2_with fail
  refine (pick_any r 256 _ _ hS.rd (by omega) (by omega)).mono ?_
  rintro e w1 ⟨v, rfl, hv0, hv1, hs⟩
  replace B1 := Blk.stp hs B1 (by omega)
  replace hS := hS.trans hs
  clear hs
  have hw4 := IntWalk.i64_in (v * 4097) (by omega)
  obtain ⟨k, hk⟩ : ∃ k, v * 4097 = k := ⟨_, rfl⟩
  have hkb : 0 ≤ k ∧ k ≤ 1048572 := by omega
  rw [hk] at hw4
  go_wp2_with fail
  clear hw4 hk
  refine (specNewAud_any k hkb _).mono ?_
  rintro e w2 ⟨rfl, hbw2⟩
  have hw1 := B1.lt
  replace B1 := B1.below hbw2
  replace hS := hS.callS hbw2
  have hz1 := hS.grown.size
  have B5 := Blk.new w2 58 #[.int .i64 k, .slice none 0 0, .int .i64 k]
  replace B1 := B1.alloc (.cells #[.int .i64 k, .slice none 0 0, .int .i64 k] 58)
  replace hS := hS.alloc (.cells #[.int .i64 k, .slice none 0 0, .int .i64 k] 58)
  go_wp2_with fail
  refine (pick_any r 7 _ _ hS.rd (by omega) (by omega)).mono ?_
  rintro e w3 ⟨v3, rfl, hv30, hv31, hs⟩
  replace B1 := Blk.stp hs B1 (by omega)
  replace B5 := Blk.stp hs B5 (by omega)
  replace hS := hS.trans hs
  clear hs
  have hg5 : w.heap.size < w2.heap.size := by have := hbw2.size; omega
  generalize hG : w2.heap.size = g5 at *
  clear hbw2 hw1
  go_wp2_with fail
  go_loopg [6] 20 (fun gg s6 wr => ∃ (kk : Int) (v : Value) (l : List Int) (s : Int), 0 ≤ kk ∧ kk ≤ gg ∧ gg ≤ 20 ∧ s6 = .int .i64 kk ∧ l.length + kk ≤ 6 ∧ Aside (audOk k l s = true ∧ sml l) ∧ Aside (Blk wr w.heap.size 58 #[.int .i64 0, .slice none 0 0, .int .i64 0]) ∧ Aside (Blk wr g5 58 #[.int .i64 k, v, .int .i64 s]) ∧ Aside (Own wr (w.heap.size + 1) 3 1 eI v l) ∧ Aside (Stp r 96 w (b + 50 - kk) wr))
  case atStart => exact ⟨v3, _, [], k, by omega, by omega, by omega, rfl, by simp; omega, (show Aside _ from ⟨audOk_nil hkb, fun y hy => by cases hy⟩), (show Aside _ from B1), (show Aside _ from B5), (show Aside _ from Own.nil), (show Aside _ from hS.le (by omega))⟩
  case round =>
    obtain ⟨kk, v, l, s, hk0, hk1, hg, rfl, hll, XX, BA, BB, OW, SS⟩ := hrel
    clear B1 B5 hS
    have B1 := BA.out
    have B5 := BB.out
    have own1 := OW.out
    have hS := SS.out
    clear BA BB OW SS
    obtain ⟨A5, c5, hv5, -, -, -⟩ := own1.sl encI
    subst hv5
    by_cases hlt : 0 < kk
    · have hx := XX.out.1
      have x5 := B5.c0
      have x6 := B5.c1
      have x7 := B5.c2
      have hg5z := B5.lt
      have h60 : l.length < 60 := by omega
      have hnil : A5 = none → c5 = 0 := (own1.okv encI).nil
      have HX := Lib.hid hx
      clear hx
      go_wp2_with fail
      go_region_with (first | (go_at_call 41; refine (pick_any r 256 _ _ (by repeat (first | exact hS.rd | apply Rd.drew)) (by omega) (by omega)).mono ?_; rintro e w5 ⟨v4, rfl, hv40, hv41, hs⟩; have B1x := Blk.stpOf B1 hs (by repeat (first | exact B1 | apply Blk.drew)) (by omega); have B5x := Blk.stpOf B5 hs (by repeat (first | exact B5 | apply Blk.drew)) (by omega); have own5 := Own.stpOf own1 hs (by repeat (first | exact own1 | apply Own.drew)) (by omega); have hS5 := Stp.trans (w := _) (by repeat (first | exact hS | apply Stp.drew)) hs; have c50 := B5x.c0; have c51 := B5x.c1; have c52 := B5x.c2; have f5x := B5x.frozen; have sl5 := (own5.okv encI).sl) | (go_at_call 91; refine (appendAudit_any k s v4 _ _ _ l hnil HX.out h60 _ (sl5.below (by repeat (first | exact Below.refl _ _ | apply Below.drew)))).mono ?_; rintro e w6 ⟨⟨A6, n6, c6, l6⟩, rfl, own6, hl6, hb6⟩; simp only [apV, audS, SV.v]; have B1y := Blk.belowOf B1x hb6 (by repeat (first | exact B1x | apply Blk.drew)); have B5y := Blk.belowOf B5x hb6 (by repeat (first | exact B5x | apply Blk.drew)); have f5y := B5y.frozen; have d50 := B5y.c0; have d51 := B5y.c1; have d52 := B5y.c2))
      all_goals
        try simp only [] at hl6
        subst hl6
        have hz5 : w.heap.size + 1 ≤ w5.heap.size := by have := B5x.lt; omega
        have own7 := own6.low (base' := w.heap.size + 1) hz5
        have hS6 := Stp.callS (w := _) (by repeat (first | exact hS5 | apply Stp.drew)) hb6
        have hne := own7.neBlk B5y (by decide)
        have B5z := ((B5y.set_ 0 (.int .i64 k)).set_ 1 (.slice A6 n6 c6)).set_ 2 (.int .i64 (mixStep s v4))
        have B1z := ((B1y.far (p := ⟨g5, 0, none⟩) (by simp only []; omega) (.int .i64 k)).far (p := ⟨g5, 1, none⟩) (by simp only []; omega) (.slice A6 n6 c6)).far (p := ⟨g5, 2, none⟩) (by simp only []; omega) (.int .i64 (mixStep s v4))
        have own8 := ((own7.farNe (p := ⟨g5, 0, none⟩) hne (.int .i64 k)).farNe (p := ⟨g5, 1, none⟩) hne (.slice A6 n6 c6)).farNe (p := ⟨g5, 2, none⟩) hne (.int .i64 (mixStep s v4))
        have hS8 := Stp.set (p := ⟨g5, 2, none⟩) (.int .i64 (mixStep s v4)) (by simp only []; omega) (by simp only []; omega) (Stp.set (p := ⟨g5, 1, none⟩) (.slice A6 n6 c6) (by simp only []; omega) (by simp only []; omega) (Stp.set (p := ⟨g5, 0, none⟩) (.int .i64 k) (by simp only []; omega) (by simp only []; omega) hS6))
        clear x5 x6 x7 c50 c51 c52 f5x f5y d50 d51 d52 sl5 own5 own6 own7 hS6 hS5 B5y B1y B1x B5x
        go_wp2
        go_roundg (gk - 1)
        case measure => omega
        case rel => exact ⟨kk - 1, _, _, mixStep s v4, by omega, by omega, by omega, by go_num, by simp; omega, (show Aside _ from ⟨audOk_app HX.out h60, sml_app XX.out.2 ⟨by omega, by omega⟩⟩), (show Aside _ from B1z), (show Aside _ from B5z), (show Aside _ from own8), (show Aside _ from hS8.le (by omega))⟩
    · obtain rfl : kk = 0 := by omega
      clear hlt
      have hll6 : l.length ≤ 60 := by omega
      go_wp2_with fail
      refine (odd_any _ 14 _ _ hS.rd (by omega) (by omega)).mono ?_
      rintro e w4 ⟨q, rfl, hs⟩
      replace B1 := Blk.stp hs B1 (by omega)
      replace B5 := Blk.stp hs B5 (by omega)
      replace own1 := own1.stp hs (by omega)
      replace hS := (hS.trans hs).le (show _ ≤ b + 60 by omega)
      clear hs
      cases q
      · have hsb := (audOk_bd XX.out.1).2
        go_wp2_with fail
        refine (odd_any _ k0 _ _ hS.rd (by omega) (by omega)).mono ?_
        rintro e w5 ⟨q2, rfl, hs⟩
        replace B1 := Blk.stp hs B1 (by omega)
        replace B5 := Blk.stp hs B5 (by omega)
        replace own1 := own1.stp hs (by omega)
        replace hS := (hS.trans hs).le (show _ ≤ b + 70 by omega)
        try clear f5
        clear hs
        cases q2
        · have e0 := B5.c0
          have e1 := B5.c1
          have e2 := B5.c2
          have e3 := B1.frozen
          have e4 := B1.c0
          have e5 := B1.c1
          have e6 := B1.c2
          have B1e := ((B1.set_ 0 (.int .i64 (k))).set_ 1 (.slice A5 l.length c5)).set_ 2 (.int .i64 (s))
          have z0 := B1e.c0
          have z1 := B1e.c1
          have z2 := B1e.c2
          go_wp2
          exact bodyPost_ret (v := audR (((k), (s)), (SV.mk A5 l.length c5 (l) : SV Int))) (by simp [results, Try.results67, go_sem, audR, audS, SV.v, z0, z1, z2]) rfl ⟨(((k), (s)), (SV.mk A5 l.length c5 (l) : SV Int)), rfl, (((own1.far (p := ⟨w.heap.size, 0, none⟩) (by simp only []; omega) _).far (p := ⟨w.heap.size, 1, none⟩) (by simp only []; omega) _).far (p := ⟨w.heap.size, 2, none⟩) (by simp only []; omega) _).low (by omega), (by simp <;> omega), XX.out.2, (by simp only []; omega), (Stp.set (p := ⟨w.heap.size, 2, none⟩) _ (Nat.le_refl _) (by simp only []; omega) (Stp.set (p := ⟨w.heap.size, 1, none⟩) _ (Nat.le_refl _) (by simp only []; omega) (Stp.set (p := ⟨w.heap.size, 0, none⟩) _ (Nat.le_refl _) (by simp only []; omega) hS))).le (by omega)⟩
        · go_wp2_with fail
          refine (pick_any r 4 _ _ hS.rd (by omega) (by omega)).mono ?_
          rintro e w6 ⟨v6, rfl, hv60, hv61, hs⟩
          replace B1 := Blk.stp hs B1 (by omega)
          replace B5 := Blk.stp hs B5 (by omega)
          replace own1 := own1.stp hs (by omega)
          replace hS := (hS.trans hs).le (show _ ≤ b + 80 by omega)
          clear hs
          rcases (show v6 = 0 ∨ v6 = 1 ∨ v6 = 2 ∨ v6 = 3 by omega) with rfl | rfl | rfl | rfl
          · have hw := IntWalk.i64_in (s + 1) (by omega)
            have f2 := B5.c2
            have f3 := B5.frozen
            have hne := own1.neBlk B5 (by decide)
            have B5z := B5.set_ 2 (.int .i64 (s + 1))
            have B1z := B1.far (p := ⟨g5, 2, none⟩) (by simp only []; omega) (.int .i64 (s + 1))
            have own8 := own1.farNe (p := ⟨g5, 2, none⟩) hne (.int .i64 (s + 1))
            have hS8 := Stp.set (p := ⟨g5, 2, none⟩) (.int .i64 (s + 1)) (by simp only []; omega) (by simp only []; omega) hS
            have e0 := B5z.c0
            have e1 := B5z.c1
            have e2 := B5z.c2
            have e3 := B1z.frozen
            have e4 := B1z.c0
            have e5 := B1z.c1
            have e6 := B1z.c2
            have B1e := ((B1z.set_ 0 (.int .i64 (k))).set_ 1 (.slice A5 l.length c5)).set_ 2 (.int .i64 (s + 1))
            have z0 := B1e.c0
            have z1 := B1e.c1
            have z2 := B1e.c2
            go_wp2
            exact bodyPost_ret (v := audR (((k), (s + 1)), (SV.mk A5 l.length c5 (l) : SV Int))) (by simp [results, Try.results67, go_sem, audR, audS, SV.v, z0, z1, z2]) rfl ⟨(((k), (s + 1)), (SV.mk A5 l.length c5 (l) : SV Int)), rfl, (((own8.far (p := ⟨w.heap.size, 0, none⟩) (by simp only []; omega) _).far (p := ⟨w.heap.size, 1, none⟩) (by simp only []; omega) _).far (p := ⟨w.heap.size, 2, none⟩) (by simp only []; omega) _).low (by omega), (by simp <;> omega), XX.out.2, (by simp only []; omega), (Stp.set (p := ⟨w.heap.size, 2, none⟩) _ (Nat.le_refl _) (by simp only []; omega) (Stp.set (p := ⟨w.heap.size, 1, none⟩) _ (Nat.le_refl _) (by simp only []; omega) (Stp.set (p := ⟨w.heap.size, 0, none⟩) _ (Nat.le_refl _) (by simp only []; omega) hS8))).le (by omega)⟩
          · have f2 := B5.c0
            have f3 := B5.frozen
            have hne := own1.neBlk B5 (by decide)
            have B5z := B5.set_ 0 (.int .i64 (-1))
            have B1z := B1.far (p := ⟨g5, 0, none⟩) (by simp only []; omega) (.int .i64 (-1))
            have own8 := own1.farNe (p := ⟨g5, 0, none⟩) hne (.int .i64 (-1))
            have hS8 := Stp.set (p := ⟨g5, 0, none⟩) (.int .i64 (-1)) (by simp only []; omega) (by simp only []; omega) hS
            have e0 := B5z.c0
            have e1 := B5z.c1
            have e2 := B5z.c2
            have e3 := B1z.frozen
            have e4 := B1z.c0
            have e5 := B1z.c1
            have e6 := B1z.c2
            have B1e := ((B1z.set_ 0 (.int .i64 ((-1)))).set_ 1 (.slice A5 l.length c5)).set_ 2 (.int .i64 (s))
            have z0 := B1e.c0
            have z1 := B1e.c1
            have z2 := B1e.c2
            go_wp2
            exact bodyPost_ret (v := audR ((((-1)), (s)), (SV.mk A5 l.length c5 (l) : SV Int))) (by simp [results, Try.results67, go_sem, audR, audS, SV.v, z0, z1, z2]) rfl ⟨((((-1)), (s)), (SV.mk A5 l.length c5 (l) : SV Int)), rfl, (((own8.far (p := ⟨w.heap.size, 0, none⟩) (by simp only []; omega) _).far (p := ⟨w.heap.size, 1, none⟩) (by simp only []; omega) _).far (p := ⟨w.heap.size, 2, none⟩) (by simp only []; omega) _).low (by omega), (by simp <;> omega), XX.out.2, (by simp only []; omega), (Stp.set (p := ⟨w.heap.size, 2, none⟩) _ (Nat.le_refl _) (by simp only []; omega) (Stp.set (p := ⟨w.heap.size, 1, none⟩) _ (Nat.le_refl _) (by simp only []; omega) (Stp.set (p := ⟨w.heap.size, 0, none⟩) _ (Nat.le_refl _) (by simp only []; omega) hS8))).le (by omega)⟩
          · have B5a := B5.alloc (.cells #[.int .i64 5] 3)
            have B1a := B1.alloc (.cells #[.int .i64 5] 3)
            have own2 := own1.alloc (.cells #[.int .i64 5] 3)
            have hS2 := hS.alloc (.cells #[.int .i64 5] 3)
            have src := Sl.of_blk (xs := [(5 : Int)]) (Blk.new w6 3 #[.int .i64 5]) encI (by simp)
            have hz3 : w.heap.size + 1 ≤ (w6.alloc (.cells #[.int .i64 5] 3)).heap.size := by have := B5a.lt; omega
            have y0 := B5a.c1
            have y1 := B5.c1
            go_wp2_with (at_builtin; (refine app_own rfl _ _ appInt rfl encI (w.heap.size + 1) _ l rfl own2 _ 1 1 [(5 : Int)] rfl (fun e => by cases e) src (by omega) hz3 ?_); intro v' w7 own7 hg7; have B5b := B5a.appO hg7 (own2.neBlk B5a (by decide)); have B1b := B1a.app own2 hg7 (by omega); have hS7 := hS2.app own2 hg7 (by omega) (by omega); obtain ⟨A7, c7, hv7, -, -, -⟩ := own7.sl encI; rw [show (l ++ [(5 : Int)]).length = l.length + 1 from by simp] at hv7; subst hv7; have f3 := B5b.frozen; have f4 := B5b.c1; have hne := own7.neBlk B5b (by decide); have B5z := B5b.set_ 1 (.slice A7 (l.length + 1) c7); have B1z := B1b.far (p := ⟨g5, 1, none⟩) (by simp only []; omega) (.slice A7 (l.length + 1) c7); have own8 := own7.farNe (p := ⟨g5, 1, none⟩) hne (.slice A7 (l.length + 1) c7); have hS8 := Stp.set (p := ⟨g5, 1, none⟩) (.slice A7 (l.length + 1) c7) (by simp only []; omega) (by simp only []; omega) hS7; have e0 := B5z.c0; have e1 := B5z.c1; have e2 := B5z.c2; have e3 := B1z.frozen; have e4 := B1z.c0; have e5 := B1z.c1; have e6 := B1z.c2; clear own2 hg7 src B5a B1a y0 y1)
            have e0 := B5z.c0
            have e1 := B5z.c1
            have e2 := B5z.c2
            have e3 := B1z.frozen
            have e4 := B1z.c0
            have e5 := B1z.c1
            have e6 := B1z.c2
            have B1e := ((B1z.set_ 0 (.int .i64 (k))).set_ 1 (.slice A7 (l.length + 1) c7)).set_ 2 (.int .i64 (s))
            have z0 := B1e.c0
            have z1 := B1e.c1
            have z2 := B1e.c2
            go_wp2
            exact bodyPost_ret (v := audR (((k), (s)), (SV.mk A7 (l.length + 1) c7 (l ++ [5]) : SV Int))) (by simp [results, Try.results67, go_sem, audR, audS, SV.v, z0, z1, z2]) rfl ⟨(((k), (s)), (SV.mk A7 (l.length + 1) c7 (l ++ [5]) : SV Int)), rfl, (((own8.far (p := ⟨w.heap.size, 0, none⟩) (by simp only []; omega) _).far (p := ⟨w.heap.size, 1, none⟩) (by simp only []; omega) _).far (p := ⟨w.heap.size, 2, none⟩) (by simp only []; omega) _).low (by omega), (by simp <;> omega), (sml_app XX.out.2 (by omega)), (by simp only []; omega), (Stp.set (p := ⟨w.heap.size, 2, none⟩) _ (Nat.le_refl _) (by simp only []; omega) (Stp.set (p := ⟨w.heap.size, 1, none⟩) _ (Nat.le_refl _) (by simp only []; omega) (Stp.set (p := ⟨w.heap.size, 0, none⟩) _ (Nat.le_refl _) (by simp only []; omega) hS8))).le (by omega)⟩
          · go_wp2_with (at_make; refine make_own rfl _ _ zeroInt rfl encI w6.heap.size _ _ 61 rfl rfl (by omega) (by omega) (by omega) (Nat.le_refl _) ?_; intro w7 own7 hg7; have hb7 := below_of_grown hg7; have B5b := B5.below hb7; have B1b := B1.below hb7; have hS7 := hS.callS hb7; have f3 := B5b.frozen; have f4 := B5b.c1; have hz6 := hS.grown.size; have hz5 := B5.lt; have hne := own7.neBlk B5b (by decide); have B5z := B5b.set_ 1 (.slice (some ⟨w6.heap.size, 0, none⟩) 61 61); have B1z := B1b.far (p := ⟨g5, 1, none⟩) (by simp only []; omega) (.slice (some ⟨w6.heap.size, 0, none⟩) 61 61); have own8 := (own7.low (base' := w.heap.size + 1) (by omega)).farNe (p := ⟨g5, 1, none⟩) hne (.slice (some ⟨w6.heap.size, 0, none⟩) 61 61); have hS8 := Stp.set (p := ⟨g5, 1, none⟩) (.slice (some ⟨w6.heap.size, 0, none⟩) 61 61) (by simp only []; omega) (by simp only []; omega) hS7; have e0 := B5z.c0; have e1 := B5z.c1; have e2 := B5z.c2; have e3 := B1z.frozen; have e4 := B1z.c0; have e5 := B1z.c1; have e6 := B1z.c2)
            have e0 := B5z.c0
            have e1 := B5z.c1
            have e2 := B5z.c2
            have e3 := B1z.frozen
            have e4 := B1z.c0
            have e5 := B1z.c1
            have e6 := B1z.c2
            have B1e := ((B1z.set_ 0 (.int .i64 (k))).set_ 1 (.slice (some ⟨w6.heap.size, 0, none⟩) 61 61)).set_ 2 (.int .i64 (s))
            have z0 := B1e.c0
            have z1 := B1e.c1
            have z2 := B1e.c2
            go_wp2
            exact bodyPost_ret (v := audR (((k), (s)), (SV.mk (some ⟨w6.heap.size, 0, none⟩) 61 61 (List.replicate 61 0) : SV Int))) (by simp [results, Try.results67, go_sem, audR, audS, SV.v, z0, z1, z2]) rfl ⟨(((k), (s)), (SV.mk (some ⟨w6.heap.size, 0, none⟩) 61 61 (List.replicate 61 0) : SV Int)), rfl, (((own8.far (p := ⟨w.heap.size, 0, none⟩) (by simp only []; omega) _).far (p := ⟨w.heap.size, 1, none⟩) (by simp only []; omega) _).far (p := ⟨w.heap.size, 2, none⟩) (by simp only []; omega) _).low (by omega), (by simp <;> omega), (fun y hy => by rw [List.eq_of_mem_replicate hy]; exact ⟨by omega, by omega⟩), (by simp only []; omega), (Stp.set (p := ⟨w.heap.size, 2, none⟩) _ (Nat.le_refl _) (by simp only []; omega) (Stp.set (p := ⟨w.heap.size, 1, none⟩) _ (Nat.le_refl _) (by simp only []; omega) (Stp.set (p := ⟨w.heap.size, 0, none⟩) _ (Nat.le_refl _) (by simp only []; omega) hS8))).le (by omega)⟩
      · have f5 := B5.c1
        go_wp2_with fail
        go_loopg [30] 60 (fun gg s30 wr => ∃ (v : Value) (l : List Int) (s : Int), 60 - l.length ≤ gg ∧ l.length ≤ 60 ∧ Aside (audOk k l s = true ∧ sml l) ∧ Aside (Blk wr w.heap.size 58 #[.int .i64 0, .slice none 0 0, .int .i64 0]) ∧ Aside (Blk wr g5 58 #[.int .i64 k, v, .int .i64 s]) ∧ Aside (Own wr (w.heap.size + 1) 3 1 eI v l) ∧ Aside (Stp r 96 w (b + 60) wr))
        case atStart => exact ⟨_, l, s, by omega, by omega, (show Aside _ from XX.out), (show Aside _ from B1), (show Aside _ from B5), (show Aside _ from own1), (show Aside _ from hS)⟩
        case round =>
          clear B1 B5 hS own1 f5 XX
          obtain ⟨v, l, s, hg, hll, XX, BA, BB, OW, SS⟩ := hrel
          have B1 := BA.out
          have B5 := BB.out
          have own1 := OW.out
          have hS := SS.out
          clear BA BB OW SS
          obtain ⟨A5, c5, hv5, -, -, -⟩ := own1.sl encI
          subst hv5
          have hll6 : l.length ≤ 60 := by omega
          have f5 := B5.c1
          by_cases h60 : l.length < 60
          · have h60z : (l.length : Int) < 60 := by omega
            have x5 := B5.c0
            have x7 := B5.c2
            have hg5z := B5.lt
            have hnil : A5 = none → c5 = 0 := (own1.okv encI).nil
            have HX := Lib.hid XX.out.1
            have hA := appendAudit_any k s 1 A5 l.length c5 l hnil HX.out h60 _ (own1.okv encI).sl
            go_wp2_with fail
            refine hA.mono ?_
            rintro e w6 ⟨⟨A6, n6, c6, l6⟩, rfl, own6, hl6, hb6⟩
            simp only [apV, audS, SV.v] at own6 hl6 ⊢
            subst hl6
            clear hA
            have B1y := B1.below hb6
            have B5y := B5.below hb6
            have own7 := own6.low (base' := w.heap.size + 1) (by omega)
            have hS6 := hS.callS hb6
            have hne := own7.neBlk B5y (by decide)
            have B5z := ((B5y.set_ 0 (.int .i64 k)).set_ 1 (.slice A6 n6 c6)).set_ 2 (.int .i64 (mixStep s 1))
            have B1z := ((B1y.far (p := ⟨g5, 0, none⟩) (by simp only []; omega) (.int .i64 k)).far (p := ⟨g5, 1, none⟩) (by simp only []; omega) (.slice A6 n6 c6)).far (p := ⟨g5, 2, none⟩) (by simp only []; omega) (.int .i64 (mixStep s 1))
            have own8 := ((own7.farNe (p := ⟨g5, 0, none⟩) hne (.int .i64 k)).farNe (p := ⟨g5, 1, none⟩) hne (.slice A6 n6 c6)).farNe (p := ⟨g5, 2, none⟩) hne (.int .i64 (mixStep s 1))
            have hS8 := Stp.set (p := ⟨g5, 2, none⟩) (.int .i64 (mixStep s 1)) (by simp only []; omega) (by simp only []; omega) (Stp.set (p := ⟨g5, 1, none⟩) (.slice A6 n6 c6) (by simp only []; omega) (by simp only []; omega) (Stp.set (p := ⟨g5, 0, none⟩) (.int .i64 k) (by simp only []; omega) (by simp only []; omega) hS6))
            clear x5 x7 f5 own1 own6 own7 hS6 B1 B5
            have f5y := B5y.frozen
            have d50 := B5y.c0
            have d51 := B5y.c1
            have d52 := B5y.c2
            go_wp2
            go_roundg (gk - 1)
            case measure => omega
            case rel => exact ⟨_, _, mixStep s 1, by simp; omega, by simp; omega, (show Aside _ from ⟨audOk_app HX.out h60, sml_app XX.out.2 ⟨by omega, by omega⟩⟩), (show Aside _ from B1z), (show Aside _ from B5z), (show Aside _ from own8), (show Aside _ from hS8)⟩
          · have h60z : ¬ (l.length : Int) < 60 := by omega
            have hsb := (audOk_bd XX.out.1).2
            go_wp2_with fail
            refine (odd_any _ k0 _ _ hS.rd (by omega) (by omega)).mono ?_
            rintro e w5 ⟨q2, rfl, hs⟩
            replace B1 := Blk.stp hs B1 (by omega)
            replace B5 := Blk.stp hs B5 (by omega)
            replace own1 := own1.stp hs (by omega)
            replace hS := (hS.trans hs).le (show _ ≤ b + 70 by omega)
            try clear f5
            clear hs
            cases q2
            · have e0 := B5.c0
              have e1 := B5.c1
              have e2 := B5.c2
              have e3 := B1.frozen
              have e4 := B1.c0
              have e5 := B1.c1
              have e6 := B1.c2
              have B1e := ((B1.set_ 0 (.int .i64 (k))).set_ 1 (.slice A5 l.length c5)).set_ 2 (.int .i64 (s))
              have z0 := B1e.c0
              have z1 := B1e.c1
              have z2 := B1e.c2
              go_wp2
              exact bodyPost_ret (v := audR (((k), (s)), (SV.mk A5 l.length c5 (l) : SV Int))) (by simp [results, Try.results67, go_sem, audR, audS, SV.v, z0, z1, z2]) rfl ⟨(((k), (s)), (SV.mk A5 l.length c5 (l) : SV Int)), rfl, (((own1.far (p := ⟨w.heap.size, 0, none⟩) (by simp only []; omega) _).far (p := ⟨w.heap.size, 1, none⟩) (by simp only []; omega) _).far (p := ⟨w.heap.size, 2, none⟩) (by simp only []; omega) _).low (by omega), (by simp <;> omega), XX.out.2, (by simp only []; omega), (Stp.set (p := ⟨w.heap.size, 2, none⟩) _ (Nat.le_refl _) (by simp only []; omega) (Stp.set (p := ⟨w.heap.size, 1, none⟩) _ (Nat.le_refl _) (by simp only []; omega) (Stp.set (p := ⟨w.heap.size, 0, none⟩) _ (Nat.le_refl _) (by simp only []; omega) hS))).le (by omega)⟩
            · go_wp2_with fail
              refine (pick_any r 4 _ _ hS.rd (by omega) (by omega)).mono ?_
              rintro e w6 ⟨v6, rfl, hv60, hv61, hs⟩
              replace B1 := Blk.stp hs B1 (by omega)
              replace B5 := Blk.stp hs B5 (by omega)
              replace own1 := own1.stp hs (by omega)
              replace hS := (hS.trans hs).le (show _ ≤ b + 80 by omega)
              clear hs
              rcases (show v6 = 0 ∨ v6 = 1 ∨ v6 = 2 ∨ v6 = 3 by omega) with rfl | rfl | rfl | rfl
              · have hw := IntWalk.i64_in (s + 1) (by omega)
                have f2 := B5.c2
                have f3 := B5.frozen
                have hne := own1.neBlk B5 (by decide)
                have B5z := B5.set_ 2 (.int .i64 (s + 1))
                have B1z := B1.far (p := ⟨g5, 2, none⟩) (by simp only []; omega) (.int .i64 (s + 1))
                have own8 := own1.farNe (p := ⟨g5, 2, none⟩) hne (.int .i64 (s + 1))
                have hS8 := Stp.set (p := ⟨g5, 2, none⟩) (.int .i64 (s + 1)) (by simp only []; omega) (by simp only []; omega) hS
                have e0 := B5z.c0
                have e1 := B5z.c1
                have e2 := B5z.c2
                have e3 := B1z.frozen
                have e4 := B1z.c0
                have e5 := B1z.c1
                have e6 := B1z.c2
                have B1e := ((B1z.set_ 0 (.int .i64 (k))).set_ 1 (.slice A5 l.length c5)).set_ 2 (.int .i64 (s + 1))
                have z0 := B1e.c0
                have z1 := B1e.c1
                have z2 := B1e.c2
                go_wp2
                exact bodyPost_ret (v := audR (((k), (s + 1)), (SV.mk A5 l.length c5 (l) : SV Int))) (by simp [results, Try.results67, go_sem, audR, audS, SV.v, z0, z1, z2]) rfl ⟨(((k), (s + 1)), (SV.mk A5 l.length c5 (l) : SV Int)), rfl, (((own8.far (p := ⟨w.heap.size, 0, none⟩) (by simp only []; omega) _).far (p := ⟨w.heap.size, 1, none⟩) (by simp only []; omega) _).far (p := ⟨w.heap.size, 2, none⟩) (by simp only []; omega) _).low (by omega), (by simp <;> omega), XX.out.2, (by simp only []; omega), (Stp.set (p := ⟨w.heap.size, 2, none⟩) _ (Nat.le_refl _) (by simp only []; omega) (Stp.set (p := ⟨w.heap.size, 1, none⟩) _ (Nat.le_refl _) (by simp only []; omega) (Stp.set (p := ⟨w.heap.size, 0, none⟩) _ (Nat.le_refl _) (by simp only []; omega) hS8))).le (by omega)⟩
              · have f2 := B5.c0
                have f3 := B5.frozen
                have hne := own1.neBlk B5 (by decide)
                have B5z := B5.set_ 0 (.int .i64 (-1))
                have B1z := B1.far (p := ⟨g5, 0, none⟩) (by simp only []; omega) (.int .i64 (-1))
                have own8 := own1.farNe (p := ⟨g5, 0, none⟩) hne (.int .i64 (-1))
                have hS8 := Stp.set (p := ⟨g5, 0, none⟩) (.int .i64 (-1)) (by simp only []; omega) (by simp only []; omega) hS
                have e0 := B5z.c0
                have e1 := B5z.c1
                have e2 := B5z.c2
                have e3 := B1z.frozen
                have e4 := B1z.c0
                have e5 := B1z.c1
                have e6 := B1z.c2
                have B1e := ((B1z.set_ 0 (.int .i64 ((-1)))).set_ 1 (.slice A5 l.length c5)).set_ 2 (.int .i64 (s))
                have z0 := B1e.c0
                have z1 := B1e.c1
                have z2 := B1e.c2
                go_wp2
                exact bodyPost_ret (v := audR ((((-1)), (s)), (SV.mk A5 l.length c5 (l) : SV Int))) (by simp [results, Try.results67, go_sem, audR, audS, SV.v, z0, z1, z2]) rfl ⟨((((-1)), (s)), (SV.mk A5 l.length c5 (l) : SV Int)), rfl, (((own8.far (p := ⟨w.heap.size, 0, none⟩) (by simp only []; omega) _).far (p := ⟨w.heap.size, 1, none⟩) (by simp only []; omega) _).far (p := ⟨w.heap.size, 2, none⟩) (by simp only []; omega) _).low (by omega), (by simp <;> omega), XX.out.2, (by simp only []; omega), (Stp.set (p := ⟨w.heap.size, 2, none⟩) _ (Nat.le_refl _) (by simp only []; omega) (Stp.set (p := ⟨w.heap.size, 1, none⟩) _ (Nat.le_refl _) (by simp only []; omega) (Stp.set (p := ⟨w.heap.size, 0, none⟩) _ (Nat.le_refl _) (by simp only []; omega) hS8))).le (by omega)⟩
              · have B5a := B5.alloc (.cells #[.int .i64 5] 3)
                have B1a := B1.alloc (.cells #[.int .i64 5] 3)
                have own2 := own1.alloc (.cells #[.int .i64 5] 3)
                have hS2 := hS.alloc (.cells #[.int .i64 5] 3)
                have src := Sl.of_blk (xs := [(5 : Int)]) (Blk.new w6 3 #[.int .i64 5]) encI (by simp)
                have hz3 : w.heap.size + 1 ≤ (w6.alloc (.cells #[.int .i64 5] 3)).heap.size := by have := B5a.lt; omega
                have y0 := B5a.c1
                have y1 := B5.c1
                go_wp2_with (at_builtin; (refine app_own rfl _ _ appInt rfl encI (w.heap.size + 1) _ l rfl own2 _ 1 1 [(5 : Int)] rfl (fun e => by cases e) src (by omega) hz3 ?_); intro v' w7 own7 hg7; have B5b := B5a.appO hg7 (own2.neBlk B5a (by decide)); have B1b := B1a.app own2 hg7 (by omega); have hS7 := hS2.app own2 hg7 (by omega) (by omega); obtain ⟨A7, c7, hv7, -, -, -⟩ := own7.sl encI; rw [show (l ++ [(5 : Int)]).length = l.length + 1 from by simp] at hv7; subst hv7; have f3 := B5b.frozen; have f4 := B5b.c1; have hne := own7.neBlk B5b (by decide); have B5z := B5b.set_ 1 (.slice A7 (l.length + 1) c7); have B1z := B1b.far (p := ⟨g5, 1, none⟩) (by simp only []; omega) (.slice A7 (l.length + 1) c7); have own8 := own7.farNe (p := ⟨g5, 1, none⟩) hne (.slice A7 (l.length + 1) c7); have hS8 := Stp.set (p := ⟨g5, 1, none⟩) (.slice A7 (l.length + 1) c7) (by simp only []; omega) (by simp only []; omega) hS7; have e0 := B5z.c0; have e1 := B5z.c1; have e2 := B5z.c2; have e3 := B1z.frozen; have e4 := B1z.c0; have e5 := B1z.c1; have e6 := B1z.c2; clear own2 hg7 src B5a B1a y0 y1)
                have e0 := B5z.c0
                have e1 := B5z.c1
                have e2 := B5z.c2
                have e3 := B1z.frozen
                have e4 := B1z.c0
                have e5 := B1z.c1
                have e6 := B1z.c2
                have B1e := ((B1z.set_ 0 (.int .i64 (k))).set_ 1 (.slice A7 (l.length + 1) c7)).set_ 2 (.int .i64 (s))
                have z0 := B1e.c0
                have z1 := B1e.c1
                have z2 := B1e.c2
                go_wp2
                exact bodyPost_ret (v := audR (((k), (s)), (SV.mk A7 (l.length + 1) c7 (l ++ [5]) : SV Int))) (by simp [results, Try.results67, go_sem, audR, audS, SV.v, z0, z1, z2]) rfl ⟨(((k), (s)), (SV.mk A7 (l.length + 1) c7 (l ++ [5]) : SV Int)), rfl, (((own8.far (p := ⟨w.heap.size, 0, none⟩) (by simp only []; omega) _).far (p := ⟨w.heap.size, 1, none⟩) (by simp only []; omega) _).far (p := ⟨w.heap.size, 2, none⟩) (by simp only []; omega) _).low (by omega), (by simp <;> omega), (sml_app XX.out.2 (by omega)), (by simp only []; omega), (Stp.set (p := ⟨w.heap.size, 2, none⟩) _ (Nat.le_refl _) (by simp only []; omega) (Stp.set (p := ⟨w.heap.size, 1, none⟩) _ (Nat.le_refl _) (by simp only []; omega) (Stp.set (p := ⟨w.heap.size, 0, none⟩) _ (Nat.le_refl _) (by simp only []; omega) hS8))).le (by omega)⟩
              · go_wp2_with (at_make; refine make_own rfl _ _ zeroInt rfl encI w6.heap.size _ _ 61 rfl rfl (by omega) (by omega) (by omega) (Nat.le_refl _) ?_; intro w7 own7 hg7; have hb7 := below_of_grown hg7; have B5b := B5.below hb7; have B1b := B1.below hb7; have hS7 := hS.callS hb7; have f3 := B5b.frozen; have f4 := B5b.c1; have hz6 := hS.grown.size; have hz5 := B5.lt; have hne := own7.neBlk B5b (by decide); have B5z := B5b.set_ 1 (.slice (some ⟨w6.heap.size, 0, none⟩) 61 61); have B1z := B1b.far (p := ⟨g5, 1, none⟩) (by simp only []; omega) (.slice (some ⟨w6.heap.size, 0, none⟩) 61 61); have own8 := (own7.low (base' := w.heap.size + 1) (by omega)).farNe (p := ⟨g5, 1, none⟩) hne (.slice (some ⟨w6.heap.size, 0, none⟩) 61 61); have hS8 := Stp.set (p := ⟨g5, 1, none⟩) (.slice (some ⟨w6.heap.size, 0, none⟩) 61 61) (by simp only []; omega) (by simp only []; omega) hS7; have e0 := B5z.c0; have e1 := B5z.c1; have e2 := B5z.c2; have e3 := B1z.frozen; have e4 := B1z.c0; have e5 := B1z.c1; have e6 := B1z.c2)
                have e0 := B5z.c0
                have e1 := B5z.c1
                have e2 := B5z.c2
                have e3 := B1z.frozen
                have e4 := B1z.c0
                have e5 := B1z.c1
                have e6 := B1z.c2
                have B1e := ((B1z.set_ 0 (.int .i64 (k))).set_ 1 (.slice (some ⟨w6.heap.size, 0, none⟩) 61 61)).set_ 2 (.int .i64 (s))
                have z0 := B1e.c0
                have z1 := B1e.c1
                have z2 := B1e.c2
                go_wp2
                exact bodyPost_ret (v := audR (((k), (s)), (SV.mk (some ⟨w6.heap.size, 0, none⟩) 61 61 (List.replicate 61 0) : SV Int))) (by simp [results, Try.results67, go_sem, audR, audS, SV.v, z0, z1, z2]) rfl ⟨(((k), (s)), (SV.mk (some ⟨w6.heap.size, 0, none⟩) 61 61 (List.replicate 61 0) : SV Int)), rfl, (((own8.far (p := ⟨w.heap.size, 0, none⟩) (by simp only []; omega) _).far (p := ⟨w.heap.size, 1, none⟩) (by simp only []; omega) _).far (p := ⟨w.heap.size, 2, none⟩) (by simp only []; omega) _).low (by omega), (by simp <;> omega), (fun y hy => by rw [List.eq_of_mem_replicate hy]; exact ⟨by omega, by omega⟩), (by simp only []; omega), (Stp.set (p := ⟨w.heap.size, 2, none⟩) _ (Nat.le_refl _) (by simp only []; omega) (Stp.set (p := ⟨w.heap.size, 1, none⟩) _ (Nat.le_refl _) (by simp only []; omega) (Stp.set (p := ⟨w.heap.size, 0, none⟩) _ (Nat.le_refl _) (by simp only []; omega) hS8))).le (by omega)⟩
end Go.Proofs.Ytffhcifeccdfjaa
