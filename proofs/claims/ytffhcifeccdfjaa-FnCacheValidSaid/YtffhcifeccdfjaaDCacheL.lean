/- The draw l20Cache. -/
import Derived.Test.YtffhcifeccdfjaaDTouch
import Derived.Test.YtffhcifeccdfjaaReg
namespace Go.Proofs.Ytffhcifeccdfjaa
set_option linter.unusedVariables false
set_option linter.unusedSimpArgs false
open Go.RowKit

theorem Stp.call {r T : Nat} {a w w' : World} {b : Int} (hS : Stp r T a b w) (hb : Below w.heap.size w w') : Stp r T a b w' := hS.none ⟨hb.os, hb.tape, hb.output, hb.size, fun i hi _ => hb.block i hi⟩
def tyCL12 (r : Nat) (B G m c : Nat) : Nat → Ty
  | 0 => .pure (fun v => v = .pointer (some ⟨B, 0, none⟩))
  | 1 => .pure (fun v => v = .slice (some ⟨G, 0, none⟩) (m + 1) c)
  | 2 => .lit 2 (-2) 257
  | 3 => .pure (fun v => v = .pointer (some ⟨r, 0, none⟩))
  | 4 => .pure (isInt 0 2)
  | 5 => .elt (-2) 257
  | 6 => .pure (isInt (-2) 257)
  | _ => .pure fun _ => True

set_option maxRecDepth 100000 in
set_option maxHeartbeats 2000000 in
theorem l20Cache_any (r : Nat) (k b : Int) (w : World) (h : Rd w r 96 b) (hb : b ≤ 999900000) (hk : -1000 ≤ k) :
    Calls Try.prog 53 #[.pointer (some ⟨r, 0, none⟩), .int .i64 k] w (Post (fun s : SV Int => .agg #[s.v]) fun s w' => Own w' w.heap.size 3 1 eI s.v s.xs ∧ s.n ≤ 18 ∧ Stp r 96 w (b + 200) w') := by
  have hr0 := h.lt
  have B1 := Blk.new w 40 #[.slice none 0 0]
  have hS := (Stp.refl h).alloc (.cells #[.slice none 0 0] 40)
  clear h
  go_enter Try.func53, Try.ntmps53
  go_wp2_with fail
  refine (pick_any r 4 _ _ hS.rd (by omega) (by omega)).mono ?_
  rintro e w1 ⟨v, rfl, hv0, hv1, hs⟩
  replace B1 := Blk.stp hs B1 (by omega)
  replace hS := hS.trans hs
  clear hs
  obtain ⟨m, hm, hl⟩ : ∃ m : Nat, wrap64 (2 ^ v.toNat) = (m : Int) ∧ linedN m = true := by
    rcases (show v = 0 ∨ v = 1 ∨ v = 2 ∨ v = 3 by omega) with rfl | rfl | rfl | rfl
    · exact ⟨1, by kernel_rfl, by decide⟩
    · exact ⟨2, by kernel_rfl, by decide⟩
    · exact ⟨4, by kernel_rfl, by decide⟩
    · exact ⟨8, by kernel_rfl, by decide⟩
  go_wp2_with fail
  rw [hm]
  refine (emptyCache_any m hl _).mono ?_
  have hw1 := B1.lt
  rintro e w2 ⟨⟨A2, n2, c2, l2⟩, rfl, own2, hx2, hbw2⟩
  simp only [SV.v] at own2 hx2 ⊢
  replace B1 := B1.below hbw2
  replace hS := hS.call hbw2
  have hz1 := hS.grown.size
  have B5 := Blk.new w2 40 #[.slice A2 n2 c2]
  replace own2 := (own2.low (base' := w.heap.size + 1) (by omega)).alloc (.cells #[.slice A2 n2 c2] 40)
  replace B1 := B1.alloc (.cells #[.slice A2 n2 c2] 40)
  replace hS := hS.alloc (.cells #[.slice A2 n2 c2] 40)
  go_wp2_with fail
  refine (pick_any r 9 _ _ hS.rd (by omega) (by omega)).mono ?_
  rintro e w3 ⟨v3, rfl, hv30, hv31, hs⟩
  replace B1 := Blk.stp hs B1 (by omega)
  replace B5 := Blk.stp hs B5 (by omega)
  replace own2 := own2.stp hs (by omega)
  replace hS := hS.trans hs
  clear hs
  have hg5 : w.heap.size < w2.heap.size := by have := hbw2.size; omega
  generalize hG : w2.heap.size = g5 at *
  go_wp2_with fail
  go_loopg [6] 20 (fun gg s6 wr => ∃ (kk : Int) (v : Value) (l : List Int), 0 ≤ kk ∧ kk ≤ gg ∧ gg ≤ 20 ∧ s6 = .int .i64 kk ∧ Aside (cacheOk l = true) ∧ Aside (Blk wr w.heap.size 40 #[.slice none 0 0]) ∧ Aside (Blk wr g5 40 #[v]) ∧ Aside (Own wr (w.heap.size + 1) 3 1 eI v l) ∧ Aside (Stp r 96 w (b + 50 - kk) wr))
  case atStart => exact ⟨v3, _, l2, by omega, by omega, by omega, rfl, (show Aside _ from hx2), (show Aside _ from B1), (show Aside _ from B5), (show Aside _ from own2), (show Aside _ from hS.le (by omega))⟩
  case round =>
    obtain ⟨kk, v, l, hk0, hk1, hg, rfl, XX, BA, BB, OW, SS⟩ := hrel
    clear B1 B5 own2 hS
    have B1 := BA.out
    have B5 := BB.out
    have own1 := OW.out
    have hS := SS.out
    clear BA BB OW SS
    by_cases hlt : 0 < kk
    · obtain ⟨gl, cl, rfl, hgl0, hgl1, hlc, hcm⟩ := own1.form (by have := linedN_range (cacheOk_all XX.out).2; omega)
      have c5 := B5.c0
      have hg5z := B5.lt
      go_wp2_with fail
      go_region_with (first | (go_at_call 41; refine (pick_any r 256 _ _ (by repeat (first | exact hS.rd | apply Rd.drew)) (by omega) (by omega)).mono ?_; rintro e w5 ⟨v4, rfl, hv40, hv41, hs⟩; have B1x := Blk.stpOf B1 hs (by repeat (first | exact B1 | apply Blk.drew)) (by omega); have B5x := Blk.stpOf B5 hs (by repeat (first | exact B5 | apply Blk.drew)) (by omega); have own5 := Own.stpOf own1 hs (by repeat (first | exact own1 | apply Own.drew)) (by omega); have hS5 := Stp.trans (w := _) (by repeat (first | exact hS | apply Stp.drew)) hs; have hw8 := IntWalk.i64_in (v4 * 8) (by omega); have c5x := B5x.c0; have f5x := B5x.frozen; have sl5 := (own5.okv encI).sl) | (go_at_call 86; refine (touchCache_any _ _ _ _ (v4 * 8 / 16).toNat (v4 * 8) ⟨by omega, by omega⟩ (by omega) XX.out (fun e => by cases e) _ (sl5.below (by repeat (first | exact Below.refl _ _ | apply Below.drew)))).mono ?_; rintro e w6 ⟨⟨⟨A6, n6, c6, l6⟩, t6⟩, rfl, own6, hx6, hb6⟩; simp only [touchV, SV.v]; have B1y := Blk.belowOf B1x hb6 (by repeat (first | exact B1x | apply Blk.drew)); have B5y := Blk.belowOf B5x hb6 (by repeat (first | exact B5x | apply Blk.drew)); have f5y := B5y.frozen; have c5y := B5y.c0))
      all_goals
        have hz5 : w.heap.size + 1 ≤ w5.heap.size := by have := B5x.lt; omega
        have own7 := own6.low (base' := w.heap.size + 1) hz5
        have hS6 := Stp.call (w := _) (by repeat (first | exact hS5 | apply Stp.drew)) hb6
        have B5z := B5y.set_ 0 (.slice A6 n6 c6)
        have B1z := B1y.far (p := ⟨g5, 0, none⟩) (by simp only []; omega) (.slice A6 n6 c6)
        have own8 := own7.farNe (p := ⟨g5, 0, none⟩) (own7.neBlk B5y (by decide)) (.slice A6 n6 c6)
        have hS8 := Stp.set (p := ⟨g5, 0, none⟩) (.slice A6 n6 c6) (by simp only []; omega) (by simp only []; omega) hS6
        clear c5 c5x f5x c5y f5y sl5 own5 own6 own7 hS6 hS5 B5y B1y B1x B5x
        go_wp2
        go_roundg (gk - 1)
        case measure => omega
        case rel => exact ⟨kk - 1, _, _, by omega, by omega, by omega, by go_num, (show Aside _ from hx6), (show Aside _ from B1z), (show Aside _ from B5z), (show Aside _ from own8), (show Aside _ from hS8.le (by omega))⟩
    · obtain rfl : kk = 0 := by omega
      clear hlt
      obtain ⟨A5, c5, hv5, -, -, -⟩ := own1.sl encI
      subst hv5
      have hln := linedN_range (cacheOk_all XX.out).2
      go_wp2_with fail
      refine (odd_any _ k _ _ hS.rd (by omega) (by omega)).mono ?_
      rintro e w5 ⟨q, rfl, hs⟩
      replace B1 := Blk.stp hs B1 (by omega)
      replace B5 := Blk.stp hs B5 (by omega)
      replace own1 := own1.stp hs (by omega)
      replace hS := hS.trans hs
      clear hs
      cases q
      · have e0 := B5.c0
        have e1 := B1.frozen
        have e2 := B1.c0
        have e5 := (B1.set_ 0 (.slice A5 l.length c5)).c0
        go_wp2
        exact bodyPost_ret (v := .agg #[SV.v ⟨A5, l.length, c5, l⟩]) (by simp [results, Try.results53, go_sem, SV.v, e5]) rfl ⟨⟨A5, l.length, c5, l⟩, rfl, (own1.far (p := ⟨w.heap.size, 0, none⟩) (by simp only []; omega) _).low (by omega), (by simp only []; omega), (Stp.set (p := ⟨w.heap.size, 0, none⟩) _ (Nat.le_refl _) (by simp only []; omega) hS).le (by omega)⟩
      · go_wp2_with fail
        refine (pick_any r 3 _ _ hS.rd (by omega) (by omega)).mono ?_
        rintro e w6 ⟨v6, rfl, hv60, hv61, hs⟩
        replace B1 := Blk.stp hs B1 (by omega)
        replace B5 := Blk.stp hs B5 (by omega)
        replace own1 := own1.stp hs (by omega)
        replace hS := hS.trans hs
        clear hs
        rcases (show v6 = 0 ∨ v6 = 1 ∨ v6 = 2 by omega) with rfl | rfl | rfl
        · have B5a := B5.alloc (.cells #[.int .i64 (-1), .int .i64 (-1)] 3)
          have B1a := B1.alloc (.cells #[.int .i64 (-1), .int .i64 (-1)] 3)
          have own2 := own1.alloc (.cells #[.int .i64 (-1), .int .i64 (-1)] 3)
          have hS2 := hS.alloc (.cells #[.int .i64 (-1), .int .i64 (-1)] 3)
          have src := Sl.of_blk (xs := [(-1 : Int), -1]) (Blk.new w6 3 #[.int .i64 (-1), .int .i64 (-1)]) encI (by simp)
          have hz2 := hS2.grown.size
          have hz3 : w.heap.size + 1 ≤ (w6.alloc (.cells #[.int .i64 (-1), .int .i64 (-1)] 3)).heap.size := by have := B5a.lt; omega
          have y0 := B5a.c0
          have y1 := B5.c0
          go_wp2_with (at_builtin; (refine app_own rfl _ _ appInt rfl encI (w.heap.size + 1) _ l rfl own2 _ 2 2 [(-1 : Int), -1] rfl (fun e => by cases e) src (by omega) hz3 ?_); intro v' w7 own7 hg7; have B5b := B5a.appO hg7 (own2.neBlk B5a (by decide)); have B1b := B1a.appO hg7 (own2.neBlk B1a (by decide)); have hS7 := hS2.app own2 hg7 (by omega) (by omega); obtain ⟨A7, c7, hv7, -, -, -⟩ := own7.sl encI; rw [show (l ++ [(-1 : Int), -1]).length = l.length + 2 from by simp] at hv7; subst hv7; have B5z := B5b.set_ 0 (.slice A7 (l.length + 2) c7); have B1z := B1b.far (p := ⟨g5, 0, none⟩) (by simp only []; omega) (.slice A7 (l.length + 2) c7); have e0 := B5z.c0; have e1 := B1z.frozen; have e2 := B1z.c0; have e3 := B5b.frozen; have e4 := B5b.c0; have e5 := (B1z.set_ 0 (.slice A7 (l.length + 2) c7)).c0; have own8 := own7.farNe (p := ⟨g5, 0, none⟩) (own7.neBlk B5b (by decide)) (.slice A7 (l.length + 2) c7); have own9 := own8.far (p := ⟨w.heap.size, 0, none⟩) (by simp only []; omega) (.slice A7 (l.length + 2) c7); have hS9 := Stp.set (p := ⟨w.heap.size, 0, none⟩) (.slice A7 (l.length + 2) c7) (Nat.le_refl _) (by simp only []; omega) (Stp.set (p := ⟨g5, 0, none⟩) (.slice A7 (l.length + 2) c7) (by simp only []; omega) (by simp only []; omega) hS7))
          all_goals exact bodyPost_ret (v := .agg #[SV.v ⟨A7, _, c7, l ++ [(-1 : Int), -1]⟩]) (by simp [results, Try.results53, go_sem, SV.v, e5]) rfl ⟨⟨A7, _, c7, l ++ [(-1 : Int), -1]⟩, rfl, own9.low (by omega), (by simp only [List.length_append, List.length_cons, List.length_nil]; omega), hS9.le (by omega)⟩
        · obtain ⟨gl, cl, hv7, hgl0, hgl1, hlc, hcm⟩ := own1.form (by omega)
          cases hv7
          have hc := l.length
          obtain ⟨x0, lt, rfl⟩ : ∃ x0 lt, l = x0 :: lt := by cases l with | nil => simp at hln | cons a t => exact ⟨a, t, rfl⟩
          obtain ⟨nl, hnl⟩ : ∃ nl, lt.length = nl := ⟨_, rfl⟩
          simp only [List.length_cons, hnl] at own1 hlc hln
          have B5 : Blk w6 g5 40 #[.slice (some ⟨gl, 0, none⟩) (nl + 1) c5] := by have := B5; simp only [List.length_cons, hnl] at this; exact this
          have hl1 := Lib.hid hcm
          have hg5ne : g5 ≠ r := by omega
          go_wp2_with fail
          refine region_prefix (by kernel_rfl) (fun i v w => (tyCL12 r g5 gl nl c5 i).holds r 3 v w) r 96 7 _ _ _ _ (by kernel_rfl) (by kernel_rfl) (fun i v w w' => Ty.stable _ v w w') (Stp.refl hS.rd) ?_ ?_
          · intro i o him ho a wa b' hb' hS1 hfr hdep
            have hs1 := Stp.refl hS1.rd
            have hbb : b' ≤ 1000000000 := by omega
            have hrl := hS1.rd.lt
            replace B5 := Blk.stp hS1 B5 (by assumption)
            clear hS1 hS
            match i, ho, him with
            | 0, ho, _ =>
              injection ho with ho
              subst ho
              have h5 := hfr.2.2 5 (drawFr_spec (by kernel_rfl))
              clear hdep hfr hb'
              simp only [Array.getD_eq_getD_getElem?] at h5
              unfold Oper.wp
              go_simp
              exact Leaves.val rfl (hs1.le (by omega))
            | 1, ho, _ =>
              injection ho with ho
              subst ho
              have h40 := hdep ⟨0, .data⟩ (by simp) (by kernel_rfl) _ 40 rfl rfl
              clear hdep hfr hb'
              replace h40 : a.tmps.getD 40 undef = .pointer (some ⟨g5, 0, none⟩) := h40
              simp only [Array.getD_eq_getD_getElem?] at h40
              have cL0 := B5.c0
              unfold Oper.wp
              go_simp
              exact Leaves.val rfl (hs1.le (by omega))
            | 2, ho, _ =>
              injection ho with ho
              subst ho
              clear hdep hfr hb'
              unfold Oper.wp
              go_simp
              refine Leaves.val ⟨wa.heap.size, _, rfl, hrl, heap_alloc_new wa _, rfl, ?_⟩ ((hs1.alloc _).le (by omega))
              simp only [List.forall_mem_cons]
              exact ⟨⟨_, rfl, by omega, by omega⟩, ⟨_, rfl, by omega, by omega⟩, by simp⟩
            | 3, ho, _ =>
              injection ho with ho
              subst ho
              have h0 := hfr.2.2 0 (drawFr_spec (by kernel_rfl))
              clear hdep hfr hb'
              simp only [Array.getD_eq_getD_getElem?] at h0
              unfold Oper.wp
              go_simp
              exact Leaves.val rfl (hs1.le (by omega))
            | 4, ho, _ =>
              injection ho with ho
              subst ho
              have h43 := hdep ⟨3, .data⟩ (by simp) (by kernel_rfl) _ 43 rfl rfl
              clear hdep hfr hb'
              replace h43 : a.tmps.getD 43 undef = .pointer (some ⟨r, 0, none⟩) := h43
              simp only [Array.getD_eq_getD_getElem?] at h43
              unfold Oper.wp
              go_simp
              refine (pick_any r (2) _ wa hs1.rd (by omega) (by omega)).mono ?_
              rintro e wb ⟨v, rfl, hv0, hv1, hs⟩
              exact Leaves.val ⟨v, rfl, by omega, by omega⟩ hs
            | 5, ho, _ =>
              injection ho with ho
              subst ho
              have h42 := hdep ⟨2, .data⟩ (by simp) (by kernel_rfl) _ 42 rfl rfl
              have h44 := hdep ⟨4, .data⟩ (by simp) (by kernel_rfl) _ 44 rfl rfl
              clear hdep hfr hb'
              obtain ⟨g, cs, h42, hg, hh, hcs, hc⟩ := h42
              simp only [Array.getD_eq_getD_getElem?] at h42
              obtain ⟨x44, h44, hx440, hx441⟩ := h44
              simp only [Array.getD_eq_getD_getElem?] at h44
              have HE := Lib.hid (Ty.at_ hg hh hcs hc (x := x44) (by omega) (by omega))
              clear hh hcs hc
              unfold Oper.wp
              go_simp
              exact Leaves.val HE.out (hs1.le (by omega))
            | 6, ho, _ =>
              injection ho with ho
              subst ho
              have h45 := hdep ⟨5, .data⟩ (by simp) (by kernel_rfl) _ 45 rfl rfl
              clear hdep hfr hb'
              obtain ⟨g, i, u, h45, hg, hc, x, rfl, hx0, hx1⟩ := h45
              simp only [Array.getD_eq_getD_getElem?] at h45
              unfold Oper.wp
              go_simp
              exact Leaves.val ⟨x, rfl, hx0, hx1⟩ (hs1.le (by omega))
            | n + 7, _, him => exact absurd him (by omega)
          · intro V w7 hV hs
            have hV0 := hV 0 _ 40 (by decide) rfl rfl
            replace hV0 : V 0 = .pointer (some ⟨g5, 0, none⟩) := hV0
            have hV1 := hV 1 _ 41 (by decide) rfl rfl
            replace hV1 : V 1 = .slice (some ⟨gl, 0, none⟩) (nl + 1) c5 := hV1
            obtain ⟨_, _, hV2, _⟩ := hV 2 _ 42 (by decide) rfl rfl
            have hV3 := hV 3 _ 43 (by decide) rfl rfl
            replace hV3 : V 3 = .pointer (some ⟨r, 0, none⟩) := hV3
            obtain ⟨x44, hV4, hx440, hx441⟩ := hV 4 _ 44 (by decide) rfl rfl
            obtain ⟨_, _, _, hV5, _⟩ := hV 5 _ 45 (by decide) rfl rfl
            obtain ⟨x46, hV6, hx460, hx461⟩ := hV 6 _ 46 (by decide) rfl rfl
            clear hV
            simp only [puts, List.drop, Act.put, List.getElem?_toArray, List.getElem?_cons_succ, List.getElem?_cons_zero, List.setIfInBounds_toArray, List.set_cons_succ, List.set_cons_zero, hV0, hV1, hV2, hV3, hV4, hV5, hV6]
            clear hV0 hV1 hV2 hV3 hV4 hV5 hV6
            have B1x := Blk.stp hs B1 (by omega)
            have B5x := Blk.stp hs B5 hg5ne
            have own7 := own1.stp hs (by omega)
            have hS7 := hS.trans hs
            clear B1 B5 own1 hS hs
            have sl7 : Sl w7 1 eI (some ⟨gl, 0, none⟩) (nl + 1) c5 (x0 :: lt) := (own7.okv encI).sl
            obtain ⟨gx, ox, ex, z, hz, hcz⟩ := sl7.nth (by omega : 0 < nl + 1) (Below.refl _ _)
            injection ex with ex
            injection ex with ex1 ex2
            subst ex1 ex2
            have z0 := hcz 0 _ rfl
            simp only [Nat.mul_one, Nat.add_zero, Nat.zero_add] at z0
            have zf : w7.frozen? ⟨gl, 0, none⟩ = false := by
              rcases own7.2 with ⟨h1, _⟩ | ⟨g', cap, cur, h1, hb, hgg, _⟩
              · cases h1
              · injection h1 with h2
                injection h2 with h2
                injection h2 with h2 _
                subst h2
                exact Blk.frozen (t := 3) (cs := cur) hgg 0
            have hgg : g5 ≠ gl := by
              have h1 := own7.neBlk B5x (by decide)
              intro e
              exact h1 (by rw [e]; rfl)
            have own8 := own7.setI 0 x46
            have B1y := B1x.far (p := ⟨gl, 0, none⟩) (by simp only []; omega) (.int .i64 x46)
            have B5y := B5x.far (p := ⟨gl, 0, none⟩) hgg (.int .i64 x46)
            have hS8 := Stp.set (p := ⟨gl, 0, none⟩) (.int .i64 x46) (by simp only []; omega) (by simp only []; omega) hS7
            clear hcz hz sl7
            have e0 := B5y.c0
            have e1 := B1y.frozen
            have e2 := B1y.c0
            have e5 := (B1y.set_ 0 (.slice (some ⟨gl, 0, none⟩) (nl + 1) c5)).c0
            have own9 := own8.far (p := ⟨w.heap.size, 0, none⟩) (by simp only []; omega) (.slice (some ⟨gl, 0, none⟩) (nl + 1) c5)
            have hS9 := Stp.set (p := ⟨w.heap.size, 0, none⟩) (.slice (some ⟨gl, 0, none⟩) (nl + 1) c5) (Nat.le_refl _) (by simp only []; omega) hS8
            clear own7 own8 B1x hS7 hS8
            have hle : 0 < nl + 1 := by omega
            have hle2 : (0 : Int) < (nl : Int) + 1 := by omega
            go_wp2
            exact bodyPost_ret (v := .agg #[SV.v ⟨some ⟨gl, 0, none⟩, nl + 1, c5, (x0 :: lt).set 0 x46⟩]) (by simp [results, Try.results53, go_sem, SV.v, e5]) rfl ⟨⟨some ⟨gl, 0, none⟩, nl + 1, c5, (x0 :: lt).set 0 x46⟩, rfl, own9.low (by omega), (by simp only []; omega), hS9.le (by omega)⟩
        · have B5z := B5.set_ 0 (.slice none 0 0)
          have B1z := B1.far (p := ⟨g5, 0, none⟩) (by simp only []; omega) (.slice none 0 0)
          have e0 := B5z.c0
          have e1 := B1z.frozen
          have e2 := B1z.c0
          have e3 := B5.frozen
          have e4 := B5.c0
          have e5 := (B1z.set_ 0 (.slice none 0 0)).c0
          go_wp2
          exact bodyPost_ret (v := .agg #[SV.v (⟨none, 0, 0, []⟩ : SV Int)]) (by simp [results, Try.results53, go_sem, SV.v, e5]) rfl ⟨⟨none, 0, 0, []⟩, rfl, Own.nil, (by simp), (Stp.set (p := ⟨w.heap.size, 0, none⟩) _ (Nat.le_refl _) (by simp only []; omega) (Stp.set (p := ⟨g5, 0, none⟩) _ (by simp only []; omega) (by simp only []; omega) hS)).le (by omega)⟩
end Go.Proofs.Ytffhcifeccdfjaa
