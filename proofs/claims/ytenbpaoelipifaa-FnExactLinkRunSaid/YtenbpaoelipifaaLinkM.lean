/- send and LinkSend of impl. -/
import Derived.Test.YtenbpaoelipifaaCloneP
import Derived.Test.YtenbpaoelipifaaLinkS
import Derived.Test.YtenbpaoelipifaaLinkT
namespace Go.Proofs.Ytenbpaoelipifaa
set_option linter.unusedVariables false
set_option linter.unusedSimpArgs false
open Go.RowKit

theorem WS.setBlk {α : Type} {w : World} {base E k g t i : Nat} {cs : Array Value} {enc : α → List Value} {s : SV α} (h : WS w base E k enc s) (hB : Blk w g t cs) (ht : t ≠ E) (u : Value) : WS (w.setCell ⟨g, i, none⟩ u) base E k enc s := by
  by_cases hn : 0 < s.n
  · obtain ⟨b, o, cur, e, B, hc⟩ := h.wr hn
    have hne : b ≠ g := by
      rintro rfl
      unfold Blk at B hB
      rw [B] at hB
      injection hB with hB
      injection hB with _ h3 _
      exact ht h3.symm
    have hk : ∀ b' o', s.A = some ⟨b', o', none⟩ → (w.setCell ⟨g, i, none⟩ u).heap[b']? = w.heap[b']? := fun b' o' e' => by
      rw [e] at e'
      injection e' with e'
      injection e' with e1 _
      subst e1
      exact Below.heap_setCell _ _ _ _ hne
    exact ⟨⟨h.ok.sl.keep (by simp [World.setCell]) hk, h.ok.fresh, h.ok.nil, h.ok.spot⟩, fun _ => ⟨b, o, cur, e, B.far hne _, hc⟩⟩
  · exact ⟨⟨⟨h.ok.sl.len, h.ok.sl.le, h.ok.sl.max, fun h1 => absurd h1 hn⟩, h.ok.fresh, h.ok.nil, h.ok.spot⟩, fun h1 => absurd h1 hn⟩
def lmV (x : Int × SV (Int × Int) × Bool) : Value := .tuple #[.agg #[.int .i64 x.1, x.2.1.v], .bool x.2.2]
def sentL (d : Int) (xs : List (Int × Int)) (t v : Int) : (Int × List (Int × Int)) × Bool := if fullL xs (t + d) then ((d, xs), false) else ((d, xs ++ [(t + d, v)]), true)
def relSend (q q2 n1 c1 : Nat) (d : Int) (A1 : Option Addr) (xs : List (Int × Int)) : Nat → Value → World → Prop
  | 0, v, _ => v = .pointer (some ⟨q, 0, none⟩)
  | 1, v, _ => v = .int .i64 d
  | 2, v, _ => v = .pointer (some ⟨q, 1, none⟩)
  | 3, v, _ => v = .slice A1 n1 c1
  | 4, v, W => ∃ s, v = s.v ∧ WS W (q2) 75 2 eS s ∧ s.xs = xs ∧ s.c = s.n
  | 5, v, W => ∃ s, v = .agg #[.int .i64 d, s.v] ∧ WS W (q2) 75 2 eS s ∧ s.xs = xs ∧ s.c = s.n
  | 6, v, W => ∃ g, v = .pointer (some ⟨g, 0, none⟩) ∧ q2 ≤ g ∧ Blk W g 29 #[.int .i64 0, .slice none 0 0]
  | _, _, _ => True
theorem relSend_below (q q2 n1 c1 : Nat) (d : Int) (A1 : Option Addr) (xs : List (Int × Int)) {i : Nat} {v : Value} {w w' : World} (h : relSend q q2 n1 c1 d A1 xs i v w) (hb : Below w.heap.size w w') : relSend q q2 n1 c1 d A1 xs i v w' := by
  match i, h with
  | 0, h => exact h
  | 1, h => exact h
  | 2, h => exact h
  | 3, h => exact h
  | 4, ⟨s, e, h, l⟩ => exact ⟨s, e, h.below hb, l⟩
  | 5, ⟨s, e, h, l⟩ => exact ⟨s, e, h.below hb, l⟩
  | 6, ⟨g, e, hg, B⟩ => exact ⟨g, e, hg, B.below hb⟩
  | n + 7, _ => trivial

set_option maxRecDepth 100000 in
set_option maxHeartbeats 4000000 in
theorem send_any (d : Int) (A : Option Addr) (n c : Nat) (xs : List (Int × Int)) (t v : Int) (hn : n ≤ 900) (hA : Plain A c) (hd : 0 ≤ d ∧ d ≤ 50) (ht : 0 ≤ t ∧ t ≤ 100000) (w : World) (hs : Sl w 2 eS A n c xs) :
    Calls Try.prog 74 #[linkV d A n c, .int .i64 t, .int .i64 v] w (Post lmV fun x w' => WS w' w.heap.size 75 2 eS x.2.1 ∧ ((x.1, x.2.1.xs), x.2.2) = sentL d xs t v ∧ Below w.heap.size w w') := by
  have hle := hs.le
  have hmax := hs.max
  have hb0 := alo (alo (Below.refl w.heap.size w) (.cells #[.int .i64 d, .slice A n c] 29)) (.cells #[.int .i64 0, .slice none 0 0] 29)
  have B3 := (Blk.new w 29 #[.int .i64 d, .slice A n c]).alloc (.cells #[.int .i64 0, .slice none 0 0] 29)
  have B6 := Blk.new2 w (.cells #[.int .i64 d, .slice A n c] 29) 29 #[.int .i64 0, .slice none 0 0]
  have hsW := hs.below hb0
  have hlen := hs.len
  skip
  simp only [linkV]
  have HL := Lib.hid hlen
  by_cases hn20 : n = 20
  · have hfull : fullL xs (t + d) = true := by simp [fullL, hlen, hn20]
    have hn20' : ((n : Int) == 20) = true := by rw [beq_iff_eq]; omega
    clear hs hlen hn20
    have hz : sentL d xs t v = ((d, xs), false) := by unfold sentL; rw [hfull]; rfl
    rw [hz]
    clear hz hfull
    skip
    have cB3_0 := B3.c0; have cB3_1 := B3.c1; have fB3 := B3.frozen; have cB6_0 := B6.c0; have cB6_1 := B6.c1; have fB6 := B6.frozen
    go_enter Try.func74, Try.ntmps74
    go_wp2
    have hcl := fun W hW => cloneP_any (A) (n) c xs (by omega) hA W (hsW.below hW)
    have hsz0 : w.heap.size + 2 ≤ ((w.alloc (.cells #[.int .i64 d, .slice (A) (n) c] 29)).alloc (.cells #[.int .i64 0, .slice none 0 0] 29)).heap.size := by simp
    go_wp2_with fail
    generalize (w.alloc (.cells #[.int .i64 d, .slice (A) (n) c] 29)).alloc (.cells #[.int .i64 0, .slice none 0 0] 29) = W0 at *
    clear cB3_0 cB3_1 fB3 cB6_0 cB6_1 fB6
    refine region_rel (by kernel_rfl) (fun iz vz wz => relSend w.heap.size (w.heap.size+2) n c d A xs iz vz wz) (fun wz wz' => Below wz.heap.size wz wz') (fun _ wz' => Below W0.heap.size W0 wz') 7 _ W0 (by kernel_rfl) (by kernel_rfl) (fun iz vz wz wz' h hb => relSend_below w.heap.size (w.heap.size+2) n c d A xs h hb) (fun wz => Below.refl _ _) (fun _ _ _ _ h => h) (show Below W0.heap.size W0 W0.drew from (Below.refl _ _).drew) ?_ ?_
    · intro i o him ho a wa cc hcc hJ hfr hdep
      have B3 := B3.below hJ
      have B6 := B6.below hJ
      have cB3_0 := B3.c0; have cB3_1 := B3.c1; have fB3 := B3.frozen; have cB6_0 := B6.c0; have cB6_1 := B6.c1; have fB6 := B6.frozen
      match i, ho, him with
      | 0, ho, _ =>
        injection ho with ho
        subst ho
        have h3 := hfr.2.2 3 (drawFrM_spec (by kernel_rfl))
        clear hdep hfr
        simp only [Array.getD_eq_getD_getElem?] at h3
        refine .inl ⟨rfl, ?_⟩
        unfold Oper.wp
        go_simp
        exact LeavesR.val rfl (Below.refl _ _) hJ
      | 1, ho, _ =>
        injection ho with ho
        subst ho
        have h13 := hdep ⟨0, .data⟩ (by simp) (by kernel_rfl) _ 13 rfl rfl
        clear hdep hfr
        replace h13 : a.tmps.getD 13 undef = .pointer (some ⟨w.heap.size, 0, none⟩) := h13
        simp only [Array.getD_eq_getD_getElem?] at h13
        refine .inl ⟨rfl, ?_⟩
        unfold Oper.wp
        go_simp
        exact LeavesR.val rfl (Below.refl _ _) hJ
      | 2, ho, _ =>
        injection ho with ho
        subst ho
        have h3 := hfr.2.2 3 (drawFrM_spec (by kernel_rfl))
        clear hdep hfr
        simp only [Array.getD_eq_getD_getElem?] at h3
        refine .inl ⟨rfl, ?_⟩
        unfold Oper.wp
        go_simp
        exact LeavesR.val rfl (Below.refl _ _) hJ
      | 3, ho, _ =>
        injection ho with ho
        subst ho
        have h15 := hdep ⟨2, .data⟩ (by simp) (by kernel_rfl) _ 15 rfl rfl
        clear hdep hfr
        replace h15 : a.tmps.getD 15 undef = .pointer (some ⟨w.heap.size, 1, none⟩) := h15
        simp only [Array.getD_eq_getD_getElem?] at h15
        refine .inl ⟨rfl, ?_⟩
        unfold Oper.wp
        go_simp
        exact LeavesR.val rfl (Below.refl _ _) hJ
      | 4, ho, _ =>
        injection ho with ho
        subst ho
        have h16 := hdep ⟨3, .data⟩ (by simp) (by kernel_rfl) _ 16 rfl rfl
        clear hdep hfr
        replace h16 : a.tmps.getD 16 undef = .slice A n c := h16
        simp only [Array.getD_eq_getD_getElem?] at h16
        refine .inl ⟨rfl, ?_⟩
        unfold Oper.wp
        go_simp
        refine (hcl _ hJ).mono ?_
        rintro e wb ⟨s9, rfl, hok9, hl9, hb'⟩
        exact LeavesR.val ⟨s9, rfl, hok9.mono (by have := hJ.size; omega), hl9⟩ hb' (thn hJ hb')
      | 5, ho, _ =>
        injection ho with ho
        subst ho
        have h14 := hdep ⟨1, .data⟩ (by simp) (by kernel_rfl) _ 14 rfl rfl
        have h17 := hdep ⟨4, .data⟩ (by simp) (by kernel_rfl) _ 17 rfl rfl
        clear hdep hfr
        replace h14 : a.tmps.getD 14 undef = .int .i64 d := h14
        simp only [Array.getD_eq_getD_getElem?] at h14
        obtain ⟨⟨A17, n17, c17, l17⟩, h17, S17, L17⟩ := h17
        simp only [SV.v] at h17 S17 L17
        replace L17 := Lib.hid L17
        simp only [Array.getD_eq_getD_getElem?] at h17
        refine .inl ⟨rfl, ?_⟩
        unfold Oper.wp
        go_simp
        exact LeavesR.val ⟨⟨A17, n17, c17, l17⟩, rfl, S17, L17.out⟩ (Below.refl _ _) hJ
      | 6, ho, _ =>
        injection ho with ho
        subst ho
        clear hdep hfr
        refine .inl ⟨rfl, ?_⟩
        unfold Oper.wp
        go_simp
        exact LeavesR.val ⟨_, rfl, (by have := hJ.size; omega), Blk.new wa _ _⟩ (alo (Below.refl _ _) _) (alo hJ _)
      | n + 7, _, him => exact absurd him (by omega)
    · intro V w9 hV hJ
      have hV0 := hV 0 _ 13 (by decide) rfl rfl
      replace hV0 : V 0 = .pointer (some ⟨w.heap.size, 0, none⟩) := hV0
      have hV1 := hV 1 _ 14 (by decide) rfl rfl
      replace hV1 : V 1 = .int .i64 d := hV1
      have hV2 := hV 2 _ 15 (by decide) rfl rfl
      replace hV2 : V 2 = .pointer (some ⟨w.heap.size, 1, none⟩) := hV2
      have hV3 := hV 3 _ 16 (by decide) rfl rfl
      replace hV3 : V 3 = .slice A n c := hV3
      obtain ⟨⟨AE17, nE17, cE17, lE17⟩, hV4, SE17, LE17⟩ := hV 4 _ 17 (by decide) rfl rfl
      simp only [SV.v] at hV4 SE17 LE17
      obtain ⟨⟨AE18, nE18, cE18, lE18⟩, hV5, SE18, LE18⟩ := hV 5 _ 18 (by decide) rfl rfl
      simp only [SV.v] at hV5 SE18 LE18
      obtain ⟨gE9, hV6, bE9, NE9⟩ := hV 6 _ 9 (by decide) rfl rfl
      clear hV
      simp only [puts, List.drop, Act.put, List.getElem?_toArray, List.getElem?_cons_succ, List.getElem?_cons_zero, List.setIfInBounds_toArray, List.set_cons_succ, List.set_cons_zero, hV0, hV1, hV2, hV3, hV4, hV5, hV6]
      clear hV0 hV1 hV2 hV3 hV4 hV5 hV6
      replace B3 := B3.below hJ
      replace B6 := B6.below hJ
      obtain ⟨hlx, hcn⟩ := LE18
      replace hcn := Lib.hid hcn
      subst hlx
      clear LE17
      have hB2 := thn hb0 hJ
      have hlen18 := SE18.ok.sl.len
      have hne3 : w.heap.size ≠ gE9 := by omega
      have hne6 : w.heap.size + 1 ≠ gE9 := by omega
      have B3s := (B3.far (p := ⟨gE9, 0, none⟩) hne3 (.int .i64 d)).far (p := ⟨gE9, 1, none⟩) hne3 (.slice AE18 nE18 cE18)
      have B6s := (B6.far (p := ⟨gE9, 0, none⟩) hne6 (.int .i64 d)).far (p := ⟨gE9, 1, none⟩) hne6 (.slice AE18 nE18 cE18)
      have B9s : Blk ((w9.setCell ⟨gE9, 0, none⟩ (.int .i64 d)).setCell ⟨gE9, 1, none⟩ (.slice AE18 nE18 cE18)) gE9 29 #[.int .i64 d, .slice AE18 nE18 cE18] := (NE9.set_ 0 _).set_ 1 _
      have W18 := (SE18.setBlk NE9 (i := 0) (by decide) (.int .i64 d)).setBlk (NE9.set_ 0 (.int .i64 d)) (i := 1) (by decide) (.slice AE18 nE18 cE18)
      have hB3 := (hB2.setCell (p := ⟨gE9, 0, none⟩) (by simp only []; omega) (.int .i64 d)).setCell (p := ⟨gE9, 1, none⟩) (by simp only []; omega) (.slice AE18 nE18 cE18)
      skip
      have cB3_0 := B3.c0; have cB3_1 := B3.c1; have fB3 := B3.frozen; have cB6_0 := B6.c0; have cB6_1 := B6.c1; have fB6 := B6.frozen
      have c9_0 := NE9.c0
      have c9_1 := NE9.c1
      have f9 := NE9.frozen
      go_wp2_with fail
      clear B3 B6 cB3_0 cB3_1 fB3 cB6_0 cB6_1 fB6 c9_0 c9_1 f9 NE9 SE18 hB2 SE17
      generalize (w9.setCell ⟨gE9, 0, none⟩ (.int .i64 d)).setCell ⟨gE9, 1, none⟩ (.slice AE18 nE18 cE18) = w8 at *
      have B3 := B3s
      have B6 := B6s
      have B9 := B9s
      clear B3s B6s B9s
      skip
      skip
      have cB3_0 := B3.c0; have cB3_1 := B3.c1; have fB3 := B3.frozen; have cB6_0 := B6.c0; have cB6_1 := B6.c1; have fB6 := B6.frozen; have cB9_0 := B9.c0; have cB9_1 := B9.c1; have fB9 := B9.frozen
      go_quiet (fail)
      replace B3 := B3.drewN nq
      replace B6 := B6.drewN nq
      replace B9 := B9.drewN nq
      replace W18 : WS (w8.drewN nq) _ _ _ _ _ := ⟨⟨W18.ok.sl.drewN nq, W18.ok.fresh, W18.ok.nil, W18.ok.spot⟩, W18.wr⟩
      replace hB3 := belowDrewN hB3 nq
      clear cB3_0 cB3_1 fB3 cB6_0 cB6_1 fB6 cB9_0 cB9_1 fB9
      generalize w8.drewN nq = w4 at *
      have hz4 := B9.lt
      have hz6 := B6.lt
      have cB3_0 := B3.c0; have cB3_1 := B3.c1; have fB3 := B3.frozen; have cB6_0 := B6.c0; have cB6_1 := B6.c1; have fB6 := B6.frozen; have cB9_0 := B9.c0; have cB9_1 := B9.c1; have fB9 := B9.frozen
      have W19 := (W18.set (g := w.heap.size + 1) (i := 0) (by omega) (.int .i64 d)).set (g := w.heap.size + 1) (i := 1) (by omega) (.slice AE18 nE18 cE18)
      go_wp2
      exact bodyPost_ret (v := lmV (d, ⟨AE18, nE18, cE18, lE18⟩, false)) (by simp [results, Try.results74, go_sem, lmV, SV.v, cB6_0, cB6_1]) rfl ⟨(d, ⟨AE18, nE18, cE18, lE18⟩, false), rfl, W19.mono (by omega), rfl, (hB3.setCell (p := ⟨w.heap.size + 1, 0, none⟩) (by simp only []; omega) _).setCell (p := ⟨w.heap.size + 1, 1, none⟩) (by simp only []; omega) _⟩
  · have hn20' : ((n : Int) == 20) = false := by rw [beq_eq_false_iff_ne]; omega
    cases hl : xs.getLast? with
    | none =>
      have hxs : xs = [] := List.getLast?_eq_none_iff.1 hl
      have hfull : fullL xs (t + d) = false := by simp [fullL, hlen, hn20, hl]
      have hn0 : n = 0 := by rw [hxs] at hlen; exact hlen.symm
      have hg1 : decide ((0 : Int) < (n : Int)) = false := decide_eq_false (by omega)
      have hg2 : decide (0 < n) = false := decide_eq_false (by omega)
      clear hlen hn20 hs hl hxs hn0
      have hz : sentL d xs t v = ((d, xs ++ [(t + d, v)]), true) := by unfold sentL; rw [hfull]; rfl
      rw [hz]
      clear hz hfull
      skip
      have cB3_0 := B3.c0; have cB3_1 := B3.c1; have fB3 := B3.frozen; have cB6_0 := B6.c0; have cB6_1 := B6.c1; have fB6 := B6.frozen
      go_enter Try.func74, Try.ntmps74
      go_wp2
      have hcl := fun W hW => cloneP_any (A) (n) c xs (by omega) hA W (hsW.below hW)
      have hsz0 : w.heap.size + 2 ≤ ((w.alloc (.cells #[.int .i64 d, .slice (A) (n) c] 29)).alloc (.cells #[.int .i64 0, .slice none 0 0] 29)).heap.size := by simp
      go_wp2_with fail
      generalize (w.alloc (.cells #[.int .i64 d, .slice (A) (n) c] 29)).alloc (.cells #[.int .i64 0, .slice none 0 0] 29) = W0 at *
      clear cB3_0 cB3_1 fB3 cB6_0 cB6_1 fB6
      refine region_rel (by kernel_rfl) (fun iz vz wz => relSend w.heap.size (w.heap.size+2) n c d A xs iz vz wz) (fun wz wz' => Below wz.heap.size wz wz') (fun _ wz' => Below W0.heap.size W0 wz') 7 _ W0 (by kernel_rfl) (by kernel_rfl) (fun iz vz wz wz' h hb => relSend_below w.heap.size (w.heap.size+2) n c d A xs h hb) (fun wz => Below.refl _ _) (fun _ _ _ _ h => h) (show Below W0.heap.size W0 W0.drew from (Below.refl _ _).drew) ?_ ?_
      · intro i o him ho a wa cc hcc hJ hfr hdep
        have B3 := B3.below hJ
        have B6 := B6.below hJ
        have cB3_0 := B3.c0; have cB3_1 := B3.c1; have fB3 := B3.frozen; have cB6_0 := B6.c0; have cB6_1 := B6.c1; have fB6 := B6.frozen
        match i, ho, him with
        | 0, ho, _ =>
          injection ho with ho
          subst ho
          have h3 := hfr.2.2 3 (drawFrM_spec (by kernel_rfl))
          clear hdep hfr
          simp only [Array.getD_eq_getD_getElem?] at h3
          refine .inl ⟨rfl, ?_⟩
          unfold Oper.wp
          go_simp
          exact LeavesR.val rfl (Below.refl _ _) hJ
        | 1, ho, _ =>
          injection ho with ho
          subst ho
          have h13 := hdep ⟨0, .data⟩ (by simp) (by kernel_rfl) _ 13 rfl rfl
          clear hdep hfr
          replace h13 : a.tmps.getD 13 undef = .pointer (some ⟨w.heap.size, 0, none⟩) := h13
          simp only [Array.getD_eq_getD_getElem?] at h13
          refine .inl ⟨rfl, ?_⟩
          unfold Oper.wp
          go_simp
          exact LeavesR.val rfl (Below.refl _ _) hJ
        | 2, ho, _ =>
          injection ho with ho
          subst ho
          have h3 := hfr.2.2 3 (drawFrM_spec (by kernel_rfl))
          clear hdep hfr
          simp only [Array.getD_eq_getD_getElem?] at h3
          refine .inl ⟨rfl, ?_⟩
          unfold Oper.wp
          go_simp
          exact LeavesR.val rfl (Below.refl _ _) hJ
        | 3, ho, _ =>
          injection ho with ho
          subst ho
          have h15 := hdep ⟨2, .data⟩ (by simp) (by kernel_rfl) _ 15 rfl rfl
          clear hdep hfr
          replace h15 : a.tmps.getD 15 undef = .pointer (some ⟨w.heap.size, 1, none⟩) := h15
          simp only [Array.getD_eq_getD_getElem?] at h15
          refine .inl ⟨rfl, ?_⟩
          unfold Oper.wp
          go_simp
          exact LeavesR.val rfl (Below.refl _ _) hJ
        | 4, ho, _ =>
          injection ho with ho
          subst ho
          have h16 := hdep ⟨3, .data⟩ (by simp) (by kernel_rfl) _ 16 rfl rfl
          clear hdep hfr
          replace h16 : a.tmps.getD 16 undef = .slice A n c := h16
          simp only [Array.getD_eq_getD_getElem?] at h16
          refine .inl ⟨rfl, ?_⟩
          unfold Oper.wp
          go_simp
          refine (hcl _ hJ).mono ?_
          rintro e wb ⟨s9, rfl, hok9, hl9, hb'⟩
          exact LeavesR.val ⟨s9, rfl, hok9.mono (by have := hJ.size; omega), hl9⟩ hb' (thn hJ hb')
        | 5, ho, _ =>
          injection ho with ho
          subst ho
          have h14 := hdep ⟨1, .data⟩ (by simp) (by kernel_rfl) _ 14 rfl rfl
          have h17 := hdep ⟨4, .data⟩ (by simp) (by kernel_rfl) _ 17 rfl rfl
          clear hdep hfr
          replace h14 : a.tmps.getD 14 undef = .int .i64 d := h14
          simp only [Array.getD_eq_getD_getElem?] at h14
          obtain ⟨⟨A17, n17, c17, l17⟩, h17, S17, L17⟩ := h17
          simp only [SV.v] at h17 S17 L17
          replace L17 := Lib.hid L17
          simp only [Array.getD_eq_getD_getElem?] at h17
          refine .inl ⟨rfl, ?_⟩
          unfold Oper.wp
          go_simp
          exact LeavesR.val ⟨⟨A17, n17, c17, l17⟩, rfl, S17, L17.out⟩ (Below.refl _ _) hJ
        | 6, ho, _ =>
          injection ho with ho
          subst ho
          clear hdep hfr
          refine .inl ⟨rfl, ?_⟩
          unfold Oper.wp
          go_simp
          exact LeavesR.val ⟨_, rfl, (by have := hJ.size; omega), Blk.new wa _ _⟩ (alo (Below.refl _ _) _) (alo hJ _)
        | n + 7, _, him => exact absurd him (by omega)
      · intro V w9 hV hJ
        have hV0 := hV 0 _ 13 (by decide) rfl rfl
        replace hV0 : V 0 = .pointer (some ⟨w.heap.size, 0, none⟩) := hV0
        have hV1 := hV 1 _ 14 (by decide) rfl rfl
        replace hV1 : V 1 = .int .i64 d := hV1
        have hV2 := hV 2 _ 15 (by decide) rfl rfl
        replace hV2 : V 2 = .pointer (some ⟨w.heap.size, 1, none⟩) := hV2
        have hV3 := hV 3 _ 16 (by decide) rfl rfl
        replace hV3 : V 3 = .slice A n c := hV3
        obtain ⟨⟨AE17, nE17, cE17, lE17⟩, hV4, SE17, LE17⟩ := hV 4 _ 17 (by decide) rfl rfl
        simp only [SV.v] at hV4 SE17 LE17
        obtain ⟨⟨AE18, nE18, cE18, lE18⟩, hV5, SE18, LE18⟩ := hV 5 _ 18 (by decide) rfl rfl
        simp only [SV.v] at hV5 SE18 LE18
        obtain ⟨gE9, hV6, bE9, NE9⟩ := hV 6 _ 9 (by decide) rfl rfl
        clear hV
        simp only [puts, List.drop, Act.put, List.getElem?_toArray, List.getElem?_cons_succ, List.getElem?_cons_zero, List.setIfInBounds_toArray, List.set_cons_succ, List.set_cons_zero, hV0, hV1, hV2, hV3, hV4, hV5, hV6]
        clear hV0 hV1 hV2 hV3 hV4 hV5 hV6
        replace B3 := B3.below hJ
        replace B6 := B6.below hJ
        obtain ⟨hlx, hcn⟩ := LE18
        replace hcn := Lib.hid hcn
        subst hlx
        clear LE17
        have hB2 := thn hb0 hJ
        have hlen18 := SE18.ok.sl.len
        have hne3 : w.heap.size ≠ gE9 := by omega
        have hne6 : w.heap.size + 1 ≠ gE9 := by omega
        have B3s := (B3.far (p := ⟨gE9, 0, none⟩) hne3 (.int .i64 d)).far (p := ⟨gE9, 1, none⟩) hne3 (.slice AE18 nE18 cE18)
        have B6s := (B6.far (p := ⟨gE9, 0, none⟩) hne6 (.int .i64 d)).far (p := ⟨gE9, 1, none⟩) hne6 (.slice AE18 nE18 cE18)
        have B9s : Blk ((w9.setCell ⟨gE9, 0, none⟩ (.int .i64 d)).setCell ⟨gE9, 1, none⟩ (.slice AE18 nE18 cE18)) gE9 29 #[.int .i64 d, .slice AE18 nE18 cE18] := (NE9.set_ 0 _).set_ 1 _
        have W18 := (SE18.setBlk NE9 (i := 0) (by decide) (.int .i64 d)).setBlk (NE9.set_ 0 (.int .i64 d)) (i := 1) (by decide) (.slice AE18 nE18 cE18)
        have hB3 := (hB2.setCell (p := ⟨gE9, 0, none⟩) (by simp only []; omega) (.int .i64 d)).setCell (p := ⟨gE9, 1, none⟩) (by simp only []; omega) (.slice AE18 nE18 cE18)
        skip
        have cB3_0 := B3.c0; have cB3_1 := B3.c1; have fB3 := B3.frozen; have cB6_0 := B6.c0; have cB6_1 := B6.c1; have fB6 := B6.frozen
        have c9_0 := NE9.c0
        have c9_1 := NE9.c1
        have f9 := NE9.frozen
        go_wp2_with fail
        clear B3 B6 cB3_0 cB3_1 fB3 cB6_0 cB6_1 fB6 c9_0 c9_1 f9 NE9 SE18 hB2 SE17
        generalize (w9.setCell ⟨gE9, 0, none⟩ (.int .i64 d)).setCell ⟨gE9, 1, none⟩ (.slice AE18 nE18 cE18) = w8 at *
        have B3 := B3s
        have B6 := B6s
        have B9 := B9s
        clear B3s B6s B9s
        skip
        skip
        have cB3_0 := B3.c0; have cB3_1 := B3.c1; have fB3 := B3.frozen; have cB6_0 := B6.c0; have cB6_1 := B6.c1; have fB6 := B6.frozen; have cB9_0 := B9.c0; have cB9_1 := B9.c1; have fB9 := B9.frozen
        go_quiet (fail)
        replace B3 := B3.drewN nq
        replace B6 := B6.drewN nq
        replace B9 := B9.drewN nq
        replace W18 : WS (w8.drewN nq) _ _ _ _ _ := ⟨⟨W18.ok.sl.drewN nq, W18.ok.fresh, W18.ok.nil, W18.ok.spot⟩, W18.wr⟩
        replace hB3 := belowDrewN hB3 nq
        clear cB3_0 cB3_1 fB3 cB6_0 cB6_1 fB6 cB9_0 cB9_1 fB9
        generalize w8.drewN nq = w4 at *
        have hz4 := B9.lt
        have hz6 := B6.lt
        have cB3_0 := B3.c0; have cB3_1 := B3.c1; have fB3 := B3.frozen; have cB6_0 := B6.c0; have cB6_1 := B6.c1; have fB6 := B6.frozen; have cB9_0 := B9.c0; have cB9_1 := B9.c1; have fB9 := B9.frozen
        have W19 := W18.below (alo (Below.refl _ _) (.cells #[.int .i64 (t + d), .int .i64 v] 75))
        have src := Sl.of_blk (xs := [(t + d, v)]) (Blk.new w4 75 #[.int .i64 (t + d), .int .i64 v]) encS (by simp)
        have hb5 := alo hB3 (.cells #[.int .i64 (t + d), .int .i64 v] 75)
        have B3z := B3.alloc (.cells #[.int .i64 (t + d), .int .i64 v] 75)
        have B6z := B6.alloc (.cells #[.int .i64 (t + d), .int .i64 v] 75)
        have B9z := B9.alloc (.cells #[.int .i64 (t + d), .int .i64 v] 75)
        have hlx := Lib.hid (show lE18.length = nE18 from hlen18)
        have hnl : nE18 ≤ 900 := by rw [← hlx.out, HL.out]; omega
        go_wp2_with (at_builtin; refine app_full rfl _ _ appPkt rfl encS AE18 nE18 cE18 lE18 rfl hcn.out W19.ok.nil W19.ok.sl _ _ _ [(t + d, v)] rfl src (by decide) (by simp; omega) ?_; intro v5 w5 own5 hg5; have B6a := B6z.other hg5 (by simp); have B9a := B9z.other hg5 (by simp); have hb6 := thn hb5 (below_of_grown hg5); obtain ⟨A6, c6, hvv, hA6, hsl6, -⟩ := own5.sl encS; rw [List.length_append, List.length_singleton, hlx.out] at hvv hsl6; subst hvv)
        have hln : nE18 + 1 ≤ 1000 := by omega
        refine (cloneP_any A6 _ c6 _ hln hA6 w5 hsl6).mono ?_
        rintro e w6 ⟨⟨A7, n7, c7, l7⟩, rfl, ws7, ⟨hl7, -⟩, hb7⟩
        simp only [SV.v] at ws7 hl7 ⊢
        subst hl7
        have B6b := B6a.below hb7
        have B9b := B9a.below hb7
        have hb8 := thn hb6 hb7
        have hz5 := B6a.lt
        have ws8 := ((ws7.setBlk B9b (i := 1) (by decide) (.slice A7 n7 c7)).set (g := w.heap.size + 1) (i := 0) hz5 (.int .i64 d)).set (g := w.heap.size + 1) (i := 1) hz5 (.slice A7 n7 c7)
        have e1 := B6b.c0
        have e2 := B6b.c1
        have e3 := B6b.frozen
        have e4 := B9b.c0
        have e5 := B9b.c1
        have e6 := B9b.frozen
        go_wp2
        exact bodyPost_ret (v := lmV (d, ⟨A7, n7, c7, lE18 ++ [(t + d, v)]⟩, true)) (by simp [results, Try.results74, go_sem, lmV, SV.v, e1, e2, e3, e4, e5, e6]) rfl ⟨(d, ⟨A7, n7, c7, lE18 ++ [(t + d, v)]⟩, true), rfl, ws8.mono (by omega), rfl, (((hb8.setCell (p := ⟨gE9, 1, none⟩) (by simp only []; omega) _).setCell (p := ⟨w.heap.size + 1, 0, none⟩) (by simp only []; omega) _).setCell (p := ⟨w.heap.size + 1, 1, none⟩) (by simp only []; omega) _)⟩
    | some y =>
      have hfull0 : fullL xs (t + d) = decide (t + d < y.1) := by simp [fullL, hlen, hn20, hl]
      have hn0 : 0 < n := by
        rcases Nat.eq_zero_or_pos n with h0 | h0
        · rw [h0] at hlen
          rw [List.eq_nil_of_length_eq_zero hlen] at hl
          cases hl
        · exact h0
      obtain ⟨j, rfl⟩ : ∃ j, n = j + 1 := ⟨n - 1, by omega⟩
      obtain ⟨b, o, rfl, y', hy, hc⟩ := hs.nth (kk := j) (by omega) (Below.refl _ _)
      obtain rfl : y = y' := by
        rw [List.getLast?_eq_getElem?, hlen, show j + 1 - 1 = j from rfl, hy] at hl
        injection hl with hl
        exact hl.symm
      have hc0 := hc 0 _ rfl
      obtain ⟨yd, yv⟩ := y
      simp only [eS, Nat.add_zero] at hc0 hfull0
      have hbl := World.block_lt_of_cell? _ _ hc0
      have hj1 : (0 : Int) ≤ (j : Int) := by omega
      have hj2 : (j : Int) < ((j + 1 : Nat) : Int) := by omega
      have hn21 : ((j : Int) + 1 == 20) = false := by rw [beq_eq_false_iff_ne]; omega
      have hj3 : (0 : Int) < (j : Int) + 1 := by omega
      have hj4 : (j : Int) < (j : Int) + 1 := by omega
      clear hlen hn20 hs hl hc hy
      by_cases hgt : t + d < yd
      · have hfull : fullL xs (t + d) = true := by rw [hfull0]; exact decide_eq_true hgt
        clear hfull0
        have hz : sentL d xs t v = ((d, xs), false) := by unfold sentL; rw [hfull]; rfl
        rw [hz]
        clear hz hfull
        skip
        have cB3_0 := B3.c0; have cB3_1 := B3.c1; have fB3 := B3.frozen; have cB6_0 := B6.c0; have cB6_1 := B6.c1; have fB6 := B6.frozen
        go_enter Try.func74, Try.ntmps74
        go_wp2
        have hcl := fun W hW => cloneP_any (some ⟨b, o, none⟩) (j + 1) c xs (by omega) hA W (hsW.below hW)
        have hsz0 : w.heap.size + 2 ≤ ((w.alloc (.cells #[.int .i64 d, .slice (some ⟨b, o, none⟩) (j + 1) c] 29)).alloc (.cells #[.int .i64 0, .slice none 0 0] 29)).heap.size := by simp
        go_wp2_with fail
        generalize (w.alloc (.cells #[.int .i64 d, .slice (some ⟨b, o, none⟩) (j + 1) c] 29)).alloc (.cells #[.int .i64 0, .slice none 0 0] 29) = W0 at *
        clear cB3_0 cB3_1 fB3 cB6_0 cB6_1 fB6
        refine region_rel (by kernel_rfl) (fun iz vz wz => relSend w.heap.size (w.heap.size+2) (j+1) c d (some ⟨b, o, none⟩) xs iz vz wz) (fun wz wz' => Below wz.heap.size wz wz') (fun _ wz' => Below W0.heap.size W0 wz') 7 _ W0 (by kernel_rfl) (by kernel_rfl) (fun iz vz wz wz' h hb => relSend_below w.heap.size (w.heap.size+2) (j+1) c d (some ⟨b, o, none⟩) xs h hb) (fun wz => Below.refl _ _) (fun _ _ _ _ h => h) (show Below W0.heap.size W0 W0.drew from (Below.refl _ _).drew) ?_ ?_
        · intro i o him ho a wa cc hcc hJ hfr hdep
          have B3 := B3.below hJ
          have B6 := B6.below hJ
          have cB3_0 := B3.c0; have cB3_1 := B3.c1; have fB3 := B3.frozen; have cB6_0 := B6.c0; have cB6_1 := B6.c1; have fB6 := B6.frozen
          match i, ho, him with
          | 0, ho, _ =>
            injection ho with ho
            subst ho
            have h3 := hfr.2.2 3 (drawFrM_spec (by kernel_rfl))
            clear hdep hfr
            simp only [Array.getD_eq_getD_getElem?] at h3
            refine .inl ⟨rfl, ?_⟩
            unfold Oper.wp
            go_simp
            exact LeavesR.val rfl (Below.refl _ _) hJ
          | 1, ho, _ =>
            injection ho with ho
            subst ho
            have h13 := hdep ⟨0, .data⟩ (by simp) (by kernel_rfl) _ 13 rfl rfl
            clear hdep hfr
            replace h13 : a.tmps.getD 13 undef = .pointer (some ⟨w.heap.size, 0, none⟩) := h13
            simp only [Array.getD_eq_getD_getElem?] at h13
            refine .inl ⟨rfl, ?_⟩
            unfold Oper.wp
            go_simp
            exact LeavesR.val rfl (Below.refl _ _) hJ
          | 2, ho, _ =>
            injection ho with ho
            subst ho
            have h3 := hfr.2.2 3 (drawFrM_spec (by kernel_rfl))
            clear hdep hfr
            simp only [Array.getD_eq_getD_getElem?] at h3
            refine .inl ⟨rfl, ?_⟩
            unfold Oper.wp
            go_simp
            exact LeavesR.val rfl (Below.refl _ _) hJ
          | 3, ho, _ =>
            injection ho with ho
            subst ho
            have h15 := hdep ⟨2, .data⟩ (by simp) (by kernel_rfl) _ 15 rfl rfl
            clear hdep hfr
            replace h15 : a.tmps.getD 15 undef = .pointer (some ⟨w.heap.size, 1, none⟩) := h15
            simp only [Array.getD_eq_getD_getElem?] at h15
            refine .inl ⟨rfl, ?_⟩
            unfold Oper.wp
            go_simp
            exact LeavesR.val rfl (Below.refl _ _) hJ
          | 4, ho, _ =>
            injection ho with ho
            subst ho
            have h16 := hdep ⟨3, .data⟩ (by simp) (by kernel_rfl) _ 16 rfl rfl
            clear hdep hfr
            replace h16 : a.tmps.getD 16 undef = .slice (some ⟨b, o, none⟩) (j+1) c := h16
            simp only [Array.getD_eq_getD_getElem?] at h16
            refine .inl ⟨rfl, ?_⟩
            unfold Oper.wp
            go_simp
            refine (hcl _ hJ).mono ?_
            rintro e wb ⟨s9, rfl, hok9, hl9, hb'⟩
            exact LeavesR.val ⟨s9, rfl, hok9.mono (by have := hJ.size; omega), hl9⟩ hb' (thn hJ hb')
          | 5, ho, _ =>
            injection ho with ho
            subst ho
            have h14 := hdep ⟨1, .data⟩ (by simp) (by kernel_rfl) _ 14 rfl rfl
            have h17 := hdep ⟨4, .data⟩ (by simp) (by kernel_rfl) _ 17 rfl rfl
            clear hdep hfr
            replace h14 : a.tmps.getD 14 undef = .int .i64 d := h14
            simp only [Array.getD_eq_getD_getElem?] at h14
            obtain ⟨⟨A17, n17, c17, l17⟩, h17, S17, L17⟩ := h17
            simp only [SV.v] at h17 S17 L17
            replace L17 := Lib.hid L17
            simp only [Array.getD_eq_getD_getElem?] at h17
            refine .inl ⟨rfl, ?_⟩
            unfold Oper.wp
            go_simp
            exact LeavesR.val ⟨⟨A17, n17, c17, l17⟩, rfl, S17, L17.out⟩ (Below.refl _ _) hJ
          | 6, ho, _ =>
            injection ho with ho
            subst ho
            clear hdep hfr
            refine .inl ⟨rfl, ?_⟩
            unfold Oper.wp
            go_simp
            exact LeavesR.val ⟨_, rfl, (by have := hJ.size; omega), Blk.new wa _ _⟩ (alo (Below.refl _ _) _) (alo hJ _)
          | n + 7, _, him => exact absurd him (by omega)
        · intro V w9 hV hJ
          have hV0 := hV 0 _ 13 (by decide) rfl rfl
          replace hV0 : V 0 = .pointer (some ⟨w.heap.size, 0, none⟩) := hV0
          have hV1 := hV 1 _ 14 (by decide) rfl rfl
          replace hV1 : V 1 = .int .i64 d := hV1
          have hV2 := hV 2 _ 15 (by decide) rfl rfl
          replace hV2 : V 2 = .pointer (some ⟨w.heap.size, 1, none⟩) := hV2
          have hV3 := hV 3 _ 16 (by decide) rfl rfl
          replace hV3 : V 3 = .slice (some ⟨b, o, none⟩) (j+1) c := hV3
          obtain ⟨⟨AE17, nE17, cE17, lE17⟩, hV4, SE17, LE17⟩ := hV 4 _ 17 (by decide) rfl rfl
          simp only [SV.v] at hV4 SE17 LE17
          obtain ⟨⟨AE18, nE18, cE18, lE18⟩, hV5, SE18, LE18⟩ := hV 5 _ 18 (by decide) rfl rfl
          simp only [SV.v] at hV5 SE18 LE18
          obtain ⟨gE9, hV6, bE9, NE9⟩ := hV 6 _ 9 (by decide) rfl rfl
          clear hV
          simp only [puts, List.drop, Act.put, List.getElem?_toArray, List.getElem?_cons_succ, List.getElem?_cons_zero, List.setIfInBounds_toArray, List.set_cons_succ, List.set_cons_zero, hV0, hV1, hV2, hV3, hV4, hV5, hV6]
          clear hV0 hV1 hV2 hV3 hV4 hV5 hV6
          replace B3 := B3.below hJ
          replace B6 := B6.below hJ
          obtain ⟨hlx, hcn⟩ := LE18
          replace hcn := Lib.hid hcn
          subst hlx
          clear LE17
          have hB2 := thn hb0 hJ
          have hlen18 := SE18.ok.sl.len
          have hne3 : w.heap.size ≠ gE9 := by omega
          have hne6 : w.heap.size + 1 ≠ gE9 := by omega
          have B3s := (B3.far (p := ⟨gE9, 0, none⟩) hne3 (.int .i64 d)).far (p := ⟨gE9, 1, none⟩) hne3 (.slice AE18 nE18 cE18)
          have B6s := (B6.far (p := ⟨gE9, 0, none⟩) hne6 (.int .i64 d)).far (p := ⟨gE9, 1, none⟩) hne6 (.slice AE18 nE18 cE18)
          have B9s : Blk ((w9.setCell ⟨gE9, 0, none⟩ (.int .i64 d)).setCell ⟨gE9, 1, none⟩ (.slice AE18 nE18 cE18)) gE9 29 #[.int .i64 d, .slice AE18 nE18 cE18] := (NE9.set_ 0 _).set_ 1 _
          have W18 := (SE18.setBlk NE9 (i := 0) (by decide) (.int .i64 d)).setBlk (NE9.set_ 0 (.int .i64 d)) (i := 1) (by decide) (.slice AE18 nE18 cE18)
          have hB3 := (hB2.setCell (p := ⟨gE9, 0, none⟩) (by simp only []; omega) (.int .i64 d)).setCell (p := ⟨gE9, 1, none⟩) (by simp only []; omega) (.slice AE18 nE18 cE18)
          skip
          have cB3_0 := B3.c0; have cB3_1 := B3.c1; have fB3 := B3.frozen; have cB6_0 := B6.c0; have cB6_1 := B6.c1; have fB6 := B6.frozen
          have c9_0 := NE9.c0
          have c9_1 := NE9.c1
          have f9 := NE9.frozen
          go_wp2_with fail
          clear B3 B6 cB3_0 cB3_1 fB3 cB6_0 cB6_1 fB6 c9_0 c9_1 f9 NE9 SE18 hB2 SE17
          generalize (w9.setCell ⟨gE9, 0, none⟩ (.int .i64 d)).setCell ⟨gE9, 1, none⟩ (.slice AE18 nE18 cE18) = w8 at *
          have B3 := B3s
          have B6 := B6s
          have B9 := B9s
          clear B3s B6s B9s
          skip
          skip
          have cB3_0 := B3.c0; have cB3_1 := B3.c1; have fB3 := B3.frozen; have cB6_0 := B6.c0; have cB6_1 := B6.c1; have fB6 := B6.frozen; have cB9_0 := B9.c0; have cB9_1 := B9.c1; have fB9 := B9.frozen
          have hq0 := (hB3.cell (p := ⟨b, o + j * 2, none⟩) hbl).trans hc0
          go_quiet (fail)
          replace B3 := B3.drewN nq
          replace B6 := B6.drewN nq
          replace B9 := B9.drewN nq
          replace W18 : WS (w8.drewN nq) _ _ _ _ _ := ⟨⟨W18.ok.sl.drewN nq, W18.ok.fresh, W18.ok.nil, W18.ok.spot⟩, W18.wr⟩
          replace hB3 := belowDrewN hB3 nq
          clear cB3_0 cB3_1 fB3 cB6_0 cB6_1 fB6 cB9_0 cB9_1 fB9
          generalize w8.drewN nq = w4 at *
          have hz4 := B9.lt
          have hz6 := B6.lt
          have cB3_0 := B3.c0; have cB3_1 := B3.c1; have fB3 := B3.frozen; have cB6_0 := B6.c0; have cB6_1 := B6.c1; have fB6 := B6.frozen; have cB9_0 := B9.c0; have cB9_1 := B9.c1; have fB9 := B9.frozen
          have W19 := (W18.set (g := w.heap.size + 1) (i := 0) (by omega) (.int .i64 d)).set (g := w.heap.size + 1) (i := 1) (by omega) (.slice AE18 nE18 cE18)
          go_wp2
          exact bodyPost_ret (v := lmV (d, ⟨AE18, nE18, cE18, lE18⟩, false)) (by simp [results, Try.results74, go_sem, lmV, SV.v, cB6_0, cB6_1]) rfl ⟨(d, ⟨AE18, nE18, cE18, lE18⟩, false), rfl, W19.mono (by omega), rfl, (hB3.setCell (p := ⟨w.heap.size + 1, 0, none⟩) (by simp only []; omega) _).setCell (p := ⟨w.heap.size + 1, 1, none⟩) (by simp only []; omega) _⟩
      · have hfull : fullL xs (t + d) = false := by rw [hfull0]; exact decide_eq_false hgt
        have hgt' : decide (t + d < yd) = false := decide_eq_false hgt
        clear hfull0
        have hz : sentL d xs t v = ((d, xs ++ [(t + d, v)]), true) := by unfold sentL; rw [hfull]; rfl
        rw [hz]
        clear hz hfull
        skip
        have cB3_0 := B3.c0; have cB3_1 := B3.c1; have fB3 := B3.frozen; have cB6_0 := B6.c0; have cB6_1 := B6.c1; have fB6 := B6.frozen
        go_enter Try.func74, Try.ntmps74
        go_wp2
        have hcl := fun W hW => cloneP_any (some ⟨b, o, none⟩) (j + 1) c xs (by omega) hA W (hsW.below hW)
        have hsz0 : w.heap.size + 2 ≤ ((w.alloc (.cells #[.int .i64 d, .slice (some ⟨b, o, none⟩) (j + 1) c] 29)).alloc (.cells #[.int .i64 0, .slice none 0 0] 29)).heap.size := by simp
        go_wp2_with fail
        generalize (w.alloc (.cells #[.int .i64 d, .slice (some ⟨b, o, none⟩) (j + 1) c] 29)).alloc (.cells #[.int .i64 0, .slice none 0 0] 29) = W0 at *
        clear cB3_0 cB3_1 fB3 cB6_0 cB6_1 fB6
        refine region_rel (by kernel_rfl) (fun iz vz wz => relSend w.heap.size (w.heap.size+2) (j+1) c d (some ⟨b, o, none⟩) xs iz vz wz) (fun wz wz' => Below wz.heap.size wz wz') (fun _ wz' => Below W0.heap.size W0 wz') 7 _ W0 (by kernel_rfl) (by kernel_rfl) (fun iz vz wz wz' h hb => relSend_below w.heap.size (w.heap.size+2) (j+1) c d (some ⟨b, o, none⟩) xs h hb) (fun wz => Below.refl _ _) (fun _ _ _ _ h => h) (show Below W0.heap.size W0 W0.drew from (Below.refl _ _).drew) ?_ ?_
        · intro i o him ho a wa cc hcc hJ hfr hdep
          have B3 := B3.below hJ
          have B6 := B6.below hJ
          have cB3_0 := B3.c0; have cB3_1 := B3.c1; have fB3 := B3.frozen; have cB6_0 := B6.c0; have cB6_1 := B6.c1; have fB6 := B6.frozen
          match i, ho, him with
          | 0, ho, _ =>
            injection ho with ho
            subst ho
            have h3 := hfr.2.2 3 (drawFrM_spec (by kernel_rfl))
            clear hdep hfr
            simp only [Array.getD_eq_getD_getElem?] at h3
            refine .inl ⟨rfl, ?_⟩
            unfold Oper.wp
            go_simp
            exact LeavesR.val rfl (Below.refl _ _) hJ
          | 1, ho, _ =>
            injection ho with ho
            subst ho
            have h13 := hdep ⟨0, .data⟩ (by simp) (by kernel_rfl) _ 13 rfl rfl
            clear hdep hfr
            replace h13 : a.tmps.getD 13 undef = .pointer (some ⟨w.heap.size, 0, none⟩) := h13
            simp only [Array.getD_eq_getD_getElem?] at h13
            refine .inl ⟨rfl, ?_⟩
            unfold Oper.wp
            go_simp
            exact LeavesR.val rfl (Below.refl _ _) hJ
          | 2, ho, _ =>
            injection ho with ho
            subst ho
            have h3 := hfr.2.2 3 (drawFrM_spec (by kernel_rfl))
            clear hdep hfr
            simp only [Array.getD_eq_getD_getElem?] at h3
            refine .inl ⟨rfl, ?_⟩
            unfold Oper.wp
            go_simp
            exact LeavesR.val rfl (Below.refl _ _) hJ
          | 3, ho, _ =>
            injection ho with ho
            subst ho
            have h15 := hdep ⟨2, .data⟩ (by simp) (by kernel_rfl) _ 15 rfl rfl
            clear hdep hfr
            replace h15 : a.tmps.getD 15 undef = .pointer (some ⟨w.heap.size, 1, none⟩) := h15
            simp only [Array.getD_eq_getD_getElem?] at h15
            refine .inl ⟨rfl, ?_⟩
            unfold Oper.wp
            go_simp
            exact LeavesR.val rfl (Below.refl _ _) hJ
          | 4, ho, _ =>
            injection ho with ho
            subst ho
            have h16 := hdep ⟨3, .data⟩ (by simp) (by kernel_rfl) _ 16 rfl rfl
            clear hdep hfr
            replace h16 : a.tmps.getD 16 undef = .slice (some ⟨b, o, none⟩) (j+1) c := h16
            simp only [Array.getD_eq_getD_getElem?] at h16
            refine .inl ⟨rfl, ?_⟩
            unfold Oper.wp
            go_simp
            refine (hcl _ hJ).mono ?_
            rintro e wb ⟨s9, rfl, hok9, hl9, hb'⟩
            exact LeavesR.val ⟨s9, rfl, hok9.mono (by have := hJ.size; omega), hl9⟩ hb' (thn hJ hb')
          | 5, ho, _ =>
            injection ho with ho
            subst ho
            have h14 := hdep ⟨1, .data⟩ (by simp) (by kernel_rfl) _ 14 rfl rfl
            have h17 := hdep ⟨4, .data⟩ (by simp) (by kernel_rfl) _ 17 rfl rfl
            clear hdep hfr
            replace h14 : a.tmps.getD 14 undef = .int .i64 d := h14
            simp only [Array.getD_eq_getD_getElem?] at h14
            obtain ⟨⟨A17, n17, c17, l17⟩, h17, S17, L17⟩ := h17
            simp only [SV.v] at h17 S17 L17
            replace L17 := Lib.hid L17
            simp only [Array.getD_eq_getD_getElem?] at h17
            refine .inl ⟨rfl, ?_⟩
            unfold Oper.wp
            go_simp
            exact LeavesR.val ⟨⟨A17, n17, c17, l17⟩, rfl, S17, L17.out⟩ (Below.refl _ _) hJ
          | 6, ho, _ =>
            injection ho with ho
            subst ho
            clear hdep hfr
            refine .inl ⟨rfl, ?_⟩
            unfold Oper.wp
            go_simp
            exact LeavesR.val ⟨_, rfl, (by have := hJ.size; omega), Blk.new wa _ _⟩ (alo (Below.refl _ _) _) (alo hJ _)
          | n + 7, _, him => exact absurd him (by omega)
        · intro V w9 hV hJ
          have hV0 := hV 0 _ 13 (by decide) rfl rfl
          replace hV0 : V 0 = .pointer (some ⟨w.heap.size, 0, none⟩) := hV0
          have hV1 := hV 1 _ 14 (by decide) rfl rfl
          replace hV1 : V 1 = .int .i64 d := hV1
          have hV2 := hV 2 _ 15 (by decide) rfl rfl
          replace hV2 : V 2 = .pointer (some ⟨w.heap.size, 1, none⟩) := hV2
          have hV3 := hV 3 _ 16 (by decide) rfl rfl
          replace hV3 : V 3 = .slice (some ⟨b, o, none⟩) (j+1) c := hV3
          obtain ⟨⟨AE17, nE17, cE17, lE17⟩, hV4, SE17, LE17⟩ := hV 4 _ 17 (by decide) rfl rfl
          simp only [SV.v] at hV4 SE17 LE17
          obtain ⟨⟨AE18, nE18, cE18, lE18⟩, hV5, SE18, LE18⟩ := hV 5 _ 18 (by decide) rfl rfl
          simp only [SV.v] at hV5 SE18 LE18
          obtain ⟨gE9, hV6, bE9, NE9⟩ := hV 6 _ 9 (by decide) rfl rfl
          clear hV
          simp only [puts, List.drop, Act.put, List.getElem?_toArray, List.getElem?_cons_succ, List.getElem?_cons_zero, List.setIfInBounds_toArray, List.set_cons_succ, List.set_cons_zero, hV0, hV1, hV2, hV3, hV4, hV5, hV6]
          clear hV0 hV1 hV2 hV3 hV4 hV5 hV6
          replace B3 := B3.below hJ
          replace B6 := B6.below hJ
          obtain ⟨hlx, hcn⟩ := LE18
          replace hcn := Lib.hid hcn
          subst hlx
          clear LE17
          have hB2 := thn hb0 hJ
          have hlen18 := SE18.ok.sl.len
          have hne3 : w.heap.size ≠ gE9 := by omega
          have hne6 : w.heap.size + 1 ≠ gE9 := by omega
          have B3s := (B3.far (p := ⟨gE9, 0, none⟩) hne3 (.int .i64 d)).far (p := ⟨gE9, 1, none⟩) hne3 (.slice AE18 nE18 cE18)
          have B6s := (B6.far (p := ⟨gE9, 0, none⟩) hne6 (.int .i64 d)).far (p := ⟨gE9, 1, none⟩) hne6 (.slice AE18 nE18 cE18)
          have B9s : Blk ((w9.setCell ⟨gE9, 0, none⟩ (.int .i64 d)).setCell ⟨gE9, 1, none⟩ (.slice AE18 nE18 cE18)) gE9 29 #[.int .i64 d, .slice AE18 nE18 cE18] := (NE9.set_ 0 _).set_ 1 _
          have W18 := (SE18.setBlk NE9 (i := 0) (by decide) (.int .i64 d)).setBlk (NE9.set_ 0 (.int .i64 d)) (i := 1) (by decide) (.slice AE18 nE18 cE18)
          have hB3 := (hB2.setCell (p := ⟨gE9, 0, none⟩) (by simp only []; omega) (.int .i64 d)).setCell (p := ⟨gE9, 1, none⟩) (by simp only []; omega) (.slice AE18 nE18 cE18)
          skip
          have cB3_0 := B3.c0; have cB3_1 := B3.c1; have fB3 := B3.frozen; have cB6_0 := B6.c0; have cB6_1 := B6.c1; have fB6 := B6.frozen
          have c9_0 := NE9.c0
          have c9_1 := NE9.c1
          have f9 := NE9.frozen
          go_wp2_with fail
          clear B3 B6 cB3_0 cB3_1 fB3 cB6_0 cB6_1 fB6 c9_0 c9_1 f9 NE9 SE18 hB2 SE17
          generalize (w9.setCell ⟨gE9, 0, none⟩ (.int .i64 d)).setCell ⟨gE9, 1, none⟩ (.slice AE18 nE18 cE18) = w8 at *
          have B3 := B3s
          have B6 := B6s
          have B9 := B9s
          clear B3s B6s B9s
          skip
          skip
          have cB3_0 := B3.c0; have cB3_1 := B3.c1; have fB3 := B3.frozen; have cB6_0 := B6.c0; have cB6_1 := B6.c1; have fB6 := B6.frozen; have cB9_0 := B9.c0; have cB9_1 := B9.c1; have fB9 := B9.frozen
          have hq0 := (hB3.cell (p := ⟨b, o + j * 2, none⟩) hbl).trans hc0
          go_quiet (fail)
          replace B3 := B3.drewN nq
          replace B6 := B6.drewN nq
          replace B9 := B9.drewN nq
          replace W18 : WS (w8.drewN nq) _ _ _ _ _ := ⟨⟨W18.ok.sl.drewN nq, W18.ok.fresh, W18.ok.nil, W18.ok.spot⟩, W18.wr⟩
          replace hB3 := belowDrewN hB3 nq
          clear cB3_0 cB3_1 fB3 cB6_0 cB6_1 fB6 cB9_0 cB9_1 fB9
          generalize w8.drewN nq = w4 at *
          have hz4 := B9.lt
          have hz6 := B6.lt
          have cB3_0 := B3.c0; have cB3_1 := B3.c1; have fB3 := B3.frozen; have cB6_0 := B6.c0; have cB6_1 := B6.c1; have fB6 := B6.frozen; have cB9_0 := B9.c0; have cB9_1 := B9.c1; have fB9 := B9.frozen
          clear hq0
          have W19 := W18.below (alo (Below.refl _ _) (.cells #[.int .i64 (t + d), .int .i64 v] 75))
          have src := Sl.of_blk (xs := [(t + d, v)]) (Blk.new w4 75 #[.int .i64 (t + d), .int .i64 v]) encS (by simp)
          have hb5 := alo hB3 (.cells #[.int .i64 (t + d), .int .i64 v] 75)
          have B3z := B3.alloc (.cells #[.int .i64 (t + d), .int .i64 v] 75)
          have B6z := B6.alloc (.cells #[.int .i64 (t + d), .int .i64 v] 75)
          have B9z := B9.alloc (.cells #[.int .i64 (t + d), .int .i64 v] 75)
          have hlx := Lib.hid (show lE18.length = nE18 from hlen18)
          have hnl : nE18 ≤ 900 := by rw [← hlx.out, HL.out]; omega
          go_wp2_with (at_builtin; refine app_full rfl _ _ appPkt rfl encS AE18 nE18 cE18 lE18 rfl hcn.out W19.ok.nil W19.ok.sl _ _ _ [(t + d, v)] rfl src (by decide) (by simp; omega) ?_; intro v5 w5 own5 hg5; have B6a := B6z.other hg5 (by simp); have B9a := B9z.other hg5 (by simp); have hb6 := thn hb5 (below_of_grown hg5); obtain ⟨A6, c6, hvv, hA6, hsl6, -⟩ := own5.sl encS; rw [List.length_append, List.length_singleton, hlx.out] at hvv hsl6; subst hvv)
          have hln : nE18 + 1 ≤ 1000 := by omega
          refine (cloneP_any A6 _ c6 _ hln hA6 w5 hsl6).mono ?_
          rintro e w6 ⟨⟨A7, n7, c7, l7⟩, rfl, ws7, ⟨hl7, -⟩, hb7⟩
          simp only [SV.v] at ws7 hl7 ⊢
          subst hl7
          have B6b := B6a.below hb7
          have B9b := B9a.below hb7
          have hb8 := thn hb6 hb7
          have hz5 := B6a.lt
          have ws8 := ((ws7.setBlk B9b (i := 1) (by decide) (.slice A7 n7 c7)).set (g := w.heap.size + 1) (i := 0) hz5 (.int .i64 d)).set (g := w.heap.size + 1) (i := 1) hz5 (.slice A7 n7 c7)
          have e1 := B6b.c0
          have e2 := B6b.c1
          have e3 := B6b.frozen
          have e4 := B9b.c0
          have e5 := B9b.c1
          have e6 := B9b.frozen
          go_wp2
          exact bodyPost_ret (v := lmV (d, ⟨A7, n7, c7, lE18 ++ [(t + d, v)]⟩, true)) (by simp [results, Try.results74, go_sem, lmV, SV.v, e1, e2, e3, e4, e5, e6]) rfl ⟨(d, ⟨A7, n7, c7, lE18 ++ [(t + d, v)]⟩, true), rfl, ws8.mono (by omega), rfl, (((hb8.setCell (p := ⟨gE9, 1, none⟩) (by simp only []; omega) _).setCell (p := ⟨w.heap.size + 1, 0, none⟩) (by simp only []; omega) _).setCell (p := ⟨w.heap.size + 1, 1, none⟩) (by simp only []; omega) _)⟩

set_option maxHeartbeats 2000000 in
theorem linkSend_any (d : Int) (A : Option Addr) (n c : Nat) (xs : List (Int × Int)) (t v : Int) (hA : Plain A c) (w : World) (hs : Sl w 2 eS A n c xs) :
    Calls Try.prog 44 #[linkV d A n c, .int .i64 t, .int .i64 v] w (Post lmV fun x w' => WS w' w.heap.size 75 2 eS x.2.1 ∧ ((x.1, x.2.1.xs), x.2.2) = lkSend d xs t v ∧ Below w.heap.size w w') := by
  have hV := fun W hW => linkValid_any d A n c xs W (hs.below hW)
  have hT := fun W => in_any t 0 100000 W
  have hU := fun W => isValue_any v W
  have hb0 := alo (alo (Below.refl w.heap.size w) (.cells #[.int .i64 d, .slice A n c] 29)) (.cells #[.int .i64 0, .slice none 0 0] 29)
  have B3 := (Blk.new w 29 #[.int .i64 d, .slice A n c]).alloc (.cells #[.int .i64 0, .slice none 0 0] 29)
  have B6 := Blk.new2 w (.cells #[.int .i64 d, .slice A n c] 29) 29 #[.int .i64 0, .slice none 0 0]
  skip
  skip
  have cB3_0 := B3.c0; have cB3_1 := B3.c1; have fB3 := B3.frozen; have cB6_0 := B6.c0; have cB6_1 := B6.c1; have fB6 := B6.frozen
  cases h1 : linkOk d xs
  · rw [h1] at hV
    simp only [linkV] at hV ⊢
    cases h2 : inB t 0 100000 <;> cases h3 : inB v 0 255
    all_goals
      have hz : lkSend d xs t v = ((0, []), false) := by simp [lkSend, h1, h2, h3]
      rw [hz]
      clear hz
      go_enter Try.func44, Try.ntmps44
      go_wp2_with fail
      refine (hV _ hb0).mono ?_; rintro e w1 ⟨rfl, hb1⟩
      clear cB3_0 cB3_1 fB3 cB6_0 cB6_1 fB6
      replace B3 := B3.below hb1
      replace B6 := B6.below hb1
      have cB3_0 := B3.c0; have cB3_1 := B3.c1; have fB3 := B3.frozen; have cB6_0 := B6.c0; have cB6_1 := B6.c1; have fB6 := B6.frozen
      go_wp2_with fail
      try (refine (hT _).mono ?_; rintro e w' ⟨rfl, rfl⟩; go_wp2_with fail)
      try (refine (hU _).mono ?_; rintro e w' ⟨rfl, rfl⟩; go_wp2_with fail)
      go_wp2
      exact bodyPost_ret (v := lmV (0, ⟨none, 0, 0, []⟩, false)) (by simp [results, Try.results44, go_sem, lmV, SV.v, cB6_0, cB6_1]) rfl ⟨(0, ⟨none, 0, 0, []⟩, false), rfl, WS.nilS, rfl, ((thn hb0 hb1).setCell (p := ⟨w.heap.size + 1, 0, none⟩) (by simp only []; omega) _).setCell (p := ⟨w.heap.size + 1, 1, none⟩) (by simp only []; omega) _⟩
  · rw [h1] at hV
    cases h2 : inB t 0 100000
    · rw [h2] at hT
      simp only [linkV] at hV ⊢
      cases h3 : inB v 0 255
      all_goals
        have hz : lkSend d xs t v = ((0, []), false) := by simp [lkSend, h1, h2, h3]
        rw [hz]
        clear hz
        go_enter Try.func44, Try.ntmps44
        go_wp2_with fail
        refine (hV _ hb0).mono ?_; rintro e w1 ⟨rfl, hb1⟩
        clear cB3_0 cB3_1 fB3 cB6_0 cB6_1 fB6
        replace B3 := B3.below hb1
        replace B6 := B6.below hb1
        have cB3_0 := B3.c0; have cB3_1 := B3.c1; have fB3 := B3.frozen; have cB6_0 := B6.c0; have cB6_1 := B6.c1; have fB6 := B6.frozen
        go_wp2_with fail
        try (refine (hT _).mono ?_; rintro e w' ⟨rfl, rfl⟩; go_wp2_with fail)
        try (refine (hU _).mono ?_; rintro e w' ⟨rfl, rfl⟩; go_wp2_with fail)
        go_wp2
        exact bodyPost_ret (v := lmV (0, ⟨none, 0, 0, []⟩, false)) (by simp [results, Try.results44, go_sem, lmV, SV.v, cB6_0, cB6_1]) rfl ⟨(0, ⟨none, 0, 0, []⟩, false), rfl, WS.nilS, rfl, ((thn hb0 hb1).setCell (p := ⟨w.heap.size + 1, 0, none⟩) (by simp only []; omega) _).setCell (p := ⟨w.heap.size + 1, 1, none⟩) (by simp only []; omega) _⟩
    · rw [h2] at hT
      cases h3 : inB v 0 255
      · rw [h3] at hU
        simp only [linkV] at hV ⊢
        have hz : lkSend d xs t v = ((0, []), false) := by simp [lkSend, h1, h2, h3]
        rw [hz]
        clear hz
        go_enter Try.func44, Try.ntmps44
        go_wp2_with fail
        refine (hV _ hb0).mono ?_; rintro e w1 ⟨rfl, hb1⟩
        clear cB3_0 cB3_1 fB3 cB6_0 cB6_1 fB6
        replace B3 := B3.below hb1
        replace B6 := B6.below hb1
        have cB3_0 := B3.c0; have cB3_1 := B3.c1; have fB3 := B3.frozen; have cB6_0 := B6.c0; have cB6_1 := B6.c1; have fB6 := B6.frozen
        go_wp2_with fail
        try (refine (hT _).mono ?_; rintro e w' ⟨rfl, rfl⟩; go_wp2_with fail)
        try (refine (hU _).mono ?_; rintro e w' ⟨rfl, rfl⟩; go_wp2_with fail)
        go_wp2
        exact bodyPost_ret (v := lmV (0, ⟨none, 0, 0, []⟩, false)) (by simp [results, Try.results44, go_sem, lmV, SV.v, cB6_0, cB6_1]) rfl ⟨(0, ⟨none, 0, 0, []⟩, false), rfl, WS.nilS, rfl, ((thn hb0 hb1).setCell (p := ⟨w.heap.size + 1, 0, none⟩) (by simp only []; omega) _).setCell (p := ⟨w.heap.size + 1, 1, none⟩) (by simp only []; omega) _⟩
      · rw [h3] at hU
        have ht := inB_true.1 h2
        have hdd : (0 ≤ d ∧ d ≤ 50) ∧ (xs.length : Int) ≤ 20 := by
          unfold linkOk at h1
          simp only [Bool.and_eq_true, inB_true, decide_eq_true_eq] at h1
          exact ⟨h1.2.1, h1.2.2⟩
        have hlen := hs.len
        have hM := fun W hW => send_any d A n c xs t v (by omega) hA hdd.1 ht W (hs.below hW)
        have hz : lkSend d xs t v = sentL d xs t v := by unfold lkSend; rw [h1, h2, h3]; rfl
        rw [hz]
        simp only [linkV] at hV hM ⊢
        clear hz hlen hdd ht
        generalize sentL d xs t v = res at *
        go_enter Try.func44, Try.ntmps44
        go_wp2_with fail
        refine (hV _ hb0).mono ?_; rintro e w1 ⟨rfl, hb1⟩
        clear cB3_0 cB3_1 fB3 cB6_0 cB6_1 fB6
        replace B3 := B3.below hb1
        replace B6 := B6.below hb1
        have hb2 := thn hb0 hb1
        have cB3_0 := B3.c0; have cB3_1 := B3.c1; have fB3 := B3.frozen; have cB6_0 := B6.c0; have cB6_1 := B6.c1; have fB6 := B6.frozen
        go_wp2_with fail
        refine (hT _).mono ?_; rintro e w' ⟨rfl, rfl⟩
        go_wp2_with fail
        refine (hU _).mono ?_; rintro e w' ⟨rfl, rfl⟩
        go_wp2_with fail
        refine (hM _ hb2).mono ?_
        rintro e w3 ⟨⟨d5, ⟨A5, n5, c5, l5⟩, ok5⟩, rfl, ws5, hr5, hb3⟩
        simp only [lmV, SV.v] at ws5 hr5 ⊢
        have hz1 := B6.lt
        clear cB3_0 cB3_1 fB3 cB6_0 cB6_1 fB6
        replace B6 := B6.below hb3
        have hb4 := thn hb2 hb3
        skip
        have cB6_0 := B6.c0; have cB6_1 := B6.c1; have fB6 := B6.frozen
        have ws7 := (ws5.set (g := w.heap.size + 1) (i := 0) hz1 (.int .i64 d5)).set (g := w.heap.size + 1) (i := 1) hz1 (.slice A5 n5 c5)
        go_wp2
        exact bodyPost_ret (v := lmV (d5, ⟨A5, n5, c5, l5⟩, ok5)) (by simp [results, Try.results44, go_sem, lmV, SV.v, cB6_0, cB6_1]) rfl ⟨(d5, ⟨A5, n5, c5, l5⟩, ok5), rfl, ws7.mono (by omega), hr5, (hb4.setCell (p := ⟨w.heap.size + 1, 0, none⟩) (by simp only []; omega) _).setCell (p := ⟨w.heap.size + 1, 1, none⟩) (by simp only []; omega) _⟩
end Go.Proofs.Ytenbpaoelipifaa
