/- take and LinkTake of impl. -/
import Derived.Test.YtenbpaoelipifaaCloneP
import Derived.Test.YtenbpaoelipifaaLinkV
import Derived.Test.YtenbpaoelipifaaOwnX
import Derived.Test.YtenbpaoelipifaaRel
namespace Go.Proofs.Ytenbpaoelipifaa
set_option linter.unusedVariables false
set_option linter.unusedSimpArgs false
open Go.RowKit

/-- The values of the packets that are due. -/
def takenL (xs : List (Int × Int)) (t : Int) : List Int := (xs.filter (fun p => decide (p.1 ≤ t))).map (·.2)
theorem takenL_le (xs : List (Int × Int)) (t : Int) : (takenL xs t).length ≤ xs.length := by
  unfold takenL
  rw [List.length_map]
  exact List.length_filter_le _ _
theorem takenL_step {xs : List (Int × Int)} {kk : Nat} {y : Int × Int} (t : Int) (hx : xs[kk]? = some y) : takenL (xs.take (kk + 1)) t = takenL (xs.take kk) t ++ (if y.1 ≤ t then [y.2] else []) := by
  unfold takenL
  rw [List.take_add_one, hx, List.filter_append, List.map_append]
  by_cases h : y.1 ≤ t
  · simp [h]
  · simp [h]
theorem SV.ok.bel {α : Type} {w w' : World} {base k : Nat} {enc : α → List Value} {s : SV α} (h : SV.ok w base k enc s) (hb : Below w.heap.size w w') : SV.ok w' base k enc s := ⟨h.sl.below hb, h.fresh, h.nil, h.spot⟩
theorem SV.ok.set {α : Type} {W : World} {base k g i : Nat} {enc : α → List Value} {s : SV α} (h : SV.ok W base k enc s) (hg : g < base) (u : Value) : SV.ok (W.setCell ⟨g, i, none⟩ u) base k enc s :=
  ⟨h.sl.keep (by simp [World.setCell]) (fun b o e => Below.heap_setCell _ _ _ _ (by have := h.fresh b o e; simp only []; omega)), h.fresh, h.nil, h.spot⟩
def tkV (d : Int) (x : SV (Int × Int) × SV Int) : Value := .tuple #[.agg #[.int .i64 d, x.1.v], x.2.v]
def relTake (q q2 m n1 c1 c6 : Nat) (d : Int) (A1 A6 : Option Addr) (xs : List (Int × Int)) : Nat → Value → World → Prop
  | 0, v, _ => v = .pointer (some ⟨q, 0, none⟩)
  | 1, v, _ => v = .int .i64 d
  | 2, v, _ => v = .pointer (some ⟨q, 1, none⟩)
  | 3, v, _ => v = .slice A1 n1 c1
  | 4, v, _ => v = .slice A6 m c6
  | 5, v, _ => v = .int .i64 m
  | 6, v, _ => v = .slice (if c1 = m then A1 else Option.map (fun x => x.add (m * 2)) A1) (n1 - m) (c1 - m)
  | 7, v, W => ∃ s, v = s.v ∧ WS W (q2) 75 2 eS s ∧ s.xs = xs.drop m
  | 8, v, W => ∃ s, v = .agg #[.int .i64 d, s.v] ∧ WS W (q2) 75 2 eS s ∧ s.xs = xs.drop m
  | 9, v, _ => v = .slice A6 m c6
  | 10, v, _ => v = .slice A6 m m
  | _, _, _ => True
theorem relTake_below (q q2 m n1 c1 c6 : Nat) (d : Int) (A1 A6 : Option Addr) (xs : List (Int × Int)) {i : Nat} {v : Value} {w w' : World} (h : relTake q q2 m n1 c1 c6 d A1 A6 xs i v w) (hb : Below w.heap.size w w') : relTake q q2 m n1 c1 c6 d A1 A6 xs i v w' := by
  match i, h with
  | 0, h => exact h
  | 1, h => exact h
  | 2, h => exact h
  | 3, h => exact h
  | 4, h => exact h
  | 5, h => exact h
  | 6, h => exact h
  | 7, ⟨s, e, h, l⟩ => exact ⟨s, e, h.below hb, l⟩
  | 8, ⟨s, e, h, l⟩ => exact ⟨s, e, h.below hb, l⟩
  | 9, h => exact h
  | 10, h => exact h
  | n + 11, _ => trivial

set_option maxRecDepth 100000 in
set_option maxHeartbeats 4000000 in
theorem take_any (d : Int) (A1 : Option Addr) (n1 c1 : Nat) (xs : List (Int × Int)) (t : Int) (hn : n1 ≤ 1000) (hA : Plain A1 c1) (w : World) (hs : Sl w 2 eS A1 n1 c1 xs) :
    Calls Try.prog 75 #[linkV d A1 n1 c1, .int .i64 t] w (Post (tkV d) fun x w' => WS w' w.heap.size 75 2 eS x.1 ∧ x.1.xs = xs.drop (takenL xs t).length ∧ WS w' w.heap.size 3 1 eI x.2 ∧ x.2.xs = takenL xs t ∧ Below w.heap.size w w') := by
  have hle := hs.le
  have hmax := hs.max
  have hb0 := alo (alo (Below.refl w.heap.size w) (.cells #[.int .i64 d, .slice A1 n1 c1] 29)) (.cells #[.int .i64 0, .slice none 0 0] 29)
  have B2 := (Blk.new w 29 #[.int .i64 d, .slice A1 n1 c1]).alloc (.cells #[.int .i64 0, .slice none 0 0] 29)
  have B4 := Blk.new2 w (.cells #[.int .i64 d, .slice A1 n1 c1] 29) 29 #[.int .i64 0, .slice none 0 0]
  skip
  skip
  have cB2_0 := B2.c0; have cB2_1 := B2.c1; have fB2 := B2.frozen; have cB4_0 := B4.c0; have cB4_1 := B4.c1; have fB4 := B4.frozen
  simp only [linkV]
  go_enter Try.func75, Try.ntmps75
  go_wp2
  go_loopg [6, 12] n1 (fun gg s6 s12 wr => ∃ (kk : Nat) (v : Value), kk ≤ n1 ∧ n1 - kk ≤ gg ∧ s6 = v ∧ s12 = .int .i64 kk ∧ Aside (Below w.heap.size w wr) ∧ Aside (Blk wr w.heap.size 29 #[.int .i64 d, .slice A1 n1 c1]) ∧ Aside (Blk wr (w.heap.size + 1) 29 #[.int .i64 0, .slice none 0 0]) ∧ Aside (Own wr (w.heap.size + 2) 3 1 eI v (takenL (xs.take kk) t)))
  case atStart => exact ⟨0, _, Nat.zero_le _, by omega, rfl, rfl, (show Aside _ from hb0), (show Aside _ from B2), (show Aside _ from B4), (show Aside _ from Own.nil)⟩
  case round =>
    obtain ⟨kk, v, hkk, hg, hv6, rfl, BW, BB2, BB4, OW⟩ := hrel
    subst hv6
    clear B2 B4 hb0
    have B2 := BB2.out
    have B4 := BB4.out
    have own1 := OW.out
    clear BB2 BB4 OW
    by_cases hlt : kk < n1
    · have hltz : (kk : Int) < (n1 : Int) := by omega
      obtain ⟨b, o, rfl, y, hx, hc⟩ := hs.nth hlt BW.out
      have hc0 := hc 0 _ rfl
      have hc1 := hc 1 _ rfl
      have HT := Lib.hid (takenL_step t hx)
      clear hc hx
      obtain ⟨yd, yv⟩ := y
      simp only [eS, Nat.add_zero] at hc0 hc1 HT
      have BP := Blk.new wr 75 #[.int .i64 yd, .int .i64 yv]
      have B2z := B2.alloc (.cells #[.int .i64 yd, .int .i64 yv] 75)
      have B4z := B4.alloc (.cells #[.int .i64 yd, .int .i64 yv] 75)
      have own2 := own1.alloc (.cells #[.int .i64 yd, .int .i64 yv] 75)
      have hbz := alo BW.out (.cells #[.int .i64 yd, .int .i64 yv] 75)
      have p0 := BP.c0
      have p1 := BP.c1
      have hz4 := B4.lt
      by_cases hle2 : yd ≤ t
      · rw [if_pos hle2] at HT
        have own3 := own2.alloc (.cells #[.int .i64 yv] 3)
        have B2y := B2z.alloc (.cells #[.int .i64 yv] 3)
        have B4y := B4z.alloc (.cells #[.int .i64 yv] 3)
        have hby := alo hbz (.cells #[.int .i64 yv] 3)
        have src := Sl.of_blk (xs := [yv]) (Blk.new2 wr (.cells #[.int .i64 yd, .int .i64 yv] 75) 3 #[.int .i64 yv]) encI (by simp)
        have hlen := takenL_le (xs.take kk) t
        have hlen2 : (takenL (xs.take kk) t).length + 1 ≤ 100000000 := by rw [List.length_take] at hlen; omega
        clear hlen
        go_wp2_with (at_builtin; refine app_own rfl _ _ appInt rfl encI (w.heap.size + 2) _ _ rfl own3 _ 1 1 [yv] rfl (fun e => by cases e) src hlen2 (by simp; omega) ?_; intro v5 w5 own5 hg5; have B2a := B2y.app own3 hg5 (by omega); have B4a := B4y.app own3 hg5 (by omega); have hb5 := belowApp hby own3 hg5 (by omega) hby.size)
        rw [← HT.out] at own5
        go_roundg (n1 - (kk + 1))
        case measure => omega
        case rel => exact ⟨kk + 1, _, by omega, by omega, rfl, by go_num, (show Aside _ from hb5), (show Aside _ from B2a), (show Aside _ from B4a), (show Aside _ from own5)⟩
      · rw [if_neg hle2, List.append_nil] at HT
        go_wp2
        rw [← HT.out] at own2
        go_roundg (n1 - (kk + 1))
        case measure => omega
        case rel => exact ⟨kk + 1, _, by omega, by omega, rfl, by go_num, (show Aside _ from hbz), (show Aside _ from B2z), (show Aside _ from B4z), (show Aside _ from own2)⟩
    · have hltz : ¬ (kk : Int) < (n1 : Int) := by omega
      obtain rfl : kk = n1 := by omega
      have hl := hs.len
      rw [List.take_of_length_le (by omega)] at own1
      have hm := takenL_le xs t
      obtain ⟨A6, c6, rfl, hA6, hsl6, hfr6⟩ := own1.sl encI
      have hle6 := hsl6.le
      have hmax6 := hsl6.max
      obtain ⟨m, hmm⟩ : ∃ m, (takenL xs t).length = m := ⟨_, rfl⟩
      rw [hmm] at hle6 hm hsl6 ⊢
      have hL := Lib.hid (show takenL xs t = takenL xs t from rfl)
      have hmn : m ≤ kk := by omega
      have hsW := hs.below BW.out
      have hcl := fun W (hW : Below wr.heap.size wr W) => (cloneP_any _ (kk - m) (c1 - m) (xs.drop m) (by omega) (hA.from_ m 2) W ((hsW.below hW).from_ m hmn)).mono (fun _ _ ⟨s, e, p1, p2, p3⟩ => (⟨s, e, p1, p2.1, p3⟩ : Post SV.v (fun s w' => WS w' W.heap.size 75 2 eS s ∧ s.xs = xs.drop m ∧ Below W.heap.size W w') _ _))
      have hcp := fun W => Calls.sameB (clipInt_any A6 m c6 hle6 hmax6 hA6.1 W)
      have hok6 : WS wr (w.heap.size + 2) 3 1 eI ⟨A6, m, m, takenL xs t⟩ := by have h9 := own1.ws (c' := (takenL xs t).length) encI ⟨Nat.le_refl _, by omega⟩; rw [hmm] at h9; exact h9
      have hq1 : (0 : Int) ≤ (m : Int) := by omega
      have hq2 : (m : Int) ≤ (kk : Int) := by omega
      have hz4 := B4.lt
      clear own1 hsl6 hfr6 hsW hl
      skip
      go_wp2_with fail
      refine region_rel (by kernel_rfl) (fun iz vz wz => relTake w.heap.size (w.heap.size+2) m kk c1 c6 d A1 A6 xs iz vz wz) (fun wz wz' => Below wz.heap.size wz wz') (fun _ wz' => Below wr.heap.size wr wz') 11 _ wr (by kernel_rfl) (by kernel_rfl) (fun iz vz wz wz' h hb => relTake_below w.heap.size (w.heap.size+2) m kk c1 c6 d A1 A6 xs h hb) (fun wz => Below.refl _ _) (fun _ _ _ _ h => h) (show Below wr.heap.size wr wr.drew from (Below.refl _ _).drew) ?_ ?_
      · intro i o him ho a wa cc hcc hJ hfr hdep
        have B2 := B2.below hJ
        have B4 := B4.below hJ
        have cB2_0 := B2.c0; have cB2_1 := B2.c1; have fB2 := B2.frozen; have cB4_0 := B4.c0; have cB4_1 := B4.c1; have fB4 := B4.frozen
        match i, ho, him with
        | 0, ho, _ =>
          injection ho with ho
          subst ho
          have h2 := hfr.2.2 2 (drawFrM_spec (by kernel_rfl))
          clear hdep hfr
          simp only [Array.getD_eq_getD_getElem?] at h2
          refine .inl ⟨rfl, ?_⟩
          unfold Oper.wp
          go_simp
          exact LeavesR.val rfl (Below.refl _ _) hJ
        | 1, ho, _ =>
          injection ho with ho
          subst ho
          have h26 := hdep ⟨0, .data⟩ (by simp) (by kernel_rfl) _ 26 rfl rfl
          clear hdep hfr
          replace h26 : a.tmps.getD 26 undef = .pointer (some ⟨w.heap.size, 0, none⟩) := h26
          simp only [Array.getD_eq_getD_getElem?] at h26
          refine .inl ⟨rfl, ?_⟩
          unfold Oper.wp
          go_simp
          exact LeavesR.val rfl (Below.refl _ _) hJ
        | 2, ho, _ =>
          injection ho with ho
          subst ho
          have h2 := hfr.2.2 2 (drawFrM_spec (by kernel_rfl))
          clear hdep hfr
          simp only [Array.getD_eq_getD_getElem?] at h2
          refine .inl ⟨rfl, ?_⟩
          unfold Oper.wp
          go_simp
          exact LeavesR.val rfl (Below.refl _ _) hJ
        | 3, ho, _ =>
          injection ho with ho
          subst ho
          have h28 := hdep ⟨2, .data⟩ (by simp) (by kernel_rfl) _ 28 rfl rfl
          clear hdep hfr
          replace h28 : a.tmps.getD 28 undef = .pointer (some ⟨w.heap.size, 1, none⟩) := h28
          simp only [Array.getD_eq_getD_getElem?] at h28
          refine .inl ⟨rfl, ?_⟩
          unfold Oper.wp
          go_simp
          exact LeavesR.val rfl (Below.refl _ _) hJ
        | 4, ho, _ =>
          injection ho with ho
          subst ho
          have h6 := hfr.2.2 6 (drawFrM_spec (by kernel_rfl))
          clear hdep hfr
          simp only [Array.getD_eq_getD_getElem?] at h6
          refine .inl ⟨rfl, ?_⟩
          unfold Oper.wp
          go_simp
          exact LeavesR.val rfl (Below.refl _ _) hJ
        | 5, ho, _ =>
          injection ho with ho
          subst ho
          have h30 := hdep ⟨4, .data⟩ (by simp) (by kernel_rfl) _ 30 rfl rfl
          clear hdep hfr
          replace h30 : a.tmps.getD 30 undef = .slice A6 m c6 := h30
          simp only [Array.getD_eq_getD_getElem?] at h30
          refine .inl ⟨rfl, ?_⟩
          unfold Oper.wp
          go_simp
          exact LeavesR.val rfl (Below.refl _ _) hJ
        | 6, ho, _ =>
          injection ho with ho
          subst ho
          have h29 := hdep ⟨3, .data⟩ (by simp) (by kernel_rfl) _ 29 rfl rfl
          have h31 := hdep ⟨5, .data⟩ (by simp) (by kernel_rfl) _ 31 rfl rfl
          clear hdep hfr
          replace h29 : a.tmps.getD 29 undef = .slice A1 kk c1 := h29
          simp only [Array.getD_eq_getD_getElem?] at h29
          replace h31 : a.tmps.getD 31 undef = .int .i64 m := h31
          simp only [Array.getD_eq_getD_getElem?] at h31
          refine .inl ⟨rfl, ?_⟩
          unfold Oper.wp
          go_simp
          exact LeavesR.val rfl (Below.refl _ _) hJ
        | 7, ho, _ =>
          injection ho with ho
          subst ho
          have h32 := hdep ⟨6, .data⟩ (by simp) (by kernel_rfl) _ 32 rfl rfl
          clear hdep hfr
          replace h32 : a.tmps.getD 32 undef = .slice (if c1 = m then A1 else Option.map (fun x => x.add (m * 2)) A1) (kk - m) (c1 - m) := h32
          simp only [Array.getD_eq_getD_getElem?] at h32
          refine .inl ⟨rfl, ?_⟩
          unfold Oper.wp
          go_simp
          refine (hcl _ hJ).mono ?_
          rintro e wb ⟨s9, rfl, hok9, hl9, hb'⟩
          exact LeavesR.val ⟨s9, rfl, hok9.mono (by have := hJ.size; omega), hl9⟩ hb' (thn hJ hb')
        | 8, ho, _ =>
          injection ho with ho
          subst ho
          have h27 := hdep ⟨1, .data⟩ (by simp) (by kernel_rfl) _ 27 rfl rfl
          have h33 := hdep ⟨7, .data⟩ (by simp) (by kernel_rfl) _ 33 rfl rfl
          clear hdep hfr
          replace h27 : a.tmps.getD 27 undef = .int .i64 d := h27
          simp only [Array.getD_eq_getD_getElem?] at h27
          obtain ⟨⟨A33, n33, c33, l33⟩, h33, S33, L33⟩ := h33
          simp only [SV.v] at h33 S33 L33
          replace L33 := Lib.hid L33
          simp only [Array.getD_eq_getD_getElem?] at h33
          refine .inl ⟨rfl, ?_⟩
          unfold Oper.wp
          go_simp
          exact LeavesR.val ⟨⟨A33, n33, c33, l33⟩, rfl, S33, L33.out⟩ (Below.refl _ _) hJ
        | 9, ho, _ =>
          injection ho with ho
          subst ho
          have h6 := hfr.2.2 6 (drawFrM_spec (by kernel_rfl))
          clear hdep hfr
          simp only [Array.getD_eq_getD_getElem?] at h6
          refine .inl ⟨rfl, ?_⟩
          unfold Oper.wp
          go_simp
          exact LeavesR.val rfl (Below.refl _ _) hJ
        | 10, ho, _ =>
          injection ho with ho
          subst ho
          have h35 := hdep ⟨9, .data⟩ (by simp) (by kernel_rfl) _ 35 rfl rfl
          clear hdep hfr
          replace h35 : a.tmps.getD 35 undef = .slice A6 m c6 := h35
          simp only [Array.getD_eq_getD_getElem?] at h35
          refine .inl ⟨rfl, ?_⟩
          unfold Oper.wp
          go_simp
          refine (hcp _).mono ?_
          rintro e wb ⟨rfl, hb'⟩
          exact LeavesR.val rfl hb' (thn hJ hb')
        | n + 11, _, him => exact absurd him (by omega)
      · intro V w9 hV hJ
        have hV0 := hV 0 _ 26 (by decide) rfl rfl
        replace hV0 : V 0 = .pointer (some ⟨w.heap.size, 0, none⟩) := hV0
        have hV1 := hV 1 _ 27 (by decide) rfl rfl
        replace hV1 : V 1 = .int .i64 d := hV1
        have hV2 := hV 2 _ 28 (by decide) rfl rfl
        replace hV2 : V 2 = .pointer (some ⟨w.heap.size, 1, none⟩) := hV2
        have hV3 := hV 3 _ 29 (by decide) rfl rfl
        replace hV3 : V 3 = .slice A1 kk c1 := hV3
        have hV4 := hV 4 _ 30 (by decide) rfl rfl
        replace hV4 : V 4 = .slice A6 m c6 := hV4
        have hV5 := hV 5 _ 31 (by decide) rfl rfl
        replace hV5 : V 5 = .int .i64 m := hV5
        have hV6 := hV 6 _ 32 (by decide) rfl rfl
        replace hV6 : V 6 = .slice (if c1 = m then A1 else Option.map (fun x => x.add (m * 2)) A1) (kk - m) (c1 - m) := hV6
        obtain ⟨⟨AE33, nE33, cE33, lE33⟩, hV7, SE33, LE33⟩ := hV 7 _ 33 (by decide) rfl rfl
        simp only [SV.v] at hV7 SE33 LE33
        obtain ⟨⟨AE34, nE34, cE34, lE34⟩, hV8, SE34, LE34⟩ := hV 8 _ 34 (by decide) rfl rfl
        simp only [SV.v] at hV8 SE34 LE34
        have hV9 := hV 9 _ 35 (by decide) rfl rfl
        replace hV9 : V 9 = .slice A6 m c6 := hV9
        have hV10 := hV 10 _ 36 (by decide) rfl rfl
        replace hV10 : V 10 = .slice A6 m m := hV10
        clear hV
        simp only [puts, List.drop, Act.put, List.getElem?_toArray, List.getElem?_cons_succ, List.getElem?_cons_zero, List.setIfInBounds_toArray, List.set_cons_succ, List.set_cons_zero, hV0, hV1, hV2, hV3, hV4, hV5, hV6, hV7, hV8, hV9, hV10]
        clear hV0 hV1 hV2 hV3 hV4 hV5 hV6 hV7 hV8 hV9 hV10
        replace B2 := B2.below hJ
        replace B4 := B4.below hJ
        have hBl := thn BW.out hJ
        have hok7 := WS.set (WS.set SE34 (g := w.heap.size + 1) (i := 0) (by omega) (.int .i64 d)) (g := w.heap.size + 1) (i := 1) (by omega) (.slice AE34 nE34 cE34)
        have hok8 := WS.set (WS.set (hok6.below hJ) (g := w.heap.size + 1) (i := 0) (by omega) (.int .i64 d)) (g := w.heap.size + 1) (i := 1) (by omega) (.slice AE34 nE34 cE34)
        skip
        have cB2_0 := B2.c0; have cB2_1 := B2.c1; have fB2 := B2.frozen; have cB4_0 := B4.c0; have cB4_1 := B4.c1; have fB4 := B4.frozen
        generalize (if c1 = m then A1 else Option.map (fun x => x.add (m * 2)) A1) = AZ
        go_wp2
        exact bodyPost_ret (v := tkV d (⟨AE34, nE34, cE34, lE34⟩, ⟨A6, m, m, takenL xs t⟩)) (by simp [results, Try.results75, go_sem, tkV, SV.v, cB4_0, cB4_1]) rfl ⟨(⟨AE34, nE34, cE34, lE34⟩, ⟨A6, m, m, takenL xs t⟩), rfl, hok7.mono (by omega), LE34.trans (by rw [hmm]), hok8.mono (by omega), rfl, (hBl.setCell (p := ⟨w.heap.size + 1, 0, none⟩) (by simp only []; omega) _).setCell (p := ⟨w.heap.size + 1, 1, none⟩) (by simp only []; omega) _⟩

/-- What is left behind a LinkTake, and what arrived. -/
def linkTake (d : Int) (xs : List (Int × Int)) (t : Int) : (Int × List (Int × Int)) × List Int :=
  if linkOk d xs && inB t 0 100000 then ((d, xs.drop (takenL xs t).length), takenL xs t) else ((0, []), [])
def ltV (x : Int × SV (Int × Int) × SV Int) : Value := .tuple #[.agg #[.int .i64 x.1, x.2.1.v], x.2.2.v]
set_option maxHeartbeats 1000000 in
theorem linkTake_any (d : Int) (A : Option Addr) (n c : Nat) (xs : List (Int × Int)) (t : Int) (hA : Plain A c) (w : World) (hs : Sl w 2 eS A n c xs) :
    Calls Try.prog 50 #[linkV d A n c, .int .i64 t] w (Post ltV fun x w' => WS w' w.heap.size 75 2 eS x.2.1 ∧ WS w' w.heap.size 3 1 eI x.2.2 ∧ ((x.1, x.2.1.xs), x.2.2.xs) = linkTake d xs t ∧ Below w.heap.size w w') := by
  have hV := fun W hW => linkValid_any d A n c xs W (hs.below hW)
  have hT := fun (hn : n ≤ 1000) W hW => take_any d A n c xs t hn hA W (hs.below hW)
  have hI := fun W => in_any t 0 100000 W
  have hb0 := alo (alo (Below.refl w.heap.size w) (.cells #[.int .i64 d, .slice A n c] 29)) (.cells #[.int .i64 0, .slice none 0 0] 29)
  have B2 := (Blk.new w 29 #[.int .i64 d, .slice A n c]).alloc (.cells #[.int .i64 0, .slice none 0 0] 29)
  have B4 := Blk.new2 w (.cells #[.int .i64 d, .slice A n c] 29) 29 #[.int .i64 0, .slice none 0 0]
  skip
  skip
  have cB2_0 := B2.c0; have cB2_1 := B2.c1; have fB2 := B2.frozen; have cB4_0 := B4.c0; have cB4_1 := B4.c1; have fB4 := B4.frozen
  simp only [linkV] at hV hT ⊢
  cases h1 : linkOk d xs
  · rw [h1] at hV
    cases h2 : inB t 0 100000
    all_goals
      have hz : linkTake d xs t = ((0, []), []) := by simp [linkTake, h1, h2]
      rw [hz]
      clear hz
      go_enter Try.func50, Try.ntmps50
      go_wp2_with fail
      refine (hV _ hb0).mono ?_; rintro e w1 ⟨rfl, hb1⟩
      clear cB2_0 cB2_1 fB2 cB4_0 cB4_1 fB4
      replace B2 := B2.below hb1
      replace B4 := B4.below hb1
      have cB2_0 := B2.c0; have cB2_1 := B2.c1; have fB2 := B2.frozen; have cB4_0 := B4.c0; have cB4_1 := B4.c1; have fB4 := B4.frozen
      go_wp2_with fail
      try (refine (hI _).mono ?_; rintro e w' ⟨rfl, rfl⟩; go_wp2_with fail)
      go_wp2
      exact bodyPost_ret (v := ltV (0, ⟨none, 0, 0, []⟩, ⟨none, 0, 0, []⟩)) (by simp [results, Try.results50, go_sem, ltV, SV.v, cB4_0, cB4_1]) rfl ⟨(0, ⟨none, 0, 0, []⟩, ⟨none, 0, 0, []⟩), rfl, WS.nilS, WS.nilS, rfl, ((thn hb0 hb1).setCell (p := ⟨w.heap.size + 1, 0, none⟩) (by simp only []; omega) _).setCell (p := ⟨w.heap.size + 1, 1, none⟩) (by simp only []; omega) _⟩
  · rw [h1] at hV
    cases h2 : inB t 0 100000
    · rw [h2] at hI
      have hz : linkTake d xs t = ((0, []), []) := by simp [linkTake, h1, h2]
      rw [hz]
      clear hz
      go_enter Try.func50, Try.ntmps50
      go_wp2_with fail
      refine (hV _ hb0).mono ?_; rintro e w1 ⟨rfl, hb1⟩
      clear cB2_0 cB2_1 fB2 cB4_0 cB4_1 fB4
      replace B2 := B2.below hb1
      replace B4 := B4.below hb1
      have cB2_0 := B2.c0; have cB2_1 := B2.c1; have fB2 := B2.frozen; have cB4_0 := B4.c0; have cB4_1 := B4.c1; have fB4 := B4.frozen
      go_wp2_with fail
      try (refine (hI _).mono ?_; rintro e w' ⟨rfl, rfl⟩; go_wp2_with fail)
      go_wp2
      exact bodyPost_ret (v := ltV (0, ⟨none, 0, 0, []⟩, ⟨none, 0, 0, []⟩)) (by simp [results, Try.results50, go_sem, ltV, SV.v, cB4_0, cB4_1]) rfl ⟨(0, ⟨none, 0, 0, []⟩, ⟨none, 0, 0, []⟩), rfl, WS.nilS, WS.nilS, rfl, ((thn hb0 hb1).setCell (p := ⟨w.heap.size + 1, 0, none⟩) (by simp only []; omega) _).setCell (p := ⟨w.heap.size + 1, 1, none⟩) (by simp only []; omega) _⟩
    · rw [h2] at hI
      have hn20 : xs.length ≤ 20 := by
        unfold linkOk at h1
        simp only [Bool.and_eq_true, decide_eq_true_eq] at h1
        omega
      have hlen := hs.len
      replace hT := hT (by omega)
      clear hn20 hlen
      have hz : linkTake d xs t = ((d, xs.drop (takenL xs t).length), takenL xs t) := by simp [linkTake, h1, h2]
      rw [hz]
      clear hz
      go_enter Try.func50, Try.ntmps50
      go_wp2_with fail
      refine (hV _ hb0).mono ?_; rintro e w1 ⟨rfl, hb1⟩
      clear cB2_0 cB2_1 fB2 cB4_0 cB4_1 fB4
      replace B2 := B2.below hb1
      replace B4 := B4.below hb1
      have hb2 := thn hb0 hb1
      have cB2_0 := B2.c0; have cB2_1 := B2.c1; have fB2 := B2.frozen; have cB4_0 := B4.c0; have cB4_1 := B4.c1; have fB4 := B4.frozen
      go_wp2_with fail
      refine (hI _).mono ?_; rintro e w' ⟨rfl, rfl⟩
      go_wp2_with fail
      refine (hT _ hb2).mono ?_
      rintro e w3 ⟨⟨⟨A5, n5, c5, l5⟩, ⟨A6, n6, c6, l6⟩⟩, rfl, hok5, hl5, hok6, hl6, hb3⟩
      simp only [tkV, SV.v] at hok5 hl5 hok6 hl6 ⊢
      subst hl5 hl6
      have hz1 := B4.lt
      clear cB2_0 cB2_1 fB2 cB4_0 cB4_1 fB4
      replace B4 := B4.below hb3
      have hb4 := thn hb2 hb3
      skip
      have cB4_0 := B4.c0; have cB4_1 := B4.c1; have fB4 := B4.frozen
      have hok7 := WS.set (WS.set hok5 (g := w.heap.size + 1) (i := 0) hz1 (.int .i64 d)) (g := w.heap.size + 1) (i := 1) hz1 (.slice A5 n5 c5)
      have hok8 := WS.set (WS.set hok6 (g := w.heap.size + 1) (i := 0) hz1 (.int .i64 d)) (g := w.heap.size + 1) (i := 1) hz1 (.slice A5 n5 c5)
      go_wp2
      exact bodyPost_ret (v := ltV (d, ⟨A5, n5, c5, xs.drop (takenL xs t).length⟩, ⟨A6, n6, c6, takenL xs t⟩)) (by simp [results, Try.results50, go_sem, ltV, SV.v, cB4_0, cB4_1]) rfl ⟨(d, ⟨A5, n5, c5, _⟩, ⟨A6, n6, c6, _⟩), rfl, hok7.mono (by omega), hok8.mono (by omega), rfl, (hb4.setCell (p := ⟨w.heap.size + 1, 0, none⟩) (by simp only []; omega) _).setCell (p := ⟨w.heap.size + 1, 1, none⟩) (by simp only []; omega) _⟩
end Go.Proofs.Ytenbpaoelipifaa
