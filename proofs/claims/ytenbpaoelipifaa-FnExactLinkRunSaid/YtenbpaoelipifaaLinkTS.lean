/- spec.LinkTake. -/
import Derived.Test.YtenbpaoelipifaaLinkT
import Derived.Deep.RegionLaw
import Derived.Test.YtenbpaoelipifaaLinkS
namespace Go.Proofs.Ytenbpaoelipifaa
set_option linter.unusedVariables false
set_option linter.unusedSimpArgs false
open Go.RowKit

theorem ownLink_any (d : Int) (A : Option Addr) (n c : Nat) (xs : List (Int × Int)) (hn : n ≤ 2000000) (hnil : A = none → c = 0) (w : World) (hs : Sl w 2 eS A n c xs) :
    Calls Try.prog 81 #[.agg #[.int .i64 d, .slice A n c]] w (Post (fun v => .agg #[.int .i64 d, v]) fun v w' => Own w' w.heap.size 75 2 eS v xs ∧ Below w.heap.size w w') := by
  have hB1 := alo (alo (alo (alo (Below.refl w.heap.size w) (.cells #[.int .i64 d, .slice A n c] 29)) (.cells #[.int .i64 0, .slice none 0 0] 29)) (.cells #[.int .i64 d, .slice A n c] 29)) (.cells #[] 75)
  have B1 := (((Blk.new w 29 #[.int .i64 d, .slice A n c]).alloc (.cells #[.int .i64 0, .slice none 0 0] 29)).alloc (.cells #[.int .i64 d, .slice A n c] 29)).alloc (.cells #[] 75)
  have B2 := ((Blk.new2 w (.cells #[.int .i64 d, .slice A n c] 29) 29 #[.int .i64 0, .slice none 0 0]).alloc (.cells #[.int .i64 d, .slice A n c] 29)).alloc (.cells #[] 75)
  have B3 : Blk ((((w.alloc (.cells #[.int .i64 d, .slice A n c] 29)).alloc (.cells #[.int .i64 0, .slice none 0 0] 29)).alloc (.cells #[.int .i64 d, .slice A n c] 29)).alloc (.cells #[] 75)) (w.heap.size + 1 + 1) 29 #[.int .i64 d, .slice A n c] := by
    have := (Blk.new2 (w.alloc (.cells #[.int .i64 d, .slice A n c] 29)) (.cells #[.int .i64 0, .slice none 0 0] 29) 29 #[.int .i64 d, .slice A n c]).alloc (.cells #[] 75)
    simpa using this
  have own0 : Own ((((w.alloc (.cells #[.int .i64 d, .slice A n c] 29)).alloc (.cells #[.int .i64 0, .slice none 0 0] 29)).alloc (.cells #[.int .i64 d, .slice A n c] 29)).alloc (.cells #[] 75)) (w.heap.size + 3) 75 2 eS (.slice (some ⟨w.heap.size + 1 + 1 + 1, 0, none⟩) 0 0) ([] : List (Int × Int)) := by
    have h := Own.of_blk (base := w.heap.size + 3) (xs := ([] : List (Int × Int))) (enc := eS) (Blk.new (((w.alloc (.cells #[.int .i64 d, .slice A n c] 29)).alloc (.cells #[.int .i64 0, .slice none 0 0] 29)).alloc (.cells #[.int .i64 d, .slice A n c] 29)) 75 #[]) (by simp) encS (by simp [maxLen])
    simpa using h
  have src := hs.below hB1
  skip
  skip
  have cB1_0 := B1.c0; have cB1_1 := B1.c1; have fB1 := B1.frozen; have cB2_0 := B2.c0; have cB2_1 := B2.c1; have fB2 := B2.frozen; have cB3_0 := B3.c0; have cB3_1 := B3.c1; have fB3 := B3.frozen
  go_enter Try.func81, Try.ntmps81
  go_wp2_with (at_builtin; refine app_own rfl _ _ appPkt rfl encS (w.heap.size + 3) _ [] rfl own0 _ _ _ xs rfl hnil src (by simp; omega) (by simp) ?_; intro v5 w5 own5 hg5; have hB5 := belowApp hB1 own0 hg5 (by omega) hB1.size; have B1a := B1.app own0 hg5 (by omega); have B2a := B2.app own0 hg5 (by omega); have B3a := B3.app own0 hg5 (by omega); clear hg5 own0 hB1 src B1 B2 B3; simp only [List.nil_append] at own5; have e1 := B1a.c0; have e2 := B2a.c0; have e3 := B3a.c0; have e4 := B2a.frozen; have e5 := B3a.frozen; have e6 := B2a.c1; have e7 := B3a.c1; obtain ⟨A9, c9, rfl, _, _, _⟩ := own5.sl encS)
  go_wp2
  exact bodyPost_ret (v := .agg #[.int .i64 d, .slice A9 xs.length c9]) (by simp [results, Try.results81, go_sem, e2, e3, e6, e7]) rfl ⟨.slice A9 xs.length c9, rfl, (((own5.far (p := ⟨w.heap.size + 1 + 1, 1, none⟩) (by simp) _).far (p := ⟨w.heap.size + 1, 0, none⟩) (by simp) _).far (p := ⟨w.heap.size + 1, 1, none⟩) (by simp) _).low (by omega), ((hB5.setCell (p := ⟨w.heap.size + 1 + 1, 1, none⟩) (by simp only []; omega) _).setCell (p := ⟨w.heap.size + 1, 0, none⟩) (by simp only []; omega) _).setCell (p := ⟨w.heap.size + 1, 1, none⟩) (by simp only []; omega) _⟩

/-- The packets that are not due. -/
def restL (xs : List (Int × Int)) (t : Int) : List (Int × Int) := xs.filter (fun p => !decide (p.1 ≤ t))
theorem restL_step {xs : List (Int × Int)} {kk : Nat} {y : Int × Int} (t : Int) (hx : xs[kk]? = some y) : restL (xs.take (kk + 1)) t = restL (xs.take kk) t ++ (if y.1 ≤ t then [] else [y]) := by
  unfold restL
  rw [List.take_add_one, hx, List.filter_append]
  by_cases h : y.1 ≤ t <;> simp [h]
theorem late_all : ∀ (xs : List (Int × Int)) (a t : Int), t < a → pktsOk a xs = true → takenL xs t = [] ∧ restL xs t = xs
  | [], a, t, _, _ => ⟨rfl, rfl⟩
  | (d, v) :: l, a, t, ht, h => by
    simp only [pktsOk, Bool.and_eq_true, inB_true] at h
    have h1 := late_all l d t (by omega) h.2.2
    unfold takenL restL at h1 ⊢
    have hd : ¬ d ≤ t := by omega
    simp only [List.filter_cons, hd, decide_false, Bool.false_eq_true, if_false, Bool.not_false, if_true]
    exact ⟨h1.1, by rw [h1.2]⟩
theorem restL_drop : ∀ (xs : List (Int × Int)) (a t : Int), pktsOk a xs = true → restL xs t = xs.drop (takenL xs t).length
  | [], a, t, _ => rfl
  | (d, v) :: l, a, t, h => by
    have h0 := h
    simp only [pktsOk, Bool.and_eq_true, inB_true] at h
    by_cases hd : d ≤ t
    · have ih := restL_drop l d t h.2.2
      unfold takenL restL at ih ⊢
      simp only [List.filter_cons, hd, decide_true, if_true, Bool.not_true, Bool.false_eq_true, if_false, List.map_cons, List.length_cons, List.drop_succ_cons]
      exact ih
    · have h1 := late_all ((d, v) :: l) d t (by omega) (by simp only [pktsOk, Bool.and_eq_true, inB_true]; exact ⟨⟨Int.le_refl _, h.1.2⟩, h.2.1, h.2.2⟩)
      rw [h1.1, h1.2]
      rfl
theorem Own.ne2 {α β : Type} {w : World} {b1 b2 E1 E2 k1 k2 : Nat} {enc1 : α → List Value} {enc2 : β → List Value} {v1 v2 : Value} {xs : List α} {ys : List β} (h1 : Own w b1 E1 k1 enc1 v1 xs) (h2 : Own w b2 E2 k2 enc2 v2 ys) (hE : E1 ≠ E2) : v1.ownBlock = none ∨ v1.ownBlock ≠ v2.ownBlock := by
  rcases h1.2 with ⟨rfl, _⟩ | ⟨g, cap, cur, rfl, hb, hg, _⟩
  · exact .inl rfl
  · refine .inr fun e => ?_
    exact h2.neBlk (g := g) (t := E1) (cs := cur) hg hE e.symm
def lstV (x : ((Int × List (Int × Int)) × List Int) × Value × Value) : Value := .tuple #[.agg #[.int .i64 x.1.1.1, x.2.1], x.2.2]
def relLT (q q7 n1 c1 kk b o : Nat) (d yd yv : Int) (v7 : Value) : Nat → Value → World → Prop
  | 0, v, _ => v = .pointer (some ⟨q7, 1, none⟩)
  | 1, v, _ => v = v7
  | 2, v, _ => v = .pointer (some ⟨q, 1, none⟩)
  | 3, v, _ => v = .slice (some ⟨b, o, none⟩) n1 c1
  | 4, v, _ => v = .int .i64 kk
  | 5, v, _ => v = .pointer (some ⟨b, o + kk * 2, none⟩)
  | 6, v, _ => v = .agg #[.int .i64 yd, .int .i64 yv]
  | 7, v, W => ∃ g, v = .slice (some ⟨g, 0, none⟩) 1 1 ∧ Blk W g 75 #[.int .i64 yd, .int .i64 yv]
  | _, _, _ => True
theorem relLT_below (q q7 n1 c1 kk b o : Nat) (d yd yv : Int) (v7 : Value) {i : Nat} {v : Value} {w w' : World} (h : relLT q q7 n1 c1 kk b o d yd yv v7 i v w) (hb : Below w.heap.size w w') : relLT q q7 n1 c1 kk b o d yd yv v7 i v w' := by
  match i, h with
  | 0, h => exact h
  | 1, h => exact h
  | 2, h => exact h
  | 3, h => exact h
  | 4, h => exact h
  | 5, h => exact h
  | 6, h => exact h
  | 7, ⟨g, e, B⟩ => exact ⟨g, e, B.below hb⟩
  | n + 8, _ => trivial

set_option maxRecDepth 100000 in
set_option maxHeartbeats 2000000 in
theorem specLinkTake_any (d : Int) (A : Option Addr) (n c : Nat) (xs : List (Int × Int)) (t : Int) (hn : n ≤ 2000000) (hnil : A = none → c = 0) (w : World) (hs : Sl w 2 eS A n c xs) :
    Calls Try.prog 49 #[linkV d A n c, .int .i64 t] w (Post lstV fun x w' => Own w' w.heap.size 75 2 eS x.2.1 x.1.1.2 ∧ Own w' w.heap.size 3 1 eI x.2.2 x.1.2 ∧ x.1 = linkTake d xs t ∧ Below w.heap.size w w') := by
  have hle := hs.le
  have hmax := hs.max
  have hO := fun W hW => ownLink_any d A n c xs hn hnil W (hs.below hW)
  have hV := fun A' c' W hW => specLinkValid_any d A' n c' xs W hW
  have hT := fun W => l1In_any t 0 100000 W
  have hb0 := alo (alo (Below.refl w.heap.size w) (.cells #[.int .i64 d, .slice A n c] 29)) (.cells #[.int .i64 0, .slice none 0 0] 29)
  have B2 := (Blk.new w 29 #[.int .i64 d, .slice A n c]).alloc (.cells #[.int .i64 0, .slice none 0 0] 29)
  have B4 := Blk.new2 w (.cells #[.int .i64 d, .slice A n c] 29) 29 #[.int .i64 0, .slice none 0 0]
  have HL := Lib.hid hs.len
  skip
  skip
  have cB2_0 := B2.c0; have cB2_1 := B2.c1; have fB2 := B2.frozen; have cB4_0 := B4.c0; have cB4_1 := B4.c1; have fB4 := B4.frozen
  simp only [linkV] at hV ⊢
  cases h1 : linkOk d xs
  · have hz : linkTake d xs t = ((0, []), []) := by simp [linkTake, h1]
    rw [hz]
    simp only [h1] at hV
    clear hz
    cases h2 : inB t 0 100000
    all_goals
      skip
      go_enter Try.func49, Try.ntmps49
      go_wp2_with fail
      refine (hO _ hb0).mono ?_
      rintro e w1 ⟨v1, rfl, own1, hb1⟩
      obtain ⟨A1, c1, hvv, hA1, hsl1, hfr1⟩ := own1.sl encS
      rw [HL.out] at hvv hsl1
      subst hvv
      clear hsl1
      clear cB2_0 cB2_1 fB2 cB4_0 cB4_1 fB4
      have hz1 := B4.lt
      replace B2 := B2.below hb1
      replace B4 := B4.below hb1
      have hb2 := ((thn hb0 hb1).setCell (p := ⟨w.heap.size, 0, none⟩) (Nat.le_refl _) (.int .i64 d)).setCell (p := ⟨w.heap.size, 1, none⟩) (Nat.le_refl _) (.slice A1 n c1)
      have own2 := (own1.far (p := ⟨w.heap.size, 0, none⟩) (Nat.lt_of_succ_lt hz1) (.int .i64 d)).far (p := ⟨w.heap.size, 1, none⟩) (Nat.lt_of_succ_lt hz1) (.slice A1 n c1)
      have B2a : Blk ((w1.setCell ⟨w.heap.size, 0, none⟩ (.int .i64 d)).setCell ⟨w.heap.size, 1, none⟩ (.slice A1 n c1)) w.heap.size 29 #[.int .i64 d, .slice A1 n c1] := (B2.set_ 0 _).set_ 1 _
      have B4a := (B4.far (p := ⟨w.heap.size, 0, none⟩) (by simp only []; omega) (.int .i64 d)).far (p := ⟨w.heap.size, 1, none⟩) (by simp only []; omega) (.slice A1 n c1)
      have hz5 : w.heap.size + 1 < w1.heap.size := B4.lt
      have hfr5 : ∀ b o, A1 = some ⟨b, o, none⟩ → b < w1.heap.size := fun b o e => (hfr1 b o e).2
      clear own1 hb1 hfr1
      have B2b := B2a.alloc (.cells #[] 3)
      have B4b := B4a.alloc (.cells #[] 3)
      have hsz2 : ((w1.setCell ⟨w.heap.size, 0, none⟩ (.int .i64 d)).setCell ⟨w.heap.size, 1, none⟩ (.slice A1 n c1)).heap.size = w1.heap.size := by simp [World.setCell]
      have c2x := B2b.c0
      have c2y := B2b.c1
      have cB2_0 := B2.c0; have cB2_1 := B2.c1; have fB2 := B2.frozen; have cB4_0 := B4.c0; have cB4_1 := B4.c1; have fB4 := B4.frozen
      go_wp2_with fail
      clear B2 B4 cB2_0 cB2_1 cB4_0 cB4_1 fB2 fB4 c2x c2y
      have own3 := own2.alloc (.cells #[] 3)
      have ownE : Own (((w1.setCell ⟨w.heap.size, 0, none⟩ (.int .i64 d)).setCell ⟨w.heap.size, 1, none⟩ (.slice A1 n c1)).alloc (.cells #[] 3)) w1.heap.size 3 1 eI (.slice (some ⟨w1.heap.size, 0, none⟩) 0 0) ([] : List Int) := by
        have h9 := Own.of_blk (base := w1.heap.size) (xs := ([] : List Int)) (enc := eI) (Blk.new ((w1.setCell ⟨w.heap.size, 0, none⟩ (.int .i64 d)).setCell ⟨w.heap.size, 1, none⟩ (.slice A1 n c1)) 3 #[]) (by rw [hsz2]; exact Nat.le_refl _) encI (by simp [maxLen])
        rw [hsz2] at h9
        exact h9
      have hb3 := alo hb2 (.cells #[] 3)
      clear hb2 B2a B4a own2 hsz2
      generalize ((w1.setCell ⟨w.heap.size, 0, none⟩ (.int .i64 d)).setCell ⟨w.heap.size, 1, none⟩ (.slice A1 n c1)).alloc (.cells #[] 3) = w2 at *
      obtain ⟨A2, c2, hvv, -, hsl2, -⟩ := own3.sl encS
      injection hvv with e1 e2 e3
      subst e1 e3
      rw [HL.out] at hsl2
      skip
      skip
      refine (hV _ _ _ hsl2).mono ?_
      rintro e w3 ⟨rfl, hb4⟩
      replace B2b := B2b.below hb4
      replace B4b := B4b.below hb4
      replace own3 := own3.below hb4
      replace ownE := ownE.below hb4
      have hb5 := thn hb3 hb4
      clear hb3 hb4 hV hO
      have cB2b_0 := B2b.c0; have cB2b_1 := B2b.c1; have fB2b := B2b.frozen; have cB4b_0 := B4b.c0; have cB4b_1 := B4b.c1; have fB4b := B4b.frozen
      go_wp2_with fail
      try (refine (hT _).mono ?_; rintro e w' ⟨rfl, rfl⟩; go_wp2_with fail)
      exact bodyPost_ret (v := lstV (((0, []), []), .slice none 0 0, .slice (some ⟨w1.heap.size, 0, none⟩) 0 0)) (by simp [results, Try.results49, go_sem, lstV, cB4b_0, cB4b_1]) rfl ⟨(((0, []), []), .slice none 0 0, .slice (some ⟨w1.heap.size, 0, none⟩) 0 0), rfl, Own.nil, ((ownE.far (p := ⟨w.heap.size + 1, 0, none⟩) hz5 _).far (p := ⟨w.heap.size + 1, 1, none⟩) hz5 _).low (by omega), rfl, (hb5.setCell (p := ⟨w.heap.size + 1, 0, none⟩) (by simp only []; omega) _).setCell (p := ⟨w.heap.size + 1, 1, none⟩) (by simp only []; omega) _⟩
  · simp only [h1] at hV
    cases h2 : inB t 0 100000
    · have hz : linkTake d xs t = ((0, []), []) := by simp [linkTake, h2]
      rw [hz]
      rw [h2] at hT
      clear hz
      skip
      go_enter Try.func49, Try.ntmps49
      go_wp2_with fail
      refine (hO _ hb0).mono ?_
      rintro e w1 ⟨v1, rfl, own1, hb1⟩
      obtain ⟨A1, c1, hvv, hA1, hsl1, hfr1⟩ := own1.sl encS
      rw [HL.out] at hvv hsl1
      subst hvv
      clear hsl1
      clear cB2_0 cB2_1 fB2 cB4_0 cB4_1 fB4
      have hz1 := B4.lt
      replace B2 := B2.below hb1
      replace B4 := B4.below hb1
      have hb2 := ((thn hb0 hb1).setCell (p := ⟨w.heap.size, 0, none⟩) (Nat.le_refl _) (.int .i64 d)).setCell (p := ⟨w.heap.size, 1, none⟩) (Nat.le_refl _) (.slice A1 n c1)
      have own2 := (own1.far (p := ⟨w.heap.size, 0, none⟩) (Nat.lt_of_succ_lt hz1) (.int .i64 d)).far (p := ⟨w.heap.size, 1, none⟩) (Nat.lt_of_succ_lt hz1) (.slice A1 n c1)
      have B2a : Blk ((w1.setCell ⟨w.heap.size, 0, none⟩ (.int .i64 d)).setCell ⟨w.heap.size, 1, none⟩ (.slice A1 n c1)) w.heap.size 29 #[.int .i64 d, .slice A1 n c1] := (B2.set_ 0 _).set_ 1 _
      have B4a := (B4.far (p := ⟨w.heap.size, 0, none⟩) (by simp only []; omega) (.int .i64 d)).far (p := ⟨w.heap.size, 1, none⟩) (by simp only []; omega) (.slice A1 n c1)
      have hz5 : w.heap.size + 1 < w1.heap.size := B4.lt
      have hfr5 : ∀ b o, A1 = some ⟨b, o, none⟩ → b < w1.heap.size := fun b o e => (hfr1 b o e).2
      clear own1 hb1 hfr1
      have B2b := B2a.alloc (.cells #[] 3)
      have B4b := B4a.alloc (.cells #[] 3)
      have hsz2 : ((w1.setCell ⟨w.heap.size, 0, none⟩ (.int .i64 d)).setCell ⟨w.heap.size, 1, none⟩ (.slice A1 n c1)).heap.size = w1.heap.size := by simp [World.setCell]
      have c2x := B2b.c0
      have c2y := B2b.c1
      have cB2_0 := B2.c0; have cB2_1 := B2.c1; have fB2 := B2.frozen; have cB4_0 := B4.c0; have cB4_1 := B4.c1; have fB4 := B4.frozen
      go_wp2_with fail
      clear B2 B4 cB2_0 cB2_1 cB4_0 cB4_1 fB2 fB4 c2x c2y
      have own3 := own2.alloc (.cells #[] 3)
      have ownE : Own (((w1.setCell ⟨w.heap.size, 0, none⟩ (.int .i64 d)).setCell ⟨w.heap.size, 1, none⟩ (.slice A1 n c1)).alloc (.cells #[] 3)) w1.heap.size 3 1 eI (.slice (some ⟨w1.heap.size, 0, none⟩) 0 0) ([] : List Int) := by
        have h9 := Own.of_blk (base := w1.heap.size) (xs := ([] : List Int)) (enc := eI) (Blk.new ((w1.setCell ⟨w.heap.size, 0, none⟩ (.int .i64 d)).setCell ⟨w.heap.size, 1, none⟩ (.slice A1 n c1)) 3 #[]) (by rw [hsz2]; exact Nat.le_refl _) encI (by simp [maxLen])
        rw [hsz2] at h9
        exact h9
      have hb3 := alo hb2 (.cells #[] 3)
      clear hb2 B2a B4a own2 hsz2
      generalize ((w1.setCell ⟨w.heap.size, 0, none⟩ (.int .i64 d)).setCell ⟨w.heap.size, 1, none⟩ (.slice A1 n c1)).alloc (.cells #[] 3) = w2 at *
      obtain ⟨A2, c2, hvv, -, hsl2, -⟩ := own3.sl encS
      injection hvv with e1 e2 e3
      subst e1 e3
      rw [HL.out] at hsl2
      skip
      skip
      refine (hV _ _ _ hsl2).mono ?_
      rintro e w3 ⟨rfl, hb4⟩
      replace B2b := B2b.below hb4
      replace B4b := B4b.below hb4
      replace own3 := own3.below hb4
      replace ownE := ownE.below hb4
      have hb5 := thn hb3 hb4
      clear hb3 hb4 hV hO
      have cB2b_0 := B2b.c0; have cB2b_1 := B2b.c1; have fB2b := B2b.frozen; have cB4b_0 := B4b.c0; have cB4b_1 := B4b.c1; have fB4b := B4b.frozen
      go_wp2_with fail
      try (refine (hT _).mono ?_; rintro e w' ⟨rfl, rfl⟩; go_wp2_with fail)
      exact bodyPost_ret (v := lstV (((0, []), []), .slice none 0 0, .slice (some ⟨w1.heap.size, 0, none⟩) 0 0)) (by simp [results, Try.results49, go_sem, lstV, cB4b_0, cB4b_1]) rfl ⟨(((0, []), []), .slice none 0 0, .slice (some ⟨w1.heap.size, 0, none⟩) 0 0), rfl, Own.nil, ((ownE.far (p := ⟨w.heap.size + 1, 0, none⟩) hz5 _).far (p := ⟨w.heap.size + 1, 1, none⟩) hz5 _).low (by omega), rfl, (hb5.setCell (p := ⟨w.heap.size + 1, 0, none⟩) (by simp only []; omega) _).setCell (p := ⟨w.heap.size + 1, 1, none⟩) (by simp only []; omega) _⟩
    · rw [h2] at hT
      have hz : linkTake d xs t = ((d, restL xs t), takenL xs t) := by
        have h9 : pktsOk 0 xs = true := by
          unfold linkOk at h1
          simp only [Bool.and_eq_true] at h1
          exact h1.1
        rw [restL_drop xs 0 t h9]
        simp [linkTake, h1, h2]
      rw [hz]
      clear hz
      skip
      go_enter Try.func49, Try.ntmps49
      go_wp2_with fail
      refine (hO _ hb0).mono ?_
      rintro e w1 ⟨v1, rfl, own1, hb1⟩
      obtain ⟨A1, c1, hvv, hA1, hsl1, hfr1⟩ := own1.sl encS
      rw [HL.out] at hvv hsl1
      subst hvv
      clear hsl1
      clear cB2_0 cB2_1 fB2 cB4_0 cB4_1 fB4
      have hz1 := B4.lt
      replace B2 := B2.below hb1
      replace B4 := B4.below hb1
      have hb2 := ((thn hb0 hb1).setCell (p := ⟨w.heap.size, 0, none⟩) (Nat.le_refl _) (.int .i64 d)).setCell (p := ⟨w.heap.size, 1, none⟩) (Nat.le_refl _) (.slice A1 n c1)
      have own2 := (own1.far (p := ⟨w.heap.size, 0, none⟩) (Nat.lt_of_succ_lt hz1) (.int .i64 d)).far (p := ⟨w.heap.size, 1, none⟩) (Nat.lt_of_succ_lt hz1) (.slice A1 n c1)
      have B2a : Blk ((w1.setCell ⟨w.heap.size, 0, none⟩ (.int .i64 d)).setCell ⟨w.heap.size, 1, none⟩ (.slice A1 n c1)) w.heap.size 29 #[.int .i64 d, .slice A1 n c1] := (B2.set_ 0 _).set_ 1 _
      have B4a := (B4.far (p := ⟨w.heap.size, 0, none⟩) (by simp only []; omega) (.int .i64 d)).far (p := ⟨w.heap.size, 1, none⟩) (by simp only []; omega) (.slice A1 n c1)
      have hz5 : w.heap.size + 1 < w1.heap.size := B4.lt
      have hfr5 : ∀ b o, A1 = some ⟨b, o, none⟩ → b < w1.heap.size := fun b o e => (hfr1 b o e).2
      clear own1 hb1 hfr1
      have B2b := B2a.alloc (.cells #[] 3)
      have B4b := B4a.alloc (.cells #[] 3)
      have hsz2 : ((w1.setCell ⟨w.heap.size, 0, none⟩ (.int .i64 d)).setCell ⟨w.heap.size, 1, none⟩ (.slice A1 n c1)).heap.size = w1.heap.size := by simp [World.setCell]
      have c2x := B2b.c0
      have c2y := B2b.c1
      have cB2_0 := B2.c0; have cB2_1 := B2.c1; have fB2 := B2.frozen; have cB4_0 := B4.c0; have cB4_1 := B4.c1; have fB4 := B4.frozen
      go_wp2_with fail
      clear B2 B4 cB2_0 cB2_1 cB4_0 cB4_1 fB2 fB4 c2x c2y
      have own3 := own2.alloc (.cells #[] 3)
      have ownE : Own (((w1.setCell ⟨w.heap.size, 0, none⟩ (.int .i64 d)).setCell ⟨w.heap.size, 1, none⟩ (.slice A1 n c1)).alloc (.cells #[] 3)) w1.heap.size 3 1 eI (.slice (some ⟨w1.heap.size, 0, none⟩) 0 0) ([] : List Int) := by
        have h9 := Own.of_blk (base := w1.heap.size) (xs := ([] : List Int)) (enc := eI) (Blk.new ((w1.setCell ⟨w.heap.size, 0, none⟩ (.int .i64 d)).setCell ⟨w.heap.size, 1, none⟩ (.slice A1 n c1)) 3 #[]) (by rw [hsz2]; exact Nat.le_refl _) encI (by simp [maxLen])
        rw [hsz2] at h9
        exact h9
      have hb3 := alo hb2 (.cells #[] 3)
      clear hb2 B2a B4a own2 hsz2
      generalize ((w1.setCell ⟨w.heap.size, 0, none⟩ (.int .i64 d)).setCell ⟨w.heap.size, 1, none⟩ (.slice A1 n c1)).alloc (.cells #[] 3) = w2 at *
      obtain ⟨A2, c2, hvv, -, hsl2, -⟩ := own3.sl encS
      injection hvv with e1 e2 e3
      subst e1 e3
      rw [HL.out] at hsl2
      skip
      skip
      refine (hV _ _ _ hsl2).mono ?_
      rintro e w3 ⟨rfl, hb4⟩
      replace B2b := B2b.below hb4
      replace B4b := B4b.below hb4
      replace own3 := own3.below hb4
      replace ownE := ownE.below hb4
      have hb5 := thn hb3 hb4
      clear hb3 hb4 hV hO
      have cB2b_0 := B2b.c0; have cB2b_1 := B2b.c1; have fB2b := B2b.frozen; have cB4b_0 := B4b.c0; have cB4b_1 := B4b.c1; have fB4b := B4b.frozen
      go_wp2_with fail
      refine (hT _).mono ?_
      rintro e w' ⟨rfl, rfl⟩
      have hcR : A1 = none → c1 = 0 := hA1.1
      clear hT h1 h2 hs hle hmax hnil
      have hsl3 : Sl w3 2 eS A1 n c1 xs := by
        obtain ⟨A3, c3, hvv, -, hsl3, -⟩ := own3.sl encS
        injection hvv with e1 e2 e3
        subst e1 e3
        rw [HL.out] at hsl3
        exact hsl3
      have B7 := Blk.new w3 29 #[.int .i64 d, .slice none 0 0]
      have B2c := B2b.alloc (.cells #[.int .i64 d, .slice none 0 0] 29)
      have B4c := B4b.alloc (.cells #[.int .i64 d, .slice none 0 0] 29)
      have hsl4 := hsl3.below (alo (Below.refl _ _) (.cells #[.int .i64 d, .slice none 0 0] 29))
      have ownF := ownE.alloc (.cells #[.int .i64 d, .slice none 0 0] 29)
      have hb6 := alo hb5 (.cells #[.int .i64 d, .slice none 0 0] 29)
      have hle2 := hsl4.le
      have hmax2 := hsl4.max
      have hz7 : w1.heap.size ≤ w3.heap.size := by have := ownE.lt w1.heap.size rfl; omega
      skip
      go_wp2_with fail
      go_loopg [6, 8] n (fun gg s6 s8 wr => ∃ (kk : Nat) (v6 v7 : Value), kk ≤ n ∧ n - kk ≤ gg ∧ s6 = v6 ∧ s8 = .int .i64 kk ∧ Aside (Below w.heap.size w wr) ∧ Aside (Blk wr w.heap.size 29 #[.int .i64 d, .slice A1 n c1]) ∧ Aside (Blk wr (w.heap.size + 1) 29 #[.int .i64 0, .slice none 0 0]) ∧ Aside (Blk wr w3.heap.size 29 #[.int .i64 d, v7]) ∧ Aside (Sl wr 2 eS A1 n c1 xs) ∧ Aside (Own wr w1.heap.size 3 1 eI v6 (takenL (xs.take kk) t)) ∧ Aside (Own wr w1.heap.size 75 2 eS v7 (restL (xs.take kk) t)))
      case atStart => exact ⟨0, _, _, Nat.zero_le _, by omega, rfl, rfl, (show Aside _ from hb6), (show Aside _ from B2c), (show Aside _ from B4c), (show Aside _ from B7), (show Aside _ from hsl4), (show Aside _ from ownF), (show Aside _ from Own.nil)⟩
      case round =>
        obtain ⟨kk, v6, v7, hkk, hg, hv6, rfl, BW, BB2, BB4, BB7, SS, OW6, OW7⟩ := hrel
        subst hv6
        clear B2b B4b hb5 B2c B4c B7 hsl4 ownF hb6 hsl3 own3 ownE cB2b_0 cB2b_1 fB2b cB4b_0 cB4b_1 fB4b
        have B2 := BB2.out
        have B4 := BB4.out
        have B7 := BB7.out
        have own6 := OW6.out
        have own7 := OW7.out
        have hsl := SS.out
        have hbw := BW.out
        clear BB2 BB4 BB7 OW6 OW7 SS BW
        skip
        have cB2_0 := B2.c0; have cB2_1 := B2.c1; have fB2 := B2.frozen; have cB4_0 := B4.c0; have cB4_1 := B4.c1; have fB4 := B4.frozen; have cB7_0 := B7.c0; have cB7_1 := B7.c1; have fB7 := B7.frozen
        have hz8 := B7.lt
        by_cases hlt : kk < n
        · have hltz : (kk : Int) < (n : Int) := by omega
          obtain ⟨bb, oo, rfl, y, hx, hc⟩ := hsl.nth hlt (Below.refl _ _)
          have hc0 := hc 0 _ rfl
          have hc1 := hc 1 _ rfl
          have HT := Lib.hid (takenL_step t hx)
          have HR := Lib.hid (restL_step t hx)
          clear hc hx
          obtain ⟨yd, yv⟩ := y
          simp only [eS, Nat.add_zero] at hc0 hc1 HT HR
          by_cases hle3 : yd ≤ t
          · rw [if_pos hle3] at HT HR
            rw [List.append_nil] at HR
            have own6z := own6.alloc (.cells #[.int .i64 yv] 3)
            have hby := alo hbw (.cells #[.int .i64 yv] 3)
            have src := Sl.of_blk (xs := [yv]) (Blk.new wr 3 #[.int .i64 yv]) encI (by simp)
            have hlen := takenL_le (xs.take kk) t
            have hlen2 : (takenL (xs.take kk) t).length + 1 ≤ 100000000 := by rw [List.length_take] at hlen; omega
            clear hlen
            have B2z := B2.alloc (.cells #[.int .i64 yv] 3)
            have B4z := B4.alloc (.cells #[.int .i64 yv] 3)
            have B7z := B7.alloc (.cells #[.int .i64 yv] 3)
            have own7z := own7.alloc (.cells #[.int .i64 yv] 3)
            have hslz := hsl.below (alo (Below.refl _ _) (.cells #[.int .i64 yv] 3))
            go_wp2_with (at_builtin; refine app_own rfl _ _ appInt rfl encI w1.heap.size _ _ rfl own6z _ 1 1 [yv] rfl (fun e => by cases e) src hlen2 (by simp; omega) ?_; intro v5 w5 own5 hg5; have B2a := B2z.app own6z hg5 (by omega); have B4a := B4z.app own6z hg5 (by omega); have B7a := B7z.appO hg5 (own6z.neBlk B7z (by decide)); have hsla := hslz.app own6z hg5 hfr5; have own7a := own7z.kept hg5 (Own.ne2 own7z own6z (by decide)); have hb5 := belowApp hby own6z hg5 (by omega) hby.size)
            rw [← HT.out] at own5
            rw [← HR.out] at own7a
            go_roundg (n - (kk + 1))
            case measure => omega
            case rel => exact ⟨kk + 1, _, _, by omega, by omega, rfl, by go_num, (show Aside _ from hb5), (show Aside _ from B2a), (show Aside _ from B4a), (show Aside _ from B7a), (show Aside _ from hsla), (show Aside _ from own5), (show Aside _ from own7a)⟩
          · rw [if_neg hle3] at HT HR
            rw [List.append_nil] at HT
            have q0 : ∀ W, Below wr.heap.size wr W → W.cell? ⟨bb, oo + kk * 2, none⟩ = some (.int .i64 yd) := fun W h => (h.cell (p := ⟨bb, oo + kk * 2, none⟩) (World.block_lt_of_cell? _ _ hc0)).trans hc0
            have q1 : ∀ W, Below wr.heap.size wr W → W.cell? ⟨bb, oo + kk * 2 + 1, none⟩ = some (.int .i64 yv) := fun W h => (h.cell (p := ⟨bb, oo + kk * 2 + 1, none⟩) (World.block_lt_of_cell? _ _ hc1)).trans hc1
            go_wp2_with fail
            clear cB2_0 cB2_1 fB2 cB4_0 cB4_1 fB4 cB7_0 cB7_1 fB7
            refine region_rel (by kernel_rfl) (fun iz vz wz => relLT w.heap.size w3.heap.size n c1 kk bb oo d yd yv v7 iz vz wz) (fun wz wz' => Below wz.heap.size wz wz') (fun _ wz' => Below wr.heap.size wr wz') 8 _ wr (by kernel_rfl) (by kernel_rfl) (fun iz vz wz wz' h hb => relLT_below w.heap.size w3.heap.size n c1 kk bb oo d yd yv v7 h hb) (fun wz => Below.refl _ _) (fun _ _ _ _ h => h) (show Below wr.heap.size wr wr.drew from (Below.refl _ _).drew) ?_ ?_
            · intro i o him ho a wa cc hcc hJ hfr hdep
              have B2 := B2.below hJ
              have B4 := B4.below hJ
              have B7 := B7.below hJ
              have c_q0 := q0 wa hJ
              have c_q1 := q1 wa hJ
              have cB2_0 := B2.c0; have cB2_1 := B2.c1; have fB2 := B2.frozen; have cB4_0 := B4.c0; have cB4_1 := B4.c1; have fB4 := B4.frozen; have cB7_0 := B7.c0; have cB7_1 := B7.c1; have fB7 := B7.frozen
              match i, ho, him with
              | 0, ho, _ =>
                injection ho with ho
                subst ho
                have h7 := hfr.2.2 7 (drawFrM_spec (by kernel_rfl))
                clear hdep hfr
                simp only [Array.getD_eq_getD_getElem?] at h7
                refine .inl ⟨rfl, ?_⟩
                unfold Oper.wp
                go_simp
                exact LeavesR.val rfl (Below.refl _ _) hJ
              | 1, ho, _ =>
                injection ho with ho
                subst ho
                have h49 := hdep ⟨0, .data⟩ (by simp) (by kernel_rfl) _ 49 rfl rfl
                clear hdep hfr
                replace h49 : a.tmps.getD 49 undef = .pointer (some ⟨w3.heap.size, 1, none⟩) := h49
                simp only [Array.getD_eq_getD_getElem?] at h49
                refine .inl ⟨rfl, ?_⟩
                unfold Oper.wp
                go_simp
                exact LeavesR.val rfl (Below.refl _ _) hJ
              | 2, ho, _ =>
                injection ho with ho
                subst ho
                have h2 := hfr.2.2 2 (drawFrM_spec (by kernel_rfl))
                clear hdep hfr
                simp only [Array.getD_eq_getD_getElem?] at h2
                refine .inl ⟨rfl, ?_⟩
                unfold Oper.wp
                go_simp
                exact LeavesR.val rfl (Below.refl _ _) hJ
              | 3, ho, _ =>
                injection ho with ho
                subst ho
                have h51 := hdep ⟨2, .data⟩ (by simp) (by kernel_rfl) _ 51 rfl rfl
                clear hdep hfr
                replace h51 : a.tmps.getD 51 undef = .pointer (some ⟨w.heap.size, 1, none⟩) := h51
                simp only [Array.getD_eq_getD_getElem?] at h51
                refine .inl ⟨rfl, ?_⟩
                unfold Oper.wp
                go_simp
                exact LeavesR.val rfl (Below.refl _ _) hJ
              | 4, ho, _ =>
                injection ho with ho
                subst ho
                have h8 := hfr.2.2 8 (drawFrM_spec (by kernel_rfl))
                clear hdep hfr
                simp only [Array.getD_eq_getD_getElem?] at h8
                refine .inl ⟨rfl, ?_⟩
                unfold Oper.wp
                go_simp
                exact LeavesR.val rfl (Below.refl _ _) hJ
              | 5, ho, _ =>
                injection ho with ho
                subst ho
                have h52 := hdep ⟨3, .data⟩ (by simp) (by kernel_rfl) _ 52 rfl rfl
                have h53 := hdep ⟨4, .data⟩ (by simp) (by kernel_rfl) _ 53 rfl rfl
                clear hdep hfr
                replace h52 : a.tmps.getD 52 undef = .slice (some ⟨bb, oo, none⟩) n c1 := h52
                simp only [Array.getD_eq_getD_getElem?] at h52
                replace h53 : a.tmps.getD 53 undef = .int .i64 kk := h53
                simp only [Array.getD_eq_getD_getElem?] at h53
                refine .inl ⟨rfl, ?_⟩
                unfold Oper.wp
                go_simp
                exact LeavesR.val rfl (Below.refl _ _) hJ
              | 6, ho, _ =>
                injection ho with ho
                subst ho
                have h54 := hdep ⟨5, .data⟩ (by simp) (by kernel_rfl) _ 54 rfl rfl
                clear hdep hfr
                replace h54 : a.tmps.getD 54 undef = .pointer (some ⟨bb, oo + kk * 2, none⟩) := h54
                simp only [Array.getD_eq_getD_getElem?] at h54
                refine .inl ⟨rfl, ?_⟩
                unfold Oper.wp
                go_simp
                exact LeavesR.val rfl (Below.refl _ _) hJ
              | 7, ho, _ =>
                injection ho with ho
                subst ho
                have h55 := hdep ⟨6, .data⟩ (by simp) (by kernel_rfl) _ 55 rfl rfl
                clear hdep hfr
                replace h55 : a.tmps.getD 55 undef = .agg #[.int .i64 yd, .int .i64 yv] := h55
                simp only [Array.getD_eq_getD_getElem?] at h55
                refine .inl ⟨rfl, ?_⟩
                unfold Oper.wp
                go_simp
                exact LeavesR.val ⟨_, rfl, Blk.new wa _ _⟩ (alo (Below.refl _ _) _) (alo hJ _)
              | n + 8, _, him => exact absurd him (by omega)
            · intro V w9 hV hJ
              have hV0 := hV 0 _ 49 (by decide) rfl rfl
              replace hV0 : V 0 = .pointer (some ⟨w3.heap.size, 1, none⟩) := hV0
              have hV1 := hV 1 _ 50 (by decide) rfl rfl
              replace hV1 : V 1 = v7 := hV1
              have hV2 := hV 2 _ 51 (by decide) rfl rfl
              replace hV2 : V 2 = .pointer (some ⟨w.heap.size, 1, none⟩) := hV2
              have hV3 := hV 3 _ 52 (by decide) rfl rfl
              replace hV3 : V 3 = .slice (some ⟨bb, oo, none⟩) n c1 := hV3
              have hV4 := hV 4 _ 53 (by decide) rfl rfl
              replace hV4 : V 4 = .int .i64 kk := hV4
              have hV5 := hV 5 _ 54 (by decide) rfl rfl
              replace hV5 : V 5 = .pointer (some ⟨bb, oo + kk * 2, none⟩) := hV5
              have hV6 := hV 6 _ 55 (by decide) rfl rfl
              replace hV6 : V 6 = .agg #[.int .i64 yd, .int .i64 yv] := hV6
              obtain ⟨gE56, hV7, NE56⟩ := hV 7 _ 56 (by decide) rfl rfl
              clear hV
              simp only [puts, List.drop, Act.put, List.getElem?_toArray, List.getElem?_cons_succ, List.getElem?_cons_zero, List.setIfInBounds_toArray, List.set_cons_succ, List.set_cons_zero, hV0, hV1, hV2, hV3, hV4, hV5, hV6, hV7]
              clear hV0 hV1 hV2 hV3 hV4 hV5 hV6 hV7
              replace B2 := B2.below hJ
              replace B4 := B4.below hJ
              replace B7 := B7.below hJ
              have c_q0 := q0 w9 hJ
              have c_q1 := q1 w9 hJ
              have hby := thn hbw hJ
              replace hsl := hsl.below hJ
              replace own6 := own6.below hJ
              replace own7 := own7.below hJ
              have src := Sl.of_blk (xs := [(yd, yv)]) NE56 encS (by simp)
              have hlen : (restL (xs.take kk) t).length ≤ (xs.take kk).length := List.length_filter_le _ _
              have hlen2 : (restL (xs.take kk) t).length + 1 ≤ 100000000 := by rw [List.length_take] at hlen; omega
              clear hlen
              at_builtin
              (refine app_own rfl _ _ appPkt rfl encS w1.heap.size _ _ rfl own7 _ 1 1 [(yd, yv)] rfl (fun e => by cases e) src hlen2 (by have := hJ.size; omega) ?_; intro v5 w5 own5 hg5; have B2a := B2.app own7 hg5 (by omega); have B4a := B4.app own7 hg5 (by omega); have B7a := B7.appO hg5 (own7.neBlk B7 (by decide)); have hsla := hsl.app own7 hg5 hfr5; have own6a := own6.kept hg5 (Own.ne2 own6 own7 (by decide)); have hb5 := belowApp hby own7 hg5 (by omega) hby.size; have e1 := B7a.c1; have e2 := B7a.frozen; obtain ⟨A8, c8, rfl, -, -, -⟩ := own5.sl encS; simp only [List.length_append, List.length_singleton] at own5)
              go_wp2
              rw [← HT.out] at own6a
              go_roundg (n - (kk + 1))
              case measure => omega
              case rel => exact ⟨kk + 1, _, _, by omega, by omega, rfl, by go_num, (show Aside _ from hb5.setCell (p := ⟨w3.heap.size, 1, none⟩) (by simp only []; omega) _), (show Aside _ from B2a.far (p := ⟨w3.heap.size, 1, none⟩) (by simp only []; omega) _), (show Aside _ from B4a.far (p := ⟨w3.heap.size, 1, none⟩) (by simp only []; omega) _), (show Aside _ from B7a.set_ 1 _), (show Aside _ from hsla.keep (by simp [World.setCell]) (fun b o e => Below.heap_setCell _ _ _ _ (by have := hfr5 b o e; simp only []; omega))), (show Aside _ from own6a.farNe (p := ⟨w3.heap.size, 1, none⟩) (own6a.neBlk B7a (by decide)) _), (by rw [HR.out]; exact (show Aside _ from own5.farNe (p := ⟨w3.heap.size, 1, none⟩) (own5.neBlk B7a (by decide)) _))⟩
        · have hltz : ¬ (kk : Int) < (n : Int) := by omega
          obtain rfl : kk = n := by omega
          have hl := Lib.hid HL.out
          rw [List.take_of_length_le (Nat.le_of_eq hl.out)] at own6 own7
          obtain ⟨A6, c6, rfl, -, -, -⟩ := own6.sl encI
          obtain ⟨A7, c7, rfl, -, -, -⟩ := own7.sl encS
          go_wp2
          exact bodyPost_ret (v := lstV (((d, restL xs t), takenL xs t), .slice A7 (restL xs t).length c7, .slice A6 (takenL xs t).length c6)) (by simp [results, Try.results49, go_sem, lstV, cB4_0, cB4_1]) rfl ⟨(((d, restL xs t), takenL xs t), .slice A7 (restL xs t).length c7, .slice A6 (takenL xs t).length c6), rfl, (((own7.far (p := ⟨w.heap.size + 1, 0, none⟩) hz5 _).far (p := ⟨w.heap.size + 1, 1, none⟩) hz5 _).low (by omega)), (((own6.far (p := ⟨w.heap.size + 1, 0, none⟩) hz5 _).far (p := ⟨w.heap.size + 1, 1, none⟩) hz5 _).low (by omega)), rfl, (hbw.setCell (p := ⟨w.heap.size + 1, 0, none⟩) (by simp only []; omega) _).setCell (p := ⟨w.heap.size + 1, 1, none⟩) (by simp only []; omega) _⟩
end Go.Proofs.Ytenbpaoelipifaa
