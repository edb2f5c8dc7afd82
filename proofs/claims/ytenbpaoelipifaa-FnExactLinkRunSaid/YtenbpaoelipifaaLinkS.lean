/- spec.LinkSend. -/
import Derived.Test.YtenbpaoelipifaaLinkV
import Derived.Test.YtenbpaoelipifaaClip
import Derived.Test.YtenbpaoelipifaaOwnX
import Derived.Deep.RegionLaw
namespace Go.Proofs.Ytenbpaoelipifaa
set_option linter.unusedVariables false
set_option linter.unusedSimpArgs false
open Go.RowKit

/-- No more can be sent: full, or a later packet is on its way. -/
def fullL (xs : List (Int × Int)) (m : Int) : Bool := decide (xs.length = 20) || (match xs.getLast? with | none => false | some y => decide (m < y.1))
def lkSend (d : Int) (xs : List (Int × Int)) (t v : Int) : (Int × List (Int × Int)) × Bool :=
  if linkOk d xs && (inB t 0 100000 && inB v 0 255) then (if fullL xs (t + d) then ((d, xs), false) else ((d, xs ++ [(t + d, v)]), true)) else ((0, []), false)
theorem pkts_append : ∀ (xs : List (Int × Int)) (a t v : Int), pktsOk a xs = true → (∀ p ∈ xs, p.1 ≤ t) → a ≤ t → t ≤ 100050 → (0 ≤ v ∧ v ≤ 255) → pktsOk a (xs ++ [(t, v)]) = true
  | [], a, t, v, _, _, h1, h2, h3 => by simp [pktsOk, inB_true]; omega
  | (p, q) :: xs, a, t, v, h, hm, _, h2, h3 => by
    simp only [pktsOk, Bool.and_eq_true, List.cons_append] at h ⊢
    exact ⟨h.1, h.2.1, pkts_append xs p t v h.2.2 (fun z hz => hm z (List.mem_cons_of_mem _ hz)) (hm (p, q) List.mem_cons_self) h2 h3⟩
/-- A valid link whose packets are due at 'at' + d at the latest. -/
def LK (d : Int) (xs : List (Int × Int)) (at' : Int) : Prop := linkOk d xs = true ∧ ∀ p ∈ xs, p.1 ≤ at' + d
theorem LK.send {d : Int} {xs : List (Int × Int)} {a t v : Int} (h : LK d xs a) (ha : a ≤ t) (h0 : 0 ≤ t ∧ t ≤ 1000) (hv : 0 ≤ v ∧ v ≤ 255) (hl : xs.length < 20) :
    lkSend d xs t v = ((d, xs ++ [(t + d, v)]), true) ∧ LK d (xs ++ [(t + d, v)]) t := by
  obtain ⟨h1, h2⟩ := h
  have hd : (0 ≤ d ∧ d ≤ 50) ∧ pktsOk 0 xs = true := by
    unfold linkOk at h1
    simp only [Bool.and_eq_true, inB_true, decide_eq_true_eq] at h1
    exact ⟨h1.2.1, h1.1⟩
  have hf : fullL xs (t + d) = false := by
    unfold fullL
    rw [decide_eq_false (by omega), Bool.false_or]
    cases hg : xs.getLast? with
    | none => rfl
    | some y =>
      have := h2 y (List.mem_of_getLast? hg)
      exact decide_eq_false (by omega)
  refine ⟨?_, ?_, fun p hp => ?_⟩
  · unfold lkSend
    rw [h1, inB_true.2 (show 0 ≤ t ∧ t ≤ 100000 by omega), inB_true.2 hv, hf]
    rfl
  · unfold linkOk
    simp only [Bool.and_eq_true, inB_true, decide_eq_true_eq, List.length_append, List.length_singleton]
    exact ⟨pkts_append xs 0 (t + d) v hd.2 (fun p hp => by have := h2 p hp; omega) (by omega) (by omega) hv, hd.1, by omega⟩
  · rcases List.mem_append.1 hp with h | h
    · have := h2 p h; omega
    · have : p = (t + d, v) := by simpa using h
      rw [this]; exact Int.le_refl _
def lsV (x : (Int × List (Int × Int)) × Value × Bool) : Value := .tuple #[.agg #[.int .i64 x.1.1, x.2.1], .bool x.2.2]

set_option maxHeartbeats 1000000 in
theorem l23Copy_any (d : Int) (A : Option Addr) (n c : Nat) (xs : List (Int × Int)) (hn : n ≤ 1000) (hnil : A = none → c = 0) (w : World) (hs : Sl w 2 eS A n c xs) :
    Calls Try.prog 77 #[linkV d A n c] w (Post (fun v => .agg #[.int .i64 d, v]) fun v w' => Own w' w.heap.size 75 2 eS v xs ∧ Below w.heap.size w w') := by
  have hb0 := alo (alo (alo (Below.refl w.heap.size w) (.cells #[.int .i64 d, .slice A n c] 29)) (.cells #[.int .i64 0, .slice none 0 0] 29)) (.cells #[] 75)
  have B1 := (Blk.new w 29 #[.int .i64 d, .slice A n c]).alloc (.cells #[.int .i64 0, .slice none 0 0] 29)
  have B2 := Blk.new2 w (.cells #[.int .i64 d, .slice A n c] 29) 29 #[.int .i64 0, .slice none 0 0]
  have B1z := B1.alloc (.cells #[] 75)
  have B2z := B2.alloc (.cells #[] 75)
  have own0 : Own (((w.alloc (.cells #[.int .i64 d, .slice A n c] 29)).alloc (.cells #[.int .i64 0, .slice none 0 0] 29)).alloc (.cells #[] 75)) (w.heap.size + 2) 75 2 eS (.slice (some ⟨w.heap.size + 1 + 1, 0, none⟩) 0 0) ([] : List (Int × Int)) := by
    have h := Own.of_blk (base := w.heap.size + 2) (xs := ([] : List (Int × Int))) (enc := eS) (Blk.new ((w.alloc (.cells #[.int .i64 d, .slice A n c] 29)).alloc (.cells #[.int .i64 0, .slice none 0 0] 29)) 75 #[]) (by simp) encS (by simp [maxLen])
    simpa using h
  have src := hs.below hb0
  have hlen : n ≤ 100000000 := by omega
  skip
  skip
  have cB1_0 := B1.c0; have cB1_1 := B1.c1; have fB1 := B1.frozen; have cB2_0 := B2.c0; have cB2_1 := B2.c1; have fB2 := B2.frozen; have cB1z_0 := B1z.c0; have cB1z_1 := B1z.c1; have fB1z := B1z.frozen; have cB2z_0 := B2z.c0; have cB2z_1 := B2z.c1; have fB2z := B2z.frozen
  simp only [linkV]
  go_enter Try.func77, Try.ntmps77
  go_wp2_with fail
  go_region_law (refine app_step rfl _ _ appPkt rfl encS (w.heap.size + 2) _ [] (by simp [Act.eval, Act.put]) (own0.drew) _ _ _ xs (by simp [Act.eval, Act.put]) hnil (src.keep (Nat.le_refl _) (fun _ _ _ => rfl)) (by simp; omega) (by simp) ?_; intro v5 w5 own5 hg5; have B1a := B1z.drew.app own0.drew hg5 (by omega); have B2a := B2z.drew.app own0.drew hg5 (by omega); have hB5 := belowApp hb0.drew own0.drew hg5 (by omega) hb0.size; simp only [List.nil_append] at own5; obtain ⟨A5, c5, rfl, _, _, _⟩ := own5.sl encS; have e1 := B1a.c0; have e2 := B1a.c1; have e3 := B2a.c0; have e4 := B2a.c1; have e5 := B2a.frozen)
  all_goals
    go_wp2
    exact bodyPost_ret (v := .agg #[.int .i64 d, .slice A5 xs.length c5]) (by simp [results, Try.results77, go_sem, e3, e4]) rfl ⟨.slice A5 xs.length c5, rfl, ((own5.far (p := ⟨w.heap.size + 1, 0, none⟩) (by simp) _).far (p := ⟨w.heap.size + 1, 1, none⟩) (by simp) _).low (by omega), (by repeat (first | exact Below.refl _ _ | assumption | apply alo | (apply Below.setCell; rotate_left; (first | assumption | exact Nat.le_refl _ | (simp only []; omega))) | apply Below.drew | apply belowDrewN | (refine thn ?_ (by assumption))))⟩

set_option maxRecDepth 100000 in
set_option maxHeartbeats 2000000 in
theorem specLinkSend_any (d : Int) (A : Option Addr) (n c : Nat) (xs : List (Int × Int)) (t v : Int) (hn : n ≤ 2000000) (hnil : A = none → c = 0) (w : World) (hs : Sl w 2 eS A n c xs) :
    Calls Try.prog 43 #[linkV d A n c, .int .i64 t, .int .i64 v] w (Post lsV fun x w' => Own w' w.heap.size 75 2 eS x.2.1 x.1.2 ∧ (x.1, x.2.2) = lkSend d xs t v ∧ Below w.heap.size w w') := by
  have hle := hs.le
  have hmax := hs.max
  have hV := fun W hW => specLinkValid_any d A n c xs W (hs.below hW)
  have hCp := fun W hW (h20 : n ≤ 1000) => l23Copy_any d A n c xs h20 hnil W (hs.below hW)
  have hT := fun W => l1In_any t 0 100000 W
  have hU := fun W => l1In_any v 0 255 W
  have hb0 := alo (alo (Below.refl w.heap.size w) (.cells #[.int .i64 d, .slice A n c] 29)) (.cells #[.int .i64 0, .slice none 0 0] 29)
  have B3 := (Blk.new w 29 #[.int .i64 d, .slice A n c]).alloc (.cells #[.int .i64 0, .slice none 0 0] 29)
  have B6 := Blk.new2 w (.cells #[.int .i64 d, .slice A n c] 29) 29 #[.int .i64 0, .slice none 0 0]
  skip
  skip
  have cB3_0 := B3.c0; have cB3_1 := B3.c1; have fB3 := B3.frozen; have cB6_0 := B6.c0; have cB6_1 := B6.c1; have fB6 := B6.frozen
  simp only [linkV] at hV hCp ⊢
  cases h1 : linkOk d xs
  · rw [h1] at hV
    cases h2 : inB t 0 100000 <;> cases h3 : inB v 0 255
    all_goals
      have hz : lkSend d xs t v = ((0, []), false) := by simp [lkSend, h1, h2, h3]
      rw [hz]
      clear hz
      go_enter Try.func43, Try.ntmps43
      go_wp2_with fail
      refine (hV _ hb0).mono ?_; rintro e w1 ⟨rfl, hb1⟩
      clear cB3_0 cB3_1 fB3 cB6_0 cB6_1 fB6
      replace B3 := B3.below hb1
      replace B6 := B6.below hb1
      have cB3_0 := B3.c0; have cB3_1 := B3.c1; have fB3 := B3.frozen; have cB6_0 := B6.c0; have cB6_1 := B6.c1; have fB6 := B6.frozen
      go_wp2_with fail
      try (refine (hT _).mono ?_; rintro e w' ⟨rfl, rfl⟩; go_wp2_with fail)
      try (refine (hU _).mono ?_; rintro e w' ⟨rfl, rfl⟩; go_wp2_with fail)
      go_wp2
      exact bodyPost_ret (v := lsV ((0, []), .slice none 0 0, false)) (by simp [results, Try.results43, go_sem, lsV, cB6_0, cB6_1]) rfl ⟨((0, []), .slice none 0 0, false), rfl, Own.nil, rfl, ((thn hb0 hb1).setCell (p := ⟨w.heap.size + 1, 0, none⟩) (by simp only []; omega) _).setCell (p := ⟨w.heap.size + 1, 1, none⟩) (by simp only []; omega) _⟩
  · rw [h1] at hV
    cases h2 : inB t 0 100000
    · rw [h2] at hT
      cases h3 : inB v 0 255
      all_goals
        have hz : lkSend d xs t v = ((0, []), false) := by simp [lkSend, h1, h2, h3]
        rw [hz]
        clear hz
        go_enter Try.func43, Try.ntmps43
        go_wp2_with fail
        refine (hV _ hb0).mono ?_; rintro e w1 ⟨rfl, hb1⟩
        clear cB3_0 cB3_1 fB3 cB6_0 cB6_1 fB6
        replace B3 := B3.below hb1
        replace B6 := B6.below hb1
        have cB3_0 := B3.c0; have cB3_1 := B3.c1; have fB3 := B3.frozen; have cB6_0 := B6.c0; have cB6_1 := B6.c1; have fB6 := B6.frozen
        go_wp2_with fail
        try (refine (hT _).mono ?_; rintro e w' ⟨rfl, rfl⟩; go_wp2_with fail)
        try (refine (hU _).mono ?_; rintro e w' ⟨rfl, rfl⟩; go_wp2_with fail)
        go_wp2
        exact bodyPost_ret (v := lsV ((0, []), .slice none 0 0, false)) (by simp [results, Try.results43, go_sem, lsV, cB6_0, cB6_1]) rfl ⟨((0, []), .slice none 0 0, false), rfl, Own.nil, rfl, ((thn hb0 hb1).setCell (p := ⟨w.heap.size + 1, 0, none⟩) (by simp only []; omega) _).setCell (p := ⟨w.heap.size + 1, 1, none⟩) (by simp only []; omega) _⟩
    · rw [h2] at hT
      cases h3 : inB v 0 255
      · rw [h3] at hU
        have hz : lkSend d xs t v = ((0, []), false) := by simp [lkSend, h1, h2, h3]
        rw [hz]
        clear hz
        go_enter Try.func43, Try.ntmps43
        go_wp2_with fail
        refine (hV _ hb0).mono ?_; rintro e w1 ⟨rfl, hb1⟩
        clear cB3_0 cB3_1 fB3 cB6_0 cB6_1 fB6
        replace B3 := B3.below hb1
        replace B6 := B6.below hb1
        have cB3_0 := B3.c0; have cB3_1 := B3.c1; have fB3 := B3.frozen; have cB6_0 := B6.c0; have cB6_1 := B6.c1; have fB6 := B6.frozen
        go_wp2_with fail
        try (refine (hT _).mono ?_; rintro e w' ⟨rfl, rfl⟩; go_wp2_with fail)
        try (refine (hU _).mono ?_; rintro e w' ⟨rfl, rfl⟩; go_wp2_with fail)
        go_wp2
        exact bodyPost_ret (v := lsV ((0, []), .slice none 0 0, false)) (by simp [results, Try.results43, go_sem, lsV, cB6_0, cB6_1]) rfl ⟨((0, []), .slice none 0 0, false), rfl, Own.nil, rfl, ((thn hb0 hb1).setCell (p := ⟨w.heap.size + 1, 0, none⟩) (by simp only []; omega) _).setCell (p := ⟨w.heap.size + 1, 1, none⟩) (by simp only []; omega) _⟩
      · rw [h3] at hU
        have ht := inB_true.1 h2
        have hdd : (0 ≤ d ∧ d ≤ 50) ∧ (xs.length : Int) ≤ 20 := by
          unfold linkOk at h1
          simp only [Bool.and_eq_true, inB_true, decide_eq_true_eq] at h1
          exact ⟨h1.2.1, h1.2.2⟩
        have hlen := hs.len
        replace hCp := fun W hW => hCp W hW (by omega)
        have HL := Lib.hid hlen
        have hlen1 : xs.length + 1 ≤ 100000000 := by omega
        by_cases hn20 : n = 20
        · have hfull : fullL xs (t + d) = true := by simp [fullL, hlen, hn20]
          have hn20' : ((n : Int) == 20) = true := by rw [beq_iff_eq]; omega
          clear hs hlen hn20
          have hz : lkSend d xs t v = ((d, xs), false) := by rw [lkSend, h1, h2, h3]; simp [hfull]
          rw [hz]
          clear hz hfull h1 h2 h3
          skip
          go_enter Try.func43, Try.ntmps43
          go_wp2_with fail
          refine (hV _ hb0).mono ?_; rintro e w1 ⟨rfl, hb1⟩
          clear cB3_0 cB3_1 fB3 cB6_0 cB6_1 fB6
          replace B3 := B3.below hb1
          replace B6 := B6.below hb1
          have hb2 := thn hb0 hb1
          have hcp := hCp w1 hb2
          have cB3_0 := B3.c0; have cB3_1 := B3.c1; have fB3 := B3.frozen; have cB6_0 := B6.c0; have cB6_1 := B6.c1; have fB6 := B6.frozen
          go_wp2_with fail
          refine (hT _).mono ?_; rintro e w' ⟨rfl, rfl⟩
          go_wp2_with fail
          refine (hU _).mono ?_; rintro e w' ⟨rfl, rfl⟩
          go_wp2_with fail
          refine hcp.mono ?_
          rintro e w2 ⟨vv, rfl, own2, hb3⟩
          have own3 := own2.alloc (.cells #[.int .i64 d, vv] 29)
          obtain ⟨A5, c5, hvv, hA5, hsl5, hfr5⟩ := own3.sl encS
          rw [HL.out] at hvv
          subst hvv
          clear hsl5
          have hz1 := B6.lt
          have hz2 := hb3.size
          clear cB3_0 cB3_1 fB3 cB6_0 cB6_1 fB6
          have B8 := Blk.new w2 29 #[.int .i64 d, .slice A5 (n) c5]
          replace B3 := (B3.below hb3).alloc (.cells #[.int .i64 d, .slice A5 (n) c5] 29)
          replace B6 := (B6.below hb3).alloc (.cells #[.int .i64 d, .slice A5 (n) c5] 29)
          have hb4 := alo (thn hb2 hb3) (.cells #[.int .i64 d, .slice A5 (n) c5] 29)
          have hne3 : w.heap.size ≠ w2.heap.size := by omega
          have hne6 : w.heap.size + 1 ≠ w2.heap.size := by omega
          clear hV hT hU hCp hcp own2
          skip
          have cB3_0 := B3.c0; have cB3_1 := B3.c1; have fB3 := B3.frozen; have cB6_0 := B6.c0; have cB6_1 := B6.c1; have fB6 := B6.frozen; have cB8_0 := B8.c0; have cB8_1 := B8.c1; have fB8 := B8.frozen
          go_wp2_with fail
          go_quiet (fail)
          replace B3 := B3.drewN nq
          replace B6 := B6.drewN nq
          replace B8 := B8.drewN nq
          replace own3 := own3.drewN nq
          replace hb4 := belowDrewN hb4 nq
          clear cB3_0 cB3_1 fB3 cB6_0 cB6_1 fB6 cB8_0 cB8_1 fB8
          generalize (w2.alloc (.cells #[.int .i64 d, .slice A5 (n) c5] 29)).drewN nq = w4 at *
          have hz4 := B8.lt
          have cB3_0 := B3.c0; have cB3_1 := B3.c1; have fB3 := B3.frozen; have cB6_0 := B6.c0; have cB6_1 := B6.c1; have fB6 := B6.frozen; have cB8_0 := B8.c0; have cB8_1 := B8.c1; have fB8 := B8.frozen
          go_wp2
          exact bodyPost_ret (v := lsV ((d, xs), .slice A5 (n) c5, false)) (by simp [results, Try.results43, go_sem, lsV, cB6_0, cB6_1]) rfl ⟨((d, xs), .slice A5 (n) c5, false), rfl, ((own3.far (p := ⟨w.heap.size + 1, 0, none⟩) (by simp; omega) _).far (p := ⟨w.heap.size + 1, 1, none⟩) (by simp; omega) _).low (by omega), rfl, (hb4.setCell (p := ⟨w.heap.size + 1, 0, none⟩) (by simp only []; omega) _).setCell (p := ⟨w.heap.size + 1, 1, none⟩) (by simp only []; omega) _⟩
        · have hn20' : ((n : Int) == 20) = false := by rw [beq_eq_false_iff_ne]; omega
          cases hl : xs.getLast? with
          | none =>
            have hxs : xs = [] := List.getLast?_eq_none_iff.1 hl
            have hfull : fullL xs (t + d) = false := by simp [fullL, hlen, hn20, hl]
            have hn0 : n = 0 := by rw [hxs] at hlen; exact hlen.symm
            have hg1 : decide ((0 : Int) < (n : Int)) = false := decide_eq_false (by omega)
            have hg2 : decide (0 < n) = false := decide_eq_false (by omega)
            clear hlen hn20 hs hl hxs hn0
            have hz : lkSend d xs t v = ((d, xs ++ [(t + d, v)]), true) := by rw [lkSend, h1, h2, h3]; simp [hfull]
            rw [hz]
            clear hz hfull h1 h2 h3
            skip
            go_enter Try.func43, Try.ntmps43
            go_wp2_with fail
            refine (hV _ hb0).mono ?_; rintro e w1 ⟨rfl, hb1⟩
            clear cB3_0 cB3_1 fB3 cB6_0 cB6_1 fB6
            replace B3 := B3.below hb1
            replace B6 := B6.below hb1
            have hb2 := thn hb0 hb1
            have hcp := hCp w1 hb2
            have cB3_0 := B3.c0; have cB3_1 := B3.c1; have fB3 := B3.frozen; have cB6_0 := B6.c0; have cB6_1 := B6.c1; have fB6 := B6.frozen
            go_wp2_with fail
            refine (hT _).mono ?_; rintro e w' ⟨rfl, rfl⟩
            go_wp2_with fail
            refine (hU _).mono ?_; rintro e w' ⟨rfl, rfl⟩
            go_wp2_with fail
            refine hcp.mono ?_
            rintro e w2 ⟨vv, rfl, own2, hb3⟩
            have own3 := own2.alloc (.cells #[.int .i64 d, vv] 29)
            obtain ⟨A5, c5, hvv, hA5, hsl5, hfr5⟩ := own3.sl encS
            rw [HL.out] at hvv
            subst hvv
            clear hsl5
            have hz1 := B6.lt
            have hz2 := hb3.size
            clear cB3_0 cB3_1 fB3 cB6_0 cB6_1 fB6
            have B8 := Blk.new w2 29 #[.int .i64 d, .slice A5 (n) c5]
            replace B3 := (B3.below hb3).alloc (.cells #[.int .i64 d, .slice A5 (n) c5] 29)
            replace B6 := (B6.below hb3).alloc (.cells #[.int .i64 d, .slice A5 (n) c5] 29)
            have hb4 := alo (thn hb2 hb3) (.cells #[.int .i64 d, .slice A5 (n) c5] 29)
            have hne3 : w.heap.size ≠ w2.heap.size := by omega
            have hne6 : w.heap.size + 1 ≠ w2.heap.size := by omega
            clear hV hT hU hCp hcp own2
            skip
            have cB3_0 := B3.c0; have cB3_1 := B3.c1; have fB3 := B3.frozen; have cB6_0 := B6.c0; have cB6_1 := B6.c1; have fB6 := B6.frozen; have cB8_0 := B8.c0; have cB8_1 := B8.c1; have fB8 := B8.frozen
            go_wp2_with fail
            go_quiet (fail)
            replace B3 := B3.drewN nq
            replace B6 := B6.drewN nq
            replace B8 := B8.drewN nq
            replace own3 := own3.drewN nq
            replace hb4 := belowDrewN hb4 nq
            clear cB3_0 cB3_1 fB3 cB6_0 cB6_1 fB6 cB8_0 cB8_1 fB8
            generalize (w2.alloc (.cells #[.int .i64 d, .slice A5 (n) c5] 29)).drewN nq = w4 at *
            have hz4 := B8.lt
            have cB3_0 := B3.c0; have cB3_1 := B3.c1; have fB3 := B3.frozen; have cB6_0 := B6.c0; have cB6_1 := B6.c1; have fB6 := B6.frozen; have cB8_0 := B8.c0; have cB8_1 := B8.c1; have fB8 := B8.frozen
            have own4 := own3.alloc (.cells #[.int .i64 (t + d), .int .i64 v] 75)
            have src := Sl.of_blk (xs := [(t + d, v)]) (Blk.new w4 75 #[.int .i64 (t + d), .int .i64 v]) encS (by simp)
            have hb5 := alo hb4 (.cells #[.int .i64 (t + d), .int .i64 v] 75)
            have B3z := B3.alloc (.cells #[.int .i64 (t + d), .int .i64 v] 75)
            have B6z := B6.alloc (.cells #[.int .i64 (t + d), .int .i64 v] 75)
            have B8z := B8.alloc (.cells #[.int .i64 (t + d), .int .i64 v] 75)
            go_wp2_with (at_builtin; refine app_own rfl _ _ appPkt rfl encS w1.heap.size _ xs rfl own4 _ _ _ [(t + d, v)] rfl (fun e => by cases e) src hlen1 (by simp; omega) ?_; intro v5 w5 own5 hg5; have B3a := B3z.app own4 hg5 (by omega); have B6a := B6z.app own4 hg5 (by omega); have B8a := B8z.appO hg5 (own4.neBlk B8z (by decide)); have hb6 := belowApp hb5 own4 hg5 (by omega) hb5.size; obtain ⟨A6, c6, hvv, _, _, _⟩ := own5.sl encS; rw [List.length_append, HL.out] at hvv; simp only [List.length_singleton] at hvv; subst hvv; have e1 := B6a.c0; have e2 := B6a.c1; have e3 := B6a.frozen; have e4 := B8a.c0; have e5 := B8a.c1; have e6 := B8a.frozen)
            have hne8 := own5.neBlk B8a (by decide)
            exact bodyPost_ret (v := lsV ((d, xs ++ [(t + d, v)]), .slice A6 (n + 1) c6, true)) (by simp [results, Try.results43, go_sem, lsV, e1, e2, e3, e4, e5, e6]) rfl ⟨((d, xs ++ [(t + d, v)]), .slice A6 (n + 1) c6, true), rfl, (((own5.farNe (p := ⟨w2.heap.size, 1, none⟩) hne8 _).far (p := ⟨w.heap.size + 1, 0, none⟩) (by simp; omega) _).far (p := ⟨w.heap.size + 1, 1, none⟩) (by simp; omega) _).low (by omega), rfl, (((hb6.setCell (p := ⟨w2.heap.size, 1, none⟩) (by simp only []; omega) _).setCell (p := ⟨w.heap.size + 1, 0, none⟩) (by simp only []; omega) _).setCell (p := ⟨w.heap.size + 1, 1, none⟩) (by simp only []; omega) _)⟩
          | some y =>
            have hfull0 : fullL xs (t + d) = decide (t + d < y.1) := by simp [fullL, hlen, hn20, hl]
            have hn0 : 0 < n := by
              rcases Nat.eq_zero_or_pos n with h0 | h0
              · rw [h0] at hlen
                rw [List.eq_nil_of_length_eq_zero hlen] at hl
                cases hl
              · exact h0
            obtain ⟨j, rfl⟩ : ∃ j, n = j + 1 := ⟨n - 1, by omega⟩
            obtain ⟨b, o, rfl, y', hy, hc⟩ := hs.nth (kk := j) (by omega) (Below.refl _ _)
            obtain rfl : y = y' := by
              rw [List.getLast?_eq_getElem?, hlen, show j + 1 - 1 = j from rfl, hy] at hl
              injection hl with hl
              exact hl.symm
            have hc0 := hc 0 _ rfl
            obtain ⟨yd, yv⟩ := y
            simp only [eS, Nat.add_zero] at hc0 hfull0
            have hbl := World.block_lt_of_cell? _ _ hc0
            have hj1 : (0 : Int) ≤ (j : Int) := by omega
            have hn21 : ((j : Int) + 1 == 20) = false := by rw [beq_eq_false_iff_ne]; omega
            have hj3 : (0 : Int) < (j : Int) + 1 := by omega
            have hj4 : (j : Int) < (j : Int) + 1 := by omega
            have hj2 : (j : Int) < ((j + 1 : Nat) : Int) := by omega
            clear hlen hn20 hs hl hc hy
            by_cases hgt : t + d < yd
            · have hfull : fullL xs (t + d) = true := by rw [hfull0]; exact decide_eq_true hgt
              clear hfull0
              have hz : lkSend d xs t v = ((d, xs), false) := by rw [lkSend, h1, h2, h3]; simp [hfull]
              rw [hz]
              clear hz hfull h1 h2 h3
              skip
              go_enter Try.func43, Try.ntmps43
              go_wp2_with fail
              refine (hV _ hb0).mono ?_; rintro e w1 ⟨rfl, hb1⟩
              clear cB3_0 cB3_1 fB3 cB6_0 cB6_1 fB6
              replace B3 := B3.below hb1
              replace B6 := B6.below hb1
              have hb2 := thn hb0 hb1
              have hcp := hCp w1 hb2
              have cB3_0 := B3.c0; have cB3_1 := B3.c1; have fB3 := B3.frozen; have cB6_0 := B6.c0; have cB6_1 := B6.c1; have fB6 := B6.frozen
              go_wp2_with fail
              refine (hT _).mono ?_; rintro e w' ⟨rfl, rfl⟩
              go_wp2_with fail
              refine (hU _).mono ?_; rintro e w' ⟨rfl, rfl⟩
              go_wp2_with fail
              refine hcp.mono ?_
              rintro e w2 ⟨vv, rfl, own2, hb3⟩
              have own3 := own2.alloc (.cells #[.int .i64 d, vv] 29)
              obtain ⟨A5, c5, hvv, hA5, hsl5, hfr5⟩ := own3.sl encS
              rw [HL.out] at hvv
              subst hvv
              clear hsl5
              have hz1 := B6.lt
              have hz2 := hb3.size
              clear cB3_0 cB3_1 fB3 cB6_0 cB6_1 fB6
              have B8 := Blk.new w2 29 #[.int .i64 d, .slice A5 (j + 1) c5]
              replace B3 := (B3.below hb3).alloc (.cells #[.int .i64 d, .slice A5 (j + 1) c5] 29)
              replace B6 := (B6.below hb3).alloc (.cells #[.int .i64 d, .slice A5 (j + 1) c5] 29)
              have hb4 := alo (thn hb2 hb3) (.cells #[.int .i64 d, .slice A5 (j + 1) c5] 29)
              have hne3 : w.heap.size ≠ w2.heap.size := by omega
              have hne6 : w.heap.size + 1 ≠ w2.heap.size := by omega
              clear hV hT hU hCp hcp own2
              skip
              have cB3_0 := B3.c0; have cB3_1 := B3.c1; have fB3 := B3.frozen; have cB6_0 := B6.c0; have cB6_1 := B6.c1; have fB6 := B6.frozen; have cB8_0 := B8.c0; have cB8_1 := B8.c1; have fB8 := B8.frozen
              have hq0 := (hb4.cell (p := ⟨b, o + j * 2, none⟩) hbl).trans hc0
              go_wp2_with fail
              go_quiet (fail)
              replace B3 := B3.drewN nq
              replace B6 := B6.drewN nq
              replace B8 := B8.drewN nq
              replace own3 := own3.drewN nq
              replace hb4 := belowDrewN hb4 nq
              clear cB3_0 cB3_1 fB3 cB6_0 cB6_1 fB6 cB8_0 cB8_1 fB8
              generalize (w2.alloc (.cells #[.int .i64 d, .slice A5 (j + 1) c5] 29)).drewN nq = w4 at *
              have hz4 := B8.lt
              have cB3_0 := B3.c0; have cB3_1 := B3.c1; have fB3 := B3.frozen; have cB6_0 := B6.c0; have cB6_1 := B6.c1; have fB6 := B6.frozen; have cB8_0 := B8.c0; have cB8_1 := B8.c1; have fB8 := B8.frozen
              go_wp2
              exact bodyPost_ret (v := lsV ((d, xs), .slice A5 (j + 1) c5, false)) (by simp [results, Try.results43, go_sem, lsV, cB6_0, cB6_1]) rfl ⟨((d, xs), .slice A5 (j + 1) c5, false), rfl, ((own3.far (p := ⟨w.heap.size + 1, 0, none⟩) (by simp; omega) _).far (p := ⟨w.heap.size + 1, 1, none⟩) (by simp; omega) _).low (by omega), rfl, (hb4.setCell (p := ⟨w.heap.size + 1, 0, none⟩) (by simp only []; omega) _).setCell (p := ⟨w.heap.size + 1, 1, none⟩) (by simp only []; omega) _⟩
            · have hfull : fullL xs (t + d) = false := by rw [hfull0]; exact decide_eq_false hgt
              have hgt' : decide (t + d < yd) = false := decide_eq_false hgt
              clear hfull0
              have hz : lkSend d xs t v = ((d, xs ++ [(t + d, v)]), true) := by rw [lkSend, h1, h2, h3]; simp [hfull]
              rw [hz]
              clear hz hfull h1 h2 h3
              skip
              go_enter Try.func43, Try.ntmps43
              go_wp2_with fail
              refine (hV _ hb0).mono ?_; rintro e w1 ⟨rfl, hb1⟩
              clear cB3_0 cB3_1 fB3 cB6_0 cB6_1 fB6
              replace B3 := B3.below hb1
              replace B6 := B6.below hb1
              have hb2 := thn hb0 hb1
              have hcp := hCp w1 hb2
              have cB3_0 := B3.c0; have cB3_1 := B3.c1; have fB3 := B3.frozen; have cB6_0 := B6.c0; have cB6_1 := B6.c1; have fB6 := B6.frozen
              go_wp2_with fail
              refine (hT _).mono ?_; rintro e w' ⟨rfl, rfl⟩
              go_wp2_with fail
              refine (hU _).mono ?_; rintro e w' ⟨rfl, rfl⟩
              go_wp2_with fail
              refine hcp.mono ?_
              rintro e w2 ⟨vv, rfl, own2, hb3⟩
              have own3 := own2.alloc (.cells #[.int .i64 d, vv] 29)
              obtain ⟨A5, c5, hvv, hA5, hsl5, hfr5⟩ := own3.sl encS
              rw [HL.out] at hvv
              subst hvv
              clear hsl5
              have hz1 := B6.lt
              have hz2 := hb3.size
              clear cB3_0 cB3_1 fB3 cB6_0 cB6_1 fB6
              have B8 := Blk.new w2 29 #[.int .i64 d, .slice A5 (j + 1) c5]
              replace B3 := (B3.below hb3).alloc (.cells #[.int .i64 d, .slice A5 (j + 1) c5] 29)
              replace B6 := (B6.below hb3).alloc (.cells #[.int .i64 d, .slice A5 (j + 1) c5] 29)
              have hb4 := alo (thn hb2 hb3) (.cells #[.int .i64 d, .slice A5 (j + 1) c5] 29)
              have hne3 : w.heap.size ≠ w2.heap.size := by omega
              have hne6 : w.heap.size + 1 ≠ w2.heap.size := by omega
              clear hV hT hU hCp hcp own2
              skip
              have cB3_0 := B3.c0; have cB3_1 := B3.c1; have fB3 := B3.frozen; have cB6_0 := B6.c0; have cB6_1 := B6.c1; have fB6 := B6.frozen; have cB8_0 := B8.c0; have cB8_1 := B8.c1; have fB8 := B8.frozen
              have hq0 := (hb4.cell (p := ⟨b, o + j * 2, none⟩) hbl).trans hc0
              go_wp2_with fail
              go_quiet (fail)
              replace B3 := B3.drewN nq
              replace B6 := B6.drewN nq
              replace B8 := B8.drewN nq
              replace own3 := own3.drewN nq
              replace hb4 := belowDrewN hb4 nq
              clear cB3_0 cB3_1 fB3 cB6_0 cB6_1 fB6 cB8_0 cB8_1 fB8
              generalize (w2.alloc (.cells #[.int .i64 d, .slice A5 (j + 1) c5] 29)).drewN nq = w4 at *
              have hz4 := B8.lt
              have cB3_0 := B3.c0; have cB3_1 := B3.c1; have fB3 := B3.frozen; have cB6_0 := B6.c0; have cB6_1 := B6.c1; have fB6 := B6.frozen; have cB8_0 := B8.c0; have cB8_1 := B8.c1; have fB8 := B8.frozen
              clear hq0
              have own4 := own3.alloc (.cells #[.int .i64 (t + d), .int .i64 v] 75)
              have src := Sl.of_blk (xs := [(t + d, v)]) (Blk.new w4 75 #[.int .i64 (t + d), .int .i64 v]) encS (by simp)
              have hb5 := alo hb4 (.cells #[.int .i64 (t + d), .int .i64 v] 75)
              have B3z := B3.alloc (.cells #[.int .i64 (t + d), .int .i64 v] 75)
              have B6z := B6.alloc (.cells #[.int .i64 (t + d), .int .i64 v] 75)
              have B8z := B8.alloc (.cells #[.int .i64 (t + d), .int .i64 v] 75)
              go_wp2_with (at_builtin; refine app_own rfl _ _ appPkt rfl encS w1.heap.size _ xs rfl own4 _ _ _ [(t + d, v)] rfl (fun e => by cases e) src hlen1 (by simp; omega) ?_; intro v5 w5 own5 hg5; have B3a := B3z.app own4 hg5 (by omega); have B6a := B6z.app own4 hg5 (by omega); have B8a := B8z.appO hg5 (own4.neBlk B8z (by decide)); have hb6 := belowApp hb5 own4 hg5 (by omega) hb5.size; obtain ⟨A6, c6, hvv, _, _, _⟩ := own5.sl encS; rw [List.length_append, HL.out] at hvv; simp only [List.length_singleton] at hvv; subst hvv; have e1 := B6a.c0; have e2 := B6a.c1; have e3 := B6a.frozen; have e4 := B8a.c0; have e5 := B8a.c1; have e6 := B8a.frozen)
              have hne8 := own5.neBlk B8a (by decide)
              exact bodyPost_ret (v := lsV ((d, xs ++ [(t + d, v)]), .slice A6 (j + 1 + 1) c6, true)) (by simp [results, Try.results43, go_sem, lsV, e1, e2, e3, e4, e5, e6]) rfl ⟨((d, xs ++ [(t + d, v)]), .slice A6 (j + 1 + 1) c6, true), rfl, (((own5.farNe (p := ⟨w2.heap.size, 1, none⟩) hne8 _).far (p := ⟨w.heap.size + 1, 0, none⟩) (by simp; omega) _).far (p := ⟨w.heap.size + 1, 1, none⟩) (by simp; omega) _).low (by omega), rfl, (((hb6.setCell (p := ⟨w2.heap.size, 1, none⟩) (by simp only []; omega) _).setCell (p := ⟨w.heap.size + 1, 0, none⟩) (by simp only []; omega) _).setCell (p := ⟨w.heap.size + 1, 1, none⟩) (by simp only []; omega) _)⟩
end Go.Proofs.Ytenbpaoelipifaa
