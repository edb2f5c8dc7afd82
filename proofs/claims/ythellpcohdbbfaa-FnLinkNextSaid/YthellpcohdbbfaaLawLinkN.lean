/- The walk of FnLinkNext. -/
import Derived.Test.YthellpcohdbbfaaDLink
import Derived.Test.YthellpcohdbbfaaLinkT
import Derived.Test.YthellpcohdbbfaaExLink
import Derived.Test.YthellpcohdbbfaaAlive
namespace Go.Proofs.Ythellpcohdbbfaa
set_option linter.unusedVariables false
set_option linter.unusedSimpArgs false
open Go.RowKit

theorem pkts_ge : ∀ (xs : List (Int × Int)) (a : Int), pktsOk a xs = true → ∀ p ∈ xs, a ≤ p.1
  | [], a, _, p, hp => by cases hp
  | (d, v) :: l, a, h, p, hp => by
    simp only [pktsOk, Bool.and_eq_true, inB_true] at h
    rcases List.mem_cons.1 hp with rfl | hp
    · exact h.1.1
    · have := pkts_ge l d h.2.2 p hp
      omega
theorem early_nil {d : Int} {y : Int × Int} {l : List (Int × Int)} (h : linkOk d (y :: l) = true) : (linkTake d (y :: l) (y.1 - 1)).2 = [] := by
  unfold linkTake
  split
  · simp only [takenL, List.map_eq_nil_iff, List.filter_eq_nil_iff, decide_eq_true_eq]
    intro p hp
    unfold linkOk at h
    simp only [Bool.and_eq_true, pktsOk] at h
    rcases List.mem_cons.1 hp with rfl | hp
    · omega
    · have := pkts_ge l y.1 h.1.2.2 p hp
      omega
  · rfl
theorem now_head {d : Int} {y : Int × Int} {l : List (Int × Int)} (h : linkOk d (y :: l) = true) (hq : y.1 ≤ 100000) : ∃ r, (linkTake d (y :: l) y.1).2 = y.2 :: r := by
  have h0 := h
  unfold linkOk at h0
  simp only [Bool.and_eq_true, pktsOk, inB_true] at h0
  unfold linkTake
  rw [h, inB_true.2 ⟨h0.1.1.1, hq⟩]
  simp only [Bool.and_self, if_true, takenL]
  refine ⟨(l.filter (fun p => decide (p.1 ≤ y.1))).map (·.2), ?_⟩
  simp
set_option maxHeartbeats 2000000 in
theorem lawLinkNext (A : Option Addr) (n c : Nat) (zs : List Int) (w : World) (h : Code w A n c zs) :
    Calls Try.prog 14 #[.slice A n c] w fun e w' => .returned (.bool true) = e ∧ Below w.heap.size w w' := by
  have hle := h.le
  have hmax := h.max
  by_cases hn : n ≤ 1048576
  · have hdraw := drawLinkNext_any A n c zs w h
    clear h
    go_enter Try.func14, Try.ntmps14
    go_wp2_with fail
    refine hdraw.mono ?_
    rintro e w1 ⟨⟨d, ⟨A1, n1, c1, xs⟩⟩, rfl, hok, hn1, hb⟩
    clear hdraw
    have hpl := hok.plain
    have hsl := hok.sl
    simp only [lkV, linkV] at hsl hpl hn1 ⊢
    clear hok
    have hle1 := hsl.le
    have hmax1 := hsl.max
    have hI := fun W (hW : Below w1.heap.size w1 W) => linkNext_any d A1 n1 c1 xs W (hsl.below hW)
    have hS := fun W (hW : Below w1.heap.size w1 W) => specLinkNext_any d A1 n1 c1 xs W (hsl.below hW)
    have hT := fun W (hW : Below w1.heap.size w1 W) t => linkTake_any d A1 n1 c1 xs t (by omega) hpl W (hsl.below hW)
    simp only [linkV] at hI hS hT
    have hB := alo hb (.cells #[.int .i64 d, .slice A1 n1 c1] 55)
    have B1 := Blk.new w1 55 #[.int .i64 d, .slice A1 n1 c1]
    skip
    skip
    have cB1_0 := B1.c0; have cB1_1 := B1.c1; have fB1 := B1.frozen
    have hcase : linkNext d xs = -1 ∨ ∃ y l, xs = y :: l ∧ linkOk d (y :: l) = true ∧ linkNext d xs = y.1 ∧ 0 ≤ y.1 ∧ y.1 ≤ 100050 := by
      unfold linkNext
      cases hl : linkOk d xs
      · exact .inl rfl
      · cases xs with
        | nil => exact .inl rfl
        | cons y l =>
          refine .inr ⟨y, l, rfl, hl, rfl, ?_⟩
          unfold linkOk at hl
          simp only [Bool.and_eq_true, pktsOk, inB_true] at hl
          exact ⟨hl.1.1.1, hl.1.1.2⟩
    rcases hcase with e1 | ⟨⟨q, yv⟩, l, hxs, hlo, e1, hq0, hq1⟩
    · rw [e1] at hI hS
      clear e1 hT
      go_wp2_with fail
      refine (hI _ (alo (Below.refl _ _) _)).mono ?_; rintro e w2 ⟨rfl, hb2⟩
      replace B1 := B1.below hb2
      have hB2 := thn hB hb2
      have hb12 := thn (alo (Below.refl w1.heap.size w1) (.cells #[.int .i64 d, .slice A1 n1 c1] 55)) hb2
      clear cB1_0 cB1_1 fB1
      have cB1_0 := B1.c0; have cB1_1 := B1.c1; have fB1 := B1.frozen
      go_wp2_with fail
      refine (hS _ hb12).mono ?_; rintro e w3 ⟨rfl, hb3⟩
      replace B1 := B1.below hb3
      have hB3 := thn hB2 hb3
      have hb13 := thn hb12 hb3
      clear cB1_0 cB1_1 fB1
      have cB1_0 := B1.c0; have cB1_1 := B1.c1; have fB1 := B1.frozen
      go_wp2_with fail
      refine (alive_any _).mono ?_; rintro e w4 ⟨rfl, hb4⟩
      go_wp2
      go_ret
      exact ⟨rfl, thn hB3 hb4⟩
    · rw [e1] at hI hS
      simp only [] at hI hS hq0 hq1
      have HE := Lib.hid (early_nil hlo)
      have HN := Lib.hid (fun hq => now_head hlo hq)
      rw [← hxs] at HE HN
      have hx0 : xs[0]? = some (q, yv) := by rw [hxs]; rfl
      have hlen := hsl.len
      have hn0 : 0 < n1 := by rw [← hlen, hxs]; simp
      simp only [] at HE HN
      clear e1 hxs hlo hlen
      have hqn : ¬ q < 0 := by omega
      go_wp2_with fail
      refine (hI _ (alo (Below.refl _ _) _)).mono ?_; rintro e w2 ⟨rfl, hb2⟩
      replace B1 := B1.below hb2
      have hB2 := thn hB hb2
      have hb12 := thn (alo (Below.refl w1.heap.size w1) (.cells #[.int .i64 d, .slice A1 n1 c1] 55)) hb2
      clear cB1_0 cB1_1 fB1
      have cB1_0 := B1.c0; have cB1_1 := B1.c1; have fB1 := B1.frozen
      go_wp2_with fail
      refine (hS _ hb12).mono ?_; rintro e w3 ⟨rfl, hb3⟩
      replace B1 := B1.below hb3
      have hB3 := thn hB2 hb3
      have hb13 := thn hb12 hb3
      clear cB1_0 cB1_1 fB1
      have cB1_0 := B1.c0; have cB1_1 := B1.c1; have fB1 := B1.frozen
      go_wp2_with fail
      refine (hT _ hb13 _).mono ?_
      rintro e w4 ⟨⟨d4, ⟨A4, n4, c4, l4⟩, ⟨A5, n5, c5, l5⟩⟩, rfl, hok4, hok5, he4, hb4⟩
      simp only [ltV, SV.v] at hok5 he4 ⊢
      have hl5 : l5 = [] := by rw [← HE.out, ← he4]
      obtain rfl : n5 = 0 := by have := hok5.sl.len; rw [hl5] at this; exact this.symm
      clear hok4 hok5 he4 HE hl5
      have hB4 := alo (thn hB3 hb4) (.cells #[.int .i64 d4, .slice A4 n4 c4] 55)
      have hb14 := alo (thn hb13 hb4) (.cells #[.int .i64 d4, .slice A4 n4 c4] 55)
      clear cB1_0 cB1_1 fB1
      replace B1 := (B1.below hb4).alloc (.cells #[.int .i64 d4, .slice A4 n4 c4] 55)
      have cB1_0 := B1.c0; have cB1_1 := B1.c1; have fB1 := B1.frozen
      go_wp2_with fail
      refine (hT _ hb14 _).mono ?_
      rintro e w5 ⟨⟨d6, ⟨A6, n6, c6, l6⟩, ⟨A7, n7, c7, l7⟩⟩, rfl, hok6, hok7, he6, hb5⟩
      simp only [ltV, SV.v] at hok7 he6 ⊢
      have hs7 := (hok7.sl).below (alo (Below.refl _ _) (.cells #[.int .i64 d6, .slice A6 n6 c6] 55))
      have hB5 := alo (thn hB4 hb5) (.cells #[.int .i64 d6, .slice A6 n6 c6] 55)
      have hb15 := alo (thn hb14 hb5) (.cells #[.int .i64 d6, .slice A6 n6 c6] 55)
      clear cB1_0 cB1_1 fB1
      replace B1 := (B1.below hb5).alloc (.cells #[.int .i64 d6, .slice A6 n6 c6] 55)
      have cB1_0 := B1.c0; have cB1_1 := B1.c1; have fB1 := B1.frozen
      clear hok6 hok7 hT hI hS hb4 hb5
      have hz : ((0 : Int) == 0) = true := rfl
      by_cases hq : q ≤ 100000
      · obtain ⟨r, hr⟩ := HN.out hq
        have hl7 : l7 = yv :: r := by rw [← hr, ← he6]
        have hq' : decide ((100000 : Int) < q) = false := decide_eq_false (by omega)
        have hn7 : 0 < n7 := by have := hs7.len; rw [hl7] at this; simp at this; omega
        have hn7' : (0 : Int) < (n7 : Int) := by omega
        have hn1' : (0 : Int) < (n1 : Int) := by omega
        obtain ⟨b7, o7, rfl, y7, hy7, hc7⟩ := hs7.nth hn7 (Below.refl _ _)
        have : y7 = yv := by rw [hl7] at hy7; simpa using hy7.symm
        subst this
        have q7 := hc7 0 _ rfl
        obtain ⟨b1, o1, rfl, y1, hy1, hc1⟩ := hsl.nth hn0 hb15
        have : y1 = (q, y7) := by rw [hx0] at hy1; injection hy1 with e; exact e.symm
        subst this
        have q1 := hc1 1 _ rfl
        simp only [eI, Nat.add_zero, Nat.zero_mul] at q7 q1
        clear hs7 hsl hc7 hc1 hy7 hy1 hx0 hr hl7 he6 HN
        go_wp2_with fail
        go_quiet (fail)
        go_wp2
        go_ret
        exact ⟨rfl, belowDrewN hB5 _⟩
      · have hq' : (100000 : Int) < q := by omega
        go_wp2_with fail
        go_quiet (fail)
        go_wp2
        go_ret
        exact ⟨rfl, belowDrewN hB5 _⟩
  · clear h
    go_enter Try.func14, Try.ntmps14
    go_wp2
    go_ret
    exact ⟨rfl, Below.refl _ _⟩
end Go.Proofs.Ythellpcohdbbfaa
