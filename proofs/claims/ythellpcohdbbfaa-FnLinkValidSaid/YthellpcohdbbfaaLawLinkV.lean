/- The walk of FnLinkValid. -/
import Derived.Test.YthellpcohdbbfaaDLink
import Derived.Test.YthellpcohdbbfaaNear
import Derived.Test.YthellpcohdbbfaaAlive
namespace Go.Proofs.Ythellpcohdbbfaa
set_option linter.unusedVariables false
set_option linter.unusedSimpArgs false
open Go.RowKit

theorem pkts_take : ∀ (xs : List (Int × Int)) (a : Int) (j : Nat), pktsOk a xs = true → pktsOk a (xs.take j) = true
  | [], a, j, _ => by simp [pktsOk]
  | (p, q) :: xs, a, 0, _ => by simp [pktsOk]
  | (p, q) :: xs, a, j + 1, h => by
    simp only [pktsOk, Bool.and_eq_true, List.take_succ_cons] at h ⊢
    exact ⟨h.1, h.2.1, pkts_take xs p j h.2.2⟩
theorem linkOk_take {d : Int} {xs : List (Int × Int)} (h : linkOk d xs = true) (j : Nat) : linkOk d (xs.take j) = true := by
  unfold linkOk at h ⊢
  simp only [Bool.and_eq_true, decide_eq_true_eq] at h ⊢
  exact ⟨pkts_take xs 0 j h.1, h.2.1, by rw [List.length_take]; omega⟩
set_option maxHeartbeats 2000000 in
theorem lawLinkValid (A : Option Addr) (n c : Nat) (zs : List Int) (w : World) (h : Code w A n c zs) :
    Calls Try.prog 13 #[.slice A n c] w fun e w' => .returned (.bool true) = e ∧ Below w.heap.size w w' := by
  have hle := h.le
  have hmax := h.max
  by_cases hn : n ≤ 1048576
  · have hdraw := drawLinkValid_any A n c zs w h
    clear h
    go_enter Try.func13, Try.ntmps13
    go_wp2_with fail
    refine hdraw.mono ?_
    rintro e w1 ⟨⟨d, ⟨A1, n1, c1, xs⟩⟩, rfl, ⟨hsl, _, hnil, _⟩, hn1, hb⟩
    clear hdraw
    simp only [lkV, linkV] at hsl hnil hn1 ⊢
    obtain rfl : xs.length = n1 := hsl.len
    have hle1 := hsl.le
    have hmax1 := hsl.max
    have hI := fun W h => linkValid_any d A1 xs.length c1 xs W h
    have hS := fun W h => specLinkValid_any d A1 xs.length c1 xs W h
    have hv := Lib.hid (show ∀ v, linkOk d xs = v → v = true → linkOk d (xs.take (xs.length / 2)) = true from fun v e h => linkOk_take (e.trans h) _)
    have he := Lib.hid (show ∃ v, linkOk d xs = v from ⟨_, rfl⟩)
    simp only [linkV] at hI hS
    obtain ⟨v, he⟩ := he.out
    rw [he] at hI hS
    replace hv := Lib.hid (hv.out v he)
    clear he
    have hB := alo hb (.cells #[.int .i64 d, .slice A1 xs.length c1] 55)
    have B1 := Blk.new w1 55 #[.int .i64 d, .slice A1 xs.length c1]
    replace hsl := hsl.below (alo (Below.refl _ _) (.cells #[.int .i64 d, .slice A1 xs.length c1] 55))
    skip
    skip
    have cB1_0 := B1.c0; have cB1_1 := B1.c1; have fB1 := B1.frozen
    cases v
    all_goals
      go_wp2_with fail; refine (hI _ hsl).mono ?_; rintro e w2 ⟨rfl, hbw2⟩; replace B1 := Blk.belowOf B1 hbw2 (by repeat (first | exact B1 | apply Blk.alloc | apply Blk.drew | (apply Blk.far; rotate_left; (first | assumption | exact Ne.symm (by assumption))) | apply Blk.set_))
      have hsl2 := hsl.below hbw2
      clear cB1_0 cB1_1 fB1
      have cB1_0 := B1.c0; have cB1_1 := B1.c1; have fB1 := B1.frozen
      go_wp2_with fail; refine (hS _ hsl2).mono ?_; rintro e w3 ⟨rfl, hbw3⟩; replace B1 := Blk.belowOf B1 hbw3 (by repeat (first | exact B1 | apply Blk.alloc | apply Blk.drew | (apply Blk.far; rotate_left; (first | assumption | exact Ne.symm (by assumption))) | apply Blk.set_))
      have hsl3 := hsl2.below hbw3
      have hB3 := thn (thn hB hbw2) hbw3
      have BP := (Blk.new w3 59 #[.int .i64 5, .int .i64 0, .int .i64 4, .int .i64 0])
      have hBP : Blk (w3.alloc (.cells #[.int .i64 5, .int .i64 0, .int .i64 4, .int .i64 0] 59)) w3.heap.size 59 (([(5, 0), (4, 0)] : List (Int × Int)).flatMap eS).toArray := BP
      have sP : Sl ((w3.alloc (.cells #[.int .i64 5, .int .i64 0, .int .i64 4, .int .i64 0] 59)).alloc (.cells #[.int .i64 3, .slice (some ⟨w3.heap.size, 0, none⟩) 2 2] 55)) 2 eS (some ⟨w3.heap.size, 0, none⟩) 2 2 [(5, 0), (4, 0)] := (Sl.of_blk hBP encS (by simp)).below (alo (Below.refl _ _) (.cells #[.int .i64 3, .slice (some ⟨w3.heap.size, 0, none⟩) 2 2] 55))
      replace B1 := (B1.alloc (.cells #[.int .i64 5, .int .i64 0, .int .i64 4, .int .i64 0] 59)).alloc (.cells #[.int .i64 3, .slice (some ⟨w3.heap.size, 0, none⟩) 2 2] 55)
      have B2 := Blk.new2 w3 (.cells #[.int .i64 5, .int .i64 0, .int .i64 4, .int .i64 0] 59) 55 #[.int .i64 3, .slice (some ⟨w3.heap.size, 0, none⟩) 2 2]
      have hsl4 := hsl3.below (alo (alo (Below.refl _ _) (.cells #[.int .i64 5, .int .i64 0, .int .i64 4, .int .i64 0] 59)) (.cells #[.int .i64 3, .slice (some ⟨w3.heap.size, 0, none⟩) 2 2] 55))
      have hB4 := alo (alo hB3 (.cells #[.int .i64 5, .int .i64 0, .int .i64 4, .int .i64 0] 59)) (.cells #[.int .i64 3, .slice (some ⟨w3.heap.size, 0, none⟩) 2 2] 55)
      clear cB1_0 cB1_1 fB1
      clear hI hS hsl hsl2 hsl3 hb hbw2 hbw3 hB hB3 BP hBP
    · clear hv
      go_wp2_with fail
      generalize (w3.alloc (.cells #[.int .i64 5, .int .i64 0, .int .i64 4, .int .i64 0] 59)).alloc (.cells #[.int .i64 3, .slice (some ⟨w3.heap.size, 0, none⟩) 2 2] 55) = W at *
      have hJ := fun x : Near W => linkValid_any 3 (some ⟨w3.heap.size, 0, none⟩) 2 2 _ x.W (sP.below x.b)
      rw [show linkOk 3 [(5, 0), (4, 0)] = false from by decide] at hJ
      simp only [linkV] at hJ
      skip
      have qB1_0 := fun x => (B1.near x).c0; have qB1_1 := fun x => (B1.near x).c1; have qB2_0 := fun x => (B2.near x).c0; have qB2_1 := fun x => (B2.near x).c1; refine wp_region_near (by kernel_rfl) (by kernel_rfl) ?_; (repeat (go_big_quiet_step (first | (go_at_call 43; with_reducible exact near_call (hJ _)) | (go_at_call 18; with_reducible exact near_call (alive_any _))))); refine wpQuiet_nil ?_; intro xN; have hbw5 := xN.b; generalize xN.W = w5 at hbw5 ⊢; clear xN; clear qB1_0 qB1_1; replace B1 := B1.below hbw5; clear qB2_0 qB2_1; replace B2 := B2.below hbw5
      go_wp2
      go_ret
      exact ⟨rfl, thn hB4 hbw5⟩
    · replace hv := hv.out (by first | trivial | rfl)
      go_wp2_with fail
      generalize (w3.alloc (.cells #[.int .i64 5, .int .i64 0, .int .i64 4, .int .i64 0] 59)).alloc (.cells #[.int .i64 3, .slice (some ⟨w3.heap.size, 0, none⟩) 2 2] 55) = W at *
      have hJ := fun x : Near W => linkValid_any 3 (some ⟨w3.heap.size, 0, none⟩) 2 2 _ x.W (sP.below x.b)
      have hT := fun x : Near W => linkValid_any d A1 (xs.length / 2) c1 _ x.W ((hsl4.below x.b).take_ (xs.length / 2) (by omega))
      rw [show linkOk 3 [(5, 0), (4, 0)] = false from by decide] at hJ
      rw [hv] at hT
      simp only [linkV] at hJ hT
      skip
      have qB1_0 := fun x => (B1.near x).c0; have qB1_1 := fun x => (B1.near x).c1; have qB2_0 := fun x => (B2.near x).c0; have qB2_1 := fun x => (B2.near x).c1; refine wp_region_near (by kernel_rfl) (by kernel_rfl) ?_; (repeat (go_big_quiet_step (first | (go_at_call 43; with_reducible exact near_call (hJ _)) | (go_at_call 43; with_reducible exact near_call (hT _)) | (go_at_call 18; with_reducible exact near_call (alive_any _))))); refine wpQuiet_nil ?_; intro xN; have hbw5 := xN.b; generalize xN.W = w5 at hbw5 ⊢; clear xN; clear qB1_0 qB1_1; replace B1 := B1.below hbw5; clear qB2_0 qB2_1; replace B2 := B2.below hbw5
      go_wp2
      go_ret
      exact ⟨rfl, thn hB4 hbw5⟩
  · clear h
    go_enter Try.func13, Try.ntmps13
    go_wp2
    go_ret
    exact ⟨rfl, Below.refl _ _⟩
end Go.Proofs.Ythellpcohdbbfaa
