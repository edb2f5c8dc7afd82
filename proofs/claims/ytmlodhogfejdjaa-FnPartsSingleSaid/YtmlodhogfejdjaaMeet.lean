/- Windows that meet: the draw, meet, WindowsMeet of impl and spec. -/
import Derived.Test.YtmlodhogfejdjaaDWin
import Derived.Test.YtmlodhogfejdjaaSWin
import Derived.Test.YtmlodhogfejdjaaList
import Derived.Test.YtmlodhogfejdjaaNear
import Derived.Deep.RegionWith
namespace Go.Proofs.Ytmlodhogfejdjaa
set_option linter.unusedVariables false
set_option linter.unusedSimpArgs false
open Go.RowKit

def win2V (x : Win × Win) : Value := .tuple #[winV x.1, winV x.2]
set_option maxHeartbeats 1000000 in
theorem drawWindowsMeet_any (A : Option Addr) (n c : Nat) (zs : List Int) (w : World) (h : Code w A n c zs) :
    Calls Try.prog 22 #[.slice A n c] w (Post win2V fun x w' => WinB x.1 ∧ WinB x.2 ∧ Below w.heap.size w w') := by
  obtain ⟨r, hr, hrw⟩ : ∃ r, w.heap.size + 1 + 1 = r ∧ w.heap.size + 1 < r := ⟨_, rfl, Nat.lt_succ_self _⟩
  have B1 := (Blk.new w 35 #[.int .i64 0, .int .i64 0, .bool false]).alloc (.cells #[.int .i64 0, .int .i64 0, .bool false] 35)
  have B2 := Blk.new2 w (.cells #[.int .i64 0, .int .i64 0, .bool false] 35) 35 #[.int .i64 0, .int .i64 0, .bool false]
  have dB1B2 : w.heap.size ≠ w.heap.size + 1 := by omega
  have hb2 := alo (alo (Below.refl w.heap.size w) (.cells #[.int .i64 0, .int .i64 0, .bool false] 35)) (.cells #[.int .i64 0, .int .i64 0, .bool false] 35)
  have hopen := open_at r A n c zs _ (h.below hb2) (by simpa using hr)
  clear h
  go_enter Try.func22, Try.ntmps22
  go_wp2_with fail
  refine hopen.mono ?_
  rintro e w0 ⟨rfl, hrd, hb, hsz⟩
  clear hopen
  replace B1 := B1.below (hb.mono (by simp; omega))
  replace B2 := B2.below (hb.mono (by simp; omega))
  clear hr
  replace hb := hb2.trans (hb.mono (by omega))
  clear hb2
  have nB1 : w.heap.size ≠ r := by omega
  have nB2 := Nat.ne_of_lt hrw
  replace hrw : w.heap.size ≤ r := by omega
  have hS := Stp.refl hrd
  have hr0 := hrd.lt
  clear hrd
  go_wp2_with fail; refine (l20Window_any r 12 _ _ (by repeat (first | exact hS.rd | apply Rd.drew | apply Rd.alloc | (apply Rd.setCell; rotate_left; assumption))) (by omega) (by omega)).mono ?_; rintro e w1 ⟨x, rfl, hx, hs⟩; replace B1 := Blk.stpOf B1 hs (by repeat (first | exact B1 | apply Blk.alloc | apply Blk.drew | (apply Blk.far; rotate_left; (first | assumption | exact Ne.symm (by assumption))) | apply Blk.set_)) (by assumption); replace B2 := Blk.stpOf B2 hs (by repeat (first | exact B2 | apply Blk.alloc | apply Blk.drew | (apply Blk.far; rotate_left; (first | assumption | exact Ne.symm (by assumption))) | apply Blk.set_)) (by assumption); replace hS := Stp.trans (by repeat (first | exact hS | apply Stp.drew | apply Stp.alloc | (apply Stp.set; assumption; assumption))) hs; clear hs
  obtain ⟨xb, xs, xw⟩ := x
  simp only [winV]
  have B3 := Blk.new w1 35 #[.int .i64 xb, .int .i64 xs, .bool xw]; have lB3 := hS.rd.lt; have nB3 := Nat.ne_of_gt lB3; have sB3 := hS.grown.size; have dB1B3 := Nat.ne_of_lt B1.lt; have dB2B3 := Nat.ne_of_lt B2.lt
  have cB1_0 := B1.c0; have cB1_1 := B1.c1; have cB1_2 := B1.c2; have fB1 := B1.frozen; have cB2_0 := B2.c0; have cB2_1 := B2.c1; have cB2_2 := B2.c2; have fB2 := B2.frozen; have cB3_0 := B3.c0; have cB3_1 := B3.c1; have cB3_2 := B3.c2; have fB3 := B3.frozen
  go_wp2_with fail
  go_region_with ((go_at_call 56; refine (l20Window_any r 12 _ _ (by repeat (first | exact hS.rd | apply Rd.drew | apply Rd.alloc | (apply Rd.setCell; rotate_left; assumption))) (by omega) (by omega)).mono ?_; rintro e w2 ⟨⟨yb, ys, yw⟩, rfl, hy, hs⟩; replace B1 := Blk.stpOf B1 hs (by repeat (first | exact B1 | apply Blk.alloc | apply Blk.drew | (apply Blk.far; rotate_left; (first | assumption | exact Ne.symm (by assumption))) | apply Blk.set_)) (by assumption); replace B2 := Blk.stpOf B2 hs (by repeat (first | exact B2 | apply Blk.alloc | apply Blk.drew | (apply Blk.far; rotate_left; (first | assumption | exact Ne.symm (by assumption))) | apply Blk.set_)) (by assumption); replace B3 := Blk.stpOf B3 hs (by repeat (first | exact B3 | apply Blk.alloc | apply Blk.drew | (apply Blk.far; rotate_left; (first | assumption | exact Ne.symm (by assumption))) | apply Blk.set_)) (by assumption); replace hS := Stp.trans (by repeat (first | exact hS | apply Stp.drew | apply Stp.alloc | (apply Stp.set; assumption; assumption))) hs; clear hs; have cB1_0 := B1.c0; have cB1_1 := B1.c1; have cB1_2 := B1.c2; have fB1 := B1.frozen; have cB2_0 := B2.c0; have cB2_1 := B2.c1; have cB2_2 := B2.c2; have fB2 := B2.frozen; have cB3_0 := B3.c0; have cB3_1 := B3.c1; have cB3_2 := B3.c2; have fB3 := B3.frozen); simp only [winV])
  all_goals
    have hBel := hS.belowT (a := w) (B := w.heap.size) hb (by assumption) hb.size
    go_wp2
    exact bodyPost_ret (v := win2V (⟨xb, xs, xw⟩, ⟨yb, ys, yw⟩)) (by simp [results, Try.results22, go_sem, win2V, winV, cB1_0, cB1_1, cB1_2, cB2_0, cB2_1, cB2_2]) rfl ⟨_, rfl, hx, hy, below_set3 (below_set3 hBel (Nat.le_refl _) _ _ _) (Nat.le_succ _) _ _ _⟩

/-- What two windows have in common. -/
def Win.lo (a b : Win) : Int := if a.base < b.base then b.base else a.base
def Win.hi (a b : Win) : Int := if b.base + b.size < a.base + a.size then b.base + b.size else a.base + a.size
def meetW (a b : Win) : Win × Bool := if Win.hi a b ≤ Win.lo a b then (⟨0, 0, false⟩, false) else (⟨Win.lo a b, Win.hi a b - Win.lo a b, a.wr && b.wr⟩, true)
def meetV (x : Win × Bool) : Value := .tuple #[winV x.1, .bool x.2]

set_option maxHeartbeats 1000000 in
theorem meet_any (a b : Win) (ha : a.ok = true) (hb : b.ok = true) (w : World) :
    Calls Try.prog 57 #[winV a, winV b] w fun e w' => .returned (meetV (meetW a b)) = e ∧ Below w.heap.size w w' := by
  rw [Win.ok_true] at ha hb
  obtain ⟨ab, az, aw⟩ := a
  obtain ⟨bb, bs, bw⟩ := b
  obtain ⟨a1, a2, a3, a4⟩ := ha
  obtain ⟨b1, b2, b3, b4⟩ := hb
  simp only [] at a1 a2 a3 a4 b1 b2 b3 b4
  obtain ⟨m, hm⟩ : ∃ m, meetW ⟨ab, az, aw⟩ ⟨bb, bs, bw⟩ = m := ⟨_, rfl⟩
  rw [hm]
  simp only [meetW, Win.lo, Win.hi] at hm
  have HM := Lib.hid hm
  clear hm
  simp only [winV]
  skip
  have hb0 := alo (alo (alo (Below.refl w.heap.size w) (.cells #[.int .i64 ab, .int .i64 az, .bool aw] 35)) (.cells #[.int .i64 bb, .int .i64 bs, .bool bw] 35)) (.cells #[.int .i64 0, .int .i64 0, .bool false] 35)
  have B1 := ((Blk.new w 35 #[.int .i64 ab, .int .i64 az, .bool aw]).alloc (.cells #[.int .i64 bb, .int .i64 bs, .bool bw] 35)).alloc (.cells #[.int .i64 0, .int .i64 0, .bool false] 35)
  have B2 := (Blk.new2 w (.cells #[.int .i64 ab, .int .i64 az, .bool aw] 35) 35 #[.int .i64 bb, .int .i64 bs, .bool bw]).alloc (.cells #[.int .i64 0, .int .i64 0, .bool false] 35)
  have B3 := Blk.new3 w (.cells #[.int .i64 ab, .int .i64 az, .bool aw] 35) (.cells #[.int .i64 bb, .int .i64 bs, .bool bw] 35) 35 #[.int .i64 0, .int .i64 0, .bool false]
  skip
  skip
  go_enter Try.func57, Try.ntmps57
  go_wp2_with fail
  have qB1_0 := fun x => (B1.near x).c0; have qB1_1 := fun x => (B1.near x).c1; have qB1_2 := fun x => (B1.near x).c2; have qB2_0 := fun x => (B2.near x).c0; have qB2_1 := fun x => (B2.near x).c1; have qB2_2 := fun x => (B2.near x).c2; have qB3_0 := fun x => (B3.near x).c0; have qB3_1 := fun x => (B3.near x).c1; have qB3_2 := fun x => (B3.near x).c2; refine wp_region_near (by kernel_rfl) (by kernel_rfl) ?_; (repeat (go_big_quiet_step (first | fail))); refine wpQuiet_nil ?_; intro xN; have hbw1 := xN.b; generalize xN.W = w1 at hbw1 ⊢; clear xN; clear qB1_0 qB1_1 qB1_2; replace B1 := B1.below hbw1; clear qB2_0 qB2_1 qB2_2; replace B2 := B2.below hbw1; clear qB3_0 qB3_1 qB3_2; replace B3 := B3.below hbw1
  replace hb0 := thn hb0 hbw1
  clear hbw1
  have cB1_0 := B1.c0; have cB1_1 := B1.c1; have cB1_2 := B1.c2; have fB1 := B1.frozen; have cB2_0 := B2.c0; have cB2_1 := B2.c1; have cB2_2 := B2.c2; have fB2 := B2.frozen; have cB3_0 := B3.c0; have cB3_1 := B3.c1; have cB3_2 := B3.c2; have fB3 := B3.frozen
  have h1 : 0 ≤ (if ab < bb then bb else ab) ∧ (if ab < bb then bb else ab) ≤ 4096 := by split <;> omega
  have h2 : 0 ≤ (if bb + bs < ab + az then bb + bs else ab + az) ∧ (if bb + bs < ab + az then bb + bs else ab + az) ≤ 9000 := by split <;> omega
  obtain ⟨h10, h11⟩ := h1
  obtain ⟨h20, h21⟩ := h2
  generalize (if ab < bb then bb else ab) = lo at *
  generalize (if bb + bs < ab + az then bb + bs else ab + az) = hi at *
  by_cases hc : hi ≤ lo
  · go_wp2
    exact bodyPost_ret (v := meetV (⟨0, 0, false⟩, false)) (by simp [results, Try.results57, go_sem, meetV, winV, cB3_0, cB3_1, cB3_2]) rfl ⟨by rw [← HM.out, if_pos hc], below_set3 hb0 (by omega) _ _ _⟩
  · cases aw
    · go_wp2
      exact bodyPost_ret (v := meetV (⟨lo, hi - lo, false⟩, true)) (by simp [results, Try.results57, go_sem, meetV, winV, cB3_0, cB3_1, cB3_2]) rfl ⟨by rw [← HM.out, if_neg (by omega)]; rfl, below_set3 hb0 (by omega) _ _ _⟩
    · go_wp2
      exact bodyPost_ret (v := meetV (⟨lo, hi - lo, bw⟩, true)) (by simp [results, Try.results57, go_sem, meetV, winV, cB3_0, cB3_1, cB3_2]) rfl ⟨by rw [← HM.out, if_neg (by omega)]; rfl, below_set3 hb0 (by omega) _ _ _⟩

def wmeet (a b : Win) : Win × Bool := if a.ok && b.ok then meetW a b else (⟨0, 0, false⟩, false)
set_option maxHeartbeats 1000000 in
theorem windowsMeet_any (a b : Win) (w : World) :
    Calls Try.prog 23 #[winV a, winV b] w fun e w' => .returned (meetV (wmeet a b)) = e ∧ Below w.heap.size w w' := by
  have h1 := fun W => valid_any a W
  have h2 := fun W => valid_any b W
  have h3 := fun W x y => meet_any a b x y W
  unfold wmeet
  cases hv1 : a.ok
  · rw [hv1] at h1
    clear h2 h3 hv1
    obtain ⟨ab, az, aw⟩ := a
    obtain ⟨bb, bs, bw⟩ := b
    simp only [winV, meetV] at h1 ⊢
    skip
    have hb0 := alo (alo (alo (Below.refl w.heap.size w) (.cells #[.int .i64 ab, .int .i64 az, .bool aw] 35)) (.cells #[.int .i64 bb, .int .i64 bs, .bool bw] 35)) (.cells #[.int .i64 0, .int .i64 0, .bool false] 35)
    have B1 := ((Blk.new w 35 #[.int .i64 ab, .int .i64 az, .bool aw]).alloc (.cells #[.int .i64 bb, .int .i64 bs, .bool bw] 35)).alloc (.cells #[.int .i64 0, .int .i64 0, .bool false] 35)
    have B2 := (Blk.new2 w (.cells #[.int .i64 ab, .int .i64 az, .bool aw] 35) 35 #[.int .i64 bb, .int .i64 bs, .bool bw]).alloc (.cells #[.int .i64 0, .int .i64 0, .bool false] 35)
    have B3 := Blk.new3 w (.cells #[.int .i64 ab, .int .i64 az, .bool aw] 35) (.cells #[.int .i64 bb, .int .i64 bs, .bool bw] 35) 35 #[.int .i64 0, .int .i64 0, .bool false]
    skip
    skip
    go_enter Try.func23, Try.ntmps23
    go_wp2_with fail; refine (h1 _).mono ?_; rintro e w1 ⟨rfl, hbw1⟩; replace B1 := Blk.belowOf B1 hbw1 (by repeat (first | exact B1 | apply Blk.alloc | apply Blk.drew | (apply Blk.far; rotate_left; (first | assumption | exact Ne.symm (by assumption))) | apply Blk.set_)); replace B2 := Blk.belowOf B2 hbw1 (by repeat (first | exact B2 | apply Blk.alloc | apply Blk.drew | (apply Blk.far; rotate_left; (first | assumption | exact Ne.symm (by assumption))) | apply Blk.set_)); replace B3 := Blk.belowOf B3 hbw1 (by repeat (first | exact B3 | apply Blk.alloc | apply Blk.drew | (apply Blk.far; rotate_left; (first | assumption | exact Ne.symm (by assumption))) | apply Blk.set_))
    replace hb0 := thn hb0 hbw1
    have cB1_0 := B1.c0; have cB1_1 := B1.c1; have cB1_2 := B1.c2; have fB1 := B1.frozen; have cB2_0 := B2.c0; have cB2_1 := B2.c1; have cB2_2 := B2.c2; have fB2 := B2.frozen; have cB3_0 := B3.c0; have cB3_1 := B3.c1; have cB3_2 := B3.c2; have fB3 := B3.frozen
    go_wp2
    exact bodyPost_ret (v := meetV (⟨0, 0, false⟩, false)) (by simp [results, Try.results23, go_sem, meetV, winV, cB3_0, cB3_1, cB3_2]) rfl ⟨rfl, below_set3 hb0 (by omega) _ _ _⟩
  · rw [hv1] at h1
    cases hv2 : b.ok
    · rw [hv2] at h2
      clear h3 hv1 hv2
      obtain ⟨ab, az, aw⟩ := a
      obtain ⟨bb, bs, bw⟩ := b
      simp only [winV, meetV] at h1 h2 ⊢
      skip
      have hb0 := alo (alo (alo (Below.refl w.heap.size w) (.cells #[.int .i64 ab, .int .i64 az, .bool aw] 35)) (.cells #[.int .i64 bb, .int .i64 bs, .bool bw] 35)) (.cells #[.int .i64 0, .int .i64 0, .bool false] 35)
      have B1 := ((Blk.new w 35 #[.int .i64 ab, .int .i64 az, .bool aw]).alloc (.cells #[.int .i64 bb, .int .i64 bs, .bool bw] 35)).alloc (.cells #[.int .i64 0, .int .i64 0, .bool false] 35)
      have B2 := (Blk.new2 w (.cells #[.int .i64 ab, .int .i64 az, .bool aw] 35) 35 #[.int .i64 bb, .int .i64 bs, .bool bw]).alloc (.cells #[.int .i64 0, .int .i64 0, .bool false] 35)
      have B3 := Blk.new3 w (.cells #[.int .i64 ab, .int .i64 az, .bool aw] 35) (.cells #[.int .i64 bb, .int .i64 bs, .bool bw] 35) 35 #[.int .i64 0, .int .i64 0, .bool false]
      skip
      skip
      go_enter Try.func23, Try.ntmps23
      go_wp2_with fail; refine (h1 _).mono ?_; rintro e w1 ⟨rfl, hbw1⟩; replace B1 := Blk.belowOf B1 hbw1 (by repeat (first | exact B1 | apply Blk.alloc | apply Blk.drew | (apply Blk.far; rotate_left; (first | assumption | exact Ne.symm (by assumption))) | apply Blk.set_)); replace B2 := Blk.belowOf B2 hbw1 (by repeat (first | exact B2 | apply Blk.alloc | apply Blk.drew | (apply Blk.far; rotate_left; (first | assumption | exact Ne.symm (by assumption))) | apply Blk.set_)); replace B3 := Blk.belowOf B3 hbw1 (by repeat (first | exact B3 | apply Blk.alloc | apply Blk.drew | (apply Blk.far; rotate_left; (first | assumption | exact Ne.symm (by assumption))) | apply Blk.set_))
      replace hb0 := thn hb0 hbw1
      have cB1_0 := B1.c0; have cB1_1 := B1.c1; have cB1_2 := B1.c2; have fB1 := B1.frozen; have cB2_0 := B2.c0; have cB2_1 := B2.c1; have cB2_2 := B2.c2; have fB2 := B2.frozen; have cB3_0 := B3.c0; have cB3_1 := B3.c1; have cB3_2 := B3.c2; have fB3 := B3.frozen
      go_wp2_with fail; refine (h2 _).mono ?_; rintro e w2 ⟨rfl, hbw2⟩; replace B1 := Blk.belowOf B1 hbw2 (by repeat (first | exact B1 | apply Blk.alloc | apply Blk.drew | (apply Blk.far; rotate_left; (first | assumption | exact Ne.symm (by assumption))) | apply Blk.set_)); replace B2 := Blk.belowOf B2 hbw2 (by repeat (first | exact B2 | apply Blk.alloc | apply Blk.drew | (apply Blk.far; rotate_left; (first | assumption | exact Ne.symm (by assumption))) | apply Blk.set_)); replace B3 := Blk.belowOf B3 hbw2 (by repeat (first | exact B3 | apply Blk.alloc | apply Blk.drew | (apply Blk.far; rotate_left; (first | assumption | exact Ne.symm (by assumption))) | apply Blk.set_))
      clear cB1_0 cB1_1 cB1_2 fB1 cB2_0 cB2_1 cB2_2 fB2 cB3_0 cB3_1 cB3_2 fB3
      replace hb0 := thn hb0 hbw2
      have cB1_0 := B1.c0; have cB1_1 := B1.c1; have cB1_2 := B1.c2; have fB1 := B1.frozen; have cB2_0 := B2.c0; have cB2_1 := B2.c1; have cB2_2 := B2.c2; have fB2 := B2.frozen; have cB3_0 := B3.c0; have cB3_1 := B3.c1; have cB3_2 := B3.c2; have fB3 := B3.frozen
      go_wp2
      exact bodyPost_ret (v := meetV (⟨0, 0, false⟩, false)) (by simp [results, Try.results23, go_sem, meetV, winV, cB3_0, cB3_1, cB3_2]) rfl ⟨rfl, below_set3 hb0 (by omega) _ _ _⟩
    · rw [hv2] at h2
      replace h3 := fun W => h3 W hv1 hv2
      clear hv1 hv2
      rw [Bool.and_true, if_pos rfl]
      generalize meetW a b = m at *
      obtain ⟨⟨mb, ms, mw⟩, ok⟩ := m
      obtain ⟨ab, az, aw⟩ := a
      obtain ⟨bb, bs, bw⟩ := b
      simp only [winV, meetV] at h1 h2 h3 ⊢
      skip
      have hb0 := alo (alo (alo (Below.refl w.heap.size w) (.cells #[.int .i64 ab, .int .i64 az, .bool aw] 35)) (.cells #[.int .i64 bb, .int .i64 bs, .bool bw] 35)) (.cells #[.int .i64 0, .int .i64 0, .bool false] 35)
      have B1 := ((Blk.new w 35 #[.int .i64 ab, .int .i64 az, .bool aw]).alloc (.cells #[.int .i64 bb, .int .i64 bs, .bool bw] 35)).alloc (.cells #[.int .i64 0, .int .i64 0, .bool false] 35)
      have B2 := (Blk.new2 w (.cells #[.int .i64 ab, .int .i64 az, .bool aw] 35) 35 #[.int .i64 bb, .int .i64 bs, .bool bw]).alloc (.cells #[.int .i64 0, .int .i64 0, .bool false] 35)
      have B3 := Blk.new3 w (.cells #[.int .i64 ab, .int .i64 az, .bool aw] 35) (.cells #[.int .i64 bb, .int .i64 bs, .bool bw] 35) 35 #[.int .i64 0, .int .i64 0, .bool false]
      skip
      skip
      go_enter Try.func23, Try.ntmps23
      go_wp2_with fail; refine (h1 _).mono ?_; rintro e w1 ⟨rfl, hbw1⟩; replace B1 := Blk.belowOf B1 hbw1 (by repeat (first | exact B1 | apply Blk.alloc | apply Blk.drew | (apply Blk.far; rotate_left; (first | assumption | exact Ne.symm (by assumption))) | apply Blk.set_)); replace B2 := Blk.belowOf B2 hbw1 (by repeat (first | exact B2 | apply Blk.alloc | apply Blk.drew | (apply Blk.far; rotate_left; (first | assumption | exact Ne.symm (by assumption))) | apply Blk.set_)); replace B3 := Blk.belowOf B3 hbw1 (by repeat (first | exact B3 | apply Blk.alloc | apply Blk.drew | (apply Blk.far; rotate_left; (first | assumption | exact Ne.symm (by assumption))) | apply Blk.set_))
      replace hb0 := thn hb0 hbw1
      have cB1_0 := B1.c0; have cB1_1 := B1.c1; have cB1_2 := B1.c2; have fB1 := B1.frozen; have cB2_0 := B2.c0; have cB2_1 := B2.c1; have cB2_2 := B2.c2; have fB2 := B2.frozen; have cB3_0 := B3.c0; have cB3_1 := B3.c1; have cB3_2 := B3.c2; have fB3 := B3.frozen
      go_wp2_with fail; refine (h2 _).mono ?_; rintro e w2 ⟨rfl, hbw2⟩; replace B1 := Blk.belowOf B1 hbw2 (by repeat (first | exact B1 | apply Blk.alloc | apply Blk.drew | (apply Blk.far; rotate_left; (first | assumption | exact Ne.symm (by assumption))) | apply Blk.set_)); replace B2 := Blk.belowOf B2 hbw2 (by repeat (first | exact B2 | apply Blk.alloc | apply Blk.drew | (apply Blk.far; rotate_left; (first | assumption | exact Ne.symm (by assumption))) | apply Blk.set_)); replace B3 := Blk.belowOf B3 hbw2 (by repeat (first | exact B3 | apply Blk.alloc | apply Blk.drew | (apply Blk.far; rotate_left; (first | assumption | exact Ne.symm (by assumption))) | apply Blk.set_))
      replace hb0 := thn hb0 hbw2
      clear cB1_0 cB1_1 cB1_2 fB1 cB2_0 cB2_1 cB2_2 fB2 cB3_0 cB3_1 cB3_2 fB3
      have cB1_0 := B1.c0; have cB1_1 := B1.c1; have cB1_2 := B1.c2; have fB1 := B1.frozen; have cB2_0 := B2.c0; have cB2_1 := B2.c1; have cB2_2 := B2.c2; have fB2 := B2.frozen; have cB3_0 := B3.c0; have cB3_1 := B3.c1; have cB3_2 := B3.c2; have fB3 := B3.frozen
      go_wp2_with fail; refine (h3 _).mono ?_; rintro e w3 ⟨rfl, hbw3⟩; replace B1 := Blk.belowOf B1 hbw3 (by repeat (first | exact B1 | apply Blk.alloc | apply Blk.drew | (apply Blk.far; rotate_left; (first | assumption | exact Ne.symm (by assumption))) | apply Blk.set_)); replace B2 := Blk.belowOf B2 hbw3 (by repeat (first | exact B2 | apply Blk.alloc | apply Blk.drew | (apply Blk.far; rotate_left; (first | assumption | exact Ne.symm (by assumption))) | apply Blk.set_)); replace B3 := Blk.belowOf B3 hbw3 (by repeat (first | exact B3 | apply Blk.alloc | apply Blk.drew | (apply Blk.far; rotate_left; (first | assumption | exact Ne.symm (by assumption))) | apply Blk.set_))
      replace hb0 := thn hb0 hbw3
      clear cB1_0 cB1_1 cB1_2 fB1 cB2_0 cB2_1 cB2_2 fB2 cB3_0 cB3_1 cB3_2 fB3
      have cB1_0 := B1.c0; have cB1_1 := B1.c1; have cB1_2 := B1.c2; have fB1 := B1.frozen; have cB2_0 := B2.c0; have cB2_1 := B2.c1; have cB2_2 := B2.c2; have fB2 := B2.frozen; have cB3_0 := B3.c0; have cB3_1 := B3.c1; have cB3_2 := B3.c2; have fB3 := B3.frozen
      go_wp2
      exact bodyPost_ret (v := meetV (⟨mb, ms, mw⟩, ok)) (by simp [results, Try.results23, go_sem, meetV, winV, cB3_0, cB3_1, cB3_2]) rfl ⟨rfl, below_set3 hb0 (by omega) _ _ _⟩

set_option maxHeartbeats 2000000 in
theorem specWindowsMeet_any (a b : Win) (w : World) :
    Calls Try.prog 24 #[winV a, winV b] w fun e w' => .returned (meetV (wmeet a b)) = e ∧ Below w.heap.size w w' := by
  have h1 := fun W => l1Window_any a W
  have h2 := fun W => l1Window_any b W
  obtain ⟨m, hm⟩ : ∃ m, wmeet a b = m := ⟨_, rfl⟩
  rw [hm]
  unfold wmeet at hm
  cases hv1 : a.ok
  · rw [hv1] at h1 hm
    have HM := Lib.hid hm
    clear h2 hv1 hm
    obtain ⟨ab, az, aw⟩ := a
    obtain ⟨bb, bs, bw⟩ := b
    simp only [winV] at h1 ⊢
    by_cases hab : ab < bb
    · skip
      have hb0 := alo (alo (alo (Below.refl w.heap.size w) (.cells #[.int .i64 ab, .int .i64 az, .bool aw] 35)) (.cells #[.int .i64 bb, .int .i64 bs, .bool bw] 35)) (.cells #[.int .i64 0, .int .i64 0, .bool false] 35)
      have B1 := ((Blk.new w 35 #[.int .i64 ab, .int .i64 az, .bool aw]).alloc (.cells #[.int .i64 bb, .int .i64 bs, .bool bw] 35)).alloc (.cells #[.int .i64 0, .int .i64 0, .bool false] 35)
      have B2 := (Blk.new2 w (.cells #[.int .i64 ab, .int .i64 az, .bool aw] 35) 35 #[.int .i64 bb, .int .i64 bs, .bool bw]).alloc (.cells #[.int .i64 0, .int .i64 0, .bool false] 35)
      have B3 := Blk.new3 w (.cells #[.int .i64 ab, .int .i64 az, .bool aw] 35) (.cells #[.int .i64 bb, .int .i64 bs, .bool bw] 35) 35 #[.int .i64 0, .int .i64 0, .bool false]
      skip
      skip
      go_enter Try.func24, Try.ntmps24
      go_wp2_with fail; refine (h1 _).mono ?_; rintro e w1 ⟨rfl, hbw1⟩; replace B1 := Blk.belowOf B1 hbw1 (by repeat (first | exact B1 | apply Blk.alloc | apply Blk.drew | (apply Blk.far; rotate_left; (first | assumption | exact Ne.symm (by assumption))) | apply Blk.set_)); replace B2 := Blk.belowOf B2 hbw1 (by repeat (first | exact B2 | apply Blk.alloc | apply Blk.drew | (apply Blk.far; rotate_left; (first | assumption | exact Ne.symm (by assumption))) | apply Blk.set_)); replace B3 := Blk.belowOf B3 hbw1 (by repeat (first | exact B3 | apply Blk.alloc | apply Blk.drew | (apply Blk.far; rotate_left; (first | assumption | exact Ne.symm (by assumption))) | apply Blk.set_))
      replace hb0 := thn hb0 hbw1
      have cB1_0 := B1.c0; have cB1_1 := B1.c1; have cB1_2 := B1.c2; have fB1 := B1.frozen; have cB2_0 := B2.c0; have cB2_1 := B2.c1; have cB2_2 := B2.c2; have fB2 := B2.frozen; have cB3_0 := B3.c0; have cB3_1 := B3.c1; have cB3_2 := B3.c2; have fB3 := B3.frozen
      go_wp2
      exact bodyPost_ret (v := meetV (⟨0, 0, false⟩, false)) (by simp [results, Try.results24, go_sem, meetV, winV, cB3_0, cB3_1, cB3_2]) rfl ⟨by rw [← HM.out]; rfl, below_set3 hb0 (by omega) _ _ _⟩
    · skip
      have hb0 := alo (alo (alo (Below.refl w.heap.size w) (.cells #[.int .i64 ab, .int .i64 az, .bool aw] 35)) (.cells #[.int .i64 bb, .int .i64 bs, .bool bw] 35)) (.cells #[.int .i64 0, .int .i64 0, .bool false] 35)
      have B1 := ((Blk.new w 35 #[.int .i64 ab, .int .i64 az, .bool aw]).alloc (.cells #[.int .i64 bb, .int .i64 bs, .bool bw] 35)).alloc (.cells #[.int .i64 0, .int .i64 0, .bool false] 35)
      have B2 := (Blk.new2 w (.cells #[.int .i64 ab, .int .i64 az, .bool aw] 35) 35 #[.int .i64 bb, .int .i64 bs, .bool bw]).alloc (.cells #[.int .i64 0, .int .i64 0, .bool false] 35)
      have B3 := Blk.new3 w (.cells #[.int .i64 ab, .int .i64 az, .bool aw] 35) (.cells #[.int .i64 bb, .int .i64 bs, .bool bw] 35) 35 #[.int .i64 0, .int .i64 0, .bool false]
      skip
      skip
      go_enter Try.func24, Try.ntmps24
      go_wp2_with fail; refine (h1 _).mono ?_; rintro e w1 ⟨rfl, hbw1⟩; replace B1 := Blk.belowOf B1 hbw1 (by repeat (first | exact B1 | apply Blk.alloc | apply Blk.drew | (apply Blk.far; rotate_left; (first | assumption | exact Ne.symm (by assumption))) | apply Blk.set_)); replace B2 := Blk.belowOf B2 hbw1 (by repeat (first | exact B2 | apply Blk.alloc | apply Blk.drew | (apply Blk.far; rotate_left; (first | assumption | exact Ne.symm (by assumption))) | apply Blk.set_)); replace B3 := Blk.belowOf B3 hbw1 (by repeat (first | exact B3 | apply Blk.alloc | apply Blk.drew | (apply Blk.far; rotate_left; (first | assumption | exact Ne.symm (by assumption))) | apply Blk.set_))
      replace hb0 := thn hb0 hbw1
      have cB1_0 := B1.c0; have cB1_1 := B1.c1; have cB1_2 := B1.c2; have fB1 := B1.frozen; have cB2_0 := B2.c0; have cB2_1 := B2.c1; have cB2_2 := B2.c2; have fB2 := B2.frozen; have cB3_0 := B3.c0; have cB3_1 := B3.c1; have cB3_2 := B3.c2; have fB3 := B3.frozen
      go_wp2
      exact bodyPost_ret (v := meetV (⟨0, 0, false⟩, false)) (by simp [results, Try.results24, go_sem, meetV, winV, cB3_0, cB3_1, cB3_2]) rfl ⟨by rw [← HM.out]; rfl, below_set3 hb0 (by omega) _ _ _⟩
  · rw [hv1] at h1
    cases hv2 : b.ok
    · rw [hv2] at h2
      rw [hv1, hv2] at hm
      have HM := Lib.hid hm
      clear hv1 hv2 hm
      obtain ⟨ab, az, aw⟩ := a
      obtain ⟨bb, bs, bw⟩ := b
      simp only [winV] at h1 h2 ⊢
      by_cases hab : ab < bb
      · skip
        have hb0 := alo (alo (alo (Below.refl w.heap.size w) (.cells #[.int .i64 ab, .int .i64 az, .bool aw] 35)) (.cells #[.int .i64 bb, .int .i64 bs, .bool bw] 35)) (.cells #[.int .i64 0, .int .i64 0, .bool false] 35)
        have B1 := ((Blk.new w 35 #[.int .i64 ab, .int .i64 az, .bool aw]).alloc (.cells #[.int .i64 bb, .int .i64 bs, .bool bw] 35)).alloc (.cells #[.int .i64 0, .int .i64 0, .bool false] 35)
        have B2 := (Blk.new2 w (.cells #[.int .i64 ab, .int .i64 az, .bool aw] 35) 35 #[.int .i64 bb, .int .i64 bs, .bool bw]).alloc (.cells #[.int .i64 0, .int .i64 0, .bool false] 35)
        have B3 := Blk.new3 w (.cells #[.int .i64 ab, .int .i64 az, .bool aw] 35) (.cells #[.int .i64 bb, .int .i64 bs, .bool bw] 35) 35 #[.int .i64 0, .int .i64 0, .bool false]
        skip
        skip
        go_enter Try.func24, Try.ntmps24
        go_wp2_with fail; refine (h1 _).mono ?_; rintro e w1 ⟨rfl, hbw1⟩; replace B1 := Blk.belowOf B1 hbw1 (by repeat (first | exact B1 | apply Blk.alloc | apply Blk.drew | (apply Blk.far; rotate_left; (first | assumption | exact Ne.symm (by assumption))) | apply Blk.set_)); replace B2 := Blk.belowOf B2 hbw1 (by repeat (first | exact B2 | apply Blk.alloc | apply Blk.drew | (apply Blk.far; rotate_left; (first | assumption | exact Ne.symm (by assumption))) | apply Blk.set_)); replace B3 := Blk.belowOf B3 hbw1 (by repeat (first | exact B3 | apply Blk.alloc | apply Blk.drew | (apply Blk.far; rotate_left; (first | assumption | exact Ne.symm (by assumption))) | apply Blk.set_))
        replace hb0 := thn hb0 hbw1
        have cB1_0 := B1.c0; have cB1_1 := B1.c1; have cB1_2 := B1.c2; have fB1 := B1.frozen; have cB2_0 := B2.c0; have cB2_1 := B2.c1; have cB2_2 := B2.c2; have fB2 := B2.frozen; have cB3_0 := B3.c0; have cB3_1 := B3.c1; have cB3_2 := B3.c2; have fB3 := B3.frozen
        go_wp2_with fail; refine (h2 _).mono ?_; rintro e w2 ⟨rfl, hbw2⟩; replace B1 := Blk.belowOf B1 hbw2 (by repeat (first | exact B1 | apply Blk.alloc | apply Blk.drew | (apply Blk.far; rotate_left; (first | assumption | exact Ne.symm (by assumption))) | apply Blk.set_)); replace B2 := Blk.belowOf B2 hbw2 (by repeat (first | exact B2 | apply Blk.alloc | apply Blk.drew | (apply Blk.far; rotate_left; (first | assumption | exact Ne.symm (by assumption))) | apply Blk.set_)); replace B3 := Blk.belowOf B3 hbw2 (by repeat (first | exact B3 | apply Blk.alloc | apply Blk.drew | (apply Blk.far; rotate_left; (first | assumption | exact Ne.symm (by assumption))) | apply Blk.set_))
        clear cB1_0 cB1_1 cB1_2 fB1 cB2_0 cB2_1 cB2_2 fB2 cB3_0 cB3_1 cB3_2 fB3
        replace hb0 := thn hb0 hbw2
        have cB1_0 := B1.c0; have cB1_1 := B1.c1; have cB1_2 := B1.c2; have fB1 := B1.frozen; have cB2_0 := B2.c0; have cB2_1 := B2.c1; have cB2_2 := B2.c2; have fB2 := B2.frozen; have cB3_0 := B3.c0; have cB3_1 := B3.c1; have cB3_2 := B3.c2; have fB3 := B3.frozen
        go_wp2
        exact bodyPost_ret (v := meetV (⟨0, 0, false⟩, false)) (by simp [results, Try.results24, go_sem, meetV, winV, cB3_0, cB3_1, cB3_2]) rfl ⟨by (rw [← HM.out]) <;> rfl, below_set3 hb0 (by omega) _ _ _⟩
      · skip
        have hb0 := alo (alo (alo (Below.refl w.heap.size w) (.cells #[.int .i64 ab, .int .i64 az, .bool aw] 35)) (.cells #[.int .i64 bb, .int .i64 bs, .bool bw] 35)) (.cells #[.int .i64 0, .int .i64 0, .bool false] 35)
        have B1 := ((Blk.new w 35 #[.int .i64 ab, .int .i64 az, .bool aw]).alloc (.cells #[.int .i64 bb, .int .i64 bs, .bool bw] 35)).alloc (.cells #[.int .i64 0, .int .i64 0, .bool false] 35)
        have B2 := (Blk.new2 w (.cells #[.int .i64 ab, .int .i64 az, .bool aw] 35) 35 #[.int .i64 bb, .int .i64 bs, .bool bw]).alloc (.cells #[.int .i64 0, .int .i64 0, .bool false] 35)
        have B3 := Blk.new3 w (.cells #[.int .i64 ab, .int .i64 az, .bool aw] 35) (.cells #[.int .i64 bb, .int .i64 bs, .bool bw] 35) 35 #[.int .i64 0, .int .i64 0, .bool false]
        skip
        skip
        go_enter Try.func24, Try.ntmps24
        go_wp2_with fail; refine (h1 _).mono ?_; rintro e w1 ⟨rfl, hbw1⟩; replace B1 := Blk.belowOf B1 hbw1 (by repeat (first | exact B1 | apply Blk.alloc | apply Blk.drew | (apply Blk.far; rotate_left; (first | assumption | exact Ne.symm (by assumption))) | apply Blk.set_)); replace B2 := Blk.belowOf B2 hbw1 (by repeat (first | exact B2 | apply Blk.alloc | apply Blk.drew | (apply Blk.far; rotate_left; (first | assumption | exact Ne.symm (by assumption))) | apply Blk.set_)); replace B3 := Blk.belowOf B3 hbw1 (by repeat (first | exact B3 | apply Blk.alloc | apply Blk.drew | (apply Blk.far; rotate_left; (first | assumption | exact Ne.symm (by assumption))) | apply Blk.set_))
        replace hb0 := thn hb0 hbw1
        have cB1_0 := B1.c0; have cB1_1 := B1.c1; have cB1_2 := B1.c2; have fB1 := B1.frozen; have cB2_0 := B2.c0; have cB2_1 := B2.c1; have cB2_2 := B2.c2; have fB2 := B2.frozen; have cB3_0 := B3.c0; have cB3_1 := B3.c1; have cB3_2 := B3.c2; have fB3 := B3.frozen
        go_wp2_with fail; refine (h2 _).mono ?_; rintro e w2 ⟨rfl, hbw2⟩; replace B1 := Blk.belowOf B1 hbw2 (by repeat (first | exact B1 | apply Blk.alloc | apply Blk.drew | (apply Blk.far; rotate_left; (first | assumption | exact Ne.symm (by assumption))) | apply Blk.set_)); replace B2 := Blk.belowOf B2 hbw2 (by repeat (first | exact B2 | apply Blk.alloc | apply Blk.drew | (apply Blk.far; rotate_left; (first | assumption | exact Ne.symm (by assumption))) | apply Blk.set_)); replace B3 := Blk.belowOf B3 hbw2 (by repeat (first | exact B3 | apply Blk.alloc | apply Blk.drew | (apply Blk.far; rotate_left; (first | assumption | exact Ne.symm (by assumption))) | apply Blk.set_))
        clear cB1_0 cB1_1 cB1_2 fB1 cB2_0 cB2_1 cB2_2 fB2 cB3_0 cB3_1 cB3_2 fB3
        replace hb0 := thn hb0 hbw2
        have cB1_0 := B1.c0; have cB1_1 := B1.c1; have cB1_2 := B1.c2; have fB1 := B1.frozen; have cB2_0 := B2.c0; have cB2_1 := B2.c1; have cB2_2 := B2.c2; have fB2 := B2.frozen; have cB3_0 := B3.c0; have cB3_1 := B3.c1; have cB3_2 := B3.c2; have fB3 := B3.frozen
        go_wp2
        exact bodyPost_ret (v := meetV (⟨0, 0, false⟩, false)) (by simp [results, Try.results24, go_sem, meetV, winV, cB3_0, cB3_1, cB3_2]) rfl ⟨by (rw [← HM.out]) <;> rfl, below_set3 hb0 (by omega) _ _ _⟩
    · rw [hv2] at h2
      rw [hv1, hv2, Bool.and_true, if_pos rfl] at hm
      rw [Win.ok_true] at hv1 hv2
      obtain ⟨ab, az, aw⟩ := a
      obtain ⟨bb, bs, bw⟩ := b
      obtain ⟨a1, a2, a3, a4⟩ := hv1
      obtain ⟨b1, b2, b3, b4⟩ := hv2
      simp only [winV, meetW, Win.lo, Win.hi] at hm h1 h2 a1 a2 a3 a4 b1 b2 b3 b4 ⊢
      by_cases hab : ab < bb
      · simp only [if_pos hab] at hm
        have HM := Lib.hid hm
        clear hm
        by_cases hhi : bb + bs < ab + az
        · simp only [if_pos hhi] at HM
          by_cases hc : bb + bs ≤ bb
          · exfalso; omega
          · cases aw
            · skip
              have hb0 := alo (alo (alo (Below.refl w.heap.size w) (.cells #[.int .i64 ab, .int .i64 az, .bool false] 35)) (.cells #[.int .i64 bb, .int .i64 bs, .bool bw] 35)) (.cells #[.int .i64 0, .int .i64 0, .bool false] 35)
              have B1 := ((Blk.new w 35 #[.int .i64 ab, .int .i64 az, .bool false]).alloc (.cells #[.int .i64 bb, .int .i64 bs, .bool bw] 35)).alloc (.cells #[.int .i64 0, .int .i64 0, .bool false] 35)
              have B2 := (Blk.new2 w (.cells #[.int .i64 ab, .int .i64 az, .bool false] 35) 35 #[.int .i64 bb, .int .i64 bs, .bool bw]).alloc (.cells #[.int .i64 0, .int .i64 0, .bool false] 35)
              have B3 := Blk.new3 w (.cells #[.int .i64 ab, .int .i64 az, .bool false] 35) (.cells #[.int .i64 bb, .int .i64 bs, .bool bw] 35) 35 #[.int .i64 0, .int .i64 0, .bool false]
              skip
              skip
              go_enter Try.func24, Try.ntmps24
              go_wp2_with fail; refine (h1 _).mono ?_; rintro e w1 ⟨rfl, hbw1⟩; replace B1 := Blk.belowOf B1 hbw1 (by repeat (first | exact B1 | apply Blk.alloc | apply Blk.drew | (apply Blk.far; rotate_left; (first | assumption | exact Ne.symm (by assumption))) | apply Blk.set_)); replace B2 := Blk.belowOf B2 hbw1 (by repeat (first | exact B2 | apply Blk.alloc | apply Blk.drew | (apply Blk.far; rotate_left; (first | assumption | exact Ne.symm (by assumption))) | apply Blk.set_)); replace B3 := Blk.belowOf B3 hbw1 (by repeat (first | exact B3 | apply Blk.alloc | apply Blk.drew | (apply Blk.far; rotate_left; (first | assumption | exact Ne.symm (by assumption))) | apply Blk.set_))
              replace hb0 := thn hb0 hbw1
              have cB1_0 := B1.c0; have cB1_1 := B1.c1; have cB1_2 := B1.c2; have fB1 := B1.frozen; have cB2_0 := B2.c0; have cB2_1 := B2.c1; have cB2_2 := B2.c2; have fB2 := B2.frozen; have cB3_0 := B3.c0; have cB3_1 := B3.c1; have cB3_2 := B3.c2; have fB3 := B3.frozen
              go_wp2_with fail; refine (h2 _).mono ?_; rintro e w2 ⟨rfl, hbw2⟩; replace B1 := Blk.belowOf B1 hbw2 (by repeat (first | exact B1 | apply Blk.alloc | apply Blk.drew | (apply Blk.far; rotate_left; (first | assumption | exact Ne.symm (by assumption))) | apply Blk.set_)); replace B2 := Blk.belowOf B2 hbw2 (by repeat (first | exact B2 | apply Blk.alloc | apply Blk.drew | (apply Blk.far; rotate_left; (first | assumption | exact Ne.symm (by assumption))) | apply Blk.set_)); replace B3 := Blk.belowOf B3 hbw2 (by repeat (first | exact B3 | apply Blk.alloc | apply Blk.drew | (apply Blk.far; rotate_left; (first | assumption | exact Ne.symm (by assumption))) | apply Blk.set_))
              clear cB1_0 cB1_1 cB1_2 fB1 cB2_0 cB2_1 cB2_2 fB2 cB3_0 cB3_1 cB3_2 fB3
              replace hb0 := thn hb0 hbw2
              have cB1_0 := B1.c0; have cB1_1 := B1.c1; have cB1_2 := B1.c2; have fB1 := B1.frozen; have cB2_0 := B2.c0; have cB2_1 := B2.c1; have cB2_2 := B2.c2; have fB2 := B2.frozen; have cB3_0 := B3.c0; have cB3_1 := B3.c1; have cB3_2 := B3.c2; have fB3 := B3.frozen
              go_wp2
              exact bodyPost_ret (v := meetV (⟨bb, bb + bs - bb, false⟩, true)) (by simp [results, Try.results24, go_sem, meetV, winV, cB3_0, cB3_1, cB3_2]) rfl ⟨by (rw [← HM.out, if_neg (by omega)]) <;> rfl, below_set3 hb0 (by omega) _ _ _⟩
            · skip
              have hb0 := alo (alo (alo (Below.refl w.heap.size w) (.cells #[.int .i64 ab, .int .i64 az, .bool true] 35)) (.cells #[.int .i64 bb, .int .i64 bs, .bool bw] 35)) (.cells #[.int .i64 0, .int .i64 0, .bool false] 35)
              have B1 := ((Blk.new w 35 #[.int .i64 ab, .int .i64 az, .bool true]).alloc (.cells #[.int .i64 bb, .int .i64 bs, .bool bw] 35)).alloc (.cells #[.int .i64 0, .int .i64 0, .bool false] 35)
              have B2 := (Blk.new2 w (.cells #[.int .i64 ab, .int .i64 az, .bool true] 35) 35 #[.int .i64 bb, .int .i64 bs, .bool bw]).alloc (.cells #[.int .i64 0, .int .i64 0, .bool false] 35)
              have B3 := Blk.new3 w (.cells #[.int .i64 ab, .int .i64 az, .bool true] 35) (.cells #[.int .i64 bb, .int .i64 bs, .bool bw] 35) 35 #[.int .i64 0, .int .i64 0, .bool false]
              skip
              skip
              go_enter Try.func24, Try.ntmps24
              go_wp2_with fail; refine (h1 _).mono ?_; rintro e w1 ⟨rfl, hbw1⟩; replace B1 := Blk.belowOf B1 hbw1 (by repeat (first | exact B1 | apply Blk.alloc | apply Blk.drew | (apply Blk.far; rotate_left; (first | assumption | exact Ne.symm (by assumption))) | apply Blk.set_)); replace B2 := Blk.belowOf B2 hbw1 (by repeat (first | exact B2 | apply Blk.alloc | apply Blk.drew | (apply Blk.far; rotate_left; (first | assumption | exact Ne.symm (by assumption))) | apply Blk.set_)); replace B3 := Blk.belowOf B3 hbw1 (by repeat (first | exact B3 | apply Blk.alloc | apply Blk.drew | (apply Blk.far; rotate_left; (first | assumption | exact Ne.symm (by assumption))) | apply Blk.set_))
              replace hb0 := thn hb0 hbw1
              have cB1_0 := B1.c0; have cB1_1 := B1.c1; have cB1_2 := B1.c2; have fB1 := B1.frozen; have cB2_0 := B2.c0; have cB2_1 := B2.c1; have cB2_2 := B2.c2; have fB2 := B2.frozen; have cB3_0 := B3.c0; have cB3_1 := B3.c1; have cB3_2 := B3.c2; have fB3 := B3.frozen
              go_wp2_with fail; refine (h2 _).mono ?_; rintro e w2 ⟨rfl, hbw2⟩; replace B1 := Blk.belowOf B1 hbw2 (by repeat (first | exact B1 | apply Blk.alloc | apply Blk.drew | (apply Blk.far; rotate_left; (first | assumption | exact Ne.symm (by assumption))) | apply Blk.set_)); replace B2 := Blk.belowOf B2 hbw2 (by repeat (first | exact B2 | apply Blk.alloc | apply Blk.drew | (apply Blk.far; rotate_left; (first | assumption | exact Ne.symm (by assumption))) | apply Blk.set_)); replace B3 := Blk.belowOf B3 hbw2 (by repeat (first | exact B3 | apply Blk.alloc | apply Blk.drew | (apply Blk.far; rotate_left; (first | assumption | exact Ne.symm (by assumption))) | apply Blk.set_))
              clear cB1_0 cB1_1 cB1_2 fB1 cB2_0 cB2_1 cB2_2 fB2 cB3_0 cB3_1 cB3_2 fB3
              replace hb0 := thn hb0 hbw2
              have cB1_0 := B1.c0; have cB1_1 := B1.c1; have cB1_2 := B1.c2; have fB1 := B1.frozen; have cB2_0 := B2.c0; have cB2_1 := B2.c1; have cB2_2 := B2.c2; have fB2 := B2.frozen; have cB3_0 := B3.c0; have cB3_1 := B3.c1; have cB3_2 := B3.c2; have fB3 := B3.frozen
              go_wp2
              exact bodyPost_ret (v := meetV (⟨bb, bb + bs - bb, bw⟩, true)) (by simp [results, Try.results24, go_sem, meetV, winV, cB3_0, cB3_1, cB3_2]) rfl ⟨by (rw [← HM.out, if_neg (by omega)]) <;> rfl, below_set3 hb0 (by omega) _ _ _⟩
        · simp only [if_neg hhi] at HM
          by_cases hc : ab + az ≤ bb
          · skip
            have hb0 := alo (alo (alo (Below.refl w.heap.size w) (.cells #[.int .i64 ab, .int .i64 az, .bool aw] 35)) (.cells #[.int .i64 bb, .int .i64 bs, .bool bw] 35)) (.cells #[.int .i64 0, .int .i64 0, .bool false] 35)
            have B1 := ((Blk.new w 35 #[.int .i64 ab, .int .i64 az, .bool aw]).alloc (.cells #[.int .i64 bb, .int .i64 bs, .bool bw] 35)).alloc (.cells #[.int .i64 0, .int .i64 0, .bool false] 35)
            have B2 := (Blk.new2 w (.cells #[.int .i64 ab, .int .i64 az, .bool aw] 35) 35 #[.int .i64 bb, .int .i64 bs, .bool bw]).alloc (.cells #[.int .i64 0, .int .i64 0, .bool false] 35)
            have B3 := Blk.new3 w (.cells #[.int .i64 ab, .int .i64 az, .bool aw] 35) (.cells #[.int .i64 bb, .int .i64 bs, .bool bw] 35) 35 #[.int .i64 0, .int .i64 0, .bool false]
            skip
            skip
            go_enter Try.func24, Try.ntmps24
            go_wp2_with fail; refine (h1 _).mono ?_; rintro e w1 ⟨rfl, hbw1⟩; replace B1 := Blk.belowOf B1 hbw1 (by repeat (first | exact B1 | apply Blk.alloc | apply Blk.drew | (apply Blk.far; rotate_left; (first | assumption | exact Ne.symm (by assumption))) | apply Blk.set_)); replace B2 := Blk.belowOf B2 hbw1 (by repeat (first | exact B2 | apply Blk.alloc | apply Blk.drew | (apply Blk.far; rotate_left; (first | assumption | exact Ne.symm (by assumption))) | apply Blk.set_)); replace B3 := Blk.belowOf B3 hbw1 (by repeat (first | exact B3 | apply Blk.alloc | apply Blk.drew | (apply Blk.far; rotate_left; (first | assumption | exact Ne.symm (by assumption))) | apply Blk.set_))
            replace hb0 := thn hb0 hbw1
            have cB1_0 := B1.c0; have cB1_1 := B1.c1; have cB1_2 := B1.c2; have fB1 := B1.frozen; have cB2_0 := B2.c0; have cB2_1 := B2.c1; have cB2_2 := B2.c2; have fB2 := B2.frozen; have cB3_0 := B3.c0; have cB3_1 := B3.c1; have cB3_2 := B3.c2; have fB3 := B3.frozen
            go_wp2_with fail; refine (h2 _).mono ?_; rintro e w2 ⟨rfl, hbw2⟩; replace B1 := Blk.belowOf B1 hbw2 (by repeat (first | exact B1 | apply Blk.alloc | apply Blk.drew | (apply Blk.far; rotate_left; (first | assumption | exact Ne.symm (by assumption))) | apply Blk.set_)); replace B2 := Blk.belowOf B2 hbw2 (by repeat (first | exact B2 | apply Blk.alloc | apply Blk.drew | (apply Blk.far; rotate_left; (first | assumption | exact Ne.symm (by assumption))) | apply Blk.set_)); replace B3 := Blk.belowOf B3 hbw2 (by repeat (first | exact B3 | apply Blk.alloc | apply Blk.drew | (apply Blk.far; rotate_left; (first | assumption | exact Ne.symm (by assumption))) | apply Blk.set_))
            clear cB1_0 cB1_1 cB1_2 fB1 cB2_0 cB2_1 cB2_2 fB2 cB3_0 cB3_1 cB3_2 fB3
            replace hb0 := thn hb0 hbw2
            have cB1_0 := B1.c0; have cB1_1 := B1.c1; have cB1_2 := B1.c2; have fB1 := B1.frozen; have cB2_0 := B2.c0; have cB2_1 := B2.c1; have cB2_2 := B2.c2; have fB2 := B2.frozen; have cB3_0 := B3.c0; have cB3_1 := B3.c1; have cB3_2 := B3.c2; have fB3 := B3.frozen
            go_wp2
            exact bodyPost_ret (v := meetV (⟨0, 0, false⟩, false)) (by simp [results, Try.results24, go_sem, meetV, winV, cB3_0, cB3_1, cB3_2]) rfl ⟨by (rw [← HM.out, if_pos hc]) <;> rfl, below_set3 hb0 (by omega) _ _ _⟩
          · cases aw
            · skip
              have hb0 := alo (alo (alo (Below.refl w.heap.size w) (.cells #[.int .i64 ab, .int .i64 az, .bool false] 35)) (.cells #[.int .i64 bb, .int .i64 bs, .bool bw] 35)) (.cells #[.int .i64 0, .int .i64 0, .bool false] 35)
              have B1 := ((Blk.new w 35 #[.int .i64 ab, .int .i64 az, .bool false]).alloc (.cells #[.int .i64 bb, .int .i64 bs, .bool bw] 35)).alloc (.cells #[.int .i64 0, .int .i64 0, .bool false] 35)
              have B2 := (Blk.new2 w (.cells #[.int .i64 ab, .int .i64 az, .bool false] 35) 35 #[.int .i64 bb, .int .i64 bs, .bool bw]).alloc (.cells #[.int .i64 0, .int .i64 0, .bool false] 35)
              have B3 := Blk.new3 w (.cells #[.int .i64 ab, .int .i64 az, .bool false] 35) (.cells #[.int .i64 bb, .int .i64 bs, .bool bw] 35) 35 #[.int .i64 0, .int .i64 0, .bool false]
              skip
              skip
              go_enter Try.func24, Try.ntmps24
              go_wp2_with fail; refine (h1 _).mono ?_; rintro e w1 ⟨rfl, hbw1⟩; replace B1 := Blk.belowOf B1 hbw1 (by repeat (first | exact B1 | apply Blk.alloc | apply Blk.drew | (apply Blk.far; rotate_left; (first | assumption | exact Ne.symm (by assumption))) | apply Blk.set_)); replace B2 := Blk.belowOf B2 hbw1 (by repeat (first | exact B2 | apply Blk.alloc | apply Blk.drew | (apply Blk.far; rotate_left; (first | assumption | exact Ne.symm (by assumption))) | apply Blk.set_)); replace B3 := Blk.belowOf B3 hbw1 (by repeat (first | exact B3 | apply Blk.alloc | apply Blk.drew | (apply Blk.far; rotate_left; (first | assumption | exact Ne.symm (by assumption))) | apply Blk.set_))
              replace hb0 := thn hb0 hbw1
              have cB1_0 := B1.c0; have cB1_1 := B1.c1; have cB1_2 := B1.c2; have fB1 := B1.frozen; have cB2_0 := B2.c0; have cB2_1 := B2.c1; have cB2_2 := B2.c2; have fB2 := B2.frozen; have cB3_0 := B3.c0; have cB3_1 := B3.c1; have cB3_2 := B3.c2; have fB3 := B3.frozen
              go_wp2_with fail; refine (h2 _).mono ?_; rintro e w2 ⟨rfl, hbw2⟩; replace B1 := Blk.belowOf B1 hbw2 (by repeat (first | exact B1 | apply Blk.alloc | apply Blk.drew | (apply Blk.far; rotate_left; (first | assumption | exact Ne.symm (by assumption))) | apply Blk.set_)); replace B2 := Blk.belowOf B2 hbw2 (by repeat (first | exact B2 | apply Blk.alloc | apply Blk.drew | (apply Blk.far; rotate_left; (first | assumption | exact Ne.symm (by assumption))) | apply Blk.set_)); replace B3 := Blk.belowOf B3 hbw2 (by repeat (first | exact B3 | apply Blk.alloc | apply Blk.drew | (apply Blk.far; rotate_left; (first | assumption | exact Ne.symm (by assumption))) | apply Blk.set_))
              clear cB1_0 cB1_1 cB1_2 fB1 cB2_0 cB2_1 cB2_2 fB2 cB3_0 cB3_1 cB3_2 fB3
              replace hb0 := thn hb0 hbw2
              have cB1_0 := B1.c0; have cB1_1 := B1.c1; have cB1_2 := B1.c2; have fB1 := B1.frozen; have cB2_0 := B2.c0; have cB2_1 := B2.c1; have cB2_2 := B2.c2; have fB2 := B2.frozen; have cB3_0 := B3.c0; have cB3_1 := B3.c1; have cB3_2 := B3.c2; have fB3 := B3.frozen
              go_wp2
              exact bodyPost_ret (v := meetV (⟨bb, ab + az - bb, false⟩, true)) (by simp [results, Try.results24, go_sem, meetV, winV, cB3_0, cB3_1, cB3_2]) rfl ⟨by (rw [← HM.out, if_neg (by omega)]) <;> rfl, below_set3 hb0 (by omega) _ _ _⟩
            · skip
              have hb0 := alo (alo (alo (Below.refl w.heap.size w) (.cells #[.int .i64 ab, .int .i64 az, .bool true] 35)) (.cells #[.int .i64 bb, .int .i64 bs, .bool bw] 35)) (.cells #[.int .i64 0, .int .i64 0, .bool false] 35)
              have B1 := ((Blk.new w 35 #[.int .i64 ab, .int .i64 az, .bool true]).alloc (.cells #[.int .i64 bb, .int .i64 bs, .bool bw] 35)).alloc (.cells #[.int .i64 0, .int .i64 0, .bool false] 35)
              have B2 := (Blk.new2 w (.cells #[.int .i64 ab, .int .i64 az, .bool true] 35) 35 #[.int .i64 bb, .int .i64 bs, .bool bw]).alloc (.cells #[.int .i64 0, .int .i64 0, .bool false] 35)
              have B3 := Blk.new3 w (.cells #[.int .i64 ab, .int .i64 az, .bool true] 35) (.cells #[.int .i64 bb, .int .i64 bs, .bool bw] 35) 35 #[.int .i64 0, .int .i64 0, .bool false]
              skip
              skip
              go_enter Try.func24, Try.ntmps24
              go_wp2_with fail; refine (h1 _).mono ?_; rintro e w1 ⟨rfl, hbw1⟩; replace B1 := Blk.belowOf B1 hbw1 (by repeat (first | exact B1 | apply Blk.alloc | apply Blk.drew | (apply Blk.far; rotate_left; (first | assumption | exact Ne.symm (by assumption))) | apply Blk.set_)); replace B2 := Blk.belowOf B2 hbw1 (by repeat (first | exact B2 | apply Blk.alloc | apply Blk.drew | (apply Blk.far; rotate_left; (first | assumption | exact Ne.symm (by assumption))) | apply Blk.set_)); replace B3 := Blk.belowOf B3 hbw1 (by repeat (first | exact B3 | apply Blk.alloc | apply Blk.drew | (apply Blk.far; rotate_left; (first | assumption | exact Ne.symm (by assumption))) | apply Blk.set_))
              replace hb0 := thn hb0 hbw1
              have cB1_0 := B1.c0; have cB1_1 := B1.c1; have cB1_2 := B1.c2; have fB1 := B1.frozen; have cB2_0 := B2.c0; have cB2_1 := B2.c1; have cB2_2 := B2.c2; have fB2 := B2.frozen; have cB3_0 := B3.c0; have cB3_1 := B3.c1; have cB3_2 := B3.c2; have fB3 := B3.frozen
              go_wp2_with fail; refine (h2 _).mono ?_; rintro e w2 ⟨rfl, hbw2⟩; replace B1 := Blk.belowOf B1 hbw2 (by repeat (first | exact B1 | apply Blk.alloc | apply Blk.drew | (apply Blk.far; rotate_left; (first | assumption | exact Ne.symm (by assumption))) | apply Blk.set_)); replace B2 := Blk.belowOf B2 hbw2 (by repeat (first | exact B2 | apply Blk.alloc | apply Blk.drew | (apply Blk.far; rotate_left; (first | assumption | exact Ne.symm (by assumption))) | apply Blk.set_)); replace B3 := Blk.belowOf B3 hbw2 (by repeat (first | exact B3 | apply Blk.alloc | apply Blk.drew | (apply Blk.far; rotate_left; (first | assumption | exact Ne.symm (by assumption))) | apply Blk.set_))
              clear cB1_0 cB1_1 cB1_2 fB1 cB2_0 cB2_1 cB2_2 fB2 cB3_0 cB3_1 cB3_2 fB3
              replace hb0 := thn hb0 hbw2
              have cB1_0 := B1.c0; have cB1_1 := B1.c1; have cB1_2 := B1.c2; have fB1 := B1.frozen; have cB2_0 := B2.c0; have cB2_1 := B2.c1; have cB2_2 := B2.c2; have fB2 := B2.frozen; have cB3_0 := B3.c0; have cB3_1 := B3.c1; have cB3_2 := B3.c2; have fB3 := B3.frozen
              go_wp2
              exact bodyPost_ret (v := meetV (⟨bb, ab + az - bb, bw⟩, true)) (by simp [results, Try.results24, go_sem, meetV, winV, cB3_0, cB3_1, cB3_2]) rfl ⟨by (rw [← HM.out, if_neg (by omega)]) <;> rfl, below_set3 hb0 (by omega) _ _ _⟩
      · simp only [if_neg hab] at hm
        have HM := Lib.hid hm
        clear hm
        by_cases hhi : bb + bs < ab + az
        · simp only [if_pos hhi] at HM
          by_cases hc : bb + bs ≤ ab
          · skip
            have hb0 := alo (alo (alo (Below.refl w.heap.size w) (.cells #[.int .i64 ab, .int .i64 az, .bool aw] 35)) (.cells #[.int .i64 bb, .int .i64 bs, .bool bw] 35)) (.cells #[.int .i64 0, .int .i64 0, .bool false] 35)
            have B1 := ((Blk.new w 35 #[.int .i64 ab, .int .i64 az, .bool aw]).alloc (.cells #[.int .i64 bb, .int .i64 bs, .bool bw] 35)).alloc (.cells #[.int .i64 0, .int .i64 0, .bool false] 35)
            have B2 := (Blk.new2 w (.cells #[.int .i64 ab, .int .i64 az, .bool aw] 35) 35 #[.int .i64 bb, .int .i64 bs, .bool bw]).alloc (.cells #[.int .i64 0, .int .i64 0, .bool false] 35)
            have B3 := Blk.new3 w (.cells #[.int .i64 ab, .int .i64 az, .bool aw] 35) (.cells #[.int .i64 bb, .int .i64 bs, .bool bw] 35) 35 #[.int .i64 0, .int .i64 0, .bool false]
            skip
            skip
            go_enter Try.func24, Try.ntmps24
            go_wp2_with fail; refine (h1 _).mono ?_; rintro e w1 ⟨rfl, hbw1⟩; replace B1 := Blk.belowOf B1 hbw1 (by repeat (first | exact B1 | apply Blk.alloc | apply Blk.drew | (apply Blk.far; rotate_left; (first | assumption | exact Ne.symm (by assumption))) | apply Blk.set_)); replace B2 := Blk.belowOf B2 hbw1 (by repeat (first | exact B2 | apply Blk.alloc | apply Blk.drew | (apply Blk.far; rotate_left; (first | assumption | exact Ne.symm (by assumption))) | apply Blk.set_)); replace B3 := Blk.belowOf B3 hbw1 (by repeat (first | exact B3 | apply Blk.alloc | apply Blk.drew | (apply Blk.far; rotate_left; (first | assumption | exact Ne.symm (by assumption))) | apply Blk.set_))
            replace hb0 := thn hb0 hbw1
            have cB1_0 := B1.c0; have cB1_1 := B1.c1; have cB1_2 := B1.c2; have fB1 := B1.frozen; have cB2_0 := B2.c0; have cB2_1 := B2.c1; have cB2_2 := B2.c2; have fB2 := B2.frozen; have cB3_0 := B3.c0; have cB3_1 := B3.c1; have cB3_2 := B3.c2; have fB3 := B3.frozen
            go_wp2_with fail; refine (h2 _).mono ?_; rintro e w2 ⟨rfl, hbw2⟩; replace B1 := Blk.belowOf B1 hbw2 (by repeat (first | exact B1 | apply Blk.alloc | apply Blk.drew | (apply Blk.far; rotate_left; (first | assumption | exact Ne.symm (by assumption))) | apply Blk.set_)); replace B2 := Blk.belowOf B2 hbw2 (by repeat (first | exact B2 | apply Blk.alloc | apply Blk.drew | (apply Blk.far; rotate_left; (first | assumption | exact Ne.symm (by assumption))) | apply Blk.set_)); replace B3 := Blk.belowOf B3 hbw2 (by repeat (first | exact B3 | apply Blk.alloc | apply Blk.drew | (apply Blk.far; rotate_left; (first | assumption | exact Ne.symm (by assumption))) | apply Blk.set_))
            clear cB1_0 cB1_1 cB1_2 fB1 cB2_0 cB2_1 cB2_2 fB2 cB3_0 cB3_1 cB3_2 fB3
            replace hb0 := thn hb0 hbw2
            have cB1_0 := B1.c0; have cB1_1 := B1.c1; have cB1_2 := B1.c2; have fB1 := B1.frozen; have cB2_0 := B2.c0; have cB2_1 := B2.c1; have cB2_2 := B2.c2; have fB2 := B2.frozen; have cB3_0 := B3.c0; have cB3_1 := B3.c1; have cB3_2 := B3.c2; have fB3 := B3.frozen
            go_wp2
            exact bodyPost_ret (v := meetV (⟨0, 0, false⟩, false)) (by simp [results, Try.results24, go_sem, meetV, winV, cB3_0, cB3_1, cB3_2]) rfl ⟨by (rw [← HM.out, if_pos hc]) <;> rfl, below_set3 hb0 (by omega) _ _ _⟩
          · cases aw
            · skip
              have hb0 := alo (alo (alo (Below.refl w.heap.size w) (.cells #[.int .i64 ab, .int .i64 az, .bool false] 35)) (.cells #[.int .i64 bb, .int .i64 bs, .bool bw] 35)) (.cells #[.int .i64 0, .int .i64 0, .bool false] 35)
              have B1 := ((Blk.new w 35 #[.int .i64 ab, .int .i64 az, .bool false]).alloc (.cells #[.int .i64 bb, .int .i64 bs, .bool bw] 35)).alloc (.cells #[.int .i64 0, .int .i64 0, .bool false] 35)
              have B2 := (Blk.new2 w (.cells #[.int .i64 ab, .int .i64 az, .bool false] 35) 35 #[.int .i64 bb, .int .i64 bs, .bool bw]).alloc (.cells #[.int .i64 0, .int .i64 0, .bool false] 35)
              have B3 := Blk.new3 w (.cells #[.int .i64 ab, .int .i64 az, .bool false] 35) (.cells #[.int .i64 bb, .int .i64 bs, .bool bw] 35) 35 #[.int .i64 0, .int .i64 0, .bool false]
              skip
              skip
              go_enter Try.func24, Try.ntmps24
              go_wp2_with fail; refine (h1 _).mono ?_; rintro e w1 ⟨rfl, hbw1⟩; replace B1 := Blk.belowOf B1 hbw1 (by repeat (first | exact B1 | apply Blk.alloc | apply Blk.drew | (apply Blk.far; rotate_left; (first | assumption | exact Ne.symm (by assumption))) | apply Blk.set_)); replace B2 := Blk.belowOf B2 hbw1 (by repeat (first | exact B2 | apply Blk.alloc | apply Blk.drew | (apply Blk.far; rotate_left; (first | assumption | exact Ne.symm (by assumption))) | apply Blk.set_)); replace B3 := Blk.belowOf B3 hbw1 (by repeat (first | exact B3 | apply Blk.alloc | apply Blk.drew | (apply Blk.far; rotate_left; (first | assumption | exact Ne.symm (by assumption))) | apply Blk.set_))
              replace hb0 := thn hb0 hbw1
              have cB1_0 := B1.c0; have cB1_1 := B1.c1; have cB1_2 := B1.c2; have fB1 := B1.frozen; have cB2_0 := B2.c0; have cB2_1 := B2.c1; have cB2_2 := B2.c2; have fB2 := B2.frozen; have cB3_0 := B3.c0; have cB3_1 := B3.c1; have cB3_2 := B3.c2; have fB3 := B3.frozen
              go_wp2_with fail; refine (h2 _).mono ?_; rintro e w2 ⟨rfl, hbw2⟩; replace B1 := Blk.belowOf B1 hbw2 (by repeat (first | exact B1 | apply Blk.alloc | apply Blk.drew | (apply Blk.far; rotate_left; (first | assumption | exact Ne.symm (by assumption))) | apply Blk.set_)); replace B2 := Blk.belowOf B2 hbw2 (by repeat (first | exact B2 | apply Blk.alloc | apply Blk.drew | (apply Blk.far; rotate_left; (first | assumption | exact Ne.symm (by assumption))) | apply Blk.set_)); replace B3 := Blk.belowOf B3 hbw2 (by repeat (first | exact B3 | apply Blk.alloc | apply Blk.drew | (apply Blk.far; rotate_left; (first | assumption | exact Ne.symm (by assumption))) | apply Blk.set_))
              clear cB1_0 cB1_1 cB1_2 fB1 cB2_0 cB2_1 cB2_2 fB2 cB3_0 cB3_1 cB3_2 fB3
              replace hb0 := thn hb0 hbw2
              have cB1_0 := B1.c0; have cB1_1 := B1.c1; have cB1_2 := B1.c2; have fB1 := B1.frozen; have cB2_0 := B2.c0; have cB2_1 := B2.c1; have cB2_2 := B2.c2; have fB2 := B2.frozen; have cB3_0 := B3.c0; have cB3_1 := B3.c1; have cB3_2 := B3.c2; have fB3 := B3.frozen
              go_wp2
              exact bodyPost_ret (v := meetV (⟨ab, bb + bs - ab, false⟩, true)) (by simp [results, Try.results24, go_sem, meetV, winV, cB3_0, cB3_1, cB3_2]) rfl ⟨by (rw [← HM.out, if_neg (by omega)]) <;> rfl, below_set3 hb0 (by omega) _ _ _⟩
            · skip
              have hb0 := alo (alo (alo (Below.refl w.heap.size w) (.cells #[.int .i64 ab, .int .i64 az, .bool true] 35)) (.cells #[.int .i64 bb, .int .i64 bs, .bool bw] 35)) (.cells #[.int .i64 0, .int .i64 0, .bool false] 35)
              have B1 := ((Blk.new w 35 #[.int .i64 ab, .int .i64 az, .bool true]).alloc (.cells #[.int .i64 bb, .int .i64 bs, .bool bw] 35)).alloc (.cells #[.int .i64 0, .int .i64 0, .bool false] 35)
              have B2 := (Blk.new2 w (.cells #[.int .i64 ab, .int .i64 az, .bool true] 35) 35 #[.int .i64 bb, .int .i64 bs, .bool bw]).alloc (.cells #[.int .i64 0, .int .i64 0, .bool false] 35)
              have B3 := Blk.new3 w (.cells #[.int .i64 ab, .int .i64 az, .bool true] 35) (.cells #[.int .i64 bb, .int .i64 bs, .bool bw] 35) 35 #[.int .i64 0, .int .i64 0, .bool false]
              skip
              skip
              go_enter Try.func24, Try.ntmps24
              go_wp2_with fail; refine (h1 _).mono ?_; rintro e w1 ⟨rfl, hbw1⟩; replace B1 := Blk.belowOf B1 hbw1 (by repeat (first | exact B1 | apply Blk.alloc | apply Blk.drew | (apply Blk.far; rotate_left; (first | assumption | exact Ne.symm (by assumption))) | apply Blk.set_)); replace B2 := Blk.belowOf B2 hbw1 (by repeat (first | exact B2 | apply Blk.alloc | apply Blk.drew | (apply Blk.far; rotate_left; (first | assumption | exact Ne.symm (by assumption))) | apply Blk.set_)); replace B3 := Blk.belowOf B3 hbw1 (by repeat (first | exact B3 | apply Blk.alloc | apply Blk.drew | (apply Blk.far; rotate_left; (first | assumption | exact Ne.symm (by assumption))) | apply Blk.set_))
              replace hb0 := thn hb0 hbw1
              have cB1_0 := B1.c0; have cB1_1 := B1.c1; have cB1_2 := B1.c2; have fB1 := B1.frozen; have cB2_0 := B2.c0; have cB2_1 := B2.c1; have cB2_2 := B2.c2; have fB2 := B2.frozen; have cB3_0 := B3.c0; have cB3_1 := B3.c1; have cB3_2 := B3.c2; have fB3 := B3.frozen
              go_wp2_with fail; refine (h2 _).mono ?_; rintro e w2 ⟨rfl, hbw2⟩; replace B1 := Blk.belowOf B1 hbw2 (by repeat (first | exact B1 | apply Blk.alloc | apply Blk.drew | (apply Blk.far; rotate_left; (first | assumption | exact Ne.symm (by assumption))) | apply Blk.set_)); replace B2 := Blk.belowOf B2 hbw2 (by repeat (first | exact B2 | apply Blk.alloc | apply Blk.drew | (apply Blk.far; rotate_left; (first | assumption | exact Ne.symm (by assumption))) | apply Blk.set_)); replace B3 := Blk.belowOf B3 hbw2 (by repeat (first | exact B3 | apply Blk.alloc | apply Blk.drew | (apply Blk.far; rotate_left; (first | assumption | exact Ne.symm (by assumption))) | apply Blk.set_))
              clear cB1_0 cB1_1 cB1_2 fB1 cB2_0 cB2_1 cB2_2 fB2 cB3_0 cB3_1 cB3_2 fB3
              replace hb0 := thn hb0 hbw2
              have cB1_0 := B1.c0; have cB1_1 := B1.c1; have cB1_2 := B1.c2; have fB1 := B1.frozen; have cB2_0 := B2.c0; have cB2_1 := B2.c1; have cB2_2 := B2.c2; have fB2 := B2.frozen; have cB3_0 := B3.c0; have cB3_1 := B3.c1; have cB3_2 := B3.c2; have fB3 := B3.frozen
              go_wp2
              exact bodyPost_ret (v := meetV (⟨ab, bb + bs - ab, bw⟩, true)) (by simp [results, Try.results24, go_sem, meetV, winV, cB3_0, cB3_1, cB3_2]) rfl ⟨by (rw [← HM.out, if_neg (by omega)]) <;> rfl, below_set3 hb0 (by omega) _ _ _⟩
        · simp only [if_neg hhi] at HM
          by_cases hc : ab + az ≤ ab
          · exfalso; omega
          · cases aw
            · skip
              have hb0 := alo (alo (alo (Below.refl w.heap.size w) (.cells #[.int .i64 ab, .int .i64 az, .bool false] 35)) (.cells #[.int .i64 bb, .int .i64 bs, .bool bw] 35)) (.cells #[.int .i64 0, .int .i64 0, .bool false] 35)
              have B1 := ((Blk.new w 35 #[.int .i64 ab, .int .i64 az, .bool false]).alloc (.cells #[.int .i64 bb, .int .i64 bs, .bool bw] 35)).alloc (.cells #[.int .i64 0, .int .i64 0, .bool false] 35)
              have B2 := (Blk.new2 w (.cells #[.int .i64 ab, .int .i64 az, .bool false] 35) 35 #[.int .i64 bb, .int .i64 bs, .bool bw]).alloc (.cells #[.int .i64 0, .int .i64 0, .bool false] 35)
              have B3 := Blk.new3 w (.cells #[.int .i64 ab, .int .i64 az, .bool false] 35) (.cells #[.int .i64 bb, .int .i64 bs, .bool bw] 35) 35 #[.int .i64 0, .int .i64 0, .bool false]
              skip
              skip
              go_enter Try.func24, Try.ntmps24
              go_wp2_with fail; refine (h1 _).mono ?_; rintro e w1 ⟨rfl, hbw1⟩; replace B1 := Blk.belowOf B1 hbw1 (by repeat (first | exact B1 | apply Blk.alloc | apply Blk.drew | (apply Blk.far; rotate_left; (first | assumption | exact Ne.symm (by assumption))) | apply Blk.set_)); replace B2 := Blk.belowOf B2 hbw1 (by repeat (first | exact B2 | apply Blk.alloc | apply Blk.drew | (apply Blk.far; rotate_left; (first | assumption | exact Ne.symm (by assumption))) | apply Blk.set_)); replace B3 := Blk.belowOf B3 hbw1 (by repeat (first | exact B3 | apply Blk.alloc | apply Blk.drew | (apply Blk.far; rotate_left; (first | assumption | exact Ne.symm (by assumption))) | apply Blk.set_))
              replace hb0 := thn hb0 hbw1
              have cB1_0 := B1.c0; have cB1_1 := B1.c1; have cB1_2 := B1.c2; have fB1 := B1.frozen; have cB2_0 := B2.c0; have cB2_1 := B2.c1; have cB2_2 := B2.c2; have fB2 := B2.frozen; have cB3_0 := B3.c0; have cB3_1 := B3.c1; have cB3_2 := B3.c2; have fB3 := B3.frozen
              go_wp2_with fail; refine (h2 _).mono ?_; rintro e w2 ⟨rfl, hbw2⟩; replace B1 := Blk.belowOf B1 hbw2 (by repeat (first | exact B1 | apply Blk.alloc | apply Blk.drew | (apply Blk.far; rotate_left; (first | assumption | exact Ne.symm (by assumption))) | apply Blk.set_)); replace B2 := Blk.belowOf B2 hbw2 (by repeat (first | exact B2 | apply Blk.alloc | apply Blk.drew | (apply Blk.far; rotate_left; (first | assumption | exact Ne.symm (by assumption))) | apply Blk.set_)); replace B3 := Blk.belowOf B3 hbw2 (by repeat (first | exact B3 | apply Blk.alloc | apply Blk.drew | (apply Blk.far; rotate_left; (first | assumption | exact Ne.symm (by assumption))) | apply Blk.set_))
              clear cB1_0 cB1_1 cB1_2 fB1 cB2_0 cB2_1 cB2_2 fB2 cB3_0 cB3_1 cB3_2 fB3
              replace hb0 := thn hb0 hbw2
              have cB1_0 := B1.c0; have cB1_1 := B1.c1; have cB1_2 := B1.c2; have fB1 := B1.frozen; have cB2_0 := B2.c0; have cB2_1 := B2.c1; have cB2_2 := B2.c2; have fB2 := B2.frozen; have cB3_0 := B3.c0; have cB3_1 := B3.c1; have cB3_2 := B3.c2; have fB3 := B3.frozen
              go_wp2
              exact bodyPost_ret (v := meetV (⟨ab, ab + az - ab, false⟩, true)) (by simp [results, Try.results24, go_sem, meetV, winV, cB3_0, cB3_1, cB3_2]) rfl ⟨by (rw [← HM.out, if_neg (by omega)]) <;> rfl, below_set3 hb0 (by omega) _ _ _⟩
            · skip
              have hb0 := alo (alo (alo (Below.refl w.heap.size w) (.cells #[.int .i64 ab, .int .i64 az, .bool true] 35)) (.cells #[.int .i64 bb, .int .i64 bs, .bool bw] 35)) (.cells #[.int .i64 0, .int .i64 0, .bool false] 35)
              have B1 := ((Blk.new w 35 #[.int .i64 ab, .int .i64 az, .bool true]).alloc (.cells #[.int .i64 bb, .int .i64 bs, .bool bw] 35)).alloc (.cells #[.int .i64 0, .int .i64 0, .bool false] 35)
              have B2 := (Blk.new2 w (.cells #[.int .i64 ab, .int .i64 az, .bool true] 35) 35 #[.int .i64 bb, .int .i64 bs, .bool bw]).alloc (.cells #[.int .i64 0, .int .i64 0, .bool false] 35)
              have B3 := Blk.new3 w (.cells #[.int .i64 ab, .int .i64 az, .bool true] 35) (.cells #[.int .i64 bb, .int .i64 bs, .bool bw] 35) 35 #[.int .i64 0, .int .i64 0, .bool false]
              skip
              skip
              go_enter Try.func24, Try.ntmps24
              go_wp2_with fail; refine (h1 _).mono ?_; rintro e w1 ⟨rfl, hbw1⟩; replace B1 := Blk.belowOf B1 hbw1 (by repeat (first | exact B1 | apply Blk.alloc | apply Blk.drew | (apply Blk.far; rotate_left; (first | assumption | exact Ne.symm (by assumption))) | apply Blk.set_)); replace B2 := Blk.belowOf B2 hbw1 (by repeat (first | exact B2 | apply Blk.alloc | apply Blk.drew | (apply Blk.far; rotate_left; (first | assumption | exact Ne.symm (by assumption))) | apply Blk.set_)); replace B3 := Blk.belowOf B3 hbw1 (by repeat (first | exact B3 | apply Blk.alloc | apply Blk.drew | (apply Blk.far; rotate_left; (first | assumption | exact Ne.symm (by assumption))) | apply Blk.set_))
              replace hb0 := thn hb0 hbw1
              have cB1_0 := B1.c0; have cB1_1 := B1.c1; have cB1_2 := B1.c2; have fB1 := B1.frozen; have cB2_0 := B2.c0; have cB2_1 := B2.c1; have cB2_2 := B2.c2; have fB2 := B2.frozen; have cB3_0 := B3.c0; have cB3_1 := B3.c1; have cB3_2 := B3.c2; have fB3 := B3.frozen
              go_wp2_with fail; refine (h2 _).mono ?_; rintro e w2 ⟨rfl, hbw2⟩; replace B1 := Blk.belowOf B1 hbw2 (by repeat (first | exact B1 | apply Blk.alloc | apply Blk.drew | (apply Blk.far; rotate_left; (first | assumption | exact Ne.symm (by assumption))) | apply Blk.set_)); replace B2 := Blk.belowOf B2 hbw2 (by repeat (first | exact B2 | apply Blk.alloc | apply Blk.drew | (apply Blk.far; rotate_left; (first | assumption | exact Ne.symm (by assumption))) | apply Blk.set_)); replace B3 := Blk.belowOf B3 hbw2 (by repeat (first | exact B3 | apply Blk.alloc | apply Blk.drew | (apply Blk.far; rotate_left; (first | assumption | exact Ne.symm (by assumption))) | apply Blk.set_))
              clear cB1_0 cB1_1 cB1_2 fB1 cB2_0 cB2_1 cB2_2 fB2 cB3_0 cB3_1 cB3_2 fB3
              replace hb0 := thn hb0 hbw2
              have cB1_0 := B1.c0; have cB1_1 := B1.c1; have cB1_2 := B1.c2; have fB1 := B1.frozen; have cB2_0 := B2.c0; have cB2_1 := B2.c1; have cB2_2 := B2.c2; have fB2 := B2.frozen; have cB3_0 := B3.c0; have cB3_1 := B3.c1; have cB3_2 := B3.c2; have fB3 := B3.frozen
              go_wp2
              exact bodyPost_ret (v := meetV (⟨ab, ab + az - ab, bw⟩, true)) (by simp [results, Try.results24, go_sem, meetV, winV, cB3_0, cB3_1, cB3_2]) rfl ⟨by (rw [← HM.out, if_neg (by omega)]) <;> rfl, below_set3 hb0 (by omega) _ _ _⟩
end Go.Proofs.Ytmlodhogfejdjaa
