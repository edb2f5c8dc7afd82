/- Interrupt lines drawn: DrawNextLine, DrawServeLine, DrawRaiseLine. -/
import Derived.Test.YtffhcifeccdfjaaDoorServe
import Derived.Deep.RegionWith
namespace Go.Proofs.YtffhcifeccdfjaaDoor
set_option linter.unusedVariables false
set_option linter.unusedSimpArgs false
open Go.RowKit

theorem drawNextLine_any (A : Option Addr) (n c : Nat) (zs : List Int) (w : World) (h : Code w A n c zs) :
    Calls Tryd.prog 7 #[.slice A n c] w (Post lnV fun _ w' => Below w.heap.size w w') := by
  obtain ⟨r, hr, hrw⟩ : ∃ r, w.heap.size + 1 = r ∧ w.heap.size < r := ⟨_, rfl, Nat.lt_succ_self _⟩
  have B1 := Blk.new w 24 #[.int .i64 0, .int .i64 0]
  have hopen := open_at r A n c zs (w.alloc (.cells #[.int .i64 0, .int .i64 0] 24)) (h.below ((Below.refl _ _).alloc (Nat.le_refl _) _)) (by simpa using hr)
  clear h
  go_enter Tryd.func7, Tryd.ntmps7
  go_wp2_with fail
  refine hopen.mono ?_
  rintro e w0 ⟨rfl, hrd, hb, hsz⟩
  clear hopen
  replace B1 := B1.below (hb.mono (by simp; omega))
  clear hr
  replace hb := ((Below.refl _ _).alloc (Nat.le_refl _) _).trans (hb.mono (Nat.le_of_lt hrw))
  have nB1 := Nat.ne_of_lt hrw
  replace hrw := Nat.le_of_lt hrw
  have hS := Stp.refl hrd
  have hr0 := hrd.lt
  clear hrd
  go_wp2_with fail; refine (l20Lines_any r 9 _ _ (by repeat (first | exact hS.rd | apply Rd.drew | apply Rd.alloc | (apply Rd.setCell; rotate_left; assumption))) (by omega) (by omega)).mono ?_; rintro e w1 ⟨⟨x, y⟩, rfl, hs⟩; replace B1 := Blk.stpOf B1 hs (by repeat (first | exact B1 | apply Blk.alloc | apply Blk.drew | (apply Blk.far; rotate_left; (first | assumption | exact Ne.symm (by assumption))) | apply Blk.set_)) (by assumption); replace hS := Stp.trans (by repeat (first | exact hS | apply Stp.drew | apply Stp.alloc | (apply Stp.set; assumption; assumption))) hs; clear hs
  have hBel := hS.belowT (a := w) (B := w.heap.size) hb (by assumption) hb.size
  have cB1_0 := B1.c0; have cB1_1 := B1.c1; have fB1 := B1.frozen
  go_wp2
  exact bodyPost_ret (v := lnV (x, y)) (by simp [results, Tryd.results7, go_sem, lnV, cB1_0, cB1_1]) rfl ⟨(x, y), rfl, (by repeat (first | exact Below.refl _ _ | assumption | apply alo | (apply Below.setCell; rotate_left; (first | assumption | exact Nat.le_refl _ | (simp only []; omega))) | apply Below.drew | apply belowDrewN | (refine thn ?_ (by assumption))))⟩
theorem drawServeLine_any (A : Option Addr) (n c : Nat) (zs : List Int) (w : World) (h : Code w A n c zs) :
    Calls Tryd.prog 11 #[.slice A n c] w (Post lnV fun _ w' => Below w.heap.size w w') := by
  obtain ⟨r, hr, hrw⟩ : ∃ r, w.heap.size + 1 = r ∧ w.heap.size < r := ⟨_, rfl, Nat.lt_succ_self _⟩
  have B1 := Blk.new w 24 #[.int .i64 0, .int .i64 0]
  have hopen := open_at r A n c zs (w.alloc (.cells #[.int .i64 0, .int .i64 0] 24)) (h.below ((Below.refl _ _).alloc (Nat.le_refl _) _)) (by simpa using hr)
  clear h
  go_enter Tryd.func11, Tryd.ntmps11
  go_wp2_with fail
  refine hopen.mono ?_
  rintro e w0 ⟨rfl, hrd, hb, hsz⟩
  clear hopen
  replace B1 := B1.below (hb.mono (by simp; omega))
  clear hr
  replace hb := ((Below.refl _ _).alloc (Nat.le_refl _) _).trans (hb.mono (Nat.le_of_lt hrw))
  have nB1 := Nat.ne_of_lt hrw
  replace hrw := Nat.le_of_lt hrw
  have hS := Stp.refl hrd
  have hr0 := hrd.lt
  clear hrd
  go_wp2_with fail; refine (l20Lines_any r 9 _ _ (by repeat (first | exact hS.rd | apply Rd.drew | apply Rd.alloc | (apply Rd.setCell; rotate_left; assumption))) (by omega) (by omega)).mono ?_; rintro e w1 ⟨⟨x, y⟩, rfl, hs⟩; replace B1 := Blk.stpOf B1 hs (by repeat (first | exact B1 | apply Blk.alloc | apply Blk.drew | (apply Blk.far; rotate_left; (first | assumption | exact Ne.symm (by assumption))) | apply Blk.set_)) (by assumption); replace hS := Stp.trans (by repeat (first | exact hS | apply Stp.drew | apply Stp.alloc | (apply Stp.set; assumption; assumption))) hs; clear hs
  have hBel := hS.belowT (a := w) (B := w.heap.size) hb (by assumption) hb.size
  have cB1_0 := B1.c0; have cB1_1 := B1.c1; have fB1 := B1.frozen
  go_wp2
  exact bodyPost_ret (v := lnV (x, y)) (by simp [results, Tryd.results11, go_sem, lnV, cB1_0, cB1_1]) rfl ⟨(x, y), rfl, (by repeat (first | exact Below.refl _ _ | assumption | apply alo | (apply Below.setCell; rotate_left; (first | assumption | exact Nat.le_refl _ | (simp only []; omega))) | apply Below.drew | apply belowDrewN | (refine thn ?_ (by assumption))))⟩

def rlV (x : (Int × Int) × Int) : Value := .tuple #[.agg #[.int .i64 x.1.1, .int .i64 x.1.2], .int .i64 x.2]
set_option maxHeartbeats 1000000 in
theorem drawRaiseLine_any (A : Option Addr) (n c : Nat) (zs : List Int) (w : World) (h : Code w A n c zs) :
    Calls Tryd.prog 19 #[.slice A n c] w (Post rlV fun x w' => -1 ≤ x.2 ∧ x.2 ≤ 8 ∧ Below w.heap.size w w') := by
  obtain ⟨r, hr, hrw⟩ : ∃ r, w.heap.size + 1 = r ∧ w.heap.size < r := ⟨_, rfl, Nat.lt_succ_self _⟩
  have B1 := Blk.new w 24 #[.int .i64 0, .int .i64 0]
  have hopen := open_at r A n c zs (w.alloc (.cells #[.int .i64 0, .int .i64 0] 24)) (h.below ((Below.refl _ _).alloc (Nat.le_refl _) _)) (by simpa using hr)
  clear h
  go_enter Tryd.func19, Tryd.ntmps19
  go_wp2_with fail
  refine hopen.mono ?_
  rintro e w0 ⟨rfl, hrd, hb, hsz⟩
  clear hopen
  replace B1 := B1.below (hb.mono (by simp; omega))
  clear hr
  replace hb := ((Below.refl _ _).alloc (Nat.le_refl _) _).trans (hb.mono (Nat.le_of_lt hrw))
  have nB1 := Nat.ne_of_lt hrw
  replace hrw := Nat.le_of_lt hrw
  have hS := Stp.refl hrd
  have hr0 := hrd.lt
  clear hrd
  go_wp2_with fail; refine (l20Lines_any r 12 _ _ (by repeat (first | exact hS.rd | apply Rd.drew | apply Rd.alloc | (apply Rd.setCell; rotate_left; assumption))) (by omega) (by omega)).mono ?_; rintro e w1 ⟨⟨x, y⟩, rfl, hs⟩; replace B1 := Blk.stpOf B1 hs (by repeat (first | exact B1 | apply Blk.alloc | apply Blk.drew | (apply Blk.far; rotate_left; (first | assumption | exact Ne.symm (by assumption))) | apply Blk.set_)) (by assumption); replace hS := Stp.trans (by repeat (first | exact hS | apply Stp.drew | apply Stp.alloc | (apply Stp.set; assumption; assumption))) hs; clear hs
  have B2 := Blk.new w1 24 #[.int .i64 x, .int .i64 y]; have lB2 := hS.rd.lt; have nB2 := Nat.ne_of_gt lB2; have sB2 := hS.grown.size; have dB1B2 := Nat.ne_of_lt B1.lt
  have cB1_0 := B1.c0; have cB1_1 := B1.c1; have fB1 := B1.frozen; have cB2_0 := B2.c0; have cB2_1 := B2.c1; have fB2 := B2.frozen
  go_wp2_with fail
  go_region_with ((go_at_call 28; refine (pick_any _ (_) _ _ (by repeat (first | exact hS.rd | apply Rd.drew | apply Rd.alloc | (apply Rd.setCell; rotate_left; assumption))) (by omega) (by omega)).mono ?_; rintro e w3 ⟨v, rfl, hv0, hv1, hs⟩; replace B1 := Blk.stpOf B1 hs (by repeat (first | exact B1 | apply Blk.alloc | apply Blk.drew | (apply Blk.far; rotate_left; (first | assumption | exact Ne.symm (by assumption))) | apply Blk.set_)) (by assumption); replace B2 := Blk.stpOf B2 hs (by repeat (first | exact B2 | apply Blk.alloc | apply Blk.drew | (apply Blk.far; rotate_left; (first | assumption | exact Ne.symm (by assumption))) | apply Blk.set_)) (by assumption); replace hS := Stp.trans (by repeat (first | exact hS | apply Stp.drew | apply Stp.alloc | (apply Stp.set; assumption; assumption))) hs; clear hs; have cB1_0 := B1.c0; have cB1_1 := B1.c1; have fB1 := B1.frozen; have cB2_0 := B2.c0; have cB2_1 := B2.c1; have fB2 := B2.frozen); have hwv := IntWalk.i64_in (v - 1) (by omega))
  all_goals
    have hBel := hS.belowT (a := w) (B := w.heap.size) hb (by assumption) hb.size
    have hv2 : -1 ≤ v - 1 ∧ v - 1 ≤ 8 := by omega
    go_wp2
    exact bodyPost_ret (v := rlV ((x, y), v - 1)) (by simp [results, Tryd.results19, go_sem, rlV, cB1_0, cB1_1, hwv]) rfl ⟨((x, y), v - 1), rfl, hv2.1, hv2.2, (by repeat (first | exact Below.refl _ _ | assumption | apply alo | (apply Below.setCell; rotate_left; (first | assumption | exact Nat.le_refl _ | (simp only []; omega))) | apply Below.drew | apply belowDrewN | (refine thn ?_ (by assumption))))⟩
end Go.Proofs.YtffhcifeccdfjaaDoor
