/- The draw and the walk of FnHoldValid. -/
import Derived.Test.YtpiijdfnhkmkaaaDHold
import Derived.Test.YtpiijdfnhkmkaaaHoldV
import Derived.Test.YtpiijdfnhkmkaaaAlive
namespace Go.Proofs.Ytpiijdfnhkmkaaa
open Go.RowKit

set_option maxHeartbeats 1000000 in
theorem drawHoldValid_any (A : Option Addr) (n c : Nat) (zs : List Int) (w : World) (h : Code w A n c zs) :
    Calls Try.prog 37 #[.slice A n c] w (Post holdV fun x w' => SV.ok w' w.heap.size 1 eI x.1 ∧ x.1.n ≤ 20 ∧ (0 ≤ x.2.1 ∧ x.2.1 ≤ 4) ∧ (0 ≤ x.2.2 ∧ x.2.2 ≤ 5) ∧ Below w.heap.size w w') := by
  obtain ⟨r, hr, hrw⟩ : ∃ r, w.heap.size + 1 = r ∧ w.heap.size < r := ⟨_, rfl, Nat.lt_succ_self _⟩
  have B1 := Blk.new w 52 #[.slice none 0 0]
  have hopen := open_at r A n c zs (w.alloc (.cells #[.slice none 0 0] 52)) (h.below ((Below.refl _ _).alloc (Nat.le_refl _) _)) (by simpa using hr)
  clear h
  go_enter Try.func37, Try.ntmps37
  go_wp2_with fail
  refine hopen.mono ?_
  rintro e w0 ⟨rfl, hrd, hb, hsz⟩
  clear hopen
  replace B1 := B1.below (hb.mono (by simp; omega))
  clear hr
  replace hb := ((Below.refl _ _).alloc (Nat.le_refl _) _).trans (hb.mono (Nat.le_of_lt hrw))
  have nB1 := Nat.ne_of_lt hrw
  replace hrw := Nat.le_of_lt hrw
  have hS := Stp.refl hrd
  have hr0 := hrd.lt
  clear hrd
  have hz0 := hb.size
  go_wp2_with fail; refine (l20Hold_any r 2 _ _ (by repeat (first | exact hS.rd | apply Rd.drew | apply Rd.alloc | (apply Rd.setCell; rotate_left; assumption))) (by omega) (by omega)).mono ?_; rintro e w1 ⟨x, rfl, hs1, hs2, hs3, hs4, hs⟩; replace B1 := Blk.stpOf B1 hs (by repeat (first | exact B1 | apply Blk.alloc | apply Blk.drew | (apply Blk.far; rotate_left; (first | assumption | exact Ne.symm (by assumption))) | apply Blk.set_)) (by assumption); replace hS := Stp.trans (by repeat (first | exact hS | apply Stp.drew | apply Stp.alloc | (apply Stp.set; assumption; assumption))) hs; clear hs
  have hBel := hS.belowT (a := w) (B := w.heap.size) hb (by assumption) hb.size
  obtain ⟨⟨A1, n1, c1, xs⟩, k, z⟩ := x
  simp only [holdV, SV.v] at hs1 hs2 hs3 hs4 ⊢
  have hok : SV.ok (w1.setCell ⟨w.heap.size, 0, none⟩ (.slice A1 n1 c1)) w.heap.size 1 eI ⟨A1, n1, c1, xs⟩ := by
    refine ⟨?_, fun b o e => Nat.le_trans hz0 (hs1.fresh b o e), hs1.nil, hs1.spot⟩
    refine hs1.sl.keep (by simp) fun b o e => ?_
    exact Below.heap_setCell w1 _ _ b (by have := hs1.fresh b o e; simp only []; omega)
  have cB1_0 := B1.c0; have fB1 := B1.frozen
  go_wp2
  exact bodyPost_ret (v := holdV (⟨A1, n1, c1, xs⟩, k, z)) (by simp [results, Try.results37, go_sem, holdV, SV.v, cB1_0]) rfl ⟨_, rfl, hok, hs2, hs3, hs4, (by repeat (first | exact Below.refl _ _ | assumption | apply alo | (apply Below.setCell; rotate_left; (first | assumption | exact Nat.le_refl _ | (simp only []; omega))) | apply Below.drew | apply belowDrewN | (refine thn ?_ (by assumption))))⟩

theorem holdOk_five (k z : Int) : holdOk (List.replicate 5 0) k z = false := by
  simp only [holdOk, sizedOk, List.length_replicate, Bool.and_eq_false_iff, Bool.or_eq_false_iff, beq_eq_false_iff_ne, inB_false, decide_eq_false_iff_not, ne_eq]
  omega
theorem holdOk_nil (xs : List Int) (k z : Int) (h : holdOk xs k z = true) : holdOk [] k z = true := by
  simp only [holdOk, Bool.and_eq_true, decide_eq_true_eq] at h ⊢
  exact ⟨h.1, by simp only [List.length_nil]; omega, rfl⟩

set_option maxHeartbeats 1000000 in
theorem lawHoldValid (A : Option Addr) (n c : Nat) (zs : List Int) (w : World) (h : Code w A n c zs) :
    Calls Try.prog 12 #[.slice A n c] w fun e w' => .returned (.bool true) = e ∧ Below w.heap.size w w' := by
  have hle := h.le
  have hmax := h.max
  by_cases hn : n ≤ 1048576
  · have hdraw := drawHoldValid_any A n c zs w h
    clear h
    go_enter Try.func12, Try.ntmps12
    go_wp2_with fail
    refine hdraw.mono ?_
    rintro e w1 ⟨⟨⟨A1, n1, c1, xs⟩, k, z⟩, rfl, ⟨hsl, _, _, _⟩, hn1, hk, hz, hb⟩
    clear hdraw
    simp only [holdV, SV.v] at hsl hn1 hk hz ⊢
    obtain rfl : xs.length = n1 := hsl.len
    have hle1 := hsl.le
    have hmax1 := hsl.max
    have hI := fun W h => holdValid_any A1 xs.length c1 xs k z W h
    have hS := fun W h => specHoldValid_any A1 xs.length c1 xs k z W h
    have hv := holdOk_nil xs k z
    have hN := fun W => holdValid_any none 0 0 [] k z W ⟨rfl, Nat.le_refl _, by omega, fun h => absurd h (by omega)⟩
    generalize holdOk xs k z = v at *
    generalize holdOk [] k z = v2 at *
    clear hk hz
    skip
    have B1 := Blk.new w1 52 #[.slice A1 xs.length c1]
    have hsl1 := hsl.below ((Below.refl _ _).alloc (Nat.le_refl _) (.cells #[.slice A1 xs.length c1] 52))
    have cB1_0 := B1.c0; have fB1 := B1.frozen
    go_wp2_with fail; refine (hI _ hsl1).mono ?_; rintro e w2 ⟨rfl, hbw2⟩; replace B1 := Blk.belowOf B1 hbw2 (by repeat (first | exact B1 | apply Blk.alloc | apply Blk.drew | (apply Blk.far; rotate_left; (first | assumption | exact Ne.symm (by assumption))) | apply Blk.set_))
    have hsl2 := hsl1.below hbw2
    clear cB1_0 fB1
    have cB1_0 := B1.c0; have fB1 := B1.frozen
    go_wp2_with fail; refine (hS _ hsl2).mono ?_; rintro e w3 ⟨rfl, hbw3⟩; replace B1 := Blk.belowOf B1 hbw3 (by repeat (first | exact B1 | apply Blk.alloc | apply Blk.drew | (apply Blk.far; rotate_left; (first | assumption | exact Ne.symm (by assumption))) | apply Blk.set_))
    have hB3 : Below w.heap.size w w3 := (by repeat (first | exact Below.refl _ _ | assumption | apply alo | (apply Below.setCell; rotate_left; (first | assumption | exact Nat.le_refl _ | (simp only []; omega))) | apply Below.drew | apply belowDrewN | (refine thn ?_ (by assumption))))
    clear hI hS hsl hsl1 hsl2 hb hbw2 hbw3
    cases v
    · clear hv hN
      go_wp2_with (at_make; refine make_own rfl _ _ zeroInt rfl encI w3.heap.size _ _ 5 rfl rfl (by omega) (by omega) (by omega) (Nat.le_refl _) ?_; intro w4 own4 hg4; have hB4 := thn hB3 (below_of_grown hg4))
      have hJ := holdValid_any _ _ _ _ k z _ (own4.slI encI)
      rw [holdOk_five] at hJ
      clear own4 hg4
      skip
      go_wp2_with fail; refine (hJ).mono ?_; rintro e w5 ⟨rfl, hbw5⟩
      clear hJ
      go_wp2_with fail; refine (alive_any _).mono ?_; rintro e w9 ⟨rfl, hbw9⟩
      go_wp2
      go_ret
      exact ⟨rfl, (by repeat (first | exact Below.refl _ _ | assumption | apply alo | (apply Below.setCell; rotate_left; (first | assumption | exact Nat.le_refl _ | (simp only []; omega))) | apply Below.drew | apply belowDrewN | (refine thn ?_ (by assumption))))⟩
    · have hv := hv rfl
      subst hv
      go_wp2_with (at_make; refine make_own rfl _ _ zeroInt rfl encI w3.heap.size _ _ 5 rfl rfl (by omega) (by omega) (by omega) (Nat.le_refl _) ?_; intro w4 own4 hg4; have hB4 := thn hB3 (below_of_grown hg4))
      have hJ := holdValid_any _ _ _ _ k z _ (own4.slI encI)
      rw [holdOk_five] at hJ
      clear own4 hg4
      skip
      go_wp2_with fail; refine (hJ).mono ?_; rintro e w5 ⟨rfl, hbw5⟩
      clear hJ
      go_wp2_with fail; refine (hN _).mono ?_; rintro e w6 ⟨rfl, hbw6⟩
      go_wp2_with fail; refine (alive_any _).mono ?_; rintro e w9 ⟨rfl, hbw9⟩
      go_wp2
      go_ret
      exact ⟨rfl, (by repeat (first | exact Below.refl _ _ | assumption | apply alo | (apply Below.setCell; rotate_left; (first | assumption | exact Nat.le_refl _ | (simp only []; omega))) | apply Below.drew | apply belowDrewN | (refine thn ?_ (by assumption))))⟩
  · clear h
    go_enter Try.func12, Try.ntmps12
    go_wp2
    go_ret
    exact ⟨rfl, Below.refl _ _⟩
end Go.Proofs.Ytpiijdfnhkmkaaa
