/- The walk of FnTransferValid. -/
import Derived.Test.YtpiijdfnhkmkaaaTransfer
import Derived.Test.YtpiijdfnhkmkaaaAlive
namespace Go.Proofs.Ytpiijdfnhkmkaaa
open Go.RowKit

theorem trOk_65 (p : Int) : trOk p 65 = false := by simp [trOk, inB]
theorem trOk_1 (p c : Int) (h : trOk p c = true) : trOk p 1 = true := by
  simp only [trOk, Bool.and_eq_true, inB_true] at h ⊢; omega

theorem lawTransferValid (A : Option Addr) (n c : Nat) (zs : List Int) (w : World) (h : Code w A n c zs) :
    Calls Try.prog 8 #[.slice A n c] w fun e w' => .returned (.bool true) = e ∧ Below w.heap.size w w' := by
  have hle := h.le
  have hmax := h.max
  by_cases hn : n ≤ 1048576
  · have hdraw := drawTransferValid_any A n c zs w h
    clear h
    go_enter Try.func8, Try.ntmps8
    go_wp2_with fail
    refine hdraw.mono ?_
    rintro e w1 ⟨⟨p, q, z⟩, rfl, hx, hb⟩
    clear hdraw hx
    have hI := fun W => transferValid_any p q z W
    have hS := fun W => specTransferValid_any p q z W
    have hJ := fun W => transferValid_any p 65 false W
    have hK := fun W => transferValid_any p 1 false W
    rw [trOk_65] at hJ
    have hv := trOk_1 p q
    simp only [trCells] at hI hS hJ hK ⊢
    generalize trOk p q = v at *
    skip
    have B1 := Blk.new w1 42 #[.int .i64 p, .int .i64 q, .bool z]
    cases v
    · clear hv
      go_wp2_with fail; refine (hI _).mono ?_; rintro e w2 ⟨rfl, hbw2⟩; replace B1 := Blk.belowOf B1 hbw2 (by repeat (first | exact B1 | apply Blk.alloc | apply Blk.drew | (apply Blk.far; rotate_left; (first | assumption | exact Ne.symm (by assumption))) | apply Blk.set_))
      have cB1_0 := B1.c0; have cB1_1 := B1.c1; have cB1_2 := B1.c2; have fB1 := B1.frozen
      go_wp2_with fail; refine (hS _).mono ?_; rintro e w3 ⟨rfl, hbw3⟩; replace B1 := Blk.belowOf B1 hbw3 (by repeat (first | exact B1 | apply Blk.alloc | apply Blk.drew | (apply Blk.far; rotate_left; (first | assumption | exact Ne.symm (by assumption))) | apply Blk.set_))
      clear cB1_0 cB1_1 cB1_2 fB1
      have cB1_0 := B1.c0; have cB1_1 := B1.c1; have cB1_2 := B1.c2; have fB1 := B1.frozen
      go_wp2_with fail; refine (hJ _).mono ?_; rintro e w4 ⟨rfl, hbw4⟩; replace B1 := Blk.belowOf B1 hbw4 (by repeat (first | exact B1 | apply Blk.alloc | apply Blk.drew | (apply Blk.far; rotate_left; (first | assumption | exact Ne.symm (by assumption))) | apply Blk.set_))
      go_wp2_with fail; refine (alive_any _).mono ?_; rintro e w5 ⟨rfl, hbw5⟩; replace B1 := Blk.belowOf B1 hbw5 (by repeat (first | exact B1 | apply Blk.alloc | apply Blk.drew | (apply Blk.far; rotate_left; (first | assumption | exact Ne.symm (by assumption))) | apply Blk.set_))
      go_wp2
      go_ret
      exact ⟨rfl, (by repeat (first | exact Below.refl _ _ | assumption | apply alo | (apply Below.setCell; rotate_left; (first | assumption | exact Nat.le_refl _ | (simp only []; omega))) | apply Below.drew | apply Below.drewN | (refine thn ?_ (by assumption))))⟩
    · rw [hv rfl] at hK
      clear hv
      go_wp2_with fail; refine (hI _).mono ?_; rintro e w2 ⟨rfl, hbw2⟩; replace B1 := Blk.belowOf B1 hbw2 (by repeat (first | exact B1 | apply Blk.alloc | apply Blk.drew | (apply Blk.far; rotate_left; (first | assumption | exact Ne.symm (by assumption))) | apply Blk.set_))
      have cB1_0 := B1.c0; have cB1_1 := B1.c1; have cB1_2 := B1.c2; have fB1 := B1.frozen
      go_wp2_with fail; refine (hS _).mono ?_; rintro e w3 ⟨rfl, hbw3⟩; replace B1 := Blk.belowOf B1 hbw3 (by repeat (first | exact B1 | apply Blk.alloc | apply Blk.drew | (apply Blk.far; rotate_left; (first | assumption | exact Ne.symm (by assumption))) | apply Blk.set_))
      clear cB1_0 cB1_1 cB1_2 fB1
      have cB1_0 := B1.c0; have cB1_1 := B1.c1; have cB1_2 := B1.c2; have fB1 := B1.frozen
      go_wp2_with fail; refine (hJ _).mono ?_; rintro e w4 ⟨rfl, hbw4⟩; replace B1 := Blk.belowOf B1 hbw4 (by repeat (first | exact B1 | apply Blk.alloc | apply Blk.drew | (apply Blk.far; rotate_left; (first | assumption | exact Ne.symm (by assumption))) | apply Blk.set_))
      clear cB1_0 cB1_1 cB1_2 fB1
      have cB1_0 := B1.c0; have cB1_1 := B1.c1; have cB1_2 := B1.c2; have fB1 := B1.frozen
      go_wp2_with fail; refine (hK _).mono ?_; rintro e w5 ⟨rfl, hbw5⟩; replace B1 := Blk.belowOf B1 hbw5 (by repeat (first | exact B1 | apply Blk.alloc | apply Blk.drew | (apply Blk.far; rotate_left; (first | assumption | exact Ne.symm (by assumption))) | apply Blk.set_))
      go_wp2_with fail; refine (alive_any _).mono ?_; rintro e w6 ⟨rfl, hbw6⟩; replace B1 := Blk.belowOf B1 hbw6 (by repeat (first | exact B1 | apply Blk.alloc | apply Blk.drew | (apply Blk.far; rotate_left; (first | assumption | exact Ne.symm (by assumption))) | apply Blk.set_))
      go_wp2
      go_ret
      exact ⟨rfl, (by repeat (first | exact Below.refl _ _ | assumption | apply alo | (apply Below.setCell; rotate_left; (first | assumption | exact Nat.le_refl _ | (simp only []; omega))) | apply Below.drew | apply Below.drewN | (refine thn ?_ (by assumption))))⟩
  · clear h
    go_enter Try.func8, Try.ntmps8
    go_wp2
    go_ret
    exact ⟨rfl, Below.refl _ _⟩
end Go.Proofs.Ytpiijdfnhkmkaaa
