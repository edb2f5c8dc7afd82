/- The walk of FnMixOrder. -/
import Derived.Test.YtpiijdfnhkmkaaaKey
import Derived.Test.YtpiijdfnhkmkaaaMix
import Derived.Test.YtpiijdfnhkmkaaaAlive
namespace Go.Proofs.Ytpiijdfnhkmkaaa
open Go.RowKit

theorem dvd_inj2 (d : Int) (h : (1048573 : Int) ∣ 1000002 * d) : (1048573 : Int) ∣ d := by
  obtain ⟨e, he⟩ := h
  have h2 : 438807 * (1000002 * d) = 438807 * (1048573 * e) := by rw [he]
  clear he
  exact ⟨438807 * e - 418481 * d, by omega⟩
theorem two_ne (k a b q1 q2 q3 x y : Int) (h1 : 1000003 * k + b + 1 - y = 1048573 * q1) (h2 : 1000003 * k + a + 1 - x = 1048573 * q2) (h3 : 1000003 * y + a + 1 - (1000003 * x + b + 1) = 1048573 * q3)
    (ha : 0 ≤ a ∧ a < 100) (hb : 0 ≤ b ∧ b < 100) : a = b := by
  have h4 : (1048573 : Int) ∣ y - x - (b - a) := by
    obtain rfl : y = 1000003 * k + b + 1 - 1048573 * q1 := by clear h2 h3; omega
    clear h1 h3
    obtain rfl : x = 1000003 * k + a + 1 - 1048573 * q2 := by omega
    clear h2
    exact ⟨q2 - q1, by omega⟩
  clear h1 h2
  have h5 : (1048573 : Int) ∣ 1000003 * (y - x) - (b - a) := ⟨q3, by rw [← h3]; clear h3 h4; omega⟩
  clear h3
  have h6 := Int.dvd_sub h5 h4
  have e : 1000003 * (y - x) - (b - a) - (y - x - (b - a)) = 1000002 * (y - x) := by clear h4 h5 h6; omega
  rw [e] at h6
  have h7 := dvd_inj2 _ h6
  have h8 := Int.dvd_sub h7 h4
  have e2 : y - x - (y - x - (b - a)) = b - a := by clear h4 h5 h6 h7 h8 e; omega
  rw [e2] at h8
  clear h4 h5 h6 h7 e e2
  omega
theorem mix2_ne (k a b : Int) (ha : 0 ≤ a ∧ a < 100) (hb : 0 ≤ b ∧ b < 100) (hab : a ≠ b) : mixAll k [b, a] ≠ mixAll k [a, b] := by
  intro e
  have ea : a % 1048573 = a := by omega
  have eb : b % 1048573 = b := by omega
  have e1 : (1000003 * mixStep k b + a % 1048573 + 1) % 1048573 = (1000003 * mixStep k a + b % 1048573 + 1) % 1048573 := e
  rw [ea, eb, Int.emod_eq_emod_iff_emod_sub_eq_zero] at e1
  obtain ⟨q3, h3⟩ := Int.dvd_of_emod_eq_zero e1
  have h1 := Int.emod_add_mul_ediv (1000003 * k + b + 1) 1048573
  have h2 := Int.emod_add_mul_ediv (1000003 * k + a + 1) 1048573
  have m1 : mixStep k b = (1000003 * k + b + 1) % 1048573 := by unfold mixStep; rw [eb]
  have m2 : mixStep k a = (1000003 * k + a + 1) % 1048573 := by unfold mixStep; rw [ea]
  rw [← m1] at h1
  rw [← m2] at h2
  exact hab (two_ne k a b _ _ q3 (mixStep k a) (mixStep k b) (Int.sub_eq_iff_eq_add'.2 h1.symm) (Int.sub_eq_iff_eq_add'.2 h2.symm) h3 ha hb)

theorem lawMixOrder (A : Option Addr) (n c : Nat) (zs : List Int) (A' : Option Addr) (n' c' : Nat) (zs' : List Int) (w : World) (h : Code w A n c zs) (h' : Code w A' n' c' zs') :
    Calls Try.prog 11 #[.slice A n c, .slice A' n' c'] w fun e w' => .returned (.bool true) = e ∧ Below w.heap.size w w' := by
  have hle := h.le
  have hmax := h.max
  have hle' := h'.le
  have hmax' := h'.max
  by_cases hn : n ≤ 1048576
  · by_cases hn' : n' ≤ 1048576
    · have hdraw := drawMixNumbers_any A n c zs w h
      clear h h'
      go_enter Try.func11, Try.ntmps11
      go_wp2_with fail
      refine hdraw.mono ?_
      rintro e w1 ⟨⟨k, s⟩, rfl, hk0, hk1, _, _, _, hb⟩
      clear hdraw
      simp only [kvV, SV.v] at hk0 hk1 ⊢
      have hq1 : ∀ (a b : Int) (W : World), Sl (W.alloc (.cells #[.int .i64 a, .int .i64 b] 3)) 1 eI (some ⟨W.heap.size, 0, none⟩) 2 2 [a, b] := fun a b W => Sl.of_blk (xs := [a, b]) (Blk.new W 3 #[.int .i64 a, .int .i64 b]) encI (by simp)
      have hI := fun W => mix_any k _ _ _ _ _ (hq1 ((n : Int) % 100) ((n' : Int) % 100) W)
      have hS := fun W => specMix_any k _ _ _ _ _ (hq1 ((n : Int) % 100) ((n' : Int) % 100) W)
      have hJ := fun W => mix_any k _ _ _ _ _ (hq1 ((n' : Int) % 100) ((n : Int) % 100) W)
      clear hq1
      unfold mix at hI hS hJ
      have hv := @inB_true k 0 1048572
      generalize inB k 0 1048572 = v at *
      skip
      cases v
      · simp only [Bool.false_eq_true, if_false] at hI hS
        clear hv hJ
        go_wp2_with fail; refine (hI _).mono ?_; rintro e w2 ⟨rfl, hbw2⟩
        go_wp2_with fail; refine (hS _).mono ?_; rintro e w3 ⟨rfl, hbw3⟩
        go_wp2_with fail; refine (alive_any _).mono ?_; rintro e w4 ⟨rfl, hbw4⟩
        go_wp2
        go_ret
        exact ⟨rfl, (by repeat (first | exact Below.refl _ _ | assumption | apply alo | (apply Below.setCell; rotate_left; (first | assumption | exact Nat.le_refl _ | (simp only []; omega))) | apply Below.drew | apply Below.drewN | (refine thn ?_ (by assumption))))⟩
      · simp only [if_true] at hI hS hJ
        have hkk := hv.1 rfl
        clear hv
        have hp := (mixAll_bd k [(n : Int) % 100, (n' : Int) % 100] hkk).1
        have hab : ((n : Int) % 100 = (n' : Int) % 100) ∨ ((n : Int) % 100 ≠ (n' : Int) % 100 ∧ mixAll k [(n' : Int) % 100, (n : Int) % 100] ≠ mixAll k [(n : Int) % 100, (n' : Int) % 100]) := by
          by_cases e : (n : Int) % 100 = (n' : Int) % 100
          · exact .inl e
          · exact .inr ⟨e, mix2_ne k _ _ (by omega) (by omega) e⟩
        rcases hab with hab | ⟨hab, hne⟩
        · rw [show mixAll k [(n' : Int) % 100, (n : Int) % 100] = mixAll k [(n : Int) % 100, (n' : Int) % 100] by rw [hab]] at hJ
          have hb1 : ((n : Int) % 100 == (n' : Int) % 100) = true := by simpa using hab
          clear hab
          generalize mixAll k [(n : Int) % 100, (n' : Int) % 100] = p at *
          have hb3 : (p == (-1 : Int)) = false := by simp; omega
          go_wp2_with fail; refine (hI _).mono ?_; rintro e w2 ⟨rfl, hbw2⟩
          go_wp2_with fail; refine (hS _).mono ?_; rintro e w3 ⟨rfl, hbw3⟩
          go_wp2_with fail; refine (hJ _).mono ?_; rintro e w4 ⟨rfl, hbw4⟩
          go_wp2
          go_ret
          exact ⟨rfl, (by repeat (first | exact Below.refl _ _ | assumption | apply alo | (apply Below.setCell; rotate_left; (first | assumption | exact Nat.le_refl _ | (simp only []; omega))) | apply Below.drew | apply Below.drewN | (refine thn ?_ (by assumption))))⟩
        · generalize mixAll k [(n' : Int) % 100, (n : Int) % 100] = q at *
          generalize mixAll k [(n : Int) % 100, (n' : Int) % 100] = p at *
          have hb1 : ((n : Int) % 100 == (n' : Int) % 100) = false := by simpa using hab
          have hb2 : (q == p) = false := by simpa using hne
          have hb3 : (p == (-1 : Int)) = false := by simp; omega
          clear hab hne
          go_wp2_with fail; refine (hI _).mono ?_; rintro e w2 ⟨rfl, hbw2⟩
          go_wp2_with fail; refine (hS _).mono ?_; rintro e w3 ⟨rfl, hbw3⟩
          go_wp2_with fail; refine (hJ _).mono ?_; rintro e w4 ⟨rfl, hbw4⟩
          go_wp2
          go_ret
          exact ⟨rfl, (by repeat (first | exact Below.refl _ _ | assumption | apply alo | (apply Below.setCell; rotate_left; (first | assumption | exact Nat.le_refl _ | (simp only []; omega))) | apply Below.drew | apply Below.drewN | (refine thn ?_ (by assumption))))⟩
    · clear h h'
      go_enter Try.func11, Try.ntmps11
      go_wp2
      go_ret
      exact ⟨rfl, Below.refl _ _⟩
  · clear h h'
    go_enter Try.func11, Try.ntmps11
    go_wp2
    go_ret
    exact ⟨rfl, Below.refl _ _⟩
end Go.Proofs.Ytpiijdfnhkmkaaa
