/- MixNumbers of impl and spec. -/
import Derived.Test.YtffhcifeccdfjaaSel
import Derived.Test.YtffhcifeccdfjaaOrd
namespace Go.Proofs.Ytffhcifeccdfjaa
set_option linter.unusedVariables false
set_option linter.unusedSimpArgs false
open Go.RowKit

def mixStep (k x : Int) : Int := (1000003 * k + x % 1048573 + 1) % 1048573
def mixAll (k : Int) (xs : List Int) : Int := xs.foldl mixStep k
def mix (k : Int) (xs : List Int) : Int := if inB k 0 1048572 then mixAll k xs else -1
/-- Plain facts of sums. -/
theorem dvd_inj (d : Int) (h : (1048573 : Int) ∣ 1000003 * d) : (1048573 : Int) ∣ d := by
  obtain ⟨e, he⟩ := h
  have h2 : 856367 * (1000003 * d) = 856367 * (1048573 * e) := by rw [he]
  clear he
  exact ⟨856367 * e - 816700 * d, by omega⟩
theorem step_inj (k k' q : Int) (h : 0 ≤ k ∧ k ≤ 1048572) (h' : 0 ≤ k' ∧ k' ≤ 1048572) (e : (1000003 * k + q + 1) % 1048573 = (1000003 * k' + q + 1) % 1048573) : k = k' := by
  rw [Int.emod_eq_emod_iff_emod_sub_eq_zero] at e
  have e2 := Int.dvd_of_emod_eq_zero e
  clear e
  have h3 : 1000003 * k + q + 1 - (1000003 * k' + q + 1) = 1000003 * (k - k') := by clear e2; omega
  rw [h3] at e2
  have h4 := dvd_inj _ e2
  clear e2 h3
  omega
theorem step_ne (k x y : Int) (h : (1000003 * k + x % 1048573 + 1) % 1048573 = (1000003 * k + y % 1048573 + 1) % 1048573) : x % 1048573 = y % 1048573 := by
  rw [Int.emod_eq_emod_iff_emod_sub_eq_zero] at h
  have h3 : 1000003 * k + x % 1048573 + 1 - (1000003 * k + y % 1048573 + 1) = x % 1048573 - y % 1048573 := by clear h; generalize x % 1048573 = a; generalize y % 1048573 = b; omega
  rw [h3] at h
  have h4 := Int.dvd_of_emod_eq_zero h
  have a1 := Int.emod_lt_of_pos x (b := 1048573) (by decide)
  have a2 := Int.emod_nonneg x (b := 1048573) (by decide)
  have b1 := Int.emod_lt_of_pos y (b := 1048573) (by decide)
  have b2 := Int.emod_nonneg y (b := 1048573) (by decide)
  clear h h3
  generalize x % 1048573 = a at *
  generalize y % 1048573 = b at *
  omega
theorem mixStep_inj (k k' x : Int) (h : 0 ≤ k ∧ k ≤ 1048572) (h' : 0 ≤ k' ∧ k' ≤ 1048572) (e : mixStep k x = mixStep k' x) : k = k' := step_inj k k' (x % 1048573) h h' e
theorem mixStep_ne (k x y : Int) (h : mixStep k x = mixStep k y) : x % 1048573 = y % 1048573 := step_ne k x y h
theorem mixStep_bd (k x : Int) : 0 ≤ mixStep k x ∧ mixStep k x ≤ 1048572 := by unfold mixStep; omega
theorem mixAll_bd (k : Int) (xs : List Int) (h : 0 ≤ k ∧ k ≤ 1048572) : 0 ≤ mixAll k xs ∧ mixAll k xs ≤ 1048572 := by
  unfold mixAll
  induction xs generalizing k with
  | nil => simpa using h
  | cons x xs ih => exact ih _ (mixStep_bd k x)
theorem mixAll_inj (xs : List Int) : ∀ (k k' : Int), (0 ≤ k ∧ k ≤ 1048572) → (0 ≤ k' ∧ k' ≤ 1048572) → mixAll k xs = mixAll k' xs → k = k' := by
  induction xs with
  | nil => intro k k' _ _ h; exact h
  | cons x xs ih => intro k k' h h' e; exact mixStep_inj k k' x h h' (ih _ _ (mixStep_bd k x) (mixStep_bd k' x) e)
theorem mixAll_app (k : Int) (xs ys : List Int) : mixAll k (xs ++ ys) = mixAll (mixAll k xs) ys := by unfold mixAll; exact List.foldl_append
theorem mixAll_set (k : Int) (hk : 0 ≤ k ∧ k ≤ 1048572) (xs : List Int) (j : Nat) (y z : Int) (hy : xs[j]? = some y) (e : mixAll k (xs.set j z) = mixAll k xs) : z % 1048573 = y % 1048573 := by
  induction xs generalizing k j with
  | nil => simp at hy
  | cons x xs ih =>
    cases j with
    | zero =>
      have hx : x = y := by simpa using hy
      subst hx
      exact mixStep_ne k z x (mixAll_inj xs _ _ (mixStep_bd k z) (mixStep_bd k x) e)
    | succ j => exact ih (mixStep k x) (mixStep_bd k x) j (by simpa using hy) e
theorem mixAll_take (k : Int) (xs : List Int) (j : Nat) (y : Int) (h : xs[j]? = some y) : mixAll k (xs.take (j + 1)) = mixStep (mixAll k (xs.take j)) y := by
  unfold mixAll
  rw [List.take_add_one, h]
  simp
theorem tmod_cases (x : Int) : (0 ≤ x ∧ x.tmod 1048573 = x % 1048573) ∨ (x.tmod 1048573 = x % 1048573 - 1048573 ∧ ¬ x % 1048573 = 0) ∨ (x.tmod 1048573 = 0 ∧ x % 1048573 = 0) := by
  have h := Int.tmod_eq_emod (a := x) (b := 1048573)
  split at h
  · rename_i h1
    rcases h1 with h1 | h1
    · left; omega
    · right; right; omega
  · rename_i h1
    right; left
    refine ⟨by omega, fun h2 => h1 (.inr (Int.dvd_of_emod_eq_zero h2))⟩
theorem mod_neg (x : Int) (h : x.tmod 1048573 < 0) : x.tmod 1048573 + 1048573 = x % 1048573 := by rcases tmod_cases x with h1 | h1 | h1 <;> omega
theorem mod_pos (x : Int) (h : 0 ≤ x.tmod 1048573) : x.tmod 1048573 = x % 1048573 := by rcases tmod_cases x with h1 | h1 | h1 <;> omega
theorem tmod_bd (x : Int) : -1048573 < x.tmod 1048573 ∧ x.tmod 1048573 < 1048573 := by rcases tmod_cases x with h1 | h1 | h1 <;> omega
theorem mod_both (x : Int) : (x.tmod 1048573 + 1048573) % 1048573 = x % 1048573 := by rcases tmod_cases x with h1 | h1 | h1 <;> omega

theorem isKey_any (n : Int) (w : World) : Calls Try.prog 68 #[.int .i64 n] w fun e w' => .returned (.bool (inB n 0 1048572)) = e ∧ w = w' := by
  go_enter Try.func68, Try.ntmps68
  go_wp2_with (go_at_call 43; refine (in_any _ _ _ _).mono ?_; rintro e w1 ⟨rfl, rfl⟩)
  go_ret
  exact ⟨rfl, rfl⟩

/-- impl's turns nothing. -/
theorem mixQ_any (k : Int) (A : Option Addr) (n c : Nat) (xs : List Int) (w : World) (hs : Sl w 1 eI A n c xs) :
    Calls Try.prog 92 #[.int .i64 k, .slice A n c] w fun e w' => .returned (.int .i64 (mix k xs)) = e ∧ w = w' := by
  have hle := hs.le
  have hmax := hs.max
  have hcall := fun W => isKey_any k W
  unfold mix
  have hk := @inB_true k 0 1048572
  generalize inB k 0 1048572 = v at *
  cases v
  · clear hk hs
    go_enter Try.func92, Try.ntmps92
    go_wp2_with fail
    refine (hcall _).mono ?_
    rintro e w1 ⟨rfl, rfl⟩
    go_wp2
    go_ret
    exact ⟨rfl, rfl⟩
  · have hk0 := hk.1 rfl
    clear hk
    simp only [if_true]
    have HB := fun ys => mixAll_bd k ys hk0
    go_enter Try.func92, Try.ntmps92
    go_wp2_with fail
    refine (hcall _).mono ?_
    rintro e w1 ⟨rfl, rfl⟩
    clear hcall
    go_wp2
    go_loopg [0, 12] n (fun gg s0 s12 wr => ∃ kk : Nat, kk ≤ n ∧ n - kk ≤ gg ∧ s12 = .int .i64 kk ∧ s0 = .int .i64 (mixAll k (xs.take kk)) ∧ Aside (w = wr))
    case atStart => exact ⟨0, Nat.zero_le _, by omega, rfl, rfl, (show Aside _ from rfl)⟩
    case round =>
      obtain ⟨kk, hkk, hg, rfl, rfl, BW⟩ := hrel
      have hw := BW.out
      clear BW
      subst hw
      have BW : Aside (Below w.heap.size w w) := Below.refl _ _
      obtain ⟨hb0, hb1⟩ := HB (xs.take kk)
      clear HB
      by_cases hlt : kk < n
      · have hltz : (kk : Int) < (n : Int) := by omega
        obtain ⟨b, o, rfl, hb, hc⟩ := hs.cells (by omega)
        have hlx : kk < xs.length := by have := hs.len; omega
        have hx : xs[kk]? = some xs[kk] := List.getElem?_eq_getElem hlx
        have hc0 := (BW.out.cell (p := ⟨b, o + kk * 1 + 0, none⟩) hb).trans (hc kk _ hx 0 _ rfl)
        clear hc
        have HX := Lib.hid hx
        clear hx
        generalize xs[kk] = y at hc0 HX
        simp only [eI, Nat.add_zero, Nat.mul_one] at hc0
        have hst := Lib.hid (mixAll_take k xs kk y HX.out)
        generalize mixAll k (xs.take kk) = m at *
        have ht := tmod_bd y
        have hb := mod_both y
        have hy0 : 0 ≤ y % 1048573 := by omega
        have hy1 : y % 1048573 < 1048573 := by omega
        unfold mixStep at hst
        generalize y % 1048573 = q at *
        go_wp2
        go_roundg (n - (kk + 1))
        case measure => omega
        case rel => exact ⟨kk + 1, by omega, by omega, by go_num, by rw [hst.out], (show Aside _ from rfl)⟩
      · have hltz : ¬ (kk : Int) < (n : Int) := by omega
        obtain rfl : kk = n := by omega
        have hl := Lib.hid hs.len
        go_wp2
        go_ret
        exact ⟨by rw [List.take_of_length_le (by rw [hl.out]; exact Nat.le_refl _)]; rfl, rfl⟩

theorem mix_any (k : Int) (A : Option Addr) (n c : Nat) (xs : List Int) (w : World) (hs : Sl w 1 eI A n c xs) :
    Calls Try.prog 92 #[.int .i64 k, .slice A n c] w fun e w' => .returned (.int .i64 (mix k xs)) = e ∧ Below w.heap.size w w' :=
  (mixQ_any k A n c xs w hs).mono fun _ _ ⟨h1, h2⟩ => ⟨h1, by rw [← h2]; exact Below.refl _ _⟩

theorem specMix_any (k : Int) (A : Option Addr) (n c : Nat) (xs : List Int) (w : World) (hs : Sl w 1 eI A n c xs) :
    Calls Try.prog 104 #[.int .i64 k, .slice A n c] w fun e w' => .returned (.int .i64 (mix k xs)) = e ∧ Below w.heap.size w w' := by
  have hle := hs.le
  have hmax := hs.max
  have hcall := fun W => l1In_any k 0 1048572 W
  unfold mix
  have hk := @inB_true k 0 1048572
  generalize inB k 0 1048572 = v at *
  cases v
  · clear hk hs
    go_enter Try.func104, Try.ntmps104
    go_wp2_with fail
    refine (hcall _).mono ?_
    rintro e w1 ⟨rfl, rfl⟩
    go_wp2
    go_ret
    exact ⟨rfl, Below.refl _ _⟩
  · have hk0 := hk.1 rfl
    clear hk
    simp only [if_true]
    have HB := fun ys => mixAll_bd k ys hk0
    go_enter Try.func104, Try.ntmps104
    go_wp2_with fail
    refine (hcall _).mono ?_
    rintro e w1 ⟨rfl, rfl⟩
    clear hcall
    go_wp2
    go_loopg [5, 6] n (fun gg s5 s6 wr => ∃ kk : Nat, kk ≤ n ∧ n - kk ≤ gg ∧ s6 = .int .i64 kk ∧ s5 = .int .i64 (mixAll k (xs.take kk)) ∧ Aside (Below w.heap.size w wr))
    case atStart => exact ⟨0, Nat.zero_le _, by omega, rfl, rfl, Below.refl _ _⟩
    case round =>
      obtain ⟨kk, hkk, hg, rfl, rfl, BW⟩ := hrel
      obtain ⟨hb0, hb1⟩ := HB (xs.take kk)
      clear HB
      by_cases hlt : kk < n
      · have hltz : (kk : Int) < (n : Int) := by omega
        obtain ⟨b, o, rfl, hb, hc⟩ := hs.cells (by omega)
        have hlx : kk < xs.length := by have := hs.len; omega
        have hx : xs[kk]? = some xs[kk] := List.getElem?_eq_getElem hlx
        have hc0 := (BW.out.cell (p := ⟨b, o + kk * 1 + 0, none⟩) hb).trans (hc kk _ hx 0 _ rfl)
        clear hc
        have HX := Lib.hid hx
        clear hx
        generalize xs[kk] = y at hc0 HX
        simp only [eI, Nat.add_zero, Nat.mul_one] at hc0
        have hst := Lib.hid (mixAll_take k xs kk y HX.out)
        generalize mixAll k (xs.take kk) = m at *
        have ht := tmod_bd y
        have hb1 := mod_neg y
        have hb2 := mod_pos y
        have hy0 : 0 ≤ y % 1048573 := by omega
        have hy1 : y % 1048573 < 1048573 := by omega
        unfold mixStep at hst
        generalize y % 1048573 = q at *
        obtain ⟨ht0, ht1⟩ := ht
        by_cases hneg : y.tmod 1048573 < 0
        · have hb3 := Lib.hid (hb1 hneg)
          clear hb1 hb2
          go_wp2
          go_roundg (n - (kk + 1))
          case measure => omega
          case rel => exact ⟨kk + 1, by omega, by omega, by go_num, by rw [hst.out, ← hb3.out], (show Aside _ from (by have hBW := BW.out; repeat (first | exact Below.refl _ _ | assumption | apply alo | (apply Below.setCell; rotate_left; (first | assumption | exact Nat.le_refl _ | (simp only []; omega))) | apply Below.drew | apply belowDrewN | (refine thn ?_ (by assumption)))))⟩
        · have hb3 := Lib.hid (hb2 (by omega))
          clear hb1 hb2
          go_wp2
          go_roundg (n - (kk + 1))
          case measure => omega
          case rel => exact ⟨kk + 1, by omega, by omega, by go_num, by rw [hst.out, ← hb3.out], (show Aside _ from (by have hBW := BW.out; repeat (first | exact Below.refl _ _ | assumption | apply alo | (apply Below.setCell; rotate_left; (first | assumption | exact Nat.le_refl _ | (simp only []; omega))) | apply Below.drew | apply belowDrewN | (refine thn ?_ (by assumption)))))⟩
      · have hltz : ¬ (kk : Int) < (n : Int) := by omega
        obtain rfl : kk = n := by omega
        have hl := Lib.hid hs.len
        go_wp2
        go_ret
        exact ⟨by rw [List.take_of_length_le (by rw [hl.out]; exact Nat.le_refl _)]; rfl, BW.out⟩
end Go.Proofs.Ytffhcifeccdfjaa
