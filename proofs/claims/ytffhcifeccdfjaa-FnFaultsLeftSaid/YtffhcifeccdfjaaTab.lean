/- Tables of actions: the draw, HealthTable. -/
import Derived.Test.YtffhcifeccdfjaaPick
import Derived.Test.YtffhcifeccdfjaaSel
import Derived.Test.YtffhcifeccdfjaaOrd
import Derived.Test.YtffhcifeccdfjaaIdxInt
namespace Go.Proofs.Ytffhcifeccdfjaa
set_option linter.unusedVariables false
set_option linter.unusedSimpArgs false
open Go.RowKit Go.Shelf

def tabOk (xs : List Int) : Bool := decide (xs.length = 3) && xs.all fun x => inB x 0 2
theorem any_not {α : Type} (p : α → Bool) (xs : List α) : (!xs.any fun x => !p x) = xs.all p := by
  induction xs with
  | nil => rfl
  | cons a l ih => simp [← ih]

theorem actBad_any (x : Int) (w : World) : Calls Try.prog 89 #[.int .i64 x] w fun e w' => .returned (.bool (!inB x 0 2)) = e ∧ Below w.heap.size w w' := by
  go_enter Try.func89, Try.ntmps89
  go_wp2_with (go_at_call 43; refine (in_any _ _ _ _).mono ?_; rintro e w1 ⟨rfl, rfl⟩)
  go_ret
  exact ⟨rfl, Below.refl _ _⟩
theorem enters_act (args : Array Value) (w : World) : (callFunc 89 args).run Try.prog w = .ok (.enter 89 args) w := enters_of Try.func89 (by kernel_rfl) rfl args w

theorem healthTable_any (A : Option Addr) (n c : Nat) (xs : List Int) (w : World) (hs : Sl w 1 eI A n c xs) :
    Calls Try.prog 62 #[.slice A n c] w fun e w' => .returned (.bool (tabOk xs)) = e ∧ Below w.heap.size w w' := by
  have hl := hs.len
  unfold tabOk
  by_cases h3 : n = 3
  · rw [← any_not]
    have hc := containsInt (fun x => !inB x 0 2) _ #[] enters_act A n c xs w (fun _ => True) (fun _ _ => trivial) (fun W x _ _ => actBad_any x W) hs
    generalize (xs.any fun x => !inB x 0 2) = v at hc ⊢
    subst h3
    rw [show decide (xs.length = 3) = true from by simp [hl]]
    clear hl hs
    go_enter Try.func62, Try.ntmps62
    go_wp2_with fail
    refine hc.mono ?_
    rintro e w' ⟨rfl, hb⟩
    go_wp2
    go_ret
    exact ⟨by simp, hb⟩
  · rw [show decide (xs.length = 3) = false from by simp [hl, h3]]
    have hne : ((n : Int) == 3) = false := by simp; omega
    clear hs hl h3
    go_enter Try.func62, Try.ntmps62
    go_wp2
    go_ret
    exact ⟨rfl, Below.refl _ _⟩

theorem specHealthTable_any (A : Option Addr) (n c : Nat) (xs : List Int) (w : World) (hs : Sl w 1 eI A n c xs) :
    Calls Try.prog 66 #[.slice A n c] w fun e w' => .returned (.bool (tabOk xs)) = e ∧ Below w.heap.size w w' := by
  have hle := hs.le
  have hmax := hs.max
  go_enter Try.func66, Try.ntmps66
  go_wp2
  go_loopg [3] n (fun gg s3 wr => ∃ kk : Nat, kk ≤ n ∧ n - kk ≤ gg ∧ s3 = .int .i64 kk ∧ Aside (Below w.heap.size w wr) ∧ Aside (∀ j y, j < kk → xs[j]? = some y → (fun x => inB x 0 2) y = true))
  case atStart => exact ⟨0, Nat.zero_le _, by omega, rfl, (show Aside _ from (by repeat (first | exact Below.refl _ _ | assumption | apply alo | (apply Below.setCell; rotate_left; (first | assumption | exact Nat.le_refl _ | (simp only []; omega))) | apply Below.drew | apply belowDrewN | (refine thn ?_ (by assumption))))), fun j _ hj => absurd hj (Nat.not_lt_zero _)⟩
  case round =>
    obtain ⟨kk, hkk, hg, rfl, BW, AA⟩ := hrel
    by_cases hlt : kk < n
    · have hltz : (kk : Int) < (n : Int) := by omega
      obtain ⟨b, o, rfl, hb, hc⟩ := hs.cells (by omega)
      have hlx : kk < xs.length := by have := hs.len; omega
      have hx : xs[kk]? = some xs[kk] := List.getElem?_eq_getElem hlx
      have hc0 := (BW.out.cell (p := ⟨b, o + kk * 1 + 0, none⟩) hb).trans (hc kk _ hx 0 _ rfl)
      clear hc
      have HX := Lib.hid hx
      clear hx
      generalize xs[kk] = y at hc0 HX
      simp only [eI, Nat.add_zero, Nat.mul_one] at hc0
      have hcall := fun W => l1In_any y 0 2 W
      cases hq : inB y 0 2
      all_goals
        simp only [hq] at hcall
        have HQ := Lib.hid hq
        clear hq
        go_wp2_with fail
        refine (hcall _).mono ?_
        rintro e w' ⟨rfl, rfl⟩
        go_wp2
      · go_ret
        exact ⟨by rw [tabOk, all_fails HX.out HQ.out, Bool.and_false]; rfl, (by have hBW := BW.out; repeat (first | exact Below.refl _ _ | assumption | apply alo | (apply Below.setCell; rotate_left; (first | assumption | exact Nat.le_refl _ | (simp only []; omega))) | apply Below.drew | apply belowDrewN | (refine thn ?_ (by assumption))))⟩
      · go_roundg (n - (kk + 1))
        case measure => omega
        case rel => exact ⟨kk + 1, by omega, by omega, by go_num, (show Aside _ from (by have hBW := BW.out; repeat (first | exact Below.refl _ _ | assumption | apply alo | (apply Below.setCell; rotate_left; (first | assumption | exact Nat.le_refl _ | (simp only []; omega))) | apply Below.drew | apply belowDrewN | (refine thn ?_ (by assumption))))), (show Aside _ from all_step AA.out HX.out (HQ.out))⟩
    · have hltz : ¬ (kk : Int) < (n : Int) := by omega
      obtain rfl : kk = n := by omega
      have hl := Lib.hid hs.len
      go_wp2
      go_ret
      exact ⟨by rw [tabOk, all_holds hl.out AA.out, hl.out, Bool.and_true]; simp; rw [Bool.eq_iff_iff]; simp; omega, BW.out⟩
end Go.Proofs.Ytffhcifeccdfjaa
