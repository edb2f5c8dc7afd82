/- slices.IndexFunc, slices.ContainsFunc at Order. -/
import Derived.Test.YtckgdlgdipfgmaaGreatBase
import Derived.Test.YtckgdlgdipfgmaaGreatChecked
import Derived.Shelf.Abstract
namespace Go.Proofs.YtckgdlgdipfgmaaGreat
set_option linter.unusedVariables false
set_option linter.unusedSimpArgs false
open Go.RowKit Go.Shelf

set_option maxHeartbeats 400000 in
theorem indexOrd (p : (Int × Int × Int) → Bool) (g : Nat) (lb : Array Value) (eg : ∀ args w, (callFunc g args).run Tryz.prog w = .ok (.enter g args) w) (A : Option Addr) (n c : Nat) (xs : List (Int × Int × Int)) (w : World) (ok : (Int × Int × Int) → Prop) (hok : ∀ x ∈ xs, ok x)
    (hp : Pred Tryz.prog g lb (fun x => .agg (eO x).toArray) ok p w) (hs : Sl w 3 eO A n c xs) :
    Calls Tryz.prog 156 #[.slice A n c, .func (.func g) #[] lb] w fun e w' => .returned (.int .i64 (idxP p xs)) = e ∧ Below w.heap.size w w' := by
  have hle := hs.le
  have hmax := hs.max
  go_enter Tryz.func156, Tryz.ntmps156
  go_wp2
  go_loopg [5, 8] n (fun gg _ s8 wr => ∃ kk : Nat, kk ≤ n ∧ n - kk ≤ gg ∧ s8 = .int .i64 kk ∧ Aside (Below w.heap.size w wr) ∧ Aside (∀ j y, j < kk → xs[j]? = some y → p y = false))
  case atStart => exact ⟨0, Nat.zero_le _, by omega, rfl, Below.refl _ w, fun j _ hj => absurd hj (Nat.not_lt_zero _)⟩
  case round =>
    obtain ⟨kk, hkk, hg, rfl, BW, AA⟩ := hrel
    by_cases hlt : kk < n
    · have hltz : (kk : Int) < (n : Int) := by omega
      obtain ⟨b, o, rfl, hb, hc⟩ := hs.cells (by omega)
      have hlx : kk < xs.length := by have := hs.len; omega
      have hx : xs[kk]? = some xs[kk] := List.getElem?_eq_getElem hlx
      have hcall := hp wr xs[kk] (hok _ (List.getElem_mem hlx)) BW.out
      have hc0 := (BW.out.cell (p := ⟨b, o + kk * 3 + 0, none⟩) hb).trans (hc kk _ hx 0 _ rfl)
      have hc1 := (BW.out.cell (p := ⟨b, o + kk * 3 + 1, none⟩) hb).trans (hc kk _ hx 1 _ rfl)
      have hc2 := (BW.out.cell (p := ⟨b, o + kk * 3 + 2, none⟩) hb).trans (hc kk _ hx 2 _ rfl)
      clear hc hp hok
      have HX := Lib.hid hx
      clear hx
      generalize xs[kk] = y at hcall hc0 hc1 hc2 HX
      simp only [eO, Nat.add_zero, Nat.mul_one] at hcall hc0 hc1 hc2
      cases hq : p y with
      | true =>
        rw [hq] at hcall
        have HQ := Lib.hid hq
        clear hq
        go_wp2_with fail
        refine hcall.mono ?_
        rintro e w' ⟨rfl, hb'⟩
        go_wp2
        go_ret
        refine ⟨?_, BW.out.trans (hb'.mono BW.out.size)⟩
        rw [idxP_hit p xs kk y HX.out HQ.out AA.out]; rfl
      | false =>
        rw [hq] at hcall
        have HQ := Lib.hid hq
        clear hq
        go_wp2_with fail
        refine hcall.mono ?_
        rintro e w' ⟨rfl, hb'⟩
        go_wp2
        go_roundg (n - (kk + 1))
        case measure => omega
        case rel =>
          refine ⟨kk + 1, by omega, by omega, by go_num, BW.out.trans (hb'.mono BW.out.size), (show Aside _ from fun j z hj hz => ?_)⟩
          by_cases e : j = kk
          · subst e
            have := HX.out
            rw [this] at hz
            injection hz with hz
            rw [← hz]; exact HQ.out
          · exact AA.out j z (by omega) hz
    · have hltz : ¬ (kk : Int) < (n : Int) := by omega
      have : kk = n := by omega
      subst this
      go_wp2
      go_ret
      refine ⟨?_, BW.out⟩
      rw [idxP_miss p xs (fun j y hj hy => AA.out j y (by have := hs.len; omega) hy)]; rfl

theorem containsOrd (p : (Int × Int × Int) → Bool) (g : Nat) (lb : Array Value) (eg : ∀ args w, (callFunc g args).run Tryz.prog w = .ok (.enter g args) w) (A : Option Addr) (n c : Nat) (xs : List (Int × Int × Int)) (w : World) (ok : (Int × Int × Int) → Prop) (hok : ∀ x ∈ xs, ok x)
    (hp : Pred Tryz.prog g lb (fun x => .agg (eO x).toArray) ok p w) (hs : Sl w 3 eO A n c xs) :
    Calls Tryz.prog 143 #[.slice A n c, .func (.func g) #[] lb] w fun e w' => .returned (.bool (xs.any p)) = e ∧ Below w.heap.size w w' := by
  rw [← idxP_nonneg p xs]
  have hcall : ∀ W : World, W = w → Calls Tryz.prog 156 #[.slice A n c, .func (.func g) #[] lb] W fun e w' => .returned (.int .i64 (idxP p xs)) = e ∧ Below W.heap.size W w' := by
    rintro W rfl
    exact indexOrd p g lb eg A n c xs _ ok hok hp hs
  have hc := hcall w rfl
  clear hcall hp hs
  generalize idxP p xs = i at hc ⊢
  go_enter Tryz.func143, Tryz.ntmps143
  go_wp2_with fail
  refine hc.mono ?_
  rintro e w' ⟨rfl, hb⟩
  go_wp2
  go_ret
  exact ⟨rfl, hb⟩
end Go.Proofs.YtckgdlgdipfgmaaGreat
