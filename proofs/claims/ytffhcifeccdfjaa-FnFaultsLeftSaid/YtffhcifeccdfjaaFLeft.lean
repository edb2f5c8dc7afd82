/- FaultsLeft of impl and spec. -/
import Derived.Test.YtffhcifeccdfjaaHStep
namespace Go.Proofs.Ytffhcifeccdfjaa
set_option linter.unusedVariables false
set_option linter.unusedSimpArgs false
open Go.RowKit

def leftL (f : Bool) (x y : Int) : Int := if f = true ∨ y = 2 then 0 else if y = 1 then 2 - x else -1
def fLeft (f : Bool) (x : Int) (xs : List Int) (fault : Int) : Int := if healthOk f x && (tabOk xs && inB fault 1 3) then leftL f x (hlAt xs fault) else -2
theorem fLeft_no {f : Bool} {x fault : Int} {xs : List Int} (h : (healthOk f x && (tabOk xs && inB fault 1 3)) = false) : fLeft f x xs fault = -2 := by unfold fLeft; rw [h]; rfl
theorem fLeft_yes {f : Bool} {x fault : Int} {xs : List Int} (h1 : healthOk f x = true) (h2 : tabOk xs = true) (h3 : inB fault 1 3 = true) : fLeft f x xs fault = leftL f x (hlAt xs fault) := by unfold fLeft; rw [h1, h2, h3]; rfl
set_option maxHeartbeats 2000000 in
theorem faultsLeft_any (f : Bool) (x fault : Int) (A : Option Addr) (n c : Nat) (xs : List Int) (w : World) (hs : Sl w 1 eI A n c xs) :
    Calls Try.prog 30 #[.agg #[.bool f, .int .i64 x], .slice A n c, .int .i64 fault] w fun e w' => .returned (.int .i64 (fLeft f x xs fault)) = e ∧ Below w.heap.size w w' := by
  have hle := hs.le
  have hmax := hs.max
  have NO := Lib.hid (@fLeft_no f x fault xs)
  have YES := Lib.hid (@fLeft_yes f x fault xs)
  have h1 := fun W => healthValid_any f x W
  have h2 := fun W h => healthTable_any A n c xs W h
  have h3 := fun W => isFault_any fault W
  have hx := @healthOk_bd f x
  have ht := @hlAt_cell xs fault
  have hf := @inB_true fault 0 3
  have hf1 := @inB_true fault 1 3
  have hf1n := @inB_false fault 1 3
  generalize healthOk f x = v1 at *
  generalize tabOk xs = v2 at *
  generalize inB fault 0 3 = v3 at *
  generalize fLeft f x xs fault = o at *
  generalize hlAt xs fault = y at *
  skip
  have hb0 := alo (Below.refl w.heap.size w) (.cells #[.bool f, .int .i64 x] 50)
  have B0 := Blk.new w 50 #[.bool f, .int .i64 x]
  cases v1
  · clear h2 h3 hx ht hf hf1 hf1n YES
    have cB0_0 := B0.c0; have cB0_1 := B0.c1; have fB0 := B0.frozen
    go_enter Try.func30, Try.ntmps30
    go_wp2_with fail; refine (h1 _).mono ?_; rintro e w1 ⟨rfl, hbw1⟩; replace B0 := Blk.belowOf B0 hbw1 (by repeat (first | exact B0 | apply Blk.alloc | apply Blk.drew | (apply Blk.far; rotate_left; (first | assumption | exact Ne.symm (by assumption))) | apply Blk.set_))
    have cB0_0 := B0.c0; have cB0_1 := B0.c1; have fB0 := B0.frozen
    go_wp2
    go_ret
    exact ⟨congrArg (fun o => Ending.returned (.int .i64 o)) (NO.out rfl), (by repeat (first | exact Below.refl _ _ | assumption | apply alo | (apply Below.setCell; rotate_left; (first | assumption | exact Nat.le_refl _ | (simp only []; omega))) | apply Below.drew | apply belowDrewN | (refine thn ?_ (by assumption))))⟩
  · obtain ⟨hx0, hx1, hx2⟩ := hx rfl
    clear hx
    have cB0_0 := B0.c0; have cB0_1 := B0.c1; have fB0 := B0.frozen
    go_enter Try.func30, Try.ntmps30
    go_wp2_with fail; refine (h1 _).mono ?_; rintro e w1 ⟨rfl, hbw1⟩; replace B0 := Blk.belowOf B0 hbw1 (by repeat (first | exact B0 | apply Blk.alloc | apply Blk.drew | (apply Blk.far; rotate_left; (first | assumption | exact Ne.symm (by assumption))) | apply Blk.set_))
    have hb1 := thn hb0 hbw1
    have hs1 := hs.below hb1
    clear hbw1
    have cB0_0 := B0.c0; have cB0_1 := B0.c1; have fB0 := B0.frozen
    go_wp2_with fail; refine (h2 _ hs1).mono ?_; rintro e w2 ⟨rfl, hbw2⟩; replace B0 := Blk.belowOf B0 hbw2 (by repeat (first | exact B0 | apply Blk.alloc | apply Blk.drew | (apply Blk.far; rotate_left; (first | assumption | exact Ne.symm (by assumption))) | apply Blk.set_))
    have hb2 := thn hb1 hbw2
    clear hbw2 hs1 h1 h2
    cases v2
    · clear hf ht hf1 hf1n YES
      have cB0_0 := B0.c0; have cB0_1 := B0.c1; have fB0 := B0.frozen
      go_wp2
      go_ret
      exact ⟨congrArg (fun o => Ending.returned (.int .i64 o)) (NO.out rfl), (by repeat (first | exact Below.refl _ _ | assumption | apply alo | (apply Below.setCell; rotate_left; (first | assumption | exact Nat.le_refl _ | (simp only []; omega))) | apply Below.drew | apply belowDrewN | (refine thn ?_ (by assumption))))⟩
    · cases v3
      · go_wp2_with fail; refine (h3 _).mono ?_; rintro e w' ⟨rfl, rfl⟩
        have hv3 : inB fault 1 3 = false := hf1n.2 (by have := hf; simp only [Bool.false_eq_true, false_iff] at this; omega)
        replace NO := Lib.hid (fun (_ : Unit) => NO.out (by rw [hv3]; rfl))
        clear ht hf1 hf1n YES hv3 hf
        have cB0_0 := B0.c0; have cB0_1 := B0.c1; have fB0 := B0.frozen
        go_wp2
        go_ret
        exact ⟨congrArg (fun o => Ending.returned (.int .i64 o)) (NO.out ()), (by repeat (first | exact Below.refl _ _ | assumption | apply alo | (apply Below.setCell; rotate_left; (first | assumption | exact Nat.le_refl _ | (simp only []; omega))) | apply Below.drew | apply belowDrewN | (refine thn ?_ (by assumption))))⟩
      · obtain ⟨hf0, hf3⟩ := hf.1 rfl
        clear hf hb1 hb0
        clear cB0_0 cB0_1 fB0
        have cB0_0 := B0.c0; have cB0_1 := B0.c1; have fB0 := B0.frozen
        by_cases h0 : fault = 0
        · subst h0
          have hv3 : inB 0 1 3 = false := rfl
          replace NO := Lib.hid (fun (_ : Unit) => NO.out (by rw [hv3]; rfl))
          clear ht hf1 hf1n YES hv3
          go_wp2_with fail; refine (h3 _).mono ?_; rintro e w' ⟨rfl, rfl⟩
          have cB0_0 := B0.c0; have cB0_1 := B0.c1; have fB0 := B0.frozen
          go_wp2
          go_ret
          exact ⟨congrArg (fun o => Ending.returned (.int .i64 o)) (NO.out ()), (by repeat (first | exact Below.refl _ _ | assumption | apply alo | (apply Below.setCell; rotate_left; (first | assumption | exact Nat.le_refl _ | (simp only []; omega))) | apply Below.drew | apply belowDrewN | (refine thn ?_ (by assumption))))⟩
        have h0' : (fault == (0 : Int)) = false := by simpa using h0
        have hv3 : inB fault 1 3 = true := hf1.2 (by omega)
        cases f
        · obtain ⟨hy1, hy2, hy3⟩ := ht rfl (by omega) hf3
          have hk : (fault - 1).toNat < n := by have := (List.getElem?_eq_some_iff.1 hy1).1; have := hs.len; omega
          obtain ⟨b, o', rfl, z, hz, hc⟩ := hs.nth hk hb2
          obtain rfl : z = y := by rw [hy1] at hz; injection hz with hz; exact hz.symm
          have hd0 := hc 0 _ rfl
          simp only [eI, Nat.mul_one, Nat.add_zero] at hd0
          rw [show (fault - 1).toNat = fault.toNat - 1 by omega] at hd0
          have hi1 : 0 ≤ fault - 1 := by omega
          have hi2 : fault - 1 < (n : Int) := by omega
          have hi3 : 1 ≤ fault := by omega
          clear hc hz hy1 hs ht hf1n hf1
          by_cases h4 : z = 2
          · subst h4
            have HQ := Lib.hid ((YES.out (by simp) (by simp) hv3).trans (show leftL false x 2 = 0 from rfl))
            clear YES NO hv3
            go_wp2_with fail; refine (h3 _).mono ?_; rintro e w' ⟨rfl, rfl⟩
            have cB0_0 := B0.c0; have cB0_1 := B0.c1; have fB0 := B0.frozen
            go_wp2
            go_ret
            exact ⟨congrArg (fun o => Ending.returned (.int .i64 o)) HQ.out, (by repeat (first | exact Below.refl _ _ | assumption | apply alo | (apply Below.setCell; rotate_left; (first | assumption | exact Nat.le_refl _ | (simp only []; omega))) | apply Below.drew | apply belowDrewN | (refine thn ?_ (by assumption))))⟩
          · have h4' : (z == (2 : Int)) = false := by simpa using h4
            by_cases h1 : z = 1
            · subst h1
              have HQ := Lib.hid ((YES.out (by simp) (by simp) hv3).trans (show leftL false x 1 = 2 - x by unfold leftL; rw [if_neg (by simp), if_pos rfl]))
              clear YES NO hv3
              go_wp2_with fail; refine (h3 _).mono ?_; rintro e w' ⟨rfl, rfl⟩
              have cB0_0 := B0.c0; have cB0_1 := B0.c1; have fB0 := B0.frozen
              go_wp2
              go_ret
              exact ⟨congrArg (fun o => Ending.returned (.int .i64 o)) HQ.out, (by repeat (first | exact Below.refl _ _ | assumption | apply alo | (apply Below.setCell; rotate_left; (first | assumption | exact Nat.le_refl _ | (simp only []; omega))) | apply Below.drew | apply belowDrewN | (refine thn ?_ (by assumption))))⟩
            · have h1' : (z == (1 : Int)) = false := by simpa using h1
              obtain rfl : z = 0 := by omega
              have HQ := Lib.hid ((YES.out (by simp) (by simp) hv3).trans (show leftL false x 0 = -1 from rfl))
              clear YES NO h4 h1 hv3
              go_wp2_with fail; refine (h3 _).mono ?_; rintro e w' ⟨rfl, rfl⟩
              have cB0_0 := B0.c0; have cB0_1 := B0.c1; have fB0 := B0.frozen
              go_wp2
              go_ret
              exact ⟨congrArg (fun o => Ending.returned (.int .i64 o)) HQ.out, (by repeat (first | exact Below.refl _ _ | assumption | apply alo | (apply Below.setCell; rotate_left; (first | assumption | exact Nat.le_refl _ | (simp only []; omega))) | apply Below.drew | apply belowDrewN | (refine thn ?_ (by assumption))))⟩
        · have HQ := Lib.hid ((YES.out (by simp) (by simp) hv3).trans (show leftL true x y = 0 from if_pos (.inl rfl)))
          clear hs ht hf1n hf1 YES NO hv3
          go_wp2_with fail; refine (h3 _).mono ?_; rintro e w' ⟨rfl, rfl⟩
          have cB0_0 := B0.c0; have cB0_1 := B0.c1; have fB0 := B0.frozen
          go_wp2
          go_ret
          exact ⟨congrArg (fun o => Ending.returned (.int .i64 o)) HQ.out, (by repeat (first | exact Below.refl _ _ | assumption | apply alo | (apply Below.setCell; rotate_left; (first | assumption | exact Nat.le_refl _ | (simp only []; omega))) | apply Below.drew | apply belowDrewN | (refine thn ?_ (by assumption))))⟩
set_option maxHeartbeats 2000000 in
theorem specFaultsLeft_any (f : Bool) (x fault : Int) (A : Option Addr) (n c : Nat) (xs : List Int) (w : World) (hs : Sl w 1 eI A n c xs) :
    Calls Try.prog 31 #[.agg #[.bool f, .int .i64 x], .slice A n c, .int .i64 fault] w fun e w' => .returned (.int .i64 (fLeft f x xs fault)) = e ∧ Below w.heap.size w w' := by
  have hle := hs.le
  have hmax := hs.max
  have NO := Lib.hid (@fLeft_no f x fault xs)
  have YES := Lib.hid (@fLeft_yes f x fault xs)
  have h1 := fun W => specHealthValid_any f x W
  have h2 := fun W h => specHealthTable_any A n c xs W h
  have h3 := fun W => l1In_any fault 1 3 W
  have hx := @healthOk_bd f x
  have ht := @hlAt_cell xs fault
  have hf := @inB_true fault 1 3
  have hf1 := @inB_true fault 1 3
  have hf1n := @inB_false fault 1 3
  generalize healthOk f x = v1 at *
  generalize tabOk xs = v2 at *
  generalize inB fault 1 3 = v3 at *
  generalize fLeft f x xs fault = o at *
  generalize hlAt xs fault = y at *
  skip
  have hb0 := alo (Below.refl w.heap.size w) (.cells #[.bool f, .int .i64 x] 50)
  have B0 := Blk.new w 50 #[.bool f, .int .i64 x]
  cases v1
  · clear h2 h3 hx ht hf hf1 hf1n YES
    have cB0_0 := B0.c0; have cB0_1 := B0.c1; have fB0 := B0.frozen
    go_enter Try.func31, Try.ntmps31
    go_wp2_with fail; refine (h1 _).mono ?_; rintro e w1 ⟨rfl, hbw1⟩; replace B0 := Blk.belowOf B0 hbw1 (by repeat (first | exact B0 | apply Blk.alloc | apply Blk.drew | (apply Blk.far; rotate_left; (first | assumption | exact Ne.symm (by assumption))) | apply Blk.set_))
    have cB0_0 := B0.c0; have cB0_1 := B0.c1; have fB0 := B0.frozen
    go_wp2
    go_ret
    exact ⟨congrArg (fun o => Ending.returned (.int .i64 o)) (NO.out rfl), (by repeat (first | exact Below.refl _ _ | assumption | apply alo | (apply Below.setCell; rotate_left; (first | assumption | exact Nat.le_refl _ | (simp only []; omega))) | apply Below.drew | apply belowDrewN | (refine thn ?_ (by assumption))))⟩
  · obtain ⟨hx0, hx1, hx2⟩ := hx rfl
    clear hx
    have cB0_0 := B0.c0; have cB0_1 := B0.c1; have fB0 := B0.frozen
    go_enter Try.func31, Try.ntmps31
    go_wp2_with fail; refine (h1 _).mono ?_; rintro e w1 ⟨rfl, hbw1⟩; replace B0 := Blk.belowOf B0 hbw1 (by repeat (first | exact B0 | apply Blk.alloc | apply Blk.drew | (apply Blk.far; rotate_left; (first | assumption | exact Ne.symm (by assumption))) | apply Blk.set_))
    have hb1 := thn hb0 hbw1
    have hs1 := hs.below hb1
    clear hbw1
    have cB0_0 := B0.c0; have cB0_1 := B0.c1; have fB0 := B0.frozen
    go_wp2_with fail; refine (h2 _ hs1).mono ?_; rintro e w2 ⟨rfl, hbw2⟩; replace B0 := Blk.belowOf B0 hbw2 (by repeat (first | exact B0 | apply Blk.alloc | apply Blk.drew | (apply Blk.far; rotate_left; (first | assumption | exact Ne.symm (by assumption))) | apply Blk.set_))
    have hb2 := thn hb1 hbw2
    clear hbw2 hs1 h1 h2
    cases v2
    · clear hf ht hf1 hf1n YES
      have cB0_0 := B0.c0; have cB0_1 := B0.c1; have fB0 := B0.frozen
      go_wp2
      go_ret
      exact ⟨congrArg (fun o => Ending.returned (.int .i64 o)) (NO.out rfl), (by repeat (first | exact Below.refl _ _ | assumption | apply alo | (apply Below.setCell; rotate_left; (first | assumption | exact Nat.le_refl _ | (simp only []; omega))) | apply Below.drew | apply belowDrewN | (refine thn ?_ (by assumption))))⟩
    · cases v3
      · go_wp2_with fail; refine (h3 _).mono ?_; rintro e w' ⟨rfl, rfl⟩
        clear ht hf1 hf1n YES
        have cB0_0 := B0.c0; have cB0_1 := B0.c1; have fB0 := B0.frozen
        go_wp2
        go_ret
        exact ⟨congrArg (fun o => Ending.returned (.int .i64 o)) (NO.out rfl), (by repeat (first | exact Below.refl _ _ | assumption | apply alo | (apply Below.setCell; rotate_left; (first | assumption | exact Nat.le_refl _ | (simp only []; omega))) | apply Below.drew | apply belowDrewN | (refine thn ?_ (by assumption))))⟩
      · obtain ⟨hf0, hf3⟩ := hf.1 rfl
        clear hf hb1 hb0
        clear cB0_0 cB0_1 fB0
        have cB0_0 := B0.c0; have cB0_1 := B0.c1; have fB0 := B0.frozen
        skip
        cases f
        · obtain ⟨hy1, hy2, hy3⟩ := ht rfl (by omega) hf3
          have hk : (fault - 1).toNat < n := by have := (List.getElem?_eq_some_iff.1 hy1).1; have := hs.len; omega
          obtain ⟨b, o', rfl, z, hz, hc⟩ := hs.nth hk hb2
          obtain rfl : z = y := by rw [hy1] at hz; injection hz with hz; exact hz.symm
          have hd0 := hc 0 _ rfl
          simp only [eI, Nat.mul_one, Nat.add_zero] at hd0
          rw [show (fault - 1).toNat = fault.toNat - 1 by omega] at hd0
          have hi1 : 0 ≤ fault - 1 := by omega
          have hi2 : fault - 1 < (n : Int) := by omega
          have hi3 : 1 ≤ fault := by omega
          clear hc hz hy1 hs ht hf1n hf1
          by_cases h4 : z = 2
          · subst h4
            have HQ := Lib.hid ((YES.out (by simp) (by simp) (by simp)).trans (show leftL false x 2 = 0 from rfl))
            clear YES NO
            go_wp2_with fail; refine (h3 _).mono ?_; rintro e w' ⟨rfl, rfl⟩
            have cB0_0 := B0.c0; have cB0_1 := B0.c1; have fB0 := B0.frozen
            go_wp2
            go_ret
            exact ⟨congrArg (fun o => Ending.returned (.int .i64 o)) HQ.out, (by repeat (first | exact Below.refl _ _ | assumption | apply alo | (apply Below.setCell; rotate_left; (first | assumption | exact Nat.le_refl _ | (simp only []; omega))) | apply Below.drew | apply belowDrewN | (refine thn ?_ (by assumption))))⟩
          · have h4' : (z == (2 : Int)) = false := by simpa using h4
            by_cases h1 : z = 1
            · subst h1
              have HQ := Lib.hid ((YES.out (by simp) (by simp) (by simp)).trans (show leftL false x 1 = 2 - x by unfold leftL; rw [if_neg (by simp), if_pos rfl]))
              clear YES NO
              go_wp2_with fail; refine (h3 _).mono ?_; rintro e w' ⟨rfl, rfl⟩
              have cB0_0 := B0.c0; have cB0_1 := B0.c1; have fB0 := B0.frozen
              go_wp2
              go_ret
              exact ⟨congrArg (fun o => Ending.returned (.int .i64 o)) HQ.out, (by repeat (first | exact Below.refl _ _ | assumption | apply alo | (apply Below.setCell; rotate_left; (first | assumption | exact Nat.le_refl _ | (simp only []; omega))) | apply Below.drew | apply belowDrewN | (refine thn ?_ (by assumption))))⟩
            · have h1' : (z == (1 : Int)) = false := by simpa using h1
              obtain rfl : z = 0 := by omega
              have HQ := Lib.hid ((YES.out (by simp) (by simp) (by simp)).trans (show leftL false x 0 = -1 from rfl))
              clear YES NO h4 h1
              go_wp2_with fail; refine (h3 _).mono ?_; rintro e w' ⟨rfl, rfl⟩
              have cB0_0 := B0.c0; have cB0_1 := B0.c1; have fB0 := B0.frozen
              go_wp2
              go_ret
              exact ⟨congrArg (fun o => Ending.returned (.int .i64 o)) HQ.out, (by repeat (first | exact Below.refl _ _ | assumption | apply alo | (apply Below.setCell; rotate_left; (first | assumption | exact Nat.le_refl _ | (simp only []; omega))) | apply Below.drew | apply belowDrewN | (refine thn ?_ (by assumption))))⟩
        · have HQ := Lib.hid ((YES.out (by simp) (by simp) (by simp)).trans (show leftL true x y = 0 from if_pos (.inl rfl)))
          clear hs ht hf1n hf1 YES NO
          go_wp2_with fail; refine (h3 _).mono ?_; rintro e w' ⟨rfl, rfl⟩
          have cB0_0 := B0.c0; have cB0_1 := B0.c1; have fB0 := B0.frozen
          go_wp2
          go_ret
          exact ⟨congrArg (fun o => Ending.returned (.int .i64 o)) HQ.out, (by repeat (first | exact Below.refl _ _ | assumption | apply alo | (apply Below.setCell; rotate_left; (first | assumption | exact Nat.le_refl _ | (simp only []; omega))) | apply Below.drew | apply belowDrewN | (refine thn ?_ (by assumption))))⟩
end Go.Proofs.Ytffhcifeccdfjaa
