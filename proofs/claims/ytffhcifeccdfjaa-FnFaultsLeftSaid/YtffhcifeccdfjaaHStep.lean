/- HealthStep, FaultsLeft of impl and spec. -/
import Derived.Test.YtffhcifeccdfjaaHealth
import Derived.Test.YtffhcifeccdfjaaTab
import Derived.Test.YtffhcifeccdfjaaL1In
import Derived.Test.YtffhcifeccdfjaaList
import Derived.Outline
namespace Go.Proofs.Ytffhcifeccdfjaa
set_option linter.unusedVariables false
set_option linter.unusedSimpArgs false
open Go.RowKit

/-- The state and the action behind a fault whose action in the table is y. -/
def afterL (f : Bool) (x y fault : Int) : (Bool × Int) × Int :=
  if fault = 0 ∨ f = true then ((f, x), 0) else if y = 1 then (if x + 1 = 3 then ((true, 3), 2) else ((false, x + 1), 1)) else if y = 2 then ((true, x), 2) else ((false, x), 0)
def hlAt (xs : List Int) (fault : Int) : Int := xs[(fault - 1).toNat]?.getD 0
def hOk (f : Bool) (x : Int) (xs : List Int) (fault : Int) : Bool := healthOk f x && (tabOk xs && inB fault 0 3)
def hStep (f : Bool) (x : Int) (xs : List Int) (fault : Int) : (Bool × Int) × Int := if hOk f x xs fault then afterL f x (hlAt xs fault) fault else ((false, 0), -1)
def hV (o : (Bool × Int) × Int) : Value := .tuple #[.agg #[.bool o.1.1, .int .i64 o.1.2], .int .i64 o.2]
theorem isFault_any (n : Int) (w : World) : Calls Try.prog 63 #[.int .i64 n] w fun e w' => .returned (.bool (inB n 0 3)) = e ∧ w = w' := by
  go_enter Try.func63, Try.ntmps63
  go_wp2_with (go_at_call 43; refine (in_any _ _ _ _).mono ?_; rintro e w1 ⟨rfl, rfl⟩)
  go_ret
  exact ⟨rfl, rfl⟩
theorem healthOk_bd {f : Bool} {x : Int} (h : healthOk f x = true) : 0 ≤ x ∧ x ≤ 3 ∧ (f = true ∨ x < 3) := by
  simp only [healthOk, Bool.and_eq_true, Bool.or_eq_true, inB_true, decide_eq_true_eq] at h
  exact ⟨h.1.1, h.1.2, h.2⟩
theorem hlAt_cell {xs : List Int} {fault : Int} (h : tabOk xs = true) (h1 : 1 ≤ fault) (h2 : fault ≤ 3) : xs[(fault - 1).toNat]? = some (hlAt xs fault) ∧ 0 ≤ hlAt xs fault ∧ hlAt xs fault ≤ 2 := by
  simp only [tabOk, Bool.and_eq_true, decide_eq_true_eq, List.all_eq_true, inB_true] at h
  unfold hlAt
  have hk : (fault - 1).toNat < xs.length := by omega
  rw [List.getElem?_eq_getElem hk]
  exact ⟨rfl, h.2 _ (List.getElem_mem hk)⟩

set_option maxHeartbeats 1000000 in
theorem after_any (f : Bool) (x y fault : Int) (A : Option Addr) (n c : Nat) (xs : List Int) (w : World) (hs : Sl w 1 eI A n c xs) (hx : 0 ≤ x ∧ x ≤ 3) (hf : 0 ≤ fault ∧ fault ≤ 3) (hy : 1 ≤ fault → xs[(fault - 1).toNat]? = some y ∧ 0 ≤ y ∧ y ≤ 2) :
    Calls Try.prog 64 #[.agg #[.bool f, .int .i64 x], .slice A n c, .int .i64 fault] w fun e w' => .returned (hV (afterL f x y fault)) = e ∧ Below w.heap.size w w' := by
  have hle := hs.le
  have hmax := hs.max
  obtain ⟨hx0, hx1⟩ := hx
  skip
  have hb0 := alo (alo (Below.refl w.heap.size w) (.cells #[.bool f, .int .i64 x] 50)) (.cells #[.bool false, .int .i64 0] 50)
  have B0 := (Blk.new w 50 #[.bool f, .int .i64 x]).alloc (.cells #[.bool false, .int .i64 0] 50)
  have B1 := Blk.new2 w (.cells #[.bool f, .int .i64 x] 50) 50 #[.bool false, .int .i64 0]
  skip
  skip
  unfold afterL
  by_cases h0 : fault = 0
  · subst h0
    rw [if_pos (.inl rfl)]
    clear hy hs
    go_enter Try.func64, Try.ntmps64
    have cB0_0 := B0.c0; have cB0_1 := B0.c1; have fB0 := B0.frozen; have cB1_0 := B1.c0; have cB1_1 := B1.c1; have fB1 := B1.frozen
    go_wp2
    exact bodyPost_ret (v := hV (((f), (x)), (0))) (by simp [results, Try.results64, go_sem, hV, cB0_0, cB0_1, cB1_0, cB1_1]) rfl ⟨rfl, (by repeat (first | exact Below.refl _ _ | assumption | apply alo | (apply Below.setCell; rotate_left; (first | assumption | exact Nat.le_refl _ | (simp only []; omega))) | apply Below.drew | apply belowDrewN | (refine thn ?_ (by assumption))))⟩
  · cases f
    · rw [if_neg (by simp [h0])]
      obtain ⟨hy1, hy2, hy3⟩ := hy (by omega)
      have h0' : (fault == (0 : Int)) = false := by simpa using h0
      have hk : (fault - 1).toNat < n := by have := (List.getElem?_eq_some_iff.1 hy1).1; have := hs.len; omega
      obtain ⟨b, o, rfl, z, hz, hc⟩ := hs.nth hk (Below.refl _ _)
      obtain rfl : z = y := by rw [hy1] at hz; injection hz with hz; exact hz.symm
      have hd0 := (hb0.cell (p := ⟨b, o + (fault - 1).toNat * 1 + 0, none⟩) (World.block_lt_of_cell? _ _ (hc 0 _ rfl))).trans (hc 0 _ rfl)
      simp only [eI, Nat.mul_one, Nat.add_zero] at hd0
      rw [show (fault - 1).toNat = fault.toNat - 1 by omega] at hd0
      have hi1 : 0 ≤ fault - 1 := by omega
      have hi2 : fault - 1 < (n : Int) := by omega
      have hi3 : 1 ≤ fault := by omega
      obtain ⟨hf0, hf1⟩ := hf
      clear hc hz hy1 hs hy h0
      by_cases h1 : z = 1
      · subst h1
        rw [if_pos rfl]
        by_cases h3 : x + 1 = 3
        · rw [if_pos h3]
          obtain rfl : x = 2 := by omega
          clear h3
          go_enter Try.func64, Try.ntmps64
          have cB0_0 := B0.c0; have cB0_1 := B0.c1; have fB0 := B0.frozen; have cB1_0 := B1.c0; have cB1_1 := B1.c1; have fB1 := B1.frozen
          go_wp2
          exact bodyPost_ret (v := hV (((true), (3)), (2))) (by simp [results, Try.results64, go_sem, hV, cB0_0, cB0_1, cB1_0, cB1_1]) rfl ⟨rfl, (by repeat (first | exact Below.refl _ _ | assumption | apply alo | (apply Below.setCell; rotate_left; (first | assumption | exact Nat.le_refl _ | (simp only []; omega))) | apply Below.drew | apply belowDrewN | (refine thn ?_ (by assumption))))⟩
        · rw [if_neg h3]
          have h3' : (x + 1 == (3 : Int)) = false := by simpa using h3
          clear h3
          go_enter Try.func64, Try.ntmps64
          have cB0_0 := B0.c0; have cB0_1 := B0.c1; have fB0 := B0.frozen; have cB1_0 := B1.c0; have cB1_1 := B1.c1; have fB1 := B1.frozen
          go_wp2
          exact bodyPost_ret (v := hV (((false), (x + 1)), (1))) (by simp [results, Try.results64, go_sem, hV, cB0_0, cB0_1, cB1_0, cB1_1]) rfl ⟨rfl, (by repeat (first | exact Below.refl _ _ | assumption | apply alo | (apply Below.setCell; rotate_left; (first | assumption | exact Nat.le_refl _ | (simp only []; omega))) | apply Below.drew | apply belowDrewN | (refine thn ?_ (by assumption))))⟩
      · rw [if_neg h1]
        have h1' : (z == (1 : Int)) = false := by simpa using h1
        by_cases h2 : z = 2
        · subst h2
          rw [if_pos rfl]
          clear h1
          go_enter Try.func64, Try.ntmps64
          have cB0_0 := B0.c0; have cB0_1 := B0.c1; have fB0 := B0.frozen; have cB1_0 := B1.c0; have cB1_1 := B1.c1; have fB1 := B1.frozen
          go_wp2
          exact bodyPost_ret (v := hV (((true), (x)), (2))) (by simp [results, Try.results64, go_sem, hV, cB0_0, cB0_1, cB1_0, cB1_1]) rfl ⟨rfl, (by repeat (first | exact Below.refl _ _ | assumption | apply alo | (apply Below.setCell; rotate_left; (first | assumption | exact Nat.le_refl _ | (simp only []; omega))) | apply Below.drew | apply belowDrewN | (refine thn ?_ (by assumption))))⟩
        · rw [if_neg h2]
          obtain rfl : z = 0 := by omega
          clear h1 h2
          go_enter Try.func64, Try.ntmps64
          have cB0_0 := B0.c0; have cB0_1 := B0.c1; have fB0 := B0.frozen; have cB1_0 := B1.c0; have cB1_1 := B1.c1; have fB1 := B1.frozen
          go_wp2
          exact bodyPost_ret (v := hV (((false), (x)), (0))) (by simp [results, Try.results64, go_sem, hV, cB0_0, cB0_1, cB1_0, cB1_1]) rfl ⟨rfl, (by repeat (first | exact Below.refl _ _ | assumption | apply alo | (apply Below.setCell; rotate_left; (first | assumption | exact Nat.le_refl _ | (simp only []; omega))) | apply Below.drew | apply belowDrewN | (refine thn ?_ (by assumption))))⟩
    · rw [if_pos (.inr rfl)]
      have h0' : (fault == (0 : Int)) = false := by simpa using h0
      clear hy hs h0
      go_enter Try.func64, Try.ntmps64
      have cB0_0 := B0.c0; have cB0_1 := B0.c1; have fB0 := B0.frozen; have cB1_0 := B1.c0; have cB1_1 := B1.c1; have fB1 := B1.frozen
      go_wp2
      exact bodyPost_ret (v := hV (((true), (x)), (0))) (by simp [results, Try.results64, go_sem, hV, cB0_0, cB0_1, cB1_0, cB1_1]) rfl ⟨rfl, (by repeat (first | exact Below.refl _ _ | assumption | apply alo | (apply Below.setCell; rotate_left; (first | assumption | exact Nat.le_refl _ | (simp only []; omega))) | apply Below.drew | apply belowDrewN | (refine thn ?_ (by assumption))))⟩

set_option maxHeartbeats 1000000 in
theorem healthStep_any (f : Bool) (x fault : Int) (A : Option Addr) (n c : Nat) (xs : List Int) (w : World) (hs : Sl w 1 eI A n c xs) :
    Calls Try.prog 26 #[.agg #[.bool f, .int .i64 x], .slice A n c, .int .i64 fault] w fun e w' => .returned (hV (hStep f x xs fault)) = e ∧ Below w.heap.size w w' := by
  unfold hStep hOk
  have h1 := fun W => healthValid_any f x W
  have h2 := fun W h => healthTable_any A n c xs W h
  have h3 := fun W => isFault_any fault W
  have h4 := fun W h p q r => after_any f x (hlAt xs fault) fault A n c xs W h p q r
  have hx := @healthOk_bd f x
  have ht := @hlAt_cell xs fault
  have hf := @inB_true fault 0 3
  generalize healthOk f x = v1 at *
  generalize tabOk xs = v2 at *
  generalize inB fault 0 3 = v3 at *
  generalize hlAt xs fault = y at *
  generalize afterL f x y fault = o at *
  skip
  have hb0 := alo (alo (Below.refl w.heap.size w) (.cells #[.bool f, .int .i64 x] 50)) (.cells #[.bool false, .int .i64 0] 50)
  have B0 := (Blk.new w 50 #[.bool f, .int .i64 x]).alloc (.cells #[.bool false, .int .i64 0] 50)
  have B1 := Blk.new2 w (.cells #[.bool f, .int .i64 x] 50) 50 #[.bool false, .int .i64 0]
  skip
  skip
  cases v1
  · clear h2 h3 h4 hx ht hf
    have cB0_0 := B0.c0; have cB0_1 := B0.c1; have fB0 := B0.frozen; have cB1_0 := B1.c0; have cB1_1 := B1.c1; have fB1 := B1.frozen
    go_enter Try.func26, Try.ntmps26
    go_wp2_with fail; refine (h1 _).mono ?_; rintro e w1 ⟨rfl, hbw1⟩; replace B0 := Blk.belowOf B0 hbw1 (by repeat (first | exact B0 | apply Blk.alloc | apply Blk.drew | (apply Blk.far; rotate_left; (first | assumption | exact Ne.symm (by assumption))) | apply Blk.set_)); replace B1 := Blk.belowOf B1 hbw1 (by repeat (first | exact B1 | apply Blk.alloc | apply Blk.drew | (apply Blk.far; rotate_left; (first | assumption | exact Ne.symm (by assumption))) | apply Blk.set_))
    have cB0_0 := B0.c0; have cB0_1 := B0.c1; have fB0 := B0.frozen; have cB1_0 := B1.c0; have cB1_1 := B1.c1; have fB1 := B1.frozen
    go_wp2
    exact bodyPost_ret (v := hV ((false, 0), -1)) (by simp [results, Try.results26, go_sem, hV, cB1_0, cB1_1]) rfl ⟨rfl, (by repeat (first | exact Below.refl _ _ | assumption | apply alo | (apply Below.setCell; rotate_left; (first | assumption | exact Nat.le_refl _ | (simp only []; omega))) | apply Below.drew | apply belowDrewN | (refine thn ?_ (by assumption))))⟩
  · obtain ⟨hx0, hx1, _⟩ := hx rfl
    clear hx
    have cB0_0 := B0.c0; have cB0_1 := B0.c1; have fB0 := B0.frozen; have cB1_0 := B1.c0; have cB1_1 := B1.c1; have fB1 := B1.frozen
    go_enter Try.func26, Try.ntmps26
    go_wp2_with fail; refine (h1 _).mono ?_; rintro e w1 ⟨rfl, hbw1⟩; replace B0 := Blk.belowOf B0 hbw1 (by repeat (first | exact B0 | apply Blk.alloc | apply Blk.drew | (apply Blk.far; rotate_left; (first | assumption | exact Ne.symm (by assumption))) | apply Blk.set_)); replace B1 := Blk.belowOf B1 hbw1 (by repeat (first | exact B1 | apply Blk.alloc | apply Blk.drew | (apply Blk.far; rotate_left; (first | assumption | exact Ne.symm (by assumption))) | apply Blk.set_))
    have hb1 := thn hb0 hbw1
    have hs1 := hs.below hb1
    clear hbw1
    have cB0_0 := B0.c0; have cB0_1 := B0.c1; have fB0 := B0.frozen; have cB1_0 := B1.c0; have cB1_1 := B1.c1; have fB1 := B1.frozen
    go_wp2_with fail; refine (h2 _ hs1).mono ?_; rintro e w2 ⟨rfl, hbw2⟩; replace B0 := Blk.belowOf B0 hbw2 (by repeat (first | exact B0 | apply Blk.alloc | apply Blk.drew | (apply Blk.far; rotate_left; (first | assumption | exact Ne.symm (by assumption))) | apply Blk.set_)); replace B1 := Blk.belowOf B1 hbw2 (by repeat (first | exact B1 | apply Blk.alloc | apply Blk.drew | (apply Blk.far; rotate_left; (first | assumption | exact Ne.symm (by assumption))) | apply Blk.set_))
    have hb2 := thn hb1 hbw2
    clear hbw2 hs1 h1 h2
    cases v2
    · clear hf ht h4
      have cB0_0 := B0.c0; have cB0_1 := B0.c1; have fB0 := B0.frozen; have cB1_0 := B1.c0; have cB1_1 := B1.c1; have fB1 := B1.frozen
      go_wp2
      exact bodyPost_ret (v := hV ((false, 0), -1)) (by simp [results, Try.results26, go_sem, hV, cB1_0, cB1_1]) rfl ⟨rfl, (by repeat (first | exact Below.refl _ _ | assumption | apply alo | (apply Below.setCell; rotate_left; (first | assumption | exact Nat.le_refl _ | (simp only []; omega))) | apply Below.drew | apply belowDrewN | (refine thn ?_ (by assumption))))⟩
    · cases v3
      · go_wp2_with fail; refine (h3 _).mono ?_; rintro e w' ⟨rfl, rfl⟩
        clear hf ht h4
        have cB0_0 := B0.c0; have cB0_1 := B0.c1; have fB0 := B0.frozen; have cB1_0 := B1.c0; have cB1_1 := B1.c1; have fB1 := B1.frozen
        go_wp2
        exact bodyPost_ret (v := hV ((false, 0), -1)) (by simp [results, Try.results26, go_sem, hV, cB1_0, cB1_1]) rfl ⟨rfl, (by repeat (first | exact Below.refl _ _ | assumption | apply alo | (apply Below.setCell; rotate_left; (first | assumption | exact Nat.le_refl _ | (simp only []; omega))) | apply Below.drew | apply belowDrewN | (refine thn ?_ (by assumption))))⟩
      · obtain ⟨hf0, hf1⟩ := hf.1 rfl
        have hs2 := hs.below hb2
        have h5 := h4 _ hs2 ⟨hx0, hx1⟩ ⟨hf0, hf1⟩ (fun h => ht rfl h hf1)
        clear h4 ht hf hb1 hb0
        obtain ⟨⟨of, ox⟩, oa⟩ := o
        simp only [hV] at h5
        go_wp2_with fail; refine (h3 _).mono ?_; rintro e w' ⟨rfl, rfl⟩
        have cB0_0 := B0.c0; have cB0_1 := B0.c1; have fB0 := B0.frozen; have cB1_0 := B1.c0; have cB1_1 := B1.c1; have fB1 := B1.frozen
        go_wp2_with fail; refine (h5).mono ?_; rintro e w3 ⟨rfl, hbw3⟩; replace B0 := Blk.belowOf B0 hbw3 (by repeat (first | exact B0 | apply Blk.alloc | apply Blk.drew | (apply Blk.far; rotate_left; (first | assumption | exact Ne.symm (by assumption))) | apply Blk.set_)); replace B1 := Blk.belowOf B1 hbw3 (by repeat (first | exact B1 | apply Blk.alloc | apply Blk.drew | (apply Blk.far; rotate_left; (first | assumption | exact Ne.symm (by assumption))) | apply Blk.set_))
        replace hb2 := thn hb2 hbw3
        clear hbw3
        have cB0_0 := B0.c0; have cB0_1 := B0.c1; have fB0 := B0.frozen; have cB1_0 := B1.c0; have cB1_1 := B1.c1; have fB1 := B1.frozen
        go_wp2
        exact bodyPost_ret (v := hV ((of, ox), oa)) (by simp [results, Try.results26, go_sem, hV, cB1_0, cB1_1]) rfl ⟨rfl, (by repeat (first | exact Below.refl _ _ | assumption | apply alo | (apply Below.setCell; rotate_left; (first | assumption | exact Nat.le_refl _ | (simp only []; omega))) | apply Below.drew | apply belowDrewN | (refine thn ?_ (by assumption))))⟩
set_option maxHeartbeats 2000000 in
theorem specHealthStep_any (f : Bool) (x fault : Int) (A : Option Addr) (n c : Nat) (xs : List Int) (w : World) (hs : Sl w 1 eI A n c xs) :
    Calls Try.prog 27 #[.agg #[.bool f, .int .i64 x], .slice A n c, .int .i64 fault] w fun e w' => .returned (hV (hStep f x xs fault)) = e ∧ Below w.heap.size w w' := by
  have hle := hs.le
  have hmax := hs.max
  unfold hStep hOk
  have h1 := fun W => specHealthValid_any f x W
  have h2 := fun W h => specHealthTable_any A n c xs W h
  have h3 := fun W => l1In_any fault 0 3 W
  have hx := @healthOk_bd f x
  have ht := @hlAt_cell xs fault
  have hf := @inB_true fault 0 3
  generalize healthOk f x = v1 at *
  generalize tabOk xs = v2 at *
  generalize inB fault 0 3 = v3 at *
  generalize hlAt xs fault = y at *
  skip
  have hb0 := alo (alo (Below.refl w.heap.size w) (.cells #[.bool f, .int .i64 x] 50)) (.cells #[.bool false, .int .i64 0] 50)
  have B0 := (Blk.new w 50 #[.bool f, .int .i64 x]).alloc (.cells #[.bool false, .int .i64 0] 50)
  have B1 := Blk.new2 w (.cells #[.bool f, .int .i64 x] 50) 50 #[.bool false, .int .i64 0]
  skip
  skip
  cases v1
  · clear h2 h3 hx ht hf
    have cB0_0 := B0.c0; have cB0_1 := B0.c1; have fB0 := B0.frozen; have cB1_0 := B1.c0; have cB1_1 := B1.c1; have fB1 := B1.frozen
    go_enter Try.func27, Try.ntmps27
    go_wp2_with fail; refine (h1 _).mono ?_; rintro e w1 ⟨rfl, hbw1⟩; replace B0 := Blk.belowOf B0 hbw1 (by repeat (first | exact B0 | apply Blk.alloc | apply Blk.drew | (apply Blk.far; rotate_left; (first | assumption | exact Ne.symm (by assumption))) | apply Blk.set_)); replace B1 := Blk.belowOf B1 hbw1 (by repeat (first | exact B1 | apply Blk.alloc | apply Blk.drew | (apply Blk.far; rotate_left; (first | assumption | exact Ne.symm (by assumption))) | apply Blk.set_))
    have cB0_0 := B0.c0; have cB0_1 := B0.c1; have fB0 := B0.frozen; have cB1_0 := B1.c0; have cB1_1 := B1.c1; have fB1 := B1.frozen
    go_wp2
    exact bodyPost_ret (v := hV ((false, 0), -1)) (by simp [results, Try.results27, go_sem, hV, cB1_0, cB1_1]) rfl ⟨rfl, (by repeat (first | exact Below.refl _ _ | assumption | apply alo | (apply Below.setCell; rotate_left; (first | assumption | exact Nat.le_refl _ | (simp only []; omega))) | apply Below.drew | apply belowDrewN | (refine thn ?_ (by assumption))))⟩
  · obtain ⟨hx0, hx1, _⟩ := hx rfl
    clear hx
    have cB0_0 := B0.c0; have cB0_1 := B0.c1; have fB0 := B0.frozen; have cB1_0 := B1.c0; have cB1_1 := B1.c1; have fB1 := B1.frozen
    go_enter Try.func27, Try.ntmps27
    go_wp2_with fail; refine (h1 _).mono ?_; rintro e w1 ⟨rfl, hbw1⟩; replace B0 := Blk.belowOf B0 hbw1 (by repeat (first | exact B0 | apply Blk.alloc | apply Blk.drew | (apply Blk.far; rotate_left; (first | assumption | exact Ne.symm (by assumption))) | apply Blk.set_)); replace B1 := Blk.belowOf B1 hbw1 (by repeat (first | exact B1 | apply Blk.alloc | apply Blk.drew | (apply Blk.far; rotate_left; (first | assumption | exact Ne.symm (by assumption))) | apply Blk.set_))
    have hb1 := thn hb0 hbw1
    have hs1 := hs.below hb1
    clear hbw1
    have cB0_0 := B0.c0; have cB0_1 := B0.c1; have fB0 := B0.frozen; have cB1_0 := B1.c0; have cB1_1 := B1.c1; have fB1 := B1.frozen
    go_wp2_with fail; refine (h2 _ hs1).mono ?_; rintro e w2 ⟨rfl, hbw2⟩; replace B0 := Blk.belowOf B0 hbw2 (by repeat (first | exact B0 | apply Blk.alloc | apply Blk.drew | (apply Blk.far; rotate_left; (first | assumption | exact Ne.symm (by assumption))) | apply Blk.set_)); replace B1 := Blk.belowOf B1 hbw2 (by repeat (first | exact B1 | apply Blk.alloc | apply Blk.drew | (apply Blk.far; rotate_left; (first | assumption | exact Ne.symm (by assumption))) | apply Blk.set_))
    have hb2 := thn hb1 hbw2
    clear hbw2 hs1 h1 h2
    cases v2
    · clear hf ht
      have cB0_0 := B0.c0; have cB0_1 := B0.c1; have fB0 := B0.frozen; have cB1_0 := B1.c0; have cB1_1 := B1.c1; have fB1 := B1.frozen
      go_wp2
      exact bodyPost_ret (v := hV ((false, 0), -1)) (by simp [results, Try.results27, go_sem, hV, cB1_0, cB1_1]) rfl ⟨rfl, (by repeat (first | exact Below.refl _ _ | assumption | apply alo | (apply Below.setCell; rotate_left; (first | assumption | exact Nat.le_refl _ | (simp only []; omega))) | apply Below.drew | apply belowDrewN | (refine thn ?_ (by assumption))))⟩
    · cases v3
      · go_wp2_with fail; refine (h3 _).mono ?_; rintro e w' ⟨rfl, rfl⟩
        clear hf ht
        have cB0_0 := B0.c0; have cB0_1 := B0.c1; have fB0 := B0.frozen; have cB1_0 := B1.c0; have cB1_1 := B1.c1; have fB1 := B1.frozen
        go_wp2
        exact bodyPost_ret (v := hV ((false, 0), -1)) (by simp [results, Try.results27, go_sem, hV, cB1_0, cB1_1]) rfl ⟨rfl, (by repeat (first | exact Below.refl _ _ | assumption | apply alo | (apply Below.setCell; rotate_left; (first | assumption | exact Nat.le_refl _ | (simp only []; omega))) | apply Below.drew | apply belowDrewN | (refine thn ?_ (by assumption))))⟩
      · obtain ⟨hf0, hf1⟩ := hf.1 rfl
        clear hf hb1 hb0
        clear cB0_0 cB0_1 fB0 cB1_0 cB1_1 fB1
        have cB0_0 := B0.c0; have cB0_1 := B0.c1; have fB0 := B0.frozen; have cB1_0 := B1.c0; have cB1_1 := B1.c1; have fB1 := B1.frozen
        by_cases h0 : fault = 0
        · subst h0
          have HQ := Lib.hid (show afterL f x y 0 = ((f, x), 0) from if_pos (.inl rfl))
          clear ht hs
          go_wp2_with fail; refine (h3 _).mono ?_; rintro e w' ⟨rfl, rfl⟩
          have cB0_0 := B0.c0; have cB0_1 := B0.c1; have fB0 := B0.frozen; have cB1_0 := B1.c0; have cB1_1 := B1.c1; have fB1 := B1.frozen
          go_wp2
          exact bodyPost_ret (v := hV (((f), (x)), (0))) (by simp [results, Try.results27, go_sem, hV, cB0_0, cB0_1, cB1_0, cB1_1]) rfl ⟨congrArg (fun o => Ending.returned (hV o)) HQ.out, (by repeat (first | exact Below.refl _ _ | assumption | apply alo | (apply Below.setCell; rotate_left; (first | assumption | exact Nat.le_refl _ | (simp only []; omega))) | apply Below.drew | apply belowDrewN | (refine thn ?_ (by assumption))))⟩
        · obtain ⟨hy1, hy2, hy3⟩ := ht rfl (by omega) hf1
          have h0' : (fault == (0 : Int)) = false := by simpa using h0
          cases f
          · have e0 : ¬ (fault = 0 ∨ false = true) := by simp [h0]
            have hk : (fault - 1).toNat < n := by have := (List.getElem?_eq_some_iff.1 hy1).1; have := hs.len; omega
            obtain ⟨b, o, rfl, z, hz, hc⟩ := hs.nth hk hb2
            obtain rfl : z = y := by rw [hy1] at hz; injection hz with hz; exact hz.symm
            have hd0 := hc 0 _ rfl
            simp only [eI, Nat.mul_one, Nat.add_zero] at hd0
            rw [show (fault - 1).toNat = fault.toNat - 1 by omega] at hd0
            have hi1 : 0 ≤ fault - 1 := by omega
            have hi2 : fault - 1 < (n : Int) := by omega
            have hi3 : 1 ≤ fault := by omega
            clear hc hz hy1 hs ht h0
            by_cases h1 : z = 1
            · subst h1
              by_cases h4 : x + 1 = 3
              · have HQ := Lib.hid (show afterL false x 1 fault = ((true, 3), 2) by unfold afterL; rw [if_neg e0, if_pos rfl, if_pos h4])
                clear e0
                obtain rfl : x = 2 := by omega
                clear h4
                go_wp2_with fail; refine (h3 _).mono ?_; rintro e w' ⟨rfl, rfl⟩
                have cB0_0 := B0.c0; have cB0_1 := B0.c1; have fB0 := B0.frozen; have cB1_0 := B1.c0; have cB1_1 := B1.c1; have fB1 := B1.frozen
                go_wp2
                exact bodyPost_ret (v := hV (((true), (3)), (2))) (by simp [results, Try.results27, go_sem, hV, cB0_0, cB0_1, cB1_0, cB1_1]) rfl ⟨congrArg (fun o => Ending.returned (hV o)) HQ.out, (by repeat (first | exact Below.refl _ _ | assumption | apply alo | (apply Below.setCell; rotate_left; (first | assumption | exact Nat.le_refl _ | (simp only []; omega))) | apply Below.drew | apply belowDrewN | (refine thn ?_ (by assumption))))⟩
              · have HQ := Lib.hid (show afterL false x 1 fault = ((false, x + 1), 1) by unfold afterL; rw [if_neg e0, if_pos rfl, if_neg h4])
                clear e0
                have h4' : (x + 1 == (3 : Int)) = false := by simpa using h4
                clear h4
                go_wp2_with fail; refine (h3 _).mono ?_; rintro e w' ⟨rfl, rfl⟩
                have cB0_0 := B0.c0; have cB0_1 := B0.c1; have fB0 := B0.frozen; have cB1_0 := B1.c0; have cB1_1 := B1.c1; have fB1 := B1.frozen
                go_wp2
                exact bodyPost_ret (v := hV (((false), (x + 1)), (1))) (by simp [results, Try.results27, go_sem, hV, cB0_0, cB0_1, cB1_0, cB1_1]) rfl ⟨congrArg (fun o => Ending.returned (hV o)) HQ.out, (by repeat (first | exact Below.refl _ _ | assumption | apply alo | (apply Below.setCell; rotate_left; (first | assumption | exact Nat.le_refl _ | (simp only []; omega))) | apply Below.drew | apply belowDrewN | (refine thn ?_ (by assumption))))⟩
            · have h1' : (z == (1 : Int)) = false := by simpa using h1
              by_cases h4 : z = 2
              · subst h4
                have HQ := Lib.hid (show afterL false x 2 fault = ((true, x), 2) by unfold afterL; rw [if_neg e0, if_neg h1, if_pos rfl])
                clear h1 e0
                go_wp2_with fail; refine (h3 _).mono ?_; rintro e w' ⟨rfl, rfl⟩
                have cB0_0 := B0.c0; have cB0_1 := B0.c1; have fB0 := B0.frozen; have cB1_0 := B1.c0; have cB1_1 := B1.c1; have fB1 := B1.frozen
                go_wp2
                exact bodyPost_ret (v := hV (((true), (x)), (2))) (by simp [results, Try.results27, go_sem, hV, cB0_0, cB0_1, cB1_0, cB1_1]) rfl ⟨congrArg (fun o => Ending.returned (hV o)) HQ.out, (by repeat (first | exact Below.refl _ _ | assumption | apply alo | (apply Below.setCell; rotate_left; (first | assumption | exact Nat.le_refl _ | (simp only []; omega))) | apply Below.drew | apply belowDrewN | (refine thn ?_ (by assumption))))⟩
              · obtain rfl : z = 0 := by omega
                have HQ := Lib.hid (show afterL false x 0 fault = ((false, x), 0) by unfold afterL; rw [if_neg e0, if_neg h1, if_neg h4])
                clear h1 h4 e0
                go_wp2_with fail; refine (h3 _).mono ?_; rintro e w' ⟨rfl, rfl⟩
                have cB0_0 := B0.c0; have cB0_1 := B0.c1; have fB0 := B0.frozen; have cB1_0 := B1.c0; have cB1_1 := B1.c1; have fB1 := B1.frozen
                go_wp2
                exact bodyPost_ret (v := hV (((false), (x)), (0))) (by simp [results, Try.results27, go_sem, hV, cB0_0, cB0_1, cB1_0, cB1_1]) rfl ⟨congrArg (fun o => Ending.returned (hV o)) HQ.out, (by repeat (first | exact Below.refl _ _ | assumption | apply alo | (apply Below.setCell; rotate_left; (first | assumption | exact Nat.le_refl _ | (simp only []; omega))) | apply Below.drew | apply belowDrewN | (refine thn ?_ (by assumption))))⟩
          · have HQ := Lib.hid (show afterL true x y fault = ((true, x), 0) from if_pos (.inr rfl))
            clear hs h0 ht
            go_wp2_with fail; refine (h3 _).mono ?_; rintro e w' ⟨rfl, rfl⟩
            have cB0_0 := B0.c0; have cB0_1 := B0.c1; have fB0 := B0.frozen; have cB1_0 := B1.c0; have cB1_1 := B1.c1; have fB1 := B1.frozen
            go_wp2
            exact bodyPost_ret (v := hV (((true), (x)), (0))) (by simp [results, Try.results27, go_sem, hV, cB0_0, cB0_1, cB1_0, cB1_1]) rfl ⟨congrArg (fun o => Ending.returned (hV o)) HQ.out, (by repeat (first | exact Below.refl _ _ | assumption | apply alo | (apply Below.setCell; rotate_left; (first | assumption | exact Nat.le_refl _ | (simp only []; omega))) | apply Below.drew | apply belowDrewN | (refine thn ?_ (by assumption))))⟩
end Go.Proofs.Ytffhcifeccdfjaa
