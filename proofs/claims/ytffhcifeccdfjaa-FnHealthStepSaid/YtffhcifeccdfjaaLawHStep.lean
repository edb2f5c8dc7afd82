/- The walk of FnHealthStep. -/
import Derived.Test.YtffhcifeccdfjaaDHS
import Derived.Test.YtffhcifeccdfjaaHStep
import Derived.Test.YtffhcifeccdfjaaAlive
namespace Go.Proofs.Ytffhcifeccdfjaa
set_option linter.unusedVariables false
set_option linter.unusedSimpArgs false
open Go.RowKit

theorem hStep_law {f : Bool} {x fault : Int} {xs : List Int} {o : Bool} {r act : Int} (h : hStep f x xs fault = ((o, r), act)) :
    (act = -1 ∧ o = false ∧ r = 0) ∨ (act = 0 ∧ o = f ∧ r = x ∧ healthOk f x = true) ∨ (f = false ∧ act = 2 ∧ o = true ∧ r = x ∧ healthOk true x = true ∧ 0 ≤ x ∧ x ≤ 2) ∨
    (f = false ∧ act = 2 ∧ o = true ∧ r = 3 ∧ x = 2 ∧ 1 ≤ fault ∧ fault ≤ 3 ∧ xs.length = 3 ∧ xs[(fault - 1).toNat]? = some 1) ∨ (f = false ∧ act = 1 ∧ o = false ∧ r = x + 1 ∧ healthOk false (x + 1) = true ∧ 0 ≤ x ∧ x ≤ 2 ∧ 1 ≤ fault ∧ fault ≤ 3 ∧ xs.length = 3 ∧ xs[(fault - 1).toNat]? = some 1) := by
  unfold hStep hOk at h
  cases h1 : healthOk f x
  · rw [h1] at h; simp at h; exact .inl ⟨h.2.symm, h.1.1, h.1.2.symm⟩
  · cases h2 : tabOk xs
    · rw [h1, h2] at h; simp at h; exact .inl ⟨h.2.symm, h.1.1, h.1.2.symm⟩
    · cases h3 : inB fault 0 3
      · rw [h1, h2, h3] at h; simp at h; exact .inl ⟨h.2.symm, h.1.1, h.1.2.symm⟩
      · rw [h1, h2, h3] at h
        simp only [Bool.and_self, if_true] at h
        obtain ⟨hx0, hx1, hx2⟩ := healthOk_bd h1
        rw [inB_true] at h3
        unfold afterL at h
        by_cases h0 : fault = 0 ∨ f = true
        · rw [if_pos h0] at h
          simp only [Prod.mk.injEq] at h
          exact .inr (.inl ⟨h.2.symm, h.1.1.symm, h.1.2.symm, rfl⟩)
        · rw [if_neg h0] at h
          have hf : f = false := by cases f <;> simp_all
          subst hf
          have hx3 : x < 3 := by simpa using hx2
          obtain ⟨hy1, hy2, hy3⟩ := hlAt_cell h2 (fault := fault) (by omega) h3.2
          have hl : xs.length = 3 := by simp only [tabOk, Bool.and_eq_true, decide_eq_true_eq] at h2; exact h2.1
          by_cases e1 : hlAt xs fault = 1
          · rw [if_pos e1] at h
            rw [e1] at hy1
            by_cases e3 : x + 1 = 3
            · rw [if_pos e3] at h
              simp only [Prod.mk.injEq] at h
              exact .inr (.inr (.inr (.inl ⟨rfl, h.2.symm, h.1.1.symm, h.1.2.symm, by omega, by omega, h3.2, hl, hy1⟩)))
            · rw [if_neg e3] at h
              simp only [Prod.mk.injEq] at h
              exact .inr (.inr (.inr (.inr ⟨rfl, h.2.symm, h.1.1.symm, h.1.2.symm, by simp only [healthOk, Bool.and_eq_true, Bool.or_eq_true, inB_true, decide_eq_true_eq]; omega, hx0, by omega, by omega, h3.2, hl, hy1⟩)))
          · rw [if_neg e1] at h
            by_cases e2 : hlAt xs fault = 2
            · rw [if_pos e2] at h
              simp only [Prod.mk.injEq] at h
              exact .inr (.inr (.inl ⟨rfl, h.2.symm, h.1.1.symm, h.1.2.symm, by unfold healthOk; rw [Bool.true_or, Bool.and_true, inB_true]; omega, hx0, by omega⟩))
            · rw [if_neg e2] at h
              simp only [Prod.mk.injEq] at h
              exact .inr (.inl ⟨h.2.symm, h.1.1.symm, h.1.2.symm, rfl⟩)

set_option maxRecDepth 100000 in
set_option maxHeartbeats 2000000 in
theorem lawHealthStep (A : Option Addr) (n c : Nat) (zs : List Int) (w : World) (h : Code w A n c zs) :
    Calls Try.prog 7 #[.slice A n c] w fun e w' => .returned (.bool true) = e ∧ Below w.heap.size w w' := by
  have hle := h.le
  have hmax := h.max
  by_cases hn : n ≤ 1048576
  · have hdraw := drawHealthStep_any A n c zs w h
    clear h
    go_enter Try.func7, Try.ntmps7
    go_wp2_with fail
    refine hdraw.mono ?_
    rintro e w1 ⟨⟨⟨f, x⟩, ⟨A1, n1, c1, xs⟩, fault⟩, rfl, ⟨hsl, _, _, _⟩, hn1, hy, hb⟩
    clear hdraw
    simp only [hsV, SV.v] at hsl hn1 hy ⊢
    have hle1 := hsl.le
    have hmax1 := hsl.max
    obtain ⟨hy0, hy4⟩ := hy
    have hB1 := alo (Below.refl w1.heap.size w1) (.cells #[.bool f, .int .i64 x] 50)
    have hI := fun W h => healthStep_any f x fault A1 n1 c1 xs W h
    have hS := fun W h => specHealthStep_any f x fault A1 n1 c1 xs W h
    have hlaw := @hStep_law f x fault xs
    generalize hStep f x xs fault = q at *
    obtain ⟨⟨o, r⟩, act⟩ := q
    have HL := Lib.hid (hlaw rfl)
    simp only [hV] at hI hS
    clear hlaw
    skip
    have B3 := Blk.new w1 50 #[.bool f, .int .i64 x]
    have cB3_0 := B3.c0; have cB3_1 := B3.c1; have fB3 := B3.frozen
    go_wp2_with fail
    refine (hI _ (hsl.below hB1)).mono ?_
    rintro e w2 ⟨rfl, hb2⟩
    have hB2 := alo (thn hB1 hb2) (.cells #[.bool o, .int .i64 r] 50)
    replace B3 := (B3.below hb2).alloc (.cells #[.bool o, .int .i64 r] 50)
    have B6 := Blk.new w2 50 #[.bool o, .int .i64 r]
    skip
    skip
    clear hb2 hI
    have cB3_0 := B3.c0; have cB3_1 := B3.c1; have fB3 := B3.frozen; have cB6_0 := B6.c0; have cB6_1 := B6.c1; have fB6 := B6.frozen
    go_wp2_with fail
    refine (hS _ (hsl.below hB2)).mono ?_
    rintro e w3 ⟨rfl, hb3⟩
    have hB := alo (thn hB2 hb3) (.cells #[.bool o, .int .i64 r] 50)
    replace B3 := (B3.below hb3).alloc (.cells #[.bool o, .int .i64 r] 50)
    replace B6 := (B6.below hb3).alloc (.cells #[.bool o, .int .i64 r] 50)
    have B8 := Blk.new w3 50 #[.bool o, .int .i64 r]
    skip
    skip
    clear hb3 hS hB1 hB2
    have hv := fun W => healthValid_any o r W
    have cB3_0 := B3.c0; have cB3_1 := B3.c1; have fB3 := B3.frozen; have cB6_0 := B6.c0; have cB6_1 := B6.c1; have fB6 := B6.frozen; have cB8_0 := B8.c0; have cB8_1 := B8.c1; have fB8 := B8.frozen
    rcases HL.out with ⟨rfl, rfl, rfl⟩ | ⟨rfl, rfl, rfl, hok⟩ | ⟨rfl, rfl, rfl, rfl, hok, hx0, hx1⟩ | ⟨rfl, rfl, rfl, rfl, rfl, hf1, hf3, hl3, hy1⟩ | ⟨rfl, rfl, rfl, rfl, hok, hx0, hx1, hf1, hf3, hl3, hy1⟩
    · clear HL hsl hv
      skip
      go_wp2_with fail; refine (alive_any _).mono ?_; rintro e w6 ⟨rfl, hbw6⟩
      go_wp2
      go_ret
      exact ⟨rfl, thn hb (thn hB hbw6)⟩
    · rw [hok] at hv
      skip
      clear HL hsl hok
      cases o
      · go_wp2_with fail
        refine (hv _).mono ?_
        rintro e w4 ⟨rfl, hb4⟩
        replace hB := thn hB hb4
        replace B3 := B3.below hb4
        replace B6 := B6.below hb4
        replace B8 := B8.below hb4
        have cB3_0 := B3.c0; have cB3_1 := B3.c1; have fB3 := B3.frozen; have cB6_0 := B6.c0; have cB6_1 := B6.c1; have fB6 := B6.frozen; have cB8_0 := B8.c0; have cB8_1 := B8.c1; have fB8 := B8.frozen
        go_wp2
        go_ret
        exact ⟨rfl, thn hb hB⟩
      · go_wp2_with fail
        refine (hv _).mono ?_
        rintro e w4 ⟨rfl, hb4⟩
        replace hB := thn hB hb4
        replace B3 := B3.below hb4
        replace B6 := B6.below hb4
        replace B8 := B8.below hb4
        have cB3_0 := B3.c0; have cB3_1 := B3.c1; have fB3 := B3.frozen; have cB6_0 := B6.c0; have cB6_1 := B6.c1; have fB6 := B6.frozen; have cB8_0 := B8.c0; have cB8_1 := B8.c1; have fB8 := B8.frozen
        go_wp2
        go_ret
        exact ⟨rfl, thn hb hB⟩
    · rw [hok] at hv
      skip
      clear HL hsl hok
      go_wp2_with fail
      refine (hv _).mono ?_
      rintro e w4 ⟨rfl, hb4⟩
      replace hB := thn hB hb4
      replace B3 := B3.below hb4
      replace B6 := B6.below hb4
      replace B8 := B8.below hb4
      have cB3_0 := B3.c0; have cB3_1 := B3.c1; have fB3 := B3.frozen; have cB6_0 := B6.c0; have cB6_1 := B6.c1; have fB6 := B6.frozen; have cB8_0 := B8.c0; have cB8_1 := B8.c1; have fB8 := B8.frozen
      go_wp2
      go_ret
      exact ⟨rfl, thn hb hB⟩
    · rw [show healthOk true 3 = true from rfl] at hv
      skip
      clear HL
      obtain ⟨g, o', rfl, z, hz, hc⟩ := hsl.nth (kk := (fault - 1).toNat) (by have := hsl.len; omega) hB
      obtain rfl : z = 1 := by rw [hy1] at hz; injection hz with hz; exact hz.symm
      have hd0 := hc 0 _ rfl
      simp only [eI, Nat.mul_one, Nat.add_zero] at hd0
      rw [show (fault - 1).toNat = fault.toNat - 1 by omega] at hd0
      have hgl := World.block_lt_of_cell? _ _ hd0
      have hi1 : 0 ≤ fault - 1 := by omega
      have hi2 : fault - 1 < (n1 : Int) := by have := hsl.len; omega
      clear hc hz hy1 hsl
      go_wp2_with fail
      refine (hv _).mono ?_
      rintro e w4 ⟨rfl, hb4⟩
      have hd1 := (hb4.cell (p := ⟨g, o' + (fault.toNat - 1), none⟩) hgl).trans hd0
      replace hB := thn hB hb4
      replace B3 := B3.below hb4
      replace B6 := B6.below hb4
      replace B8 := B8.below hb4
      have cB3_0 := B3.c0; have cB3_1 := B3.c1; have fB3 := B3.frozen; have cB6_0 := B6.c0; have cB6_1 := B6.c1; have fB6 := B6.frozen; have cB8_0 := B8.c0; have cB8_1 := B8.c1; have fB8 := B8.frozen
      go_wp2
      go_ret
      exact ⟨rfl, thn hb hB⟩
    · rw [hok] at hv
      skip
      clear HL hok
      obtain ⟨g, o', rfl, z, hz, hc⟩ := hsl.nth (kk := (fault - 1).toNat) (by have := hsl.len; omega) hB
      obtain rfl : z = 1 := by rw [hy1] at hz; injection hz with hz; exact hz.symm
      have hd0 := hc 0 _ rfl
      simp only [eI, Nat.mul_one, Nat.add_zero] at hd0
      rw [show (fault - 1).toNat = fault.toNat - 1 by omega] at hd0
      have hgl := World.block_lt_of_cell? _ _ hd0
      have hi1 : 0 ≤ fault - 1 := by omega
      have hi2 : fault - 1 < (n1 : Int) := by have := hsl.len; omega
      clear hc hz hy1 hsl
      go_wp2_with fail
      refine (hv _).mono ?_
      rintro e w4 ⟨rfl, hb4⟩
      have hd1 := (hb4.cell (p := ⟨g, o' + (fault.toNat - 1), none⟩) hgl).trans hd0
      replace hB := thn hB hb4
      replace B3 := B3.below hb4
      replace B6 := B6.below hb4
      replace B8 := B8.below hb4
      have cB3_0 := B3.c0; have cB3_1 := B3.c1; have fB3 := B3.frozen; have cB6_0 := B6.c0; have cB6_1 := B6.c1; have fB6 := B6.frozen; have cB8_0 := B8.c0; have cB8_1 := B8.c1; have fB8 := B8.frozen
      go_wp2
      go_ret
      exact ⟨rfl, thn hb hB⟩
  · clear h
    go_enter Try.func7, Try.ntmps7
    go_wp2
    go_ret
    exact ⟨rfl, Below.refl _ _⟩
end Go.Proofs.Ytffhcifeccdfjaa
