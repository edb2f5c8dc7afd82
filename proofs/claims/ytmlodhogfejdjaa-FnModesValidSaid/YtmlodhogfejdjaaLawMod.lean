/- FnModesValid: the draw and the law. -/
import Derived.Test.YtmlodhogfejdjaaDMod
import Derived.Test.YtmlodhogfejdjaaModV
import Derived.Test.YtmlodhogfejdjaaAlive
import Derived.Test.YtmlodhogfejdjaaNear
namespace Go.Proofs.Ytmlodhogfejdjaa
set_option linter.unusedVariables false
set_option linter.unusedSimpArgs false
open Go.RowKit

set_option maxRecDepth 100000 in
set_option maxHeartbeats 1000000 in
theorem drawModesValid_any (A : Option Addr) (n c : Nat) (zs : List Int) (w : World) (h : Code w A n c zs) :
    Calls Try.prog 35 #[.slice A n c] w (Post modV fun x w' => Own w' w.heap.size 23 1 eTb x.1.1.v x.1.1.xs ∧ TbOwn w' w.heap.size x.1.1.xs ∧ x.1.1.n ≤ 3 ∧ (1 ≤ x.2 ∧ x.2 ≤ 3) ∧ Below w.heap.size w w') := by
  obtain ⟨r, hr, hrw⟩ : ∃ r, w.heap.size + 1 = r ∧ w.heap.size < r := ⟨_, rfl, Nat.lt_succ_self _⟩
  have B1 := Blk.new w 59 #[.slice none 0 0, .int .i64 0, .int .i64 0]
  have hopen := open_at r A n c zs (w.alloc (.cells #[.slice none 0 0, .int .i64 0, .int .i64 0] 59)) (h.below ((Below.refl _ _).alloc (Nat.le_refl _) _)) (by simpa using hr)
  clear h
  go_enter Try.func35, Try.ntmps35
  go_wp2_with fail
  refine hopen.mono ?_
  rintro e w0 ⟨rfl, hrd, hb, hsz⟩
  clear hopen
  replace B1 := B1.below (hb.mono (by simp; omega))
  clear hr
  replace hb := ((Below.refl _ _).alloc (Nat.le_refl _) _).trans (hb.mono (Nat.le_of_lt hrw))
  have nB1 := Nat.ne_of_lt hrw
  replace hrw := Nat.le_of_lt hrw
  have hS := Stp.refl hrd
  have hr0 := hrd.lt
  clear hrd
  have hz0 := hb.size
  have hbel := hb
  go_wp2_with fail
  refine (l20Modes_any r 2 _ _ hS.rd (by omega) (by omega)).mono ?_
  rintro e w1 ⟨⟨⟨⟨A1, n1, c1, l⟩, now, asked⟩, p⟩, rfl, own1, tb1, hn1, hp, hs⟩
  simp only [modV, SV.v] at own1 tb1 hn1 hp ⊢
  replace B1 := Blk.stp hs B1 (by omega)
  have hz1 := hs.grown.size
  replace hS := hS.trans hs
  clear hs
  have hBel := hS.belowT (a := w) (B := w.heap.size) hbel (by omega) hbel.size
  have e3 := B1.frozen
  have e4 := B1.c0
  have e5 := B1.c1
  have e6 := B1.c2
  have B1e := ((B1.set_ 0 (.slice A1 n1 c1)).set_ 1 (.int .i64 now)).set_ 2 (.int .i64 asked)
  have z0 := B1e.c0
  have z1 := B1e.c1
  have z2 := B1e.c2
  go_wp2
  exact bodyPost_ret (v := modV (((⟨A1, n1, c1, l⟩ : SV TabV), now, asked), p)) (by simp [results, Try.results35, go_sem, modV, SV.v, z0, z1, z2]) rfl ⟨(((⟨A1, n1, c1, l⟩ : SV TabV), now, asked), p), rfl, (((own1.far (p := ⟨w.heap.size, 0, none⟩) (by simp only []; omega) _).far (p := ⟨w.heap.size, 1, none⟩) (by simp only []; omega) _).far (p := ⟨w.heap.size, 2, none⟩) (by simp only []; omega) _).low (by omega), (fun y hy => ((((tb1 y hy).far (p := ⟨w.heap.size, 0, none⟩) (by simp only []; omega) _).far (p := ⟨w.heap.size, 1, none⟩) (by simp only []; omega) _).far (p := ⟨w.heap.size, 2, none⟩) (by simp only []; omega) _).low (by omega)), hn1, hp, below_set3 hBel (Nat.le_refl _) _ _ _⟩

theorem modesOk_nil (now asked parts : Int) : modesOk [] now asked parts = false := by
  unfold modesOk
  rw [show inB (([] : List TabV).length : Int) 1 4 = false from by decide]
  rfl
theorem modesOk_len (l : List TabV) (now parts : Int) : modesOk l now l.length parts = false := by
  unfold modesOk
  rw [show inB (l.length : Int) (-1) (l.length - 1) = false from inB_false.2 (by omega)]
  simp

set_option maxRecDepth 100000 in
set_option maxHeartbeats 2000000 in
theorem lawModesValid (A : Option Addr) (n c : Nat) (zs : List Int) (w : World) (h : Code w A n c zs) :
    Calls Try.prog 10 #[.slice A n c] w fun e w' => .returned (.bool true) = e ∧ Below w.heap.size w w' := by
  have hle := h.le
  have hmax := h.max
  by_cases hn : n ≤ 1048576
  · have hdraw := drawModesValid_any A n c zs w h
    clear h
    go_enter Try.func10, Try.ntmps10
    go_wp2_with fail
    refine hdraw.mono ?_
    rintro e w1 ⟨⟨⟨⟨A1, n1, c1, l⟩, now, asked⟩, p⟩, rfl, own1, tb1, hn1, hp, hb⟩
    clear hdraw
    simp only [modV, SV.v] at own1 tb1 hn1 hp ⊢
    obtain ⟨A5, c5, hv5, -, -, -⟩ := own1.sl encTb
    cases hv5
    have hsl : Sl w1 1 eTb A1 l.length c1 l := (own1.okv encTb).sl
    have htb := tb1.ok
    clear own1 tb1
    have hle1 := hsl.le
    have hmax1 := hsl.max
    have hI := fun W h h2 => modesValid_any A1 l.length c1 l now asked p W h h2
    have hS := fun W h h2 => specModesValid_any A1 l.length c1 l now asked p W (by omega) h h2
    have hN := fun W => modesValid_any none 0 0 [] now asked p W ⟨rfl, Nat.le_refl _, by omega, fun h => absurd h (by omega)⟩ (fun x hx => by cases hx)
    have hJ := fun W h h2 => modesValid_any A1 l.length c1 l now l.length p W h h2
    simp only [modesOk_nil] at hN
    simp only [modesOk_len] at hJ
    generalize modesOk l now asked p = v at *
    skip
    have B1 := Blk.new w1 59 #[.slice A1 l.length c1, .int .i64 now, .int .i64 asked]
    have hsl1 := hsl.below ((Below.refl _ _).alloc (Nat.le_refl _) (.cells #[.slice A1 l.length c1, .int .i64 now, .int .i64 asked] 59))
    have htb1 := htb.below ((Below.refl _ _).alloc (Nat.le_refl _) (.cells #[.slice A1 l.length c1, .int .i64 now, .int .i64 asked] 59))
    have cB1_0 := B1.c0; have cB1_1 := B1.c1; have cB1_2 := B1.c2; have fB1 := B1.frozen
    go_wp2_with fail; refine (hI _ hsl1 htb1).mono ?_; rintro e w2 ⟨rfl, hbw2⟩; replace B1 := Blk.belowOf B1 hbw2 (by repeat (first | exact B1 | apply Blk.alloc | apply Blk.drew | (apply Blk.far; rotate_left; (first | assumption | exact Ne.symm (by assumption))) | apply Blk.set_))
    have hsl2 := hsl1.below hbw2
    have htb2 := htb1.below hbw2
    clear cB1_0 cB1_1 cB1_2 fB1
    have cB1_0 := B1.c0; have cB1_1 := B1.c1; have cB1_2 := B1.c2; have fB1 := B1.frozen
    go_wp2_with fail; refine (hS _ hsl2 htb2).mono ?_; rintro e w3 ⟨rfl, hbw3⟩; replace B1 := Blk.belowOf B1 hbw3 (by repeat (first | exact B1 | apply Blk.alloc | apply Blk.drew | (apply Blk.far; rotate_left; (first | assumption | exact Ne.symm (by assumption))) | apply Blk.set_))
    have hB3 : Below w.heap.size w w3 := (by repeat (first | exact Below.refl _ _ | assumption | apply alo | (apply Below.setCell; rotate_left; (first | assumption | exact Nat.le_refl _ | (simp only []; omega))) | apply Below.drew | apply belowDrewN | (refine thn ?_ (by assumption))))
    have hsl3 := hsl2.below hbw3
    have htb3 := htb2.below hbw3
    clear hI hS hsl hsl1 hsl2 hb hbw2 hbw3 htb htb1 htb2
    clear cB1_0 cB1_1 cB1_2 fB1
    have cB1_0 := B1.c0; have cB1_1 := B1.c1; have cB1_2 := B1.c2; have fB1 := B1.frozen
    have B1a := B1.alloc (.cells #[.slice none 0 0, .int .i64 now, .int .i64 asked] 59)
    have a0 := B1a.c0
    have a1 := B1a.c1
    have a2 := B1a.c2
    have B1b := B1a.alloc (.cells #[.slice A1 l.length c1, .int .i64 now, .int .i64 asked] 59)
    have b0 := B1b.c0
    have B6 := (Blk.new w3 59 #[.slice none 0 0, .int .i64 now, .int .i64 asked]).alloc (.cells #[.slice A1 l.length c1, .int .i64 now, .int .i64 l.length] 59)
    have B7 := Blk.new2 w3 (.cells #[.slice none 0 0, .int .i64 now, .int .i64 asked] 59) 59 #[.slice A1 l.length c1, .int .i64 now, .int .i64 l.length]
    have hb4 := alo (alo (Below.refl w3.heap.size w3) (.cells #[.slice none 0 0, .int .i64 now, .int .i64 asked] 59)) (.cells #[.slice A1 l.length c1, .int .i64 now, .int .i64 l.length] 59)
    have d0 := B6.c0
    have d1 := B6.c1
    have d2 := B6.c2
    go_wp2_with fail
    refine (hN _).mono ?_
    rintro e w5 ⟨rfl, hb5⟩
    have hb6 := thn hb4 hb5
    have B7' := B7.below hb5
    have e0 := B7'.c0
    have e1 := B7'.c1
    have e2 := B7'.c2
    clear d0 d1 d2 a0 a1 a2 b0 cB1_0 cB1_1 cB1_2 fB1
    have hJ := hJ _ (hsl3.below hb6) (fun x hx => (htb3 x hx).below hb6)
    go_wp2_with fail
    refine hJ.mono ?_
    rintro e w7 ⟨rfl, hb7⟩
    have hb8 := thn hb6 hb7
    go_wp2_with fail
    refine (alive_any _).mono ?_
    rintro e w9 ⟨rfl, hb9⟩
    go_wp2
    go_ret
    exact ⟨rfl, hB3.trans ((thn hb8 hb9).mono hB3.size)⟩
  · clear h
    go_enter Try.func10, Try.ntmps10
    go_wp2
    go_ret
    exact ⟨rfl, Below.refl _ _⟩
end Go.Proofs.Ytmlodhogfejdjaa
