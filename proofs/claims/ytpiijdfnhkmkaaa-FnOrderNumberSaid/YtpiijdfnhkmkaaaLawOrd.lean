/- The walks of FnOrderFrom, FnOrderNumber, FnOrderPair. -/
import Derived.Test.YtpiijdfnhkmkaaaDrawOrd
import Derived.Test.YtpiijdfnhkmkaaaOrd
import Derived.Test.YtpiijdfnhkmkaaaAlive
namespace Go.Proofs.Ytpiijdfnhkmkaaa
open Go.RowKit

theorem ordNum_from (n : Int) (h : 0 ≤ n) (h' : n ≤ 1048575) : ordNum (n % 16) (n / 16 % 256) (n / 4096) = n := by
  unfold ordNum
  have h1 : inB (n % 16) 0 15 = true := inB_true.2 (by omega)
  have h2 : inB (n / 16 % 256) 0 255 = true := inB_true.2 (by omega)
  have h3 : inB (n / 4096) 0 255 = true := inB_true.2 (by omega)
  rw [h1, h2, h3]
  simp only [Bool.and_self, if_true]
  omega

theorem lawOrderFrom (A : Option Addr) (n c : Nat) (zs : List Int) (w : World) (h : Code w A n c zs) :
    Calls Try.prog 4 #[.slice A n c] w fun e w' => .returned (.bool true) = e ∧ Below w.heap.size w w' := by
  have hle := h.le
  have hmax := h.max
  by_cases hn : n ≤ 1048576
  · have hdraw := drawOrderFrom_any A n c zs w h
    clear h
    go_enter Try.func4, Try.ntmps4
    go_wp2_with fail
    refine hdraw.mono ?_
    rintro e w1 ⟨m, rfl, hb⟩
    clear hdraw
    have hI := fun W => ordFrom_any m W
    have hS := fun W => specOrdFrom_any m W
    unfold ordFrom at hI hS
    by_cases hm : 0 ≤ m ∧ m ≤ 1048575
    · have hN := fun W => ordNum_any (m % 16) (m / 16 % 256) (m / 4096) W
      rw [ordNum_from m hm.1 hm.2] at hN
      rw [if_pos (inB_true.2 hm)] at hI hS
      clear hm
      generalize m % 16 = x at *
      generalize m / 16 % 256 = y at *
      generalize m / 4096 = z at *
      go_wp2_with fail
      refine (hI _).mono ?_
      rintro e w2 ⟨rfl, hb2⟩
      go_wp2_with fail
      refine (hS _).mono ?_
      rintro e w3 ⟨rfl, hb3⟩
      have B1 := (Blk.new w2 24 #[.int .i64 x, .int .i64 y, .int .i64 z]).below hb3
      have c1 := B1.cell
      have l1 := B1.lt
      have hB := thn (alo (thn hb hb2) (.cells #[.int .i64 x, .int .i64 y, .int .i64 z] 24)) hb3
      clear hI hS hb hb2 hb3
      go_wp2_with fail
      refine (hN _).mono ?_
      rintro e w4 ⟨rfl, hb4⟩
      go_wp2
      go_ret
      exact ⟨rfl, thn (alo hB _) hb4⟩
    · rw [if_neg (fun h => hm (inB_true.1 h))] at hI hS
      clear hm
      go_wp2_with fail
      refine (hI _).mono ?_
      rintro e w2 ⟨rfl, hb2⟩
      go_wp2_with fail
      refine (hS _).mono ?_
      rintro e w3 ⟨rfl, hb3⟩
      have B1 := (Blk.new w2 24 #[.int .i64 0, .int .i64 0, .int .i64 0]).below hb3
      have c1 := B1.cell
      have l1 := B1.lt
      have hB := thn (alo (thn hb hb2) (.cells #[.int .i64 0, .int .i64 0, .int .i64 0] 24)) hb3
      clear hI hS hb hb2 hb3
      go_wp2_with fail
      refine (alive_any _).mono ?_
      rintro e w4 ⟨rfl, hb4⟩
      go_wp2
      go_ret
      exact ⟨rfl, thn (alo hB _) hb4⟩
  · clear h
    go_enter Try.func4, Try.ntmps4
    go_wp2
    go_ret
    exact ⟨rfl, Below.refl _ _⟩

theorem ordFrom_num (op a b : Int) (h1 : inB op 0 15 = true) (h2 : inB a 0 255 = true) (h3 : inB b 0 255 = true) : ordFrom (op + 16 * (a + 256 * b)) = (op, a, b, true) := by
  rw [inB_true] at h1 h2 h3
  unfold ordFrom
  rw [if_pos (inB_true.2 (by omega))]
  simp only [Prod.mk.injEq]
  refine ⟨by omega, by omega, by omega, trivial⟩

theorem ordNum_cases (op a b : Int) : ordNum op a b = -1 ∨ (inB op 0 15 = true ∧ inB a 0 255 = true ∧ inB b 0 255 = true ∧ ordNum op a b = op + 16 * (a + 256 * b) ∧ 0 ≤ ordNum op a b ∧ ordNum op a b < 1048576) := by
  unfold ordNum
  cases h1 : inB op 0 15 <;> cases h2 : inB a 0 255 <;> cases h3 : inB b 0 255 <;> simp
  rw [inB_true] at h1 h2 h3
  omega

theorem lawOrderNumber (A : Option Addr) (n c : Nat) (zs : List Int) (w : World) (h : Code w A n c zs) :
    Calls Try.prog 5 #[.slice A n c] w fun e w' => .returned (.bool true) = e ∧ Below w.heap.size w w' := by
  have hle := h.le
  have hmax := h.max
  by_cases hn : n ≤ 1048576
  · have hdraw := drawOrderNumber_any A n c zs w h
    clear h
    go_enter Try.func5, Try.ntmps5
    go_wp2_with fail
    refine hdraw.mono ?_
    rintro e w1 ⟨⟨op, a, b⟩, rfl, hb⟩
    clear hdraw
    have hI := fun W => ordNum_any op a b W
    have hS := fun W => specOrdNum_any op a b W
    have B1 := Blk.new w1 24 #[.int .i64 op, .int .i64 a, .int .i64 b]
    rcases ordNum_cases op a b with hm | ⟨r1, r2, r3, hm, hlo, hhi⟩
    · rw [hm] at hI hS
      clear hm
      go_wp2_with fail
      refine (hI _).mono ?_
      rintro e w2 ⟨rfl, hb2⟩
      replace B1 := B1.below hb2
      have c1 := B1.cell
      have l1 := B1.lt
      have hB := thn (alo hb _) hb2
      clear hI hb hb2
      go_wp2_with fail
      refine (hS _).mono ?_
      rintro e w3 ⟨rfl, hb3⟩
      replace hB := thn hB hb3
      clear hS hb3 c1 l1
      go_wp2_with fail
      refine (alive_any _).mono ?_
      rintro e w4 ⟨rfl, hb4⟩
      go_wp2
      go_ret
      exact ⟨rfl, thn hB hb4⟩
    · have hF := fun W => ordFrom_any (ordNum op a b) W
      rw [hm, ordFrom_num op a b r1 r2 r3] at hF
      rw [hm] at hI hS hlo hhi
      clear hm r1 r2 r3
      generalize op + 16 * (a + 256 * b) = N at *
      go_wp2_with fail
      refine (hI _).mono ?_
      rintro e w2 ⟨rfl, hb2⟩
      replace B1 := B1.below hb2
      have c1 := B1.cell
      have l1 := B1.lt
      have hB := thn (alo hb _) hb2
      clear hI hb hb2
      go_wp2_with fail
      refine (hS _).mono ?_
      rintro e w3 ⟨rfl, hb3⟩
      replace B1 := B1.below hb3
      have c1 := B1.cell
      have l1 := B1.lt
      replace hB := thn hB hb3
      clear hS hb3
      go_wp2_with fail
      refine (hF _).mono ?_
      rintro e w4 ⟨rfl, hb4⟩
      replace B1 := B1.below hb4
      have c1 := B1.cell
      have l1 := B1.lt
      replace hB := thn hB hb4
      clear hF hb4
      go_wp2
      go_ret
      exact ⟨rfl, alo hB _⟩
  · clear h
    go_enter Try.func5, Try.ntmps5
    go_wp2
    go_ret
    exact ⟨rfl, Below.refl _ _⟩

theorem pair_ne {o1 a1 b1 o2 a2 b2 : Int} (h : ¬ ordNum o1 a1 b1 = -1) (hne : ¬ (o1 = o2 ∧ a1 = a2 ∧ b1 = b2)) : (ordNum o1 a1 b1 == ordNum o2 a2 b2) = false := by
  rw [beq_eq_false_iff_ne]
  intro e
  rcases ordNum_cases o1 a1 b1 with hm | ⟨r1, r2, r3, hm, hlo, hhi⟩
  · exact h hm
  rcases ordNum_cases o2 a2 b2 with hm' | ⟨s1, s2, s3, hm', hlo', hhi'⟩
  · omega
  rw [inB_true] at r1 r2 r3 s1 s2 s3
  omega

theorem lawOrderPair (A : Option Addr) (n c : Nat) (zs : List Int) (A' : Option Addr) (n' c' : Nat) (zs' : List Int) (w : World) (h : Code w A n c zs) (h' : Code w A' n' c' zs') :
    Calls Try.prog 3 #[.slice A n c, .slice A' n' c'] w fun e w' => .returned (.bool true) = e ∧ Below w.heap.size w w' := by
  have hle := h.le
  have hmax := h.max
  have hle' := h'.le
  have hmax' := h'.max
  by_cases hn : n ≤ 1048576
  · by_cases hn' : n' ≤ 1048576
    · have hdraw := drawOrderNumber_any A n c zs w h
      have hdraw' := fun W (hW : Below w.heap.size w W) => drawOrderNumber_any A' n' c' zs' W (h'.below hW)
      clear h h'
      go_enter Try.func3, Try.ntmps3
      go_wp2_with fail
      refine hdraw.mono ?_
      rintro e w1 ⟨⟨o1, a1, b1⟩, rfl, hb⟩
      clear hdraw
      have B1 := Blk.new w1 24 #[.int .i64 o1, .int .i64 a1, .int .i64 b1]
      have hB := alo hb (.cells #[.int .i64 o1, .int .i64 a1, .int .i64 b1] 24)
      have hd := hdraw' _ hB
      clear hdraw' hb
      go_wp2_with fail
      refine hd.mono ?_
      rintro e w2 ⟨⟨o2, a2, b2⟩, rfl, hb2⟩
      clear hd
      replace B1 := (B1.below hb2).alloc (.cells #[.int .i64 o2, .int .i64 a2, .int .i64 b2] 24)
      have B2 := Blk.new w2 24 #[.int .i64 o2, .int .i64 a2, .int .i64 b2]
      replace hB := alo (thn hB hb2) (.cells #[.int .i64 o2, .int .i64 a2, .int .i64 b2] 24)
      clear hb2
      have hI := fun W => ordNum_any o1 a1 b1 W
      have hJ := fun W => ordNum_any o2 a2 b2 W
      have hS := fun W => specOrdNum_any o1 a1 b1 W
      have hfin : ordNum o1 a1 b1 = -1 ∨ ((ordNum o1 a1 b1 == -1) = false ∧ ((o1 = o2 ∧ a1 = a2 ∧ b1 = b2) ∨ ((ordNum o1 a1 b1 == ordNum o2 a2 b2) = false ∧ ¬ (o1 = o2 ∧ a1 = a2 ∧ b1 = b2)))) := by
        by_cases e1 : ordNum o1 a1 b1 = -1
        · exact .inl e1
        · refine .inr ⟨beq_eq_false_iff_ne.2 e1, ?_⟩
          by_cases e2 : o1 = o2 ∧ a1 = a2 ∧ b1 = b2
          · exact .inl e2
          · exact .inr ⟨pair_ne e1 e2, e2⟩
      have HF := Lib.hid hfin
      clear hfin
      generalize hx : ordNum o1 a1 b1 = x at *
      have HX := Lib.hid hx
      clear hx
      generalize hy : ordNum o2 a2 b2 = y at *
      have HY := Lib.hid hy
      clear hy
      have g1 := B1.cell
      have l1 := B1.lt
      go_wp2_with fail
      refine (hI _).mono ?_
      rintro e w3 ⟨rfl, hb3⟩
      replace B1 := B1.below hb3
      replace B2 := B2.below hb3
      replace hB := thn hB hb3
      have g1 := B1.cell
      have l1 := B1.lt
      have g2 := B2.cell
      have l2 := B2.lt
      clear hI hb3
      go_wp2_with fail
      refine (hJ _).mono ?_
      rintro e w4 ⟨rfl, hb4⟩
      replace B1 := B1.below hb4
      replace B2 := B2.below hb4
      replace hB := thn hB hb4
      have g1 := B1.cell
      have l1 := B1.lt
      have g2 := B2.cell
      have l2 := B2.lt
      clear hJ hb4
      go_wp2_with fail
      refine (hS _).mono ?_
      rintro e w5 ⟨rfl, hb5⟩
      replace B1 := B1.below hb5
      replace B2 := B2.below hb5
      replace hB := thn hB hb5
      have g1 := B1.cell
      have l1 := B1.lt
      have g2 := B2.cell
      have l2 := B2.lt
      clear hS hb5
      rcases HF.out with rfl | ⟨e1, h2⟩
      · go_wp2_with fail
        refine (alive_any _).mono ?_
        rintro e w6 ⟨rfl, hb6⟩
        go_wp2
        go_ret
        exact ⟨rfl, thn hB hb6⟩
      · have hxy : (o1 = o2 ∧ a1 = a2 ∧ b1 = b2) → x = y := by
          rintro ⟨rfl, rfl, rfl⟩
          rw [← HX.out, ← HY.out]
        rcases h2 with h2 | ⟨e2, h2⟩
        · have := hxy h2
          obtain ⟨rfl, rfl, rfl⟩ := h2
          subst this
          clear hxy
          go_wp2_with fail
          refine (alive_any _).mono ?_
          rintro e w6 ⟨rfl, hb6⟩
          go_wp2
          go_ret
          exact ⟨rfl, thn hB hb6⟩
        · clear hxy
          by_cases q1 : o1 = o2
          · by_cases q2 : a1 = a2
            · have q3 : ¬ b1 = b2 := fun q3 => h2 ⟨q1, q2, q3⟩
              subst q1 q2
              clear h2
              go_wp2_with fail
              refine (alive_any _).mono ?_
              rintro e w6 ⟨rfl, hb6⟩
              go_wp2
              go_ret
              exact ⟨rfl, thn hB hb6⟩
            · subst q1
              clear h2
              go_wp2_with fail
              refine (alive_any _).mono ?_
              rintro e w6 ⟨rfl, hb6⟩
              go_wp2
              go_ret
              exact ⟨rfl, thn hB hb6⟩
          · clear h2
            go_wp2_with fail
            refine (alive_any _).mono ?_
            rintro e w6 ⟨rfl, hb6⟩
            go_wp2
            go_ret
            exact ⟨rfl, thn hB hb6⟩
    · clear h h'
      go_enter Try.func3, Try.ntmps3
      go_wp2
      go_ret
      exact ⟨rfl, Below.refl _ _⟩
  · clear h h'
    go_enter Try.func3, Try.ntmps3
    go_wp2
    go_ret
    exact ⟨rfl, Below.refl _ _⟩
end Go.Proofs.Ytpiijdfnhkmkaaa
