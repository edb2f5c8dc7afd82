/- The walk of FnHoldLast. -/
import Derived.Test.YtffhcifeccdfjaaPick
import Derived.Test.YtffhcifeccdfjaaHoldL
import Derived.Test.YtffhcifeccdfjaaSame
import Derived.Test.YtffhcifeccdfjaaAlive
namespace Go.Proofs.Ytffhcifeccdfjaa
set_option linter.unusedVariables false
set_option linter.unusedSimpArgs false
open Go.RowKit

theorem sl_one {w : World} {A : Option Addr} {n c : Nat} {y : Int} (h : Sl w 1 eI A n c [y]) : n = 1 ∧ ∃ b o, A = some ⟨b, o, none⟩ := by
  have hn : n = 1 := h.len.symm
  subst hn
  obtain ⟨b, o, e, _⟩ := h.cells (by omega)
  exact ⟨rfl, b, o, e⟩
set_option maxRecDepth 100000 in
set_option maxHeartbeats 2000000 in
theorem lawHoldLast (A : Option Addr) (n c : Nat) (zs : List Int) (A' : Option Addr) (n' c' : Nat) (zs' : List Int) (w : World) (h : Code w A n c zs) (h' : Code w A' n' c' zs') :
    Calls Try.prog 10 #[.slice A n c, .slice A' n' c'] w fun e w' => .returned (.bool true) = e ∧ Below w.heap.size w w' := by
  have hle := h.le
  have hmax := h.max
  have hle' := h'.le
  have hmax' := h'.max
  clear h h'
  by_cases hn : n ≤ 1048576
  · have hnz : ¬ 1048576 < (n : Int) := by omega
    by_cases hn' : n' ≤ 1048576
    · have hnz' : ¬ 1048576 < (n' : Int) := by omega
      obtain ⟨va, hva⟩ : ∃ va, (n : Int) % 256 = va := ⟨_, rfl⟩
      obtain ⟨vb, hvb⟩ : ∃ vb, (n' : Int) % 256 = vb := ⟨_, rfl⟩
      have ha : 0 ≤ va ∧ va ≤ 255 := by omega
      have hb : 0 ≤ vb ∧ vb ≤ 255 := by omega
      have h1 := fun W => holdSendLast_any none 0 0 [] va ha (by decide) W (slN W 1 eI)
      have h2 := fun W b o c h => holdSendLast_any (some ⟨b, o, none⟩) 1 c [va] vb hb (holdOk_one ha) W h
      have h3 := fun W b o c h => holdTakeLast_any b o c vb hb W h
      have h4 := fun W => specHoldSendLast_any vb hb W
      clear ha hb
      go_enter Try.func10, Try.ntmps10
      go_wp2_with fail
      refine (h1 _).mono ?_
      rintro e w1 ⟨⟨⟨A1, n1, c1, l1⟩, z1⟩, rfl, ⟨hsl1, -, -, -⟩, hl1, hz1, hb1⟩
      simp only [hdV, SV.v] at hsl1 hl1 hz1 ⊢
      rw [hl1] at hsl1
      replace hz1 := hz1.symm
      subst hz1
      obtain ⟨rfl, b1, o1, rfl⟩ := sl_one hsl1
      clear hl1
      have hB1 := alo hb1 (.cells #[.slice (some ⟨b1, o1, none⟩) 1 c1] 63)
      have s1 := hsl1.below (alo (Below.refl _ _) (.cells #[.slice (some ⟨b1, o1, none⟩) 1 c1] 63))
      have B7 := Blk.new w1 63 #[.slice (some ⟨b1, o1, none⟩) 1 c1]
      skip
      skip
      have cB7_0 := B7.c0; have fB7 := B7.frozen
      clear h1 hsl1
      go_wp2_with fail
      refine (h2 _ _ _ _ s1).mono ?_
      rintro e w2 ⟨⟨⟨A2, n2, c2, l2⟩, z2⟩, rfl, ⟨hsl2, -, -, -⟩, hl2, hz2, hb2⟩
      simp only [hdV, SV.v] at hsl2 hl2 hz2 ⊢
      rw [hl2] at hsl2
      replace hz2 := hz2.symm
      subst hz2
      obtain ⟨rfl, b2, o2, rfl⟩ := sl_one hsl2
      clear hl2
      have hB2 := alo (thn hB1 hb2) (.cells #[.slice (some ⟨b2, o2, none⟩) 1 c2] 63)
      have s2 := hsl2.below (alo (Below.refl _ _) (.cells #[.slice (some ⟨b2, o2, none⟩) 1 c2] 63))
      have B9 := Blk.new w2 63 #[.slice (some ⟨b2, o2, none⟩) 1 c2]
      skip
      have cB9_0 := B9.c0; have fB9 := B9.frozen
      clear h2 hsl2 s1
      go_wp2_with fail
      refine (h3 _ _ _ _ s2).mono ?_
      rintro e w3 ⟨⟨⟨A3, n3, c3, l3⟩, z3⟩, rfl, ⟨hsl3, -, -, -⟩, hl3, hz3, hb3⟩
      simp only [hdV, SV.v] at hsl3 hl3 hz3 ⊢
      rw [hl3] at hsl3
      replace hz3 := hz3.symm
      subst hz3
      obtain ⟨rfl, b3, o3, rfl⟩ := sl_one hsl3
      clear hl3
      have hB3 := alo (thn hB2 hb3) (.cells #[.slice (some ⟨b3, o3, none⟩) 1 c3] 63)
      have s3 := hsl3.below (alo (Below.refl _ _) (.cells #[.slice (some ⟨b3, o3, none⟩) 1 c3] 63))
      replace B9 := (B9.below hb3).alloc (.cells #[.slice (some ⟨b3, o3, none⟩) 1 c3] 63)
      replace s2 := (s2.below hb3).below (alo (Below.refl _ _) (.cells #[.slice (some ⟨b3, o3, none⟩) 1 c3] 63))
      have BB := Blk.new w3 63 #[.slice (some ⟨b3, o3, none⟩) 1 c3]
      skip
      have cBB_0 := BB.c0; have fBB := BB.frozen
      clear hsl3
      go_wp2_with fail
      refine (h3 _ _ _ _ s3).mono ?_
      rintro e w4 ⟨⟨⟨A4, n4, c4, l4⟩, z4⟩, rfl, ⟨hsl4, -, -, -⟩, hl4, hz4, hb4⟩
      simp only [hdV, SV.v] at hsl4 hl4 hz4 ⊢
      rw [hl4] at hsl4
      replace hz4 := hz4.symm
      subst hz4
      obtain ⟨rfl, b4, o4, rfl⟩ := sl_one hsl4
      clear hl4
      have hB4 := alo (thn hB3 hb4) (.cells #[.slice (some ⟨b4, o4, none⟩) 1 c4] 63)
      replace B9 := (B9.below hb4).alloc (.cells #[.slice (some ⟨b4, o4, none⟩) 1 c4] 63)
      replace s2 := (s2.below hb4).below (alo (Below.refl _ _) (.cells #[.slice (some ⟨b4, o4, none⟩) 1 c4] 63))
      clear h3 hsl4 s3
      go_wp2_with fail
      refine (h4 _).mono ?_
      rintro e w5 ⟨⟨⟨A5, n5, c5, l5⟩, z5⟩, rfl, ⟨hsl5, -, -, -⟩, hl5, hz5, hb5⟩
      simp only [hdV, SV.v] at hsl5 hl5 hz5 ⊢
      rw [hl5] at hsl5
      replace hz5 := hz5.symm
      subst hz5
      obtain ⟨rfl, b5, o5, rfl⟩ := sl_one hsl5
      clear hl5
      have hB5 := alo (thn hB4 hb5) (.cells #[.slice (some ⟨b5, o5, none⟩) 1 c5] 63)
      have s5 := hsl5.below (alo (Below.refl _ _) (.cells #[.slice (some ⟨b5, o5, none⟩) 1 c5] 63))
      replace B9 := (B9.below hb5).alloc (.cells #[.slice (some ⟨b5, o5, none⟩) 1 c5] 63)
      replace s2 := (s2.below hb5).below (alo (Below.refl _ _) (.cells #[.slice (some ⟨b5, o5, none⟩) 1 c5] 63))
      have BF := Blk.new w5 63 #[.slice (some ⟨b5, o5, none⟩) 1 c5]
      skip
      have cB9_0 := B9.c0; have fB9 := B9.frozen; have cBF_0 := BF.c0; have fBF := BF.frozen
      have hE := sameInts_any _ _ _ _ _ _ _ _ _ s2 s5
      rw [decide_eq_true rfl] at hE
      clear h4 hsl5 s2 s5
      go_wp2_with fail
      refine hE.mono ?_
      rintro e w6 ⟨rfl, hb6⟩
      skip
      go_wp2_with fail; refine (alive_any _).mono ?_; rintro e w9 ⟨rfl, hbw9⟩
      go_wp2
      go_ret
      exact ⟨rfl, thn (thn hB5 hb6) hbw9⟩
    · have hnz' : 1048576 < (n' : Int) := by omega
      go_enter Try.func10, Try.ntmps10
      go_wp2
      go_ret
      exact ⟨rfl, Below.refl _ _⟩
  · have hnz : 1048576 < (n : Int) := by omega
    go_enter Try.func10, Try.ntmps10
    go_wp2
    go_ret
    exact ⟨rfl, Below.refl _ _⟩
end Go.Proofs.Ytffhcifeccdfjaa
