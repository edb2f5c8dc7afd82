/- The walk of FnExactLinkRun. -/
import Derived.Test.YtenbpaoelipifaaLinkRS
import Derived.Test.YtenbpaoelipifaaMarkH
import Derived.Test.YtenbpaoelipifaaExInt
namespace Go.Proofs.Ytenbpaoelipifaa
set_option linter.unusedVariables false
set_option linter.unusedSimpArgs false
open Go.RowKit

theorem linkRun_len (d : Int) (vs : List Int) : (linkRun d vs).length ≤ 2000 := by
  unfold linkRun
  split
  · rename_i h
    simp only [Bool.and_eq_true, inB_true, decide_eq_true_eq] at h
    have := (runL_len d vs (vs.length + d.toNat)).2
    omega
  · simp
set_option maxHeartbeats 2000000 in
theorem lawExactLinkRun (d : Int) (A : Option Addr) (n c : Nat) (vs : List Int) (w : World) (hs : Sl w 1 eI A n c vs) :
    Calls Try.prog 9 #[.int .i64 d, .slice A n c] w fun e w' => .returned (.bool true) = e ∧ Below w.heap.size w w' := by
  have hle := hs.le
  have hmax := hs.max
  have h0 := Below.refl w.heap.size w
  skip
  by_cases hn : (n : Int) ≤ 1048576
  · have hn1 : n ≤ 1048576 := by omega
    have hT := fun W hW => toIntS_any A n c vs hn1 W (hs.below hW)
    have hone := fun W g (B : Blk W g 3 (vs.flatMap eI).toArray) => show Sl W 1 eI (some ⟨g, 0, none⟩) n n vs by have := Sl.of_blk B encI (by rw [hs.len]; omega); rw [hs.len] at this; exact this
    have hlen := Lib.hid hs.len
    have hrl := linkRun_len d vs
    obtain ⟨R, hR⟩ : ∃ R, linkRun d vs = R := ⟨_, rfl⟩
    rw [hR] at hrl
    go_enter Try.func9, Try.ntmps9
    go_wp2_with fail
    refine (hT _ h0).mono ?_
    rintro e w1 ⟨g1, rfl, Bg1, lg1, hbw1⟩
    have hw1 := thn h0 hbw1
    simp only [whole]
    have hsp := specLinkRun_any d (some ⟨g1, 0, none⟩) n n vs w1 (hone w1 g1 Bg1)
    rw [hR] at hsp
    clear h0 Bg1 lg1 hbw1
    go_wp2_with fail
    refine hsp.mono ?_
    rintro e w2 ⟨v, rfl, ownS, hbw2⟩
    obtain ⟨AS, cS, rfl, hAS, slS, frS⟩ := ownS.sl encI
    have ltS : ∀ b o, AS = some ⟨b, o, none⟩ → b < w2.heap.size := fun b o e => (frS b o e).2
    have h2 := thn hw1 hbw2
    clear hsp hw1 hbw2 ownS hAS frS
    go_wp2_with fail
    refine (hT _ h2).mono ?_
    rintro e w3 ⟨g2, rfl, Bg2, lg2, hbw3⟩
    have hw3 := thn h2 hbw3
    simp only [whole]
    replace slS := slS.below hbw3
    have g2lt := Bg2.lt
    have WX : WS w3 g2 3 1 eI ⟨some ⟨g2, 0, none⟩, n, n, vs⟩ := by
      have h9 := WS.of_blk (base := g2) Bg2 (Nat.le_refl _) encI (by rw [hlen.out]; omega)
      rw [hlen.out] at h9
      exact h9
    have hw2 := h2.size
    clear h2 hbw3 Bg2
    have hip := linkRun_any d (some ⟨g2, 0, none⟩) n n vs w3 WX.ok.sl
    rw [hR] at hip
    go_wp2_with fail
    refine hip.mono ?_
    rintro e w4 ⟨⟨AI, nI, cI, lI⟩, rfl, wsI, hlI, hbw4⟩
    simp only [SV.v] at wsI hlI ⊢
    subst hlI
    have hlI := wsI.ok.sl.len
    simp only [] at hlI
    subst hlI
    clear hip
    have h4 := thn hw3 hbw4
    replace slS := slS.below hbw4
    replace WX := WX.below hbw4
    clear hw3 hbw4
    have hE := fun W c' A' hI hS => eqIntS_any AI A' lI.length cI c' lI W hI hS
    go_wp2_with fail; refine (hE _ _ _ wsI.ok.sl slS).mono ?_; rintro e w5 ⟨rfl, hbw5⟩
    replace slS := slS.below hbw5
    replace WX := WX.below hbw5
    replace wsI := wsI.below hbw5
    have h5 := thn h4 hbw5
    clear h4 hbw5
    go_wp2_with fail
    refine (hT _ h5).mono ?_
    rintro e w6 ⟨g3, rfl, Bg3, lg3, hbw6⟩
    have hw6 := thn h5 hbw6
    simp only [whole]
    replace slS := slS.below hbw6
    replace WX := WX.below hbw6
    replace wsI := wsI.below hbw6
    have sl3 := hone w6 g3 Bg3
    clear h5 hbw6 Bg3
    go_wp2_with fail; refine (eqIntS_any (some ⟨g2, 0, none⟩) (some ⟨g3, 0, none⟩) n n n vs _ WX.ok.sl sl3).mono ?_; rintro e w7 ⟨rfl, hbw7⟩
    replace slS := slS.below hbw7
    replace WX := WX.below hbw7
    replace wsI := wsI.below hbw7
    have h7 := thn hw6 hbw7
    clear hw6 hbw7 sl3
    have hM := markIntS_any ⟨some ⟨g2, 0, none⟩, n, n, vs⟩ 1 g2 (by omega) (by simp only []; omega) _ WX
    simp only [SV.v] at hM
    go_wp2_with fail
    refine hM.mono ?_
    rintro e w8 ⟨rfl, hg8, -⟩
    have h8 := Below.other h7 hg8 (fun g e => by have := row_some e; omega) h7.size
    replace slS := slS.other hg8 (fun b o e e' => by have := row_some e'; have := ltS b o e; omega)
    replace wsI := wsI.other hg8 (fun b o e e' => by have := row_some e'; have := wsI.ok.fresh b o e; omega)
    clear WX hg8 hM h7
    have hk0 : ¬ (1 + (n : Int)) < 0 := by omega
    go_wp2_with fail; refine (hE _ _ _ wsI.ok.sl slS).mono ?_; rintro e w9 ⟨rfl, hbw9⟩
    replace slS := slS.below hbw9
    replace wsI := wsI.below hbw9
    have h9 := thn h8 hbw9
    clear h8 hbw9
    have hM := markIntS_any ⟨AI, lI.length, cI, lI⟩ 1 w3.heap.size (by omega) (by simp only []; omega) _ wsI
    simp only [SV.v] at hM
    go_wp2_with fail
    refine hM.mono ?_
    rintro e w10 ⟨rfl, hg10, ws10⟩
    have h10 := Below.other h9 hg10 (fun g e => by have := (wsI.rowGe e).1; omega) h9.size
    replace slS := slS.other hg10 (fun b o e e' => by have := (wsI.rowGe e').1; have := ltS b o e; omega)
    have slM := ws10.ok.sl
    simp only [] at slM
    clear wsI hg10 hM h9 ws10
    have hk1 : ¬ (1 + (lI.length : Int)) < 0 := by omega
    go_wp2_with fail; refine (heldIntS_any AI lI.length cI 1 (by omega) (by omega) _ slM).mono ?_; rintro e w11 ⟨rfl, hbw11⟩
    replace slS := slS.below hbw11
    replace slM := slM.below hbw11
    have h11 := thn h10 hbw11
    clear hbw11 h10
    go_wp2_with fail
    refine (hT _ h11).mono ?_
    rintro e w12 ⟨g4, rfl, Bg4, lg4, hbw12⟩
    have hw12 := thn h11 hbw12
    simp only [whole]
    have sl4 := hone w12 g4 Bg4
    replace slS := slS.below hbw12
    replace slM := slM.below hbw12
    clear h11 hbw12 Bg4
    have hip := linkRun_any d (some ⟨g4, 0, none⟩) n n vs w12 sl4
    rw [hR] at hip
    go_wp2_with fail
    refine hip.mono ?_
    rintro e w13 ⟨⟨AJ, nJ, cJ, lJ⟩, rfl, wsJ, hlJ, hbw13⟩
    simp only [SV.v] at wsJ hlJ ⊢
    subst hlJ
    have hlJ := wsJ.ok.sl.len
    simp only [] at hlJ
    subst hlJ
    have h13 := thn hw12 hbw13
    replace slS := slS.below hbw13
    replace slM := slM.below hbw13
    clear hip hw12 hbw13 hE sl4
    go_wp2_with fail; refine (eqIntS_any AJ AS lJ.length cJ cS lJ _ wsJ.ok.sl slS).mono ?_; rintro e w14 ⟨rfl, hbw14⟩
    replace slM := slM.below hbw14
    have h14 := thn h13 hbw14
    go_wp2_with fail; refine (heldIntS_any AI lJ.length cI 1 (by omega) (by omega) _ slM).mono ?_; rintro e w15 ⟨rfl, hbw15⟩
    go_wp2
    go_ret
    exact ⟨rfl, thn h14 hbw15⟩
  · have hn' : (1048576 : Int) < (n : Int) := by omega
    go_enter Try.func9, Try.ntmps9
    go_wp2
    go_ret
    exact ⟨rfl, h0⟩
end Go.Proofs.Ytenbpaoelipifaa
