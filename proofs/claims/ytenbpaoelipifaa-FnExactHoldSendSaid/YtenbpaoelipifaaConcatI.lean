/- slices.Grow of nothing, slices.Concat of two lists of numbers. -/
import Derived.Test.YtenbpaoelipifaaAppT
import Derived.Test.YtenbpaoelipifaaList
import Derived.Test.YtenbpaoelipifaaOwnX
import Derived.Lib.AppendZeros
namespace Go.Proofs.Ytenbpaoelipifaa
set_option linter.unusedVariables false
set_option linter.unusedSimpArgs false
open Go.RowKit

set_option maxRecDepth 100000 in
set_option maxHeartbeats 2000000 in
theorem growI_any (n : Nat) (hn : 0 < n ∧ n ≤ 10000) (w : World) :
    Calls Try.prog 98 #[.slice none 0 0, .int .i64 n] w (Post (fun v => v) fun v w' => Own w' w.heap.size 3 1 eI v ([] : List Int) ∧ Below w.heap.size w w') := by
  obtain ⟨h0, h1⟩ := hn
  obtain ⟨i, z, hi, hz, hsz, hby, hzs⟩ := appInt.info
  have hrun := fun ty => Lib.run_append_nil_zeros (P := Try.prog) w 48 3 ty 3 i z .i64 .i64 (by kernel_rfl) (by kernel_rfl) hi hz n h0 (by rw [hsz]; decide) (by omega) (by rw [hby]; omega)
  generalize z.cells = zc at hrun hzs
  have hG := grownCap_ge w n 0 3
  have hG2 := grownCap_le_maxLen w n 0 3 (by unfold maxLen; omega)
  obtain ⟨G, hg⟩ : ∃ G, grownCap w n 0 3 = G := ⟨_, rfl⟩
  rw [hg] at hG hG2 hrun
  have hG3 : G ≤ 9223372036854775807 := by unfold maxLen at hG2; omega
  have hh1 : ¬ ((n : Int) < 0) := by omega
  have hh2 : (0 : Int) < (n : Int) := by omega
  have hh3 : (0 : Int) ≤ (n : Int) := by omega
  have hh4 : (n : Int) ≤ (G : Int) := by omega
  clear hg
  have hown : Own (w.drew.alloc (.cells (Builtin.zeroCells zc n ++ Builtin.zeroCells zc (G - n)) 3)) w.heap.size 3 1 eI (.slice (some ⟨w.heap.size, 0, none⟩) 0 G) ([] : List Int) :=
    ⟨rfl, .inr ⟨w.heap.size, G, _, rfl, Nat.le_refl _, heap_alloc_new w.drew _, Nat.zero_le _, hG2, (by simp only [Array.size_append, size_zeroCells, hzs]; omega), rfl⟩⟩
  have hbl := alo (Below.refl w.heap.size w).drew (.cells (Builtin.zeroCells zc n ++ Builtin.zeroCells zc (G - n)) 3)
  clear hi hz hsz hby hzs
  go_enter Try.func98, Try.ntmps98
  go_wp2_with (at_builtin; refine Lib.wpList_append_run _ rfl _ _ _ _ rfl _ _ rfl rfl _ _ (hrun _) ?_)
  go_ret
  exact ⟨_, rfl, hown, hbl⟩
set_option maxRecDepth 100000 in
set_option maxHeartbeats 4000000 in
theorem concatI_any (A : Option Addr) (n c : Nat) (xs : List Int) (m : Int) (gb gm : Nat) (hn : n ≤ 1000) (hnil : A = none → c = 0) (w : World) (hs : Sl w 1 eI A n c xs) (hB : Blk w gb 48 #[.slice A n c, .slice (some ⟨gm, 0, none⟩) 1 1]) (hM : Blk w gm 3 #[.int .i64 m]) :
    Calls Try.prog 93 #[.slice (some ⟨gb, 0, none⟩) 2 2] w (Post (fun v => v) fun v w' => Own w' w.heap.size 3 1 eI v (xs ++ [m]) ∧ Below w.heap.size w w') := by
  have hle := hs.le
  have hmax := hs.max
  have HL := Lib.hid hs.len
  have hGr := fun W => growI_any (n + 1) (by omega) W
  simp only [Int.natCast_add, Int.cast_ofNat_Int] at hGr
  have c0 := hB.c0
  have c1 := hB.c1
  have fw : wrap64 ((n : Int) + 1) = (n : Int) + 1 := by unfold wrap64; omega
  clear fw
  have hltB := hB.lt
  have hltM := hM.lt
  go_enter Try.func93, Try.ntmps93
  go_wp2_with fail
  go_loopg [3, 11] 2 (fun gg s3 s11 wr => ∃ kk : Nat, kk ≤ 2 ∧ 2 - kk ≤ gg ∧ s3 = .int .i64 (if kk = 0 then 0 else if kk = 1 then (n : Int) else (n : Int) + 1) ∧ s11 = .int .i64 kk ∧ Aside (w = wr))
  case atStart => exact ⟨0, by omega, by omega, rfl, rfl, (show Aside _ from rfl)⟩
  case round =>
    obtain ⟨kk, hkk, hg, rfl, rfl, BW⟩ := hrel
    obtain rfl := BW.out
    have hcase : kk = 0 ∨ kk = 1 ∨ kk = 2 := by omega
    rcases hcase with rfl | rfl | rfl
    · simp only [if_true]
      go_wp2
      go_roundg 1
      case measure => omega
      case rel => exact ⟨1, by omega, by omega, by simp, by go_num, (show Aside _ from rfl)⟩
    · simp only [Nat.one_ne_zero, if_false, if_true]
      go_wp2
      go_roundg 0
      case measure => omega
      case rel => exact ⟨2, by omega, by omega, by simp, by go_num, (show Aside _ from rfl)⟩
    · simp only [show ¬ (2 : Nat) = 0 by omega, show ¬ (2 : Nat) = 1 by omega, if_false]
      go_wp2_with fail
      refine (hGr _).mono ?_
      rintro e w1 ⟨v, rfl, own1, hb1⟩
      clear hGr
      have hw1 := hb1.size
      have hB1 := hB.below hb1
      have hM1 := hM.below hb1
      have sl1 := hs.below hb1
      have ltA : 0 < n → ∀ b o, A = some ⟨b, o, none⟩ → b < w.heap.size := fun h b o e => by
        obtain ⟨b', o', e', h', -⟩ := hs.cells h
        rw [e] at e'
        injection e' with e'
        injection e' with e1 _
        omega
      go_wp2_with fail
      go_loopg [6, 27] 2 (fun gg s6 s27 wr => ∃ (kk : Nat) (v : Value), kk ≤ 2 ∧ 2 - kk ≤ gg ∧ s6 = v ∧ s27 = .int .i64 kk ∧ Aside (Below w.heap.size w wr) ∧ Aside (Own wr w.heap.size 3 1 eI v (if kk = 0 then [] else if kk = 1 then xs else xs ++ [m])))
      case atStart => exact ⟨0, _, by omega, by omega, rfl, rfl, (show Aside _ from hb1), (show Aside _ from own1)⟩
      case round =>
        obtain ⟨kk, v6, hkk, hg, hv6, rfl, BW, OW⟩ := hrel
        subst hv6
        have own6 := OW.out
        have hbw := BW.out
        clear OW BW
        have hB1 := hB.below hbw
        have hM1 := hM.below hbw
        have sl1 := hs.below hbw
        have d0 := hB1.c0
        have d1 := hB1.c1
        have hcase : kk = 0 ∨ kk = 1 ∨ kk = 2 := by omega
        rcases hcase with rfl | rfl | rfl
        · simp only [if_true] at own6
          go_wp2_with (at_builtin; refine app_own rfl _ _ appInt rfl encI w.heap.size _ [] rfl own6 _ _ _ xs rfl hnil sl1 (by simp; omega) hbw.size ?_; intro v7 w7 own7 hg7; have hb7 := belowApp hbw own6 hg7 (Nat.le_refl _) hbw.size; simp only [List.nil_append] at own7)
          go_roundg 1
          case measure => omega
          case rel => exact ⟨1, _, by omega, by omega, rfl, by go_num, (show Aside _ from hb7), (show Aside _ from own7)⟩
        · simp only [Nat.one_ne_zero, if_false, if_true] at own6
          have src := Sl.of_blk (xs := [m]) hM1 encI (by simp)
          have hlen : xs.length + 1 ≤ 100000000 := by rw [HL.out]; omega
          go_wp2_with (at_builtin; refine app_own rfl _ _ appInt rfl encI w.heap.size _ xs rfl own6 _ 1 1 [m] rfl (fun e => by cases e) src hlen hbw.size ?_; intro v7 w7 own7 hg7; have hb7 := belowApp hbw own6 hg7 (Nat.le_refl _) hbw.size)
          go_roundg 0
          case measure => omega
          case rel => exact ⟨2, _, by omega, by omega, rfl, by go_num, (show Aside _ from hb7), (show Aside _ from own7)⟩
        · simp only [show ¬ (2 : Nat) = 0 by omega, show ¬ (2 : Nat) = 1 by omega, if_false] at own6
          go_wp2
          go_ret
          exact ⟨_, rfl, own6, hbw⟩
end Go.Proofs.Ytenbpaoelipifaa
