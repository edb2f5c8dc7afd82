/- The walk of FnWindowsSingle. -/
import Derived.Test.YtmlodhogfejdjaaReach
import Derived.Test.YtmlodhogfejdjaaMeet
import Derived.Test.YtmlodhogfejdjaaAlive
namespace Go.Proofs.Ytmlodhogfejdjaa
set_option linter.unusedVariables false
set_option linter.unusedSimpArgs false
open Go.RowKit

set_option maxRecDepth 100000 in
set_option maxHeartbeats 2000000 in
theorem lawWindowsSingle (A : Option Addr) (n c : Nat) (zs : List Int) (w : World) (h : Code w A n c zs) :
    Calls Try.prog 13 #[.slice A n c] w fun e w' => .returned (.bool true) = e ∧ Below w.heap.size w w' := by
  have hle := h.le
  have hmax := h.max
  by_cases hn : n ≤ 1048576
  · have hdraw := drawWindowsMeet_any A n c zs w h
    clear h
    go_enter Try.func13, Try.ntmps13
    go_wp2_with fail
    refine hdraw.mono ?_
    rintro e w1 ⟨⟨a, b⟩, rfl, _, _, hb⟩
    clear hdraw
    obtain ⟨ab, az, aw⟩ := a
    obtain ⟨bb, bs, bw⟩ := b
    simp only [win2V, winV]
    have BA := ((Blk.new w1 35 #[.int .i64 ab, .int .i64 az, .bool aw]).alloc (.cells #[.int .i64 bb, .int .i64 bs, .bool bw] 35))
    have hb1 := alo (alo hb (.cells #[.int .i64 ab, .int .i64 az, .bool aw] 35)) (.cells #[.int .i64 bb, .int .i64 bs, .bool bw] 35)
    obtain ⟨w2, hw2⟩ : ∃ w2, (w1.alloc (.cells #[.int .i64 ab, .int .i64 az, .bool aw] 35)).alloc (.cells #[.int .i64 bb, .int .i64 bs, .bool bw] 35) = w2 := ⟨_, rfl⟩
    have hz2 : w2.heap.size = w1.heap.size + 1 + 1 := by rw [← hw2]; simp
    rw [hw2] at BA hb1
    have BW := (Blk.new w2 35 #[.int .i64 ab, .int .i64 az, .bool aw]).alloc (.cells #[.slice (some ⟨w2.heap.size, 0, none⟩) 1 1, .int .i64 1] 56)
    have BP : Blk ((w2.alloc (.cells #[.int .i64 ab, .int .i64 az, .bool aw] 35)).alloc (.cells #[.slice (some ⟨w2.heap.size, 0, none⟩) 1 1, .int .i64 1] 56)) (w2.heap.size + 1) 56 #[.slice (some ⟨w2.heap.size, 0, none⟩) 1 1, .int .i64 1] := Blk.new2 w2 _ _ _
    have BA2 := (BA.alloc (.cells #[.int .i64 ab, .int .i64 az, .bool aw] 35)).alloc (.cells #[.slice (some ⟨w2.heap.size, 0, none⟩) 1 1, .int .i64 1] 56)
    have hb2 := alo (alo hb1 (.cells #[.int .i64 ab, .int .i64 az, .bool aw] 35)) (.cells #[.slice (some ⟨w2.heap.size, 0, none⟩) 1 1, .int .i64 1] 56)
    have slW := Sl.of_blk (xs := [(⟨ab, az, aw⟩ : Win)]) BW encW (by simp)
    have slP := Sl.of_blk (xs := [((⟨some ⟨w2.heap.size, 0, none⟩, 1, 1, [⟨ab, az, aw⟩]⟩, 1) : PartV)]) BP encP (by simp)
    have hpt : PtOk ((w2.alloc (.cells #[.int .i64 ab, .int .i64 az, .bool aw] 35)).alloc (.cells #[.slice (some ⟨w2.heap.size, 0, none⟩) 1 1, .int .i64 1] 56)) [((⟨some ⟨w2.heap.size, 0, none⟩, 1, 1, [⟨ab, az, aw⟩]⟩, 1) : PartV)] := fun x hx => by
      rw [List.mem_singleton] at hx
      subst hx
      exact slW
    have hI := partReach_any _ 1 1 _ 0 _ rfl (by omega) _ slP hpt
    have hS := fun W hW => specPartReach_any _ 1 1 _ 0 _ rfl (by omega) W (slP.below hW) (hpt.below hW)
    have hres : reachP [((⟨some ⟨w2.heap.size, 0, none⟩, 1, 1, [⟨ab, az, aw⟩]⟩, 1) : PartV)] (⟨some ⟨w2.heap.size, 0, none⟩, 1, 1, [⟨ab, az, aw⟩]⟩, 1) = if (⟨ab, az, aw⟩ : Win).ok then az else -1 := by
      unfold reachP
      have h1 : partsOk [((⟨some ⟨w2.heap.size, 0, none⟩, 1, 1, [⟨ab, az, aw⟩]⟩, 1) : PartV)] = (⟨ab, az, aw⟩ : Win).ok := by
        simp [partsOk, partOk, winsOk, inB]
      rw [h1]
      cases hok : (⟨ab, az, aw⟩ : Win).ok
      · rfl
      · simp only [if_true]
        exact reach_one hok
    rw [hres] at hI hS
    clear hres hpt slP slW BW
    rw [show ((0 : Nat) : Int) = 0 from rfl] at hI
    simp only [show ((0 : Nat) : Int) = 0 from rfl] at hS
    have hA := fun W => alive_any W
    have hzs := Lib.hid (show (⟨ab, az, aw⟩ : Win).ok = true → az ≠ -1 from fun h9 => by have := Win.ok_true.1 h9; simp only [] at this; omega)
    have BAc := BA
    have BA2c := BA2
    have hlt := BA.lt
    generalize (⟨ab, az, aw⟩ : Win).ok = v at *
    simp only [hz2] at hI hS hb2 BA2
    subst hw2
    skip
    clear BAc BA2c BP
    cases v
    · simp only [Bool.false_eq_true, if_false] at hI hS
      skip
      have cBA_0 := BA.c0; have cBA_1 := BA.c1; have cBA_2 := BA.c2; have fBA := BA.frozen; have cBA2_0 := BA2.c0; have cBA2_1 := BA2.c1; have cBA2_2 := BA2.c2; have fBA2 := BA2.frozen
      go_wp2_with fail
      refine hI.mono ?_
      rintro e w3 ⟨rfl, hb3⟩
      go_wp2_with fail
      refine (hS _ hb3).mono ?_
      rintro e w4 ⟨rfl, hb4⟩
      have hb5 := thn (thn hb2 hb3) hb4
      have BA3 := (BA2.below hb3).below hb4
      clear BA BA2 hI hS cBA_0 cBA_1 cBA_2 fBA cBA2_0 cBA2_1 cBA2_2 fBA2
      skip
      skip
      have cBA3_0 := BA3.c0; have cBA3_1 := BA3.c1; have cBA3_2 := BA3.c2; have fBA3 := BA3.frozen
      go_wp2_with fail
      refine (hA _).mono ?_
      rintro e w5 ⟨rfl, hb6⟩
      go_wp2
      go_ret
      exact ⟨rfl, thn hb5 hb6⟩
    · have hz1 : (az == (-1 : Int)) = false := by rw [beq_eq_false_iff_ne]; exact hzs.out rfl
      simp only [if_true] at hI hS
      skip
      have cBA_0 := BA.c0; have cBA_1 := BA.c1; have cBA_2 := BA.c2; have fBA := BA.frozen; have cBA2_0 := BA2.c0; have cBA2_1 := BA2.c1; have cBA2_2 := BA2.c2; have fBA2 := BA2.frozen
      go_wp2_with fail
      refine hI.mono ?_
      rintro e w3 ⟨rfl, hb3⟩
      go_wp2_with fail
      refine (hS _ hb3).mono ?_
      rintro e w4 ⟨rfl, hb4⟩
      have hb5 := thn (thn hb2 hb3) hb4
      have BA3 := (BA2.below hb3).below hb4
      clear BA BA2 hI hS cBA_0 cBA_1 cBA_2 fBA cBA2_0 cBA2_1 cBA2_2 fBA2
      skip
      skip
      have cBA3_0 := BA3.c0; have cBA3_1 := BA3.c1; have cBA3_2 := BA3.c2; have fBA3 := BA3.frozen
      go_wp2_with fail
      refine (hA _).mono ?_
      rintro e w5 ⟨rfl, hb6⟩
      go_wp2
      go_ret
      exact ⟨rfl, thn hb5 hb6⟩
  · have hnz : 1048576 < (n : Int) := by omega
    go_enter Try.func13, Try.ntmps13
    go_wp2
    go_ret
    exact ⟨rfl, Below.refl _ _⟩
end Go.Proofs.Ytmlodhogfejdjaa
