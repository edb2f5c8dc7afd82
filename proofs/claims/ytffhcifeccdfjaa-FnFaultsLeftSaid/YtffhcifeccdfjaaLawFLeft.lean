/- The walk of FnFaultsLeft. -/
import Derived.Test.YtffhcifeccdfjaaDHS
import Derived.Test.YtffhcifeccdfjaaFLeft
import Derived.Test.YtffhcifeccdfjaaAlive
namespace Go.Proofs.Ytffhcifeccdfjaa
set_option linter.unusedVariables false
set_option linter.unusedSimpArgs false
open Go.RowKit

theorem hStep_yes {f : Bool} {x fault : Int} {xs : List Int} (h1 : healthOk f x = true) (h2 : tabOk xs = true) (h3 : 1 ≤ fault) (h4 : fault ≤ 3) : hStep f x xs fault = afterL f x (hlAt xs fault) fault := by
  unfold hStep hOk
  rw [h1, h2, inB_true.2 ⟨by omega, h4⟩]
  rfl
theorem fLeft_law {f : Bool} {x fault : Int} {xs : List Int} {n : Int} (h : fLeft f x xs fault = n) :
    n = -2 ∨ ∃ (m : Nat) (u a : Nat → Int) (e : Bool) (r a' : Int), ((n = (m : Int) ∧ e = true) ∨ (n = -1 ∧ m = 10 ∧ e = false)) ∧ m ≤ 10 ∧ u 0 = x ∧ (∀ k, k < m → hStep f (u k) xs fault = ((f, u (k + 1)), a k)) ∧ hStep f (u m) xs fault = ((e, r), a') := by
  unfold fLeft at h
  cases h1 : healthOk f x
  · rw [h1] at h; exact .inl h.symm
  · cases h2 : tabOk xs
    · rw [h1, h2] at h; exact .inl h.symm
    · cases h3 : inB fault 1 3
      · rw [h1, h2, h3] at h; exact .inl h.symm
      · rw [h1, h2, h3] at h
        simp only [Bool.and_self, if_true] at h
        obtain ⟨hx0, hx1, hx2⟩ := healthOk_bd h1
        rw [inB_true] at h3
        obtain ⟨hy1, hy2, hy3⟩ := hlAt_cell h2 h3.1 h3.2
        right
        have hs := fun z (hz : healthOk f z = true) => hStep_yes hz h2 h3.1 h3.2
        unfold leftL at h
        cases f
        · simp only [Bool.false_eq_true, false_or] at h hx2
          by_cases e2 : hlAt xs fault = 2
          · rw [if_pos e2] at h
            refine ⟨0, fun _ => x, fun _ => 0, true, x, 2, .inl ⟨h.symm, rfl⟩, by omega, rfl, fun k hk => by omega, ?_⟩
            rw [hs x h1, afterL, if_neg (by simp; omega), if_neg (by omega), if_pos e2]
          · rw [if_neg e2] at h
            by_cases e1 : hlAt xs fault = 1
            · rw [if_pos e1] at h
              have hok : ∀ z, 0 ≤ z → z < 3 → healthOk false z = true := fun z h1 h2 => by simp only [healthOk, Bool.and_eq_true, Bool.or_eq_true, inB_true, decide_eq_true_eq]; omega
              refine ⟨(2 - x).toNat, fun k => x + k, fun _ => 1, true, 3, 2, .inl ⟨by omega, rfl⟩, by omega, by simp, fun k hk => ?_, ?_⟩
              · show hStep false (x + (k : Int)) xs fault = ((false, x + ((k + 1 : Nat) : Int)), 1)
                rw [hs _ (hok _ (by omega) (by omega)), afterL, if_neg (by simp; omega), if_pos e1, if_neg (by omega)]
                simp only [Prod.mk.injEq, true_and, and_true]
                omega
              · show hStep false (x + ((2 - x).toNat : Int)) xs fault = ((true, 3), 2)
                rw [hs _ (hok _ (by omega) (by omega)), afterL, if_neg (by simp; omega), if_pos e1, if_pos (by omega)]
            · rw [if_neg e1] at h
              refine ⟨10, fun _ => x, fun _ => 0, false, x, 0, .inr ⟨h.symm, rfl, rfl⟩, by omega, rfl, fun k hk => ?_, ?_⟩
              · rw [hs x h1, afterL, if_neg (by simp; omega), if_neg e1, if_neg e2]
              · rw [hs x h1, afterL, if_neg (by simp; omega), if_neg e1, if_neg e2]
        · rw [if_pos (.inl rfl)] at h
          refine ⟨0, fun _ => x, fun _ => 0, true, x, 0, .inl ⟨h.symm, rfl⟩, by omega, rfl, fun k hk => by omega, ?_⟩
          rw [hs x h1, afterL, if_pos (.inr rfl)]

set_option maxRecDepth 100000 in
set_option maxHeartbeats 2000000 in
theorem lawFaultsLeft (A : Option Addr) (n c : Nat) (zs : List Int) (w : World) (h : Code w A n c zs) :
    Calls Try.prog 8 #[.slice A n c] w fun e w' => .returned (.bool true) = e ∧ Below w.heap.size w w' := by
  have hle := h.le
  have hmax := h.max
  by_cases hn : n ≤ 1048576
  · have hdraw := drawFaultsLeft_any A n c zs w h
    clear h
    go_enter Try.func8, Try.ntmps8
    go_wp2_with fail
    refine hdraw.mono ?_
    rintro e w1 ⟨⟨⟨f, x⟩, ⟨A1, n1, c1, xs⟩, fault⟩, rfl, ⟨hsl, _, _, _⟩, hn1, hy, hb⟩
    clear hdraw
    simp only [hsV, SV.v] at hsl hn1 hy ⊢
    have hle1 := hsl.le
    have hmax1 := hsl.max
    obtain ⟨hy0, hy4⟩ := hy
    have hB1 := alo (Below.refl w1.heap.size w1) (.cells #[.bool f, .int .i64 x] 50)
    have hI := fun W h => faultsLeft_any f x fault A1 n1 c1 xs W h
    have hS := fun W h => specFaultsLeft_any f x fault A1 n1 c1 xs W h
    have hT := fun W z h => healthStep_any f z fault A1 n1 c1 xs W h
    have hlaw := @fLeft_law f x fault xs
    generalize fLeft f x xs fault = q at *
    have HL := Lib.hid (hlaw rfl)
    clear hlaw
    skip
    have B3 := Blk.new w1 50 #[.bool f, .int .i64 x]
    have cB3_0 := B3.c0; have cB3_1 := B3.c1; have fB3 := B3.frozen
    go_wp2_with fail
    refine (hI _ (hsl.below hB1)).mono ?_
    rintro e w2 ⟨rfl, hb2⟩
    have hB2 := thn hB1 hb2
    replace B3 := B3.below hb2
    clear hb2 hI
    have cB3_0 := B3.c0; have cB3_1 := B3.c1; have fB3 := B3.frozen
    go_wp2_with fail
    refine (hS _ (hsl.below hB2)).mono ?_
    rintro e w3 ⟨rfl, hb3⟩
    have hB3 := thn hB2 hb3
    replace B3 := B3.below hb3
    clear hb3 hS hB1 hB2
    clear cB3_0 cB3_1 fB3
    rcases HL.out with rfl | ⟨m, u, a, e, r, a', hcase, hm, hu0, hk, hend⟩
    · clear HL hsl hT
      skip
      go_wp2_with fail; refine (alive_any _).mono ?_; rintro e w6 ⟨rfl, hbw6⟩
      go_wp2
      go_ret
      exact ⟨rfl, thn hb (thn hB3 hbw6)⟩
    · clear HL
      have HU0 := Lib.hid hu0
      have HK := Lib.hid hk
      have HE := Lib.hid hend
      have HLE := Lib.hid hB3.size
      clear hu0 hk hend
      have hB4 := alo hB3 (.cells #[.bool f, .int .i64 x] 50)
      have d38 := Nat.ne_of_lt B3.lt
      have B8 := Blk.new w3 50 #[.bool f, .int .i64 x]
      skip
      skip
      have cB3_0 := B3.c0; have cB3_1 := B3.c1; have fB3 := B3.frozen
      rcases hcase with ⟨rfl, rfl⟩ | ⟨rfl, rfl, rfl⟩
      · have t1 : ((m : Int) == (-2 : Int)) = false := by rw [beq_eq_false_iff_ne]; omega
        have t2 : ¬ (m : Int) < 0 := by omega
        have t3 : (0 : Int) ≤ (m : Int) := by omega
        clear hB3
        skip
        go_wp2
        clear cB3_0 cB3_1 fB3
        replace B3 := B3.alloc (.cells #[.bool f, .int .i64 x] 50)
        go_loopg [9] m (fun gg s9 wr => ∃ kk : Nat, kk ≤ m ∧ m - kk ≤ gg ∧ s9 = .int .i64 kk ∧ Aside (Below w1.heap.size w1 wr) ∧ Aside (Blk wr w1.heap.size 50 #[.bool f, .int .i64 x]) ∧ Aside (Blk wr w3.heap.size 50 #[.bool f, .int .i64 (u kk)]))
        case atStart => exact ⟨0, Nat.zero_le _, by omega, rfl, (show Aside _ from hB4), (show Aside _ from B3), (show Aside _ from by rw [HU0.out]; exact B8)⟩
        case round =>
          clear hB4 B3 B8
          obtain ⟨kk, hkk, hg, rfl, BW, BB3, BB8⟩ := hrel
          have hB4 := BW.out
          have B3 := BB3.out
          have B8 := BB8.out
          clear BW BB3 BB8
          by_cases hlt : kk < m
          · have hltz : (kk : Int) < (m : Int) := by omega
            have hq := hT wr (u kk) (hsl.below hB4)
            rw [HK.out kk hlt] at hq
            simp only [hV] at hq
            generalize u kk = uk at *
            generalize hu1 : u (kk + 1) = uk1 at *
            have HU1 := Lib.hid hu1
            clear hu1
            generalize a kk = ak at *
            have lB8 := B8.lt
            have hne := Nat.ne_of_lt lB8
            skip
            have cB3_0 := B3.c0; have cB3_1 := B3.c1; have fB3 := B3.frozen; have cB8_0 := B8.c0; have cB8_1 := B8.c1; have fB8 := B8.frozen
            go_wp2_with fail
            refine hq.mono ?_
            rintro e w5 ⟨rfl, hb5⟩
            have lz5 := hb5.size
            have hne5 : w3.heap.size ≠ w5.heap.size := by omega
            have hB5 := alo (thn hB4 hb5) (.cells #[.bool f, .int .i64 uk1] 50)
            replace B3 := (B3.below hb5).alloc (.cells #[.bool f, .int .i64 uk1] 50)
            replace B8 := (B8.below hb5).alloc (.cells #[.bool f, .int .i64 uk1] 50)
            have BA := Blk.new w5 50 #[.bool f, .int .i64 uk1]
            have hle3 : w1.heap.size ≤ w3.heap.size := HLE.out
            skip
            skip
            have cB3_0 := B3.c0; have cB3_1 := B3.c1; have fB3 := B3.frozen; have cB8_0 := B8.c0; have cB8_1 := B8.c1; have fB8 := B8.frozen; have cBA_0 := BA.c0; have cBA_1 := BA.c1; have fBA := BA.frozen
            clear hq hb5
            go_wp2
            go_roundg (m - (kk + 1))
            case measure => omega
            case rel => exact ⟨kk + 1, by omega, by omega, by go_num, (show Aside _ from (hB5.setCell (p := ⟨w3.heap.size, 0, none⟩) hle3 _).setCell (p := ⟨w3.heap.size, 1, none⟩) hle3 _), (show Aside _ from (B3.far (p := ⟨w3.heap.size, 0, none⟩) (by assumption) _).far (p := ⟨w3.heap.size, 1, none⟩) (by assumption) _), (show Aside _ from by rw [HU1.out]; exact (B8.set_ 0 _).set_ 1 _)⟩
          · have hltz : ¬ (kk : Int) < (m : Int) := by omega
            obtain rfl : m = kk := by omega
            have hq := hT wr (u m) (hsl.below hB4)
            rw [HE.out] at hq
            simp only [hV] at hq
            generalize u m = uk at *
            skip
            have cB3_0 := B3.c0; have cB3_1 := B3.c1; have fB3 := B3.frozen; have cB8_0 := B8.c0; have cB8_1 := B8.c1; have fB8 := B8.frozen
            clear HE HK
            go_wp2_with fail
            refine hq.mono ?_
            rintro e w5 ⟨rfl, hb5⟩
            have hB5 := alo (thn hB4 hb5) (.cells #[.bool true, .int .i64 r] 50)
            replace B3 := (B3.below hb5).alloc (.cells #[.bool true, .int .i64 r] 50)
            replace B8 := (B8.below hb5).alloc (.cells #[.bool true, .int .i64 r] 50)
            have BA := Blk.new w5 50 #[.bool true, .int .i64 r]
            skip
            have cB3_0 := B3.c0; have cB3_1 := B3.c1; have fB3 := B3.frozen; have cB8_0 := B8.c0; have cB8_1 := B8.c1; have fB8 := B8.frozen; have cBA_0 := BA.c0; have cBA_1 := BA.c1; have fBA := BA.frozen
            clear hq hb5
            go_wp2
            go_ret
            exact ⟨by simp, thn hb hB5⟩
      · clear hB3
        skip
        go_wp2
        clear cB3_0 cB3_1 fB3
        replace B3 := B3.alloc (.cells #[.bool f, .int .i64 x] 50)
        go_loopg [9] 10 (fun gg s9 wr => ∃ kk : Nat, kk ≤ 10 ∧ 10 - kk ≤ gg ∧ s9 = .int .i64 kk ∧ Aside (Below w1.heap.size w1 wr) ∧ Aside (Blk wr w1.heap.size 50 #[.bool f, .int .i64 x]) ∧ Aside (Blk wr w3.heap.size 50 #[.bool f, .int .i64 (u kk)]))
        case atStart => exact ⟨0, Nat.zero_le _, by omega, rfl, (show Aside _ from hB4), (show Aside _ from B3), (show Aside _ from by rw [HU0.out]; exact B8)⟩
        case round =>
          clear hB4 B3 B8
          obtain ⟨kk, hkk, hg, rfl, BW, BB3, BB8⟩ := hrel
          have hB4 := BW.out
          have B3 := BB3.out
          have B8 := BB8.out
          clear BW BB3 BB8
          by_cases hlt : kk < 10
          · have hltz : (kk : Int) < 10 := by omega
            have hq := hT wr (u kk) (hsl.below hB4)
            rw [HK.out kk hlt] at hq
            simp only [hV] at hq
            generalize u kk = uk at *
            generalize hu1 : u (kk + 1) = uk1 at *
            have HU1 := Lib.hid hu1
            clear hu1
            generalize a kk = ak at *
            have lB8 := B8.lt
            have hne := Nat.ne_of_lt lB8
            skip
            have cB3_0 := B3.c0; have cB3_1 := B3.c1; have fB3 := B3.frozen; have cB8_0 := B8.c0; have cB8_1 := B8.c1; have fB8 := B8.frozen
            go_wp2_with fail
            refine hq.mono ?_
            rintro e w5 ⟨rfl, hb5⟩
            have lz5 := hb5.size
            have hne5 : w3.heap.size ≠ w5.heap.size := by omega
            have hB5 := alo (thn hB4 hb5) (.cells #[.bool f, .int .i64 uk1] 50)
            replace B3 := (B3.below hb5).alloc (.cells #[.bool f, .int .i64 uk1] 50)
            replace B8 := (B8.below hb5).alloc (.cells #[.bool f, .int .i64 uk1] 50)
            have BA := Blk.new w5 50 #[.bool f, .int .i64 uk1]
            have hle3 : w1.heap.size ≤ w3.heap.size := HLE.out
            skip
            skip
            have cB3_0 := B3.c0; have cB3_1 := B3.c1; have fB3 := B3.frozen; have cB8_0 := B8.c0; have cB8_1 := B8.c1; have fB8 := B8.frozen; have cBA_0 := BA.c0; have cBA_1 := BA.c1; have fBA := BA.frozen
            clear hq hb5
            go_wp2
            go_roundg (10 - (kk + 1))
            case measure => omega
            case rel => exact ⟨kk + 1, by omega, by omega, by go_num, (show Aside _ from (hB5.setCell (p := ⟨w3.heap.size, 0, none⟩) hle3 _).setCell (p := ⟨w3.heap.size, 1, none⟩) hle3 _), (show Aside _ from (B3.far (p := ⟨w3.heap.size, 0, none⟩) (by assumption) _).far (p := ⟨w3.heap.size, 1, none⟩) (by assumption) _), (show Aside _ from by rw [HU1.out]; exact (B8.set_ 0 _).set_ 1 _)⟩
          · have hltz : ¬ (kk : Int) < 10 := by omega
            obtain rfl : 10 = kk := by omega
            have hq := hT wr (u 10) (hsl.below hB4)
            rw [HE.out] at hq
            simp only [hV] at hq
            generalize u 10 = uk at *
            skip
            have cB3_0 := B3.c0; have cB3_1 := B3.c1; have fB3 := B3.frozen; have cB8_0 := B8.c0; have cB8_1 := B8.c1; have fB8 := B8.frozen
            clear HE HK
            go_wp2_with fail
            refine hq.mono ?_
            rintro e w5 ⟨rfl, hb5⟩
            have hB5 := alo (thn hB4 hb5) (.cells #[.bool false, .int .i64 r] 50)
            replace B3 := (B3.below hb5).alloc (.cells #[.bool false, .int .i64 r] 50)
            replace B8 := (B8.below hb5).alloc (.cells #[.bool false, .int .i64 r] 50)
            have BA := Blk.new w5 50 #[.bool false, .int .i64 r]
            skip
            have cB3_0 := B3.c0; have cB3_1 := B3.c1; have fB3 := B3.frozen; have cB8_0 := B8.c0; have cB8_1 := B8.c1; have fB8 := B8.frozen; have cBA_0 := BA.c0; have cBA_1 := BA.c1; have fBA := BA.frozen
            clear hq hb5
            go_wp2
            go_ret
            exact ⟨by simp, thn hb hB5⟩
  · clear h
    go_enter Try.func8, Try.ntmps8
    go_wp2
    go_ret
    exact ⟨rfl, Below.refl _ _⟩
end Go.Proofs.Ytffhcifeccdfjaa
