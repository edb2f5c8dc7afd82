/- SplitTransfer of impl and spec. -/
import Derived.Test.YtffhcifeccdfjaaTransfer
import Derived.Test.YtffhcifeccdfjaaClip
namespace Go.Proofs.Ytffhcifeccdfjaa
set_option linter.unusedVariables false
set_option linter.unusedSimpArgs false
open Go.RowKit

abbrev Tr := Int × Int × Bool
def eT (x : Tr) : List Value := [.int .i64 x.1, .int .i64 x.2.1, .bool x.2.2]
theorem encT : Enc eT 3 := ⟨fun _ => rfl, fun x u h => by simp [eT] at h; rcases h with rfl | rfl | rfl <;> rfl⟩
theorem appTr : AppT Try.prog 27 24 3 24 := AppT.mk' (z := .agg #[.int .i64 0, .int .i64 0, .bool false]) (by kernel_rfl) (by kernel_rfl) rfl (by decide) (by decide)

/-- The parts from a place on. -/
def splitF (p q s : Int) (z : Bool) : Nat → Int → List Tr
  | 0, _ => []
  | k + 1, m => if m < q then (p + m, min s (q - m), z) :: splitF p q s z k (m + s) else []
def split (p q s : Int) (z : Bool) : List Tr := if trOk p q && inB s 1 64 then splitF p q s z 64 0 else []
theorem splitF_done {p q s : Int} {z : Bool} {k : Nat} {m : Int} (h : ¬ m < q) : splitF p q s z k m = [] := by
  cases k with
  | zero => rfl
  | succ k => show (if m < q then _ else _) = _; rw [if_neg h]
theorem splitF_go {p q s : Int} {z : Bool} {k : Nat} {m : Int} (h : m < q) : splitF p q s z (k + 1) m = (p + m, min s (q - m), z) :: splitF p q s z k (m + s) := by
  show (if m < q then _ else _) = _; rw [if_pos h]
theorem splitF_len (p q s : Int) (z : Bool) : ∀ (k : Nat) (m : Int), (splitF p q s z k m).length ≤ k
  | 0, _ => Nat.le_refl _
  | k + 1, m => by
    show (if m < q then (p + m, min s (q - m), z) :: splitF p q s z k (m + s) else []).length ≤ k + 1
    split
    · simpa using splitF_len p q s z k (m + s)
    · simp
theorem trOk_true' {p q : Int} (h : trOk p q = true) : 1 ≤ q ∧ q ≤ 64 ∧ 0 ≤ p ∧ p ≤ 4096 - q := by
  simp only [trOk, Bool.and_eq_true, inB_true] at h
  omega


set_option maxRecDepth 100000 in
set_option maxHeartbeats 1000000 in
theorem splitTransfer_any (p q s : Int) (z : Bool) (w : World) :
    Calls Try.prog 12 #[trCells (p, q, z), .int .i64 s] w (Post SV.v fun r w' => SV.ok w' w.heap.size 3 eT r ∧ r.xs = split p q s z ∧ Below w.heap.size w w') := by
  unfold split
  have h1 := fun W => transferValid_any p q z W
  have h2 := fun W => in_any s 1 64 W
  have ht := @trOk_true' p q
  have hs := @inB_true s 1 64
  generalize trOk p q = v1 at *
  generalize inB s 1 64 = v2 at *
  simp only [trCells] at h1 ⊢
  have hb0 := alo (Below.refl w.heap.size w) (.cells #[.int .i64 p, .int .i64 q, .bool z] 24)
  skip
  have B0 := Blk.new w 24 #[.int .i64 p, .int .i64 q, .bool z]
  cases v1
  · clear h2 ht hs
    have cB0_0 := B0.c0; have cB0_1 := B0.c1; have cB0_2 := B0.c2; have fB0 := B0.frozen
    go_enter Try.func12, Try.ntmps12
    go_wp2_with fail; refine (h1 _).mono ?_; rintro e w1 ⟨rfl, hbw1⟩; replace B0 := Blk.belowOf B0 hbw1 (by repeat (first | exact B0 | apply Blk.alloc | apply Blk.drew | (apply Blk.far; rotate_left; (first | assumption | exact Ne.symm (by assumption))) | apply Blk.set_))
    go_wp2
    go_ret
    exact ⟨⟨none, 0, 0, []⟩, rfl, okNil _ _ _ _, rfl, thn hb0 hbw1⟩
  · cases v2
    · clear ht hs
      skip
      have cB0_0 := B0.c0; have cB0_1 := B0.c1; have cB0_2 := B0.c2; have fB0 := B0.frozen
      go_enter Try.func12, Try.ntmps12
      go_wp2_with fail; refine (h1 _).mono ?_; rintro e w1 ⟨rfl, hbw1⟩; replace B0 := Blk.belowOf B0 hbw1 (by repeat (first | exact B0 | apply Blk.alloc | apply Blk.drew | (apply Blk.far; rotate_left; (first | assumption | exact Ne.symm (by assumption))) | apply Blk.set_))
      go_wp2_with fail; refine (h2 _).mono ?_; rintro e w' ⟨rfl, rfl⟩
      go_wp2
      go_ret
      exact ⟨⟨none, 0, 0, []⟩, rfl, okNil _ _ _ _, rfl, thn hb0 hbw1⟩
    · obtain ⟨q1, q2, p1, p2⟩ := ht rfl
      obtain ⟨s1, s2⟩ := hs.1 rfl
      clear ht hs
      skip
      have cB0_0 := B0.c0; have cB0_1 := B0.c1; have cB0_2 := B0.c2; have fB0 := B0.frozen
      go_enter Try.func12, Try.ntmps12
      go_wp2_with fail; refine (h1 _).mono ?_; rintro e w1 ⟨rfl, hbw1⟩; replace B0 := Blk.belowOf B0 hbw1 (by repeat (first | exact B0 | apply Blk.alloc | apply Blk.drew | (apply Blk.far; rotate_left; (first | assumption | exact Ne.symm (by assumption))) | apply Blk.set_))
      have hb1 := thn hb0 hbw1
      have hz1 : w.heap.size + 1 ≤ w1.heap.size := by have := hbw1.size; simpa using this
      clear hbw1 hb0 h1
      go_wp2_with fail; refine (h2 _).mono ?_; rintro e w' ⟨rfl, rfl⟩
      clear h2
      have own0 : Own w1 (w.heap.size + 1) 24 3 eT (.slice none 0 0) ([] : List Tr) := Own.nil
      go_wp2
      go_loopg [5, 6] 64 (fun gg s5 s6 wr => ∃ (kk : Nat) (m : Int) (l : List Tr), kk ≤ 64 ∧ 64 - kk ≤ gg ∧ (kk : Int) ≤ m ∧ m < q + s ∧ s6 = .int .i64 m ∧ l.length ≤ kk ∧ Aside (Below w.heap.size w wr) ∧ Aside (Blk wr w.heap.size 24 #[.int .i64 p, .int .i64 q, .bool z]) ∧ Aside (Own wr (w.heap.size + 1) 24 3 eT s5 l) ∧ Aside (l ++ splitF p q s z (64 - kk) m = splitF p q s z 64 0))
      case atStart => exact ⟨0, 0, [], Nat.zero_le _, by omega, by omega, by omega, rfl, by simp, (show Aside _ from hb1), (show Aside _ from B0), (show Aside _ from own0), (show Aside _ from rfl)⟩
      case round =>
        clear hb1 own0 B0
        obtain ⟨kk, m, l, hkk, hg, hkm, hms, rfl, hl, BW, BB, OW, EQ⟩ := hrel
        have hB1 := BW.out
        have B0 := BB.out
        have own1 := OW.out
        clear BW BB OW
        by_cases hlt : m < q
        · have hk63 : kk < 64 := by omega
          have HQ := Lib.hid (show (l ++ [(p + m, min s (q - m), z)]) ++ splitF p q s z (64 - (kk + 1)) (m + s) = splitF p q s z 64 0 by rw [← EQ.out, show 64 - kk = (64 - (kk + 1)) + 1 by omega, splitF_go hlt, List.append_assoc]; rfl)
          clear EQ
          obtain ⟨v, hv⟩ : ∃ v, min s (q - m) = v := ⟨_, rfl⟩
          rw [hv] at HQ
          by_cases hmin : s ≤ q - m
          · obtain rfl : s = v := by rw [← hv]; omega
            clear hv
            have src : Sl (wr.alloc (.cells #[.int .i64 (p + m), .int .i64 (s), .bool z] 24)) 3 eT (some ⟨wr.heap.size, 0, none⟩) 1 1 [(p + m, s, z)] := Sl.of_blk (xs := [(p + m, s, z)]) (Blk.new wr 24 #[.int .i64 (p + m), .int .i64 (s), .bool z]) encT (by simp)
            have own2 := own1.alloc (.cells #[.int .i64 (p + m), .int .i64 (s), .bool z] 24)
            have hB2 := alo hB1 (.cells #[.int .i64 (p + m), .int .i64 (s), .bool z] 24)
            have B2 := B0.alloc (.cells #[.int .i64 (p + m), .int .i64 (s), .bool z] 24)
            have hlen1 : l.length + 1 ≤ 100000000 := by omega
            have hz2 : w.heap.size + 1 ≤ (wr.alloc (.cells #[.int .i64 (p + m), .int .i64 (s), .bool z] 24)).heap.size := by have := B0.lt; simp; omega
            skip
            skip
            have cB0_0 := B0.c0; have cB0_1 := B0.c1; have cB0_2 := B0.c2; have fB0 := B0.frozen
            go_wp2_with (at_builtin; refine app_own rfl _ _ appTr rfl encT (w.heap.size + 1) _ _ rfl own2 _ 1 1 [(p + m, s, z)] rfl (fun e => by cases e) src hlen1 hz2 ?_; intro v' w9 own5 hg5; have hB5 := belowApp hB2 own2 hg5 (by omega) hB2.size; have B5 := B2.app own2 hg5 (by omega))
            go_roundg (64 - (kk + 1))
            case measure => omega
            case rel => exact ⟨kk + 1, m + s, l ++ [(p + m, s, z)], by omega, by omega, by omega, by omega, by go_num, by simp; omega, (show Aside _ from hB5), (show Aside _ from B5), (show Aside _ from own5), (show Aside _ from HQ.out)⟩
          · obtain rfl : v = q - m := by rw [← hv]; omega
            clear hv
            have src : Sl (wr.alloc (.cells #[.int .i64 (p + m), .int .i64 (q - m), .bool z] 24)) 3 eT (some ⟨wr.heap.size, 0, none⟩) 1 1 [(p + m, q - m, z)] := Sl.of_blk (xs := [(p + m, q - m, z)]) (Blk.new wr 24 #[.int .i64 (p + m), .int .i64 (q - m), .bool z]) encT (by simp)
            have own2 := own1.alloc (.cells #[.int .i64 (p + m), .int .i64 (q - m), .bool z] 24)
            have hB2 := alo hB1 (.cells #[.int .i64 (p + m), .int .i64 (q - m), .bool z] 24)
            have B2 := B0.alloc (.cells #[.int .i64 (p + m), .int .i64 (q - m), .bool z] 24)
            have hlen1 : l.length + 1 ≤ 100000000 := by omega
            have hz2 : w.heap.size + 1 ≤ (wr.alloc (.cells #[.int .i64 (p + m), .int .i64 (q - m), .bool z] 24)).heap.size := by have := B0.lt; simp; omega
            skip
            skip
            have cB0_0 := B0.c0; have cB0_1 := B0.c1; have cB0_2 := B0.c2; have fB0 := B0.frozen
            go_wp2_with (at_builtin; refine app_own rfl _ _ appTr rfl encT (w.heap.size + 1) _ _ rfl own2 _ 1 1 [(p + m, q - m, z)] rfl (fun e => by cases e) src hlen1 hz2 ?_; intro v' w9 own5 hg5; have hB5 := belowApp hB2 own2 hg5 (by omega) hB2.size; have B5 := B2.app own2 hg5 (by omega))
            go_roundg (64 - (kk + 1))
            case measure => omega
            case rel => exact ⟨kk + 1, m + s, l ++ [(p + m, q - m, z)], by omega, by omega, by omega, by omega, by go_num, by simp; omega, (show Aside _ from hB5), (show Aside _ from B5), (show Aside _ from own5), (show Aside _ from HQ.out)⟩
        · have HQ := Lib.hid (show l = splitF p q s z 64 0 by rw [← EQ.out, splitF_done hlt, List.append_nil])
          clear EQ
          obtain ⟨A9, c9, rfl, hA9, hsl9, hfr9⟩ := own1.sl encT
          have hle9 := hsl9.le
          have hmax9 := hsl9.max
          skip
          have cB0_0 := B0.c0; have cB0_1 := B0.c1; have cB0_2 := B0.c2; have fB0 := B0.frozen
          go_wp2_with fail
          have hc := clipTr_any A9 l.length c9 hle9 hmax9 hA9.1
          refine (hc _).mono ?_
          rintro e w' ⟨rfl, rfl⟩
          go_wp2
          go_ret
          exact ⟨⟨A9, _, l.length, l⟩, rfl, ⟨⟨hsl9.len, Nat.le_refl _, Nat.le_trans hle9 hmax9, hsl9.cells⟩, fun g o e => Nat.le_trans (Nat.le_succ _) (hfr9 g o e).1, fun e => (by have := hA9.1 e; simp only [] at *; omega), hA9.2⟩, HQ.out, hB1⟩
set_option maxRecDepth 100000 in
set_option maxHeartbeats 1000000 in
theorem specSplitTransfer_any (p q s : Int) (z : Bool) (w : World) :
    Calls Try.prog 13 #[trCells (p, q, z), .int .i64 s] w (Post SV.v fun r w' => SV.ok w' w.heap.size 3 eT r ∧ r.xs = split p q s z ∧ Below w.heap.size w w') := by
  unfold split
  have h1 := fun W => specTransferValid_any p q z W
  have h2 := fun W => l1In_any s 1 64 W
  have ht := @trOk_true' p q
  have hs := @inB_true s 1 64
  generalize trOk p q = v1 at *
  generalize inB s 1 64 = v2 at *
  simp only [trCells] at h1 ⊢
  have hb0 := alo (Below.refl w.heap.size w) (.cells #[.int .i64 p, .int .i64 q, .bool z] 24)
  skip
  have B0 := Blk.new w 24 #[.int .i64 p, .int .i64 q, .bool z]
  have hb0' := alo hb0 (.cells #[] 24)
  have hB0' := B0.alloc (.cells #[] 24)
  have own00 : Own ((w.alloc (.cells #[.int .i64 p, .int .i64 q, .bool z] 24)).alloc (.cells #[] 24)) (w.heap.size + 1) 24 3 eT _ ([] : List Tr) := Own.of_blk (Blk.new2 w _ 24 #[]) (Nat.le_refl _) encT (by simp [maxLen])
  replace B0 := hB0'
  clear hB0'
  cases v1
  · clear h2 ht hs
    skip
    have cB0_0 := B0.c0; have cB0_1 := B0.c1; have cB0_2 := B0.c2; have fB0 := B0.frozen
    go_enter Try.func13, Try.ntmps13
    go_wp2_with fail; refine (h1 _).mono ?_; rintro e w1 ⟨rfl, hbw1⟩; replace B0 := Blk.belowOf B0 hbw1 (by repeat (first | exact B0 | apply Blk.alloc | apply Blk.drew | (apply Blk.far; rotate_left; (first | assumption | exact Ne.symm (by assumption))) | apply Blk.set_))
    have own0 := own00.below hbw1
    obtain ⟨A9, c9, hA, hA9, hsl9, hfr9⟩ := own0.sl encT
    injection hA with hA1 hA2 hA3
    subst hA1 hA3
    go_wp2
    go_ret
    exact ⟨⟨_, 0, _, []⟩, rfl, ⟨hsl9, fun g o e => Nat.le_trans (Nat.le_succ _) (hfr9 g o e).1, hA9.1, hA9.2⟩, rfl, thn hb0' hbw1⟩
  · cases v2
    · clear ht hs
      skip
      have cB0_0 := B0.c0; have cB0_1 := B0.c1; have cB0_2 := B0.c2; have fB0 := B0.frozen
      go_enter Try.func13, Try.ntmps13
      go_wp2_with fail; refine (h1 _).mono ?_; rintro e w1 ⟨rfl, hbw1⟩; replace B0 := Blk.belowOf B0 hbw1 (by repeat (first | exact B0 | apply Blk.alloc | apply Blk.drew | (apply Blk.far; rotate_left; (first | assumption | exact Ne.symm (by assumption))) | apply Blk.set_))
      have own0 := own00.below hbw1
      obtain ⟨A9, c9, hA, hA9, hsl9, hfr9⟩ := own0.sl encT
      injection hA with hA1 hA2 hA3
      subst hA1 hA3
      go_wp2_with fail; refine (h2 _).mono ?_; rintro e w' ⟨rfl, rfl⟩
      go_wp2
      go_ret
      exact ⟨⟨_, 0, _, []⟩, rfl, ⟨hsl9, fun g o e => Nat.le_trans (Nat.le_succ _) (hfr9 g o e).1, hA9.1, hA9.2⟩, rfl, thn hb0' hbw1⟩
    · obtain ⟨q1, q2, p1, p2⟩ := ht rfl
      obtain ⟨s1, s2⟩ := hs.1 rfl
      clear ht hs
      skip
      have cB0_0 := B0.c0; have cB0_1 := B0.c1; have cB0_2 := B0.c2; have fB0 := B0.frozen
      go_enter Try.func13, Try.ntmps13
      go_wp2_with fail; refine (h1 _).mono ?_; rintro e w1 ⟨rfl, hbw1⟩; replace B0 := Blk.belowOf B0 hbw1 (by repeat (first | exact B0 | apply Blk.alloc | apply Blk.drew | (apply Blk.far; rotate_left; (first | assumption | exact Ne.symm (by assumption))) | apply Blk.set_))
      have own0 := own00.below hbw1
      have hb1 := thn hb0' hbw1
      have hz1 : w.heap.size + 1 ≤ w1.heap.size := by have := hbw1.size; simp at this; omega
      clear hbw1 hb0 h1 own00 hb0'
      go_wp2_with fail; refine (h2 _).mono ?_; rintro e w' ⟨rfl, rfl⟩
      clear h2
      go_wp2
      go_loopg [5, 6] 64 (fun gg s5 s6 wr => ∃ (kk : Nat) (m : Int) (l : List Tr), kk ≤ 64 ∧ 64 - kk ≤ gg ∧ (kk : Int) ≤ m ∧ m < q + s ∧ s6 = .int .i64 m ∧ l.length ≤ kk ∧ Aside (Below w.heap.size w wr) ∧ Aside (Blk wr w.heap.size 24 #[.int .i64 p, .int .i64 q, .bool z]) ∧ Aside (Own wr (w.heap.size + 1) 24 3 eT s5 l) ∧ Aside (l ++ splitF p q s z (64 - kk) m = splitF p q s z 64 0))
      case atStart => exact ⟨0, 0, [], Nat.zero_le _, by omega, by omega, by omega, rfl, by simp, (show Aside _ from hb1), (show Aside _ from B0), (show Aside _ from own0), (show Aside _ from rfl)⟩
      case round =>
        clear hb1 own0 B0
        obtain ⟨kk, m, l, hkk, hg, hkm, hms, rfl, hl, BW, BB, OW, EQ⟩ := hrel
        have hB1 := BW.out
        have B0 := BB.out
        have own1 := OW.out
        clear BW BB OW
        by_cases hlt : m < q
        · have hk63 : kk < 64 := by omega
          have HQ := Lib.hid (show (l ++ [(p + m, min s (q - m), z)]) ++ splitF p q s z (64 - (kk + 1)) (m + s) = splitF p q s z 64 0 by rw [← EQ.out, show 64 - kk = (64 - (kk + 1)) + 1 by omega, splitF_go hlt, List.append_assoc]; rfl)
          clear EQ
          obtain ⟨v, hv⟩ : ∃ v, min s (q - m) = v := ⟨_, rfl⟩
          rw [hv] at HQ
          by_cases hmin : s ≤ q - m
          · obtain rfl : s = v := by rw [← hv]; omega
            clear hv
            have src : Sl (wr.alloc (.cells #[.int .i64 (p + m), .int .i64 (s), .bool z] 24)) 3 eT (some ⟨wr.heap.size, 0, none⟩) 1 1 [(p + m, s, z)] := Sl.of_blk (xs := [(p + m, s, z)]) (Blk.new wr 24 #[.int .i64 (p + m), .int .i64 (s), .bool z]) encT (by simp)
            have own2 := own1.alloc (.cells #[.int .i64 (p + m), .int .i64 (s), .bool z] 24)
            have hB2 := alo hB1 (.cells #[.int .i64 (p + m), .int .i64 (s), .bool z] 24)
            have B2 := B0.alloc (.cells #[.int .i64 (p + m), .int .i64 (s), .bool z] 24)
            have hlen1 : l.length + 1 ≤ 100000000 := by omega
            have hz2 : w.heap.size + 1 ≤ (wr.alloc (.cells #[.int .i64 (p + m), .int .i64 (s), .bool z] 24)).heap.size := by have := B0.lt; simp; omega
            skip
            skip
            have cB0_0 := B0.c0; have cB0_1 := B0.c1; have cB0_2 := B0.c2; have fB0 := B0.frozen
            go_wp2_with (at_builtin; refine app_own rfl _ _ appTr rfl encT (w.heap.size + 1) _ _ rfl own2 _ 1 1 [(p + m, s, z)] rfl (fun e => by cases e) src hlen1 hz2 ?_; intro v' w9 own5 hg5; have hB5 := belowApp hB2 own2 hg5 (by omega) hB2.size; have B5 := B2.app own2 hg5 (by omega))
            go_roundg (64 - (kk + 1))
            case measure => omega
            case rel => exact ⟨kk + 1, m + s, l ++ [(p + m, s, z)], by omega, by omega, by omega, by omega, by go_num, by simp; omega, (show Aside _ from hB5), (show Aside _ from B5), (show Aside _ from own5), (show Aside _ from HQ.out)⟩
          · obtain rfl : v = q - m := by rw [← hv]; omega
            clear hv
            have src : Sl (wr.alloc (.cells #[.int .i64 (p + m), .int .i64 (q - m), .bool z] 24)) 3 eT (some ⟨wr.heap.size, 0, none⟩) 1 1 [(p + m, q - m, z)] := Sl.of_blk (xs := [(p + m, q - m, z)]) (Blk.new wr 24 #[.int .i64 (p + m), .int .i64 (q - m), .bool z]) encT (by simp)
            have own2 := own1.alloc (.cells #[.int .i64 (p + m), .int .i64 (q - m), .bool z] 24)
            have hB2 := alo hB1 (.cells #[.int .i64 (p + m), .int .i64 (q - m), .bool z] 24)
            have B2 := B0.alloc (.cells #[.int .i64 (p + m), .int .i64 (q - m), .bool z] 24)
            have hlen1 : l.length + 1 ≤ 100000000 := by omega
            have hz2 : w.heap.size + 1 ≤ (wr.alloc (.cells #[.int .i64 (p + m), .int .i64 (q - m), .bool z] 24)).heap.size := by have := B0.lt; simp; omega
            skip
            skip
            have cB0_0 := B0.c0; have cB0_1 := B0.c1; have cB0_2 := B0.c2; have fB0 := B0.frozen
            go_wp2_with (at_builtin; refine app_own rfl _ _ appTr rfl encT (w.heap.size + 1) _ _ rfl own2 _ 1 1 [(p + m, q - m, z)] rfl (fun e => by cases e) src hlen1 hz2 ?_; intro v' w9 own5 hg5; have hB5 := belowApp hB2 own2 hg5 (by omega) hB2.size; have B5 := B2.app own2 hg5 (by omega))
            go_roundg (64 - (kk + 1))
            case measure => omega
            case rel => exact ⟨kk + 1, m + s, l ++ [(p + m, q - m, z)], by omega, by omega, by omega, by omega, by go_num, by simp; omega, (show Aside _ from hB5), (show Aside _ from B5), (show Aside _ from own5), (show Aside _ from HQ.out)⟩
        · have HQ := Lib.hid (show l = splitF p q s z 64 0 by rw [← EQ.out, splitF_done hlt, List.append_nil])
          clear EQ
          obtain ⟨A9, c9, rfl, hA9, hsl9, hfr9⟩ := own1.sl encT
          have hle9 := hsl9.le
          have hmax9 := hsl9.max
          skip
          have cB0_0 := B0.c0; have cB0_1 := B0.c1; have cB0_2 := B0.c2; have fB0 := B0.frozen
          go_wp2_with fail
          go_wp2
          go_ret
          exact ⟨⟨A9, _, c9, l⟩, rfl, ⟨hsl9, fun g o e => Nat.le_trans (Nat.le_succ _) (hfr9 g o e).1, hA9.1, hA9.2⟩, HQ.out, hB1⟩
end Go.Proofs.Ytffhcifeccdfjaa
