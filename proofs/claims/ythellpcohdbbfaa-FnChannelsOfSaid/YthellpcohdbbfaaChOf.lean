/- ChannelsOf of impl and spec; its draw. -/
import Derived.Test.YthellpcohdbbfaaNet
import Derived.Test.YthellpcohdbbfaaChanV
import Derived.Test.YthellpcohdbbfaaClip
namespace Go.Proofs.Ythellpcohdbbfaa
set_option linter.unusedVariables false
set_option linter.unusedSimpArgs false
open Go.RowKit

abbrev Chn := Int × Int × Int × Int
def selP (q : Int) (s : Bool) (x : Chn) : Bool := if s then x.2.1 == q else x.2.2.1 == q
def chOfN (q : Int) (s : Bool) (xs : List Chn) : Nat → List Int
  | 0 => []
  | m + 1 => chOfN q s xs m ++ (match xs[m]? with | some y => if selP q s y then [(m : Int)] else [] | none => [])
def chOf (xs : List Chn) (parts q : Int) (s : Bool) : List Int := if chansOk xs parts then chOfN q s xs xs.length else []
theorem chOfN_hit {q : Int} {s : Bool} {xs : List Chn} {m : Nat} {y : Chn} (h : xs[m]? = some y) (hp : selP q s y = true) : chOfN q s xs (m + 1) = chOfN q s xs m ++ [(m : Int)] := by
  show chOfN q s xs m ++ (match xs[m]? with | some y => if selP q s y then [(m : Int)] else [] | none => []) = _
  rw [h]
  simp [hp]
theorem chOfN_miss {q : Int} {s : Bool} {xs : List Chn} {m : Nat} {y : Chn} (h : xs[m]? = some y) (hp : selP q s y = false) : chOfN q s xs (m + 1) = chOfN q s xs m := by
  show chOfN q s xs m ++ (match xs[m]? with | some y => if selP q s y then [(m : Int)] else [] | none => []) = _
  rw [h]
  simp [hp]
theorem chOfN_len (q : Int) (s : Bool) (xs : List Chn) : ∀ m, (chOfN q s xs m).length ≤ m
  | 0 => Nat.le_refl _
  | m + 1 => by
    have h := chOfN_len q s xs m
    show (chOfN q s xs m ++ _).length ≤ m + 1
    rw [List.length_append]
    split
    · split
      · simp; omega
      · simp; omega
    · simp; omega
theorem chOf_no {xs : List Chn} {parts q : Int} {s : Bool} (h : chansOk xs parts = false) : chOf xs parts q s = [] := by unfold chOf; rw [h]; rfl
theorem chOf_yes {xs : List Chn} {parts q : Int} {s : Bool} (h : chansOk xs parts = true) : chOf xs parts q s = chOfN q s xs xs.length := by unfold chOf; rw [h]; rfl
set_option maxRecDepth 100000 in
set_option maxHeartbeats 2000000 in
theorem channelsOf_any (A : Option Addr) (n c : Nat) (xs : List Chn) (parts q : Int) (s : Bool) (hn : n ≤ 1000) (w : World) (hs : Sl w 4 eC A n c xs) :
    Calls Try.prog 26 #[.slice A n c, .int .i64 parts, .int .i64 q, .bool s] w (Post SV.v fun r w' => SV.ok w' w.heap.size 1 eI r ∧ r.xs = chOf xs parts q s ∧ Below w.heap.size w w') := by
  have hle := hs.le
  have hmax := hs.max
  have hl := hs.len
  have h1 := channelsValid_any A n c xs parts w hs
  have HNo := Lib.hid (@chOf_no xs parts q s)
  have HYes := Lib.hid (@chOf_yes xs parts q s)
  generalize chansOk xs parts = v at *
  cases v
  · have HQ := Lib.hid (HNo.out rfl)
    clear hs hl
    go_enter Try.func26, Try.ntmps26
    go_wp2_with fail
    refine h1.mono ?_; rintro e w1 ⟨rfl, hb1⟩
    go_wp2
    go_ret
    exact ⟨⟨none, 0, 0, []⟩, rfl, okNil _ _ _ _, HQ.out.symm, hb1⟩
  · have HQ := Lib.hid (HYes.out rfl)
    have HL := Lib.hid hl
    clear HNo HYes hl
    go_enter Try.func26, Try.ntmps26
    go_wp2_with fail
    refine h1.mono ?_; rintro e w1 ⟨rfl, hb1⟩
    have own0 : Own w1 w.heap.size 3 1 eI (.slice none 0 0) ([] : List Int) := Own.nil
    go_wp2
    go_loopg [9, 18] n (fun gg s9 s18 wr => ∃ kk : Nat, kk ≤ n ∧ n - kk ≤ gg ∧ s18 = .int .i64 kk ∧ Aside (Below w.heap.size w wr) ∧ Aside (Own wr w.heap.size 3 1 eI s9 (chOfN q s xs kk)))
    case atStart => exact ⟨0, Nat.zero_le _, by omega, rfl, (show Aside _ from hb1), (show Aside _ from own0)⟩
    case round =>
      clear hb1 own0
      obtain ⟨kk, hkk, hg, rfl, BW, OW⟩ := hrel
      have own1 := OW.out
      by_cases hlt : kk < n
      · have hltz : (kk : Int) < (n : Int) := by omega
        obtain ⟨g, o, rfl, y, hyk, hc⟩ := hs.nth hlt BW.out
        obtain ⟨k, a, b, d⟩ := y
        have hc0 := hc 0 _ rfl
        have hc1 := hc 1 _ rfl
        have hc2 := hc 2 _ rfl
        have hc3 := hc 3 _ rfl
        simp only [eC, Nat.add_zero] at hc0 hc1 hc2 hc3
        have hB2 := alo BW.out (.cells #[.int .i64 k, .int .i64 a, .int .i64 b, .int .i64 d] 25)
        have own2 := own1.alloc (.cells #[.int .i64 k, .int .i64 a, .int .i64 b, .int .i64 d] 25)
        skip
        have B1 := Blk.new wr 25 #[.int .i64 k, .int .i64 a, .int .i64 b, .int .i64 d]
        have cB1_0 := B1.c0; have cB1_1 := B1.c1; have cB1_2 := B1.c2; have cB1_3 := B1.c3; have fB1 := B1.frozen
        clear hc BW OW
        cases s
        · cases e1 : (b == q)
          · have HT := Lib.hid (chOfN_miss hyk (show selP q false (k, a, b, d) = false from e1))
            clear hyk
            go_wp2
            go_roundg (n - (kk + 1))
            case measure => omega
            case rel => exact ⟨kk + 1, by omega, by omega, by go_num, (show Aside _ from hB2), (show Aside _ from by rw [HT.out]; exact own2)⟩
          · have HT := Lib.hid (chOfN_hit hyk (show selP q false (k, a, b, d) = true from e1))
            clear hyk
            have src : Sl ((wr.alloc (.cells #[.int .i64 k, .int .i64 a, .int .i64 b, .int .i64 d] 25)).alloc (.cells #[.int .i64 kk] 3)) 1 eI (some ⟨wr.heap.size + 1, 0, none⟩) 1 1 [(kk : Int)] := Sl.of_blk (xs := [(kk : Int)]) (Blk.new2 wr (.cells #[.int .i64 k, .int .i64 a, .int .i64 b, .int .i64 d] 25) 3 #[.int .i64 kk]) encI (by simp)
            have own3 := own2.alloc (.cells #[.int .i64 kk] 3)
            have hB3 := alo hB2 (.cells #[.int .i64 kk] 3)
            have hlen1 : (chOfN q false xs kk).length + 1 ≤ 100000000 := by have := chOfN_len q false xs kk; omega
            go_wp2_with (at_builtin; refine app_own rfl _ _ appInt rfl encI w.heap.size _ (chOfN q false xs kk) rfl own3 _ 1 1 [(kk : Int)] rfl (fun e => by cases e) src hlen1 hB3.size ?_; intro v' w9 own5 hg5; have hB5 := belowApp hB3 own3 hg5 (Nat.le_refl _) hB3.size)
            go_roundg (n - (kk + 1))
            case measure => omega
            case rel => exact ⟨kk + 1, by omega, by omega, by go_num, (show Aside _ from hB5), (show Aside _ from by rw [HT.out]; exact own5)⟩
        · cases e1 : (a == q)
          · have HT := Lib.hid (chOfN_miss hyk (show selP q true (k, a, b, d) = false from e1))
            clear hyk
            go_wp2
            go_roundg (n - (kk + 1))
            case measure => omega
            case rel => exact ⟨kk + 1, by omega, by omega, by go_num, (show Aside _ from hB2), (show Aside _ from by rw [HT.out]; exact own2)⟩
          · have HT := Lib.hid (chOfN_hit hyk (show selP q true (k, a, b, d) = true from e1))
            clear hyk
            have src : Sl ((wr.alloc (.cells #[.int .i64 k, .int .i64 a, .int .i64 b, .int .i64 d] 25)).alloc (.cells #[.int .i64 kk] 3)) 1 eI (some ⟨wr.heap.size + 1, 0, none⟩) 1 1 [(kk : Int)] := Sl.of_blk (xs := [(kk : Int)]) (Blk.new2 wr (.cells #[.int .i64 k, .int .i64 a, .int .i64 b, .int .i64 d] 25) 3 #[.int .i64 kk]) encI (by simp)
            have own3 := own2.alloc (.cells #[.int .i64 kk] 3)
            have hB3 := alo hB2 (.cells #[.int .i64 kk] 3)
            have hlen1 : (chOfN q true xs kk).length + 1 ≤ 100000000 := by have := chOfN_len q true xs kk; omega
            go_wp2_with (at_builtin; refine app_own rfl _ _ appInt rfl encI w.heap.size _ (chOfN q true xs kk) rfl own3 _ 1 1 [(kk : Int)] rfl (fun e => by cases e) src hlen1 hB3.size ?_; intro v' w9 own5 hg5; have hB5 := belowApp hB3 own3 hg5 (Nat.le_refl _) hB3.size)
            go_roundg (n - (kk + 1))
            case measure => omega
            case rel => exact ⟨kk + 1, by omega, by omega, by go_num, (show Aside _ from hB5), (show Aside _ from by rw [HT.out]; exact own5)⟩
      · have hltz : ¬ (kk : Int) < (n : Int) := by omega
        obtain rfl : n = kk := by omega
        have HR := Lib.hid (show chOfN q s xs n = chOf xs parts q s by rw [HQ.out, HL.out])
        generalize chOfN q s xs n = ll at own1 HR
        obtain ⟨A9, c9, rfl, hA9, hsl9, hfr9⟩ := own1.sl encI
        have hle9 := hsl9.le
        have hmax9 := hsl9.max
        have hc := clipInt_any A9 ll.length c9 hle9 hmax9 hA9.1
        go_wp2_with fail
        refine (hc _).mono ?_
        rintro e w' ⟨rfl, rfl⟩
        go_wp2
        go_ret
        exact ⟨⟨A9, _, ll.length, ll⟩, rfl, ⟨⟨hsl9.len, Nat.le_refl _, Nat.le_trans hle9 hmax9, hsl9.cells⟩, fun g o e => (hfr9 g o e).1, fun e => (by have := hA9.1 e; simp only [] at *; omega), hA9.2⟩, HR.out, BW.out⟩
set_option maxRecDepth 100000 in
set_option maxHeartbeats 2000000 in
theorem specChannelsOf_any (A : Option Addr) (n c : Nat) (xs : List Chn) (parts q : Int) (s : Bool) (hn : n ≤ 1000) (hp : -1000 ≤ parts ∧ parts ≤ 1000) (w : World) (hs : Sl w 4 eC A n c xs) :
    Calls Try.prog 28 #[.slice A n c, .int .i64 parts, .int .i64 q, .bool s] w (Post SV.v fun r w' => SV.ok w' w.heap.size 1 eI r ∧ r.xs = chOf xs parts q s ∧ Below w.heap.size w w') := by
  have hle := hs.le
  have hmax := hs.max
  have hl := hs.len
  have h1 := fun W hW => specChannelsValid_any A n c xs parts hp W (hs.below hW)
  clear hp
  have HNo := Lib.hid (@chOf_no xs parts q s)
  have HYes := Lib.hid (@chOf_yes xs parts q s)
  have HL := Lib.hid hl
  generalize chansOk xs parts = v at *
  have hb0 := alo (Below.refl w.heap.size w) (.cells #[] 3)
  have own0 : Own (w.alloc (.cells #[] 3)) w.heap.size 3 1 eI _ ([] : List Int) := Own.of_blk (Blk.new w 3 #[]) (Nat.le_refl _) encI (by simp [maxLen])
  clear hl
  go_enter Try.func28, Try.ntmps28
  go_wp2
  go_loopg [9, 10] n (fun gg s9 s10 wr => ∃ kk : Nat, kk ≤ n ∧ n - kk ≤ gg ∧ s10 = .int .i64 kk ∧ (v = true ∨ kk = 0) ∧ Aside (Below w.heap.size w wr) ∧ Aside (Own wr w.heap.size 3 1 eI s9 (chOfN q s xs kk)))
  case atStart => exact ⟨0, Nat.zero_le _, by omega, rfl, .inr rfl, (show Aside _ from hb0), (show Aside _ from own0)⟩
  case round =>
    clear hb0 own0
    obtain ⟨kk, hkk, hg, rfl, hvk, BW, OW⟩ := hrel
    have own1 := OW.out
    by_cases hlt : kk < n
    · have hltz : (kk : Int) < (n : Int) := by omega
      have hq := h1 wr BW.out
      cases v
      · have hk0 : kk = 0 := by rcases hvk with h | h; cases h; exact h
        have HR := Lib.hid (show chOfN q s xs kk = chOf xs parts q s by rw [hk0, HNo.out (by simp)]; rfl)
        clear hk0 hvk
        generalize chOfN q s xs kk = ll at own1 HR
        go_wp2_with fail
        refine hq.mono ?_
        rintro e w4 ⟨rfl, hb4⟩
        have own4 := own1.below hb4
        have hB4 := thn BW.out hb4
        obtain ⟨A9, c9, rfl, hA9, hsl9, hfr9⟩ := own4.sl encI
        go_wp2
        go_ret
        exact ⟨⟨A9, _, c9, ll⟩, rfl, ⟨hsl9, fun g o e => (hfr9 g o e).1, hA9.1, hA9.2⟩, HR.out, hB4⟩
      · clear hvk
        go_wp2_with fail
        refine hq.mono ?_
        rintro e w4 ⟨rfl, hb4⟩
        have own2 := own1.below hb4
        have hB2 := thn BW.out hb4
        obtain ⟨g, o, rfl, y, hyk, hc⟩ := hs.nth hlt hB2
        obtain ⟨k, a, b, d⟩ := y
        have hc1 := hc 1 _ rfl
        have hc2 := hc 2 _ rfl
        simp only [eC, Nat.add_zero] at hc1 hc2
        clear hc BW OW hq own1 hb4
        cases s
        · cases e1 : (b == q)
          · have HT := Lib.hid (chOfN_miss hyk (show selP q false (k, a, b, d) = false from e1))
            clear hyk
            go_wp2
            go_roundg (n - (kk + 1))
            case measure => omega
            case rel => exact ⟨kk + 1, by omega, by omega, by go_num, .inl (by simp), (show Aside _ from hB2), (show Aside _ from by rw [HT.out]; exact own2)⟩
          · have HT := Lib.hid (chOfN_hit hyk (show selP q false (k, a, b, d) = true from e1))
            clear hyk
            have src : Sl ((w4).alloc (.cells #[.int .i64 kk] 3)) 1 eI (some ⟨(w4).heap.size, 0, none⟩) 1 1 [(kk : Int)] := Sl.of_blk (xs := [(kk : Int)]) (Blk.new (w4) 3 #[.int .i64 kk]) encI (by simp)
            have own3 := own2.alloc (.cells #[.int .i64 kk] 3)
            have hB3 := alo hB2 (.cells #[.int .i64 kk] 3)
            have hlen1 : (chOfN q false xs kk).length + 1 ≤ 100000000 := by have := chOfN_len q false xs kk; omega
            go_wp2_with (at_builtin; refine app_own rfl _ _ appInt rfl encI w.heap.size _ (chOfN q false xs kk) rfl own3 _ 1 1 [(kk : Int)] rfl (fun e => by cases e) src hlen1 hB3.size ?_; intro v' w9 own5 hg5; have hB5 := belowApp hB3 own3 hg5 (Nat.le_refl _) hB3.size)
            go_roundg (n - (kk + 1))
            case measure => omega
            case rel => exact ⟨kk + 1, by omega, by omega, by go_num, .inl (by simp), (show Aside _ from hB5), (show Aside _ from by rw [HT.out]; exact own5)⟩
        · cases e1 : (a == q)
          · have HT := Lib.hid (chOfN_miss hyk (show selP q true (k, a, b, d) = false from e1))
            clear hyk
            go_wp2
            go_roundg (n - (kk + 1))
            case measure => omega
            case rel => exact ⟨kk + 1, by omega, by omega, by go_num, .inl (by simp), (show Aside _ from hB2), (show Aside _ from by rw [HT.out]; exact own2)⟩
          · have HT := Lib.hid (chOfN_hit hyk (show selP q true (k, a, b, d) = true from e1))
            clear hyk
            have src : Sl ((w4).alloc (.cells #[.int .i64 kk] 3)) 1 eI (some ⟨(w4).heap.size, 0, none⟩) 1 1 [(kk : Int)] := Sl.of_blk (xs := [(kk : Int)]) (Blk.new (w4) 3 #[.int .i64 kk]) encI (by simp)
            have own3 := own2.alloc (.cells #[.int .i64 kk] 3)
            have hB3 := alo hB2 (.cells #[.int .i64 kk] 3)
            have hlen1 : (chOfN q true xs kk).length + 1 ≤ 100000000 := by have := chOfN_len q true xs kk; omega
            go_wp2_with (at_builtin; refine app_own rfl _ _ appInt rfl encI w.heap.size _ (chOfN q true xs kk) rfl own3 _ 1 1 [(kk : Int)] rfl (fun e => by cases e) src hlen1 hB3.size ?_; intro v' w9 own5 hg5; have hB5 := belowApp hB3 own3 hg5 (Nat.le_refl _) hB3.size)
            go_roundg (n - (kk + 1))
            case measure => omega
            case rel => exact ⟨kk + 1, by omega, by omega, by go_num, .inl (by simp), (show Aside _ from hB5), (show Aside _ from by rw [HT.out]; exact own5)⟩
    · have hltz : ¬ (kk : Int) < (n : Int) := by omega
      obtain rfl : n = kk := by omega
      have HR := Lib.hid (show chOfN q s xs n = chOf xs parts q s by
        rcases hvk with h | h
        · rw [HYes.out h, HL.out]
        · cases v
          · rw [HNo.out (by simp), h]; rfl
          · rw [HYes.out (by simp), HL.out])
      clear hvk h1
      generalize chOfN q s xs n = ll at own1 HR
      obtain ⟨A9, c9, rfl, hA9, hsl9, hfr9⟩ := own1.sl encI
      go_wp2
      go_ret
      exact ⟨⟨A9, _, c9, ll⟩, rfl, ⟨hsl9, fun g o e => (hfr9 g o e).1, hA9.1, hA9.2⟩, HR.out, BW.out⟩
end Go.Proofs.Ythellpcohdbbfaa
