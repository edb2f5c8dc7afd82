/- The draw of caches. -/
import Derived.Test.YtffhcifeccdfjaaCacheV
import Derived.Test.YtffhcifeccdfjaaHold
import Derived.Test.YtffhcifeccdfjaaOwnX
import Derived.Test.YtffhcifeccdfjaaRelG
import Derived.Test.YtffhcifeccdfjaaDWin
namespace Go.Proofs.Ytffhcifeccdfjaa
set_option linter.unusedVariables false
set_option linter.unusedSimpArgs false
open Go.RowKit

theorem ownCache_any (A : Option Addr) (n c : Nat) (xs : List Int) (hn : n ≤ 2000000) (hnil : A = none → c = 0) (w : World) (hs : Sl w 1 eI A n c xs) :
    Calls Try.prog 101 #[.agg #[.slice A n c]] w (Post (fun s : SV Int => .agg #[s.v]) fun s w' => Own w' w.heap.size 3 1 eI s.v s.xs ∧ s.xs = xs ∧ Below w.heap.size w w') := by
  have hB1 := alo (alo (alo (alo (Below.refl w.heap.size w) (.cells #[.slice A n c] 40)) (.cells #[.slice none 0 0] 40)) (.cells #[.slice A n c] 40)) (.cells #[] 3)
  have B1 := (((Blk.new w 40 #[.slice A n c]).alloc (.cells #[.slice none 0 0] 40)).alloc (.cells #[.slice A n c] 40)).alloc (.cells #[] 3)
  have B2 := ((Blk.new2 w (.cells #[.slice A n c] 40) 40 #[.slice none 0 0]).alloc (.cells #[.slice A n c] 40)).alloc (.cells #[] 3)
  have B3 : Blk ((((w.alloc (.cells #[.slice A n c] 40)).alloc (.cells #[.slice none 0 0] 40)).alloc (.cells #[.slice A n c] 40)).alloc (.cells #[] 3)) (w.heap.size + 1 + 1) 40 #[.slice A n c] := by
    have := (Blk.new2 (w.alloc (.cells #[.slice A n c] 40)) (.cells #[.slice none 0 0] 40) 40 #[.slice A n c]).alloc (.cells #[] 3)
    simpa using this
  have own0 : Own ((((w.alloc (.cells #[.slice A n c] 40)).alloc (.cells #[.slice none 0 0] 40)).alloc (.cells #[.slice A n c] 40)).alloc (.cells #[] 3)) (w.heap.size + 3) 3 1 eI (.slice (some ⟨w.heap.size + 1 + 1 + 1, 0, none⟩) 0 0) ([] : List Int) := by
    have h := Own.of_blk (base := w.heap.size + 3) (xs := ([] : List Int)) (enc := eI) (Blk.new (((w.alloc (.cells #[.slice A n c] 40)).alloc (.cells #[.slice none 0 0] 40)).alloc (.cells #[.slice A n c] 40)) 3 #[]) (by simp) encI (by simp [maxLen])
    simpa using h
  have src := hs.below hB1
  skip
  skip
  have cB1_0 := B1.c0; have fB1 := B1.frozen; have cB2_0 := B2.c0; have fB2 := B2.frozen; have cB3_0 := B3.c0; have fB3 := B3.frozen
  go_enter Try.func101, Try.ntmps101
  go_wp2_with (at_builtin; refine app_own rfl _ _ appInt rfl encI (w.heap.size + 3) _ [] rfl own0 _ _ _ xs rfl hnil src (by simp; omega) (by simp) ?_; intro v5 w5 own5 hg5; have hB5 := belowApp hB1 own0 hg5 (by omega) hB1.size; have B1a := B1.app own0 hg5 (by omega); have B2a := B2.app own0 hg5 (by omega); have B3a := B3.app own0 hg5 (by omega); clear hg5 own0 hB1 src B1 B2 B3; simp only [List.nil_append] at own5; have e1 := B1a.c0; have e2 := B2a.c0; have e3 := B3a.c0; have e4 := B2a.frozen; have e5 := B3a.frozen; obtain ⟨A9, c9, rfl, hA9, hsl9, hfr9⟩ := own5.sl encI)
  go_wp2
  exact bodyPost_ret (v := .agg #[SV.v ⟨A9, xs.length, c9, xs⟩]) (by simp [results, Try.results101, go_sem, SV.v, e2, e3]) rfl ⟨⟨A9, xs.length, c9, xs⟩, rfl, ((own5.far (p := ⟨w.heap.size + 1 + 1, 0, none⟩) (by simp only []; omega) _).far (p := ⟨w.heap.size + 1, 0, none⟩) (by simp only []; omega) _).low (by omega), rfl, (hB5.setCell (p := ⟨w.heap.size + 1 + 1, 0, none⟩) (by simp only []; omega) _).setCell (p := ⟨w.heap.size + 1, 0, none⟩) (by simp only []; omega) _⟩
theorem cacheOk_repl {n : Nat} (h : linedN n = true) : cacheOk (List.replicate n (-1)) = true := by
  rw [cache_good (n := n) (by simp), h]
  intro j y hj hx
  rw [List.getElem?_replicate, if_pos hj] at hx
  injection hx with hx
  rw [← hx]
  rfl
theorem repl_add (n : Nat) : List.replicate n (-1 : Int) ++ [-1] = List.replicate (n + 1) (-1) := by rw [List.replicate_succ']
set_option maxHeartbeats 1000000 in
theorem emptyCache_any (n : Nat) (hn : linedN n = true) (w : World) :
    Calls Try.prog 85 #[.int .i64 n] w (Post (fun s : SV Int => .agg #[s.v]) fun s w' => Own w' w.heap.size 3 1 eI s.v s.xs ∧ cacheOk s.xs = true ∧ Below w.heap.size w w') := by
  have hr := linedN_range hn
  have hok := Lib.hid (cacheOk_repl hn)
  have hb0 := alo (alo (Below.refl w.heap.size w) (.cells #[.slice none 0 0] 40)) (.cells #[.slice none 0 0] 40)
  have B1 := (Blk.new w 40 #[.slice none 0 0]).alloc (.cells #[.slice none 0 0] 40)
  have B2 := Blk.new2 w (.cells #[.slice none 0 0] 40) 40 #[.slice none 0 0]
  have hmin : min (n : Int) 17 = n := by omega
  clear hn
  skip
  skip
  have cB1_0 := B1.c0; have fB1 := B1.frozen; have cB2_0 := B2.c0; have fB2 := B2.frozen
  go_enter Try.func85, Try.ntmps85
  go_wp2
  have own0 : Own ((w.alloc (.cells #[.slice none 0 0] 40)).alloc (.cells #[.slice none 0 0] 40)) (w.heap.size + 1 + 1) 3 1 eI (.slice none 0 0) ([] : List Int) := Own.nil
  go_loopg [4] n (fun gg s4 wr => ∃ (kk : Nat) (v : Value) (l : List Int), kk ≤ n ∧ n - kk ≤ gg ∧ s4 = .int .i64 kk ∧ l.length = kk ∧ Aside (l = List.replicate kk (-1)) ∧ Aside (Below w.heap.size w wr) ∧ Aside (Blk wr w.heap.size 40 #[.slice none 0 0]) ∧ Aside (Blk wr (w.heap.size + 1) 40 #[v]) ∧ Aside (Own wr (w.heap.size + 1 + 1) 3 1 eI v l) ∧ Aside (w.heap.size + 1 + 1 ≤ wr.heap.size))
  case atStart => exact ⟨0, _, [], Nat.zero_le _, by omega, rfl, rfl, (show Aside _ from rfl), (show Aside _ from hb0), (show Aside _ from B1), (show Aside _ from B2), (show Aside _ from own0), (show Aside _ from (by simp : _ ≤ ((w.alloc (.cells #[.slice none 0 0] 40)).alloc (.cells #[.slice none 0 0] 40)).heap.size))⟩
  case round =>
    obtain ⟨kk, v, l, hkk, hg, rfl, hl, LL, BW, BA, BB, OW, SZ⟩ := hrel
    clear own0 B1 B2 hb0 cB1_0 cB2_0 fB1 fB2
    have B1 := BA.out
    have B2 := BB.out
    have hsz := SZ.out
    by_cases hlt : kk < n
    · have hltz : (kk : Int) < (n : Int) := by omega
      have B1a := B1.alloc (.cells #[.int .i64 (-1)] 3)
      have B2a := B2.alloc (.cells #[.int .i64 (-1)] 3)
      have own1 := OW.out.alloc (.cells #[.int .i64 (-1)] 3)
      have hb1 := alo BW.out (.cells #[.int .i64 (-1)] 3)
      have src := Sl.of_blk (xs := [(-1 : Int)]) (Blk.new wr 3 #[.int .i64 (-1)]) encI (by simp)
      have hz1 : w.heap.size + 1 + 1 ≤ (wr.alloc (.cells #[.int .i64 (-1)] 3)).heap.size := by simp; omega
      have y0 := B2a.c0
      have y1 := B2a.frozen
      have y2 := B2.c0
      have y3 := B2.frozen
      clear BA BB BW OW SZ B1 B2
      go_wp2_with (at_builtin; (refine app_own rfl _ _ appInt rfl encI (w.heap.size + 1 + 1) v l rfl own1 _ 1 1 [(-1 : Int)] rfl (fun e => by cases e) src (by omega) hz1 ?_); intro v5 w5 own5 hg5; have B1b := B1a.app own1 hg5 (by omega); have B2b := B2a.app own1 hg5 (by omega); have hb5 := belowApp hb1 own1 hg5 (by omega) (by omega); have hz5 := hg5.size; have e1 := B2b.c0; have e2 := B2b.frozen; clear hg5 own1 B1a B2a hb1 src y0 y1 y2 y3; obtain ⟨A5, c5, hv5, -, -, -⟩ := own5.sl encI; rw [List.length_append, List.length_singleton, hl] at hv5; subst hv5)
      have hll : l ++ [(-1 : Int)] = List.replicate (kk + 1) (-1) := by rw [LL.out, repl_add]
      have hlz : (l ++ [(-1 : Int)]).length = kk + 1 := by rw [List.length_append, List.length_singleton, hl]
      have hz6 : w.heap.size + 1 + 1 ≤ (w5.setCell ⟨w.heap.size + 1, 0, none⟩ (.slice A5 (kk + 1) c5)).heap.size := by simp [World.setCell]; omega
      go_roundg (n - (kk + 1))
      case measure => omega
      case rel => exact ⟨kk + 1, _, _, by omega, by omega, by go_num, hlz, (show Aside _ from hll), (show Aside _ from hb5.setCell (p := ⟨w.heap.size + 1, 0, none⟩) (by simp only []; omega) _), (show Aside _ from B1b.far (by simp only []; omega) _), (show Aside _ from B2b.set_ 0 _), (show Aside _ from own5.far (by simp only []; omega) _), (show Aside _ from hz6)⟩
    · have hltz : ¬ (kk : Int) < (n : Int) := by omega
      obtain rfl : kk = n := by omega
      obtain ⟨A5, c5, hv5, -, sl5, -⟩ := OW.out.sl encI
      rw [hl] at hv5 sl5
      subst hv5
      have hv := fun W h => specCacheValid_any A5 kk c5 l W (sl5.below h)
      have hkl := Lib.hid (show cacheOk l = true by rw [LL.out]; exact hok.out)
      rw [hkl.out] at hv
      have own1 := OW.out
      have hb1 := BW.out
      have e1 := B2.c0
      clear BA BB BW OW SZ sl5
      go_wp2_with fail
      refine (hv _ (Below.refl _ _)).mono ?_
      rintro e w5 ⟨rfl, hb5⟩
      replace B1 := B1.below hb5
      replace B2 := B2.below hb5
      replace own1 := own1.below hb5
      replace hb1 := thn hb1 hb5
      have e1 := B2.c0
      have e2 := B2.frozen
      have e3 := B1.c0
      have e4 := B1.frozen
      have B3 := B1.set_ 0 (.slice A5 kk c5)
      have e5 := B3.c0
      go_wp2
      exact bodyPost_ret (v := .agg #[SV.v ⟨A5, kk, c5, l⟩]) (by simp [results, Try.results85, go_sem, SV.v, e5]) rfl ⟨⟨A5, kk, c5, l⟩, rfl, (own1.far (p := ⟨w.heap.size, 0, none⟩) (by simp only []; omega) _).low (by omega), hkl.out, hb1.setCell (p := ⟨w.heap.size, 0, none⟩) (Nat.le_refl _) _⟩
end Go.Proofs.Ytffhcifeccdfjaa
