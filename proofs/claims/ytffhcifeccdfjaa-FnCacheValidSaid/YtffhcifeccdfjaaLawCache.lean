/- FnCacheValid: the draw and the law. -/
import Derived.Test.YtffhcifeccdfjaaDCacheL
import Derived.Test.YtffhcifeccdfjaaAlive
namespace Go.Proofs.Ytffhcifeccdfjaa
set_option linter.unusedVariables false
set_option linter.unusedSimpArgs false
open Go.RowKit

theorem Own.cellJ {w : World} {base g n c T j : Nat} {xs : List Int} (h : Own w base T 1 eI (.slice (some ⟨g, 0, none⟩) n c) xs) (hj : j < n) : ∃ z : Int, w.cell? ⟨g, j, none⟩ = some (.int .i64 z) ∧ w.frozen? ⟨g, j, none⟩ = false ∧ n = xs.length := by
  have sl : Sl w 1 eI (some ⟨g, 0, none⟩) n c xs := (h.okv encI).sl
  obtain ⟨gx, ox, ex, z, hz, hcz⟩ := sl.nth hj (Below.refl _ _)
  injection ex with ex
  injection ex with ex1 ex2
  subst ex1 ex2
  have z0 := hcz 0 _ rfl
  simp only [Nat.mul_one, Nat.add_zero, Nat.zero_add] at z0
  refine ⟨z, z0, ?_, sl.len.symm⟩
  rcases h.2 with ⟨h1, _⟩ | ⟨g', cap, cur, h1, hb, hgg, _⟩
  · cases h1
  · injection h1 with h2
    injection h2 with h2
    injection h2 with h2 _
    subst h2
    exact Blk.frozen (t := T) (cs := cur) hgg j

set_option maxRecDepth 100000 in
set_option maxHeartbeats 1000000 in
theorem drawCacheValid_any (A : Option Addr) (n c : Nat) (zs : List Int) (w : World) (h : Code w A n c zs) :
    Calls Try.prog 19 #[.slice A n c] w (Post (fun s : SV Int => .agg #[s.v]) fun s w' => Own w' w.heap.size 3 1 eI s.v s.xs ∧ s.n ≤ 18 ∧ Below w.heap.size w w') := by
  obtain ⟨r, hr, hrw⟩ : ∃ r, w.heap.size + 1 = r ∧ w.heap.size < r := ⟨_, rfl, Nat.lt_succ_self _⟩
  have B1 := Blk.new w 40 #[.slice none 0 0]
  have hopen := open_at r A n c zs (w.alloc (.cells #[.slice none 0 0] 40)) (h.below ((Below.refl _ _).alloc (Nat.le_refl _) _)) (by simpa using hr)
  clear h
  go_enter Try.func19, Try.ntmps19
  go_wp2_with fail
  refine hopen.mono ?_
  rintro e w0 ⟨rfl, hrd, hb, hsz⟩
  clear hopen
  replace B1 := B1.below (hb.mono (by simp; omega))
  clear hr
  replace hb := ((Below.refl _ _).alloc (Nat.le_refl _) _).trans (hb.mono (Nat.le_of_lt hrw))
  have nB1 := Nat.ne_of_lt hrw
  replace hrw := Nat.le_of_lt hrw
  have hS := Stp.refl hrd
  have hr0 := hrd.lt
  clear hrd
  have hz0 := hb.size
  have hbel := hb
  go_wp2_with fail
  refine (l20Cache_any r 3 _ _ hS.rd (by omega) (by omega)).mono ?_
  rintro e w1 ⟨⟨A1, n1, c1, xs⟩, rfl, own1, hn1, hs⟩
  simp only [SV.v] at own1 hn1 ⊢
  replace B1 := Blk.stp hs B1 (by omega)
  have hz1 := hs.grown.size
  replace hS := hS.trans hs
  clear hs
  obtain ⟨A5, c5, hv5, -, -, -⟩ := own1.sl encI
  cases hv5
  have hr1 := hS.rd.lt
  have B4 := Blk.new w1 40 #[.slice A1 xs.length c1]
  replace own1 := own1.alloc (.cells #[.slice A1 xs.length c1] 40)
  replace B1 := B1.alloc (.cells #[.slice A1 xs.length c1] 40)
  replace hS := hS.alloc (.cells #[.slice A1 xs.length c1] 40)
  have c4 := B4.c0
  by_cases hlen : 1 < xs.length
  · have hlz : (1 : Int) < (xs.length : Int) := by omega
    go_wp2_with fail
    refine (odd_any _ 4 _ _ hS.rd (by omega) (by omega)).mono ?_
    rintro e w5 ⟨q, rfl, hs⟩
    replace B1 := Blk.stp hs B1 (by omega)
    replace B4 := Blk.stp hs B4 (by omega)
    replace own1 := own1.stp hs (by omega)
    replace hS := hS.trans hs
    clear hs c4
    have hBel := hS.belowT (a := w) (B := w.heap.size) hbel (by omega) hbel.size
    cases q
    · have e0 := B4.c0
      have e1 := B1.frozen
      have e2 := B1.c0
      have e5 := (B1.set_ 0 (.slice A1 xs.length c1)).c0
      go_wp2
      exact bodyPost_ret (v := .agg #[SV.v ⟨A1, xs.length, c1, xs⟩]) (by simp [results, Try.results19, go_sem, SV.v, e5]) rfl ⟨⟨A1, xs.length, c1, xs⟩, rfl, (own1.far (p := ⟨w.heap.size, 0, none⟩) (by simp only []; omega) _).low (by omega), (by simp only []; omega), hBel.setCell (p := ⟨w.heap.size, 0, none⟩) (Nat.le_refl _) _⟩
    · obtain ⟨gl, cl, hv7, hgl0, hgl1, hlc, hcm⟩ := own1.form (by omega)
      cases hv7
      obtain ⟨z, z0, zf, -⟩ := own1.cellJ hlen
      have hgg : w1.heap.size ≠ gl := by
        have h1 := own1.neBlk B4 (by decide)
        intro e
        exact h1 (by rw [e]; rfl)
      have own8 := own1.setI 1 2
      have B1y := B1.far (p := ⟨gl, 1, none⟩) (by simp only []; omega) (.int .i64 2)
      have B4y := B4.far (p := ⟨gl, 1, none⟩) hgg (.int .i64 2)
      have hBel8 := hBel.setCell (p := ⟨gl, 1, none⟩) (by simp only []; omega) (.int .i64 2)
      have c4 := B4.c0
      clear own1 hS
      have e0 := B4y.c0
      have e1 := B1y.frozen
      have e2 := B1y.c0
      have e5 := (B1y.set_ 0 (.slice (some ⟨gl, 0, none⟩) xs.length c1)).c0
      go_wp2
      exact bodyPost_ret (v := .agg #[SV.v ⟨(some ⟨gl, 0, none⟩), xs.length, c1, (xs.set 1 2)⟩]) (by simp [results, Try.results19, go_sem, SV.v, e5]) rfl ⟨⟨(some ⟨gl, 0, none⟩), xs.length, c1, (xs.set 1 2)⟩, rfl, (own8.far (p := ⟨w.heap.size, 0, none⟩) (by simp only []; omega) _).low (by omega), (by simp only []; omega), hBel8.setCell (p := ⟨w.heap.size, 0, none⟩) (Nat.le_refl _) _⟩
  · have hlz : ¬ (1 : Int) < (xs.length : Int) := by omega
    have hBel := hS.belowT (a := w) (B := w.heap.size) hbel (by omega) hbel.size
    clear c4
    have e0 := B4.c0
    have e1 := B1.frozen
    have e2 := B1.c0
    have e5 := (B1.set_ 0 (.slice A1 xs.length c1)).c0
    go_wp2
    exact bodyPost_ret (v := .agg #[SV.v ⟨A1, xs.length, c1, xs⟩]) (by simp [results, Try.results19, go_sem, SV.v, e5]) rfl ⟨⟨A1, xs.length, c1, xs⟩, rfl, (own1.far (p := ⟨w.heap.size, 0, none⟩) (by simp only []; omega) _).low (by omega), (by simp only []; omega), hBel.setCell (p := ⟨w.heap.size, 0, none⟩) (Nat.le_refl _) _⟩

theorem lined_next : ∀ n : Nat, n < 17 → 1 ≤ n → linedN n = true → n ≠ 1 → linedN (n + 1) = false := by decide
theorem cacheOk_more {xs : List Int} (h : cacheOk xs = true) (h1 : xs.length ≠ 1) : cacheOk (xs ++ [-1]) = false := by
  have hl := (cacheOk_all h).2
  have hr := linedN_range hl
  have hn := lined_next xs.length (by omega) (by omega) hl h1
  cases hc : cacheOk (xs ++ [-1]) with
  | false => rfl
  | true =>
    have h2 := (cacheOk_all hc).2
    rw [List.length_append, List.length_singleton, hn] at h2
    cases h2

set_option maxRecDepth 100000 in
set_option maxHeartbeats 1000000 in
theorem lawCacheValid (A : Option Addr) (n c : Nat) (zs : List Int) (w : World) (h : Code w A n c zs) :
    Calls Try.prog 5 #[.slice A n c] w fun e w' => .returned (.bool true) = e ∧ Below w.heap.size w w' := by
  have hle := h.le
  have hmax := h.max
  by_cases hn : n ≤ 1048576
  · have hdraw := drawCacheValid_any A n c zs w h
    clear h
    go_enter Try.func5, Try.ntmps5
    go_wp2_with fail
    refine hdraw.mono ?_
    rintro e w1 ⟨⟨A1, n1, c1, xs⟩, rfl, own1, hn1, hb⟩
    clear hdraw
    simp only [SV.v] at own1 hn1 ⊢
    obtain ⟨A5, c5, hv5, -, -, -⟩ := own1.sl encI
    cases hv5
    have hsl : Sl w1 1 eI A1 xs.length c1 xs := (own1.okv encI).sl
    have hnil : A1 = none → c1 = 0 := (own1.okv encI).nil
    clear own1
    have hle1 := hsl.le
    have hmax1 := hsl.max
    have hI := fun W h => cacheValid_any A1 xs.length c1 xs W h
    have hS := fun W h => specCacheValid_any A1 xs.length c1 xs W h
    have hM := cacheOk_more (xs := xs)
    generalize cacheOk xs = v at *
    skip
    have B1 := Blk.new w1 40 #[.slice A1 xs.length c1]
    have hsl1 := hsl.below ((Below.refl _ _).alloc (Nat.le_refl _) (.cells #[.slice A1 xs.length c1] 40))
    have cB1_0 := B1.c0; have fB1 := B1.frozen
    go_wp2_with fail; refine (hI _ hsl1).mono ?_; rintro e w2 ⟨rfl, hbw2⟩; replace B1 := Blk.belowOf B1 hbw2 (by repeat (first | exact B1 | apply Blk.alloc | apply Blk.drew | (apply Blk.far; rotate_left; (first | assumption | exact Ne.symm (by assumption))) | apply Blk.set_))
    have hsl2 := hsl1.below hbw2
    clear cB1_0 fB1
    have cB1_0 := B1.c0; have fB1 := B1.frozen
    go_wp2_with fail; refine (hS _ hsl2).mono ?_; rintro e w3 ⟨rfl, hbw3⟩; replace B1 := Blk.belowOf B1 hbw3 (by repeat (first | exact B1 | apply Blk.alloc | apply Blk.drew | (apply Blk.far; rotate_left; (first | assumption | exact Ne.symm (by assumption))) | apply Blk.set_))
    have hB3 : Below w.heap.size w w3 := (by repeat (first | exact Below.refl _ _ | assumption | apply alo | (apply Below.setCell; rotate_left; (first | assumption | exact Nat.le_refl _ | (simp only []; omega))) | apply Below.drew | apply belowDrewN | (refine thn ?_ (by assumption))))
    have hsl3 := hsl2.below hbw3
    clear hI hS hsl hsl1 hsl2 hb hbw2 hbw3
    cases v
    · clear hM
      go_wp2_with fail; refine (alive_any _).mono ?_; rintro e w9 ⟨rfl, hbw9⟩; replace B1 := Blk.belowOf B1 hbw9 (by repeat (first | exact B1 | apply Blk.alloc | apply Blk.drew | (apply Blk.far; rotate_left; (first | assumption | exact Ne.symm (by assumption))) | apply Blk.set_))
      go_wp2
      go_ret
      exact ⟨rfl, (by repeat (first | exact Below.refl _ _ | assumption | apply alo | (apply Below.setCell; rotate_left; (first | assumption | exact Nat.le_refl _ | (simp only []; omega))) | apply Below.drew | apply belowDrewN | (refine thn ?_ (by assumption))))⟩
    · replace hM := Lib.hid (hM rfl)
      have own0 : Own (w3.alloc (.cells #[] 3)) w3.heap.size 3 1 eI (.slice (some ⟨w3.heap.size, 0, none⟩) 0 0) ([] : List Int) := Own.of_blk (Blk.new w3 3 #[]) (Nat.le_refl _) encI (by simp [maxLen])
      have src := hsl3.below (alo (Below.refl w3.heap.size w3) (.cells #[] 3))
      have B1a := B1.alloc (.cells #[] 3)
      have y0 := B1a.c0
      by_cases hx1 : xs.length = 1
      · have hz1 : ((xs.length : Int) == 1) = true := by rw [hx1]; rfl
        clear hM hx1
        go_wp2_with (first | (at_builtin; (refine app_own rfl _ _ appInt rfl encI w3.heap.size _ [] rfl own0 _ _ _ xs rfl hnil src (by simp; omega) (by simp) ?_); intro v5 w5 own5 hg5; have hb35 := belowApp (alo (Below.refl w3.heap.size w3) (.cells #[] 3)) own0 hg5 (Nat.le_refl _) (by simp); simp only [List.nil_append] at own5; obtain ⟨A6, c6, hv6, -, -, -⟩ := own5.sl encI; subst hv6; have own6 := own5.alloc (.cells #[.int .i64 (-1)] 3); have src2 := Sl.of_blk (xs := [(-1 : Int)]) (Blk.new w5 3 #[.int .i64 (-1)]) encI (by simp); have hb36 := alo hb35 (.cells #[.int .i64 (-1)] 3); have hz5 := hg5.size; clear own5 hg5 own0 src y0 B1a) | (at_builtin; (refine app_own rfl _ _ appInt rfl encI w3.heap.size _ xs rfl own6 _ 1 1 [(-1 : Int)] rfl (fun e => by cases e) src2 (by omega) hb36.size ?_); intro v7 w7 own7 hg7; have hb37 := belowApp hb36 own6 hg7 (Nat.le_refl _) hb36.size; obtain ⟨A7, c7, hv7, -, -, -⟩ := own7.sl encI; rw [show (xs ++ [(-1 : Int)]).length = xs.length + 1 from by simp] at hv7; subst hv7; have B1c := (B1.below hb37).alloc (.cells #[.slice A7 (xs.length + 1) c7] 40); have B5 := Blk.new w7 40 #[.slice A7 (xs.length + 1) c7]; have y1 := B1c.c0; have y2 := B5.c0; have hb38 := alo hb37 (.cells #[.slice A7 (xs.length + 1) c7] 40); have own8 := own7.alloc (.cells #[.slice A7 (xs.length + 1) c7] 40); have hJ := cacheValid_any A7 (xs.length + 1) c7 (xs ++ [-1]) _ (own8.okv encI).sl; clear own6 own7 hg7 src2))
        have hK := cacheValid_any (some ⟨w7.heap.size + 1, 0, none⟩) 2 2 [1, -1] ((w7.alloc (.cells #[.slice A7 (xs.length + 1) c7] 40)).alloc (.cells #[.int .i64 1, .int .i64 (-1)] 3)) (Sl.of_blk (xs := [(1 : Int), -1]) (Blk.new2 w7 (.cells #[.slice A7 (xs.length + 1) c7] 40) 3 #[.int .i64 1, .int .i64 (-1)]) encI (by simp))
        rw [show cacheOk [1, -1] = false from by decide] at hK
        have hb40 := alo hb38 (.cells #[.int .i64 1, .int .i64 (-1)] 3)
        clear hJ
        refine hK.mono ?_
        rintro e w9 ⟨rfl, hbw9⟩
        go_wp2
        go_ret
        exact ⟨rfl, (hB3.trans (hb40.mono hB3.size)).trans (hbw9.mono (Nat.le_trans hB3.size hb40.size))⟩
      · have hM := hM.out hx1
        have hz1 : ¬ (xs.length : Int) = 1 := by omega
        go_wp2_with (first | (at_builtin; (refine app_own rfl _ _ appInt rfl encI w3.heap.size _ [] rfl own0 _ _ _ xs rfl hnil src (by simp; omega) (by simp) ?_); intro v5 w5 own5 hg5; have hb35 := belowApp (alo (Below.refl w3.heap.size w3) (.cells #[] 3)) own0 hg5 (Nat.le_refl _) (by simp); simp only [List.nil_append] at own5; obtain ⟨A6, c6, hv6, -, -, -⟩ := own5.sl encI; subst hv6; have own6 := own5.alloc (.cells #[.int .i64 (-1)] 3); have src2 := Sl.of_blk (xs := [(-1 : Int)]) (Blk.new w5 3 #[.int .i64 (-1)]) encI (by simp); have hb36 := alo hb35 (.cells #[.int .i64 (-1)] 3); have hz5 := hg5.size; clear own5 hg5 own0 src y0 B1a) | (at_builtin; (refine app_own rfl _ _ appInt rfl encI w3.heap.size _ xs rfl own6 _ 1 1 [(-1 : Int)] rfl (fun e => by cases e) src2 (by omega) hb36.size ?_); intro v7 w7 own7 hg7; have hb37 := belowApp hb36 own6 hg7 (Nat.le_refl _) hb36.size; obtain ⟨A7, c7, hv7, -, -, -⟩ := own7.sl encI; rw [show (xs ++ [(-1 : Int)]).length = xs.length + 1 from by simp] at hv7; subst hv7; have B1c := (B1.below hb37).alloc (.cells #[.slice A7 (xs.length + 1) c7] 40); have B5 := Blk.new w7 40 #[.slice A7 (xs.length + 1) c7]; have y1 := B1c.c0; have y2 := B5.c0; have hb38 := alo hb37 (.cells #[.slice A7 (xs.length + 1) c7] 40); have own8 := own7.alloc (.cells #[.slice A7 (xs.length + 1) c7] 40); have hJ := cacheValid_any A7 (xs.length + 1) c7 (xs ++ [-1]) _ (own8.okv encI).sl; clear own6 own7 hg7 src2))
        refine hJ.mono ?_
        rintro e w8 ⟨rfl, hbw8⟩
        rw [hM]
        have hb39 := thn hb38 hbw8
        have hK := cacheValid_any (some ⟨w8.heap.size, 0, none⟩) 2 2 [1, -1] (w8.alloc (.cells #[.int .i64 1, .int .i64 (-1)] 3)) (Sl.of_blk (xs := [(1 : Int), -1]) (Blk.new w8 3 #[.int .i64 1, .int .i64 (-1)]) encI (by simp))
        rw [show cacheOk [1, -1] = false from by decide] at hK
        have hb40 := alo hb39 (.cells #[.int .i64 1, .int .i64 (-1)] 3)
        clear hJ
        go_wp2_with fail
        refine hK.mono ?_
        rintro e w9 ⟨rfl, hbw9⟩
        go_wp2
        go_ret
        exact ⟨rfl, (hB3.trans (hb40.mono hB3.size)).trans (hbw9.mono (Nat.le_trans hB3.size hb40.size))⟩
  · clear h
    go_enter Try.func5, Try.ntmps5
    go_wp2
    go_ret
    exact ⟨rfl, Below.refl _ _⟩
end Go.Proofs.Ytffhcifeccdfjaa
