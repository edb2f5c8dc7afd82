/- The draw of partitions. -/
import Derived.Test.YtmlodhogfejdjaaDWin
import Derived.Test.YtmlodhogfejdjaaPartT
import Derived.Test.YtmlodhogfejdjaaOwnX
import Derived.Test.YtmlodhogfejdjaaAppT
namespace Go.Proofs.Ytmlodhogfejdjaa
set_option linter.unusedVariables false
set_option linter.unusedSimpArgs false
open Go.RowKit

theorem appPart : AppT Try.prog 52 56 2 32 := AppT.mk' (z := .agg #[.slice none 0 0, .int .i64 0]) (by kernel_rfl) (by kernel_rfl) rfl (by decide) (by decide)
/-- The windows of all partitions of a list lie in the call's own memory. -/
def PtOwn (w : World) (base : Nat) (xs : List PartV) : Prop := ∀ x ∈ xs, Own w base 35 3 Win.cells x.1.v x.1.xs
section
variable {w w' : World} {base : Nat} {xs : List PartV}
theorem PtOwn.stp {r T : Nat} {b : Int} (h : PtOwn w base xs) (hs : Stp r T w b w') (hr : r < base) : PtOwn w' base xs := fun x hx => (h x hx).stp hs hr
theorem PtOwn.alloc (h : PtOwn w base xs) (o : Obj) : PtOwn (w.alloc o) base xs := fun x hx => (h x hx).alloc o
theorem PtOwn.app {base' k : Nat} {enc : PartV → List Value} {v : Value} {ys : List PartV} (h : PtOwn w base xs) (hown : Own w base' 56 k enc v ys) (hg : w.grownBy w' v.ownBlock) : PtOwn w' base xs :=
  fun x hx => (h x hx).kept hg (Own.ne2 (h x hx) hown (by decide))
theorem PtOwn.far {g i : Nat} {cs : Array Value} (h : PtOwn w base xs) (hB : Blk w g 56 cs) (u : Value) : PtOwn (w.setCell ⟨g, i, none⟩ u) base xs :=
  fun x hx => (h x hx).farNe (p := ⟨g, i, none⟩) ((h x hx).neBlk hB (by decide)) u
theorem PtOwn.add (h : PtOwn w base xs) {y : PartV} (hy : Own w base 35 3 Win.cells y.1.v y.1.xs) : PtOwn w base (xs ++ [y]) := fun x hx => (List.mem_append.1 hx).elim (h x) (fun h9 => by rw [List.mem_singleton.1 h9]; exact hy)
theorem PtOwn.ok (h : PtOwn w base xs) : PtOk w xs := fun x hx => (Own.okv encW (n := x.1.n) (c := x.1.c) (A := x.1.A) (h x hx)).sl
end
/-- A store into the first partition of a list of the call's own. -/
theorem Own.blkOf {α : Type} {w : World} {base E k g n c : Nat} {enc : α → List Value} {xs : List α} (h : Own w base E k enc (.slice (some ⟨g, 0, none⟩) n c) xs) : ∃ cs, Blk w g E cs := by
  rcases h.2 with ⟨h1, _⟩ | ⟨g', cap, cur, h1, hb, hg, _⟩
  · cases h1
  · injection h1 with h2
    injection h2 with h2
    injection h2 with h2 _
    subst h2
    exact ⟨cur, hg⟩
theorem Own.storedP {w : World} {base g n c : Nat} {x y : PartV} {t : List PartV} (h : Own w base 56 2 eP (.slice (some ⟨g, 0, none⟩) n c) (x :: t)) (j : Nat) (u : Value) (he : (eP x).set j u = eP y) (hj : j < 2) :
    Own (w.setCell ⟨g, j, none⟩ u) base 56 2 eP (.slice (some ⟨g, 0, none⟩) n c) (y :: t) := by
  have hn : n = (x :: t).length := by
    rcases h.2 with ⟨h1, _⟩ | ⟨g', cap, cur, h1, _⟩
    · cases h1
    · injection h1 with _ h2 _
  subst hn
  have := (World.ownsRow.stored h j u).1
  unfold Own
  simp only [List.flatMap_cons, List.length_cons] at this ⊢
  rw [List.set_append_left _ _ (by rw [encP.len]; exact hj), he] at this
  exact this
set_option maxRecDepth 100000 in
set_option maxHeartbeats 2000000 in
theorem l20Parts_any (r : Nat) (k b : Int) (w : World) (h : Rd w r 97 b) (hb : b ≤ 999900000) (hk : -1000 ≤ k) :
    Calls Try.prog 68 #[.pointer (some ⟨r, 0, none⟩), .int .i64 k] w (Post SV.v fun s w' => Own w' w.heap.size 56 2 eP s.v s.xs ∧ PtOwn w' w.heap.size s.xs ∧ (1 ≤ s.n ∧ s.n ≤ 10) ∧ Stp r 97 w (b + 2000) w') := by
  have hS := Stp.refl h
  have hr0 := h.lt
  clear h
  skip
  have own0 : Own (w.alloc (.cells #[] 56)) w.heap.size 56 2 eP _ ([] : List PartV) := Own.of_blk (Blk.new w 56 #[]) (Nat.le_refl _) encP (by simp [maxLen])
  skip
  go_enter Try.func68, Try.ntmps68
  go_wp2_with fail; refine (pick_any _ (4) _ _ (by repeat (first | exact hS.rd | apply Rd.drew | apply Rd.alloc | (apply Rd.setCell; rotate_left; assumption))) (by omega) (by omega)).mono ?_; rintro e w0 ⟨v0, rfl, hv00, hv01, hs⟩; replace own0 := Own.stpOf own0 hs (by repeat (first | exact own0 | apply Own.alloc | apply Own.drew)) (by assumption); replace hS := Stp.trans (by repeat (first | exact hS | apply Stp.drew | apply Stp.alloc | (apply Stp.set; assumption; assumption))) hs; clear hs
  go_wp2
  go_loopg [5, 6] 20 (fun gg s5 s6 wr => ∃ (kk : Int) (l : List PartV), 0 ≤ kk ∧ kk ≤ gg ∧ gg ≤ 20 ∧ s6 = .int .i64 kk ∧ l.length + kk ≤ 4 ∧ 1 ≤ l.length + kk ∧ Aside (Own wr w.heap.size 56 2 eP s5 l) ∧ Aside (PtOwn wr w.heap.size l) ∧ Aside (Stp r 97 w (b + 1 + 101 * l.length) wr))
  case atStart => exact ⟨1 + v0, [], by omega, by omega, by omega, rfl, by simp; omega, by simp; omega, own0, (show Aside _ from fun y hy => by cases hy), hS.le (by simp)⟩
  case round =>
    obtain ⟨kk, l, hk0, hk1, hg, rfl, hl, hl2, OW, BB, SS⟩ := hrel
    clear hS own0
    have hS := SS.out
    have own1 := OW.out
    have pt1 := BB.out
    clear SS OW BB
    by_cases hlt : 0 < kk
    · go_wp2_with fail
      refine (l20WindowsO_any r 2 0 _ _ hS.rd (by omega) (by omega)).mono ?_
      rintro e w1 ⟨⟨A1, n1, c1, x1⟩, rfl, ownW, hn1, -, hs⟩
      simp only [SV.v] at ownW hn1 ⊢
      replace ownW := ownW.low hS.grown.size
      replace own1 := own1.stp hs hr0
      replace pt1 := pt1.stp hs hr0
      replace hS := hS.trans hs
      clear hs
      go_wp2_with fail
      refine (pick_any _ 4 _ _ hS.rd (by omega) (by omega)).mono ?_
      rintro e w2 ⟨v2, rfl, hv20, hv21, hs⟩
      replace ownW := ownW.stp hs hr0
      replace own1 := own1.stp hs hr0
      replace pt1 := pt1.stp hs hr0
      replace hS := hS.trans hs
      clear hs
      have src := Sl.of_blk (xs := [((⟨A1, n1, c1, x1⟩, 1 + v2) : PartV)]) (Blk.new w2 56 #[.slice A1 n1 c1, .int .i64 (1 + v2)]) encP (by simp)
      have own2 := own1.alloc (.cells #[.slice A1 n1 c1, .int .i64 (1 + v2)] 56)
      have hS2 := hS.alloc (.cells #[.slice A1 n1 c1, .int .i64 (1 + v2)] 56)
      have pt2 := pt1.alloc (.cells #[.slice A1 n1 c1, .int .i64 (1 + v2)] 56)
      have ownW2 := ownW.alloc (.cells #[.slice A1 n1 c1, .int .i64 (1 + v2)] 56)
      go_wp2_with (at_builtin; (refine app_own rfl _ _ appPart rfl encP w.heap.size _ l rfl own2 _ 1 1 _ rfl (fun e => by cases e) src (by omega) hS2.grown.size ?_); intro v' w5 own5 hg5; have hS5 := hS2.app own2 hg5 (Nat.le_refl _) hr0; have pt5 := pt2.app own2 hg5; have ownW5 := ownW2.kept hg5 (Own.ne2 ownW2 own2 (by decide)))
      go_roundg (gk - 1)
      case measure => omega
      case rel => exact ⟨kk - 1, _, by omega, by omega, by omega, by go_num, by simp; omega, by simp; omega, own5, (show Aside _ from pt5.add ownW5), hS5.le (by simp; omega)⟩
    · obtain rfl : kk = 0 := by omega
      clear hlt
      obtain ⟨g, c, rfl, hgw, hgl, hlc, hcm⟩ := own1.form (by omega)
      obtain ⟨x, t, rfl⟩ : ∃ x t, l = x :: t := by
        cases l with
        | nil => simp at hl2
        | cons x t => exact ⟨x, t, rfl⟩
      go_wp2_with fail
      refine (odd_any _ k _ _ hS.rd (by omega) (by omega)).mono ?_
      rintro e w1 ⟨q, rfl, hs⟩
      replace own1 := own1.stp hs hr0
      replace pt1 := pt1.stp hs hr0
      replace hS := hS.trans hs
      clear hs
      cases q
      · go_wp2
        go_ret
        exact ⟨⟨_, _, c, x :: t⟩, rfl, own1, pt1, ⟨by simp, by simp at hl ⊢; omega⟩, hS.le (by simp at hl ⊢; omega)⟩
      · go_wp2_with fail
        refine (pick_any _ 3 _ _ hS.rd (by omega) (by omega)).mono ?_
        rintro e w2 ⟨v2, rfl, hv20, hv21, hs⟩
        replace own1 := own1.stp hs hr0
        replace pt1 := pt1.stp hs hr0
        replace hS := hS.trans hs
        clear hs
        by_cases hv0 : v2 = 0
        · have hvb : (v2 == (0 : Int)) = true := by rw [beq_iff_eq]; exact hv0
          have hlt5 := hl
          simp only [List.length_cons] at hlt5
          have B39 := Blk.new w2 3 #[.int .i64 0, .int .i64 9]
          have own1a := own1.alloc (.cells #[.int .i64 0, .int .i64 9] 3)
          have pt1a := pt1.alloc (.cells #[.int .i64 0, .int .i64 9] 3)
          have hSa := hS.alloc (.cells #[.int .i64 0, .int .i64 9] 3)
          have hrw2 := hS.rd.lt
          go_wp2_with fail
          refine (pick_any _ 2 _ _ hSa.rd (by omega) (by omega)).mono ?_
          rintro e w3 ⟨v3, rfl, hv30, hv31, hs⟩
          replace own1 := own1a.stp hs hr0
          replace pt1 := pt1a.stp hs hr0
          replace hS := hSa.trans hs
          replace B39 := Blk.stp hs B39 (Nat.ne_of_gt hrw2)
          clear hs hSa own1a pt1a
          obtain ⟨cs, hB⟩ := own1.blkOf
          have hfr := own1.frozenAt 1
          obtain ⟨A9, c9, hvv, -, sl9, -⟩ := own1.sl encP
          obtain ⟨b9, o9, e9, -, hc9⟩ := sl9.cells (by simp)
          injection hvv with e1 e2 e3
          subst e1 e3
          clear e2
          injection e9 with e9
          injection e9 with e9 e10
          subst e9 e10
          have q1 := hc9 0 x rfl 1 _ rfl
          simp only [Nat.zero_mul, Nat.zero_add] at q1
          have hle1 : (0 : Int) < ((x :: t).length : Int) := by simp
          have z0 := B39.c0
          have z1 := B39.c1
          clear sl9 hc9
          rcases (show v3 = 0 ∨ v3 = 1 by omega) with rfl | rfl
          · have own2 := own1.storedP (y := (x.1, 0)) 1 (.int .i64 0) rfl (by omega)
            have pt2 : PtOwn (w3.setCell ⟨g, 1, none⟩ (.int .i64 0)) w.heap.size ((x.1, 0) :: t) := fun z hz => by
              rcases List.mem_cons.1 hz with rfl | hz
              · exact (pt1.far hB (i := 1) (.int .i64 0)) x List.mem_cons_self
              · exact (pt1.far hB (i := 1) (.int .i64 0)) z (List.mem_cons_of_mem _ hz)
            clear own1 pt1
            go_wp2
            go_ret
            exact ⟨⟨_, _, c, (x.1, 0) :: t⟩, rfl, own2, pt2, ⟨by simp, by simp; omega⟩, (Stp.set (p := ⟨g, 1, none⟩) _ hgw (by simp only []; omega) hS).le (by simp; omega)⟩
          · have own2 := own1.storedP (y := (x.1, 9)) 1 (.int .i64 9) rfl (by omega)
            have pt2 : PtOwn (w3.setCell ⟨g, 1, none⟩ (.int .i64 9)) w.heap.size ((x.1, 9) :: t) := fun z hz => by
              rcases List.mem_cons.1 hz with rfl | hz
              · exact (pt1.far hB (i := 1) (.int .i64 9)) x List.mem_cons_self
              · exact (pt1.far hB (i := 1) (.int .i64 9)) z (List.mem_cons_of_mem _ hz)
            clear own1 pt1
            go_wp2
            go_ret
            exact ⟨⟨_, _, c, (x.1, 9) :: t⟩, rfl, own2, pt2, ⟨by simp, by simp; omega⟩, (Stp.set (p := ⟨g, 1, none⟩) _ hgw (by simp only []; omega) hS).le (by simp; omega)⟩
        · have hvb : (v2 == (0 : Int)) = false := by rw [beq_eq_false_iff_ne]; exact hv0
          by_cases hv1 : v2 = 1
          · have hvc : (v2 == (1 : Int)) = true := by rw [beq_iff_eq]; exact hv1
            go_wp2_with fail
            refine (l20WindowsO_any r 1 1 _ _ hS.rd (by omega) (by omega)).mono ?_
            rintro e w3 ⟨⟨A1, n1, c1, x1⟩, rfl, ownW, hn1, -, hs⟩
            simp only [SV.v] at ownW hn1 ⊢
            replace ownW := ownW.low hS.grown.size
            replace own1 := own1.stp hs hr0
            replace pt1 := pt1.stp hs hr0
            replace hS := hS.trans hs
            clear hs
            obtain ⟨cs, hB⟩ := own1.blkOf
            have own2 := own1.storedP (y := (⟨A1, n1, c1, x1⟩, x.2)) 0 (.slice A1 n1 c1) rfl (by omega)
            have pt2 : PtOwn (w3.setCell ⟨g, 0, none⟩ (.slice A1 n1 c1)) w.heap.size ((⟨A1, n1, c1, x1⟩, x.2) :: t) := fun z hz => by
              rcases List.mem_cons.1 hz with rfl | hz
              · exact ownW.farNe (p := ⟨g, 0, none⟩) (ownW.neBlk hB (by decide)) _
              · exact (pt1.far hB (i := 0) (.slice A1 n1 c1)) z (List.mem_cons_of_mem _ hz)
            have hfr := own1.frozenAt 0
            obtain ⟨A9, c9, hvv, -, sl9, -⟩ := own1.sl encP
            obtain ⟨b9, o9, e9, -, hc9⟩ := sl9.cells (by simp)
            injection hvv with e1 e2 e3
            subst e1 e3
            clear e2
            injection e9 with e9
            injection e9 with e9 e10
            subst e9 e10
            have q0 := hc9 0 x rfl 0 _ rfl
            simp only [Nat.zero_mul, Nat.add_zero] at q0
            have hle1 : (0 : Int) < ((x :: t).length : Int) := by simp
            have hlt5 := hl
            simp only [List.length_cons] at hlt5
            clear own1 pt1 sl9 hc9
            go_wp2
            go_ret
            exact ⟨⟨_, _, c, (⟨A1, n1, c1, x1⟩, x.2) :: t⟩, rfl, own2, pt2, ⟨by simp, by simp; omega⟩, (Stp.set (p := ⟨g, 0, none⟩) _ hgw (by simp only []; omega) hS).le (by simp; omega)⟩
          · have hvc : (v2 == (1 : Int)) = false := by rw [beq_eq_false_iff_ne]; exact hv1
            have hlt5 := hl
            simp only [List.length_cons] at hlt5
            go_wp2_with fail
            go_loopg [5] 6 (fun gg s5 wr => ∃ (l : List PartV), 1 ≤ l.length ∧ l.length ≤ 6 ∧ 6 - l.length ≤ gg ∧ Aside (Own wr w.heap.size 56 2 eP s5 l) ∧ Aside (PtOwn wr w.heap.size l) ∧ Aside (Stp r 97 w (b + 1900) wr))
            case atStart => exact ⟨x :: t, by simp, by simp; omega, by omega, (show Aside _ from own1), (show Aside _ from pt1), (show Aside _ from hS.le (by simp; omega))⟩
            case round =>
              obtain ⟨l, hl1, hl6, hg6, OW, BB, SS⟩ := hrel
              clear hS own1 pt1
              have hS := SS.out
              have own1 := OW.out
              have pt1 := BB.out
              clear SS OW BB
              obtain ⟨g, c, rfl, hgw, hgl, hlc, hcm⟩ := own1.form (by omega)
              by_cases hle5 : l.length ≤ 5
              · have hle5z : (l.length : Int) ≤ 5 := by omega
                have src := Sl.of_blk (xs := [((⟨none, 0, 0, []⟩, 1) : PartV)]) (Blk.new wr 56 #[.slice none 0 0, .int .i64 1]) encP (by simp)
                have own2 := own1.alloc (.cells #[.slice none 0 0, .int .i64 1] 56)
                have hS2 := hS.alloc (.cells #[.slice none 0 0, .int .i64 1] 56)
                have pt2 := pt1.alloc (.cells #[.slice none 0 0, .int .i64 1] 56)
                go_wp2_with (at_builtin; (refine app_own rfl _ _ appPart rfl encP w.heap.size _ l rfl own2 _ 1 1 _ rfl (fun e => by cases e) src (by omega) hS2.grown.size ?_); intro v' w5 own5 hg5; have hS5 := hS2.app own2 hg5 (Nat.le_refl _) hr0; have pt5 := pt2.app own2 hg5)
                go_roundg (6 - (l.length + 1))
                case measure => omega
                case rel => exact ⟨l ++ [((⟨none, 0, 0, []⟩, 1) : PartV)], by simp, by simp; omega, by simp, (show Aside _ from own5), (show Aside _ from pt5.add Own.nil), (show Aside _ from hS5)⟩
              · have hle5z : ¬ (l.length : Int) ≤ 5 := by omega
                go_wp2
                go_ret
                exact ⟨⟨some ⟨g, 0, none⟩, l.length, c, l⟩, rfl, own1, pt1, ⟨hl1, by simp only []; omega⟩, hS.le (by omega)⟩
end Go.Proofs.Ytmlodhogfejdjaa
