/- TouchCache of spec. -/
import Derived.Test.YtffhcifeccdfjaaDCache
import Derived.StillTailTactics
namespace Go.Proofs.Ytffhcifeccdfjaa
set_option linter.unusedVariables false
set_option linter.unusedSimpArgs false
open Go.RowKit

theorem flatI (xs : List Int) : xs.flatMap eI = xs.map (Value.int .i64) := by
  induction xs with
  | nil => rfl
  | cons x t ih => rw [List.flatMap_cons, ih]; rfl
theorem Own.setI {w : World} {base g n c T : Nat} {xs : List Int} (h : Own w base T 1 eI (.slice (some ⟨g, 0, none⟩) n c) xs) (j : Nat) (y : Int) : Own (w.setCell ⟨g, j, none⟩ (.int .i64 y)) base T 1 eI (.slice (some ⟨g, 0, none⟩) n c) (xs.set j y) := by
  have hn : n = xs.length := by
    rcases h.2 with ⟨h1, h2⟩ | ⟨g', cap, cur, h1, _⟩
    · cases h1
    · injection h1 with _ h2 _
  subst hn
  have := (World.ownsRow.stored h j (.int .i64 y)).1
  unfold Own
  rw [flatI] at this ⊢
  rw [List.length_set, List.map_set]
  exact this
theorem lineOk_self {n b : Nat} (hb : b ≤ 255) : lineOk n (b % n) (b : Int) = true := by
  unfold lineOk
  rw [show inB (b : Int) 0 255 = true from inB_true.2 (by omega)]
  simp
theorem cacheOk_all {xs : List Int} (h : cacheOk xs = true) : (∀ j y, xs[j]? = some y → lineOk xs.length j y = true) ∧ linedN xs.length = true := by
  unfold cacheOk at h
  rw [Bool.and_eq_true, List.all_eq_true] at h
  refine ⟨fun j y hy => ?_, h.2⟩
  have := h.1 j (List.mem_range.2 (List.getElem?_eq_some_iff.1 hy).1)
  rw [List.getD_eq_getElem?_getD, hy] at this
  exact this
theorem cacheOk_set {xs : List Int} (h : cacheOk xs = true) {b : Nat} (hb : b ≤ 255) : cacheOk (xs.set (b % xs.length) (b : Int)) = true := by
  obtain ⟨h1, h2⟩ := cacheOk_all h
  rw [cache_good (n := xs.length) (by rw [List.length_set]), h2]
  intro j y hj hy
  rw [List.getElem?_set] at hy
  split at hy
  · rename_i e
    subst e
    rw [if_pos hj] at hy
    injection hy with hy
    rw [← hy]
    exact lineOk_self hb
  · exact h1 j y hy
def touchV (x : SV Int × Int) : Value := .tuple #[.agg #[x.1.v], .int .i64 x.2]
set_option maxHeartbeats 2000000 in
set_option maxRecDepth 100000 in
theorem touchCache_any (A : Option Addr) (n c : Nat) (xs : List Int) (b : Nat) (p : Int) (hp : 0 ≤ p ∧ p ≤ 4095) (hb : p / 16 = (b : Int)) (hx : cacheOk xs = true) (hnil : A = none → c = 0) (w : World) (hs : Sl w 1 eI A n c xs) :
    Calls Try.prog 86 #[.agg #[.slice A n c], .int .i64 p] w (Post touchV fun x w' => Own w' w.heap.size 3 1 eI x.1.v x.1.xs ∧ cacheOk x.1.xs = true ∧ Below w.heap.size w w') := by
  have hb255 : b ≤ 255 := by omega
  have hnr := linedN_range (cacheOk_all hx).2
  have HL := Lib.hid hs.len
  have hn16 : 1 ≤ n ∧ n ≤ 16 := by have := hs.len; omega
  clear hnr
  have hb0 := alo (alo (Below.refl w.heap.size w) (.cells #[.slice A n c] 40)) (.cells #[.slice none 0 0] 40)
  have B1 := (Blk.new w 40 #[.slice A n c]).alloc (.cells #[.slice none 0 0] 40)
  have B2 := Blk.new2 w (.cells #[.slice A n c] 40) 40 #[.slice none 0 0]
  have h1 := fun W hW => ownCache_any A n c xs (by omega) hnil W hW
  have h2 := fun W => l1In_any p 0 4095 W
  rw [inB_true.2 hp] at h2
  have hs0 := hs.below hb0
  have HX := Lib.hid hx
  have HB := Lib.hid hb
  clear hx hs hb
  have c1 := B1.c0
  have f1 := B1.frozen
  go_enter Try.func86, Try.ntmps86
  go_wp2_with fail
  refine (h1 _ hs0).mono ?_
  rintro e w1 ⟨⟨A9, n9, c9, l9⟩, rfl, own9, hl9, hbw1⟩
  simp only [SV.v] at own9 hl9 ⊢
  subst hl9
  replace B1 := B1.below hbw1
  replace B2 := B2.below hbw1
  have hb1 := thn hb0 hbw1
  have hz1 : w.heap.size + 1 < w1.heap.size := B2.lt
  have sl9 := (own9.okv encI).sl
  obtain rfl : n9 = n := by have h1 := sl9.len; have h2 := HL.out; simp only [] at h1; omega
  clear c1 f1
  have hB1 : Blk (w1.setCell ⟨w.heap.size, 0, none⟩ (.slice A9 n9 c9)) w.heap.size 40 #[.slice A9 n9 c9] := B1.set_ 0 _
  have hB2 := B2.far (p := ⟨w.heap.size, 0, none⟩) (by simp only []; omega) (.slice A9 n9 c9)
  have own2 := own9.far (p := ⟨w.heap.size, 0, none⟩) (by simp <;> omega) (.slice A9 n9 c9)
  have hb2 := hb1.setCell (p := ⟨w.heap.size, 0, none⟩) (Nat.le_refl _) (.slice A9 n9 c9)
  have c1 := B1.c0
  have f1 := B1.frozen
  have c2 := hB1.c0
  clear sl9 hs0 hb0 h1 hb1
  have sl2 := (own2.okv encI).sl
  have hv := specCacheValid_any A9 n9 c9 l9 _ sl2
  rw [HX.out] at hv
  simp only [] at sl2
  have hz2 : w.heap.size + 1 < (w1.setCell ⟨w.heap.size, 0, none⟩ (.slice A9 n9 c9)).heap.size := hB2.lt
  replace own2 := own2.low (base' := w.heap.size + 1 + 1) (by simp)
  clear own9 B1 B2
  generalize hw2 : w1.setCell ⟨w.heap.size, 0, none⟩ (.slice A9 n9 c9) = w2 at *
  go_wp2_with fail
  refine hv.mono ?_
  rintro e w3 ⟨rfl, hb3⟩
  clear c1 f1 c2 hw2 hbw1
  replace hB1 := hB1.below hb3
  replace hB2 := hB2.below hb3
  replace own2 := own2.below hb3
  replace sl2 := sl2.below hb3
  replace hb2 := thn hb2 hb3
  have c1 := hB1.c0
  have f1 := hB1.frozen
  go_wp2_with fail; refine (h2 _).mono ?_; rintro e w' ⟨rfl, rfl⟩
  have hz3 : w.heap.size + 1 < w3.heap.size := hB2.lt
  have own0 : Own (w3.alloc (.cells #[] 3)) w3.heap.size 3 1 eI (.slice (some ⟨w3.heap.size, 0, none⟩) 0 0) ([] : List Int) := Own.of_blk (Blk.new w3 3 #[]) (Nat.le_refl _) encI (by simp [maxLen])
  have B1a := hB1.alloc (.cells #[] 3)
  have src := sl2.below (alo (Below.refl w3.heap.size w3) (.cells #[] 3))
  have y0 := B1a.c0
  have hnil9 : A9 = none → c9 = 0 := (own2.okv encI).nil
  obtain ⟨q, hq⟩ : ∃ q, b % n9 = q := ⟨_, rfl⟩
  have hqn : q < n9 := by rw [← hq]; exact Nat.mod_lt _ (by omega)
  obtain ⟨ba, oa, rfl, y, hy, hcq⟩ := sl2.nth hqn (Below.refl _ _)
  have q0 := hcq 0 _ rfl
  simp only [Nat.mul_one, Nat.add_zero] at q0
  have hbq : (b : Int) % (n9 : Int) = (q : Int) := by rw [← hq]; exact (Int.natCast_emod _ _).symm
  have HQ := Lib.hid hq
  clear hcq hy hq
  go_wp2_with (at_builtin; (refine app_own rfl _ _ appInt rfl encI w3.heap.size _ [] rfl own0 _ _ _ l9 rfl hnil9 src (by simp; omega) (by simp) ?_); intro v5 w5 own5 hg5; have hb35 := belowApp (alo (Below.refl w3.heap.size w3) (.cells #[] 3)) own0 hg5 (Nat.le_refl _) (by simp); have hz5 := hg5.size; clear hg5 own0 B1a src y0; simp only [List.nil_append] at own5; obtain ⟨g5, c5, hv5, hg5a, hg5b, hlc5, hcm5⟩ := own5.form (by rw [HL.out]; omega); rw [HL.out] at hv5 hlc5; subst hv5)
  rw [HB.out]
  have hb36 := alo hb35 (.cells #[.slice (some ⟨g5, 0, none⟩) n9 c5] 40)
  have own6 := own5.alloc (.cells #[.slice (some ⟨g5, 0, none⟩) n9 c5] 40)
  have B6 := Blk.new w5 40 #[.slice (some ⟨g5, 0, none⟩) n9 c5]
  replace hB1 := hB1.below hb36
  replace hB2 := hB2.below hb36
  replace hb2 := thn hb2 hb36
  replace q0 := (hb36.cell (p := ⟨ba, oa + q, none⟩) (World.block_lt_of_cell? _ _ q0)).trans q0
  clear sl2 own2 own5 c1 f1 h2
  generalize hw6 : w5.alloc (.cells #[.slice (some ⟨g5, 0, none⟩) n9 c5] 40) = w6 at *
  have hg65 : w5.heap.size ≠ g5 := by omega
  generalize w5.heap.size = g6 at *
  have c1 := hB1.c0
  have hn0 : ¬ (n9 : Int) = 0 := by omega
  have hn1 : ((n9 : Int) == 0) = false := by rw [beq_eq_false_iff_ne]; exact hn0
  have hb0' : (0 : Int) ≤ (b : Int) := by omega
  have hqz : (q : Int) < (n9 : Int) := by omega
  have c6 := B6.c0
  have f2 := hB2.frozen
  have c2 := hB2.c0
  have sl6 := (own6.okv encI).sl
  obtain ⟨gx, ox, ex, z, hz, hcz⟩ := sl6.nth hqn (Below.refl _ _)
  injection ex with ex
  injection ex with ex1 ex2
  subst ex1 ex2
  have z0 := hcz 0 _ rfl
  simp only [Nat.mul_one, Nat.add_zero, Nat.zero_add] at z0
  have zf : w6.frozen? ⟨g5, q, none⟩ = false := by
    rcases own6.2 with ⟨h1, _⟩ | ⟨g', cap, cur, h1, hb, hgg, _⟩
    · cases h1
    · injection h1 with h2
      injection h2 with h2
      injection h2 with h2 _
      subst h2
      exact Blk.frozen (t := 3) (cs := cur) hgg q
  clear hcz hz sl6
  cases hyb : (y == (b : Int))
  · go_quiet (fail)
    go_wp2_with fail
    replace hB1 := hB1.drewN nq
    replace hB2 := hB2.drewN nq
    replace own6 := own6.drewN nq
    replace hb2 := belowDrewN' hb2 nq
    replace B6 := B6.drewN nq
    replace z0 : (w6.drewN nq).cell? ⟨g5, q, none⟩ = _ := z0
    replace zf : (w6.drewN nq).frozen? ⟨g5, q, none⟩ = _ := zf
    clear c1 c6 c2 f2
    generalize hw7 : w6.drewN nq = w7 at *
    have c1 := hB1.c0
    have c6 := B6.c0
    clear q0 hw7 hw6
    have hnn : ¬ n9 = 0 := by omega
    have htm : (b : Int).tmod (n9 : Int) = (q : Int) := (Int.tmod_eq_emod_of_nonneg hb0').trans hbq
    go_still_tail 9, (by kernel_rfl)
    change wpList _ _ _ _ _ w7.drew
    replace hB1 := hB1.drew
    replace hB2 := hB2.drew
    replace own6 := own6.drew
    replace hb2 := hb2.drew
    replace B6 := B6.drew
    replace z0 : w7.drew.cell? ⟨g5, q, none⟩ = _ := z0
    replace zf : w7.drew.frozen? ⟨g5, q, none⟩ = _ := zf
    clear c1 c6
    generalize w7.drew = w8 at *
    have own7 := own6.setI q (b : Int)
    have hB2a := hB2.far (p := ⟨g5, q, none⟩) (by simp only []; omega) (.int .i64 (b : Int))
    have hb7 := hb2.setCell (p := ⟨g5, q, none⟩) (by simp only []; omega) (.int .i64 (b : Int))
    have B6a := B6.far (p := ⟨g5, q, none⟩) hg65 (.int .i64 (b : Int))
    have c6 := B6a.c0
    have f2 := hB2a.frozen
    have c2 := hB2a.c0
    have e5 := (hB2a.set_ 0 (.slice (some ⟨g5, 0, none⟩) n9 c5)).c0
    go_wp2
    exact bodyPost_ret (v := touchV (⟨some ⟨g5, 0, none⟩, n9, c5, l9.set q (b : Int)⟩, 8)) (by simp [results, Try.results86, go_sem, touchV, SV.v, e5]) rfl ⟨(⟨some ⟨g5, 0, none⟩, n9, c5, l9.set q (b : Int)⟩, 8), rfl, (own7.far (p := ⟨w.heap.size + 1, 0, none⟩) (by simp only []; omega) _).low (by omega), (by rw [← HQ.out, ← HL.out]; exact cacheOk_set HX.out hb255), hb7.setCell (p := ⟨w.heap.size + 1, 0, none⟩) (by simp only []; omega) _⟩
  · go_quiet (fail)
    go_wp2_with fail
    have e5 := ((hB2.drewN nq).set_ 0 (.slice (some ⟨g5, 0, none⟩) n9 c5)).c0
    exact bodyPost_ret (v := touchV (⟨some ⟨g5, 0, none⟩, n9, c5, l9⟩, 1)) (by simp [results, Try.results86, go_sem, touchV, SV.v, e5]) rfl ⟨(⟨some ⟨g5, 0, none⟩, n9, c5, l9⟩, 1), rfl, ((own6.drewN nq).far (p := ⟨w.heap.size + 1, 0, none⟩) (by simp only []; omega) _).low (by omega), HX.out, (belowDrewN' hb2 nq).setCell (p := ⟨w.heap.size + 1, 0, none⟩) (by simp only []; omega) _⟩
end Go.Proofs.Ytffhcifeccdfjaa
