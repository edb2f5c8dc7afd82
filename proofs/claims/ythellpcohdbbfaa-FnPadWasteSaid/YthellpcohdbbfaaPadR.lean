/- PadRuns of impl and spec. -/
import Derived.Test.YthellpcohdbbfaaPadS
import Derived.Test.YthellpcohdbbfaaRel
import Derived.StillTailTactics
namespace Go.Proofs.Ythellpcohdbbfaa
set_option linter.unusedVariables false
set_option linter.unusedSimpArgs false
open Go.RowKit Go.Shelf

def needOk (xs ys : List Int) : Bool := padOk xs && (decide (ys.length = xs.length) && ys.all fun y => decide (0 ≤ y))
theorem needBad_any (n : Int) (w : World) : Calls Try.prog 83 #[.int .i64 n] w fun e w' => .returned (.bool (!decide (0 ≤ n))) = e ∧ Below w.heap.size w w' := by
  by_cases h : n < 0
  · have h' : ¬ 0 ≤ n := by omega
    rw [decide_eq_false h']
    clear h'
    go_enter Try.func83, Try.ntmps83
    go_wp2
    go_ret
    exact ⟨rfl, Below.refl _ _⟩
  · have h' : 0 ≤ n := by omega
    rw [decide_eq_true h']
    go_enter Try.func83, Try.ntmps83
    go_wp2
    go_ret
    exact ⟨rfl, Below.refl _ _⟩
theorem enters_need (args : Array Value) (w : World) : (callFunc 83 args).run Try.prog w = .ok (.enter 83 args) w := enters_of Try.func83 (by kernel_rfl) rfl args w
theorem needed_any (A A' : Option Addr) (n n' c c' : Nat) (xs ys : List Int) (w : World) (hs : Sl w 1 eI A n c xs) (hs' : Sl w 1 eI A' n' c' ys) :
    Calls Try.prog 65 #[.slice A n c, .slice A' n' c'] w fun e w' => .returned (.bool (needOk xs ys)) = e ∧ Below w.heap.size w w' := by
  have hl := hs.len
  have hl' := hs'.len
  have hle := hs.le
  have hmax := hs.max
  have hle' := hs'.le
  have hmax' := hs'.max
  unfold needOk
  rw [hl, hl', ← any_notP]
  have h1 := padded_any A n c xs w hs
  have h2 := fun W hW => containsInt (fun x => !decide (0 ≤ x)) _ #[] enters_need A' n' c' ys W (fun _ => True) (fun _ _ => trivial) (fun W x _ _ => needBad_any x W) (hs'.below hW)
  generalize padOk xs = v1 at *
  generalize (ys.any fun x => !decide (0 ≤ x)) = v2 at *
  clear hs hs' hl hl'
  cases v1
  · go_enter Try.func65, Try.ntmps65
    go_wp2_with fail
    refine h1.mono ?_; rintro e w1 ⟨rfl, hb1⟩
    go_wp2
    go_ret
    exact ⟨rfl, hb1⟩
  · by_cases h : n' = n
    · subst h
      go_enter Try.func65, Try.ntmps65
      go_wp2_with fail
      refine h1.mono ?_; rintro e w1 ⟨rfl, hb1⟩
      go_wp2_with fail
      refine (h2 _ hb1).mono ?_; rintro e w2 ⟨rfl, hb2⟩
      go_wp2
      go_ret
      exact ⟨by simp, thn hb1 hb2⟩
    · have h' : ((n' : Int) == (n : Int)) = false := by rw [beq_eq_false_iff_ne]; omega
      rw [decide_eq_false h]
      clear h h2
      go_enter Try.func65, Try.ntmps65
      go_wp2_with fail
      refine h1.mono ?_; rintro e w1 ⟨rfl, hb1⟩
      go_wp2
      go_ret
      exact ⟨rfl, hb1⟩
def padRuns (xs ys : List Int) : List Int := if needOk xs ys then List.zipWith min xs ys else []
theorem zip_at {xs ys : List Int} {k : Nat} {x y : Int} (hx : xs[k]? = some x) (hy : ys[k]? = some y) : (List.zipWith min xs ys)[k]? = some (min x y) := by
  rw [List.getElem?_zipWith, hx, hy]
theorem needOk_bd {xs ys : List Int} (h : needOk xs ys = true) : padOk xs = true ∧ ys.length = xs.length ∧ ∀ y ∈ ys, 0 ≤ y := by
  simp only [needOk, Bool.and_eq_true, decide_eq_true_eq, List.all_eq_true] at h
  exact ⟨h.1, h.2.1, h.2.2⟩
set_option maxRecDepth 100000 in
set_option maxHeartbeats 2000000 in
theorem padRuns_any (A A' : Option Addr) (n n' c c' : Nat) (xs ys : List Int) (w : World) (hs : Sl w 1 eI A n c xs) (hs' : Sl w 1 eI A' n' c' ys) :
    Calls Try.prog 33 #[.slice A n c, .slice A' n' c'] w (Post SV.v fun s w' => SV.ok w' w.heap.size 1 eI s ∧ s.xs = padRuns xs ys ∧ Below w.heap.size w w') := by
  have hle := hs.le
  have hmax := hs.max
  have hle' := hs'.le
  have hmax' := hs'.max
  have hl := hs.len
  have hl' := hs'.len
  have h1 := needed_any A A' n n' c c' xs ys w hs hs'
  unfold padRuns
  cases hv : needOk xs ys
  · rw [hv] at h1
    clear hv hs hs'
    go_enter Try.func33, Try.ntmps33
    go_wp2_with fail
    refine h1.mono ?_; rintro e w1 ⟨rfl, hb1⟩
    go_wp2
    go_ret
    exact ⟨⟨none, 0, 0, []⟩, rfl, ⟨slE _, fun b o e => (by cases e), fun _ => rfl, fun _ e => (by cases e)⟩, rfl, hb1⟩
  · rw [hv] at h1
    obtain ⟨hp, hyl, hy0⟩ := needOk_bd hv
    have hn12 := (padOk_bd hp).1
    obtain rfl : n' = n := by omega
    have HZ := Lib.hid (fun k x y => @zip_at xs ys k x y)
    have HL := Lib.hid (show (List.zipWith min xs ys).length = n' by rw [List.length_zipWith]; omega)
    clear hv hp hyl hy0 hl'
    simp only [if_true]
    generalize List.zipWith min xs ys = zs at *
    go_enter Try.func33, Try.ntmps33
    go_wp2_with fail
    refine h1.mono ?_; rintro e w1 ⟨rfl, hb1⟩
    obtain ⟨g0, hg0⟩ : ∃ g0, w1.heap.size = g0 := ⟨_, rfl⟩
    have HG := Lib.hid (show w.heap.size ≤ g0 by rw [← hg0]; exact hb1.size)
    go_wp2_with (at_make; refine make_own rfl _ _ zeroInt rfl encI w1.heap.size _ _ n' rfl rfl (by omega) (by omega) (by omega) (Nat.le_refl _) ?_; intro w2 own1 hg1; have hb2 := thn hb1 (below_of_grown hg1); have U0 : Upto w2 w1.heap.size 3 0 (zs.flatMap eI) := Upto.made (n := n') (c := n') encI own1 (by rw [List.length_replicate, HL.out]); clear own1 hg1)
    rw [hg0] at *
    clear hg0
    go_loopg [16] n' (fun gg s4 wr => ∃ kk : Nat, kk ≤ n' ∧ n' - kk ≤ gg ∧ s4 = .int .i64 kk ∧ Aside (Below w.heap.size w wr) ∧ Aside (Upto wr g0 3 kk (zs.flatMap eI)))
    case atStart => exact ⟨0, Nat.zero_le _, by omega, rfl, (show Aside _ from hb2), (show Aside _ from U0)⟩
    case round =>
      obtain ⟨kk, hkk, hg, rfl, BW, UU⟩ := hrel
      clear hb2 U0
      have U1 := UU.out
      have hB := BW.out
      clear UU BW
      by_cases hlt : kk < n'
      · have hltz : (kk : Int) < (n' : Int) := by omega
        obtain ⟨b1, o1, rfl, x, hxk, hc⟩ := hs.nth hlt hB
        obtain ⟨b2, o2, rfl, y, hyk, hd⟩ := hs'.nth hlt hB
        have hc0 := hc 0 _ rfl
        have hd0 := hd 0 _ rfl
        simp only [eI, Nat.add_zero, Nat.mul_one] at hc0 hd0
        have f0 := Lib.hid (flat_at encI (HZ.out kk x y hxk hyk) 0 kk _ rfl (by omega))
        obtain ⟨v, hv⟩ : ∃ v, min x y = v := ⟨_, rfl⟩
        rw [hv] at f0
        clear hc hd hxk hyk
        by_cases hmin : x ≤ y
        · obtain rfl : x = v := by rw [← hv]; omega
          clear hv
          go_wp2_with fail
          go_still_tail 11, (by kernel_rfl)
          change wpList _ _ _ _ _ wr.drew
          generalize hwd : wr.drew = wd
          have hBd : Below w.heap.size w wd := by rw [← hwd]; exact hB.drew
          have Ud : Upto wd g0 3 kk (zs.flatMap eI) := by rw [← hwd]; exact U1.below (Below.refl _ _).drew
          clear hwd
          have hfr := Ud.frozen
          obtain ⟨v0, e0⟩ := Ud.has f0.out
          go_wp2
          go_roundg (n' - (kk + 1))
          case measure => omega
          case rel => exact ⟨kk + 1, by omega, by omega, by go_num, (show Aside _ from Below.setCell hBd (p := ⟨g0, _, none⟩) HG.out _), (show Aside _ from Ud.set f0.out)⟩
        · obtain rfl : y = v := by rw [← hv]; omega
          clear hv
          go_wp2_with fail
          go_still_tail 11, (by kernel_rfl)
          change wpList _ _ _ _ _ wr.drew
          generalize hwd : wr.drew = wd
          have hBd : Below w.heap.size w wd := by rw [← hwd]; exact hB.drew
          have Ud : Upto wd g0 3 kk (zs.flatMap eI) := by rw [← hwd]; exact U1.below (Below.refl _ _).drew
          clear hwd
          have hfr := Ud.frozen
          obtain ⟨v0, e0⟩ := Ud.has f0.out
          go_wp2
          go_roundg (n' - (kk + 1))
          case measure => omega
          case rel => exact ⟨kk + 1, by omega, by omega, by go_num, (show Aside _ from Below.setCell hBd (p := ⟨g0, _, none⟩) HG.out _), (show Aside _ from Ud.set f0.out)⟩
      · have hltz : ¬ (kk : Int) < (n' : Int) := by omega
        obtain rfl : kk = n' := by omega
        have hsl := Sl.of_blk (U1.full (by rw [flatMap_len encI.len, HL.out]; omega)) encI (by rw [HL.out]; omega)
        rw [HL.out] at hsl
        go_wp2
        go_ret
        exact ⟨⟨some ⟨g0, 0, none⟩, kk, kk, zs⟩, rfl, ⟨hsl, fun b o e => (by injection e with e; injection e with e; have := HG.out; omega), fun e => (by cases e), fun ad e => (by injection e with e; rw [← e])⟩, rfl, hB⟩
def relPR (v5 : Value) (b1 o1 n1 c1 b2 o2 n2 c2 kk : Nat) (x y vm : Int) : Nat → Value → World → Prop
  | 0, v, _ => v = v5
  | 1, v, _ => v = .slice (some ⟨b2, o2, none⟩) n2 c2
  | 2, v, _ => v = .int .i64 kk
  | 3, v, _ => v = .pointer (some ⟨b2, o2 + kk, none⟩)
  | 4, v, _ => v = .int .i64 y
  | 5, v, _ => v = .slice (some ⟨b1, o1, none⟩) n1 c1
  | 6, v, _ => v = .int .i64 kk
  | 7, v, _ => v = .pointer (some ⟨b1, o1 + kk, none⟩)
  | 8, v, _ => v = .int .i64 x
  | 9, v, _ => v = .int .i64 vm
  | 10, v, W => ∃ g, v = .slice (some ⟨g, 0, none⟩) 1 1 ∧ Blk W g 3 #[.int .i64 vm]
  | _, _, _ => True
theorem relPR_below (v5 : Value) (b1 o1 n1 c1 b2 o2 n2 c2 kk : Nat) (x y vm : Int) {i : Nat} {v : Value} {w w' : World} (h : relPR v5 b1 o1 n1 c1 b2 o2 n2 c2 kk x y vm i v w) (hb : Below w.heap.size w w') : relPR v5 b1 o1 n1 c1 b2 o2 n2 c2 kk x y vm i v w' := by
  match i, h with
  | 0, h => exact h
  | 1, h => exact h
  | 2, h => exact h
  | 3, h => exact h
  | 4, h => exact h
  | 5, h => exact h
  | 6, h => exact h
  | 7, h => exact h
  | 8, h => exact h
  | 9, h => exact h
  | 10, ⟨g, e, B⟩ => exact ⟨g, e, B.below hb⟩
  | n + 11, _ => trivial

theorem padStarts_iff (xs : List Int) : (padStarts xs).length = xs.length ↔ padOk xs = true := by
  unfold padStarts
  cases hv : padOk xs
  · rw [if_neg Bool.false_ne_true]
    refine ⟨fun h => ?_, fun h => by cases h⟩
    have : xs = [] := List.eq_nil_of_length_eq_zero h.symm
    subst this
    simp [padOk] at hv
  · rw [if_pos rfl]
    exact ⟨fun _ => rfl, fun _ => starts_len xs⟩
theorem padRuns_no {xs ys : List Int} (h : needOk xs ys = false) : padRuns xs ys = [] := by unfold padRuns; rw [h]; rfl
theorem padRuns_yes {xs ys : List Int} (h : needOk xs ys = true) : padRuns xs ys = List.zipWith min xs ys := by unfold padRuns; rw [h]; rfl
theorem zip_take {xs ys : List Int} {k : Nat} {x y : Int} (hx : xs[k]? = some x) (hy : ys[k]? = some y) : (List.zipWith min xs ys).take (k + 1) = (List.zipWith min xs ys).take k ++ [min x y] := by
  rw [List.take_add_one, zip_at hx hy]
  rfl
set_option maxRecDepth 100000 in
set_option maxHeartbeats 2000000 in
theorem specPadRuns_any (A A' : Option Addr) (n n' c c' : Nat) (xs ys : List Int) (w : World) (hs : Sl w 1 eI A n c xs) (hs' : Sl w 1 eI A' n' c' ys) :
    Calls Try.prog 34 #[.slice A n c, .slice A' n' c'] w (Post SV.v fun s w' => SV.ok w' w.heap.size 1 eI s ∧ s.xs = padRuns xs ys ∧ Below w.heap.size w w') := by
  have hle := hs.le
  have hmax := hs.max
  have hle' := hs'.le
  have hmax' := hs'.max
  have hl := hs.len
  have hl' := hs'.len
  have hb0 := alo (Below.refl w.heap.size w) (.cells #[] 3)
  have own0 : Own (w.alloc (.cells #[] 3)) w.heap.size 3 1 eI _ ([] : List Int) := Own.of_blk (Blk.new w 3 #[]) (Nat.le_refl _) encI (by simp [maxLen])
  have h1 := specPadStarts_any A n c xs _ (hs.below hb0)
  have HI := Lib.hid (padStarts_iff xs)
  have HNo := Lib.hid (@padRuns_no xs ys)
  have HYes := Lib.hid (@padRuns_yes xs ys)
  go_enter Try.func34, Try.ntmps34
  go_wp2_with fail
  refine h1.mono ?_
  rintro e w1 ⟨⟨A1, n1, c1, zs⟩, rfl, ⟨hsl1, _, _, _⟩, hzs, hb1⟩
  simp only [SV.v] at hsl1 hzs ⊢
  subst hzs
  have hle1 := hsl1.le
  have hmax1 := hsl1.max
  have hn1 : n1 = (padStarts xs).length := hsl1.len.symm
  have hB1 := thn hb0 hb1
  replace own0 := own0.below hb1
  clear hb0 hb1 h1 hsl1
  by_cases hp : padOk xs = true ∧ n' = n
  · obtain ⟨hp, rfl⟩ := hp
    obtain rfl : n' = n1 := by rw [hn1, HI.out.2 hp]; exact hl.symm
    have hn12 := (padOk_bd hp).1
    clear hn1
    have HP := Lib.hid hp
    clear hp
    go_wp2
    go_loopg [5, 6] n' (fun gg s5 s6 wr => ∃ (kk : Nat) (v5 : Value), kk ≤ n' ∧ n' - kk ≤ gg ∧ v5 = s5 ∧ s6 = .int .i64 kk ∧ Aside (Below w.heap.size w wr) ∧ Aside (Own wr w.heap.size 3 1 eI v5 ((List.zipWith min xs ys).take kk)) ∧ Aside (∀ j y, j < kk → ys[j]? = some y → (fun y => decide (0 ≤ y)) y = true))
    case atStart => exact ⟨0, _, Nat.zero_le _, by omega, rfl, rfl, (show Aside _ from hB1), (show Aside _ from own0), (show Aside _ from fun j _ hj => absurd hj (Nat.not_lt_zero _))⟩
    case round =>
      clear hB1 own0
      obtain ⟨kk, v5, hkk, hg, rfl, rfl, BW, OW, AA⟩ := hrel
      have own1 := OW.out
      clear OW
      by_cases hlt : kk < n'
      · have hltz : (kk : Int) < (n' : Int) := by omega
        obtain ⟨b1, o1, rfl, x, hxk, hc⟩ := hs.nth hlt (Below.refl w.heap.size w)
        obtain ⟨b2, o2, rfl, y, hyk, hd⟩ := hs'.nth hlt (Below.refl w.heap.size w)
        have hx1 := hc 0 _ rfl
        have hy1 := hd 0 _ rfl
        have hxl := World.block_lt_of_cell? _ _ hx1
        have hyl := World.block_lt_of_cell? _ _ hy1
        simp only [eI, Nat.add_zero, Nat.mul_one] at hx1 hy1
        have qx := fun W (h : Below wr.heap.size wr W) => ((thn BW.out h).cell (p := ⟨b1, o1 + kk, none⟩) hxl).trans hx1
        have qy := fun W (h : Below wr.heap.size wr W) => ((thn BW.out h).cell (p := ⟨b2, o2 + kk, none⟩) hyl).trans hy1
        have hd0 := qy wr (Below.refl _ _)
        have HT := Lib.hid (zip_take hxk hyk)
        have HY := Lib.hid hyk
        clear hc hd hyk hxk hx1 hy1
        have hlen : ((List.zipWith min xs ys).take kk).length + 1 ≤ 100000000 := by rw [List.length_take]; omega
        by_cases hy0 : 0 ≤ y
        · have hyn : ¬ y < 0 := by omega
          obtain ⟨v, hv⟩ : ∃ v, min x y = v := ⟨_, rfl⟩
          rw [hv] at HT
          by_cases hmin : x ≤ y
          · obtain rfl : x = v := by rw [← hv]; omega
            clear hv
            have hmm : (if x < y then x else y) = x := by split <;> omega
            go_wp2_with fail
            refine region_rel (by kernel_rfl) (fun i v w => relPR v5 b1 o1 n' c b2 o2 n' c' kk x y (x) i v w) (fun w w' => Below w.heap.size w w') (fun _ w' => Below wr.heap.size wr w') 11 _ wr (by kernel_rfl) (by kernel_rfl) (fun i v w w' h hb => relPR_below v5 b1 o1 n' c b2 o2 n' c' kk x y (x) h hb) (fun w => Below.refl _ _) (fun _ _ _ _ h => h) (show Below wr.heap.size wr wr.drew from (Below.refl _ _).drew) ?_ ?_
            · intro i o him ho a wa cc hcc hJ hfr hdep
              have c_qx := qx wa hJ
              have c_qy := qy wa hJ
              skip
              match i, ho, him with
              | 0, ho, _ =>
                injection ho with ho
                subst ho
                have h5 := hfr.2.2 5 (drawFrM_spec (by kernel_rfl))
                clear hdep hfr
                simp only [Array.getD_eq_getD_getElem?] at h5
                refine .inl ⟨rfl, ?_⟩
                unfold Oper.wp
                go_simp
                exact LeavesR.val rfl (Below.refl _ _) hJ
              | 1, ho, _ =>
                injection ho with ho
                subst ho
                have h1 := hfr.2.2 1 (drawFrM_spec (by kernel_rfl))
                clear hdep hfr
                simp only [Array.getD_eq_getD_getElem?] at h1
                refine .inl ⟨rfl, ?_⟩
                unfold Oper.wp
                go_simp
                exact LeavesR.val rfl (Below.refl _ _) hJ
              | 2, ho, _ =>
                injection ho with ho
                subst ho
                have h6 := hfr.2.2 6 (drawFrM_spec (by kernel_rfl))
                clear hdep hfr
                simp only [Array.getD_eq_getD_getElem?] at h6
                refine .inl ⟨rfl, ?_⟩
                unfold Oper.wp
                go_simp
                exact LeavesR.val rfl (Below.refl _ _) hJ
              | 3, ho, _ =>
                injection ho with ho
                subst ho
                have h35 := hdep ⟨1, .data⟩ (by simp) (by kernel_rfl) _ 35 rfl rfl
                have h36 := hdep ⟨2, .data⟩ (by simp) (by kernel_rfl) _ 36 rfl rfl
                clear hdep hfr
                replace h35 : a.tmps.getD 35 undef = .slice (some ⟨b2, o2, none⟩) n' c' := h35
                simp only [Array.getD_eq_getD_getElem?] at h35
                replace h36 : a.tmps.getD 36 undef = .int .i64 kk := h36
                simp only [Array.getD_eq_getD_getElem?] at h36
                refine .inl ⟨rfl, ?_⟩
                unfold Oper.wp
                go_simp
                exact LeavesR.val rfl (Below.refl _ _) hJ
              | 4, ho, _ =>
                injection ho with ho
                subst ho
                have h37 := hdep ⟨3, .data⟩ (by simp) (by kernel_rfl) _ 37 rfl rfl
                clear hdep hfr
                replace h37 : a.tmps.getD 37 undef = .pointer (some ⟨b2, o2 + kk, none⟩) := h37
                simp only [Array.getD_eq_getD_getElem?] at h37
                refine .inl ⟨rfl, ?_⟩
                unfold Oper.wp
                go_simp
                exact LeavesR.val rfl (Below.refl _ _) hJ
              | 5, ho, _ =>
                injection ho with ho
                subst ho
                have h0 := hfr.2.2 0 (drawFrM_spec (by kernel_rfl))
                clear hdep hfr
                simp only [Array.getD_eq_getD_getElem?] at h0
                refine .inl ⟨rfl, ?_⟩
                unfold Oper.wp
                go_simp
                exact LeavesR.val rfl (Below.refl _ _) hJ
              | 6, ho, _ =>
                injection ho with ho
                subst ho
                have h6 := hfr.2.2 6 (drawFrM_spec (by kernel_rfl))
                clear hdep hfr
                simp only [Array.getD_eq_getD_getElem?] at h6
                refine .inl ⟨rfl, ?_⟩
                unfold Oper.wp
                go_simp
                exact LeavesR.val rfl (Below.refl _ _) hJ
              | 7, ho, _ =>
                injection ho with ho
                subst ho
                have h39 := hdep ⟨5, .data⟩ (by simp) (by kernel_rfl) _ 39 rfl rfl
                have h40 := hdep ⟨6, .data⟩ (by simp) (by kernel_rfl) _ 40 rfl rfl
                clear hdep hfr
                replace h39 : a.tmps.getD 39 undef = .slice (some ⟨b1, o1, none⟩) n' c := h39
                simp only [Array.getD_eq_getD_getElem?] at h39
                replace h40 : a.tmps.getD 40 undef = .int .i64 kk := h40
                simp only [Array.getD_eq_getD_getElem?] at h40
                refine .inl ⟨rfl, ?_⟩
                unfold Oper.wp
                go_simp
                exact LeavesR.val rfl (Below.refl _ _) hJ
              | 8, ho, _ =>
                injection ho with ho
                subst ho
                have h41 := hdep ⟨7, .data⟩ (by simp) (by kernel_rfl) _ 41 rfl rfl
                clear hdep hfr
                replace h41 : a.tmps.getD 41 undef = .pointer (some ⟨b1, o1 + kk, none⟩) := h41
                simp only [Array.getD_eq_getD_getElem?] at h41
                refine .inl ⟨rfl, ?_⟩
                unfold Oper.wp
                go_simp
                exact LeavesR.val rfl (Below.refl _ _) hJ
              | 9, ho, _ =>
                injection ho with ho
                subst ho
                have h38 := hdep ⟨4, .data⟩ (by simp) (by kernel_rfl) _ 38 rfl rfl
                have h42 := hdep ⟨8, .data⟩ (by simp) (by kernel_rfl) _ 42 rfl rfl
                clear hdep hfr
                replace h38 : a.tmps.getD 38 undef = .int .i64 y := h38
                simp only [Array.getD_eq_getD_getElem?] at h38
                replace h42 : a.tmps.getD 42 undef = .int .i64 x := h42
                simp only [Array.getD_eq_getD_getElem?] at h42
                refine .inl ⟨rfl, ?_⟩
                unfold Oper.wp
                go_simp
                exact LeavesR.val rfl (Below.refl _ _) hJ
              | 10, ho, _ =>
                injection ho with ho
                subst ho
                have h43 := hdep ⟨9, .data⟩ (by simp) (by kernel_rfl) _ 43 rfl rfl
                clear hdep hfr
                replace h43 : a.tmps.getD 43 undef = .int .i64 (x) := h43
                simp only [Array.getD_eq_getD_getElem?] at h43
                refine .inl ⟨rfl, ?_⟩
                unfold Oper.wp
                go_simp
                exact LeavesR.val ⟨_, rfl, Blk.new wa _ _⟩ (alo (Below.refl _ _) _) (alo hJ _)
              | n + 11, _, him => exact absurd him (by omega)
            · intro V w6 hV hJ
              have hV0 := hV 0 _ 34 (by decide) rfl rfl
              replace hV0 : V 0 = v5 := hV0
              have hV1 := hV 1 _ 35 (by decide) rfl rfl
              replace hV1 : V 1 = .slice (some ⟨b2, o2, none⟩) n' c' := hV1
              have hV2 := hV 2 _ 36 (by decide) rfl rfl
              replace hV2 : V 2 = .int .i64 kk := hV2
              have hV3 := hV 3 _ 37 (by decide) rfl rfl
              replace hV3 : V 3 = .pointer (some ⟨b2, o2 + kk, none⟩) := hV3
              have hV4 := hV 4 _ 38 (by decide) rfl rfl
              replace hV4 : V 4 = .int .i64 y := hV4
              have hV5 := hV 5 _ 39 (by decide) rfl rfl
              replace hV5 : V 5 = .slice (some ⟨b1, o1, none⟩) n' c := hV5
              have hV6 := hV 6 _ 40 (by decide) rfl rfl
              replace hV6 : V 6 = .int .i64 kk := hV6
              have hV7 := hV 7 _ 41 (by decide) rfl rfl
              replace hV7 : V 7 = .pointer (some ⟨b1, o1 + kk, none⟩) := hV7
              have hV8 := hV 8 _ 42 (by decide) rfl rfl
              replace hV8 : V 8 = .int .i64 x := hV8
              have hV9 := hV 9 _ 43 (by decide) rfl rfl
              replace hV9 : V 9 = .int .i64 (x) := hV9
              obtain ⟨gE44, hV10, NE44⟩ := hV 10 _ 44 (by decide) rfl rfl
              clear hV
              simp only [puts, List.drop, Act.put, List.getElem?_toArray, List.getElem?_cons_succ, List.getElem?_cons_zero, List.setIfInBounds_toArray, List.set_cons_succ, List.set_cons_zero, hV0, hV1, hV2, hV3, hV4, hV5, hV6, hV7, hV8, hV9, hV10]
              clear hV0 hV1 hV2 hV3 hV4 hV5 hV6 hV7 hV8 hV9 hV10
              have c_qx := qx w6 hJ
              have c_qy := qy w6 hJ
              have hB6 := thn BW.out hJ
              clear hmm
              have own6 := own1.below hJ
              have src6 := Sl.of_blk (xs := [(x)]) NE44 encI (by simp)
              go_wp2_with (at_builtin; refine app_own rfl _ _ appInt rfl encI w.heap.size v5 ((List.zipWith min xs ys).take kk) rfl own6 (some ⟨gE44, 0, none⟩) 1 1 [(x)] rfl (fun e => by cases e) src6 hlen hB6.size ?_; intro v' w9 own5 hg5; have hB5 := belowApp hB6 own6 hg5 (Nat.le_refl _) hB6.size)
              go_roundg (n' - (kk + 1))
              case measure => omega
              case rel => exact ⟨kk + 1, _, by omega, by omega, rfl, by go_num, (show Aside _ from hB5), (show Aside _ from by rw [HT.out]; exact own5), (show Aside _ from all_step AA.out HY.out (decide_eq_true hy0))⟩
          · obtain rfl : y = v := by rw [← hv]; omega
            clear hv
            have hmin' : y ≤ x := by omega
            have hmm : (if x < y then x else y) = y := by split <;> omega
            go_wp2_with fail
            refine region_rel (by kernel_rfl) (fun i v w => relPR v5 b1 o1 n' c b2 o2 n' c' kk x y (y) i v w) (fun w w' => Below w.heap.size w w') (fun _ w' => Below wr.heap.size wr w') 11 _ wr (by kernel_rfl) (by kernel_rfl) (fun i v w w' h hb => relPR_below v5 b1 o1 n' c b2 o2 n' c' kk x y (y) h hb) (fun w => Below.refl _ _) (fun _ _ _ _ h => h) (show Below wr.heap.size wr wr.drew from (Below.refl _ _).drew) ?_ ?_
            · intro i o him ho a wa cc hcc hJ hfr hdep
              have c_qx := qx wa hJ
              have c_qy := qy wa hJ
              skip
              match i, ho, him with
              | 0, ho, _ =>
                injection ho with ho
                subst ho
                have h5 := hfr.2.2 5 (drawFrM_spec (by kernel_rfl))
                clear hdep hfr
                simp only [Array.getD_eq_getD_getElem?] at h5
                refine .inl ⟨rfl, ?_⟩
                unfold Oper.wp
                go_simp
                exact LeavesR.val rfl (Below.refl _ _) hJ
              | 1, ho, _ =>
                injection ho with ho
                subst ho
                have h1 := hfr.2.2 1 (drawFrM_spec (by kernel_rfl))
                clear hdep hfr
                simp only [Array.getD_eq_getD_getElem?] at h1
                refine .inl ⟨rfl, ?_⟩
                unfold Oper.wp
                go_simp
                exact LeavesR.val rfl (Below.refl _ _) hJ
              | 2, ho, _ =>
                injection ho with ho
                subst ho
                have h6 := hfr.2.2 6 (drawFrM_spec (by kernel_rfl))
                clear hdep hfr
                simp only [Array.getD_eq_getD_getElem?] at h6
                refine .inl ⟨rfl, ?_⟩
                unfold Oper.wp
                go_simp
                exact LeavesR.val rfl (Below.refl _ _) hJ
              | 3, ho, _ =>
                injection ho with ho
                subst ho
                have h35 := hdep ⟨1, .data⟩ (by simp) (by kernel_rfl) _ 35 rfl rfl
                have h36 := hdep ⟨2, .data⟩ (by simp) (by kernel_rfl) _ 36 rfl rfl
                clear hdep hfr
                replace h35 : a.tmps.getD 35 undef = .slice (some ⟨b2, o2, none⟩) n' c' := h35
                simp only [Array.getD_eq_getD_getElem?] at h35
                replace h36 : a.tmps.getD 36 undef = .int .i64 kk := h36
                simp only [Array.getD_eq_getD_getElem?] at h36
                refine .inl ⟨rfl, ?_⟩
                unfold Oper.wp
                go_simp
                exact LeavesR.val rfl (Below.refl _ _) hJ
              | 4, ho, _ =>
                injection ho with ho
                subst ho
                have h37 := hdep ⟨3, .data⟩ (by simp) (by kernel_rfl) _ 37 rfl rfl
                clear hdep hfr
                replace h37 : a.tmps.getD 37 undef = .pointer (some ⟨b2, o2 + kk, none⟩) := h37
                simp only [Array.getD_eq_getD_getElem?] at h37
                refine .inl ⟨rfl, ?_⟩
                unfold Oper.wp
                go_simp
                exact LeavesR.val rfl (Below.refl _ _) hJ
              | 5, ho, _ =>
                injection ho with ho
                subst ho
                have h0 := hfr.2.2 0 (drawFrM_spec (by kernel_rfl))
                clear hdep hfr
                simp only [Array.getD_eq_getD_getElem?] at h0
                refine .inl ⟨rfl, ?_⟩
                unfold Oper.wp
                go_simp
                exact LeavesR.val rfl (Below.refl _ _) hJ
              | 6, ho, _ =>
                injection ho with ho
                subst ho
                have h6 := hfr.2.2 6 (drawFrM_spec (by kernel_rfl))
                clear hdep hfr
                simp only [Array.getD_eq_getD_getElem?] at h6
                refine .inl ⟨rfl, ?_⟩
                unfold Oper.wp
                go_simp
                exact LeavesR.val rfl (Below.refl _ _) hJ
              | 7, ho, _ =>
                injection ho with ho
                subst ho
                have h39 := hdep ⟨5, .data⟩ (by simp) (by kernel_rfl) _ 39 rfl rfl
                have h40 := hdep ⟨6, .data⟩ (by simp) (by kernel_rfl) _ 40 rfl rfl
                clear hdep hfr
                replace h39 : a.tmps.getD 39 undef = .slice (some ⟨b1, o1, none⟩) n' c := h39
                simp only [Array.getD_eq_getD_getElem?] at h39
                replace h40 : a.tmps.getD 40 undef = .int .i64 kk := h40
                simp only [Array.getD_eq_getD_getElem?] at h40
                refine .inl ⟨rfl, ?_⟩
                unfold Oper.wp
                go_simp
                exact LeavesR.val rfl (Below.refl _ _) hJ
              | 8, ho, _ =>
                injection ho with ho
                subst ho
                have h41 := hdep ⟨7, .data⟩ (by simp) (by kernel_rfl) _ 41 rfl rfl
                clear hdep hfr
                replace h41 : a.tmps.getD 41 undef = .pointer (some ⟨b1, o1 + kk, none⟩) := h41
                simp only [Array.getD_eq_getD_getElem?] at h41
                refine .inl ⟨rfl, ?_⟩
                unfold Oper.wp
                go_simp
                exact LeavesR.val rfl (Below.refl _ _) hJ
              | 9, ho, _ =>
                injection ho with ho
                subst ho
                have h38 := hdep ⟨4, .data⟩ (by simp) (by kernel_rfl) _ 38 rfl rfl
                have h42 := hdep ⟨8, .data⟩ (by simp) (by kernel_rfl) _ 42 rfl rfl
                clear hdep hfr
                replace h38 : a.tmps.getD 38 undef = .int .i64 y := h38
                simp only [Array.getD_eq_getD_getElem?] at h38
                replace h42 : a.tmps.getD 42 undef = .int .i64 x := h42
                simp only [Array.getD_eq_getD_getElem?] at h42
                refine .inl ⟨rfl, ?_⟩
                unfold Oper.wp
                go_simp
                exact LeavesR.val rfl (Below.refl _ _) hJ
              | 10, ho, _ =>
                injection ho with ho
                subst ho
                have h43 := hdep ⟨9, .data⟩ (by simp) (by kernel_rfl) _ 43 rfl rfl
                clear hdep hfr
                replace h43 : a.tmps.getD 43 undef = .int .i64 (y) := h43
                simp only [Array.getD_eq_getD_getElem?] at h43
                refine .inl ⟨rfl, ?_⟩
                unfold Oper.wp
                go_simp
                exact LeavesR.val ⟨_, rfl, Blk.new wa _ _⟩ (alo (Below.refl _ _) _) (alo hJ _)
              | n + 11, _, him => exact absurd him (by omega)
            · intro V w6 hV hJ
              have hV0 := hV 0 _ 34 (by decide) rfl rfl
              replace hV0 : V 0 = v5 := hV0
              have hV1 := hV 1 _ 35 (by decide) rfl rfl
              replace hV1 : V 1 = .slice (some ⟨b2, o2, none⟩) n' c' := hV1
              have hV2 := hV 2 _ 36 (by decide) rfl rfl
              replace hV2 : V 2 = .int .i64 kk := hV2
              have hV3 := hV 3 _ 37 (by decide) rfl rfl
              replace hV3 : V 3 = .pointer (some ⟨b2, o2 + kk, none⟩) := hV3
              have hV4 := hV 4 _ 38 (by decide) rfl rfl
              replace hV4 : V 4 = .int .i64 y := hV4
              have hV5 := hV 5 _ 39 (by decide) rfl rfl
              replace hV5 : V 5 = .slice (some ⟨b1, o1, none⟩) n' c := hV5
              have hV6 := hV 6 _ 40 (by decide) rfl rfl
              replace hV6 : V 6 = .int .i64 kk := hV6
              have hV7 := hV 7 _ 41 (by decide) rfl rfl
              replace hV7 : V 7 = .pointer (some ⟨b1, o1 + kk, none⟩) := hV7
              have hV8 := hV 8 _ 42 (by decide) rfl rfl
              replace hV8 : V 8 = .int .i64 x := hV8
              have hV9 := hV 9 _ 43 (by decide) rfl rfl
              replace hV9 : V 9 = .int .i64 (y) := hV9
              obtain ⟨gE44, hV10, NE44⟩ := hV 10 _ 44 (by decide) rfl rfl
              clear hV
              simp only [puts, List.drop, Act.put, List.getElem?_toArray, List.getElem?_cons_succ, List.getElem?_cons_zero, List.setIfInBounds_toArray, List.set_cons_succ, List.set_cons_zero, hV0, hV1, hV2, hV3, hV4, hV5, hV6, hV7, hV8, hV9, hV10]
              clear hV0 hV1 hV2 hV3 hV4 hV5 hV6 hV7 hV8 hV9 hV10
              have c_qx := qx w6 hJ
              have c_qy := qy w6 hJ
              have hB6 := thn BW.out hJ
              clear hmm
              have own6 := own1.below hJ
              have src6 := Sl.of_blk (xs := [(y)]) NE44 encI (by simp)
              go_wp2_with (at_builtin; refine app_own rfl _ _ appInt rfl encI w.heap.size v5 ((List.zipWith min xs ys).take kk) rfl own6 (some ⟨gE44, 0, none⟩) 1 1 [(y)] rfl (fun e => by cases e) src6 hlen hB6.size ?_; intro v' w9 own5 hg5; have hB5 := belowApp hB6 own6 hg5 (Nat.le_refl _) hB6.size)
              go_roundg (n' - (kk + 1))
              case measure => omega
              case rel => exact ⟨kk + 1, _, by omega, by omega, rfl, by go_num, (show Aside _ from hB5), (show Aside _ from by rw [HT.out]; exact own5), (show Aside _ from all_step AA.out HY.out (decide_eq_true hy0))⟩
        · have hyn : y < 0 := by omega
          have hB2 := alo BW.out (.cells #[] 3)
          have own2 : Own (wr.alloc (.cells #[] 3)) wr.heap.size 3 1 eI _ ([] : List Int) := Own.of_blk (Blk.new wr 3 #[]) (Nat.le_refl _) encI (by simp [maxLen])
          have HQ := Lib.hid (HNo.out (by unfold needOk; rw [all_fails HY.out (decide_eq_false hy0), Bool.and_false, Bool.and_false]))
          go_wp2
          go_ret
          exact ⟨⟨_, _, _, []⟩, rfl, (own2.okv encI).mono BW.out.size, HQ.out.symm, hB2⟩
      · have hltz : ¬ (kk : Int) < (n' : Int) := by omega
        obtain rfl : n' = kk := by omega
        have HQ := Lib.hid (show (List.zipWith min xs ys).take n' = padRuns xs ys by
          rw [HYes.out (by unfold needOk; rw [HP.out, all_holds hl' AA.out, decide_eq_true (by omega)]; rfl)]
          exact List.take_of_length_le (by rw [List.length_zipWith]; omega))
        generalize (List.zipWith min xs ys).take n' = ll at own1 HQ
        obtain ⟨A9, c9, rfl, hA9, hsl9, hfr9⟩ := own1.sl encI
        go_wp2
        go_ret
        exact ⟨⟨A9, _, c9, ll⟩, rfl, ⟨hsl9, fun g o e => (hfr9 g o e).1, hA9.1, hA9.2⟩, HQ.out, BW.out⟩
  · have HQ := Lib.hid (HNo.out (by
      unfold needOk
      cases hp1 : padOk xs
      · rfl
      · rw [decide_eq_false (fun h => hp ⟨hp1, by omega⟩)]; rfl))
    have hpn : ¬ (n1 = n ∧ n' = n) := fun h => hp ⟨HI.out.1 (by omega), h.2⟩
    obtain ⟨A9, c9, hA, hA9, hsl9, hfr9⟩ := own0.sl encI
    injection hA with hA1 hA2 hA3
    subst hA1 hA3
    clear hp hn1
    by_cases e1 : n1 = n
    · subst e1
      have e2 : ((n' : Int) != (n1 : Int)) = true := by simp; omega
      go_wp2
      go_ret
      exact ⟨⟨_, 0, _, []⟩, rfl, ⟨hsl9, fun g o e => (hfr9 g o e).1, hA9.1, hA9.2⟩, HQ.out.symm, hB1⟩
    · have e2 : ((n1 : Int) != (n : Int)) = true := by simp; omega
      clear hpn
      go_wp2
      go_ret
      exact ⟨⟨_, 0, _, []⟩, rfl, ⟨hsl9, fun g o e => (hfr9 g o e).1, hA9.1, hA9.2⟩, HQ.out.symm, hB1⟩
end Go.Proofs.Ythellpcohdbbfaa
