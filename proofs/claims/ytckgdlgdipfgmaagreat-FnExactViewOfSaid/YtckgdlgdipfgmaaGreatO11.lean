/- What a partition sees, as a list: words and bounds. No program in sight. slices.Concat of two lists of numbers, and bit. slices.Clip at the types that are met. A region that draws its order, by one proof for each operation: an invariant that does not depend on the order. A region that draws its order in its first m operations alone: an invariant for these, then the rest in order. -/
import Derived.Test.YtckgdlgdipfgmaaGreatO1
import Derived.Test.YtckgdlgdipfgmaaGreatO2
import Derived.Test.YtckgdlgdipfgmaaGreatO4
import Derived.Test.YtckgdlgdipfgmaaGreatO10
import Derived.Orders

namespace Go.Proofs.YtckgdlgdipfgmaaGreat
set_option linter.unusedVariables false
set_option linter.unusedSimpArgs false
open Go.RowKit

def bitI (b : Bool) : Int := if b then 1 else 0
theorem bitI_true : bitI true = 1 := rfl
theorem bitI_false : bitI false = 0 := rfl
/-- The messages of a channel, if it leads to n. -/
def msgL (n : Int) (x : ChanT × List Int) : List Int := if x.1.2.2.1 = n then (x.2.length : Int) :: x.2 else []
def msgsL (n : Int) (cs : List ChanT) (hs : List (List Int)) (k : Nat) : List Int := ((cs.zip hs).take k).flatMap (msgL n)
theorem msgsL_zero (n : Int) (cs : List ChanT) (hs : List (List Int)) : msgsL n cs hs 0 = [] := rfl
theorem msgsL_to {n : Int} {cs : List ChanT} {hs : List (List Int)} {k : Nat} {c : ChanT} {h : List Int} (hc : cs[k]? = some c) (hh : hs[k]? = some h) (hn : c.2.2.1 = n) : msgsL n cs hs (k + 1) = (msgsL n cs hs k ++ [(h.length : Int)]) ++ h := by
  have hz : (cs.zip hs)[k]? = some (c, h) := by rw [List.getElem?_zip_eq_some]; exact ⟨hc, hh⟩
  unfold msgsL
  rw [List.take_add_one, hz, List.flatMap_append]
  simp [msgL, hn]
theorem msgsL_not {n : Int} {cs : List ChanT} {hs : List (List Int)} {k : Nat} {c : ChanT} {h : List Int} (hc : cs[k]? = some c) (hh : hs[k]? = some h) (hn : ¬ c.2.2.1 = n) : msgsL n cs hs (k + 1) = msgsL n cs hs k := by
  have hz : (cs.zip hs)[k]? = some (c, h) := by rw [List.getElem?_zip_eq_some]; exact ⟨hc, hh⟩
  unfold msgsL
  rw [List.take_add_one, hz, List.flatMap_append]
  simp [msgL, hn]
theorem msgsL_len {n : Int} {cs : List ChanT} {hs : List (List Int)} (h4 : ∀ h ∈ hs, h.length ≤ 4) : ∀ k, (msgsL n cs hs k).length ≤ 5 * k
  | 0 => by simp [msgsL]
  | k + 1 => by
    have h := msgsL_len (n := n) (cs := cs) h4 k
    cases hz : (cs.zip hs)[k]? with
    | none =>
      unfold msgsL at h ⊢
      rw [List.take_add_one, hz, List.flatMap_append]
      simp only [Option.toList_none, List.flatMap_nil, List.append_nil]
      omega
    | some x =>
      obtain ⟨c, y⟩ := x
      have hy := (List.getElem?_zip_eq_some.1 hz)
      have h9 := h4 y (List.mem_of_getElem? hy.2)
      by_cases e : c.2.2.1 = n
      · rw [msgsL_to hy.1 hy.2 e]
        simp only [List.length_append, List.length_singleton]
        omega
      · rw [msgsL_not hy.1 hy.2 e]
        omega
/-- What core k of a machine shows, and the messages for it. -/
def headL (c : MacC) (n : Int) (k : List Int × Int × Bool) : List Int := k.1 ++ [k.2.1, bitI k.2.2, ownL c.1.2.2 n c.2.2.2.2]
def viewL (c : MacC) (n : Int) : List Int := match c.2.2.1[n.toNat]? with
  | some k => headL c n k ++ msgsL n c.1.2.1 c.2.2.2.1 c.1.2.1.length
  | none => []
def viewC (c : MacC) (n : Int) : List Int := if seenC c n then viewL c n else []
theorem viewL_eq {c : MacC} {n : Int} {k : List Int × Int × Bool} (h : c.2.2.1[n.toNat]? = some k) : viewL c n = headL c n k ++ msgsL n c.1.2.1 c.2.2.2.1 c.1.2.1.length := by unfold viewL; rw [h]
theorem mo_setup {c : MacC} (h : machOkC c = true) : setupOkC c.1 = true := by
  simp only [machOkC, Bool.and_eq_true] at h
  exact (po_out h.1).1
theorem mo_lens {c : MacC} (h : machOkC c = true) : c.2.1.length = c.1.1.length ∧ c.2.2.1.length = c.1.1.length ∧ c.2.2.2.1.length = c.1.2.1.length := by
  simp only [machOkC, Bool.and_eq_true, decide_eq_true_eq] at h
  have := (po_out h.1).2
  exact ⟨this, h.2.1.trans this, h.2.2.1⟩
theorem su_slots {c : SetC} (h : setupOkC c = true) : slotsOk c.2.2 c.1.length = true := by
  simp only [setupOkC, Bool.and_eq_true] at h
  exact h.2.2
theorem su_chans {c : SetC} (h : setupOkC c = true) : chansOk c.2.1 c.1.length = true := by
  simp only [setupOkC, Bool.and_eq_true] at h
  exact h.2.1
theorem su_parts {c : SetC} (h : setupOkC c = true) : partsOkC c.1 = true := by
  simp only [setupOkC, Bool.and_eq_true] at h
  exact h.1
theorem su_np {c : SetC} (h : setupOkC c = true) : c.1.length ≤ 5 := by
  have := su_parts h
  simp only [partsOkC, Bool.and_eq_true, decide_eq_true_eq] at this
  exact this.1
theorem su_nc {c : SetC} (h : setupOkC c = true) : c.2.1.length ≤ 8 := by
  have := su_chans h
  simp only [chansOk, Bool.and_eq_true, decide_eq_true_eq] at this
  omega
theorem mo_tick {c : MacC} (h : machOkC c = true) : 0 ≤ c.2.2.2.2 ∧ c.2.2.2.2 ≤ 100000 := by
  simp only [machOkC, Bool.and_eq_true] at h
  exact inB_true.1 h.2.2.2.2.2
theorem mo_hold4 {c : MacC} (h : machOkC c = true) : ∀ x ∈ c.2.2.2.1, x.length ≤ 4 := by
  simp only [machOkC, Bool.and_eq_true, List.all_eq_true, List.mem_range] at h
  intro x hx
  obtain ⟨k, hk, rfl⟩ := List.getElem_of_mem hx
  have h1 := h.2.2.2.2.1 k hk
  unfold holdAt at h1
  rw [List.getElem?_eq_getElem hk] at h1
  split at h1
  · rename_i y z e1 e2
    injection e1 with e1
    subst e1
    simp only [holdOk, sizedOk, Bool.and_eq_true, Bool.or_eq_true, beq_iff_eq, decide_eq_true_eq] at h1
    rcases h1.1 with h2 | h2
    · omega
    · have := inB_true.1 h2.2; omega
  · cases h1
theorem mo_core8 {c : MacC} (h : machOkC c = true) : ∀ x ∈ c.2.2.1, x.1.length ≤ 8 := by
  have hs := mo_setup h
  simp only [machOkC, Bool.and_eq_true, List.all_eq_true, List.mem_range] at h
  intro x hx
  obtain ⟨k, hk, rfl⟩ := List.getElem_of_mem hx
  have h1 := h.2.2.2.1 k hk
  unfold coreAt at h1
  rw [List.getElem?_eq_getElem hk] at h1
  split at h1
  · rename_i y z u e1 e2 e3
    injection e1 with e1
    subst e1
    have := setup_cells hs e3
    simp only [coreFits, Bool.and_eq_true, decide_eq_true_eq] at h1
    omega
  · cases h1
theorem view_bd {c : MacC} {n : Int} (h : machOkC c = true) (k : Nat) : (msgsL n c.1.2.1 c.2.2.2.1 k).length ≤ 5 * k := msgsL_len (mo_hold4 h) k
theorem seenC_out {c : MacC} {n : Int} (h : seenC c n = true) : machOkC c = true ∧ 0 ≤ n ∧ n < c.2.2.1.length := by
  simp only [seenC, Bool.and_eq_true] at h
  have := inB_true.1 h.2
  exact ⟨h.1, by omega, by omega⟩
theorem viewC_nil {c : MacC} {n : Int} : viewC c n = [] ↔ seenC c n = false := by
  unfold viewC
  cases h : seenC c n
  · simp
  · simp only [if_true]
    obtain ⟨-, h1, h2⟩ := seenC_out h
    obtain ⟨k, hk⟩ : ∃ k, c.2.2.1[n.toNat]? = some k := ⟨_, List.getElem?_eq_getElem (by omega)⟩
    rw [viewL_eq hk]
    simp [headL]
/-- No nil slice with room, among cells and messages. -/
def nlM (m : MacR) : Prop := (∀ x ∈ m.2.2.1.xs, x.1.A = none → x.1.c = 0) ∧ (∀ x ∈ m.2.2.2.1.xs, x.A = none → x.c = 0)
theorem liM.nl {w : World} {base : Nat} {m : MacR} (h : liM w base m) : nlM m := ⟨fun x hx => (h.2.2.1.2 x hx).2.nil, fun x hx => (h.2.2.2.2 x hx).2.nil⟩
/-- SameView: both seen, and the same. -/
def sameViewC (a b : MacC) (n : Int) : Bool := seenC a n && (seenC b n && decide (viewL a n = viewL b n))
theorem sameViewC_spec (a b : MacC) (n : Int) : sameViewC a b n = (!(viewC a n).isEmpty && decide (viewC a n = viewC b n)) := by
  unfold sameViewC
  cases ha : seenC a n
  · rw [viewC_nil.2 ha]; rfl
  · have h1 : (viewC a n).isEmpty = false := by
      cases h : (viewC a n).isEmpty
      · rfl
      · rw [List.isEmpty_iff, viewC_nil, ha] at h; cases h
    rw [h1]
    cases hb : seenC b n
    · have h2 : ¬ viewC a n = viewC b n := by
        rw [viewC_nil.2 hb, viewC_nil, ha]; simp
      rw [decide_eq_false h2]; rfl
    · simp only [viewC, ha, hb, if_true, Bool.true_and, Bool.not_false]
end Go.Proofs.YtckgdlgdipfgmaaGreat

namespace Go.Proofs.YtckgdlgdipfgmaaGreat
set_option linter.unusedVariables false
set_option linter.unusedSimpArgs false
open Go.RowKit

theorem bit_any (b : Bool) (w : World) : Calls Tryz.prog 81 #[.bool b] w fun e w' => .returned (.int .i64 (bitI b)) = e ∧ w = w' := by
  cases b
  · rw [bitI_false]
    go_enter Tryz.func81, Tryz.ntmps81
    go_wp2
    go_ret
    exact ⟨rfl, rfl⟩
  · rw [bitI_true]
    go_enter Tryz.func81, Tryz.ntmps81
    go_wp2
    go_ret
    exact ⟨rfl, rfl⟩
set_option maxRecDepth 100000 in
set_option maxHeartbeats 4000000 in
theorem concatG_any (A A2 : Option Addr) (n c n2 c2 : Nat) (xs ys : List Int) (gb : Nat) (hn : n ≤ 1000) (hn2 : 1 ≤ n2 ∧ n2 ≤ 1000) (hnil : A = none → c = 0) (hnil2 : A2 = none → c2 = 0) (w : World) (hs : Sl w 1 eI A n c xs) (hs2 : Sl w 1 eI A2 n2 c2 ys) (hB : Blk w gb 47 #[.slice A n c, .slice A2 n2 c2]) :
    Calls Tryz.prog 90 #[.slice (some ⟨gb, 0, none⟩) 2 2] w (Post (fun v => v) fun v w' => Own w' w.heap.size 3 1 eI v (xs ++ ys) ∧ Below w.heap.size w w') := by
  have hle := hs.le
  have hmax := hs.max
  have HL := Lib.hid hs.len
  have hle2 := hs2.le
  have hmax2 := hs2.max
  have hGr := fun W => growI_any (n + n2) (by omega) W
  simp only [Int.natCast_add, Int.cast_ofNat_Int] at hGr
  have c0 := hB.c0
  have c1 := hB.c1
  have hltB := hB.lt
  go_enter Tryz.func90, Tryz.ntmps90
  go_wp2_with fail
  go_loopg [3, 11] 2 (fun gg s3 s11 wr => ∃ kk : Nat, kk ≤ 2 ∧ 2 - kk ≤ gg ∧ s3 = .int .i64 (if kk = 0 then 0 else if kk = 1 then (n : Int) else (n : Int) + (n2 : Int)) ∧ s11 = .int .i64 kk ∧ Aside (w = wr))
  case atStart => exact ⟨0, by omega, by omega, rfl, rfl, (show Aside _ from rfl)⟩
  case round =>
    obtain ⟨kk, hkk, hg, rfl, rfl, BW⟩ := hrel
    obtain rfl := BW.out
    have hcase : kk = 0 ∨ kk = 1 ∨ kk = 2 := by omega
    rcases hcase with rfl | rfl | rfl
    · simp only [if_true]
      go_wp2
      go_roundg 1
      case measure => omega
      case rel => exact ⟨1, by omega, by omega, by simp, by go_num, (show Aside _ from rfl)⟩
    · simp only [Nat.one_ne_zero, if_false, if_true]
      go_wp2
      go_roundg 0
      case measure => omega
      case rel => exact ⟨2, by omega, by omega, by simp, by go_num, (show Aside _ from rfl)⟩
    · simp only [show ¬ (2 : Nat) = 0 by omega, show ¬ (2 : Nat) = 1 by omega, if_false]
      go_wp2_with fail
      refine (hGr _).mono ?_
      rintro e w1 ⟨v, rfl, own1, hb1⟩
      clear hGr
      have hw1 := hb1.size
      have hB1 := hB.below hb1
      have sl1 := hs.below hb1
      have sl2 := hs2.below hb1
      have ltA : 0 < n → ∀ b o, A = some ⟨b, o, none⟩ → b < w.heap.size := fun h b o e => by
        obtain ⟨b', o', e', h', -⟩ := hs.cells h
        rw [e] at e'
        injection e' with e'
        injection e' with e1 _
        omega
      go_wp2_with fail
      go_loopg [6, 27] 2 (fun gg s6 s27 wr => ∃ (kk : Nat) (v : Value), kk ≤ 2 ∧ 2 - kk ≤ gg ∧ s6 = v ∧ s27 = .int .i64 kk ∧ Aside (Below w.heap.size w wr) ∧ Aside (Own wr w.heap.size 3 1 eI v (if kk = 0 then [] else if kk = 1 then xs else xs ++ ys)))
      case atStart => exact ⟨0, _, by omega, by omega, rfl, rfl, (show Aside _ from hb1), (show Aside _ from own1)⟩
      case round =>
        obtain ⟨kk, v6, hkk, hg, hv6, rfl, BW, OW⟩ := hrel
        subst hv6
        have own6 := OW.out
        have hbw := BW.out
        clear OW BW
        have hB1 := hB.below hbw
        have sl1 := hs.below hbw
        have sl2 := hs2.below hbw
        have d0 := hB1.c0
        have d1 := hB1.c1
        have hcase : kk = 0 ∨ kk = 1 ∨ kk = 2 := by omega
        rcases hcase with rfl | rfl | rfl
        · simp only [if_true] at own6
          go_wp2_with (at_builtin; refine app_own rfl _ _ appInt rfl encI w.heap.size _ [] rfl own6 _ _ _ xs rfl hnil sl1 (by simp; omega) hbw.size ?_; intro v7 w7 own7 hg7; have hb7 := belowApp hbw own6 hg7 (Nat.le_refl _) hbw.size; simp only [List.nil_append] at own7)
          go_roundg 1
          case measure => omega
          case rel => exact ⟨1, _, by omega, by omega, rfl, by go_num, (show Aside _ from hb7), (show Aside _ from own7)⟩
        · simp only [Nat.one_ne_zero, if_false, if_true] at own6
          have hlen : xs.length + n2 ≤ 100000000 := by rw [HL.out]; omega
          go_wp2_with (at_builtin; refine app_own rfl _ _ appInt rfl encI w.heap.size _ xs rfl own6 _ _ _ ys rfl hnil2 sl2 hlen hbw.size ?_; intro v7 w7 own7 hg7; have hb7 := belowApp hbw own6 hg7 (Nat.le_refl _) hbw.size)
          go_roundg 0
          case measure => omega
          case rel => exact ⟨2, _, by omega, by omega, rfl, by go_num, (show Aside _ from hb7), (show Aside _ from own7)⟩
        · simp only [show ¬ (2 : Nat) = 0 by omega, show ¬ (2 : Nat) = 1 by omega, if_false] at own6
          go_wp2
          go_ret
          exact ⟨_, rfl, own6, hbw⟩
end Go.Proofs.YtckgdlgdipfgmaaGreat

namespace Go.Proofs.YtckgdlgdipfgmaaGreat
set_option linter.unusedVariables false
set_option linter.unusedSimpArgs false
open Go.RowKit

theorem slN {α : Type} (w : World) (k : Nat) (enc : α → List Value) : Sl w k enc none 0 0 ([] : List α) := ⟨rfl, Nat.le_refl _, by omega, fun h => absurd h (by omega)⟩
theorem okNil {α : Type} (w : World) (b k : Nat) (enc : α → List Value) : SV.ok w b k enc ⟨none, 0, 0, ([] : List α)⟩ := ⟨slN w k enc, (fun b o e => by cases e), (fun _ => rfl), (fun _ e => by cases e)⟩
theorem clipInt_any (A : Option Addr) (n c : Nat) (hle : n ≤ c) (hmax : c ≤ 9223372036854775807) (hnil : A = none → c = 0) (w : World) :
    Calls Tryz.prog 82 #[.slice A n c] w fun e w' => .returned (.slice A n n) = e ∧ w = w' := by
  cases A with
  | none =>
    obtain rfl : c = 0 := hnil rfl
    obtain rfl : n = 0 := by omega
    clear hnil
    go_enter Tryz.func82, Tryz.ntmps82
    go_wp2
    go_ret
    exact ⟨rfl, rfl⟩
  | some a =>
    clear hnil
    go_enter Tryz.func82, Tryz.ntmps82
    go_wp2
    go_ret
    exact ⟨by simp, rfl⟩
end Go.Proofs.YtckgdlgdipfgmaaGreat

namespace Go.Proofs.YtckgdlgdipfgmaaGreat
set_option linter.unusedVariables false
set_option linter.unusedSimpArgs false
open Go.RowKit

section
variable {P : Program} {ops : Array Oper} {Q : Exit → Act → World → Prop} {md : Region.Mode}

/-- How many operations are still to come. -/
def left (listed : Array Bool) : Nat := (listed.toList.filter (! ·)).length

theorem filter_set (l : List Bool) : ∀ i, l[i]? = some false → ((l.set i true).filter (! ·)).length + 1 = (l.filter (! ·)).length := by
  induction l with
  | nil => intro i h; simp at h
  | cons x l ih =>
    intro i h
    cases i with
    | zero => simp at h; subst h; simp
    | succ i =>
      have := ih i (by simpa using h)
      cases x <;> simp <;> omega

theorem left_set {listed : Array Bool} {i : Nat} (h : listed.getD i true = false) : left (listed.setIfInBounds i true) + 1 = left listed := by
  have hi : listed.toList[i]? = some false := by
    rcases Nat.lt_or_ge i listed.size with h' | h'
    · simp [h'] at h ⊢; exact h
    · simp [Array.getElem?_eq_none h'] at h
  unfold left
  rw [Array.toList_setIfInBounds]
  exact filter_set _ _ hi

theorem unlisted_ready (hback : ∀ (i : Nat) (o : Oper), ops[i]? = some o → ∀ e ∈ o.after, Region.binds md e = true → e.on < i) {listed : Array Bool} (hr : Region.ready md ops listed = []) :
    ∀ i, i < ops.size → listed.getD i true = true := by
  intro i
  induction i using Nat.strongRecOn with
  | ind i ih =>
    intro hi
    cases hl : listed.getD i true with
    | true => rfl
    | false =>
      have : i ∈ Region.ready md ops listed := by
        rw [mem_ready]
        refine ⟨hl, ops[i], Array.getElem?_eq_getElem hi, fun e he hbe => ?_⟩
        have h1 := hback i _ (Array.getElem?_eq_getElem hi) e he hbe
        have h2 := ih e.on h1 (by omega)
        by_cases h3 : e.on < listed.size
        · simp [h3] at h2 ⊢; exact h2
        · exfalso
          have h4 : listed.size ≤ i := by omega
          simp [Array.getElem?_eq_none h4] at hl
      rw [hr] at this
      cases this

theorem wpAny_inv (I : Array Bool → Act → World → Prop)
    (hstep : ∀ listed a w i, I listed a w → i ∈ Region.ready md ops listed → wpOp P ops Q i (I (listed.setIfInBounds i true)) a w)
    (hend : ∀ listed a w, I listed a w → Region.ready md ops listed = [] → Q .normal a w) :
    ∀ fuel listed a w, left listed ≤ fuel → I listed a w → wpAny P md ops Q fuel listed a w := by
  intro fuel
  induction fuel with
  | zero =>
    intro listed a w hl hI
    have hr : Region.ready md ops listed = [] := by
      rw [List.eq_nil_iff_forall_not_mem]
      intro i hi
      have := left_set (mem_ready.1 hi).1
      omega
    exact ⟨hr, hend _ _ _ hI hr⟩
  | succ fuel ih =>
    intro listed a w hl hI
    refine ⟨hend _ _ _ hI, fun i hi => wpOp_mono (fun a' w' h => ih _ a' w' ?_ h) (hstep _ _ _ _ hI hi)⟩
    have := left_set (mem_ready.1 hi).1
    omega

theorem getD_put_same (a : Act) (d : Nat) (v : Value) (h : d < a.tmps.size) : (a.put (some d) v).tmps.getD d undef = v := by
  simp [Act.put, h]
theorem getD_put_ne (a : Act) (d : Option Nat) (k : Nat) (v : Value) (h : d ≠ some k) : (a.put d v).tmps.getD k undef = a.tmps.getD k undef := by
  cases d with
  | none => rfl
  | some d =>
    have : d ≠ k := fun e => h (by rw [e])
    simp [Act.put, Array.getElem?_setIfInBounds_ne this]

/-- What is known of the frame while the region runs: the slots that it does not write. -/
def Frm (ops : Array Oper) (a0 a : Act) : Prop :=
  a.defers = a0.defers ∧ a.tmps.size = a0.tmps.size ∧ ∀ k, (∀ (i : Nat) (o : Oper), ops[i]? = some o → o.dst ≠ some k) → a.tmps.getD k undef = a0.tmps.getD k undef

/-- What an operation leaves. -/
def Leaves (F : Nat → Value → World → Prop) (r T : Nat) (i : Nat) (o : Oper) (a : Act) (w : World) (b : Int) (a' : Act) (w' : World) : Prop :=
  ∃ v, a' = a.put o.dst v ∧ (∀ d, o.dst = some d → F i v w') ∧ w.grownBy w' (some r) ∧ Rd w' r T (b + 1)

theorem Leaves.val {F : Nat → Value → World → Prop} {r T i : Nat} {o : Oper} {a : Act} {w : World} {b : Int} {v : Value} {w' : World} (hF : F i v w') (hs : Stp r T w (b + 1) w') :
    Leaves F r T i o a w b (a.put o.dst v) w' := ⟨v, rfl, fun _ _ => hF, hs.grown, hs.rd⟩

/-- No operation writes slot k. -/
def drawFr (ops : Array Oper) (k : Nat) : Bool := ops.all fun o => !(o.dst == some k)
theorem drawFr_spec {ops : Array Oper} {k : Nat} (h : drawFr ops k = true) (i : Nat) (o : Oper) (ho : ops[i]? = some o) : o.dst ≠ some k := by
  have := Array.all_eq_true_iff_forall_mem.1 h o (Array.mem_of_getElem? ho)
  simpa using this

/-- The closed facts on the operations, by reckoning. -/
def drawChk (ops : Array Oper) (N : Nat) : Bool :=
  (List.range ops.size).all fun i => match ops[i]? with
    | none => true
    | some o => o.after.all (fun e => !Region.binds .any e || decide (e.on < i)) && o.guard.isNone && (match o.dst with
      | none => true
      | some d => decide (d < N) && (List.range ops.size).all fun j => match ops[j]? with
        | none => true
        | some y => !(y.dst == some d) || decide (j = i))
theorem drawChk_spec {ops : Array Oper} {N : Nat} (h : drawChk ops N = true) (i : Nat) (o : Oper) (ho : ops[i]? = some o) :
    (∀ e ∈ o.after, Region.binds .any e = true → e.on < i) ∧ o.guard = none ∧ ∀ d, o.dst = some d → d < N ∧ ∀ j y, ops[j]? = some y → y.dst = some d → i = j := by
  have hi : i < ops.size := (Array.getElem?_eq_some_iff.1 ho).1
  unfold drawChk at h
  rw [List.all_eq_true] at h
  have h1 := h i (List.mem_range.2 hi)
  rw [ho] at h1
  simp only [Bool.and_eq_true] at h1
  obtain ⟨⟨h2, h3⟩, h4⟩ := h1
  refine ⟨fun e he hbe => ?_, by simpa using h3, fun d hd => ?_⟩
  · have := Array.all_eq_true_iff_forall_mem.1 h2 e he
    simpa [hbe] using this
  · rw [hd] at h4
    simp only [Bool.and_eq_true, decide_eq_true_eq] at h4
    refine ⟨h4.1, fun j y hy hyd => ?_⟩
    have hj : j < ops.size := (Array.getElem?_eq_some_iff.1 hy).1
    have h5 := List.all_eq_true.1 h4.2 j (List.mem_range.2 hj)
    rw [hy] at h5
    simp [hyd] at h5
    exact h5.symm

/-- The last operation waits for every other one. -/
def lastChk (ops : Array Oper) (m : Nat) : Bool := decide (ops.size = m + 1) && match ops[m]? with
  | none => false
  | some o => (List.range m).all fun j => o.after.any fun e => Region.binds .any e && (e.on == j)

theorem region_draws {id : Nat} (hm : P.follows .mixedOrders = true) (F : Nat → Value → World → Prop) (r T m : Nat) (a0 : Act) (w0 w : World) (b : Int)
    (hchk : drawChk ops a0.tmps.size = true) (hlast : lastChk ops m = true)
    (hF : ∀ i v w w', F i v w → w.grownBy w' (some r) → F i v w')
    (hS : Stp r T w0 b w)
    (hob : ∀ (i : Nat) (o : Oper), i < m → ops[i]? = some o → ∀ (a : Act) (w : World) (b' : Int), b' ≤ b + m → Stp r T w0 b' w → Frm ops a0 a →
      (∀ e ∈ o.after, Region.binds .any e = true → ∀ oj d, ops[e.on]? = some oj → oj.dst = some d → F e.on (a.tmps.getD d undef) w) →
      o.wp P a w (Leaves F r T i o a w b') Q)
    (hend : ∀ (o : Oper), ops[m]? = some o → ∀ (a : Act) (w : World), Frm ops a0 a → (∀ (i : Nat) (x : Oper) (d : Nat), i < m → ops[i]? = some x → x.dst = some d → F i (a.tmps.getD d undef) w) → Stp r T w0 (b + m) w →
      o.wp P a w (fun a' w' => Q .normal a' w') Q) :
    (Code.region id ops true).wp P Q a0 w := by
  have hback : ∀ (i : Nat) (o : Oper), ops[i]? = some o → ∀ e ∈ o.after, Region.binds .any e = true → e.on < i := fun i o ho => (drawChk_spec hchk i o ho).1
  have hdst : ∀ (i j : Nat) (x y : Oper) (d : Nat), ops[i]? = some x → ops[j]? = some y → x.dst = some d → y.dst = some d → i = j := fun i j x y d hx hy hxd hyd => ((drawChk_spec hchk i x hx).2.2 d hxd).2 j y hy hyd
  have hlt : ∀ (i : Nat) (x : Oper) (d : Nat), ops[i]? = some x → x.dst = some d → d < a0.tmps.size := fun i x d hx hd => ((drawChk_spec hchk i x hx).2.2 d hd).1
  have hguard : ∀ (i : Nat) (x : Oper), ops[i]? = some x → x.guard = none := fun i x hx => (drawChk_spec hchk i x hx).2.1
  unfold lastChk at hlast
  rw [Bool.and_eq_true, decide_eq_true_eq] at hlast
  obtain ⟨hsize, hl⟩ := hlast
  have hm0 : ops[m]? = some (ops[m]'(by omega)) := Array.getElem?_eq_getElem (by omega)
  rw [hm0] at hl
  simp only [List.all_eq_true, List.mem_range] at hl
  refine wp_region_any hm ?_
  refine wpAny_inv (fun listed a w' => listed.size = ops.size ∧ ((listed.getD m true = true ∧ (∀ j, j < m → listed.getD j false = true) ∧ Q .normal a w') ∨ (listed.getD m true = false ∧ Frm ops a0 a ∧
      (∀ (i : Nat) (o : Oper) (d : Nat), listed.getD i false = true → ops[i]? = some o → o.dst = some d → F i (a.tmps.getD d undef) w') ∧
      ∃ c : Nat, c + left listed ≤ ops.size ∧ Stp r T w0 (b + c) w'))) ?_ ?_ _ _ _ _ ?_ ?_
  · intro listed a w' i ⟨hsz, hI⟩ hi
    obtain ⟨hun, o, ho, hdep⟩ := mem_ready.1 hi
    have him : i < ops.size := (Array.getElem?_eq_some_iff.1 ho).1
    unfold wpOp
    have hw : Region.wanted o (yielded ops a.tmps) = true := by simp [Region.wanted, hguard i o ho]
    simp only [ho, hw, if_true]
    left
    rcases hI with ⟨h1, h2, _⟩ | ⟨hlm, hfr, hv, c, hc, hS'⟩
    · exfalso
      by_cases e : i = m
      · subst e; rw [h1] at hun; cases hun
      · have h3 := h2 i (by omega)
        have h4 : i < listed.size := by omega
        simp [h4] at h3 hun
        rw [h3] at hun; cases hun
    · have hll := left_set hun
      by_cases e : i = m
      · subst e
        have hoe : o = ops[i] := by rw [hm0] at ho; injection ho with ho; exact ho.symm
        have hall : ∀ j, j < i → listed.getD j false = true := by
          intro j hj
          obtain ⟨e, he, hb⟩ := Array.any_eq_true'.1 (hl j hj)
          simp only [Bool.and_eq_true, beq_iff_eq] at hb
          have := hdep e (by rw [hoe]; exact he) hb.1
          rwa [hb.2] at this
        have hl1 : 1 ≤ left listed := by omega
        refine Oper.wp_mono ?_ (hend o ho a w' hfr (fun j x d hj hx hd => hv j x d (hall j hj) hx hd) (hS'.le (by omega)))
        intro a' w'' hq
        refine ⟨by simpa using hsz, .inl ⟨?_, fun j hj => ?_, hq⟩⟩
        · have : i < listed.size := by omega
          simp [this]
        · rw [getD_set_ne false (by omega)]; exact hall j hj
      · refine Oper.wp_mono ?_ (hob i o (by omega) ho a w' (b + c) (by omega) hS' hfr (fun e he hb oj d hoj hd => hv e.on oj d (hdep e he hb) hoj hd))
        rintro a' w'' ⟨v, rfl, hFv, hg, hrd⟩
        refine ⟨by simpa using hsz, .inr ⟨by rw [getD_set_ne true e]; exact hlm, ⟨?_, ?_, ?_⟩, ?_, c + 1, by omega, ?_⟩⟩
        · rw [← hfr.1]; cases o.dst <;> rfl
        · rw [← hfr.2.1]; cases o.dst <;> simp [Act.put]
        · intro k hk
          rw [getD_put_ne _ _ _ _ (hk i o ho)]
          exact hfr.2.2 k hk
        · intro j oj d hj hoj hd
          by_cases e : j = i
          · subst e
            rw [ho] at hoj
            injection hoj with hoj
            subst hoj
            rw [hd, getD_put_same _ _ _ (by rw [hfr.2.1]; exact hlt j o d ho hd)]
            exact hFv d hd
          · rw [getD_put_ne _ _ _ _ (fun h => e (hdst j i oj o d hoj ho hd h))]
            refine hF j _ w' w'' (hv j oj d ?_ hoj hd) hg
            rwa [getD_set_ne false (Ne.symm e)] at hj
        · exact ⟨grown_trans hS'.grown hg, by have h2 : (b + ((c + 1 : Nat) : Int)) = b + c + 1 := by omega
                                              rw [h2]; exact hrd⟩
  · intro listed a w' ⟨hsz, hI⟩ hr
    rcases hI with ⟨_, _, hq⟩ | ⟨hlm, _⟩
    · exact hq
    · have := unlisted_ready hback hr m (by omega)
      rw [hlm] at this; cases this
  · unfold left
    simp
  · refine ⟨by simp, .inr ⟨by have : m < ops.size := by omega
                              simp [this], ⟨rfl, rfl, fun _ _ => rfl⟩, fun i o d hi => ?_, 0, ?_, ?_⟩⟩
    · exfalso
      rcases Nat.lt_or_ge i ops.size with h | h
      · simp [h] at hi
      · simp [h] at hi
    · unfold left
      simp
    · simpa using hS.drew
end
end Go.Proofs.YtckgdlgdipfgmaaGreat

namespace Go.Proofs.YtckgdlgdipfgmaaGreat
set_option linter.unusedVariables false
set_option linter.unusedSimpArgs false
open Go.RowKit

section
variable {P : Program} {ops : Array Oper} {Q : Exit → Act → World → Prop}

/-- The frame behind the first k operations, their values given. -/
def puts (ops : Array Oper) (a0 : Act) (V : Nat → Value) : Nat → Act
  | 0 => a0
  | k + 1 => match ops[k]? with
    | some o => (puts ops a0 V k).put o.dst (V k)
    | none => puts ops a0 V k
/-- Operation i waits for operation j, directly or through others. -/
def reachB (ops : Array Oper) : Nat → Nat → Nat → Bool
  | 0, _, _ => false
  | f + 1, i, j => match ops[i]? with
    | none => false
    | some o => o.after.any fun e => Region.binds .any e && (e.on == j || reachB ops f e.on j)
/-- Behind operation m - 1 each operation waits for all before it. -/
def tailChk (ops : Array Oper) (m : Nat) : Bool := decide (m ≤ ops.size) && (List.range ops.size).all fun i => decide (i < m) || (List.range i).all fun j => reachB ops ops.size i j
/-- What is listed is closed under waiting. -/
def Closed (ops : Array Oper) (listed : Array Bool) : Prop := ∀ (k : Nat) (o : Oper), listed.getD k false = true → ops[k]? = some o → ∀ e ∈ o.after, Region.binds .any e = true → listed.getD e.on false = true
theorem reach_listed {listed : Array Bool} (hc : Closed ops listed) : ∀ (f i j : Nat) (o : Oper), ops[i]? = some o → (∀ e ∈ o.after, Region.binds .any e = true → listed.getD e.on false = true) → reachB ops f i j = true → listed.getD j false = true
  | 0, i, j, o, ho, hd, h => by simp [reachB] at h
  | f + 1, i, j, o, ho, hd, h => by
    unfold reachB at h
    rw [ho] at h
    obtain ⟨e, he, hb⟩ := Array.any_eq_true'.1 h
    simp only [Bool.and_eq_true, Bool.or_eq_true, beq_iff_eq] at hb
    rcases hb.2 with h1 | h1
    · rw [← h1]; exact hd e he hb.1
    · have h2 := hd e he hb.1
      cases ho' : ops[e.on]? with
      | none =>
        cases f with
        | zero => simp [reachB] at h1
        | succ f => unfold reachB at h1; rw [ho'] at h1; cases h1
      | some o' => exact reach_listed hc f e.on j o' ho' (hc e.on o' h2 ho') h1
/-- What is known of the frame: the slots that no listed operation writes. -/
def FrmL (ops : Array Oper) (listed : Array Bool) (a0 a : Act) : Prop :=
  a.defers = a0.defers ∧ a.tmps.size = a0.tmps.size ∧ ∀ k, (∀ (i : Nat) (o : Oper), listed.getD i true = true → ops[i]? = some o → o.dst ≠ some k) → a.tmps.getD k undef = a0.tmps.getD k undef

theorem puts_defers (a0 : Act) (V : Nat → Value) (k : Nat) : (puts ops a0 V k).defers = a0.defers := by
  induction k with
  | zero => rfl
  | succ k ih =>
    unfold puts
    split
    · rename_i o _; rw [← ih]; cases o.dst <;> rfl
    · exact ih
theorem puts_size (a0 : Act) (V : Nat → Value) (k : Nat) : (puts ops a0 V k).tmps.size = a0.tmps.size := by
  induction k with
  | zero => rfl
  | succ k ih =>
    unfold puts
    split
    · rename_i o _; rw [← ih]; cases o.dst <;> simp [Act.put]
    · exact ih
theorem puts_none (a0 : Act) (V : Nat → Value) (d k : Nat) (h : ∀ (i : Nat) (o : Oper), i < k → ops[i]? = some o → o.dst ≠ some d) : (puts ops a0 V k).tmps.getD d undef = a0.tmps.getD d undef := by
  induction k with
  | zero => rfl
  | succ k ih =>
    unfold puts
    split
    · rename_i o ho; rw [getD_put_ne _ _ _ _ (h k o (Nat.lt_succ_self _) ho)]; exact ih fun i o hi => h i o (by omega)
    · exact ih fun i o hi => h i o (by omega)
theorem puts_some (a0 : Act) (V : Nat → Value) (d k i : Nat) (o : Oper) (hi : i < k) (ho : ops[i]? = some o) (hd : o.dst = some d) (hlt : d < a0.tmps.size)
    (hu : ∀ (j : Nat) (y : Oper), ops[j]? = some y → y.dst = some d → i = j) : (puts ops a0 V k).tmps.getD d undef = V i := by
  induction k with
  | zero => omega
  | succ k ih =>
    unfold puts
    by_cases e : i = k
    · subst e
      rw [ho]
      simp only [hd]
      exact getD_put_same _ _ _ (by rw [puts_size]; exact hlt)
    · split
      · rename_i y hy
        rw [getD_put_ne _ _ _ _ (fun h => e (hu k y hy h))]
        exact ih (by omega)
      · exact ih (by omega)
theorem act_ext {a b : Act} (h1 : a.defers = b.defers) (h2 : a.tmps.size = b.tmps.size) (h3 : ∀ k, a.tmps.getD k undef = b.tmps.getD k undef) : a = b := by
  obtain ⟨t, d⟩ := a
  obtain ⟨t', d'⟩ := b
  simp only at h1 h2 h3
  subst h1
  congr 1
  apply Array.ext h2
  intro i hi hi'
  have := h3 i
  simp only [Array.getD_eq_getD_getElem?, Array.getElem?_eq_getElem hi, Array.getElem?_eq_getElem hi', Option.getD_some] at this
  exact this

/-- How many of the first m are still to come. -/
def cnt (listed : Array Bool) (m : Nat) : Nat := ((List.range m).filter fun j => !listed.getD j true).length
theorem cnt_set {listed : Array Bool} {i : Nat} (h : listed.getD i true = false) : ∀ m, i < m → cnt (listed.setIfInBounds i true) m + 1 = cnt listed m := by
  have hsame : ∀ m, m ≤ i → cnt (listed.setIfInBounds i true) m = cnt listed m := by
    intro m hm
    unfold cnt
    congr 1
    refine List.filter_congr fun j hj => ?_
    rw [getD_set_ne true (by have := List.mem_range.1 hj; omega)]
  intro m
  induction m with
  | zero => intro hi; omega
  | succ m ih =>
    intro hi
    have hil : i < listed.size := by
      rcases Nat.lt_or_ge i listed.size with h' | h'
      · exact h'
      · simp [Array.getElem?_eq_none h'] at h
    by_cases e : i = m
    · subst e
      have := hsame i (Nat.le_refl _)
      unfold cnt at this ⊢
      rw [List.range_succ, List.filter_append, List.filter_append, List.length_append, List.length_append, this]
      have h1 : (listed.setIfInBounds i true).getD i true = true := by simp [hil]
      have h2 : List.filter (fun j => !(listed.setIfInBounds i true).getD j true) [i] = [] := by rw [List.filter_cons, h1]; rfl
      have h3 : List.filter (fun j => !listed.getD j true) [i] = [i] := by rw [List.filter_cons, h]; rfl
      rw [h2, h3]
      rfl
    · have := ih (by omega)
      unfold cnt at this ⊢
      rw [List.range_succ, List.filter_append, List.filter_append, List.length_append, List.length_append]
      have h1 : (listed.setIfInBounds i true).getD m true = listed.getD m true := getD_set_ne true e
      have h2 : List.filter (fun j => !(listed.setIfInBounds i true).getD j true) [m] = List.filter (fun j => !listed.getD j true) [m] := by rw [List.filter_cons, List.filter_cons, h1]; rfl
      rw [h2]
      omega
theorem cnt_zero {listed : Array Bool} {m : Nat} (h : ∀ j, j < m → listed.getD j true = true) : cnt listed m = 0 := by
  unfold cnt
  rw [List.length_eq_zero_iff, List.filter_eq_nil_iff]
  intro j hj
  rw [h j (List.mem_range.1 hj)]
  simp

theorem region_prefix {id : Nat} (hm : P.follows .mixedOrders = true) (F : Nat → Value → World → Prop) (r T m : Nat) (a0 : Act) (w0 w : World) (b : Int)
    (hchk : drawChk ops a0.tmps.size = true) (htail : tailChk ops m = true)
    (hF : ∀ i v w w', F i v w → w.grownBy w' (some r) → F i v w')
    (hS : Stp r T w0 b w)
    (hob : ∀ (i : Nat) (o : Oper), i < m → ops[i]? = some o → ∀ (a : Act) (w : World) (b' : Int), b' ≤ b + m → Stp r T w0 b' w → Frm ops a0 a →
      (∀ e ∈ o.after, Region.binds .any e = true → ∀ oj d, ops[e.on]? = some oj → oj.dst = some d → F e.on (a.tmps.getD d undef) w) →
      o.wp P a w (Leaves F r T i o a w b') Q)
    (hend : ∀ (V : Nat → Value) (w : World), (∀ (i : Nat) (x : Oper) (d : Nat), i < m → ops[i]? = some x → x.dst = some d → F i (V i) w) → Stp r T w0 (b + m) w →
      wpList P ops Q (ops.toList.drop m) (puts ops a0 V m) w) :
    (Code.region id ops true).wp P Q a0 w := by
  have hback : ∀ (i : Nat) (o : Oper), ops[i]? = some o → ∀ e ∈ o.after, Region.binds .any e = true → e.on < i := fun i o ho => (drawChk_spec hchk i o ho).1
  have hdst : ∀ (i j : Nat) (x y : Oper) (d : Nat), ops[i]? = some x → ops[j]? = some y → x.dst = some d → y.dst = some d → i = j := fun i j x y d hx hy hxd hyd => ((drawChk_spec hchk i x hx).2.2 d hxd).2 j y hy hyd
  have hlt : ∀ (i : Nat) (x : Oper) (d : Nat), ops[i]? = some x → x.dst = some d → d < a0.tmps.size := fun i x d hx hd => ((drawChk_spec hchk i x hx).2.2 d hd).1
  have hguard : ∀ (i : Nat) (x : Oper), ops[i]? = some x → x.guard = none := fun i x hx => (drawChk_spec hchk i x hx).2.1
  unfold tailChk at htail
  rw [Bool.and_eq_true, decide_eq_true_eq] at htail
  obtain ⟨hms, hl⟩ := htail
  have hwait : ∀ (listed : Array Bool) (i : Nat) (o : Oper), Closed ops listed → m ≤ i → ops[i]? = some o → (∀ e ∈ o.after, Region.binds .any e = true → listed.getD e.on false = true) → ∀ j, j < i → listed.getD j false = true := by
    intro listed i o hc hi ho hd j hj
    have hi' : i < ops.size := (Array.getElem?_eq_some_iff.1 ho).1
    have h1 := List.all_eq_true.1 hl i (List.mem_range.2 hi')
    simp only [Bool.or_eq_true, decide_eq_true_eq] at h1
    rcases h1 with h1 | h1
    · omega
    · exact reach_listed hc ops.size i j o ho hd (List.all_eq_true.1 h1 j (List.mem_range.2 hj))
  have hrest : ∀ k, wpOps P ops Q (List.range' k (ops.size - k)) = wpList P ops Q (ops.toList.drop k) := by
    intro k
    have h1 := wpOps_eq_wpList (P := P) (ops := ops) (Q := Q) (ops.toList.drop k) k (fun j => by simp)
    rw [← h1]
    simp
  -- what holds when all the first m are listed
  have hgo : ∀ (listed : Array Bool) (a : Act) (w' : World), (∀ j, j < m → listed.getD j true = true) → (∀ j, m ≤ j → j < ops.size → listed.getD j true = false) → FrmL ops listed a0 a →
      (∀ (i : Nat) (o : Oper) (d : Nat), listed.getD i false = true → ops[i]? = some o → o.dst = some d → F i (a.tmps.getD d undef) w') → listed.size = ops.size → Stp r T w0 (b + m) w' →
      wpOps P ops Q (List.range' m (ops.size - m)) a w' := by
    intro listed a w' h1 h2 hfr hv hsz hS'
    rw [hrest]
    let V : Nat → Value := fun i => match ops[i]? with
      | some o => match o.dst with
        | some d => a.tmps.getD d undef
        | none => undef
      | none => undef
    have hV : ∀ (i : Nat) (o : Oper) (d : Nat), ops[i]? = some o → o.dst = some d → V i = a.tmps.getD d undef := fun i o d ho hd => by simp only [V, ho, hd]
    have ha : a = puts ops a0 V m := by
      refine act_ext (hfr.1.trans (puts_defers a0 V m).symm) (hfr.2.1.trans (puts_size a0 V m).symm) fun d => ?_
      by_cases hd : ∃ (i : Nat) (o : Oper), i < m ∧ ops[i]? = some o ∧ o.dst = some d
      · obtain ⟨i, o, hi, ho, hod⟩ := hd
        rw [puts_some a0 V d m i o hi ho hod (hlt i o d ho hod) (fun j y hy hyd => hdst i j o y d ho hy hod hyd), hV i o d ho hod]
      · rw [puts_none a0 V d m (fun i o hi ho hod => hd ⟨i, o, hi, ho, hod⟩)]
        refine hfr.2.2 d fun i o hli ho hod => ?_
        have hi' : i < ops.size := (Array.getElem?_eq_some_iff.1 ho).1
        by_cases him : i < m
        · exact hd ⟨i, o, him, ho, hod⟩
        · have := h2 i (by omega) hi'
          rw [hli] at this; cases this
    rw [ha]
    refine hend V w' (fun i x d hi hx hd => ?_) hS'
    rw [hV i x d hx hd]
    refine hv i x d ?_ hx hd
    have h3 := h1 i hi
    have hi' : i < listed.size := by omega
    simp [hi'] at h3 ⊢
    exact h3
  have htf : ∀ (listed : Array Bool) (i : Nat), listed.size = ops.size → i < ops.size → (listed.getD i true = false ↔ listed.getD i false = false) := by
    intro listed i h1 h2
    have : i < listed.size := by omega
    simp [this]
  refine wp_region_any hm ?_
  refine wpAny_inv (fun listed a w' => listed.size = ops.size ∧ Closed ops listed ∧ ((∃ i, m ≤ i ∧ i ≤ ops.size ∧ (∀ j, j < i → listed.getD j true = true) ∧ (∀ j, i ≤ j → j < ops.size → listed.getD j true = false) ∧ wpOps P ops Q (List.range' i (ops.size - i)) a w') ∨
      ((∃ j, j < m ∧ listed.getD j true = false) ∧ (∀ j, m ≤ j → j < ops.size → listed.getD j true = false) ∧ FrmL ops listed a0 a ∧
      (∀ (i : Nat) (o : Oper) (d : Nat), listed.getD i false = true → ops[i]? = some o → o.dst = some d → F i (a.tmps.getD d undef) w') ∧
      ∃ c : Nat, c + cnt listed m ≤ m ∧ Stp r T w0 (b + c) w'))) ?_ ?_ _ _ _ _ ?_ ?_
  · intro listed a w' i ⟨hsz, hcl, hI⟩ hi
    obtain ⟨hun, o, ho, hdep⟩ := mem_ready.1 hi
    have him : i < ops.size := (Array.getElem?_eq_some_iff.1 ho).1
    have hdep' : ∀ j, m ≤ i → j < i → listed.getD j false = true := fun j h1 h2 => hwait listed i o hcl h1 ho hdep j h2
    have hcl' : Closed ops (listed.setIfInBounds i true) := by
      intro k y hk hy e he hb
      have hke : listed.getD e.on false = true := by
        by_cases e' : k = i
        · subst e'
          rw [ho] at hy
          injection hy with hy
          subst hy
          exact hdep e he hb
        · rw [getD_set_ne false (Ne.symm e')] at hk
          exact hcl k y hk hy e he hb
      exact getD_set_true hke
    rcases hI with ⟨i0, h0, h00, h1, h2, h3⟩ | ⟨⟨j0, hj0, hj0f⟩, h2, hfr, hv, c, hc, hS'⟩
    · have hii : i0 ≤ i := by
        rcases Nat.lt_or_ge i i0 with h | h
        · have := h1 i h; rw [hun] at this; cases this
        · exact h
      obtain rfl : i0 = i := by
        rcases Nat.lt_or_ge i0 i with h | h
        · have := hdep' i0 (by omega) h
          have h4 := (htf listed i0 hsz (by omega)).1 (h2 i0 (Nat.le_refl _) (by omega))
          rw [this] at h4; cases h4
        · omega
      rw [show ops.size - i0 = (ops.size - (i0 + 1)) + 1 by omega, List.range'_succ, wpOps_cons] at h3
      refine wpOp_mono ?_ h3
      intro a' w'' h4
      refine ⟨by simpa using hsz, hcl', .inl ⟨i0 + 1, by omega, by omega, fun j hj => ?_, fun j hj hj' => ?_, h4⟩⟩
      · by_cases e : j = i0
        · subst e
          have : j < listed.size := by omega
          simp [this]
        · rw [getD_set_ne true (Ne.symm e)]; exact h1 j (by omega)
      · rw [getD_set_ne true (by omega)]; exact h2 j (by omega) hj'
    · have hilt : i < m := by
        rcases Nat.lt_or_ge i m with h | h
        · exact h
        · have := hdep' j0 h (by omega)
          have h4 := (htf listed j0 hsz (by omega)).1 hj0f
          rw [this] at h4; cases h4
      unfold wpOp
      have hw : Region.wanted o (yielded ops a.tmps) = true := by simp [Region.wanted, hguard i o ho]
      simp only [ho, hw, if_true]
      left
      have hcs := cnt_set hun m hilt
      have hfr0 : Frm ops a0 a := ⟨hfr.1, hfr.2.1, fun k hk => hfr.2.2 k fun j y _ hy => hk j y hy⟩
      refine Oper.wp_mono ?_ (hob i o hilt ho a w' (b + c) (by omega) hS' hfr0 (fun e he hb oj d hoj hd => hv e.on oj d (hdep e he hb) hoj hd))
      rintro a' w'' ⟨v, rfl, hFv, hg, hrd⟩
      have hsz' : (listed.setIfInBounds i true).size = ops.size := by simpa using hsz
      have hfr' : FrmL ops (listed.setIfInBounds i true) a0 (a.put o.dst v) := by
        refine ⟨?_, ?_, fun k hk => ?_⟩
        · rw [← hfr.1]; cases o.dst <;> rfl
        · rw [← hfr.2.1]; cases o.dst <;> simp [Act.put]
        · have hil : i < listed.size := by omega
          rw [getD_put_ne _ _ _ _ (hk i o (by simp [hil]) ho)]
          refine hfr.2.2 k fun j y hj hy => hk j y ?_ hy
          by_cases e : j = i
          · subst e; simp [hil]
          · rw [getD_set_ne true (Ne.symm e)]; exact hj
      have hv' : ∀ (j : Nat) (oj : Oper) (d : Nat), (listed.setIfInBounds i true).getD j false = true → ops[j]? = some oj → oj.dst = some d → F j ((a.put o.dst v).tmps.getD d undef) w'' := by
        intro j oj d hj hoj hd
        by_cases e : j = i
        · subst e
          rw [ho] at hoj
          injection hoj with hoj
          subst hoj
          rw [hd, getD_put_same _ _ _ (by rw [hfr.2.1]; exact hlt j o d ho hd)]
          exact hFv d hd
        · rw [getD_put_ne _ _ _ _ (fun h => e (hdst j i oj o d hoj ho hd h))]
          refine hF j _ w' w'' (hv j oj d ?_ hoj hd) hg
          rwa [getD_set_ne false (Ne.symm e)] at hj
      have hS'' : Stp r T w0 (b + ((c + 1 : Nat) : Int)) w'' := by
        have h5 : (b + ((c + 1 : Nat) : Int)) = b + c + 1 := by omega
        rw [h5]; exact ⟨grown_trans hS'.grown hg, hrd⟩
      have h2' : ∀ j, m ≤ j → j < ops.size → (listed.setIfInBounds i true).getD j true = false := fun j hj hj' => by
        rw [getD_set_ne true (by omega)]; exact h2 j hj hj'
      refine ⟨hsz', hcl', ?_⟩
      by_cases hall : ∀ j, j < m → (listed.setIfInBounds i true).getD j true = true
      · exact .inl ⟨m, Nat.le_refl _, hms, hall, h2', hgo _ _ _ hall h2' hfr' hv' hsz' (hS''.le (by omega))⟩
      · have ⟨j1, hj1⟩ := Classical.not_forall.1 hall
        have ⟨hj2, hj3⟩ := Classical.not_imp.1 hj1
        exact .inr ⟨⟨j1, hj2, by simpa using hj3⟩, h2', hfr', hv', c + 1, by omega, hS''⟩
  · intro listed a w' ⟨hsz, _, hI⟩ hr
    have hall := unlisted_ready hback hr
    rcases hI with ⟨i0, h0, h00, h1, h2, h3⟩ | ⟨⟨j0, hj0, hj0f⟩, _⟩
    · obtain rfl : i0 = ops.size := by
        rcases Nat.lt_or_ge i0 ops.size with h | h
        · have h4 := hall i0 h
          rw [h2 i0 (Nat.le_refl _) h] at h4; cases h4
        · omega
      simpa [wpOps] using h3
    · have := hall j0 (by omega)
      rw [hj0f] at this; cases this
  · unfold left
    simp
  · refine ⟨by simp, fun k o hk => ?_, ?_⟩
    · exfalso
      rcases Nat.lt_or_ge k ops.size with h | h
      · simp [h] at hk
      · simp [h] at hk
    have hfl : ∀ j, j < ops.size → (Array.replicate ops.size false).getD j true = false := fun j hj => by simp [hj]
    have hfr : FrmL ops (Array.replicate ops.size false) a0 a0 := ⟨rfl, rfl, fun _ _ => rfl⟩
    have hv0 : ∀ (w' : World) (i : Nat) (o : Oper) (d : Nat), (Array.replicate ops.size false).getD i false = true → ops[i]? = some o → o.dst = some d → F i (a0.tmps.getD d undef) w' := by
      intro w' i o d hi
      exfalso
      rcases Nat.lt_or_ge i ops.size with h | h
      · simp [h] at hi
      · simp [h] at hi
    by_cases hm0 : m = 0
    · subst hm0
      exact .inl ⟨0, Nat.le_refl _, Nat.zero_le _, fun j hj => absurd hj (Nat.not_lt_zero _), fun j _ hj => hfl j hj, hgo _ _ _ (fun j hj => absurd hj (Nat.not_lt_zero _)) (fun j _ hj => hfl j hj) hfr (hv0 _) (by simp) (by simpa using hS.drew)⟩
    · refine .inr ⟨⟨0, by omega, hfl 0 (by omega)⟩, fun j _ hj => hfl j hj, hfr, hv0 _, 0, ?_, by simpa using hS.drew⟩
      unfold cnt
      have := List.length_filter_le (fun j => !(Array.replicate ops.size false).getD j true) (List.range m)
      simp at this ⊢
      exact this
end
end Go.Proofs.YtckgdlgdipfgmaaGreat
