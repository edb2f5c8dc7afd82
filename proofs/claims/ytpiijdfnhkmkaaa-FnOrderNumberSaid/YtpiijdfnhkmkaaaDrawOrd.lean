/- DrawOrderFrom, DrawOrderNumber. -/
import Derived.Test.YtpiijdfnhkmkaaaPick
import Derived.Test.YtpiijdfnhkmkaaaSel
import Derived.Test.YtpiijdfnhkmkaaaAny
import Derived.Deep.RegionWith
import Derived.Deep.DrawnRows
namespace Go.Proofs.Ytpiijdfnhkmkaaa
open Go.RowKit
attribute [local go_sem ↓] Go.wp_at_zero Go.wp_at_succ

set_option maxHeartbeats 400000 in
theorem drawOrderFrom_any (A : Option Addr) (n c : Nat) (zs : List Int) (w : World) (h : Code w A n c zs) :
    Calls Try.prog 19 #[.slice A n c] w (Post (.int .i64) fun v w' => Below w.heap.size w w') := by
  obtain ⟨r, hr, hrw⟩ : ∃ r, w.heap.size = r ∧ w.heap.size ≤ r := ⟨_, rfl, Nat.le_refl _⟩
  have hopen := open_at r A n c zs w h hr
  clear h hr
  go_enter Try.func19, Try.ntmps19
  go_wp2_with fail
  refine hopen.mono ?_
  rintro e w0 ⟨rfl, hrd, hb, hsz⟩; have hS := Stp.refl hrd; have hK0 := below_keep hb; have hF0 := below_keepF hb; have hZ := Zs.nil r w0; have hO0 := hrd.old; clear hrd hopen
  go_wp2_with fail
  go_region_with (go_at_call 51; refine (pick_any _ _ _ _ (by repeat (first | exact hS.rd | apply Rd.drew | apply Rd.alloc)) (by omega) (by omega)).mono ?_; rintro e w1 ⟨v, rfl, hv0, hv1, hs⟩; (try replace hs := hs.undrew); (try (have hL := lit5 hv0 hv1; have hG := litg5 hv0 hv1)); (first | (have hK := hZ.keep hs; replace hZ := hZ.s0 hs; replace hS := hS.trans hs) | (have hK := (hZ.a1 hS.rd.lt _).keep hs; replace hZ := (hZ.a1 hS.rd.lt _).s0 hs; replace hS := (hS.alloc _).trans hs) | (have hK := ((hZ.a1 hS.rd.lt _).a1 (hS.rd.alloc _).lt _).keep hs; replace hZ := ((hZ.a1 hS.rd.lt _).a1 (hS.rd.alloc _).lt _).s0 hs; replace hS := ((hS.alloc _).alloc _).trans hs)); clear hs; have hf := hZ.facts; have hC := hS.oldc hsz; have hCF := hS.oldf hsz; have hO := hS.rd.old)
  all_goals go_wp2
  all_goals
    go_ret
    have hB := (hS.belowT (hb.mono hrw) hrw (Nat.le_trans hrw hsz))
    first | exact ⟨_, rfl, hB⟩ | exact ⟨_, rfl, hB.alloc hB.size _⟩


/-- What the operations of a drawing region leave in their slots. -/
inductive Ty
  | pure (p : Value → Prop)
  | lit (n : Nat) (lo hi : Int)
  | elt (lo hi : Int)
def isInt (lo hi : Int) (v : Value) : Prop := ∃ x, v = .int .i64 x ∧ lo ≤ x ∧ x < hi
def isPtr (r : Nat) (v : Value) : Prop := v = .pointer (some ⟨r, 0, none⟩)
def Ty.holds (r E : Nat) : Ty → Value → World → Prop
  | .pure p, v, _ => p v
  | .lit n lo hi, v, w => ∃ g cs, v = .slice (some ⟨g, 0, none⟩) n n ∧ r < g ∧ w.heap[g]? = some (.cells cs E (0, 0)) ∧ cs.size = n ∧ ∀ u ∈ cs.toList, isInt lo hi u
  | .elt lo hi, v, w => ∃ g i u, v = .pointer (some ⟨g, i, none⟩) ∧ r < g ∧ w.cell? ⟨g, i, none⟩ = some u ∧ isInt lo hi u
theorem Ty.stable {r E : Nat} (t : Ty) (v : Value) (w w' : World) (h : t.holds r E v w) (hg : w.grownBy w' (some r)) : t.holds r E v w' := by
  cases t with
  | pure p => exact h
  | lit n lo hi =>
    obtain ⟨g, cs, e, hr, hb, hc⟩ := h
    exact ⟨g, cs, e, hr, (hg.block g (Array.getElem?_eq_some_iff.1 hb).1 (fun e => by injection e; omega)).trans hb, hc⟩
  | elt lo hi =>
    obtain ⟨g, i, u, e, hr, hb, hc⟩ := h
    exact ⟨g, i, u, e, hr, hg.cell hb (fun e => by injection e with e; have : g = r := e; omega), hc⟩
theorem Ty.at_ {r E n g : Nat} {lo hi : Int} {w : World} {cs : Array Value} (hr : r < g) (hb : w.heap[g]? = some (.cells cs E (0, 0))) (hn : cs.size = n) (hc : ∀ u ∈ cs.toList, isInt lo hi u) {x : Int} (h0 : 0 ≤ x) (h1 : x < n) :
    (Ty.elt lo hi).holds r E (.pointer (some ⟨g, x.toNat, none⟩)) w := by
  obtain ⟨k, rfl⟩ := Int.eq_ofNat_of_zero_le h0
  have hk : k < cs.size := by omega
  refine ⟨g, k, cs[k], rfl, hr, ?_, hc _ (by simp)⟩
  rw [cell_of_row w g k cs E (0, 0) hb]
  exact Array.getElem?_eq_getElem hk

def tyOrd (r : Nat) : Nat → Ty
  | 0 | 3 | 7 | 13 => .pure (isPtr r)
  | 1 => .pure (isInt 0 18)
  | 2 => .pure (isInt (-1) 17)
  | 4 | 14 => .pure (isInt 0 256)
  | 5 => .lit 3 (-1) 257
  | 6 => .lit 7 0 3
  | 8 => .pure (isInt 0 7)
  | 9 => .elt 0 3
  | 10 => .pure (isInt 0 3)
  | 11 => .elt (-1) 257
  | 12 => .pure (isInt (-1) 257)
  | _ => .pure fun v => ∃ x y z : Int, v = .agg #[.int .i64 x, .int .i64 y, .int .i64 z]

set_option maxRecDepth 100000 in
set_option maxHeartbeats 1000000 in
theorem drawOrderNumber_any (A : Option Addr) (n c : Nat) (zs : List Int) (w : World) (h : Code w A n c zs) :
    Calls Try.prog 15 #[.slice A n c] w (Post (fun x : Int × Int × Int => .agg #[.int .i64 x.1, .int .i64 x.2.1, .int .i64 x.2.2]) fun _ w' => Below w.heap.size w w') := by
  obtain ⟨r, hr, hrw⟩ : ∃ r, w.heap.size + 1 = r ∧ w.heap.size < r := ⟨_, rfl, Nat.lt_succ_self _⟩
  have hopen := open_at r A n c zs (w.alloc (.cells #[.int .i64 0, .int .i64 0, .int .i64 0] 24)) (h.below ((Below.refl _ _).alloc (Nat.le_refl _) _)) (by simpa using hr)
  clear h hr
  go_enter Try.func15, Try.ntmps15
  go_wp2_with fail
  refine hopen.mono ?_
  rintro e w0 ⟨rfl, hrd, hb, hsz⟩
  have hS := Stp.refl hrd
  clear hrd hopen
  go_wp2_with fail
  refine region_draws (by kernel_rfl) (fun i v w => (tyOrd r i).holds r 3 v w) r 87 16 _ w0 w0 0 (by kernel_rfl) (by kernel_rfl) (fun i v w w' => (tyOrd r i).stable v w w') hS ?_ ?_
  · intro i o him ho a w1 b' hb' hS1 hfr hdep
    have hs1 := Stp.refl hS1.rd
    have hbb : b' ≤ 1000000000 := Int.le_trans hb' (by decide)
    have hrl := hS1.rd.lt
    clear hS1 hS hb hsz hrw
    match i, ho, him with
    | 0, ho, _ =>
      injection ho with ho
      subst ho
      have h3 := hfr.2.2 3 (drawFr_spec (by kernel_rfl))
      clear hdep hfr hb'
      simp only [Array.getD_eq_getD_getElem?] at h3
      unfold Oper.wp
      go_simp
      exact Leaves.val rfl (hs1.le (by omega))
    | 1, ho, _ =>
      injection ho with ho
      subst ho
      have h6 := hdep ⟨0, .data⟩ (by simp) (by kernel_rfl) _ 6 rfl rfl
      clear hdep hfr hb'
      replace h6 : a.tmps.getD 6 undef = _ := h6
      unfold Oper.wp
      go_simp
      refine (pick_any r 18 b' w1 hs1.rd hbb (by omega)).mono ?_
      rintro e w2 ⟨v, rfl, hv0, hv1, hs⟩
      exact Leaves.val ⟨v, rfl, hv0, hv1⟩ hs
    | 2, ho, _ =>
      injection ho with ho
      subst ho
      have h7 := hdep ⟨1, .data⟩ (by simp) (by kernel_rfl) _ 7 rfl rfl
      clear hdep hfr hb'
      obtain ⟨x, h7, hx0, hx1⟩ := h7
      have hwr := IntWalk.i64_in (x - 1) (by omega)
      unfold Oper.wp
      go_simp
      exact Leaves.val ⟨_, rfl, by omega, by omega⟩ (hs1.le (by omega))
    | 3, ho, _ =>
      injection ho with ho
      subst ho
      have h3 := hfr.2.2 3 (drawFr_spec (by kernel_rfl))
      clear hdep hfr hb'
      simp only [Array.getD_eq_getD_getElem?] at h3
      unfold Oper.wp
      go_simp
      exact Leaves.val rfl (hs1.le (by omega))
    | 4, ho, _ =>
      injection ho with ho
      subst ho
      have h9 := hdep ⟨3, .data⟩ (by simp) (by kernel_rfl) _ 9 rfl rfl
      clear hdep hfr hb'
      replace h9 : a.tmps.getD 9 undef = _ := h9
      unfold Oper.wp
      go_simp
      refine (pick_any r 256 b' w1 hs1.rd hbb (by omega)).mono ?_
      rintro e w2 ⟨v, rfl, hv0, hv1, hs⟩
      exact Leaves.val ⟨v, rfl, hv0, hv1⟩ hs
    | 5, ho, _ =>
      injection ho with ho
      subst ho
      have h10 := hdep ⟨4, .data⟩ (by simp) (by kernel_rfl) _ 10 rfl rfl
      clear hdep hfr hb'
      obtain ⟨x, h10, hx0, hx1⟩ := h10
      simp only [Array.getD_eq_getD_getElem?] at h10
      unfold Oper.wp
      go_simp
      refine Leaves.val ⟨w1.heap.size, _, rfl, hrl, heap_alloc_new w1 _, rfl, ?_⟩ ((hs1.alloc _).le (by omega))
      simp only [List.forall_mem_cons]
      exact ⟨⟨_, rfl, by omega, by omega⟩, ⟨_, rfl, by omega, by omega⟩, ⟨_, rfl, by omega, by omega⟩, by simp⟩
    | 6, ho, _ =>
      injection ho with ho
      subst ho
      clear hdep hfr hb'
      unfold Oper.wp
      go_simp
      refine Leaves.val ⟨w1.heap.size, _, rfl, hrl, heap_alloc_new w1 _, rfl, ?_⟩ ((hs1.alloc _).le (by omega))
      simp only [List.forall_mem_cons]
      exact ⟨⟨_, rfl, by omega, by omega⟩, ⟨_, rfl, by omega, by omega⟩, ⟨_, rfl, by omega, by omega⟩, ⟨_, rfl, by omega, by omega⟩, ⟨_, rfl, by omega, by omega⟩, ⟨_, rfl, by omega, by omega⟩, ⟨_, rfl, by omega, by omega⟩, by simp⟩
    | 7, ho, _ =>
      injection ho with ho
      subst ho
      have h3 := hfr.2.2 3 (drawFr_spec (by kernel_rfl))
      clear hdep hfr hb'
      simp only [Array.getD_eq_getD_getElem?] at h3
      unfold Oper.wp
      go_simp
      exact Leaves.val rfl (hs1.le (by omega))
    | 8, ho, _ =>
      injection ho with ho
      subst ho
      have h13 := hdep ⟨7, .data⟩ (by simp) (by kernel_rfl) _ 13 rfl rfl
      clear hdep hfr hb'
      replace h13 : a.tmps.getD 13 undef = _ := h13
      unfold Oper.wp
      go_simp
      refine (pick_any r 7 b' w1 hs1.rd hbb (by omega)).mono ?_
      rintro e w2 ⟨v, rfl, hv0, hv1, hs⟩
      exact Leaves.val ⟨v, rfl, hv0, hv1⟩ hs
    | 9, ho, _ =>
      injection ho with ho
      subst ho
      have h12 := hdep ⟨6, .data⟩ (by simp) (by kernel_rfl) _ 12 rfl rfl
      have h14 := hdep ⟨8, .data⟩ (by simp) (by kernel_rfl) _ 14 rfl rfl
      clear hdep hfr hb'
      obtain ⟨g, cs, h12, hg, hh, hcs, hc⟩ := h12
      obtain ⟨x, h14, hx0, hx1⟩ := h14
      have hE := Ty.at_ hg hh hcs hc hx0 hx1
      clear hh hcs hc
      have HE := Lib.hid hE
      clear hE
      unfold Oper.wp
      go_simp
      exact Leaves.val HE.out (hs1.le (by omega))
    | 10, ho, _ =>
      injection ho with ho
      subst ho
      have h15 := hdep ⟨9, .data⟩ (by simp) (by kernel_rfl) _ 15 rfl rfl
      clear hdep hfr hb'
      obtain ⟨g, i, u, h15, hg, hc, x, rfl, hx0, hx1⟩ := h15
      unfold Oper.wp
      go_simp
      exact Leaves.val ⟨x, rfl, hx0, hx1⟩ (hs1.le (by omega))
    | 11, ho, _ =>
      injection ho with ho
      subst ho
      have h11 := hdep ⟨5, .data⟩ (by simp) (by kernel_rfl) _ 11 rfl rfl
      have h16 := hdep ⟨10, .data⟩ (by simp) (by kernel_rfl) _ 16 rfl rfl
      clear hdep hfr hb'
      obtain ⟨g, cs, h11, hg, hh, hcs, hc⟩ := h11
      obtain ⟨x, h16, hx0, hx1⟩ := h16
      have hE := Ty.at_ hg hh hcs hc hx0 hx1
      clear hh hcs hc
      have HE := Lib.hid hE
      clear hE
      unfold Oper.wp
      go_simp
      exact Leaves.val HE.out (hs1.le (by omega))
    | 12, ho, _ =>
      injection ho with ho
      subst ho
      have h17 := hdep ⟨11, .data⟩ (by simp) (by kernel_rfl) _ 17 rfl rfl
      clear hdep hfr hb'
      obtain ⟨g, i, u, h17, hg, hc, x, rfl, hx0, hx1⟩ := h17
      unfold Oper.wp
      go_simp
      exact Leaves.val ⟨x, rfl, hx0, hx1⟩ (hs1.le (by omega))
    | 13, ho, _ =>
      injection ho with ho
      subst ho
      have h3 := hfr.2.2 3 (drawFr_spec (by kernel_rfl))
      clear hdep hfr hb'
      simp only [Array.getD_eq_getD_getElem?] at h3
      unfold Oper.wp
      go_simp
      exact Leaves.val rfl (hs1.le (by omega))
    | 14, ho, _ =>
      injection ho with ho
      subst ho
      have h19 := hdep ⟨13, .data⟩ (by simp) (by kernel_rfl) _ 19 rfl rfl
      clear hdep hfr hb'
      replace h19 : a.tmps.getD 19 undef = _ := h19
      unfold Oper.wp
      go_simp
      refine (pick_any r 256 b' w1 hs1.rd hbb (by omega)).mono ?_
      rintro e w2 ⟨v, rfl, hv0, hv1, hs⟩
      exact Leaves.val ⟨v, rfl, hv0, hv1⟩ hs
    | 15, ho, _ =>
      injection ho with ho
      subst ho
      have h8 := hdep ⟨2, .data⟩ (by simp) (by kernel_rfl) _ 8 rfl rfl
      have h18 := hdep ⟨12, .data⟩ (by simp) (by kernel_rfl) _ 18 rfl rfl
      have h20 := hdep ⟨14, .data⟩ (by simp) (by kernel_rfl) _ 20 rfl rfl
      clear hdep hfr hb'
      obtain ⟨x, h8, _, _⟩ := h8
      obtain ⟨y, h18, _, _⟩ := h18
      obtain ⟨z, h20, _, _⟩ := h20
      simp only [Array.getD_eq_getD_getElem?] at h8 h18 h20
      unfold Oper.wp
      go_simp
      exact Leaves.val ⟨_, _, _, rfl⟩ (hs1.le (by omega))
    | n + 16, _, him => exact absurd him (by omega)
  · intro o ho a w1 hfr hv hS1
    injection ho with ho
    subst ho
    have h2 := hfr.2.2 2 (drawFr_spec (by kernel_rfl))
    obtain ⟨x, y, z, h21⟩ := hv 15 _ 21 (by omega) rfl rfl
    have hc := fun j => hS1.oldc hsz w.heap.size j hrw
    have hf := fun j => hS1.oldf hsz w.heap.size j hrw
    have hc0 := fun j => below_keep hb w.heap.size j hrw
    have hf0 := fun j => below_keepF hb w.heap.size j hrw
    have hfin : Below w.heap.size w (((w1.setCell ⟨w.heap.size, 0, none⟩ (.int .i64 x)).setCell ⟨w.heap.size, 1, none⟩ (.int .i64 y)).setCell ⟨w.heap.size, 2, none⟩ (.int .i64 z)) := by
      have hB : Below w.heap.size w w1 := ((Below.refl _ _).alloc (Nat.le_refl _) _).trans (hS1.belowT (hb.mono (Nat.le_of_lt hrw)) (Nat.le_of_lt hrw) (by omega))
      exact ((hB.setCell (Nat.le_refl _) _).setCell (Nat.le_refl _) _).setCell (Nat.le_refl _) _
    obtain ⟨htmp, hdf⟩ : a.tmps.size = 22 ∧ a.defers = [] := ⟨hfr.2.1, hfr.1⟩
    clear hv hS1 hb hsz hS hfr
    have HF := Lib.hid hfin
    clear hfin
    unfold Oper.wp
    go_simp
    rename_i K hK
    refine hK _ _ ?_
    clear hK hf hf0
    simp only [Array.getD_eq_getD_getElem?] at h2
    go_wp2
    refine bodyPost_ret (v := .agg #[.int .i64 x, .int .i64 y, .int .i64 z]) ?_ hdf ?_
    rotate_left
    · exact ⟨(x, y, z), rfl, HF.out⟩
    simp [results, Try.results15, go_sem, h2, hc, hc0]
end Go.Proofs.Ytpiijdfnhkmkaaa
