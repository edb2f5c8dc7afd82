/- The draw of modes. -/
import Derived.Test.YtmlodhogfejdjaaTabT
import Derived.Test.YtmlodhogfejdjaaDSlotO
import Derived.Test.YtmlodhogfejdjaaOwnX
import Derived.Test.YtmlodhogfejdjaaReg
import Derived.Deep.RegionLaw
namespace Go.Proofs.Ytmlodhogfejdjaa
set_option linter.unusedVariables false
set_option linter.unusedSimpArgs false
open Go.RowKit

theorem appTab : AppT Try.prog 57 23 1 24 := AppT.mk' (z := .slice none 0 0) (by kernel_rfl) (by kernel_rfl) rfl (by decide) (by decide)
section
variable {w w' : World} {base : Nat} {xs : List TabV}
theorem TbOwn.stp {r T : Nat} {b : Int} (h : TbOwn w base xs) (hs : Stp r T w b w') (hr : r < base) : TbOwn w' base xs := fun x hx => (h x hx).stp hs hr
theorem TbOwn.stpOf {w0 : World} {xs0 : List TabV} {r T : Nat} {b : Int} (_ : TbOwn w0 base xs0) (hs : Stp r T w b w') (h : TbOwn w base xs) (hr : r < base) : TbOwn w' base xs := h.stp hs hr
theorem TbOwn.alloc (h : TbOwn w base xs) (o : Obj) : TbOwn (w.alloc o) base xs := fun x hx => (h x hx).alloc o
theorem TbOwn.drew (h : TbOwn w base xs) : TbOwn w.drew base xs := h
theorem TbOwn.app {base' k : Nat} {enc : TabV → List Value} {v : Value} {ys : List TabV} (h : TbOwn w base xs) (hown : Own w base' 23 k enc v ys) (hg : w.grownBy w' v.ownBlock) : TbOwn w' base xs :=
  fun x hx => (h x hx).kept hg (Own.ne2 (h x hx) hown (by decide))
theorem TbOwn.far {g i t : Nat} {cs : Array Value} (h : TbOwn w base xs) (hB : Blk w g t cs) (ht : t ≠ 28) (u : Value) : TbOwn (w.setCell ⟨g, i, none⟩ u) base xs :=
  fun x hx => (h x hx).farNe (p := ⟨g, i, none⟩) ((h x hx).neBlk hB ht) u
theorem TbOwn.add (h : TbOwn w base xs) {y : TabV} (hy : Own w base 28 2 eS y.v y.xs) : TbOwn w base (xs ++ [y]) := fun x hx => (List.mem_append.1 hx).elim (h x) (fun h9 => by rw [List.mem_singleton.1 h9]; exact hy)
theorem TbOwn.low {base' : Nat} (h : TbOwn w base xs) (hb : base' ≤ base) : TbOwn w base' xs := fun x hx => (h x hx).low hb
theorem TbOwn.ok (h : TbOwn w base xs) : TbOk w xs := fun x hx => (Own.okv encS (n := x.n) (c := x.c) (A := x.A) (h x hx)).sl
end
theorem tab_one (w : World) (x : TabV) : Sl (w.alloc (.cells #[x.v] 23)) 1 eTb (some ⟨w.heap.size, 0, none⟩) 1 1 [x] := Sl.of_blk (xs := [x]) (Blk.new w 23 #[x.v]) encTb (by simp)
def modV (x : (SV TabV × Int × Int) × Int) : Value := .tuple #[.agg #[x.1.1.v, .int .i64 x.1.2.1, .int .i64 x.1.2.2], .int .i64 x.2]
def tyM13 (r : Nat) (B G m c : Nat) : Nat → Ty
  | 0 => .pure (fun v => v = .pointer (some ⟨B, 0, none⟩))
  | 1 => .pure (fun v => v = .slice (some ⟨G, 0, none⟩) (m + 1) c)
  | 2 => .pure (isInt 1 4)
  | 3 => .lit 2 (-1) 4
  | 4 => .pure (fun v => v = .pointer (some ⟨r, 0, none⟩))
  | 5 => .pure (isInt 0 2)
  | 6 => .elt (-1) 4
  | 7 => .pure (isInt (-1) 4)
  | _ => .pure fun _ => True

def tyM15 (r : Nat) (B G m c : Nat) : Nat → Ty
  | 0 => .pure (fun v => v = .pointer (some ⟨B, 0, none⟩))
  | 1 => .pure (fun v => v = .slice (some ⟨G, 0, none⟩) (m + 1) c)
  | 2 => .pure (isInt 1 4)
  | 3 => .lit 2 (-2) 4
  | 4 => .pure (fun v => v = .pointer (some ⟨r, 0, none⟩))
  | 5 => .pure (isInt 0 2)
  | 6 => .elt (-2) 4
  | 7 => .pure (isInt (-2) 4)
  | _ => .pure fun _ => True

theorem Own.blkOfT {α : Type} {w : World} {base E k g n c : Nat} {enc : α → List Value} {xs : List α} (h : Own w base E k enc (.slice (some ⟨g, 0, none⟩) n c) xs) : ∃ cs, Blk w g E cs := by
  rcases h.2 with ⟨h1, _⟩ | ⟨g', cap, cur, h1, hb, hg, _⟩
  · cases h1
  · injection h1 with h2
    injection h2 with h2
    injection h2 with h2 _
    subst h2
    exact ⟨cur, hg⟩
set_option maxRecDepth 100000 in
set_option maxHeartbeats 4000000 in
theorem l20Modes_any (r : Nat) (k0 b : Int) (w : World) (h : Rd w r 97 b) (hb : b ≤ 999900000) (hk0 : -1000 ≤ k0) :
    Calls Try.prog 71 #[.pointer (some ⟨r, 0, none⟩), .int .i64 k0] w (Post modV fun x w' => Own w' w.heap.size 23 1 eTb x.1.1.v x.1.1.xs ∧ TbOwn w' w.heap.size x.1.1.xs ∧ x.1.1.n ≤ 3 ∧ (1 ≤ x.2 ∧ x.2 ≤ 3) ∧ Stp r 97 w (b + 2000) w') := by
  have hr0 := h.lt
  have B1 := Blk.new w 59 #[.slice none 0 0, .int .i64 0, .int .i64 0]
  have hS := (Stp.refl h).alloc (.cells #[.slice none 0 0, .int .i64 0, .int .i64 0] 59)
  clear h
  go_enter Try.func71, Try.ntmps71
  go_wp2_with fail
  refine (pick_any r 3 _ _ hS.rd (by omega) (by omega)).mono ?_
  rintro e w1 ⟨v0, rfl, hv00, hv01, hs⟩
  replace B1 := Blk.stp hs B1 (by omega)
  replace hS := hS.trans hs
  clear hs
  have hw0 := IntWalk.i64_in (1 + v0) (by omega)
  obtain ⟨p, hp⟩ : ∃ p, 1 + v0 = p := ⟨_, rfl⟩
  rw [hp] at hw0
  have hp1 : 1 ≤ p ∧ p ≤ 3 := by omega
  have hw1 := B1.lt
  have hz1 := hS.grown.size
  have B7 := Blk.new w1 59 #[.slice none 0 0, .int .i64 0, .int .i64 (-1)]
  replace B1 := B1.alloc (.cells #[.slice none 0 0, .int .i64 0, .int .i64 (-1)] 59)
  replace hS := hS.alloc (.cells #[.slice none 0 0, .int .i64 0, .int .i64 (-1)] 59)
  go_wp2_with fail
  refine (pick_any r 3 _ _ hS.rd (by omega) (by omega)).mono ?_
  rintro e w2 ⟨v1, rfl, hv10, hv11, hs⟩
  replace B1 := Blk.stp hs B1 (by omega)
  replace B7 := Blk.stp hs B7 (by omega)
  replace hS := hS.trans hs
  clear hs hw0
  have hwv := IntWalk.i64_in (1 + v1) (by omega)
  obtain ⟨m, hm⟩ : ∃ m, 1 + v1 = m := ⟨_, rfl⟩
  rw [hm] at hwv
  have hm1 : 1 ≤ m ∧ m ≤ 3 := by omega
  have hg7 : w.heap.size < w1.heap.size := hw1
  generalize hG : w1.heap.size = g7 at *
  go_wp2_with fail
  clear hwv
  go_loopg [8] 20 (fun gg s8 wr => ∃ (kk : Int) (v : Value) (l : List TabV), 0 ≤ kk ∧ kk ≤ gg ∧ gg ≤ 20 ∧ s8 = .int .i64 kk ∧ l.length + kk ≤ 3 ∧ 1 ≤ l.length + kk ∧ Aside (Blk wr w.heap.size 59 #[.slice none 0 0, .int .i64 0, .int .i64 0]) ∧ Aside (Blk wr g7 59 #[v, .int .i64 0, .int .i64 (-1)]) ∧ Aside (Own wr (w.heap.size + 1) 23 1 eTb v l) ∧ Aside (TbOwn wr (w.heap.size + 1) l) ∧ Aside (Stp r 97 w (b + 20 + 200 * l.length) wr))
  case atStart => exact ⟨m, _, [], by omega, by omega, by omega, rfl, by simp; omega, by simp; omega, (show Aside _ from B1), (show Aside _ from B7), (show Aside _ from Own.nil), (show Aside _ from fun x hx => by cases hx), (show Aside _ from hS.le (by simp; omega))⟩
  case round =>
    obtain ⟨kk, v, l, hkk0, hkk1, hg, rfl, hll, hl1, BA, BB, OW, TT, SS⟩ := hrel
    clear B1 B7 hS
    have B1 := BA.out
    have B7 := BB.out
    have own1 := OW.out
    have tb1 := TT.out
    have hS := SS.out
    clear BA BB OW TT SS
    obtain ⟨A5, c5, hv5, -, -, -⟩ := own1.sl encTb
    subst hv5
    by_cases hlt : 0 < kk
    · have x0 := B7.c0
      have hlen : l.length ≤ 2 := by omega
      have hS' := hS.le (show _ ≤ b + 20 + 200 * l.length by omega)
      have hg7z := B7.lt
      go_wp2_with fail
      go_region_law (first | (go_simp; go_at_call 77; refine (l20SlotsO_any r p 0 _ _ (by repeat (first | exact hS'.rd | apply Rd.drew)) (by omega) (by omega)).mono ?_; rintro e w5 ⟨⟨A6, n6, c6, l6⟩, rfl, own6, hn6, hsb6, hs⟩; simp only [SV.v] at own6 ⊢; have B1x := Blk.stpOf B1 hs (by repeat (first | exact B1 | apply Blk.drew)) (by omega); have B7x := Blk.stpOf B7 hs (by repeat (first | exact B7 | apply Blk.drew)) (by omega); have own5 := Own.stpOf own1 hs (by repeat (first | exact own1 | apply Own.drew)) (by omega); have tb5 := TbOwn.stpOf tb1 hs (by repeat (first | exact tb1 | apply TbOwn.drew)) (by omega); have hS5 := Stp.trans (w := _) (by repeat (first | exact hS' | apply Stp.drew)) hs; have y0 := B7x.c0; have y0a := (B7x.alloc (.cells #[.slice A6 n6 c6] 23)).c0; have own6a := (own6.low (base' := w.heap.size + 1) (by simp; omega)).alloc (.cells #[.slice A6 n6 c6] 23); have own5a := own5.alloc (.cells #[.slice A6 n6 c6] 23); have hz5 := B7x.lt) | (refine app_step rfl _ _ appTab rfl encTb (w.heap.size + 1) _ l (by simp [Act.eval, Act.put]) own5a _ 1 1 [(⟨A6, n6, c6, l6⟩ : TabV)] (by simp [Act.eval, Act.put]) (fun e => by cases e) (tab_one w5 ⟨A6, n6, c6, l6⟩) (by omega) (by simp; omega) ?_; intro v7 w7 own7 hgr; have B1z := (B1x.alloc (.cells #[.slice A6 n6 c6] 23)).app own5a hgr (by omega); have B7z := (B7x.alloc (.cells #[.slice A6 n6 c6] 23)).appO hgr (own5a.neBlk (B7x.alloc (.cells #[.slice A6 n6 c6] 23)) (by decide)); have tb7 := ((tb5.alloc (.cells #[.slice A6 n6 c6] 23)).app own5a hgr).add (y := (⟨A6, n6, c6, l6⟩ : TabV)) (own6a.kept hgr (Own.ne2 own6a own5a (by decide))); have hS7 := (hS5.alloc (.cells #[.slice A6 n6 c6] 23)).app own5a hgr (by omega) (by omega); obtain ⟨A7, c7, hv7, -, -, -⟩ := own7.sl encTb; rw [show (l ++ [(⟨A6, n6, c6, l6⟩ : TabV)]).length = l.length + 1 from by simp] at hv7; subst hv7; have y1 := B7z.c0; have f7 := B7z.frozen))
      all_goals
        have B7w := B7z.set_ 0 (.slice A7 (l.length + 1) c7)
        have B1w := B1z.far (p := ⟨g7, 0, none⟩) (by simp only []; omega) (.slice A7 (l.length + 1) c7)
        have own8 := own7.farNe (p := ⟨g7, 0, none⟩) (own7.neBlk B7z (by decide)) (.slice A7 (l.length + 1) c7)
        have tb8 := tb7.far (i := 0) B7z (by decide) (.slice A7 (l.length + 1) c7)
        have hS8 := Stp.set (p := ⟨g7, 0, none⟩) (.slice A7 (l.length + 1) c7) (by simp only []; omega) (by simp only []; omega) hS7
        clear y0 y0a y1 f7 own5 own5a own6 own6a own7 tb5 tb7 hS5 hS7 B7z B1z B1x B7x
        go_wp2
        go_roundg (gk - 1)
        case measure => omega
        case rel => exact ⟨kk - 1, _, _, by omega, by omega, by omega, by go_num, by simp; omega, by simp; omega, (show Aside _ from B1w), (show Aside _ from B7w), (show Aside _ from own8), (show Aside _ from tb8), (show Aside _ from hS8.le (by simp; omega))⟩
    · obtain rfl : kk = 0 := by omega
      clear hlt
      obtain ⟨x, l', rfl⟩ : ∃ x l', l = x :: l' := by
        cases l with
        | nil => simp at hl1
        | cons x l' => exact ⟨x, l', rfl⟩
      obtain ⟨g, cg, hvg, hgb, hgl, -, -⟩ := own1.form (by simp)
      cases hvg
      obtain ⟨nl, hnl⟩ : ∃ nl, l'.length = nl := ⟨_, rfl⟩
      have B7 : Blk wr g7 59 #[.slice (some ⟨g, 0, none⟩) (nl + 1) c5, .int .i64 0, .int .i64 (-1)] := by have := B7; simp only [List.length_cons, hnl] at this; exact this
      have own1 : Own wr (w.heap.size + 1) 23 1 eTb (.slice (some ⟨g, 0, none⟩) (nl + 1) c5) (x :: l') := by have := own1; simp only [List.length_cons, hnl] at this; exact this
      have hnl3 : nl ≤ 2 := by simp only [List.length_cons, hnl] at hll; omega
      have hS := hS.le (show _ ≤ b + 700 by simp only [List.length_cons, hnl]; omega)
      clear hll hl1 hkk0 hkk1
      have hg7z := B7.lt
      have x0 := B7.c0
      go_wp2_with fail
      refine (pick_any r _ _ _ hS.rd (by omega) (by omega)).mono ?_
      rintro e w3 ⟨v2, rfl, hv20, hv21, hs⟩
      replace B1 := Blk.stp hs B1 (by omega)
      replace B7 := Blk.stp hs B7 (by omega)
      replace own1 := own1.stp hs (by omega)
      replace tb1 := tb1.stp hs (by omega)
      replace hS := hS.trans hs
      clear hs
      clear x0
      have f7 := B7.frozen
      have d7 := B7.c1
      have ne7 := own1.neBlk B7 (by decide)
      have B7n := B7.set_ 1 (.int .i64 v2)
      have B1n := B1.far (p := ⟨g7, 1, none⟩) (by simp only []; omega) (.int .i64 v2)
      have own1n := own1.farNe (p := ⟨g7, 1, none⟩) ne7 (.int .i64 v2)
      have tb1n := tb1.far (i := 1) B7 (by decide) (.int .i64 v2)
      have hSn := Stp.set (p := ⟨g7, 1, none⟩) (.int .i64 v2) (by simp only []; omega) (by simp only []; omega) hS
      clear B7 B1 own1 tb1 hS ne7
      have B7 := B7n
      have B1 := B1n
      have own1 := own1n
      have tb1 := tb1n
      have hS := hSn
      clear B7n B1n own1n tb1n hSn
      have x0 := B7.c0
      have hw1 := IntWalk.i64_in ((nl : Int) + 1 + 1) (by omega)
      go_wp2_with fail
      refine (pick_any r _ _ _ hS.rd (by omega) (by omega)).mono ?_
      rintro e w4 ⟨v3, rfl, hv30, hv31, hs⟩
      have hw2 := IntWalk.i64_in (v3 - 1) (by omega)
      replace B1 := Blk.stp hs B1 (by omega)
      replace B7 := Blk.stp hs B7 (by omega)
      replace own1 := own1.stp hs (by omega)
      replace tb1 := tb1.stp hs (by omega)
      replace hS := hS.trans hs
      clear hs
      clear x0 f7 d7 hw1
      obtain ⟨a0, ha0⟩ : ∃ a0, v3 - 1 = a0 := ⟨_, rfl⟩
      rw [ha0] at hw2
      have f7 := B7.frozen
      have d7 := B7.c2
      have ne7 := own1.neBlk B7 (by decide)
      have B7n := B7.set_ 2 (.int .i64 a0)
      have B1n := B1.far (p := ⟨g7, 2, none⟩) (by simp only []; omega) (.int .i64 a0)
      have own1n := own1.farNe (p := ⟨g7, 2, none⟩) ne7 (.int .i64 a0)
      have tb1n := tb1.far (i := 2) B7 (by decide) (.int .i64 a0)
      have hSn := Stp.set (p := ⟨g7, 2, none⟩) (.int .i64 a0) (by simp only []; omega) (by simp only []; omega) hS
      clear B7 B1 own1 tb1 hS ne7
      have B7 := B7n
      have B1 := B1n
      have own1 := own1n
      have tb1 := tb1n
      have hS := hSn
      clear B7n B1n own1n tb1n hSn
      go_wp2_with fail
      refine (odd_any _ k0 _ _ hS.rd (by omega) (by omega)).mono ?_
      rintro e w5 ⟨q, rfl, hs⟩
      replace B1 := Blk.stp hs B1 (by omega)
      replace B7 := Blk.stp hs B7 (by omega)
      replace own1 := own1.stp hs (by omega)
      replace tb1 := tb1.stp hs (by omega)
      replace hS := hS.trans hs
      clear hs
      clear hw2 f7 d7
      cases q
      · have e0 := B7.c0
        have e1 := B7.c1
        have e2 := B7.c2
        have e3 := B1.frozen
        have e4 := B1.c0
        have e5 := B1.c1
        have e6 := B1.c2
        have B1e := ((B1.set_ 0 (.slice (some ⟨g, 0, none⟩) (nl + 1) c5)).set_ 1 (.int .i64 (v2))).set_ 2 (.int .i64 (a0))
        have z0 := B1e.c0
        have z1 := B1e.c1
        have z2 := B1e.c2
        go_wp2
        exact bodyPost_ret (v := modV (((⟨some ⟨g, 0, none⟩, (nl + 1), c5, x :: l'⟩ : SV TabV), (v2), (a0)), p)) (by simp [results, Try.results71, go_sem, modV, SV.v, z0, z1, z2]) rfl ⟨(((⟨some ⟨g, 0, none⟩, (nl + 1), c5, x :: l'⟩ : SV TabV), (v2), (a0)), p), rfl, (((own1.far (p := ⟨w.heap.size, 0, none⟩) (by simp only []; omega) _).far (p := ⟨w.heap.size, 1, none⟩) (by simp only []; omega) _).far (p := ⟨w.heap.size, 2, none⟩) (by simp only []; omega) _).low (by omega), (fun y hy => ((((tb1 y hy).far (p := ⟨w.heap.size, 0, none⟩) (by simp only []; omega) _).far (p := ⟨w.heap.size, 1, none⟩) (by simp only []; omega) _).far (p := ⟨w.heap.size, 2, none⟩) (by simp only []; omega) _).low (by omega)), (by simp only []; omega), (by simp only []; omega), (Stp.set (p := ⟨w.heap.size, 2, none⟩) _ (Nat.le_refl _) (by simp only []; omega) (Stp.set (p := ⟨w.heap.size, 1, none⟩) _ (Nat.le_refl _) (by simp only []; omega) (Stp.set (p := ⟨w.heap.size, 0, none⟩) _ (Nat.le_refl _) (by simp only []; omega) hS))).le (by omega)⟩
      · go_wp2_with fail
        refine (pick_any r 4 _ _ hS.rd (by omega) (by omega)).mono ?_
        rintro e w6 ⟨v6, rfl, hv60, hv61, hs⟩
        replace B1 := Blk.stp hs B1 (by omega)
        replace B7 := Blk.stp hs B7 (by omega)
        replace own1 := own1.stp hs (by omega)
        replace tb1 := tb1.stp hs (by omega)
        replace hS := hS.trans hs
        clear hs
        have hg7r : g7 ≠ r := by omega
        rcases (show v6 = 0 ∨ v6 = 1 ∨ v6 = 2 ∨ v6 = 3 by omega) with rfl | rfl | rfl | rfl
        · go_wp2_with fail
          refine region_prefix (by kernel_rfl) (fun i v w => (tyM13 r g7 g nl c5 i).holds r 3 v w) r 97 8 _ _ _ _ (by kernel_rfl) (by kernel_rfl) (fun i v w w' => Ty.stable _ v w w') (Stp.refl hS.rd) ?_ ?_
          · intro i o him ho a wa b' hb' hS1 hfr hdep
            have hs1 := Stp.refl hS1.rd
            have hbb : b' ≤ 1000000000 := by omega
            have hrl := hS1.rd.lt
            replace B7 := Blk.stp hS1 B7 (by assumption)
            clear hS1 hS
            match i, ho, him with
            | 0, ho, _ =>
              injection ho with ho
              subst ho
              have h7 := hfr.2.2 7 (drawFr_spec (by kernel_rfl))
              clear hdep hfr hb'
              simp only [Array.getD_eq_getD_getElem?] at h7
              unfold Oper.wp
              go_simp
              exact Leaves.val rfl (hs1.le (by omega))
            | 1, ho, _ =>
              injection ho with ho
              subst ho
              have h55 := hdep ⟨0, .data⟩ (by simp) (by kernel_rfl) _ 55 rfl rfl
              clear hdep hfr hb'
              replace h55 : a.tmps.getD 55 undef = .pointer (some ⟨g7, 0, none⟩) := h55
              simp only [Array.getD_eq_getD_getElem?] at h55
              have cL0 := B7.c0
              have cL1 := B7.c1
              have cL2 := B7.c2
              unfold Oper.wp
              go_simp
              exact Leaves.val rfl (hs1.le (by omega))
            | 2, ho, _ =>
              injection ho with ho
              subst ho
              have h56 := hdep ⟨1, .data⟩ (by simp) (by kernel_rfl) _ 56 rfl rfl
              clear hdep hfr hb'
              replace h56 : a.tmps.getD 56 undef = .slice (some ⟨g, 0, none⟩) (nl + 1) c5 := h56
              simp only [Array.getD_eq_getD_getElem?] at h56
              unfold Oper.wp
              go_simp
              exact Leaves.val ⟨_, rfl, by omega, by omega⟩ (hs1.le (by omega))
            | 3, ho, _ =>
              injection ho with ho
              subst ho
              have h57 := hdep ⟨2, .data⟩ (by simp) (by kernel_rfl) _ 57 rfl rfl
              clear hdep hfr hb'
              obtain ⟨x57, h57, hx570, hx571⟩ := h57
              simp only [Array.getD_eq_getD_getElem?] at h57
              unfold Oper.wp
              go_simp
              refine Leaves.val ⟨wa.heap.size, _, rfl, hrl, heap_alloc_new wa _, rfl, ?_⟩ ((hs1.alloc _).le (by omega))
              simp only [List.forall_mem_cons]
              exact ⟨⟨_, rfl, by omega, by omega⟩, ⟨_, rfl, by omega, by omega⟩, by simp⟩
            | 4, ho, _ =>
              injection ho with ho
              subst ho
              have h0 := hfr.2.2 0 (drawFr_spec (by kernel_rfl))
              clear hdep hfr hb'
              simp only [Array.getD_eq_getD_getElem?] at h0
              unfold Oper.wp
              go_simp
              exact Leaves.val rfl (hs1.le (by omega))
            | 5, ho, _ =>
              injection ho with ho
              subst ho
              have h59 := hdep ⟨4, .data⟩ (by simp) (by kernel_rfl) _ 59 rfl rfl
              clear hdep hfr hb'
              replace h59 : a.tmps.getD 59 undef = .pointer (some ⟨r, 0, none⟩) := h59
              simp only [Array.getD_eq_getD_getElem?] at h59
              unfold Oper.wp
              go_simp
              refine (pick_any r (2) _ wa hs1.rd (by omega) (by omega)).mono ?_
              rintro e wb ⟨v, rfl, hv0, hv1, hs⟩
              exact Leaves.val ⟨v, rfl, by omega, by omega⟩ hs
            | 6, ho, _ =>
              injection ho with ho
              subst ho
              have h58 := hdep ⟨3, .data⟩ (by simp) (by kernel_rfl) _ 58 rfl rfl
              have h60 := hdep ⟨5, .data⟩ (by simp) (by kernel_rfl) _ 60 rfl rfl
              clear hdep hfr hb'
              obtain ⟨g, cs, h58, hg, hh, hcs, hc⟩ := h58
              simp only [Array.getD_eq_getD_getElem?] at h58
              obtain ⟨x60, h60, hx600, hx601⟩ := h60
              simp only [Array.getD_eq_getD_getElem?] at h60
              have HE := Lib.hid (Ty.at_ hg hh hcs hc (x := x60) (by omega) (by omega))
              clear hh hcs hc
              unfold Oper.wp
              go_simp
              exact Leaves.val HE.out (hs1.le (by omega))
            | 7, ho, _ =>
              injection ho with ho
              subst ho
              have h61 := hdep ⟨6, .data⟩ (by simp) (by kernel_rfl) _ 61 rfl rfl
              clear hdep hfr hb'
              obtain ⟨g, i, u, h61, hg, hc, x, rfl, hx0, hx1⟩ := h61
              simp only [Array.getD_eq_getD_getElem?] at h61
              unfold Oper.wp
              go_simp
              exact Leaves.val ⟨x, rfl, hx0, hx1⟩ (hs1.le (by omega))
            | n + 8, _, him => exact absurd him (by omega)
          · intro V w7 hV hs
            have hV0 := hV 0 _ 55 (by decide) rfl rfl
            replace hV0 : V 0 = .pointer (some ⟨g7, 0, none⟩) := hV0
            have hV1 := hV 1 _ 56 (by decide) rfl rfl
            replace hV1 : V 1 = .slice (some ⟨g, 0, none⟩) (nl + 1) c5 := hV1
            obtain ⟨x57, hV2, hx570, hx571⟩ := hV 2 _ 57 (by decide) rfl rfl
            obtain ⟨_, _, hV3, _⟩ := hV 3 _ 58 (by decide) rfl rfl
            have hV4 := hV 4 _ 59 (by decide) rfl rfl
            replace hV4 : V 4 = .pointer (some ⟨r, 0, none⟩) := hV4
            obtain ⟨x60, hV5, hx600, hx601⟩ := hV 5 _ 60 (by decide) rfl rfl
            obtain ⟨_, _, _, hV6, _⟩ := hV 6 _ 61 (by decide) rfl rfl
            obtain ⟨x62, hV7, hx620, hx621⟩ := hV 7 _ 62 (by decide) rfl rfl
            clear hV
            simp only [puts, List.drop, Act.put, List.getElem?_toArray, List.getElem?_cons_succ, List.getElem?_cons_zero, List.setIfInBounds_toArray, List.set_cons_succ, List.set_cons_zero, hV0, hV1, hV2, hV3, hV4, hV5, hV6, hV7]
            clear hV0 hV1 hV2 hV3 hV4 hV5 hV6 hV7
            replace B1 := Blk.stp hs B1 (by omega)
            replace B7 := Blk.stp hs B7 (by omega)
            replace own1 := own1.stp hs (by omega)
            replace tb1 := tb1.stp hs (by omega)
            replace hS := hS.trans hs
            clear hs
            have f7 := B7.frozen
            have d7 := B7.c1
            have ne7 := own1.neBlk B7 (by decide)
            have B7n := B7.set_ 1 (.int .i64 x62)
            have B1n := B1.far (p := ⟨g7, 1, none⟩) (by simp only []; omega) (.int .i64 x62)
            have own1n := own1.farNe (p := ⟨g7, 1, none⟩) ne7 (.int .i64 x62)
            have tb1n := tb1.far (i := 1) B7 (by decide) (.int .i64 x62)
            have hSn := Stp.set (p := ⟨g7, 1, none⟩) (.int .i64 x62) (by simp only []; omega) (by simp only []; omega) hS
            clear B7 B1 own1 tb1 hS ne7
            have B7 := B7n
            have B1 := B1n
            have own1 := own1n
            have tb1 := tb1n
            have hS := hSn
            clear B7n B1n own1n tb1n hSn
            have e0 := B7.c0
            have e1 := B7.c1
            have e2 := B7.c2
            have e3 := B1.frozen
            have e4 := B1.c0
            have e5 := B1.c1
            have e6 := B1.c2
            have B1e := ((B1.set_ 0 (.slice (some ⟨g, 0, none⟩) (nl + 1) c5)).set_ 1 (.int .i64 (x62))).set_ 2 (.int .i64 (a0))
            have z0 := B1e.c0
            have z1 := B1e.c1
            have z2 := B1e.c2
            go_wp2
            exact bodyPost_ret (v := modV (((⟨some ⟨g, 0, none⟩, (nl + 1), c5, x :: l'⟩ : SV TabV), (x62), (a0)), p)) (by simp [results, Try.results71, go_sem, modV, SV.v, z0, z1, z2]) rfl ⟨(((⟨some ⟨g, 0, none⟩, (nl + 1), c5, x :: l'⟩ : SV TabV), (x62), (a0)), p), rfl, (((own1.far (p := ⟨w.heap.size, 0, none⟩) (by simp only []; omega) _).far (p := ⟨w.heap.size, 1, none⟩) (by simp only []; omega) _).far (p := ⟨w.heap.size, 2, none⟩) (by simp only []; omega) _).low (by omega), (fun y hy => ((((tb1 y hy).far (p := ⟨w.heap.size, 0, none⟩) (by simp only []; omega) _).far (p := ⟨w.heap.size, 1, none⟩) (by simp only []; omega) _).far (p := ⟨w.heap.size, 2, none⟩) (by simp only []; omega) _).low (by omega)), (by simp only []; omega), (by simp only []; omega), (Stp.set (p := ⟨w.heap.size, 2, none⟩) _ (Nat.le_refl _) (by simp only []; omega) (Stp.set (p := ⟨w.heap.size, 1, none⟩) _ (Nat.le_refl _) (by simp only []; omega) (Stp.set (p := ⟨w.heap.size, 0, none⟩) _ (Nat.le_refl _) (by simp only []; omega) hS))).le (by omega)⟩
        · go_wp2_with fail
          refine region_prefix (by kernel_rfl) (fun i v w => (tyM15 r g7 g nl c5 i).holds r 3 v w) r 97 8 _ _ _ _ (by kernel_rfl) (by kernel_rfl) (fun i v w w' => Ty.stable _ v w w') (Stp.refl hS.rd) ?_ ?_
          · intro i o him ho a wa b' hb' hS1 hfr hdep
            have hs1 := Stp.refl hS1.rd
            have hbb : b' ≤ 1000000000 := by omega
            have hrl := hS1.rd.lt
            replace B7 := Blk.stp hS1 B7 (by assumption)
            clear hS1 hS
            match i, ho, him with
            | 0, ho, _ =>
              injection ho with ho
              subst ho
              have h7 := hfr.2.2 7 (drawFr_spec (by kernel_rfl))
              clear hdep hfr hb'
              simp only [Array.getD_eq_getD_getElem?] at h7
              unfold Oper.wp
              go_simp
              exact Leaves.val rfl (hs1.le (by omega))
            | 1, ho, _ =>
              injection ho with ho
              subst ho
              have h66 := hdep ⟨0, .data⟩ (by simp) (by kernel_rfl) _ 66 rfl rfl
              clear hdep hfr hb'
              replace h66 : a.tmps.getD 66 undef = .pointer (some ⟨g7, 0, none⟩) := h66
              simp only [Array.getD_eq_getD_getElem?] at h66
              have cL0 := B7.c0
              have cL1 := B7.c1
              have cL2 := B7.c2
              unfold Oper.wp
              go_simp
              exact Leaves.val rfl (hs1.le (by omega))
            | 2, ho, _ =>
              injection ho with ho
              subst ho
              have h67 := hdep ⟨1, .data⟩ (by simp) (by kernel_rfl) _ 67 rfl rfl
              clear hdep hfr hb'
              replace h67 : a.tmps.getD 67 undef = .slice (some ⟨g, 0, none⟩) (nl + 1) c5 := h67
              simp only [Array.getD_eq_getD_getElem?] at h67
              unfold Oper.wp
              go_simp
              exact Leaves.val ⟨_, rfl, by omega, by omega⟩ (hs1.le (by omega))
            | 3, ho, _ =>
              injection ho with ho
              subst ho
              have h68 := hdep ⟨2, .data⟩ (by simp) (by kernel_rfl) _ 68 rfl rfl
              clear hdep hfr hb'
              obtain ⟨x68, h68, hx680, hx681⟩ := h68
              simp only [Array.getD_eq_getD_getElem?] at h68
              unfold Oper.wp
              go_simp
              refine Leaves.val ⟨wa.heap.size, _, rfl, hrl, heap_alloc_new wa _, rfl, ?_⟩ ((hs1.alloc _).le (by omega))
              simp only [List.forall_mem_cons]
              exact ⟨⟨_, rfl, by omega, by omega⟩, ⟨_, rfl, by omega, by omega⟩, by simp⟩
            | 4, ho, _ =>
              injection ho with ho
              subst ho
              have h0 := hfr.2.2 0 (drawFr_spec (by kernel_rfl))
              clear hdep hfr hb'
              simp only [Array.getD_eq_getD_getElem?] at h0
              unfold Oper.wp
              go_simp
              exact Leaves.val rfl (hs1.le (by omega))
            | 5, ho, _ =>
              injection ho with ho
              subst ho
              have h70 := hdep ⟨4, .data⟩ (by simp) (by kernel_rfl) _ 70 rfl rfl
              clear hdep hfr hb'
              replace h70 : a.tmps.getD 70 undef = .pointer (some ⟨r, 0, none⟩) := h70
              simp only [Array.getD_eq_getD_getElem?] at h70
              unfold Oper.wp
              go_simp
              refine (pick_any r (2) _ wa hs1.rd (by omega) (by omega)).mono ?_
              rintro e wb ⟨v, rfl, hv0, hv1, hs⟩
              exact Leaves.val ⟨v, rfl, by omega, by omega⟩ hs
            | 6, ho, _ =>
              injection ho with ho
              subst ho
              have h69 := hdep ⟨3, .data⟩ (by simp) (by kernel_rfl) _ 69 rfl rfl
              have h71 := hdep ⟨5, .data⟩ (by simp) (by kernel_rfl) _ 71 rfl rfl
              clear hdep hfr hb'
              obtain ⟨g, cs, h69, hg, hh, hcs, hc⟩ := h69
              simp only [Array.getD_eq_getD_getElem?] at h69
              obtain ⟨x71, h71, hx710, hx711⟩ := h71
              simp only [Array.getD_eq_getD_getElem?] at h71
              have HE := Lib.hid (Ty.at_ hg hh hcs hc (x := x71) (by omega) (by omega))
              clear hh hcs hc
              unfold Oper.wp
              go_simp
              exact Leaves.val HE.out (hs1.le (by omega))
            | 7, ho, _ =>
              injection ho with ho
              subst ho
              have h72 := hdep ⟨6, .data⟩ (by simp) (by kernel_rfl) _ 72 rfl rfl
              clear hdep hfr hb'
              obtain ⟨g, i, u, h72, hg, hc, x, rfl, hx0, hx1⟩ := h72
              simp only [Array.getD_eq_getD_getElem?] at h72
              unfold Oper.wp
              go_simp
              exact Leaves.val ⟨x, rfl, hx0, hx1⟩ (hs1.le (by omega))
            | n + 8, _, him => exact absurd him (by omega)
          · intro V w7 hV hs
            have hV0 := hV 0 _ 66 (by decide) rfl rfl
            replace hV0 : V 0 = .pointer (some ⟨g7, 0, none⟩) := hV0
            have hV1 := hV 1 _ 67 (by decide) rfl rfl
            replace hV1 : V 1 = .slice (some ⟨g, 0, none⟩) (nl + 1) c5 := hV1
            obtain ⟨x68, hV2, hx680, hx681⟩ := hV 2 _ 68 (by decide) rfl rfl
            obtain ⟨_, _, hV3, _⟩ := hV 3 _ 69 (by decide) rfl rfl
            have hV4 := hV 4 _ 70 (by decide) rfl rfl
            replace hV4 : V 4 = .pointer (some ⟨r, 0, none⟩) := hV4
            obtain ⟨x71, hV5, hx710, hx711⟩ := hV 5 _ 71 (by decide) rfl rfl
            obtain ⟨_, _, _, hV6, _⟩ := hV 6 _ 72 (by decide) rfl rfl
            obtain ⟨x73, hV7, hx730, hx731⟩ := hV 7 _ 73 (by decide) rfl rfl
            clear hV
            simp only [puts, List.drop, Act.put, List.getElem?_toArray, List.getElem?_cons_succ, List.getElem?_cons_zero, List.setIfInBounds_toArray, List.set_cons_succ, List.set_cons_zero, hV0, hV1, hV2, hV3, hV4, hV5, hV6, hV7]
            clear hV0 hV1 hV2 hV3 hV4 hV5 hV6 hV7
            replace B1 := Blk.stp hs B1 (by omega)
            replace B7 := Blk.stp hs B7 (by omega)
            replace own1 := own1.stp hs (by omega)
            replace tb1 := tb1.stp hs (by omega)
            replace hS := hS.trans hs
            clear hs
            have f7 := B7.frozen
            have d7 := B7.c2
            have ne7 := own1.neBlk B7 (by decide)
            have B7n := B7.set_ 2 (.int .i64 x73)
            have B1n := B1.far (p := ⟨g7, 2, none⟩) (by simp only []; omega) (.int .i64 x73)
            have own1n := own1.farNe (p := ⟨g7, 2, none⟩) ne7 (.int .i64 x73)
            have tb1n := tb1.far (i := 2) B7 (by decide) (.int .i64 x73)
            have hSn := Stp.set (p := ⟨g7, 2, none⟩) (.int .i64 x73) (by simp only []; omega) (by simp only []; omega) hS
            clear B7 B1 own1 tb1 hS ne7
            have B7 := B7n
            have B1 := B1n
            have own1 := own1n
            have tb1 := tb1n
            have hS := hSn
            clear B7n B1n own1n tb1n hSn
            have e0 := B7.c0
            have e1 := B7.c1
            have e2 := B7.c2
            have e3 := B1.frozen
            have e4 := B1.c0
            have e5 := B1.c1
            have e6 := B1.c2
            have B1e := ((B1.set_ 0 (.slice (some ⟨g, 0, none⟩) (nl + 1) c5)).set_ 1 (.int .i64 (v2))).set_ 2 (.int .i64 (x73))
            have z0 := B1e.c0
            have z1 := B1e.c1
            have z2 := B1e.c2
            go_wp2
            exact bodyPost_ret (v := modV (((⟨some ⟨g, 0, none⟩, (nl + 1), c5, x :: l'⟩ : SV TabV), (v2), (x73)), p)) (by simp [results, Try.results71, go_sem, modV, SV.v, z0, z1, z2]) rfl ⟨(((⟨some ⟨g, 0, none⟩, (nl + 1), c5, x :: l'⟩ : SV TabV), (v2), (x73)), p), rfl, (((own1.far (p := ⟨w.heap.size, 0, none⟩) (by simp only []; omega) _).far (p := ⟨w.heap.size, 1, none⟩) (by simp only []; omega) _).far (p := ⟨w.heap.size, 2, none⟩) (by simp only []; omega) _).low (by omega), (fun y hy => ((((tb1 y hy).far (p := ⟨w.heap.size, 0, none⟩) (by simp only []; omega) _).far (p := ⟨w.heap.size, 1, none⟩) (by simp only []; omega) _).far (p := ⟨w.heap.size, 2, none⟩) (by simp only []; omega) _).low (by omega)), (by simp only []; omega), (by simp only []; omega), (Stp.set (p := ⟨w.heap.size, 2, none⟩) _ (Nat.le_refl _) (by simp only []; omega) (Stp.set (p := ⟨w.heap.size, 1, none⟩) _ (Nat.le_refl _) (by simp only []; omega) (Stp.set (p := ⟨w.heap.size, 0, none⟩) _ (Nat.le_refl _) (by simp only []; omega) hS))).le (by omega)⟩
        · have hz6 := hS.grown.size
          have own0 : Own (w6.alloc (.cells #[] 23)) (w.heap.size + 1) 23 1 eTb (.slice (some ⟨w6.heap.size, 0, none⟩) 0 0) ([] : List TabV) := Own.of_blk (Blk.new w6 23 #[]) (by have := B1.lt; omega) encTb (by simp [maxLen])
          replace B1 := B1.alloc (.cells #[] 23)
          replace B7 := B7.alloc (.cells #[] 23)
          replace hS := hS.alloc (.cells #[] 23)
          clear own1 tb1
          have own1 := own0
          have tb1 : TbOwn (w6.alloc (.cells #[] 23)) (w.heap.size + 1) ([] : List TabV) := fun y hy => by cases hy
          clear own0
          have f7 := B7.frozen
          have d7 := B7.c0
          have ne7 := own1.neBlk B7 (by decide)
          have B7n := B7.set_ 0 (.slice (some ⟨w6.heap.size, 0, none⟩) 0 0)
          have B1n := B1.far (p := ⟨g7, 0, none⟩) (by simp only []; omega) (.slice (some ⟨w6.heap.size, 0, none⟩) 0 0)
          have own1n := own1.farNe (p := ⟨g7, 0, none⟩) ne7 (.slice (some ⟨w6.heap.size, 0, none⟩) 0 0)
          have tb1n := tb1.far (i := 0) B7 (by decide) (.slice (some ⟨w6.heap.size, 0, none⟩) 0 0)
          have hSn := Stp.set (p := ⟨g7, 0, none⟩) (.slice (some ⟨w6.heap.size, 0, none⟩) 0 0) (by simp only []; omega) (by simp only []; omega) hS
          clear B7 B1 own1 tb1 hS ne7
          have B7 := B7n
          have B1 := B1n
          have own1 := own1n
          have tb1 := tb1n
          have hS := hSn
          clear B7n B1n own1n tb1n hSn
          have e0 := B7.c0
          have e1 := B7.c1
          have e2 := B7.c2
          have e3 := B1.frozen
          have e4 := B1.c0
          have e5 := B1.c1
          have e6 := B1.c2
          have B1e := ((B1.set_ 0 (.slice (some ⟨w6.heap.size, 0, none⟩) 0 0)).set_ 1 (.int .i64 (v2))).set_ 2 (.int .i64 (a0))
          have z0 := B1e.c0
          have z1 := B1e.c1
          have z2 := B1e.c2
          go_wp2
          exact bodyPost_ret (v := modV (((⟨some ⟨w6.heap.size, 0, none⟩, 0, 0, ([] : List TabV)⟩ : SV TabV), (v2), (a0)), p)) (by simp [results, Try.results71, go_sem, modV, SV.v, z0, z1, z2]) rfl ⟨(((⟨some ⟨w6.heap.size, 0, none⟩, 0, 0, ([] : List TabV)⟩ : SV TabV), (v2), (a0)), p), rfl, (((own1.far (p := ⟨w.heap.size, 0, none⟩) (by simp only []; omega) _).far (p := ⟨w.heap.size, 1, none⟩) (by simp only []; omega) _).far (p := ⟨w.heap.size, 2, none⟩) (by simp only []; omega) _).low (by omega), (fun y hy => ((((tb1 y hy).far (p := ⟨w.heap.size, 0, none⟩) (by simp only []; omega) _).far (p := ⟨w.heap.size, 1, none⟩) (by simp only []; omega) _).far (p := ⟨w.heap.size, 2, none⟩) (by simp only []; omega) _).low (by omega)), (by simp only []; omega), (by simp only []; omega), (Stp.set (p := ⟨w.heap.size, 2, none⟩) _ (Nat.le_refl _) (by simp only []; omega) (Stp.set (p := ⟨w.heap.size, 1, none⟩) _ (Nat.le_refl _) (by simp only []; omega) (Stp.set (p := ⟨w.heap.size, 0, none⟩) _ (Nat.le_refl _) (by simp only []; omega) hS))).le (by omega)⟩
        · have x0 := B7.c0
          have hz66 := B7.lt
          have hS' := hS.le (show _ ≤ b + 710 by omega)
          go_wp2_with fail
          go_region_law (first | (go_simp; go_at_call 77; refine (l20SlotsO_any r p 1 _ _ (by repeat (first | exact hS'.rd | apply Rd.drew)) (by omega) (by omega)).mono ?_; rintro e w7 ⟨⟨A6, n6, c6, l6⟩, rfl, own6, hn6, hsb6, hs⟩; simp only [SV.v] at own6 ⊢; have B1x := Blk.stpOf B1 hs (by repeat (first | exact B1 | apply Blk.drew)) (by omega); have B7x := Blk.stpOf B7 hs (by repeat (first | exact B7 | apply Blk.drew)) (by omega); have own5 := Own.stpOf own1 hs (by repeat (first | exact own1 | apply Own.drew)) (by omega); have tb5 := TbOwn.stpOf tb1 hs (by repeat (first | exact tb1 | apply TbOwn.drew)) (by omega); have hS5 := Stp.trans (w := _) (by repeat (first | exact hS' | apply Stp.drew)) hs; have y0 := B7x.c0; have cx := own5.cellF encTb 0 0 0 x _ rfl rfl rfl; have fx := own5.frozenAt 0; have own6a := own6.low (base' := w.heap.size + 1) (by simp <;> omega); have hz7 : (0 : Int) < (nl : Int) + 1 := by omega))
          all_goals
            obtain ⟨cs, hBg⟩ := own5.blkOfT
            have hgg : g7 ≠ g := fun e => own5.neBlk B7x (by decide) (by rw [e]; rfl)
            have st := own5.storedF encTb 0 0 0 x (⟨A6, n6, c6, l6⟩ : TabV) (.slice A6 n6 c6) rfl (by decide) rfl rfl
            have B1 := B1x.far (p := ⟨g, 0, none⟩) (by simp only []; omega) (.slice A6 n6 c6)
            have B7 := B7x.far (p := ⟨g, 0, none⟩) hgg (.slice A6 n6 c6)
            have own1 := st.1
            have tb1 : TbOwn (w7.setCell ⟨g, 0, none⟩ (.slice A6 n6 c6)) (w.heap.size + 1) ((⟨A6, n6, c6, l6⟩ : TabV) :: l') := fun y hy => by
              rcases List.mem_cons.1 hy with rfl | hy
              · exact own6a.farNe (p := ⟨g, 0, none⟩) (own6a.neBlk hBg (by decide)) _
              · exact (tb5.far (i := 0) hBg (by decide) (.slice A6 n6 c6)) y (List.mem_cons_of_mem _ hy)
            have hS := Stp.set (p := ⟨g, 0, none⟩) (.slice A6 n6 c6) (by simp only []; omega) (by simp only []; omega) hS5
            clear y0 cx fx own5 own6 own6a tb5 hS5 B1x B7x st x0 hBg
            have e0 := B7.c0
            have e1 := B7.c1
            have e2 := B7.c2
            have e3 := B1.frozen
            have e4 := B1.c0
            have e5 := B1.c1
            have e6 := B1.c2
            have B1e := ((B1.set_ 0 (.slice (some ⟨g, 0, none⟩) (nl + 1) c5)).set_ 1 (.int .i64 (v2))).set_ 2 (.int .i64 (a0))
            have z0 := B1e.c0
            have z1 := B1e.c1
            have z2 := B1e.c2
            go_wp2
            exact bodyPost_ret (v := modV (((⟨some ⟨g, 0, none⟩, (nl + 1), c5, (⟨A6, n6, c6, l6⟩ : TabV) :: l'⟩ : SV TabV), (v2), (a0)), p)) (by simp [results, Try.results71, go_sem, modV, SV.v, z0, z1, z2]) rfl ⟨(((⟨some ⟨g, 0, none⟩, (nl + 1), c5, (⟨A6, n6, c6, l6⟩ : TabV) :: l'⟩ : SV TabV), (v2), (a0)), p), rfl, (((own1.far (p := ⟨w.heap.size, 0, none⟩) (by simp only []; omega) _).far (p := ⟨w.heap.size, 1, none⟩) (by simp only []; omega) _).far (p := ⟨w.heap.size, 2, none⟩) (by simp only []; omega) _).low (by omega), (fun y hy => ((((tb1 y hy).far (p := ⟨w.heap.size, 0, none⟩) (by simp only []; omega) _).far (p := ⟨w.heap.size, 1, none⟩) (by simp only []; omega) _).far (p := ⟨w.heap.size, 2, none⟩) (by simp only []; omega) _).low (by omega)), (by simp only []; omega), (by simp only []; omega), (Stp.set (p := ⟨w.heap.size, 2, none⟩) _ (Nat.le_refl _) (by simp only []; omega) (Stp.set (p := ⟨w.heap.size, 1, none⟩) _ (Nat.le_refl _) (by simp only []; omega) (Stp.set (p := ⟨w.heap.size, 0, none⟩) _ (Nat.le_refl _) (by simp only []; omega) hS))).le (by omega)⟩
end Go.Proofs.Ytmlodhogfejdjaa
