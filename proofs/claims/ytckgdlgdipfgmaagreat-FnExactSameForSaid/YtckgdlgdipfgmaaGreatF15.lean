/- SameFor of the reference. -/
import Derived.Test.YtckgdlgdipfgmaaGreatF8
import Derived.Test.YtckgdlgdipfgmaaGreatF10
import Derived.Test.YtckgdlgdipfgmaaGreatF11
import Derived.Test.YtckgdlgdipfgmaaGreatF12
import Derived.Test.YtckgdlgdipfgmaaGreatF14

namespace Go.Proofs.YtckgdlgdipfgmaaGreat
set_option linter.unusedVariables false
set_option linter.unusedSimpArgs false
open Go.RowKit

def relFS (q1 q2 n5 c5 : Nat) (va vb sa sb : Value) (A5 : Option Addr) (n : Int) (tk : Int) (La Lb : List Int) (v4 : Bool) : Nat → Value → World → Prop
  | 0, v, _ => v = va
  | 1, v, _ => v = .bool true
  | 2, v, _ => v = .bool false
  | 3, v, _ => v = .bool false
  | 4, v, _ => v = vb
  | 5, v, _ => v = .bool true
  | 6, v, _ => v = .bool false
  | 7, v, _ => v = .bool false
  | 8, v, _ => v = .bool false
  | 9, v, _ => v = .int .i64 n
  | 10, v, _ => v = .pointer (some ⟨q1, 4, none⟩)
  | 11, v, _ => v = .slice A5 n5 c5
  | 12, v, _ => v = .int .i64 n5
  | 13, v, _ => v = .int .i64 (IntKind.i64.wrap ((n5 : Int) - 1))
  | 14, v, _ => v = .bool true
  | 15, v, _ => v = .bool false
  | 16, v, _ => v = .bool false
  | 17, v, _ => v = .bool false
  | 18, v, _ => v = .pointer (some ⟨q1, 6, none⟩)
  | 19, v, _ => v = .int .i64 tk
  | 20, v, _ => v = .pointer (some ⟨q2, 6, none⟩)
  | 21, v, _ => v = .int .i64 tk
  | 22, v, _ => v = .bool false
  | 23, v, _ => v = .bool false
  | 24, v, _ => v = .bool false
  | 25, v, _ => v = .pointer (some ⟨q1, 0, none⟩)
  | 26, v, _ => v = sa
  | 27, v, W => ∃ A9 n9 c9, v = .slice A9 n9 c9 ∧ Sl W 1 eI A9 n9 c9 La
  | 28, v, _ => v = .pointer (some ⟨q2, 0, none⟩)
  | 29, v, _ => v = sb
  | 30, v, W => ∃ A9 n9 c9, v = .slice A9 n9 c9 ∧ Sl W 1 eI A9 n9 c9 Lb
  | 31, v, _ => v = .bool v4
  | 32, v, _ => v = .bool (!v4)
  | 33, v, _ => v = .bool (!v4)
  | _, _, _ => True
theorem relFS_below (q1 q2 n5 c5 : Nat) (va vb sa sb : Value) (A5 : Option Addr) (n : Int) (tk : Int) (La Lb : List Int) (v4 : Bool) {i : Nat} {v : Value} {w w' : World} (h : relFS q1 q2 n5 c5 va vb sa sb A5 n tk La Lb v4 i v w) (hb : Below w.heap.size w w') : relFS q1 q2 n5 c5 va vb sa sb A5 n tk La Lb v4 i v w' := by
  match i, h with
  | 0, h => exact h
  | 1, h => exact h
  | 2, h => exact h
  | 3, h => exact h
  | 4, h => exact h
  | 5, h => exact h
  | 6, h => exact h
  | 7, h => exact h
  | 8, h => exact h
  | 9, h => exact h
  | 10, h => exact h
  | 11, h => exact h
  | 12, h => exact h
  | 13, h => exact h
  | 14, h => exact h
  | 15, h => exact h
  | 16, h => exact h
  | 17, h => exact h
  | 18, h => exact h
  | 19, h => exact h
  | 20, h => exact h
  | 21, h => exact h
  | 22, h => exact h
  | 23, h => exact h
  | 24, h => exact h
  | 25, h => exact h
  | 26, h => exact h
  | 27, ⟨A9, n9, c9, e, B⟩ => exact ⟨A9, n9, c9, e, B.below hb⟩
  | 28, h => exact h
  | 29, h => exact h
  | 30, ⟨A9, n9, c9, e, B⟩ => exact ⟨A9, n9, c9, e, B.below hb⟩
  | 31, h => exact h
  | 32, h => exact h
  | 33, h => exact h
  | n + 34, _ => trivial

set_option maxRecDepth 100000 in
set_option maxHeartbeats 8000000 in
theorem specSameFor_any (a b : MacR) (n : Int) (w : World) (ha : okM w a) (hb : okM w b) (_ : nlM a) (_ : nlM b) :
    Calls Tryz.prog 8 #[macV a, macV b, .int .i64 n] w fun e w' => .returned (.bool (sameForC (cM a) (cM b) n)) = e ∧ Below w.heap.size w w' := by
  have hqa := fun W (hW : Below w.heap.size w W) => specMachineValid_any a W (ha.below hW)
  have hqb := fun W (hW : Below w.heap.size w W) => specMachineValid_any b W (hb.below hW)
  have hNa := fun W (hW : Below w.heap.size w W) => show Calls Tryz.prog 32 #[setV a.1] W (Post SV.v fun s w' => (Sl w' 1 eI s.A s.n s.c s.xs ∧ True ∧ True ∧ True) ∧ s.xs = numsC (cM a).1 ∧ True ∧ Below W.heap.size W w') from (specSetupNumbers_any a.1 W (ha.1.below hW)).mono fun e w' ⟨s, e1, h1, h2, h3⟩ => ⟨s, e1, ⟨h1, trivial, trivial, trivial⟩, h2, trivial, h3⟩
  have hNb := fun W (hW : Below w.heap.size w W) => show Calls Tryz.prog 32 #[setV b.1] W (Post SV.v fun s w' => (Sl w' 1 eI s.A s.n s.c s.xs ∧ True ∧ True ∧ True) ∧ s.xs = numsC (cM b).1 ∧ True ∧ Below W.heap.size W w') from (specSetupNumbers_any b.1 W (hb.1.below hW)).mono fun e w' ⟨s, e1, h1, h2, h3⟩ => ⟨s, e1, ⟨h1, trivial, trivial, trivial⟩, h2, trivial, h3⟩
  obtain ⟨⟨⟨A1, n1, c1, x1⟩, ⟨A2, n2, c2, x2⟩, ⟨A3, n3, c3, x3⟩⟩, ⟨A4, n4, c4, x4⟩, ⟨A5, n5, c5, x5⟩, ⟨A6, n6, c6, x6⟩, tick⟩ := a
  obtain ⟨⟨⟨D1, d1, e1, y1⟩, ⟨D2, d2, e2, y2⟩, ⟨D3, d3, e3, y3⟩⟩, ⟨D4, d4, e4, y4⟩, ⟨D5, d5, e5, y5⟩, ⟨D6, d6, e6, y6⟩, tock⟩ := b
  have hb0 := alo (alo (Below.refl w.heap.size w) (.cells #[.slice A1 n1 c1, .slice A2 n2 c2, .slice A3 n3 c3, .slice A4 n4 c4, .slice A5 n5 c5, .slice A6 n6 c6, .int .i64 tick] 43)) (.cells #[.slice D1 d1 e1, .slice D2 d2 e2, .slice D3 d3 e3, .slice D4 d4 e4, .slice D5 d5 e5, .slice D6 d6 e6, .int .i64 tock] 43)
  have Ba := (Blk.new w 43 #[.slice A1 n1 c1, .slice A2 n2 c2, .slice A3 n3 c3, .slice A4 n4 c4, .slice A5 n5 c5, .slice A6 n6 c6, .int .i64 tick]).alloc (.cells #[.slice D1 d1 e1, .slice D2 d2 e2, .slice D3 d3 e3, .slice D4 d4 e4, .slice D5 d5 e5, .slice D6 d6 e6, .int .i64 tock] 43)
  have Bb := Blk.new2 w (.cells #[.slice A1 n1 c1, .slice A2 n2 c2, .slice A3 n3 c3, .slice A4 n4 c4, .slice A5 n5 c5, .slice A6 n6 c6, .int .i64 tick] 43) 43 #[.slice D1 d1 e1, .slice D2 d2 e2, .slice D3 d3 e3, .slice D4 d4 e4, .slice D5 d5 e5, .slice D6 d6 e6, .int .i64 tock]
  have hs2 : Sl w 4 eC A2 n2 c2 x2 := ha.1.2.1
  have hs4 : Sl w 1 eOL A4 n4 c4 x4 := ha.2.1.1
  have hs5 : Sl w 3 eCo A5 n5 c5 x5 := ha.2.2.1.1
  have hs6 : Sl w 1 eHr A6 n6 c6 x6 := ha.2.2.2.1
  have ks4 : Sl w 1 eOL D4 d4 e4 y4 := hb.2.1.1
  have ks5 : Sl w 3 eCo D5 d5 e5 y5 := hb.2.2.1.1
  have ks6 : Sl w 1 eHr D6 d6 e6 y6 := hb.2.2.2.1
  have ks2 : Sl w 4 eC D2 d2 e2 y2 := hb.1.2.1
  have HO := Lib.hid (show ∀ y ∈ x4, okO w y from ha.2.1.2)
  have HK := Lib.hid (show ∀ y ∈ x5, okC w y from ha.2.2.1.2)
  have HH := Lib.hid (show ∀ y ∈ x6, okH w y from ha.2.2.2.2)
  have KO := Lib.hid (show ∀ y ∈ y4, okO w y from hb.2.1.2)
  have KK := Lib.hid (show ∀ y ∈ y5, okC w y from hb.2.2.1.2)
  have KH := Lib.hid (show ∀ y ∈ y6, okH w y from hb.2.2.2.2)
  have hle5 := hs5.le
  have hmax5 := hs5.max
  obtain ⟨C, hC⟩ : ∃ C : MacC, cM ((((⟨A1, n1, c1, x1⟩, ⟨A2, n2, c2, x2⟩, ⟨A3, n3, c3, x3⟩) : SetR), ⟨A4, n4, c4, x4⟩, ⟨A5, n5, c5, x5⟩, ⟨A6, n6, c6, x6⟩, tick) : MacR) = C := ⟨_, rfl⟩
  obtain ⟨D, hD⟩ : ∃ C : MacC, cM ((((⟨D1, d1, e1, y1⟩, ⟨D2, d2, e2, y2⟩, ⟨D3, d3, e3, y3⟩) : SetR), ⟨D4, d4, e4, y4⟩, ⟨D5, d5, e5, y5⟩, ⟨D6, d6, e6, y6⟩, tock) : MacR) = C := ⟨_, rfl⟩
  have E1 : C.1 = cS ((⟨A1, n1, c1, x1⟩, ⟨A2, n2, c2, x2⟩, ⟨A3, n3, c3, x3⟩) : SetR) := by rw [← hC]; rfl
  have E2 : C.1.2.1 = x2 := by rw [← hC]; rfl
  have E4 : C.2.1 = x4.map cO := by rw [← hC]; rfl
  have E5 : C.2.2.1 = x5.map cC := by rw [← hC]; rfl
  have E6 : C.2.2.2.1 = x6.map cH := by rw [← hC]; rfl
  have E7 : C.2.2.2.2 = tick := by rw [← hC]; rfl
  have K1 : D.1 = cS ((⟨D1, d1, e1, y1⟩, ⟨D2, d2, e2, y2⟩, ⟨D3, d3, e3, y3⟩) : SetR) := by rw [← hD]; rfl
  have K2 : D.1.2.1 = y2 := by rw [← hD]; rfl
  have K4 : D.2.1 = y4.map cO := by rw [← hD]; rfl
  have K5 : D.2.2.1 = y5.map cC := by rw [← hD]; rfl
  have K6 : D.2.2.2.1 = y6.map cH := by rw [← hD]; rfl
  have K7 : D.2.2.2.2 = tock := by rw [← hD]; rfl
  rw [hC, hD]
  rw [hC] at hqa hNa
  rw [hD] at hqb hNb
  simp only [macV, setV, SV.v_mk] at hqa hqb hNa hNb ⊢
  clear ha hb E1 K1
  have hl5 : C.2.2.1.length = n5 := by rw [E5, List.length_map]; exact hs5.len
  obtain ⟨r, hr⟩ : ∃ r, sameForC C D n = r := ⟨_, rfl⟩
  rw [hr]
  unfold sameForC at hr
  rw [E7, K7, hl5] at hr
  obtain ⟨La, hLa⟩ : ∃ L, numsC C.1 = L := ⟨_, rfl⟩
  obtain ⟨Lb, hLb⟩ : ∃ L, numsC D.1 = L := ⟨_, rfl⟩
  simp only [hLa] at hNa hr
  simp only [hLb] at hNb hr
  obtain ⟨v4, hv4⟩ : ∃ v, decide (La = Lb) = v := ⟨_, rfl⟩
  have hEq := fun (W : World) A m c A' m' c' (h1 : Sl W 1 eI A m c La) (h2 : Sl W 1 eI A' m' c' Lb) => show Calls Tryz.prog 31 #[.slice A m c, .slice A' m' c'] W fun e w' => .returned (.bool v4) = e ∧ Below W.heap.size W w' by rw [← hv4]; exact l21Ints_any A A' m m' c c' La Lb W h1 h2
  rw [hv4] at hr
  obtain ⟨v1, hv1⟩ : ∃ v, machOkC C = v := ⟨_, rfl⟩
  obtain ⟨v2, hv2⟩ : ∃ v, machOkC D = v := ⟨_, rfl⟩
  obtain ⟨v3, hv3⟩ : ∃ v, inB n 0 ((n5 : Int) - 1) = v := ⟨_, rfl⟩
  have hI1 := fun W => l1In_any n 0 ((n5 : Int) - 1) W
  have hw := IntWalk.i64_in ((n5 : Int) - 1) (by omega)
  rw [hv1] at hqa hr
  rw [hv2] at hqb hr
  rw [hv3] at hI1 hr
  have HR := Lib.hid hr
  clear hr
  have hqa1 := fun x : Near ((w.alloc (.cells #[.slice A1 n1 c1, .slice A2 n2 c2, .slice A3 n3 c3, .slice A4 n4 c4, .slice A5 n5 c5, .slice A6 n6 c6, .int .i64 tick] 43)).alloc (.cells #[.slice D1 d1 e1, .slice D2 d2 e2, .slice D3 d3 e3, .slice D4 d4 e4, .slice D5 d5 e5, .slice D6 d6 e6, .int .i64 tock] 43)) => hqa x.W (thn hb0 x.b)
  have hqb1 := fun x : Near ((w.alloc (.cells #[.slice A1 n1 c1, .slice A2 n2 c2, .slice A3 n3 c3, .slice A4 n4 c4, .slice A5 n5 c5, .slice A6 n6 c6, .int .i64 tick] 43)).alloc (.cells #[.slice D1 d1 e1, .slice D2 d2 e2, .slice D3 d3 e3, .slice D4 d4 e4, .slice D5 d5 e5, .slice D6 d6 e6, .int .i64 tock] 43)) => hqb x.W (thn hb0 x.b)
  skip
  skip
  cases v1
  · clear hqb hqb1 hNa hNb hEq hI1
    go_enter Tryz.func8, Tryz.ntmps8
    go_wp2_with fail
    have qBa_0 := fun x => (Ba.near x).c0; have qBa_1 := fun x => (Ba.near x).c1; have qBa_2 := fun x => (Ba.near x).c2; have qBa_3 := fun x => (Ba.near x).c3; have qBa_4 := fun x => (Ba.near x).c4; have qBa_5 := fun x => (Ba.near x).c5; have qBa_6 := fun x => (Ba.near x).c6; have qBb_0 := fun x => (Bb.near x).c0; have qBb_1 := fun x => (Bb.near x).c1; have qBb_2 := fun x => (Bb.near x).c2; have qBb_3 := fun x => (Bb.near x).c3; have qBb_4 := fun x => (Bb.near x).c4; have qBb_5 := fun x => (Bb.near x).c5; have qBb_6 := fun x => (Bb.near x).c6; refine wp_region_near (by kernel_rfl) (by kernel_rfl) ?_; (repeat (go_big_quiet_step (first | (go_at_call 29; with_reducible exact near_call (hqa1 _))))); refine wpQuiet_nil ?_; intro xN; have hbw7 := xN.b; generalize xN.W = w7 at hbw7 ⊢; clear xN; clear qBa_0 qBa_1 qBa_2 qBa_3 qBa_4 qBa_5 qBa_6; replace Ba := Ba.below hbw7; clear qBb_0 qBb_1 qBb_2 qBb_3 qBb_4 qBb_5 qBb_6; replace Bb := Bb.below hbw7
    go_wp2
    go_ret
    exact ⟨by rw [← HR.out]; rfl, thn hb0 hbw7⟩
  · cases v2
    · clear hNa hNb hEq hI1
      go_enter Tryz.func8, Tryz.ntmps8
      go_wp2_with fail
      have qBa_0 := fun x => (Ba.near x).c0; have qBa_1 := fun x => (Ba.near x).c1; have qBa_2 := fun x => (Ba.near x).c2; have qBa_3 := fun x => (Ba.near x).c3; have qBa_4 := fun x => (Ba.near x).c4; have qBa_5 := fun x => (Ba.near x).c5; have qBa_6 := fun x => (Ba.near x).c6; have qBb_0 := fun x => (Bb.near x).c0; have qBb_1 := fun x => (Bb.near x).c1; have qBb_2 := fun x => (Bb.near x).c2; have qBb_3 := fun x => (Bb.near x).c3; have qBb_4 := fun x => (Bb.near x).c4; have qBb_5 := fun x => (Bb.near x).c5; have qBb_6 := fun x => (Bb.near x).c6; refine wp_region_near (by kernel_rfl) (by kernel_rfl) ?_; (repeat (go_big_quiet_step (first | (go_at_call 29; with_reducible exact near_call (hqa1 _)) | (go_at_call 29; with_reducible exact near_call (hqb1 _))))); refine wpQuiet_nil ?_; intro xN; have hbw7 := xN.b; generalize xN.W = w7 at hbw7 ⊢; clear xN; clear qBa_0 qBa_1 qBa_2 qBa_3 qBa_4 qBa_5 qBa_6; replace Ba := Ba.below hbw7; clear qBb_0 qBb_1 qBb_2 qBb_3 qBb_4 qBb_5 qBb_6; replace Bb := Bb.below hbw7
      go_wp2
      go_ret
      exact ⟨by rw [← HR.out]; rfl, thn hb0 hbw7⟩
    · cases v3
      · clear hNa hNb hEq
        go_enter Tryz.func8, Tryz.ntmps8
        go_wp2_with fail
        have qBa_0 := fun x => (Ba.near x).c0; have qBa_1 := fun x => (Ba.near x).c1; have qBa_2 := fun x => (Ba.near x).c2; have qBa_3 := fun x => (Ba.near x).c3; have qBa_4 := fun x => (Ba.near x).c4; have qBa_5 := fun x => (Ba.near x).c5; have qBa_6 := fun x => (Ba.near x).c6; have qBb_0 := fun x => (Bb.near x).c0; have qBb_1 := fun x => (Bb.near x).c1; have qBb_2 := fun x => (Bb.near x).c2; have qBb_3 := fun x => (Bb.near x).c3; have qBb_4 := fun x => (Bb.near x).c4; have qBb_5 := fun x => (Bb.near x).c5; have qBb_6 := fun x => (Bb.near x).c6; refine wp_region_near (by kernel_rfl) (by kernel_rfl) ?_; (repeat (go_big_quiet_step (first | (go_at_call 29; with_reducible exact near_call (hqa1 _)) | (go_at_call 29; with_reducible exact near_call (hqb1 _)) | (go_at_call 30; with_reducible exact near_same (hI1 _))))); refine wpQuiet_nil ?_; intro xN; have hbw7 := xN.b; generalize xN.W = w7 at hbw7 ⊢; clear xN; clear qBa_0 qBa_1 qBa_2 qBa_3 qBa_4 qBa_5 qBa_6; replace Ba := Ba.below hbw7; clear qBb_0 qBb_1 qBb_2 qBb_3 qBb_4 qBb_5 qBb_6; replace Bb := Bb.below hbw7
        go_wp2
        go_ret
        exact ⟨by rw [← HR.out]; rfl, thn hb0 hbw7⟩
      · by_cases ht : tick = tock
        · subst ht
          rw [decide_eq_true rfl] at HR
          have hokA := hv1
          have hokB := hv2
          obtain ⟨hn0, hn1⟩ := inB_true.1 hv3
          obtain ⟨N, rfl⟩ : ∃ N : Nat, n = (N : Int) := ⟨n.toNat, by omega⟩
          have hN5 : N < n5 := by omega
          have hI := fun W => show Calls Tryz.prog 30 #[.int .i64 N, .int .i64 0, .int .i64 (IntKind.i64.wrap ((n5 : Int) - 1))] W fun e w' => .returned (.bool true) = e ∧ Below W.heap.size W w' by rw [hw]; exact (hI1 W).mono fun e w' h => ⟨h.1, h.2 ▸ Below.refl _ _⟩
          have hqa := fun W hW => hqa W (thn hb0 hW)
          have hqb := fun W hW => hqb W (thn hb0 hW)
          have hNa := fun W hW => hNa W (thn hb0 hW)
          have hNb := fun W hW => hNb W (thn hb0 hW)
          clear hqa1 hqb1 hw hI1 hn1
          go_enter Tryz.func8, Tryz.ntmps8
          go_wp2_with fail
          generalize (w.alloc (.cells #[.slice A1 n1 c1, .slice A2 n2 c2, .slice A3 n3 c3, .slice A4 n4 c4, .slice A5 n5 c5, .slice A6 n6 c6, .int .i64 tick] 43)).alloc (.cells #[.slice D1 d1 e1, .slice D2 d2 e2, .slice D3 d3 e3, .slice D4 d4 e4, .slice D5 d5 e5, .slice D6 d6 e6, .int .i64 tick] 43) = W0 at *
          refine region_rel (by kernel_rfl) (fun iz vz wz => relFS w.heap.size (w.heap.size + 1) n5 c5 (.agg #[.slice A1 n1 c1, .slice A2 n2 c2, .slice A3 n3 c3, .slice A4 n4 c4, .slice A5 n5 c5, .slice A6 n6 c6, .int .i64 tick]) (.agg #[.slice D1 d1 e1, .slice D2 d2 e2, .slice D3 d3 e3, .slice D4 d4 e4, .slice D5 d5 e5, .slice D6 d6 e6, .int .i64 tick]) (.agg #[.slice A1 n1 c1, .slice A2 n2 c2, .slice A3 n3 c3]) (.agg #[.slice D1 d1 e1, .slice D2 d2 e2, .slice D3 d3 e3]) A5 (N : Int) tick La Lb v4 iz vz wz) (fun wz wz' => Below wz.heap.size wz wz') (fun _ wz' => Below W0.heap.size W0 wz') 34 _ W0 (by kernel_rfl) (by kernel_rfl) (fun iz vz wz wz' h hb => relFS_below w.heap.size (w.heap.size + 1) n5 c5 (.agg #[.slice A1 n1 c1, .slice A2 n2 c2, .slice A3 n3 c3, .slice A4 n4 c4, .slice A5 n5 c5, .slice A6 n6 c6, .int .i64 tick]) (.agg #[.slice D1 d1 e1, .slice D2 d2 e2, .slice D3 d3 e3, .slice D4 d4 e4, .slice D5 d5 e5, .slice D6 d6 e6, .int .i64 tick]) (.agg #[.slice A1 n1 c1, .slice A2 n2 c2, .slice A3 n3 c3]) (.agg #[.slice D1 d1 e1, .slice D2 d2 e2, .slice D3 d3 e3]) A5 (N : Int) tick La Lb v4 h hb) (fun wz => Below.refl _ _) (fun _ _ _ _ h => h) (show Below W0.heap.size W0 W0.drew from (Below.refl _ _).drew) ?_ ?_
          · intro i o him ho a wa cc hcc hJ hfr hdep
            have Ba := Ba.below hJ
            have Bb := Bb.below hJ
            have cBa_0 := Ba.c0; have cBa_1 := Ba.c1; have cBa_2 := Ba.c2; have cBa_3 := Ba.c3; have cBa_4 := Ba.c4; have cBa_5 := Ba.c5; have cBa_6 := Ba.c6; have fBa := Ba.frozen; have cBb_0 := Bb.c0; have cBb_1 := Bb.c1; have cBb_2 := Bb.c2; have cBb_3 := Bb.c3; have cBb_4 := Bb.c4; have cBb_5 := Bb.c5; have cBb_6 := Bb.c6; have fBb := Bb.frozen
            match i, ho, him with
            | 0, ho, _ =>
              injection ho with ho
              subst ho
              have h3 := hfr.2.2 3 (drawFrM_spec (by kernel_rfl))
              clear hdep hfr
              simp only [Array.getD_eq_getD_getElem?] at h3
              refine .inl ⟨rfl, ?_⟩
              unfold Oper.wp
              go_simp
              exact LeavesR.val rfl (Below.refl _ _) hJ
            | 1, ho, _ =>
              injection ho with ho
              subst ho
              have h12 := hdep ⟨0, .data⟩ (by simp) (by kernel_rfl) _ 12 rfl rfl
              clear hdep hfr
              replace h12 : a.tmps.getD 12 undef = (.agg #[.slice A1 n1 c1, .slice A2 n2 c2, .slice A3 n3 c3, .slice A4 n4 c4, .slice A5 n5 c5, .slice A6 n6 c6, .int .i64 tick]) := h12
              simp only [Array.getD_eq_getD_getElem?] at h12
              refine .inl ⟨rfl, ?_⟩
              unfold Oper.wp
              go_simp
              refine (hqa _ hJ).mono ?_
              rintro e wb ⟨rfl, hb'⟩
              exact LeavesR.val rfl hb' (thn hJ hb')
            | 2, ho, _ =>
              injection ho with ho
              subst ho
              have h13 := hdep ⟨1, .data⟩ (by simp) (by kernel_rfl) _ 13 rfl rfl
              clear hdep hfr
              replace h13 : a.tmps.getD 13 undef = .bool true := h13
              simp only [Array.getD_eq_getD_getElem?] at h13
              refine .inl ⟨rfl, ?_⟩
              unfold Oper.wp
              go_simp
              exact LeavesR.val rfl (Below.refl _ _) hJ
            | 3, ho, _ =>
              injection ho with ho
              subst ho
              have h14 := hdep ⟨2, .data⟩ (by simp) (by kernel_rfl) _ 14 rfl rfl
              clear hdep hfr
              replace h14 : a.tmps.getD 14 undef = .bool false := h14
              simp only [Array.getD_eq_getD_getElem?] at h14
              refine .inl ⟨rfl, ?_⟩
              unfold Oper.wp
              go_simp
              exact LeavesR.val rfl (Below.refl _ _) hJ
            | 4, ho, _ =>
              injection ho with ho
              subst ho
              have hG := hdep ⟨3, .guard⟩ (by simp) (by kernel_rfl) _ 15 rfl rfl
              have h4 := hfr.2.2 4 (drawFrM_spec (by kernel_rfl))
              clear hdep hfr
              replace hG : a.tmps.getD 15 undef = .bool false := hG
              simp only [Array.getD_eq_getD_getElem?] at h4
              refine .inl ⟨wanted_of rfl rfl rfl hG, ?_⟩
              clear hG
              unfold Oper.wp
              go_simp
              exact LeavesR.val rfl (Below.refl _ _) hJ
            | 5, ho, _ =>
              injection ho with ho
              subst ho
              have hG := hdep ⟨3, .guard⟩ (by simp) (by kernel_rfl) _ 15 rfl rfl
              have h16 := hdep ⟨4, .data⟩ (by simp) (by kernel_rfl) _ 16 rfl rfl
              clear hdep hfr
              replace hG : a.tmps.getD 15 undef = .bool false := hG
              replace h16 : a.tmps.getD 16 undef = (.agg #[.slice D1 d1 e1, .slice D2 d2 e2, .slice D3 d3 e3, .slice D4 d4 e4, .slice D5 d5 e5, .slice D6 d6 e6, .int .i64 tick]) := h16
              simp only [Array.getD_eq_getD_getElem?] at h16
              refine .inl ⟨wanted_of rfl rfl rfl hG, ?_⟩
              clear hG
              unfold Oper.wp
              go_simp
              refine (hqb _ hJ).mono ?_
              rintro e wb ⟨rfl, hb'⟩
              exact LeavesR.val rfl hb' (thn hJ hb')
            | 6, ho, _ =>
              injection ho with ho
              subst ho
              have hG := hdep ⟨3, .guard⟩ (by simp) (by kernel_rfl) _ 15 rfl rfl
              have h17 := hdep ⟨5, .data⟩ (by simp) (by kernel_rfl) _ 17 rfl rfl
              clear hdep hfr
              replace hG : a.tmps.getD 15 undef = .bool false := hG
              replace h17 : a.tmps.getD 17 undef = .bool true := h17
              simp only [Array.getD_eq_getD_getElem?] at h17
              refine .inl ⟨wanted_of rfl rfl rfl hG, ?_⟩
              clear hG
              unfold Oper.wp
              go_simp
              exact LeavesR.val rfl (Below.refl _ _) hJ
            | 7, ho, _ =>
              injection ho with ho
              subst ho
              have h15 := hdep ⟨3, .data⟩ (by simp) (by kernel_rfl) _ 15 rfl rfl
              have h18 := hdep ⟨6, .data⟩ (by simp) (by kernel_rfl) _ 18 rfl rfl
              clear hdep hfr
              replace h15 : a.tmps.getD 15 undef = .bool false := h15
              simp only [Array.getD_eq_getD_getElem?] at h15
              replace h18 : a.tmps.getD 18 undef = .bool false := h18
              simp only [Array.getD_eq_getD_getElem?] at h18
              refine .inl ⟨rfl, ?_⟩
              unfold Oper.wp
              go_simp
              exact LeavesR.val rfl (Below.refl _ _) hJ
            | 8, ho, _ =>
              injection ho with ho
              subst ho
              have h19 := hdep ⟨7, .data⟩ (by simp) (by kernel_rfl) _ 19 rfl rfl
              clear hdep hfr
              replace h19 : a.tmps.getD 19 undef = .bool false := h19
              simp only [Array.getD_eq_getD_getElem?] at h19
              refine .inl ⟨rfl, ?_⟩
              unfold Oper.wp
              go_simp
              exact LeavesR.val rfl (Below.refl _ _) hJ
            | 9, ho, _ =>
              injection ho with ho
              subst ho
              have hG := hdep ⟨8, .guard⟩ (by simp) (by kernel_rfl) _ 20 rfl rfl
              have h2 := hfr.2.2 2 (drawFrM_spec (by kernel_rfl))
              clear hdep hfr
              replace hG : a.tmps.getD 20 undef = .bool false := hG
              simp only [Array.getD_eq_getD_getElem?] at h2
              refine .inl ⟨wanted_of rfl rfl rfl hG, ?_⟩
              clear hG
              unfold Oper.wp
              go_simp
              exact LeavesR.val rfl (Below.refl _ _) hJ
            | 10, ho, _ =>
              injection ho with ho
              subst ho
              have hG := hdep ⟨8, .guard⟩ (by simp) (by kernel_rfl) _ 20 rfl rfl
              have h3 := hfr.2.2 3 (drawFrM_spec (by kernel_rfl))
              clear hdep hfr
              replace hG : a.tmps.getD 20 undef = .bool false := hG
              simp only [Array.getD_eq_getD_getElem?] at h3
              refine .inl ⟨wanted_of rfl rfl rfl hG, ?_⟩
              clear hG
              unfold Oper.wp
              go_simp
              exact LeavesR.val rfl (Below.refl _ _) hJ
            | 11, ho, _ =>
              injection ho with ho
              subst ho
              have hG := hdep ⟨8, .guard⟩ (by simp) (by kernel_rfl) _ 20 rfl rfl
              have h22 := hdep ⟨10, .data⟩ (by simp) (by kernel_rfl) _ 22 rfl rfl
              clear hdep hfr
              replace hG : a.tmps.getD 20 undef = .bool false := hG
              replace h22 : a.tmps.getD 22 undef = .pointer (some ⟨w.heap.size, 4, none⟩) := h22
              simp only [Array.getD_eq_getD_getElem?] at h22
              refine .inl ⟨wanted_of rfl rfl rfl hG, ?_⟩
              clear hG
              unfold Oper.wp
              go_simp
              exact LeavesR.val rfl (Below.refl _ _) hJ
            | 12, ho, _ =>
              injection ho with ho
              subst ho
              have hG := hdep ⟨8, .guard⟩ (by simp) (by kernel_rfl) _ 20 rfl rfl
              have h23 := hdep ⟨11, .data⟩ (by simp) (by kernel_rfl) _ 23 rfl rfl
              clear hdep hfr
              replace hG : a.tmps.getD 20 undef = .bool false := hG
              replace h23 : a.tmps.getD 23 undef = .slice A5 n5 c5 := h23
              simp only [Array.getD_eq_getD_getElem?] at h23
              refine .inl ⟨wanted_of rfl rfl rfl hG, ?_⟩
              clear hG
              unfold Oper.wp
              go_simp
              exact LeavesR.val rfl (Below.refl _ _) hJ
            | 13, ho, _ =>
              injection ho with ho
              subst ho
              have hG := hdep ⟨8, .guard⟩ (by simp) (by kernel_rfl) _ 20 rfl rfl
              have h24 := hdep ⟨12, .data⟩ (by simp) (by kernel_rfl) _ 24 rfl rfl
              clear hdep hfr
              replace hG : a.tmps.getD 20 undef = .bool false := hG
              replace h24 : a.tmps.getD 24 undef = .int .i64 n5 := h24
              simp only [Array.getD_eq_getD_getElem?] at h24
              refine .inl ⟨wanted_of rfl rfl rfl hG, ?_⟩
              clear hG
              unfold Oper.wp
              go_simp
              exact LeavesR.val rfl (Below.refl _ _) hJ
            | 14, ho, _ =>
              injection ho with ho
              subst ho
              have hG := hdep ⟨8, .guard⟩ (by simp) (by kernel_rfl) _ 20 rfl rfl
              have h21 := hdep ⟨9, .data⟩ (by simp) (by kernel_rfl) _ 21 rfl rfl
              have h25 := hdep ⟨13, .data⟩ (by simp) (by kernel_rfl) _ 25 rfl rfl
              clear hdep hfr
              replace hG : a.tmps.getD 20 undef = .bool false := hG
              replace h21 : a.tmps.getD 21 undef = .int .i64 (N : Int) := h21
              simp only [Array.getD_eq_getD_getElem?] at h21
              replace h25 : a.tmps.getD 25 undef = .int .i64 (IntKind.i64.wrap ((n5 : Int) - 1)) := h25
              simp only [Array.getD_eq_getD_getElem?] at h25
              refine .inl ⟨wanted_of rfl rfl rfl hG, ?_⟩
              clear hG
              unfold Oper.wp
              go_simp
              refine (hI _).mono ?_
              rintro e wb ⟨rfl, hb'⟩
              exact LeavesR.val rfl hb' (thn hJ hb')
            | 15, ho, _ =>
              injection ho with ho
              subst ho
              have hG := hdep ⟨8, .guard⟩ (by simp) (by kernel_rfl) _ 20 rfl rfl
              have h26 := hdep ⟨14, .data⟩ (by simp) (by kernel_rfl) _ 26 rfl rfl
              clear hdep hfr
              replace hG : a.tmps.getD 20 undef = .bool false := hG
              replace h26 : a.tmps.getD 26 undef = .bool true := h26
              simp only [Array.getD_eq_getD_getElem?] at h26
              refine .inl ⟨wanted_of rfl rfl rfl hG, ?_⟩
              clear hG
              unfold Oper.wp
              go_simp
              exact LeavesR.val rfl (Below.refl _ _) hJ
            | 16, ho, _ =>
              injection ho with ho
              subst ho
              have h20 := hdep ⟨8, .data⟩ (by simp) (by kernel_rfl) _ 20 rfl rfl
              have h27 := hdep ⟨15, .data⟩ (by simp) (by kernel_rfl) _ 27 rfl rfl
              clear hdep hfr
              replace h20 : a.tmps.getD 20 undef = .bool false := h20
              simp only [Array.getD_eq_getD_getElem?] at h20
              replace h27 : a.tmps.getD 27 undef = .bool false := h27
              simp only [Array.getD_eq_getD_getElem?] at h27
              refine .inl ⟨rfl, ?_⟩
              unfold Oper.wp
              go_simp
              exact LeavesR.val rfl (Below.refl _ _) hJ
            | 17, ho, _ =>
              injection ho with ho
              subst ho
              have h28 := hdep ⟨16, .data⟩ (by simp) (by kernel_rfl) _ 28 rfl rfl
              clear hdep hfr
              replace h28 : a.tmps.getD 28 undef = .bool false := h28
              simp only [Array.getD_eq_getD_getElem?] at h28
              refine .inl ⟨rfl, ?_⟩
              unfold Oper.wp
              go_simp
              exact LeavesR.val rfl (Below.refl _ _) hJ
            | 18, ho, _ =>
              injection ho with ho
              subst ho
              have hG := hdep ⟨17, .guard⟩ (by simp) (by kernel_rfl) _ 29 rfl rfl
              have h3 := hfr.2.2 3 (drawFrM_spec (by kernel_rfl))
              clear hdep hfr
              replace hG : a.tmps.getD 29 undef = .bool false := hG
              simp only [Array.getD_eq_getD_getElem?] at h3
              refine .inl ⟨wanted_of rfl rfl rfl hG, ?_⟩
              clear hG
              unfold Oper.wp
              go_simp
              exact LeavesR.val rfl (Below.refl _ _) hJ
            | 19, ho, _ =>
              injection ho with ho
              subst ho
              have hG := hdep ⟨17, .guard⟩ (by simp) (by kernel_rfl) _ 29 rfl rfl
              have h30 := hdep ⟨18, .data⟩ (by simp) (by kernel_rfl) _ 30 rfl rfl
              clear hdep hfr
              replace hG : a.tmps.getD 29 undef = .bool false := hG
              replace h30 : a.tmps.getD 30 undef = .pointer (some ⟨w.heap.size, 6, none⟩) := h30
              simp only [Array.getD_eq_getD_getElem?] at h30
              refine .inl ⟨wanted_of rfl rfl rfl hG, ?_⟩
              clear hG
              unfold Oper.wp
              go_simp
              exact LeavesR.val rfl (Below.refl _ _) hJ
            | 20, ho, _ =>
              injection ho with ho
              subst ho
              have hG := hdep ⟨17, .guard⟩ (by simp) (by kernel_rfl) _ 29 rfl rfl
              have h4 := hfr.2.2 4 (drawFrM_spec (by kernel_rfl))
              clear hdep hfr
              replace hG : a.tmps.getD 29 undef = .bool false := hG
              simp only [Array.getD_eq_getD_getElem?] at h4
              refine .inl ⟨wanted_of rfl rfl rfl hG, ?_⟩
              clear hG
              unfold Oper.wp
              go_simp
              exact LeavesR.val rfl (Below.refl _ _) hJ
            | 21, ho, _ =>
              injection ho with ho
              subst ho
              have hG := hdep ⟨17, .guard⟩ (by simp) (by kernel_rfl) _ 29 rfl rfl
              have h32 := hdep ⟨20, .data⟩ (by simp) (by kernel_rfl) _ 32 rfl rfl
              clear hdep hfr
              replace hG : a.tmps.getD 29 undef = .bool false := hG
              replace h32 : a.tmps.getD 32 undef = .pointer (some ⟨(w.heap.size + 1), 6, none⟩) := h32
              simp only [Array.getD_eq_getD_getElem?] at h32
              refine .inl ⟨wanted_of rfl rfl rfl hG, ?_⟩
              clear hG
              unfold Oper.wp
              go_simp
              exact LeavesR.val rfl (Below.refl _ _) hJ
            | 22, ho, _ =>
              injection ho with ho
              subst ho
              have hG := hdep ⟨17, .guard⟩ (by simp) (by kernel_rfl) _ 29 rfl rfl
              have h31 := hdep ⟨19, .data⟩ (by simp) (by kernel_rfl) _ 31 rfl rfl
              have h33 := hdep ⟨21, .data⟩ (by simp) (by kernel_rfl) _ 33 rfl rfl
              clear hdep hfr
              replace hG : a.tmps.getD 29 undef = .bool false := hG
              replace h31 : a.tmps.getD 31 undef = .int .i64 tick := h31
              simp only [Array.getD_eq_getD_getElem?] at h31
              replace h33 : a.tmps.getD 33 undef = .int .i64 tick := h33
              simp only [Array.getD_eq_getD_getElem?] at h33
              refine .inl ⟨wanted_of rfl rfl rfl hG, ?_⟩
              clear hG
              unfold Oper.wp
              go_simp
              exact LeavesR.val rfl (Below.refl _ _) hJ
            | 23, ho, _ =>
              injection ho with ho
              subst ho
              have h29 := hdep ⟨17, .data⟩ (by simp) (by kernel_rfl) _ 29 rfl rfl
              have h34 := hdep ⟨22, .data⟩ (by simp) (by kernel_rfl) _ 34 rfl rfl
              clear hdep hfr
              replace h29 : a.tmps.getD 29 undef = .bool false := h29
              simp only [Array.getD_eq_getD_getElem?] at h29
              replace h34 : a.tmps.getD 34 undef = .bool false := h34
              simp only [Array.getD_eq_getD_getElem?] at h34
              refine .inl ⟨rfl, ?_⟩
              unfold Oper.wp
              go_simp
              exact LeavesR.val rfl (Below.refl _ _) hJ
            | 24, ho, _ =>
              injection ho with ho
              subst ho
              have h35 := hdep ⟨23, .data⟩ (by simp) (by kernel_rfl) _ 35 rfl rfl
              clear hdep hfr
              replace h35 : a.tmps.getD 35 undef = .bool false := h35
              simp only [Array.getD_eq_getD_getElem?] at h35
              refine .inl ⟨rfl, ?_⟩
              unfold Oper.wp
              go_simp
              exact LeavesR.val rfl (Below.refl _ _) hJ
            | 25, ho, _ =>
              injection ho with ho
              subst ho
              have hG := hdep ⟨24, .guard⟩ (by simp) (by kernel_rfl) _ 36 rfl rfl
              have h3 := hfr.2.2 3 (drawFrM_spec (by kernel_rfl))
              clear hdep hfr
              replace hG : a.tmps.getD 36 undef = .bool false := hG
              simp only [Array.getD_eq_getD_getElem?] at h3
              refine .inl ⟨wanted_of rfl rfl rfl hG, ?_⟩
              clear hG
              unfold Oper.wp
              go_simp
              exact LeavesR.val rfl (Below.refl _ _) hJ
            | 26, ho, _ =>
              injection ho with ho
              subst ho
              have hG := hdep ⟨24, .guard⟩ (by simp) (by kernel_rfl) _ 36 rfl rfl
              have h37 := hdep ⟨25, .data⟩ (by simp) (by kernel_rfl) _ 37 rfl rfl
              clear hdep hfr
              replace hG : a.tmps.getD 36 undef = .bool false := hG
              replace h37 : a.tmps.getD 37 undef = .pointer (some ⟨w.heap.size, 0, none⟩) := h37
              simp only [Array.getD_eq_getD_getElem?] at h37
              refine .inl ⟨wanted_of rfl rfl rfl hG, ?_⟩
              clear hG
              unfold Oper.wp
              go_simp
              exact LeavesR.val rfl (Below.refl _ _) hJ
            | 27, ho, _ =>
              injection ho with ho
              subst ho
              have hG := hdep ⟨24, .guard⟩ (by simp) (by kernel_rfl) _ 36 rfl rfl
              have h38 := hdep ⟨26, .data⟩ (by simp) (by kernel_rfl) _ 38 rfl rfl
              clear hdep hfr
              replace hG : a.tmps.getD 36 undef = .bool false := hG
              replace h38 : a.tmps.getD 38 undef = (.agg #[.slice A1 n1 c1, .slice A2 n2 c2, .slice A3 n3 c3]) := h38
              simp only [Array.getD_eq_getD_getElem?] at h38
              refine .inl ⟨wanted_of rfl rfl rfl hG, ?_⟩
              clear hG
              unfold Oper.wp
              go_simp
              refine (hNa _ hJ).mono ?_
              rintro e wb ⟨⟨A9, n9, c9, l9⟩, rfl, ⟨S9, -, -, -⟩, hl9, -, hb'⟩
              simp only [SV.v] at S9 hl9 ⊢
              rw [hl9] at S9
              exact LeavesR.val ⟨A9, n9, c9, rfl, S9⟩ hb' (thn hJ hb')
            | 28, ho, _ =>
              injection ho with ho
              subst ho
              have hG := hdep ⟨24, .guard⟩ (by simp) (by kernel_rfl) _ 36 rfl rfl
              have h4 := hfr.2.2 4 (drawFrM_spec (by kernel_rfl))
              clear hdep hfr
              replace hG : a.tmps.getD 36 undef = .bool false := hG
              simp only [Array.getD_eq_getD_getElem?] at h4
              refine .inl ⟨wanted_of rfl rfl rfl hG, ?_⟩
              clear hG
              unfold Oper.wp
              go_simp
              exact LeavesR.val rfl (Below.refl _ _) hJ
            | 29, ho, _ =>
              injection ho with ho
              subst ho
              have hG := hdep ⟨24, .guard⟩ (by simp) (by kernel_rfl) _ 36 rfl rfl
              have h40 := hdep ⟨28, .data⟩ (by simp) (by kernel_rfl) _ 40 rfl rfl
              clear hdep hfr
              replace hG : a.tmps.getD 36 undef = .bool false := hG
              replace h40 : a.tmps.getD 40 undef = .pointer (some ⟨(w.heap.size + 1), 0, none⟩) := h40
              simp only [Array.getD_eq_getD_getElem?] at h40
              refine .inl ⟨wanted_of rfl rfl rfl hG, ?_⟩
              clear hG
              unfold Oper.wp
              go_simp
              exact LeavesR.val rfl (Below.refl _ _) hJ
            | 30, ho, _ =>
              injection ho with ho
              subst ho
              have hG := hdep ⟨24, .guard⟩ (by simp) (by kernel_rfl) _ 36 rfl rfl
              have h41 := hdep ⟨29, .data⟩ (by simp) (by kernel_rfl) _ 41 rfl rfl
              clear hdep hfr
              replace hG : a.tmps.getD 36 undef = .bool false := hG
              replace h41 : a.tmps.getD 41 undef = (.agg #[.slice D1 d1 e1, .slice D2 d2 e2, .slice D3 d3 e3]) := h41
              simp only [Array.getD_eq_getD_getElem?] at h41
              refine .inl ⟨wanted_of rfl rfl rfl hG, ?_⟩
              clear hG
              unfold Oper.wp
              go_simp
              refine (hNb _ hJ).mono ?_
              rintro e wb ⟨⟨A9, n9, c9, l9⟩, rfl, ⟨S9, -, -, -⟩, hl9, -, hb'⟩
              simp only [SV.v] at S9 hl9 ⊢
              rw [hl9] at S9
              exact LeavesR.val ⟨A9, n9, c9, rfl, S9⟩ hb' (thn hJ hb')
            | 31, ho, _ =>
              injection ho with ho
              subst ho
              have hG := hdep ⟨24, .guard⟩ (by simp) (by kernel_rfl) _ 36 rfl rfl
              have h39 := hdep ⟨27, .data⟩ (by simp) (by kernel_rfl) _ 39 rfl rfl
              have h42 := hdep ⟨30, .data⟩ (by simp) (by kernel_rfl) _ 42 rfl rfl
              clear hdep hfr
              replace hG : a.tmps.getD 36 undef = .bool false := hG
              obtain ⟨A39, n39, c39, h39, S39⟩ := h39
              simp only [Array.getD_eq_getD_getElem?] at h39
              obtain ⟨A42, n42, c42, h42, S42⟩ := h42
              simp only [Array.getD_eq_getD_getElem?] at h42
              refine .inl ⟨wanted_of rfl rfl rfl hG, ?_⟩
              clear hG
              unfold Oper.wp
              go_simp
              refine (hEq _ _ _ _ _ _ _ S39 S42).mono ?_
              rintro e wb ⟨rfl, hb'⟩
              exact LeavesR.val rfl hb' (thn hJ hb')
            | 32, ho, _ =>
              injection ho with ho
              subst ho
              have hG := hdep ⟨24, .guard⟩ (by simp) (by kernel_rfl) _ 36 rfl rfl
              have h43 := hdep ⟨31, .data⟩ (by simp) (by kernel_rfl) _ 43 rfl rfl
              clear hdep hfr
              replace hG : a.tmps.getD 36 undef = .bool false := hG
              replace h43 : a.tmps.getD 43 undef = .bool v4 := h43
              simp only [Array.getD_eq_getD_getElem?] at h43
              refine .inl ⟨wanted_of rfl rfl rfl hG, ?_⟩
              clear hG
              unfold Oper.wp
              go_simp
              exact LeavesR.val rfl (Below.refl _ _) hJ
            | 33, ho, _ =>
              injection ho with ho
              subst ho
              have h36 := hdep ⟨24, .data⟩ (by simp) (by kernel_rfl) _ 36 rfl rfl
              have h44 := hdep ⟨32, .data⟩ (by simp) (by kernel_rfl) _ 44 rfl rfl
              clear hdep hfr
              replace h36 : a.tmps.getD 36 undef = .bool false := h36
              simp only [Array.getD_eq_getD_getElem?] at h36
              replace h44 : a.tmps.getD 44 undef = .bool (!v4) := h44
              simp only [Array.getD_eq_getD_getElem?] at h44
              refine .inl ⟨rfl, ?_⟩
              unfold Oper.wp
              go_simp
              exact LeavesR.val rfl (Below.refl _ _) hJ
            | n + 34, _, him => exact absurd him (by omega)
          · intro V w9 hV hJ
            have hV0 := hV 0 _ 12 (by decide) rfl rfl
            replace hV0 : V 0 = (.agg #[.slice A1 n1 c1, .slice A2 n2 c2, .slice A3 n3 c3, .slice A4 n4 c4, .slice A5 n5 c5, .slice A6 n6 c6, .int .i64 tick]) := hV0
            have hV1 := hV 1 _ 13 (by decide) rfl rfl
            replace hV1 : V 1 = .bool true := hV1
            have hV2 := hV 2 _ 14 (by decide) rfl rfl
            replace hV2 : V 2 = .bool false := hV2
            have hV3 := hV 3 _ 15 (by decide) rfl rfl
            replace hV3 : V 3 = .bool false := hV3
            have hV4 := hV 4 _ 16 (by decide) rfl rfl
            replace hV4 : V 4 = (.agg #[.slice D1 d1 e1, .slice D2 d2 e2, .slice D3 d3 e3, .slice D4 d4 e4, .slice D5 d5 e5, .slice D6 d6 e6, .int .i64 tick]) := hV4
            have hV5 := hV 5 _ 17 (by decide) rfl rfl
            replace hV5 : V 5 = .bool true := hV5
            have hV6 := hV 6 _ 18 (by decide) rfl rfl
            replace hV6 : V 6 = .bool false := hV6
            have hV7 := hV 7 _ 19 (by decide) rfl rfl
            replace hV7 : V 7 = .bool false := hV7
            have hV8 := hV 8 _ 20 (by decide) rfl rfl
            replace hV8 : V 8 = .bool false := hV8
            have hV9 := hV 9 _ 21 (by decide) rfl rfl
            replace hV9 : V 9 = .int .i64 (N : Int) := hV9
            have hV10 := hV 10 _ 22 (by decide) rfl rfl
            replace hV10 : V 10 = .pointer (some ⟨w.heap.size, 4, none⟩) := hV10
            have hV11 := hV 11 _ 23 (by decide) rfl rfl
            replace hV11 : V 11 = .slice A5 n5 c5 := hV11
            have hV12 := hV 12 _ 24 (by decide) rfl rfl
            replace hV12 : V 12 = .int .i64 n5 := hV12
            have hV13 := hV 13 _ 25 (by decide) rfl rfl
            replace hV13 : V 13 = .int .i64 (IntKind.i64.wrap ((n5 : Int) - 1)) := hV13
            have hV14 := hV 14 _ 26 (by decide) rfl rfl
            replace hV14 : V 14 = .bool true := hV14
            have hV15 := hV 15 _ 27 (by decide) rfl rfl
            replace hV15 : V 15 = .bool false := hV15
            have hV16 := hV 16 _ 28 (by decide) rfl rfl
            replace hV16 : V 16 = .bool false := hV16
            have hV17 := hV 17 _ 29 (by decide) rfl rfl
            replace hV17 : V 17 = .bool false := hV17
            have hV18 := hV 18 _ 30 (by decide) rfl rfl
            replace hV18 : V 18 = .pointer (some ⟨w.heap.size, 6, none⟩) := hV18
            have hV19 := hV 19 _ 31 (by decide) rfl rfl
            replace hV19 : V 19 = .int .i64 tick := hV19
            have hV20 := hV 20 _ 32 (by decide) rfl rfl
            replace hV20 : V 20 = .pointer (some ⟨(w.heap.size + 1), 6, none⟩) := hV20
            have hV21 := hV 21 _ 33 (by decide) rfl rfl
            replace hV21 : V 21 = .int .i64 tick := hV21
            have hV22 := hV 22 _ 34 (by decide) rfl rfl
            replace hV22 : V 22 = .bool false := hV22
            have hV23 := hV 23 _ 35 (by decide) rfl rfl
            replace hV23 : V 23 = .bool false := hV23
            have hV24 := hV 24 _ 36 (by decide) rfl rfl
            replace hV24 : V 24 = .bool false := hV24
            have hV25 := hV 25 _ 37 (by decide) rfl rfl
            replace hV25 : V 25 = .pointer (some ⟨w.heap.size, 0, none⟩) := hV25
            have hV26 := hV 26 _ 38 (by decide) rfl rfl
            replace hV26 : V 26 = (.agg #[.slice A1 n1 c1, .slice A2 n2 c2, .slice A3 n3 c3]) := hV26
            obtain ⟨_, _, _, hV27, _⟩ := hV 27 _ 39 (by decide) rfl rfl
            have hV28 := hV 28 _ 40 (by decide) rfl rfl
            replace hV28 : V 28 = .pointer (some ⟨(w.heap.size + 1), 0, none⟩) := hV28
            have hV29 := hV 29 _ 41 (by decide) rfl rfl
            replace hV29 : V 29 = (.agg #[.slice D1 d1 e1, .slice D2 d2 e2, .slice D3 d3 e3]) := hV29
            obtain ⟨_, _, _, hV30, _⟩ := hV 30 _ 42 (by decide) rfl rfl
            have hV31 := hV 31 _ 43 (by decide) rfl rfl
            replace hV31 : V 31 = .bool v4 := hV31
            have hV32 := hV 32 _ 44 (by decide) rfl rfl
            replace hV32 : V 32 = .bool (!v4) := hV32
            have hV33 := hV 33 _ 45 (by decide) rfl rfl
            replace hV33 : V 33 = .bool (!v4) := hV33
            clear hV
            simp only [puts, List.drop, Act.put, List.getElem?_toArray, List.getElem?_cons_succ, List.getElem?_cons_zero, List.setIfInBounds_toArray, List.set_cons_succ, List.set_cons_zero, hV0, hV1, hV2, hV3, hV4, hV5, hV6, hV7, hV8, hV9, hV10, hV11, hV12, hV13, hV14, hV15, hV16, hV17, hV18, hV19, hV20, hV21, hV22, hV23, hV24, hV25, hV26, hV27, hV28, hV29, hV30, hV31, hV32, hV33]
            clear hV0 hV1 hV2 hV3 hV4 hV5 hV6 hV7 hV8 hV9 hV10 hV11 hV12 hV13 hV14 hV15 hV16 hV17 hV18 hV19 hV20 hV21 hV22 hV23 hV24 hV25 hV26 hV27 hV28 hV29 hV30 hV31 hV32 hV33
            replace Ba := Ba.below hJ
            replace Bb := Bb.below hJ
            have hB1 := thn hb0 hJ
            clear hqa hqb hNa hNb hEq hJ hb0 hI
            cases v4
            · go_wp2
              go_ret
              exact ⟨by rw [← HR.out]; rfl, hB1⟩
            · have hnum : numsC C.1 = numsC D.1 := by rw [hLa, hLb]; exact of_decide_eq_true hv4
              clear hLa hLb hv4 hv1 hv2 hv3 hl5
              have HR := Lib.hid (show sameBody C D N = r from HR.out)
              have hlA := mo_lens hokA
              have hlB := mo_lens hokB
              have hln := nums_lens hokA hokB hnum
              have h5 : C.2.2.1.length = n5 := by rw [E5, List.length_map]; exact hs5.len
              have h4 : C.2.1.length = n4 := by rw [E4, List.length_map]; exact hs4.len
              have h2 : C.1.2.1.length = n2 := by rw [E2]; exact hs2.len
              have h6 : C.2.2.2.1.length = n6 := by rw [E6, List.length_map]; exact hs6.len
              have k5 : D.2.2.1.length = d5 := by rw [K5, List.length_map]; exact ks5.len
              have k4 : D.2.1.length = d4 := by rw [K4, List.length_map]; exact ks4.len
              have k2 : D.1.2.1.length = d2 := by rw [K2]; exact ks2.len
              have k6 : D.2.2.2.1.length = d6 := by rw [K6, List.length_map]; exact ks6.len
              have hP5 : n5 ≤ 5 := by have := su_np (mo_setup hokA); omega
              have hP8 : n2 ≤ 8 := by have := su_nc (mo_setup hokA); omega
              have g1 : n5 = n4 := by omega
              have g2 : n5 = d5 := by omega
              have g3 : n5 = d4 := by omega
              have g4 : n2 = n6 := by omega
              have g5 : n2 = d6 := by omega
              have HCK := Lib.hid (fun k (p q : OrdL) (x y : CoreT) (a1 : x4[k]? = some p) (a2 : y4[k]? = some q) (a3 : x5[k]? = some x) (a4 : y5[k]? = some y) => show coreSame C D k = (decide (p.xs = q.xs) && (decide (x.1.xs = y.1.xs) && (decide (x.2.1 = y.2.1) && decide (x.2.2 = y.2.2)))) from by unfold coreSame; rw [E4, K4, E5, K5, mapAt a1, mapAt a2, mapAt a3, mapAt a4]; rfl)
              have HHK := Lib.hid (fun k (x y : HoldR) (a1 : x6[k]? = some x) (a2 : y6[k]? = some y) => show holdSame C D k = decide (x.xs = y.xs) from by unfold holdSame; rw [E6, K6, mapAt a1, mapAt a2]; rfl)
              have HTO := Lib.hid (fun k (ch : ChanT) (a1 : x2[k]? = some ch) => show nearTo C N k = (nearC C N).getD ch.2.2.1.toNat false from by unfold nearTo; rw [E2, a1])
              have HTB := Lib.hid (fun k (ch : ChanT) (a1 : x2[k]? = some ch) => show 0 ≤ ch.2.2.1 ∧ ch.2.2.1 < n5 from by have := chan_to hokA (k := k) (ch := ch) (by rw [E2]; exact a1); omega)
              have HNL : nearC C N = flowsL (fun a b => directB x2 a b) n5 N := by unfold nearC; rw [E2, h5, Int.toNat_natCast]
              have H5 := Lib.hid h5
              have H2 := Lib.hid h2
              have hch : chansOk x2 n5 = true := by
                have := su_chans (mo_setup hokA)
                rw [E2] at this
                rw [show (n5 : Int) = (C.1.1.length : Int) by omega]
                exact this
              have hNl := flowsL_len (fun a b => directB x2 a b) n5 N
              subst g1 g2 g3 g4 g5
              clear h5 h4 h2 h6 k5 k4 k2 k6 E2 E4 E5 E6 E7 K2 K4 K5 K6 K7 hlA hlB hln hC hD hokA hokB hnum
              have hfl := fun W (hW : Below w.heap.size w W) => specFlowsTo_any A2 n2 c2 x2 n5 N hch hN5 W (hs2.below hW)
              rw [← HNL] at hfl
              rw [← HNL] at hNl
              clear HNL hch
              obtain ⟨NL, hNL⟩ : ∃ NL, nearC C N = NL := ⟨_, rfl⟩
              rw [hNL] at hfl hNl
              replace hNL := Lib.hid hNL
              have x0 := Ba.c0
              skip
              have cBa_0 := Ba.c0; have cBa_1 := Ba.c1; have cBa_2 := Ba.c2; have cBa_3 := Ba.c3; have cBa_4 := Ba.c4; have cBa_5 := Ba.c5; have cBa_6 := Ba.c6; have fBa := Ba.frozen; have cBb_0 := Bb.c0; have cBb_1 := Bb.c1; have cBb_2 := Bb.c2; have cBb_3 := Bb.c3; have cBb_4 := Bb.c4; have cBb_5 := Bb.c5; have cBb_6 := Bb.c6; have fBb := Bb.frozen
              go_wp2_with fail
              refine (hfl _ hB1).mono ?_
              rintro e w6 ⟨g7, rfl, Bn, -, hb6⟩
              have hB2 := thn hB1 hb6
              replace Ba := Ba.below hb6
              replace Bb := Bb.below hb6
              clear cBa_0 cBa_1 cBa_2 cBa_3 cBa_4 cBa_5 cBa_6 fBa cBb_0 cBb_1 cBb_2 cBb_3 cBb_4 cBb_5 cBb_6 fBb
              clear x0 hfl hB1 hb6
              go_wp2_with fail
              go_loopg [8] n5 (fun gg s8 wr => ∃ kk : Nat, kk ≤ n5 ∧ n5 - kk ≤ gg ∧ s8 = .int .i64 kk ∧ Aside (Below w.heap.size w wr) ∧ Aside (Below w6.heap.size w6 wr) ∧ Aside (∀ j, j < kk → coreOk C D N j = true))
              case atStart => exact ⟨0, Nat.zero_le _, by omega, rfl, (show Aside _ from hB2), (show Aside _ from Below.refl _ _), (show Aside _ from fun j hj => absurd hj (Nat.not_lt_zero _))⟩
              case round =>
                obtain ⟨kk, hkk, hg, rfl, BW, BX, AA⟩ := hrel
                clear hB2
                by_cases hlt : kk < n5
                · have hltz : (kk : Int) < (n5 : Int) := by omega
                  obtain ⟨b4, o4, rfl, p4, hx4, hc4⟩ := hs4.nth hlt (Below.refl _ _)
                  obtain ⟨b5, o5, rfl, p5, hx5, hc5⟩ := hs5.nth hlt (Below.refl _ _)
                  obtain ⟨j4, i4, rfl, q4, hy4, kc4⟩ := ks4.nth hlt (Below.refl _ _)
                  obtain ⟨j5, i5, rfl, q5, hy5, kc5⟩ := ks5.nth hlt (Below.refl _ _)
                  have u4 := hc4 0 _ rfl
                  have u0 := hc5 0 _ rfl
                  have u1 := hc5 1 _ rfl
                  have u2 := hc5 2 _ rfl
                  have s4' := kc4 0 _ rfl
                  have s0 := kc5 0 _ rfl
                  have s1 := kc5 1 _ rfl
                  have s2 := kc5 2 _ rfl
                  have HPK := Lib.hid (HCK.out kk p4 q4 p5 q5 hx4 hy4 hx5 hy5)
                  have ok4 := HO.out p4 (List.mem_of_getElem? hx4)
                  have ok5 := HK.out p5 (List.mem_of_getElem? hx5)
                  have kk4 := KO.out q4 (List.mem_of_getElem? hy4)
                  have kk5 := KK.out q5 (List.mem_of_getElem? hy5)
                  clear hc4 hc5 kc4 kc5 hx4 hx5 hy4 hy5
                  obtain ⟨A8, n8, c8, x8⟩ := p4
                  obtain ⟨⟨A9, n9, c9, x9⟩, m9, t9⟩ := p5
                  obtain ⟨D8, d8, e8, z8⟩ := q4
                  obtain ⟨⟨D9, d9, e9, z9⟩, k9, s9⟩ := q5
                  simp only [eOL, eCo, SV.v, Nat.add_zero, Nat.mul_one] at u4 u0 u1 u2 s4' s0 s1 s2
                  simp only [okO] at ok4 kk4
                  simp only [okC] at ok5 kk5
                  simp only [] at HPK
                  have l4 := World.block_lt_of_cell? _ _ u4
                  have l5 := World.block_lt_of_cell? _ _ u0
                  have k4 := World.block_lt_of_cell? _ _ s4'
                  have k5 := World.block_lt_of_cell? _ _ s0
                  have w0 := (BW.out.cell (p := ⟨b5, o5 + kk * 3, none⟩) l5).trans u0
                  have w1' := (BW.out.cell (p := ⟨b5, o5 + kk * 3 + 1, none⟩) l5).trans u1
                  have w2' := (BW.out.cell (p := ⟨b5, o5 + kk * 3 + 2, none⟩) l5).trans u2
                  have hb1 := alo BW.out (.cells #[.slice A9 n9 c9, .int .i64 m9, .bool t9] 74)
                  have v0 := (hb1.cell (p := ⟨j5, i5 + kk * 3, none⟩) k5).trans s0
                  have v1' := (hb1.cell (p := ⟨j5, i5 + kk * 3 + 1, none⟩) k5).trans s1
                  have v2' := (hb1.cell (p := ⟨j5, i5 + kk * 3 + 2, none⟩) k5).trans s2
                  have hbW := alo (alo (Below.refl wr.heap.size wr) (.cells #[.slice A9 n9 c9, .int .i64 m9, .bool t9] 74)) (.cells #[.slice D9 d9 e9, .int .i64 k9, .bool s9] 74)
                  have hb2 := thn BW.out hbW
                  have Bar := Ba.below BX.out
                  have Bbr := Bb.below BX.out
                  have Bnr := Bn.below BX.out
                  have z4 := Bar.c4
                  have y4' := (Bbr.alloc (.cells #[.slice A9 n9 c9, .int .i64 m9, .bool t9] 74)).c4
                  have B9 := (Blk.new wr 74 #[.slice A9 n9 c9, .int .i64 m9, .bool t9]).alloc (.cells #[.slice D9 d9 e9, .int .i64 k9, .bool s9] 74)
                  have B10 := Blk.new2 wr (.cells #[.slice A9 n9 c9, .int .i64 m9, .bool t9] 74) 74 #[.slice D9 d9 e9, .int .i64 k9, .bool s9]
                  have Ba2 := (Bar.alloc (.cells #[.slice A9 n9 c9, .int .i64 m9, .bool t9] 74)).alloc (.cells #[.slice D9 d9 e9, .int .i64 k9, .bool s9] 74)
                  have Bb2 := (Bbr.alloc (.cells #[.slice A9 n9 c9, .int .i64 m9, .bool t9] 74)).alloc (.cells #[.slice D9 d9 e9, .int .i64 k9, .bool s9] 74)
                  have Bn2 := (Bnr.alloc (.cells #[.slice A9 n9 c9, .int .i64 m9, .bool t9] 74)).alloc (.cells #[.slice D9 d9 e9, .int .i64 k9, .bool s9] 74)
                  have HNB := Lib.hid (show (nearC C N).getD kk false = NL.getD kk false from by rw [hNL.out])
                  have qn := fun x : Near ((wr.alloc (.cells #[.slice A9 n9 c9, .int .i64 m9, .bool t9] 74)).alloc (.cells #[.slice D9 d9 e9, .int .i64 k9, .bool s9] 74)) => flag_cell (Bn2.below x.b) (i := kk) (by omega)
                  generalize NL.getD kk false = nb at qn HNB
                  have ga := fun x : Near ((wr.alloc (.cells #[.slice A9 n9 c9, .int .i64 m9, .bool t9] 74)).alloc (.cells #[.slice D9 d9 e9, .int .i64 k9, .bool s9] 74)) => ((thn hb2 x.b).cell (p := ⟨b4, o4 + kk, none⟩) l4).trans u4
                  have gb := fun x : Near ((wr.alloc (.cells #[.slice A9 n9 c9, .int .i64 m9, .bool t9] 74)).alloc (.cells #[.slice D9 d9 e9, .int .i64 k9, .bool s9] 74)) => ((thn hb2 x.b).cell (p := ⟨j4, i4 + kk, none⟩) k4).trans s4'
                  have hqO := fun x : Near ((wr.alloc (.cells #[.slice A9 n9 c9, .int .i64 m9, .bool t9] 74)).alloc (.cells #[.slice D9 d9 e9, .int .i64 k9, .bool s9] 74)) => l21Orders_any A8 D8 n8 d8 c8 e8 x8 z8 x.W (ok4.below (thn hb2 x.b)) (kk4.below (thn hb2 x.b))
                  have hqI := fun x : Near ((wr.alloc (.cells #[.slice A9 n9 c9, .int .i64 m9, .bool t9] 74)).alloc (.cells #[.slice D9 d9 e9, .int .i64 k9, .bool s9] 74)) => l21Ints_any A9 D9 n9 d9 c9 e9 x9 z9 x.W (ok5.below (thn hb2 x.b)) (kk5.below (thn hb2 x.b))
                  have g0 := qn
                  clear qn ok4 ok5 kk4 kk5 u4 u0 u1 u2 s4' s0 s1 s2
                  skip
                  skip
                  go_wp2_with fail
                  clear w0 w1' w2' v0 v1' v2' z4 y4' Bar Bbr Bnr Bn2
                  cases nb
                  · have qB9_0 := fun x => (B9.near x).c0; have qB9_1 := fun x => (B9.near x).c1; have qB9_2 := fun x => (B9.near x).c2; have qB10_0 := fun x => (B10.near x).c0; have qB10_1 := fun x => (B10.near x).c1; have qB10_2 := fun x => (B10.near x).c2; have qBa2_0 := fun x => (Ba2.near x).c0; have qBa2_1 := fun x => (Ba2.near x).c1; have qBa2_2 := fun x => (Ba2.near x).c2; have qBa2_3 := fun x => (Ba2.near x).c3; have qBa2_4 := fun x => (Ba2.near x).c4; have qBa2_5 := fun x => (Ba2.near x).c5; have qBa2_6 := fun x => (Ba2.near x).c6; have qBb2_0 := fun x => (Bb2.near x).c0; have qBb2_1 := fun x => (Bb2.near x).c1; have qBb2_2 := fun x => (Bb2.near x).c2; have qBb2_3 := fun x => (Bb2.near x).c3; have qBb2_4 := fun x => (Bb2.near x).c4; have qBb2_5 := fun x => (Bb2.near x).c5; have qBb2_6 := fun x => (Bb2.near x).c6; refine wp_region_near (by kernel_rfl) (by kernel_rfl) ?_; (repeat (go_big_quiet_step (first | fail))); refine wpQuiet_nil ?_; intro xN; have hbw7 := xN.b; generalize xN.W = w7 at hbw7 ⊢; clear xN; clear qB9_0 qB9_1 qB9_2; replace B9 := B9.below hbw7; clear qB10_0 qB10_1 qB10_2; replace B10 := B10.below hbw7; clear qBa2_0 qBa2_1 qBa2_2 qBa2_3 qBa2_4 qBa2_5 qBa2_6; replace Ba2 := Ba2.below hbw7; clear qBb2_0 qBb2_1 qBb2_2 qBb2_3 qBb2_4 qBb2_5 qBb2_6; replace Bb2 := Bb2.below hbw7
                    clear g0 ga gb hqO hqI
                    go_wp2
                    go_roundg (n5 - (kk + 1))
                    case measure => omega
                    case rel =>
                      refine ⟨kk + 1, by omega, by omega, by go_num, (show Aside _ from thn (thn BW.out hbW) hbw7), (show Aside _ from thn (thn BX.out hbW) hbw7), (show Aside _ from fun j hj => ?_)⟩
                      by_cases e : j = kk
                      · subst e; unfold coreOk; rw [HNB.out]; rfl
                      · exact AA.out j (by omega)
                  · obtain ⟨v1, hv1⟩ : ∃ v, decide (x8 = z8) = v := ⟨_, rfl⟩
                    obtain ⟨v2, hv2⟩ : ∃ v, decide (x9 = z9) = v := ⟨_, rfl⟩
                    rw [hv1] at hqO
                    rw [hv2] at hqI
                    replace hv1 := Lib.hid hv1
                    replace hv2 := Lib.hid hv2
                    cases v1
                    · have qB9_0 := fun x => (B9.near x).c0; have qB9_1 := fun x => (B9.near x).c1; have qB9_2 := fun x => (B9.near x).c2; have qB10_0 := fun x => (B10.near x).c0; have qB10_1 := fun x => (B10.near x).c1; have qB10_2 := fun x => (B10.near x).c2; have qBa2_0 := fun x => (Ba2.near x).c0; have qBa2_1 := fun x => (Ba2.near x).c1; have qBa2_2 := fun x => (Ba2.near x).c2; have qBa2_3 := fun x => (Ba2.near x).c3; have qBa2_4 := fun x => (Ba2.near x).c4; have qBa2_5 := fun x => (Ba2.near x).c5; have qBa2_6 := fun x => (Ba2.near x).c6; have qBb2_0 := fun x => (Bb2.near x).c0; have qBb2_1 := fun x => (Bb2.near x).c1; have qBb2_2 := fun x => (Bb2.near x).c2; have qBb2_3 := fun x => (Bb2.near x).c3; have qBb2_4 := fun x => (Bb2.near x).c4; have qBb2_5 := fun x => (Bb2.near x).c5; have qBb2_6 := fun x => (Bb2.near x).c6; refine wp_region_near (by kernel_rfl) (by kernel_rfl) ?_; (repeat (go_big_quiet_step (first | (go_at_call 34; with_reducible exact near_call (hqO _))))); refine wpQuiet_nil ?_; intro xN; have hbw7 := xN.b; generalize xN.W = w7 at hbw7 ⊢; clear xN; clear qB9_0 qB9_1 qB9_2; replace B9 := B9.below hbw7; clear qB10_0 qB10_1 qB10_2; replace B10 := B10.below hbw7; clear qBa2_0 qBa2_1 qBa2_2 qBa2_3 qBa2_4 qBa2_5 qBa2_6; replace Ba2 := Ba2.below hbw7; clear qBb2_0 qBb2_1 qBb2_2 qBb2_3 qBb2_4 qBb2_5 qBb2_6; replace Bb2 := Bb2.below hbw7
                      clear g0 ga gb hqO hqI
                      go_wp2
                      go_ret
                      exact ⟨by rw [← HR.out, sameBody_core (by rw [H5.out]; exact hlt) (by unfold coreOk; rw [HNB.out, HPK.out, hv1.out]; rfl)]; rfl, thn (thn BW.out hbW) hbw7⟩
                    · cases v2
                      · have qB9_0 := fun x => (B9.near x).c0; have qB9_1 := fun x => (B9.near x).c1; have qB9_2 := fun x => (B9.near x).c2; have qB10_0 := fun x => (B10.near x).c0; have qB10_1 := fun x => (B10.near x).c1; have qB10_2 := fun x => (B10.near x).c2; have qBa2_0 := fun x => (Ba2.near x).c0; have qBa2_1 := fun x => (Ba2.near x).c1; have qBa2_2 := fun x => (Ba2.near x).c2; have qBa2_3 := fun x => (Ba2.near x).c3; have qBa2_4 := fun x => (Ba2.near x).c4; have qBa2_5 := fun x => (Ba2.near x).c5; have qBa2_6 := fun x => (Ba2.near x).c6; have qBb2_0 := fun x => (Bb2.near x).c0; have qBb2_1 := fun x => (Bb2.near x).c1; have qBb2_2 := fun x => (Bb2.near x).c2; have qBb2_3 := fun x => (Bb2.near x).c3; have qBb2_4 := fun x => (Bb2.near x).c4; have qBb2_5 := fun x => (Bb2.near x).c5; have qBb2_6 := fun x => (Bb2.near x).c6; refine wp_region_near (by kernel_rfl) (by kernel_rfl) ?_; (repeat (go_big_quiet_step (first | (go_at_call 34; with_reducible exact near_call (hqO _)) | (go_at_call 31; with_reducible exact near_call (hqI _))))); refine wpQuiet_nil ?_; intro xN; have hbw7 := xN.b; generalize xN.W = w7 at hbw7 ⊢; clear xN; clear qB9_0 qB9_1 qB9_2; replace B9 := B9.below hbw7; clear qB10_0 qB10_1 qB10_2; replace B10 := B10.below hbw7; clear qBa2_0 qBa2_1 qBa2_2 qBa2_3 qBa2_4 qBa2_5 qBa2_6; replace Ba2 := Ba2.below hbw7; clear qBb2_0 qBb2_1 qBb2_2 qBb2_3 qBb2_4 qBb2_5 qBb2_6; replace Bb2 := Bb2.below hbw7
                        clear g0 ga gb hqO hqI
                        go_wp2
                        go_ret
                        exact ⟨by rw [← HR.out, sameBody_core (by rw [H5.out]; exact hlt) (by unfold coreOk; rw [HNB.out, HPK.out, hv1.out, hv2.out]; rfl)]; rfl, thn (thn BW.out hbW) hbw7⟩
                      · by_cases hat : m9 = k9
                        · subst hat
                          cases t9
                          · cases s9
                            · have qB9_0 := fun x => (B9.near x).c0; have qB9_1 := fun x => (B9.near x).c1; have qB9_2 := fun x => (B9.near x).c2; have qB10_0 := fun x => (B10.near x).c0; have qB10_1 := fun x => (B10.near x).c1; have qB10_2 := fun x => (B10.near x).c2; have qBa2_0 := fun x => (Ba2.near x).c0; have qBa2_1 := fun x => (Ba2.near x).c1; have qBa2_2 := fun x => (Ba2.near x).c2; have qBa2_3 := fun x => (Ba2.near x).c3; have qBa2_4 := fun x => (Ba2.near x).c4; have qBa2_5 := fun x => (Ba2.near x).c5; have qBa2_6 := fun x => (Ba2.near x).c6; have qBb2_0 := fun x => (Bb2.near x).c0; have qBb2_1 := fun x => (Bb2.near x).c1; have qBb2_2 := fun x => (Bb2.near x).c2; have qBb2_3 := fun x => (Bb2.near x).c3; have qBb2_4 := fun x => (Bb2.near x).c4; have qBb2_5 := fun x => (Bb2.near x).c5; have qBb2_6 := fun x => (Bb2.near x).c6; refine wp_region_near (by kernel_rfl) (by kernel_rfl) ?_; (repeat (go_big_quiet_step (first | (go_at_call 34; with_reducible exact near_call (hqO _)) | (go_at_call 31; with_reducible exact near_call (hqI _))))); refine wpQuiet_nil ?_; intro xN; have hbw7 := xN.b; generalize xN.W = w7 at hbw7 ⊢; clear xN; clear qB9_0 qB9_1 qB9_2; replace B9 := B9.below hbw7; clear qB10_0 qB10_1 qB10_2; replace B10 := B10.below hbw7; clear qBa2_0 qBa2_1 qBa2_2 qBa2_3 qBa2_4 qBa2_5 qBa2_6; replace Ba2 := Ba2.below hbw7; clear qBb2_0 qBb2_1 qBb2_2 qBb2_3 qBb2_4 qBb2_5 qBb2_6; replace Bb2 := Bb2.below hbw7
                              clear g0 ga gb hqO hqI
                              go_wp2
                              go_roundg (n5 - (kk + 1))
                              case measure => omega
                              case rel =>
                                refine ⟨kk + 1, by omega, by omega, by go_num, (show Aside _ from thn (thn BW.out hbW) hbw7), (show Aside _ from thn (thn BX.out hbW) hbw7), (show Aside _ from fun j hj => ?_)⟩
                                by_cases e : j = kk
                                · subst e; unfold coreOk; rw [HNB.out, HPK.out, hv1.out, hv2.out]; simp
                                · exact AA.out j (by omega)
                            · have qB9_0 := fun x => (B9.near x).c0; have qB9_1 := fun x => (B9.near x).c1; have qB9_2 := fun x => (B9.near x).c2; have qB10_0 := fun x => (B10.near x).c0; have qB10_1 := fun x => (B10.near x).c1; have qB10_2 := fun x => (B10.near x).c2; have qBa2_0 := fun x => (Ba2.near x).c0; have qBa2_1 := fun x => (Ba2.near x).c1; have qBa2_2 := fun x => (Ba2.near x).c2; have qBa2_3 := fun x => (Ba2.near x).c3; have qBa2_4 := fun x => (Ba2.near x).c4; have qBa2_5 := fun x => (Ba2.near x).c5; have qBa2_6 := fun x => (Ba2.near x).c6; have qBb2_0 := fun x => (Bb2.near x).c0; have qBb2_1 := fun x => (Bb2.near x).c1; have qBb2_2 := fun x => (Bb2.near x).c2; have qBb2_3 := fun x => (Bb2.near x).c3; have qBb2_4 := fun x => (Bb2.near x).c4; have qBb2_5 := fun x => (Bb2.near x).c5; have qBb2_6 := fun x => (Bb2.near x).c6; refine wp_region_near (by kernel_rfl) (by kernel_rfl) ?_; (repeat (go_big_quiet_step (first | (go_at_call 34; with_reducible exact near_call (hqO _)) | (go_at_call 31; with_reducible exact near_call (hqI _))))); refine wpQuiet_nil ?_; intro xN; have hbw7 := xN.b; generalize xN.W = w7 at hbw7 ⊢; clear xN; clear qB9_0 qB9_1 qB9_2; replace B9 := B9.below hbw7; clear qB10_0 qB10_1 qB10_2; replace B10 := B10.below hbw7; clear qBa2_0 qBa2_1 qBa2_2 qBa2_3 qBa2_4 qBa2_5 qBa2_6; replace Ba2 := Ba2.below hbw7; clear qBb2_0 qBb2_1 qBb2_2 qBb2_3 qBb2_4 qBb2_5 qBb2_6; replace Bb2 := Bb2.below hbw7
                              clear g0 ga gb hqO hqI
                              go_wp2
                              go_ret
                              exact ⟨by rw [← HR.out, sameBody_core (by rw [H5.out]; exact hlt) (by unfold coreOk; rw [HNB.out, HPK.out, hv1.out, hv2.out]; simp)]; rfl, thn (thn BW.out hbW) hbw7⟩
                          · cases s9
                            · have qB9_0 := fun x => (B9.near x).c0; have qB9_1 := fun x => (B9.near x).c1; have qB9_2 := fun x => (B9.near x).c2; have qB10_0 := fun x => (B10.near x).c0; have qB10_1 := fun x => (B10.near x).c1; have qB10_2 := fun x => (B10.near x).c2; have qBa2_0 := fun x => (Ba2.near x).c0; have qBa2_1 := fun x => (Ba2.near x).c1; have qBa2_2 := fun x => (Ba2.near x).c2; have qBa2_3 := fun x => (Ba2.near x).c3; have qBa2_4 := fun x => (Ba2.near x).c4; have qBa2_5 := fun x => (Ba2.near x).c5; have qBa2_6 := fun x => (Ba2.near x).c6; have qBb2_0 := fun x => (Bb2.near x).c0; have qBb2_1 := fun x => (Bb2.near x).c1; have qBb2_2 := fun x => (Bb2.near x).c2; have qBb2_3 := fun x => (Bb2.near x).c3; have qBb2_4 := fun x => (Bb2.near x).c4; have qBb2_5 := fun x => (Bb2.near x).c5; have qBb2_6 := fun x => (Bb2.near x).c6; refine wp_region_near (by kernel_rfl) (by kernel_rfl) ?_; (repeat (go_big_quiet_step (first | (go_at_call 34; with_reducible exact near_call (hqO _)) | (go_at_call 31; with_reducible exact near_call (hqI _))))); refine wpQuiet_nil ?_; intro xN; have hbw7 := xN.b; generalize xN.W = w7 at hbw7 ⊢; clear xN; clear qB9_0 qB9_1 qB9_2; replace B9 := B9.below hbw7; clear qB10_0 qB10_1 qB10_2; replace B10 := B10.below hbw7; clear qBa2_0 qBa2_1 qBa2_2 qBa2_3 qBa2_4 qBa2_5 qBa2_6; replace Ba2 := Ba2.below hbw7; clear qBb2_0 qBb2_1 qBb2_2 qBb2_3 qBb2_4 qBb2_5 qBb2_6; replace Bb2 := Bb2.below hbw7
                              clear g0 ga gb hqO hqI
                              go_wp2
                              go_ret
                              exact ⟨by rw [← HR.out, sameBody_core (by rw [H5.out]; exact hlt) (by unfold coreOk; rw [HNB.out, HPK.out, hv1.out, hv2.out]; simp)]; rfl, thn (thn BW.out hbW) hbw7⟩
                            · have qB9_0 := fun x => (B9.near x).c0; have qB9_1 := fun x => (B9.near x).c1; have qB9_2 := fun x => (B9.near x).c2; have qB10_0 := fun x => (B10.near x).c0; have qB10_1 := fun x => (B10.near x).c1; have qB10_2 := fun x => (B10.near x).c2; have qBa2_0 := fun x => (Ba2.near x).c0; have qBa2_1 := fun x => (Ba2.near x).c1; have qBa2_2 := fun x => (Ba2.near x).c2; have qBa2_3 := fun x => (Ba2.near x).c3; have qBa2_4 := fun x => (Ba2.near x).c4; have qBa2_5 := fun x => (Ba2.near x).c5; have qBa2_6 := fun x => (Ba2.near x).c6; have qBb2_0 := fun x => (Bb2.near x).c0; have qBb2_1 := fun x => (Bb2.near x).c1; have qBb2_2 := fun x => (Bb2.near x).c2; have qBb2_3 := fun x => (Bb2.near x).c3; have qBb2_4 := fun x => (Bb2.near x).c4; have qBb2_5 := fun x => (Bb2.near x).c5; have qBb2_6 := fun x => (Bb2.near x).c6; refine wp_region_near (by kernel_rfl) (by kernel_rfl) ?_; (repeat (go_big_quiet_step (first | (go_at_call 34; with_reducible exact near_call (hqO _)) | (go_at_call 31; with_reducible exact near_call (hqI _))))); refine wpQuiet_nil ?_; intro xN; have hbw7 := xN.b; generalize xN.W = w7 at hbw7 ⊢; clear xN; clear qB9_0 qB9_1 qB9_2; replace B9 := B9.below hbw7; clear qB10_0 qB10_1 qB10_2; replace B10 := B10.below hbw7; clear qBa2_0 qBa2_1 qBa2_2 qBa2_3 qBa2_4 qBa2_5 qBa2_6; replace Ba2 := Ba2.below hbw7; clear qBb2_0 qBb2_1 qBb2_2 qBb2_3 qBb2_4 qBb2_5 qBb2_6; replace Bb2 := Bb2.below hbw7
                              clear g0 ga gb hqO hqI
                              go_wp2
                              go_roundg (n5 - (kk + 1))
                              case measure => omega
                              case rel =>
                                refine ⟨kk + 1, by omega, by omega, by go_num, (show Aside _ from thn (thn BW.out hbW) hbw7), (show Aside _ from thn (thn BX.out hbW) hbw7), (show Aside _ from fun j hj => ?_)⟩
                                by_cases e : j = kk
                                · subst e; unfold coreOk; rw [HNB.out, HPK.out, hv1.out, hv2.out]; simp
                                · exact AA.out j (by omega)
                        · have hat1 : (m9 != k9) = true := by rw [bne_iff_ne]; exact hat
                          have hat2 : decide (m9 = k9) = false := decide_eq_false hat
                          have hat3 := Lib.hid hat
                          have qB9_0 := fun x => (B9.near x).c0; have qB9_1 := fun x => (B9.near x).c1; have qB9_2 := fun x => (B9.near x).c2; have qB10_0 := fun x => (B10.near x).c0; have qB10_1 := fun x => (B10.near x).c1; have qB10_2 := fun x => (B10.near x).c2; have qBa2_0 := fun x => (Ba2.near x).c0; have qBa2_1 := fun x => (Ba2.near x).c1; have qBa2_2 := fun x => (Ba2.near x).c2; have qBa2_3 := fun x => (Ba2.near x).c3; have qBa2_4 := fun x => (Ba2.near x).c4; have qBa2_5 := fun x => (Ba2.near x).c5; have qBa2_6 := fun x => (Ba2.near x).c6; have qBb2_0 := fun x => (Bb2.near x).c0; have qBb2_1 := fun x => (Bb2.near x).c1; have qBb2_2 := fun x => (Bb2.near x).c2; have qBb2_3 := fun x => (Bb2.near x).c3; have qBb2_4 := fun x => (Bb2.near x).c4; have qBb2_5 := fun x => (Bb2.near x).c5; have qBb2_6 := fun x => (Bb2.near x).c6; refine wp_region_near (by kernel_rfl) (by kernel_rfl) ?_; (repeat (go_big_quiet_step (first | (go_at_call 34; with_reducible exact near_call (hqO _)) | (go_at_call 31; with_reducible exact near_call (hqI _))))); refine wpQuiet_nil ?_; intro xN; have hbw7 := xN.b; generalize xN.W = w7 at hbw7 ⊢; clear xN; clear qB9_0 qB9_1 qB9_2; replace B9 := B9.below hbw7; clear qB10_0 qB10_1 qB10_2; replace B10 := B10.below hbw7; clear qBa2_0 qBa2_1 qBa2_2 qBa2_3 qBa2_4 qBa2_5 qBa2_6; replace Ba2 := Ba2.below hbw7; clear qBb2_0 qBb2_1 qBb2_2 qBb2_3 qBb2_4 qBb2_5 qBb2_6; replace Bb2 := Bb2.below hbw7
                          clear g0 ga gb hqO hqI
                          go_wp2
                          go_ret
                          exact ⟨by rw [← HR.out, sameBody_core (by rw [H5.out]; exact hlt) (by unfold coreOk; rw [HNB.out, HPK.out, hv1.out, hv2.out, decide_eq_false hat3.out]; rfl)]; rfl, thn (thn BW.out hbW) hbw7⟩
                · have hltz : ¬ (kk : Int) < (n5 : Int) := by omega
                  obtain rfl : n5 = kk := by omega
                  have HCA := Lib.hid (show ∀ k, k < C.2.2.1.length → coreOk C D N k = true from fun j hj => AA.out j (by rw [H5.out] at hj; exact hj))
                  have hb3 := BW.out
                  have hbx3 := BX.out
                  clear AA BW BX hltz hlt
                  go_wp2_with fail
                  go_loopg [11] n2 (fun gg s11 wr => ∃ kk : Nat, kk ≤ n2 ∧ n2 - kk ≤ gg ∧ s11 = .int .i64 kk ∧ Aside (Below w.heap.size w wr) ∧ Aside (Below w6.heap.size w6 wr) ∧ Aside (∀ j, j < kk → holdsOk C D N j = true))
                  case atStart => exact ⟨0, Nat.zero_le _, by omega, rfl, (show Aside _ from hb3), (show Aside _ from hbx3), (show Aside _ from fun j hj => absurd hj (Nat.not_lt_zero _))⟩
                  case round =>
                    obtain ⟨kk, hkk, hg, rfl, BW, BX, AA⟩ := hrel
                    clear hb3 hbx3
                    have z5 := (Ba.below BX.out).c5
                    by_cases hlt : kk < n2
                    · have hltz : (kk : Int) < (n2 : Int) := by omega
                      obtain ⟨b2, o2, rfl, y2, hx2, hc2⟩ := hs2.nth hlt (Below.refl _ _)
                      obtain ⟨b6, o6, rfl, p6, hx6, hc6⟩ := hs6.nth hlt (Below.refl _ _)
                      obtain ⟨j6, i6, rfl, q6, hy6, kc6⟩ := ks6.nth hlt (Below.refl _ _)
                      have u0 := hc2 0 _ rfl
                      have u1 := hc2 1 _ rfl
                      have u2 := hc2 2 _ rfl
                      have u3 := hc2 3 _ rfl
                      have r6 := hc6 0 _ rfl
                      have s6 := kc6 0 _ rfl
                      have HHP := Lib.hid (HHK.out kk p6 q6 hx6 hy6)
                      have hto := HTO.out kk y2 hx2
                      have htb := HTB.out kk y2 hx2
                      have ok6 := HH.out p6 (List.mem_of_getElem? hx6)
                      have kk6 := KH.out q6 (List.mem_of_getElem? hy6)
                      clear hc2 hc6 kc6 hx2 hx6 hy6
                      obtain ⟨k2, f2, t2, z2⟩ := y2
                      obtain ⟨A9, n9, c9, x9⟩ := p6
                      obtain ⟨D9, d9, e9, z9⟩ := q6
                      simp only [] at hto htb HHP
                      obtain ⟨T, rfl⟩ : ∃ T : Nat, t2 = (T : Int) := ⟨t2.toNat, by omega⟩
                      rw [Int.toNat_natCast, hNL.out] at hto
                      have hTz : (T : Int) < (n5 : Int) := htb.2
                      have hT0 : (0 : Int) ≤ (T : Int) := by omega
                      clear htb
                      simp only [eC, eHr, SV.v, Nat.add_zero, Nat.mul_one] at u0 u1 u2 u3 r6 s6
                      simp only [okH] at ok6 kk6
                      have l2 := World.block_lt_of_cell? _ _ u0
                      have l6 := World.block_lt_of_cell? _ _ r6
                      have k6 := World.block_lt_of_cell? _ _ s6
                      have hbW := Below.refl wr.heap.size wr
                      have hb2 := thn BW.out hbW
                      have Ba2 := Ba.below BX.out
                      have Bb2 := Bb.below BX.out
                      have Bn2 := Bn.below BX.out
                      have gc := fun x : Near wr => ((thn hb2 x.b).cell (p := ⟨b2, o2 + kk * 4 + 2, none⟩) (World.block_lt_of_cell? _ _ u2)).trans u2
                      have g0 := fun x : Near wr => flag_cell (Bn2.below x.b) (i := T) (by omega)
                      have HNB := Lib.hid hto
                      clear hto
                      generalize NL.getD T false = nb at g0 HNB
                      have ga := fun x : Near wr => ((thn hb2 x.b).cell (p := ⟨b6, o6 + kk, none⟩) l6).trans r6
                      have gb := fun x : Near wr => ((thn hb2 x.b).cell (p := ⟨j6, i6 + kk, none⟩) k6).trans s6
                      have hqI := fun x : Near wr => l21Ints_any A9 D9 n9 d9 c9 e9 x9 z9 x.W (ok6.below (thn hb2 x.b)) (kk6.below (thn hb2 x.b))
                      clear ok6 kk6 u0 u1 u2 u3 r6 s6
                      skip
                      skip
                      go_wp2_with fail
                      clear Bn2
                      cases nb
                      · have qBa2_0 := fun x => (Ba2.near x).c0; have qBa2_1 := fun x => (Ba2.near x).c1; have qBa2_2 := fun x => (Ba2.near x).c2; have qBa2_3 := fun x => (Ba2.near x).c3; have qBa2_4 := fun x => (Ba2.near x).c4; have qBa2_5 := fun x => (Ba2.near x).c5; have qBa2_6 := fun x => (Ba2.near x).c6; have qBb2_0 := fun x => (Bb2.near x).c0; have qBb2_1 := fun x => (Bb2.near x).c1; have qBb2_2 := fun x => (Bb2.near x).c2; have qBb2_3 := fun x => (Bb2.near x).c3; have qBb2_4 := fun x => (Bb2.near x).c4; have qBb2_5 := fun x => (Bb2.near x).c5; have qBb2_6 := fun x => (Bb2.near x).c6; refine wp_region_near (by kernel_rfl) (by kernel_rfl) ?_; (repeat (go_big_quiet_step (first | fail))); refine wpQuiet_nil ?_; intro xN; have hbw7 := xN.b; generalize xN.W = w7 at hbw7 ⊢; clear xN; clear qBa2_0 qBa2_1 qBa2_2 qBa2_3 qBa2_4 qBa2_5 qBa2_6; replace Ba2 := Ba2.below hbw7; clear qBb2_0 qBb2_1 qBb2_2 qBb2_3 qBb2_4 qBb2_5 qBb2_6; replace Bb2 := Bb2.below hbw7
                        clear g0 ga gb hqI gc
                        go_wp2
                        go_roundg (n2 - (kk + 1))
                        case measure => omega
                        case rel =>
                          refine ⟨kk + 1, by omega, by omega, by go_num, (show Aside _ from thn (thn BW.out hbW) hbw7), (show Aside _ from thn (thn BX.out hbW) hbw7), (show Aside _ from fun j hj => ?_)⟩
                          by_cases e : j = kk
                          · subst e; unfold holdsOk; rw [HNB.out]; rfl
                          · exact AA.out j (by omega)
                      · obtain ⟨v1, hv1⟩ : ∃ v, decide (x9 = z9) = v := ⟨_, rfl⟩
                        rw [hv1] at hqI
                        replace hv1 := Lib.hid hv1
                        cases v1
                        · have qBa2_0 := fun x => (Ba2.near x).c0; have qBa2_1 := fun x => (Ba2.near x).c1; have qBa2_2 := fun x => (Ba2.near x).c2; have qBa2_3 := fun x => (Ba2.near x).c3; have qBa2_4 := fun x => (Ba2.near x).c4; have qBa2_5 := fun x => (Ba2.near x).c5; have qBa2_6 := fun x => (Ba2.near x).c6; have qBb2_0 := fun x => (Bb2.near x).c0; have qBb2_1 := fun x => (Bb2.near x).c1; have qBb2_2 := fun x => (Bb2.near x).c2; have qBb2_3 := fun x => (Bb2.near x).c3; have qBb2_4 := fun x => (Bb2.near x).c4; have qBb2_5 := fun x => (Bb2.near x).c5; have qBb2_6 := fun x => (Bb2.near x).c6; refine wp_region_near (by kernel_rfl) (by kernel_rfl) ?_; (repeat (go_big_quiet_step (first | (go_at_call 31; with_reducible exact near_call (hqI _))))); refine wpQuiet_nil ?_; intro xN; have hbw7 := xN.b; generalize xN.W = w7 at hbw7 ⊢; clear xN; clear qBa2_0 qBa2_1 qBa2_2 qBa2_3 qBa2_4 qBa2_5 qBa2_6; replace Ba2 := Ba2.below hbw7; clear qBb2_0 qBb2_1 qBb2_2 qBb2_3 qBb2_4 qBb2_5 qBb2_6; replace Bb2 := Bb2.below hbw7
                          clear g0 ga gb hqI gc
                          go_wp2
                          go_ret
                          exact ⟨by rw [← HR.out, sameBody_hold (by rw [H2.out]; exact hlt) (by unfold holdsOk; rw [HNB.out, HHP.out, hv1.out]; rfl)]; rfl, thn (thn BW.out hbW) hbw7⟩
                        · have qBa2_0 := fun x => (Ba2.near x).c0; have qBa2_1 := fun x => (Ba2.near x).c1; have qBa2_2 := fun x => (Ba2.near x).c2; have qBa2_3 := fun x => (Ba2.near x).c3; have qBa2_4 := fun x => (Ba2.near x).c4; have qBa2_5 := fun x => (Ba2.near x).c5; have qBa2_6 := fun x => (Ba2.near x).c6; have qBb2_0 := fun x => (Bb2.near x).c0; have qBb2_1 := fun x => (Bb2.near x).c1; have qBb2_2 := fun x => (Bb2.near x).c2; have qBb2_3 := fun x => (Bb2.near x).c3; have qBb2_4 := fun x => (Bb2.near x).c4; have qBb2_5 := fun x => (Bb2.near x).c5; have qBb2_6 := fun x => (Bb2.near x).c6; refine wp_region_near (by kernel_rfl) (by kernel_rfl) ?_; (repeat (go_big_quiet_step (first | (go_at_call 31; with_reducible exact near_call (hqI _))))); refine wpQuiet_nil ?_; intro xN; have hbw7 := xN.b; generalize xN.W = w7 at hbw7 ⊢; clear xN; clear qBa2_0 qBa2_1 qBa2_2 qBa2_3 qBa2_4 qBa2_5 qBa2_6; replace Ba2 := Ba2.below hbw7; clear qBb2_0 qBb2_1 qBb2_2 qBb2_3 qBb2_4 qBb2_5 qBb2_6; replace Bb2 := Bb2.below hbw7
                          clear g0 ga gb hqI gc
                          go_wp2
                          go_roundg (n2 - (kk + 1))
                          case measure => omega
                          case rel =>
                            refine ⟨kk + 1, by omega, by omega, by go_num, (show Aside _ from thn (thn BW.out hbW) hbw7), (show Aside _ from thn (thn BX.out hbW) hbw7), (show Aside _ from fun j hj => ?_)⟩
                            by_cases e : j = kk
                            · subst e; unfold holdsOk; rw [HNB.out, HHP.out, hv1.out]; rfl
                            · exact AA.out j (by omega)
                    · have hltz : ¬ (kk : Int) < (n2 : Int) := by omega
                      obtain rfl : n2 = kk := by omega
                      go_wp2
                      go_ret
                      exact ⟨by rw [← HR.out, sameBody_true HCA.out (fun j hj => AA.out j (by rw [H2.out] at hj; exact hj))]; rfl, BW.out⟩
        · have ht1 : (tick != tock) = true := by rw [bne_iff_ne]; exact ht
          have ht2 : decide (tick = tock) = false := decide_eq_false ht
          rw [ht2] at HR
          clear hNa hNb hEq ht2
          go_enter Tryz.func8, Tryz.ntmps8
          go_wp2_with fail
          skip
          have qBa_0 := fun x => (Ba.near x).c0; have qBa_1 := fun x => (Ba.near x).c1; have qBa_2 := fun x => (Ba.near x).c2; have qBa_3 := fun x => (Ba.near x).c3; have qBa_4 := fun x => (Ba.near x).c4; have qBa_5 := fun x => (Ba.near x).c5; have qBa_6 := fun x => (Ba.near x).c6; have qBb_0 := fun x => (Bb.near x).c0; have qBb_1 := fun x => (Bb.near x).c1; have qBb_2 := fun x => (Bb.near x).c2; have qBb_3 := fun x => (Bb.near x).c3; have qBb_4 := fun x => (Bb.near x).c4; have qBb_5 := fun x => (Bb.near x).c5; have qBb_6 := fun x => (Bb.near x).c6; refine wp_region_near (by kernel_rfl) (by kernel_rfl) ?_; (repeat (go_big_quiet_step (first | (go_at_call 29; with_reducible exact near_call (hqa1 _)) | (go_at_call 29; with_reducible exact near_call (hqb1 _)) | (go_at_call 30; with_reducible exact near_same (hI1 _))))); refine wpQuiet_nil ?_; intro xN; have hbw7 := xN.b; generalize xN.W = w7 at hbw7 ⊢; clear xN; clear qBa_0 qBa_1 qBa_2 qBa_3 qBa_4 qBa_5 qBa_6; replace Ba := Ba.below hbw7; clear qBb_0 qBb_1 qBb_2 qBb_3 qBb_4 qBb_5 qBb_6; replace Bb := Bb.below hbw7
          go_wp2
          go_ret
          exact ⟨by rw [← HR.out]; rfl, thn hb0 hbw7⟩
end Go.Proofs.YtckgdlgdipfgmaaGreat
