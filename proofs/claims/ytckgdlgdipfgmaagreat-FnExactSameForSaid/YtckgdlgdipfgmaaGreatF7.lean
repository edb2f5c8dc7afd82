/- Setups: SetupValid, of the program and of the reference. slices.IndexFunc, slices.ContainsFunc at Order. ProgramValid of impl and spec. -/
import Derived.Test.YtckgdlgdipfgmaaGreatF1
import Derived.Test.YtckgdlgdipfgmaaGreatF2
import Derived.Test.YtckgdlgdipfgmaaGreatF5
import Derived.Test.YtckgdlgdipfgmaaGreatF6
import Derived.Test.YtckgdlgdipfgmaaGreatChecked
import Derived.Shelf.Abstract

namespace Go.Proofs.YtckgdlgdipfgmaaGreat
set_option linter.unusedVariables false
set_option linter.unusedSimpArgs false
open Go.RowKit

abbrev SetC := List (List Win × Int) × List ChanT × List (Int × Int)
def partsOkC (ys : List (List Win × Int)) : Bool := decide (ys.length ≤ 5) && ys.all fun y => winsOk y.1 && inB y.2 1 8
theorem partsOk_C (l : List PartV) : partsOk l = partsOkC (l.map cP) := by
  simp only [partsOk, partsOkC, List.length_map, List.all_map]
  rfl
def setupOkC (c : SetC) : Bool := partsOkC c.1 && (chansOk c.2.1 c.1.length && slotsOk c.2.2 c.1.length)
set_option maxHeartbeats 1000000 in
theorem setupValid_any (s : SetR) (w : World) (h : okS w s) :
    Calls Tryz.prog 80 #[setV s] w fun e w' => .returned (.bool (setupOkC (cS s))) = e ∧ Below w.heap.size w w' := by
  obtain ⟨⟨A1, n1, c1, x1⟩, ⟨A2, n2, c2, x2⟩, ⟨A3, n3, c3, x3⟩⟩ := s
  obtain ⟨h1, h2, h3⟩ := h
  simp only [okLP, okF] at h1 h2 h3
  have hl := h1.1.len
  have hb0 := alo (Below.refl w.heap.size w) (.cells #[.slice A1 n1 c1, .slice A2 n2 c2, .slice A3 n3 c3] 38)
  have B0 := Blk.new w 38 #[.slice A1 n1 c1, .slice A2 n2 c2, .slice A3 n3 c3]
  have HR := Lib.hid (show setupOkC (cS (⟨A1, n1, c1, x1⟩, ⟨A2, n2, c2, x2⟩, ⟨A3, n3, c3, x3⟩)) = (partsOk x1 && (chansOk x2 n1 && slotsOk x3 n1)) by rw [partsOk_C]; simp only [setupOkC, cS, List.length_map, hl])
  have h5 : partsOk x1 = true → n1 ≤ 5 := fun h => by simp only [partsOk, Bool.and_eq_true, decide_eq_true_eq] at h; omega
  have q1 := partsValid_any A1 n1 c1 x1 _ (h1.1.below hb0) (fun x hx => (h1.2 x hx).below hb0)
  have q2 := fun (_ : n1 ≤ 5) W (hW : Below (w.alloc (.cells #[.slice A1 n1 c1, .slice A2 n2 c2, .slice A3 n3 c3] 38)).heap.size _ W) => channelsValid_any A2 n2 c2 x2 n1 W ((h2.below hb0).below hW)
  have q3 := fun (_ : n1 ≤ 5) W (hW : Below (w.alloc (.cells #[.slice A1 n1 c1, .slice A2 n2 c2, .slice A3 n3 c3] 38)).heap.size _ W) => slotsValid_any A3 n3 c3 x3 n1 W ((h3.below hb0).below hW)
  simp only [setV, SV.v]
  clear h1 h2 h3
  obtain ⟨v1, hv1⟩ : ∃ v, partsOk x1 = v := ⟨_, rfl⟩
  obtain ⟨v2, hv2⟩ : ∃ v, chansOk x2 n1 = v := ⟨_, rfl⟩
  obtain ⟨v3, hv3⟩ : ∃ v, slotsOk x3 n1 = v := ⟨_, rfl⟩
  rw [hv1] at q1 HR h5
  rw [hv2] at q2 HR
  rw [hv3] at q3 HR
  clear hv1 hv2 hv3
  skip
  skip
  have cB0_0 := B0.c0; have cB0_1 := B0.c1; have cB0_2 := B0.c2; have fB0 := B0.frozen
  cases v1
  · clear q2 q3 h5
    go_enter Tryz.func80, Tryz.ntmps80
    go_wp2_with fail; refine (q1).mono ?_; rintro e w1 ⟨rfl, hbw1⟩; replace B0 := Blk.belowOf B0 hbw1 (by repeat (first | exact B0 | apply Blk.alloc | apply Blk.drew | (apply Blk.far; rotate_left; (first | assumption | exact Ne.symm (by assumption))) | apply Blk.set_))
    go_wp2
    go_ret
    exact ⟨by rw [HR.out]; rfl, thn hb0 hbw1⟩
  · have h6 := h5 rfl
    clear h5
    go_enter Tryz.func80, Tryz.ntmps80
    go_wp2_with fail; refine (q1).mono ?_; rintro e w1 ⟨rfl, hbw1⟩; replace B0 := Blk.belowOf B0 hbw1 (by repeat (first | exact B0 | apply Blk.alloc | apply Blk.drew | (apply Blk.far; rotate_left; (first | assumption | exact Ne.symm (by assumption))) | apply Blk.set_))
    clear cB0_0 cB0_1 cB0_2 fB0
    have cB0_0 := B0.c0; have cB0_1 := B0.c1; have cB0_2 := B0.c2; have fB0 := B0.frozen
    have q2 := q2 h6 w1 hbw1
    cases v2
    · clear q3
      go_wp2_with fail; refine (q2).mono ?_; rintro e w2 ⟨rfl, hbw2⟩; replace B0 := Blk.belowOf B0 hbw2 (by repeat (first | exact B0 | apply Blk.alloc | apply Blk.drew | (apply Blk.far; rotate_left; (first | assumption | exact Ne.symm (by assumption))) | apply Blk.set_))
      go_wp2
      go_ret
      exact ⟨by rw [HR.out]; rfl, thn (thn hb0 hbw1) hbw2⟩
    · go_wp2_with fail; refine (q2).mono ?_; rintro e w2 ⟨rfl, hbw2⟩; replace B0 := Blk.belowOf B0 hbw2 (by repeat (first | exact B0 | apply Blk.alloc | apply Blk.drew | (apply Blk.far; rotate_left; (first | assumption | exact Ne.symm (by assumption))) | apply Blk.set_))
      clear cB0_0 cB0_1 cB0_2 fB0
      have cB0_0 := B0.c0; have cB0_1 := B0.c1; have cB0_2 := B0.c2; have fB0 := B0.frozen
      have q3 := q3 h6 w2 (thn hbw1 hbw2)
      go_wp2_with fail; refine (q3).mono ?_; rintro e w3 ⟨rfl, hbw3⟩; replace B0 := Blk.belowOf B0 hbw3 (by repeat (first | exact B0 | apply Blk.alloc | apply Blk.drew | (apply Blk.far; rotate_left; (first | assumption | exact Ne.symm (by assumption))) | apply Blk.set_))
      go_wp2
      go_ret
      exact ⟨by rw [HR.out]; cases v3 <;> rfl, thn (thn (thn hb0 hbw1) hbw2) hbw3⟩
set_option maxHeartbeats 1000000 in
theorem specSetupValid_any (s : SetR) (w : World) (h : okS w s) :
    Calls Tryz.prog 68 #[setV s] w fun e w' => .returned (.bool (setupOkC (cS s))) = e ∧ Below w.heap.size w w' := by
  obtain ⟨⟨A1, n1, c1, x1⟩, ⟨A2, n2, c2, x2⟩, ⟨A3, n3, c3, x3⟩⟩ := s
  obtain ⟨h1, h2, h3⟩ := h
  simp only [okLP, okF] at h1 h2 h3
  have hl := h1.1.len
  have hb0 := alo (Below.refl w.heap.size w) (.cells #[.slice A1 n1 c1, .slice A2 n2 c2, .slice A3 n3 c3] 38)
  have B0 := Blk.new w 38 #[.slice A1 n1 c1, .slice A2 n2 c2, .slice A3 n3 c3]
  have HR := Lib.hid (show setupOkC (cS (⟨A1, n1, c1, x1⟩, ⟨A2, n2, c2, x2⟩, ⟨A3, n3, c3, x3⟩)) = (partsOk x1 && (chansOk x2 n1 && slotsOk x3 n1)) by rw [partsOk_C]; simp only [setupOkC, cS, List.length_map, hl])
  have h5 : partsOk x1 = true → n1 ≤ 5 := fun h => by simp only [partsOk, Bool.and_eq_true, decide_eq_true_eq] at h; omega
  have q1 := specPartsValid_any A1 n1 c1 x1 _ (h1.1.below hb0) (fun x hx => (h1.2 x hx).below hb0)
  have q2 := fun (h5 : n1 ≤ 5) W (hW : Below (w.alloc (.cells #[.slice A1 n1 c1, .slice A2 n2 c2, .slice A3 n3 c3] 38)).heap.size _ W) => specChannelsValid_any A2 n2 c2 x2 n1 (by omega) W ((h2.below hb0).below hW)
  have q3 := fun (h5 : n1 ≤ 5) W (hW : Below (w.alloc (.cells #[.slice A1 n1 c1, .slice A2 n2 c2, .slice A3 n3 c3] 38)).heap.size _ W) => specSlotsValid_any A3 n3 c3 x3 n1 W (by omega) ((h3.below hb0).below hW)
  simp only [setV, SV.v]
  clear h1 h2 h3
  obtain ⟨v1, hv1⟩ : ∃ v, partsOk x1 = v := ⟨_, rfl⟩
  obtain ⟨v2, hv2⟩ : ∃ v, chansOk x2 n1 = v := ⟨_, rfl⟩
  obtain ⟨v3, hv3⟩ : ∃ v, slotsOk x3 n1 = v := ⟨_, rfl⟩
  rw [hv1] at q1 HR h5
  rw [hv2] at q2 HR
  rw [hv3] at q3 HR
  clear hv1 hv2 hv3
  skip
  skip
  have cB0_0 := B0.c0; have cB0_1 := B0.c1; have cB0_2 := B0.c2; have fB0 := B0.frozen
  cases v1
  · clear q2 q3 h5
    go_enter Tryz.func68, Tryz.ntmps68
    go_wp2_with fail; refine (q1).mono ?_; rintro e w1 ⟨rfl, hbw1⟩; replace B0 := Blk.belowOf B0 hbw1 (by repeat (first | exact B0 | apply Blk.alloc | apply Blk.drew | (apply Blk.far; rotate_left; (first | assumption | exact Ne.symm (by assumption))) | apply Blk.set_))
    go_wp2
    go_ret
    exact ⟨by rw [HR.out]; rfl, thn hb0 hbw1⟩
  · have h6 := h5 rfl
    clear h5
    go_enter Tryz.func68, Tryz.ntmps68
    go_wp2_with fail; refine (q1).mono ?_; rintro e w1 ⟨rfl, hbw1⟩; replace B0 := Blk.belowOf B0 hbw1 (by repeat (first | exact B0 | apply Blk.alloc | apply Blk.drew | (apply Blk.far; rotate_left; (first | assumption | exact Ne.symm (by assumption))) | apply Blk.set_))
    clear cB0_0 cB0_1 cB0_2 fB0
    have cB0_0 := B0.c0; have cB0_1 := B0.c1; have cB0_2 := B0.c2; have fB0 := B0.frozen
    have q2 := q2 h6 w1 hbw1
    cases v2
    · clear q3
      go_wp2_with fail; refine (q2).mono ?_; rintro e w2 ⟨rfl, hbw2⟩; replace B0 := Blk.belowOf B0 hbw2 (by repeat (first | exact B0 | apply Blk.alloc | apply Blk.drew | (apply Blk.far; rotate_left; (first | assumption | exact Ne.symm (by assumption))) | apply Blk.set_))
      go_wp2
      go_ret
      exact ⟨by rw [HR.out]; rfl, thn (thn hb0 hbw1) hbw2⟩
    · go_wp2_with fail; refine (q2).mono ?_; rintro e w2 ⟨rfl, hbw2⟩; replace B0 := Blk.belowOf B0 hbw2 (by repeat (first | exact B0 | apply Blk.alloc | apply Blk.drew | (apply Blk.far; rotate_left; (first | assumption | exact Ne.symm (by assumption))) | apply Blk.set_))
      clear cB0_0 cB0_1 cB0_2 fB0
      have cB0_0 := B0.c0; have cB0_1 := B0.c1; have cB0_2 := B0.c2; have fB0 := B0.frozen
      have q3 := q3 h6 w2 (thn hbw1 hbw2)
      go_wp2_with fail; refine (q3).mono ?_; rintro e w3 ⟨rfl, hbw3⟩; replace B0 := Blk.belowOf B0 hbw3 (by repeat (first | exact B0 | apply Blk.alloc | apply Blk.drew | (apply Blk.far; rotate_left; (first | assumption | exact Ne.symm (by assumption))) | apply Blk.set_))
      go_wp2
      go_ret
      exact ⟨by rw [HR.out]; cases v3 <;> rfl, thn (thn (thn hb0 hbw1) hbw2) hbw3⟩
end Go.Proofs.YtckgdlgdipfgmaaGreat

namespace Go.Proofs.YtckgdlgdipfgmaaGreat
set_option linter.unusedVariables false
set_option linter.unusedSimpArgs false
open Go.RowKit Go.Shelf

set_option maxHeartbeats 400000 in
theorem indexOrd (p : (Int × Int × Int) → Bool) (g : Nat) (lb : Array Value) (eg : ∀ args w, (callFunc g args).run Tryz.prog w = .ok (.enter g args) w) (A : Option Addr) (n c : Nat) (xs : List (Int × Int × Int)) (w : World) (ok : (Int × Int × Int) → Prop) (hok : ∀ x ∈ xs, ok x)
    (hp : Pred Tryz.prog g lb (fun x => .agg (eO x).toArray) ok p w) (hs : Sl w 3 eO A n c xs) :
    Calls Tryz.prog 156 #[.slice A n c, .func (.func g) #[] lb] w fun e w' => .returned (.int .i64 (idxP p xs)) = e ∧ Below w.heap.size w w' := by
  have hle := hs.le
  have hmax := hs.max
  go_enter Tryz.func156, Tryz.ntmps156
  go_wp2
  go_loopg [5, 8] n (fun gg _ s8 wr => ∃ kk : Nat, kk ≤ n ∧ n - kk ≤ gg ∧ s8 = .int .i64 kk ∧ Aside (Below w.heap.size w wr) ∧ Aside (∀ j y, j < kk → xs[j]? = some y → p y = false))
  case atStart => exact ⟨0, Nat.zero_le _, by omega, rfl, Below.refl _ w, fun j _ hj => absurd hj (Nat.not_lt_zero _)⟩
  case round =>
    obtain ⟨kk, hkk, hg, rfl, BW, AA⟩ := hrel
    by_cases hlt : kk < n
    · have hltz : (kk : Int) < (n : Int) := by omega
      obtain ⟨b, o, rfl, hb, hc⟩ := hs.cells (by omega)
      have hlx : kk < xs.length := by have := hs.len; omega
      have hx : xs[kk]? = some xs[kk] := List.getElem?_eq_getElem hlx
      have hcall := hp wr xs[kk] (hok _ (List.getElem_mem hlx)) BW.out
      have hc0 := (BW.out.cell (p := ⟨b, o + kk * 3 + 0, none⟩) hb).trans (hc kk _ hx 0 _ rfl)
      have hc1 := (BW.out.cell (p := ⟨b, o + kk * 3 + 1, none⟩) hb).trans (hc kk _ hx 1 _ rfl)
      have hc2 := (BW.out.cell (p := ⟨b, o + kk * 3 + 2, none⟩) hb).trans (hc kk _ hx 2 _ rfl)
      clear hc hp hok
      have HX := Lib.hid hx
      clear hx
      generalize xs[kk] = y at hcall hc0 hc1 hc2 HX
      simp only [eO, Nat.add_zero, Nat.mul_one] at hcall hc0 hc1 hc2
      cases hq : p y with
      | true =>
        rw [hq] at hcall
        have HQ := Lib.hid hq
        clear hq
        go_wp2_with fail
        refine hcall.mono ?_
        rintro e w' ⟨rfl, hb'⟩
        go_wp2
        go_ret
        refine ⟨?_, BW.out.trans (hb'.mono BW.out.size)⟩
        rw [idxP_hit p xs kk y HX.out HQ.out AA.out]; rfl
      | false =>
        rw [hq] at hcall
        have HQ := Lib.hid hq
        clear hq
        go_wp2_with fail
        refine hcall.mono ?_
        rintro e w' ⟨rfl, hb'⟩
        go_wp2
        go_roundg (n - (kk + 1))
        case measure => omega
        case rel =>
          refine ⟨kk + 1, by omega, by omega, by go_num, BW.out.trans (hb'.mono BW.out.size), (show Aside _ from fun j z hj hz => ?_)⟩
          by_cases e : j = kk
          · subst e
            have := HX.out
            rw [this] at hz
            injection hz with hz
            rw [← hz]; exact HQ.out
          · exact AA.out j z (by omega) hz
    · have hltz : ¬ (kk : Int) < (n : Int) := by omega
      have : kk = n := by omega
      subst this
      go_wp2
      go_ret
      refine ⟨?_, BW.out⟩
      rw [idxP_miss p xs (fun j y hj hy => AA.out j y (by have := hs.len; omega) hy)]; rfl

theorem containsOrd (p : (Int × Int × Int) → Bool) (g : Nat) (lb : Array Value) (eg : ∀ args w, (callFunc g args).run Tryz.prog w = .ok (.enter g args) w) (A : Option Addr) (n c : Nat) (xs : List (Int × Int × Int)) (w : World) (ok : (Int × Int × Int) → Prop) (hok : ∀ x ∈ xs, ok x)
    (hp : Pred Tryz.prog g lb (fun x => .agg (eO x).toArray) ok p w) (hs : Sl w 3 eO A n c xs) :
    Calls Tryz.prog 143 #[.slice A n c, .func (.func g) #[] lb] w fun e w' => .returned (.bool (xs.any p)) = e ∧ Below w.heap.size w w' := by
  rw [← idxP_nonneg p xs]
  have hcall : ∀ W : World, W = w → Calls Tryz.prog 156 #[.slice A n c, .func (.func g) #[] lb] W fun e w' => .returned (.int .i64 (idxP p xs)) = e ∧ Below W.heap.size W w' := by
    rintro W rfl
    exact indexOrd p g lb eg A n c xs _ ok hok hp hs
  have hc := hcall w rfl
  clear hcall hp hs
  generalize idxP p xs = i at hc ⊢
  go_enter Tryz.func143, Tryz.ntmps143
  go_wp2_with fail
  refine hc.mono ?_
  rintro e w' ⟨rfl, hb⟩
  go_wp2
  go_ret
  exact ⟨rfl, hb⟩
end Go.Proofs.YtckgdlgdipfgmaaGreat

namespace Go.Proofs.YtckgdlgdipfgmaaGreat
set_option linter.unusedVariables false
set_option linter.unusedSimpArgs false
open Go.RowKit

def ordOk (cells len : Int) (x : Int × Int × Int) : Bool :=
  if x.1 = 1 then inB x.2.1 0 (cells - 1) && inB x.2.2 0 255
  else if x.1 = 2 ∨ x.1 = 3 then inB x.2.1 0 (cells - 1) && inB x.2.2 0 (cells - 1)
  else if x.1 = 4 then inB x.2.1 0 (len - 1) && inB x.2.2 0 (cells - 1)
  else if x.1 = 5 ∨ x.1 = 6 then inB x.2.1 0 7 && inB x.2.2 0 (cells - 1)
  else if x.1 = 7 then inB x.2.1 0 (cells - 1) && x.2.2 == 0
  else if x.1 = 0 ∨ x.1 = 8 then x.2.1 == 0 && x.2.2 == 0
  else false
def progOk (xs : List (Int × Int × Int)) (cells : Int) : Bool := inB xs.length 1 20 && (inB cells 1 8 && xs.all (ordOk cells xs.length))
theorem any_notO (p : (Int × Int × Int) → Bool) (xs : List (Int × Int × Int)) : (xs.any fun x => !p x) = !xs.all p := by
  induction xs with
  | nil => rfl
  | cons a l ih => simp [ih]
set_option maxHeartbeats 2000000 in
theorem ordValid_any (op a b cells len : Int) (hc : -1000 ≤ cells ∧ cells ≤ 1000) (hl : 0 ≤ len ∧ len ≤ 9223372036854775807) (w : World) :
    Calls Tryz.prog 145 #[.agg #[.int .i64 op, .int .i64 a, .int .i64 b], .int .i64 cells, .int .i64 len] w fun e w' => .returned (.bool (ordOk cells len (op, a, b))) = e ∧ Below w.heap.size w w' := by
  obtain ⟨hc0, hc1⟩ := hc
  obtain ⟨hl0, hl1⟩ := hl
  by_cases h1 : op = 1
  · subst h1
    have hA := fun W => in_any a 0 (cells - 1) W
    have hB := fun W => in_any b 0 (cells - 1) W
    have hC := fun W => in_any b 0 255 W
    have hD := fun W => in_any a 0 (len - 1) W
    have hE := fun W => in_any a 0 7 W
    skip
    have B3 := Blk.new w 87 #[.int .i64 (1), .int .i64 a, .int .i64 b]
    have hb0 := alo (Below.refl w.heap.size w) (.cells #[.int .i64 (1), .int .i64 a, .int .i64 b] 87)
    have hres : ordOk cells len ((1), a, b) = (inB a 0 (cells - 1) && inB b 0 255) := by simp [ordOk]
    rw [hres]
    clear hres
    generalize inB a 0 (cells - 1) = va at *
    generalize inB b 0 (cells - 1) = vb at *
    generalize inB b 0 255 = vc at *
    generalize inB a 0 (len - 1) = vd at *
    generalize inB a 0 7 = ve at *
    cases va <;> cases vc
    all_goals
      go_enter Tryz.func145, Tryz.ntmps145
      go_wp2_with fail
      have qB3_0 := fun x => (B3.near x).c0; have qB3_1 := fun x => (B3.near x).c1; have qB3_2 := fun x => (B3.near x).c2; refine wp_region_near (by kernel_rfl) (by kernel_rfl) ?_; (repeat (go_big_quiet_step (first | (go_at_call 79; with_reducible exact near_same (hA _)) | (go_at_call 79; with_reducible exact near_same (hB _))))); refine wpQuiet_nil ?_; intro xN; have hbw2 := xN.b; generalize xN.W = w2 at hbw2 ⊢; clear xN; clear qB3_0 qB3_1 qB3_2; replace B3 := B3.below hbw2
      have hb1 := thn hb0 hbw2
      have cB3_0 := B3.c0; have cB3_1 := B3.c1; have cB3_2 := B3.c2; have fB3 := B3.frozen
      go_wp2_with (go_at_call 79; refine (hC _).mono ?_; rintro e w' ⟨rfl, rfl⟩)
      go_ret
      exact ⟨by simp, hb1⟩
  by_cases h2 : op = 2
  · subst h2
    have hA := fun W => in_any a 0 (cells - 1) W
    have hB := fun W => in_any b 0 (cells - 1) W
    have hC := fun W => in_any b 0 255 W
    have hD := fun W => in_any a 0 (len - 1) W
    have hE := fun W => in_any a 0 7 W
    skip
    have B3 := Blk.new w 87 #[.int .i64 (2), .int .i64 a, .int .i64 b]
    have hb0 := alo (Below.refl w.heap.size w) (.cells #[.int .i64 (2), .int .i64 a, .int .i64 b] 87)
    have hres : ordOk cells len ((2), a, b) = (inB a 0 (cells - 1) && inB b 0 (cells - 1)) := by simp [ordOk]
    rw [hres]
    clear hres
    generalize inB a 0 (cells - 1) = va at *
    generalize inB b 0 (cells - 1) = vb at *
    generalize inB b 0 255 = vc at *
    generalize inB a 0 (len - 1) = vd at *
    generalize inB a 0 7 = ve at *
    cases va <;> cases vb
    all_goals
      go_enter Tryz.func145, Tryz.ntmps145
      go_wp2_with fail
      have qB3_0 := fun x => (B3.near x).c0; have qB3_1 := fun x => (B3.near x).c1; have qB3_2 := fun x => (B3.near x).c2; refine wp_region_near (by kernel_rfl) (by kernel_rfl) ?_; (repeat (go_big_quiet_step (first | (go_at_call 79; with_reducible exact near_same (hA _)) | (go_at_call 79; with_reducible exact near_same (hB _))))); refine wpQuiet_nil ?_; intro xN; have hbw2 := xN.b; generalize xN.W = w2 at hbw2 ⊢; clear xN; clear qB3_0 qB3_1 qB3_2; replace B3 := B3.below hbw2
      have hb1 := thn hb0 hbw2
      have cB3_0 := B3.c0; have cB3_1 := B3.c1; have cB3_2 := B3.c2; have fB3 := B3.frozen
      go_wp2_with (go_at_call 79; refine (hC _).mono ?_; rintro e w' ⟨rfl, rfl⟩)
      go_ret
      exact ⟨by simp, hb1⟩
  by_cases h3 : op = 3
  · subst h3
    have hA := fun W => in_any a 0 (cells - 1) W
    have hB := fun W => in_any b 0 (cells - 1) W
    have hC := fun W => in_any b 0 255 W
    have hD := fun W => in_any a 0 (len - 1) W
    have hE := fun W => in_any a 0 7 W
    skip
    have B3 := Blk.new w 87 #[.int .i64 (3), .int .i64 a, .int .i64 b]
    have hb0 := alo (Below.refl w.heap.size w) (.cells #[.int .i64 (3), .int .i64 a, .int .i64 b] 87)
    have hres : ordOk cells len ((3), a, b) = (inB a 0 (cells - 1) && inB b 0 (cells - 1)) := by simp [ordOk]
    rw [hres]
    clear hres
    generalize inB a 0 (cells - 1) = va at *
    generalize inB b 0 (cells - 1) = vb at *
    generalize inB b 0 255 = vc at *
    generalize inB a 0 (len - 1) = vd at *
    generalize inB a 0 7 = ve at *
    cases va <;> cases vb
    all_goals
      go_enter Tryz.func145, Tryz.ntmps145
      go_wp2_with fail
      have qB3_0 := fun x => (B3.near x).c0; have qB3_1 := fun x => (B3.near x).c1; have qB3_2 := fun x => (B3.near x).c2; refine wp_region_near (by kernel_rfl) (by kernel_rfl) ?_; (repeat (go_big_quiet_step (first | (go_at_call 79; with_reducible exact near_same (hA _)) | (go_at_call 79; with_reducible exact near_same (hB _))))); refine wpQuiet_nil ?_; intro xN; have hbw2 := xN.b; generalize xN.W = w2 at hbw2 ⊢; clear xN; clear qB3_0 qB3_1 qB3_2; replace B3 := B3.below hbw2
      have hb1 := thn hb0 hbw2
      have cB3_0 := B3.c0; have cB3_1 := B3.c1; have cB3_2 := B3.c2; have fB3 := B3.frozen
      go_wp2_with (go_at_call 79; refine (hC _).mono ?_; rintro e w' ⟨rfl, rfl⟩)
      go_ret
      exact ⟨by simp, hb1⟩
  by_cases h4 : op = 4
  · subst h4
    have hA := fun W => in_any a 0 (cells - 1) W
    have hB := fun W => in_any b 0 (cells - 1) W
    have hC := fun W => in_any b 0 255 W
    have hD := fun W => in_any a 0 (len - 1) W
    have hE := fun W => in_any a 0 7 W
    skip
    have B3 := Blk.new w 87 #[.int .i64 (4), .int .i64 a, .int .i64 b]
    have hb0 := alo (Below.refl w.heap.size w) (.cells #[.int .i64 (4), .int .i64 a, .int .i64 b] 87)
    have hres : ordOk cells len ((4), a, b) = (inB a 0 (len - 1) && inB b 0 (cells - 1)) := by simp [ordOk]
    rw [hres]
    clear hres
    generalize inB a 0 (cells - 1) = va at *
    generalize inB b 0 (cells - 1) = vb at *
    generalize inB b 0 255 = vc at *
    generalize inB a 0 (len - 1) = vd at *
    generalize inB a 0 7 = ve at *
    cases vd <;> cases vb
    all_goals
      go_enter Tryz.func145, Tryz.ntmps145
      go_wp2_with fail
      have qB3_0 := fun x => (B3.near x).c0; have qB3_1 := fun x => (B3.near x).c1; have qB3_2 := fun x => (B3.near x).c2; refine wp_region_near (by kernel_rfl) (by kernel_rfl) ?_; (repeat (go_big_quiet_step (first | (go_at_call 79; with_reducible exact near_same (hA _)) | (go_at_call 79; with_reducible exact near_same (hB _))))); refine wpQuiet_nil ?_; intro xN; have hbw2 := xN.b; generalize xN.W = w2 at hbw2 ⊢; clear xN; clear qB3_0 qB3_1 qB3_2; replace B3 := B3.below hbw2
      have hb1 := thn hb0 hbw2
      have cB3_0 := B3.c0; have cB3_1 := B3.c1; have cB3_2 := B3.c2; have fB3 := B3.frozen
      go_wp2_with (go_at_call 79; refine (hD _).mono ?_; rintro e w' ⟨rfl, rfl⟩)
      go_ret
      exact ⟨by simp, hb1⟩
  by_cases h5 : op = 5
  · subst h5
    have hA := fun W => in_any a 0 (cells - 1) W
    have hB := fun W => in_any b 0 (cells - 1) W
    have hC := fun W => in_any b 0 255 W
    have hD := fun W => in_any a 0 (len - 1) W
    have hE := fun W => in_any a 0 7 W
    skip
    have B3 := Blk.new w 87 #[.int .i64 (5), .int .i64 a, .int .i64 b]
    have hb0 := alo (Below.refl w.heap.size w) (.cells #[.int .i64 (5), .int .i64 a, .int .i64 b] 87)
    have hres : ordOk cells len ((5), a, b) = (inB a 0 7 && inB b 0 (cells - 1)) := by simp [ordOk]
    rw [hres]
    clear hres
    generalize inB a 0 (cells - 1) = va at *
    generalize inB b 0 (cells - 1) = vb at *
    generalize inB b 0 255 = vc at *
    generalize inB a 0 (len - 1) = vd at *
    generalize inB a 0 7 = ve at *
    cases ve <;> cases vb
    all_goals
      go_enter Tryz.func145, Tryz.ntmps145
      go_wp2_with fail
      have qB3_0 := fun x => (B3.near x).c0; have qB3_1 := fun x => (B3.near x).c1; have qB3_2 := fun x => (B3.near x).c2; refine wp_region_near (by kernel_rfl) (by kernel_rfl) ?_; (repeat (go_big_quiet_step (first | (go_at_call 79; with_reducible exact near_same (hA _)) | (go_at_call 79; with_reducible exact near_same (hB _))))); refine wpQuiet_nil ?_; intro xN; have hbw2 := xN.b; generalize xN.W = w2 at hbw2 ⊢; clear xN; clear qB3_0 qB3_1 qB3_2; replace B3 := B3.below hbw2
      have hb1 := thn hb0 hbw2
      have cB3_0 := B3.c0; have cB3_1 := B3.c1; have cB3_2 := B3.c2; have fB3 := B3.frozen
      go_wp2_with (go_at_call 79; refine (hE _).mono ?_; rintro e w' ⟨rfl, rfl⟩)
      go_ret
      exact ⟨by simp, hb1⟩
  by_cases h6 : op = 6
  · subst h6
    have hA := fun W => in_any a 0 (cells - 1) W
    have hB := fun W => in_any b 0 (cells - 1) W
    have hC := fun W => in_any b 0 255 W
    have hD := fun W => in_any a 0 (len - 1) W
    have hE := fun W => in_any a 0 7 W
    skip
    have B3 := Blk.new w 87 #[.int .i64 (6), .int .i64 a, .int .i64 b]
    have hb0 := alo (Below.refl w.heap.size w) (.cells #[.int .i64 (6), .int .i64 a, .int .i64 b] 87)
    have hres : ordOk cells len ((6), a, b) = (inB a 0 7 && inB b 0 (cells - 1)) := by simp [ordOk]
    rw [hres]
    clear hres
    generalize inB a 0 (cells - 1) = va at *
    generalize inB b 0 (cells - 1) = vb at *
    generalize inB b 0 255 = vc at *
    generalize inB a 0 (len - 1) = vd at *
    generalize inB a 0 7 = ve at *
    cases ve <;> cases vb
    all_goals
      go_enter Tryz.func145, Tryz.ntmps145
      go_wp2_with fail
      have qB3_0 := fun x => (B3.near x).c0; have qB3_1 := fun x => (B3.near x).c1; have qB3_2 := fun x => (B3.near x).c2; refine wp_region_near (by kernel_rfl) (by kernel_rfl) ?_; (repeat (go_big_quiet_step (first | (go_at_call 79; with_reducible exact near_same (hA _)) | (go_at_call 79; with_reducible exact near_same (hB _))))); refine wpQuiet_nil ?_; intro xN; have hbw2 := xN.b; generalize xN.W = w2 at hbw2 ⊢; clear xN; clear qB3_0 qB3_1 qB3_2; replace B3 := B3.below hbw2
      have hb1 := thn hb0 hbw2
      have cB3_0 := B3.c0; have cB3_1 := B3.c1; have cB3_2 := B3.c2; have fB3 := B3.frozen
      go_wp2_with (go_at_call 79; refine (hE _).mono ?_; rintro e w' ⟨rfl, rfl⟩)
      go_ret
      exact ⟨by simp, hb1⟩
  by_cases h7 : op = 7
  · subst h7
    have hA := fun W => in_any a 0 (cells - 1) W
    have hB := fun W => in_any b 0 (cells - 1) W
    have hC := fun W => in_any b 0 255 W
    have hD := fun W => in_any a 0 (len - 1) W
    have hE := fun W => in_any a 0 7 W
    skip
    have B3 := Blk.new w 87 #[.int .i64 (7), .int .i64 a, .int .i64 b]
    have hb0 := alo (Below.refl w.heap.size w) (.cells #[.int .i64 (7), .int .i64 a, .int .i64 b] 87)
    have hres : ordOk cells len ((7), a, b) = (inB a 0 (cells - 1) && b == 0) := by simp [ordOk]
    rw [hres]
    clear hres
    generalize inB a 0 (cells - 1) = va at *
    generalize inB b 0 (cells - 1) = vb at *
    generalize inB b 0 255 = vc at *
    generalize inB a 0 (len - 1) = vd at *
    generalize inB a 0 7 = ve at *
    cases va <;> cases hz : (b == (0 : Int))
    all_goals
      go_enter Tryz.func145, Tryz.ntmps145
      go_wp2_with fail
      have qB3_0 := fun x => (B3.near x).c0; have qB3_1 := fun x => (B3.near x).c1; have qB3_2 := fun x => (B3.near x).c2; refine wp_region_near (by kernel_rfl) (by kernel_rfl) ?_; (repeat (go_big_quiet_step (first | (go_at_call 79; with_reducible exact near_same (hA _)) | (go_at_call 79; with_reducible exact near_same (hB _))))); refine wpQuiet_nil ?_; intro xN; have hbw2 := xN.b; generalize xN.W = w2 at hbw2 ⊢; clear xN; clear qB3_0 qB3_1 qB3_2; replace B3 := B3.below hbw2
      have hb1 := thn hb0 hbw2
      have cB3_0 := B3.c0; have cB3_1 := B3.c1; have cB3_2 := B3.c2; have fB3 := B3.frozen
      go_wp2_with (go_at_call 79; refine (hC _).mono ?_; rintro e w' ⟨rfl, rfl⟩)
      go_ret
      exact ⟨by simp, hb1⟩
  by_cases h0 : op = 0
  · subst h0
    have hA := fun W => in_any a 0 (cells - 1) W
    have hB := fun W => in_any b 0 (cells - 1) W
    have hC := fun W => in_any b 0 255 W
    have hD := fun W => in_any a 0 (len - 1) W
    have hE := fun W => in_any a 0 7 W
    skip
    have B3 := Blk.new w 87 #[.int .i64 (0), .int .i64 a, .int .i64 b]
    have hb0 := alo (Below.refl w.heap.size w) (.cells #[.int .i64 (0), .int .i64 a, .int .i64 b] 87)
    have hres : ordOk cells len ((0), a, b) = (a == 0 && b == 0) := by simp [ordOk]
    rw [hres]
    clear hres
    generalize inB a 0 (cells - 1) = va at *
    generalize inB b 0 (cells - 1) = vb at *
    generalize inB b 0 255 = vc at *
    generalize inB a 0 (len - 1) = vd at *
    generalize inB a 0 7 = ve at *
    cases hy : (a == (0 : Int)) <;> cases hz : (b == (0 : Int))
    all_goals
      go_enter Tryz.func145, Tryz.ntmps145
      go_wp2_with fail
      have qB3_0 := fun x => (B3.near x).c0; have qB3_1 := fun x => (B3.near x).c1; have qB3_2 := fun x => (B3.near x).c2; refine wp_region_near (by kernel_rfl) (by kernel_rfl) ?_; (repeat (go_big_quiet_step (first | (go_at_call 79; with_reducible exact near_same (hA _)) | (go_at_call 79; with_reducible exact near_same (hB _))))); refine wpQuiet_nil ?_; intro xN; have hbw2 := xN.b; generalize xN.W = w2 at hbw2 ⊢; clear xN; clear qB3_0 qB3_1 qB3_2; replace B3 := B3.below hbw2
      have hb1 := thn hb0 hbw2
      have cB3_0 := B3.c0; have cB3_1 := B3.c1; have cB3_2 := B3.c2; have fB3 := B3.frozen
      go_wp2_with (go_at_call 79; refine (hC _).mono ?_; rintro e w' ⟨rfl, rfl⟩)
      go_ret
      exact ⟨by simp, hb1⟩
  by_cases h8 : op = 8
  · subst h8
    have hA := fun W => in_any a 0 (cells - 1) W
    have hB := fun W => in_any b 0 (cells - 1) W
    have hC := fun W => in_any b 0 255 W
    have hD := fun W => in_any a 0 (len - 1) W
    have hE := fun W => in_any a 0 7 W
    skip
    have B3 := Blk.new w 87 #[.int .i64 (8), .int .i64 a, .int .i64 b]
    have hb0 := alo (Below.refl w.heap.size w) (.cells #[.int .i64 (8), .int .i64 a, .int .i64 b] 87)
    have hres : ordOk cells len ((8), a, b) = (a == 0 && b == 0) := by simp [ordOk]
    rw [hres]
    clear hres
    generalize inB a 0 (cells - 1) = va at *
    generalize inB b 0 (cells - 1) = vb at *
    generalize inB b 0 255 = vc at *
    generalize inB a 0 (len - 1) = vd at *
    generalize inB a 0 7 = ve at *
    cases hy : (a == (0 : Int)) <;> cases hz : (b == (0 : Int))
    all_goals
      go_enter Tryz.func145, Tryz.ntmps145
      go_wp2_with fail
      have qB3_0 := fun x => (B3.near x).c0; have qB3_1 := fun x => (B3.near x).c1; have qB3_2 := fun x => (B3.near x).c2; refine wp_region_near (by kernel_rfl) (by kernel_rfl) ?_; (repeat (go_big_quiet_step (first | (go_at_call 79; with_reducible exact near_same (hA _)) | (go_at_call 79; with_reducible exact near_same (hB _))))); refine wpQuiet_nil ?_; intro xN; have hbw2 := xN.b; generalize xN.W = w2 at hbw2 ⊢; clear xN; clear qB3_0 qB3_1 qB3_2; replace B3 := B3.below hbw2
      have hb1 := thn hb0 hbw2
      have cB3_0 := B3.c0; have cB3_1 := B3.c1; have cB3_2 := B3.c2; have fB3 := B3.frozen
      go_wp2_with (go_at_call 79; refine (hC _).mono ?_; rintro e w' ⟨rfl, rfl⟩)
      go_ret
      exact ⟨by simp, hb1⟩
  have hA := fun W => in_any a 0 (cells - 1) W
  have hB := fun W => in_any b 0 (cells - 1) W
  have hC := fun W => in_any b 0 255 W
  have hD := fun W => in_any a 0 (len - 1) W
  have hE := fun W => in_any a 0 7 W
  skip
  have B3 := Blk.new w 87 #[.int .i64 (op), .int .i64 a, .int .i64 b]
  have hb0 := alo (Below.refl w.heap.size w) (.cells #[.int .i64 (op), .int .i64 a, .int .i64 b] 87)
  have hres : ordOk cells len ((op), a, b) = (false) := by simp [ordOk, h0, h1, h2, h3, h4, h5, h6, h7, h8]
  rw [hres]
  clear hres
  generalize inB a 0 (cells - 1) = va at *
  generalize inB b 0 (cells - 1) = vb at *
  generalize inB b 0 255 = vc at *
  generalize inB a 0 (len - 1) = vd at *
  generalize inB a 0 7 = ve at *
  have g0 : (op == (0 : Int)) = false := by rw [beq_eq_false_iff_ne]; exact h0
  have g1 : (op == (1 : Int)) = false := by rw [beq_eq_false_iff_ne]; exact h1
  have g2 : (op == (2 : Int)) = false := by rw [beq_eq_false_iff_ne]; exact h2
  have g3 : (op == (3 : Int)) = false := by rw [beq_eq_false_iff_ne]; exact h3
  have g4 : (op == (4 : Int)) = false := by rw [beq_eq_false_iff_ne]; exact h4
  have g5 : (op == (5 : Int)) = false := by rw [beq_eq_false_iff_ne]; exact h5
  have g6 : (op == (6 : Int)) = false := by rw [beq_eq_false_iff_ne]; exact h6
  have g7 : (op == (7 : Int)) = false := by rw [beq_eq_false_iff_ne]; exact h7
  have g8 : (op == (8 : Int)) = false := by rw [beq_eq_false_iff_ne]; exact h8
  clear h0 h1 h2 h3 h4 h5 h6 h7 h8
  go_enter Tryz.func145, Tryz.ntmps145
  go_wp2_with fail
  have qB3_0 := fun x => (B3.near x).c0; have qB3_1 := fun x => (B3.near x).c1; have qB3_2 := fun x => (B3.near x).c2; refine wp_region_near (by kernel_rfl) (by kernel_rfl) ?_; (repeat (go_big_quiet_step (first | (go_at_call 79; with_reducible exact near_same (hA _)) | (go_at_call 79; with_reducible exact near_same (hB _))))); refine wpQuiet_nil ?_; intro xN; have hbw2 := xN.b; generalize xN.W = w2 at hbw2 ⊢; clear xN; clear qB3_0 qB3_1 qB3_2; replace B3 := B3.below hbw2
  have hb1 := thn hb0 hbw2
  have cB3_0 := B3.c0; have cB3_1 := B3.c1; have cB3_2 := B3.c2; have fB3 := B3.frozen
  go_wp2_with (go_at_call 79; refine (hC _).mono ?_; rintro e w' ⟨rfl, rfl⟩)
  go_ret
  exact ⟨by simp, hb1⟩
theorem progBad_any (x : Int × Int × Int) (cells : Int) (A : Option Addr) (n c : Nat) (hc : -1000 ≤ cells ∧ cells ≤ 1000) (hn : n ≤ 9223372036854775807) (q q' : Nat) (w : World) (h1 : w.cell? ⟨q, 0, none⟩ = some (.int .i64 cells)) (h2 : w.cell? ⟨q', 0, none⟩ = some (.slice A n c)) (hq : q < w.heap.size) (hq' : q' < w.heap.size) :
    Calls Tryz.prog 144 #[.agg (eO x).toArray, .pointer (some ⟨q, 0, none⟩), .pointer (some ⟨q', 0, none⟩)] w fun e w' => .returned (.bool (!ordOk cells n x)) = e ∧ Below w.heap.size w w' := by
  obtain ⟨op, a, b⟩ := x
  have hv := fun W => ordValid_any op a b cells n hc (by omega) W
  have hb0 := alo (Below.refl w.heap.size w) (.cells #[.int .i64 op, .int .i64 a, .int .i64 b] 87)
  have q0 := (hb0.cell (p := ⟨q, 0, none⟩) hq).trans h1
  have q1 := (hb0.cell (p := ⟨q', 0, none⟩) hq').trans h2
  have B3 := Blk.new w 87 #[.int .i64 op, .int .i64 a, .int .i64 b]
  skip
  skip
  have cB3_0 := B3.c0; have cB3_1 := B3.c1; have cB3_2 := B3.c2; have fB3 := B3.frozen
  generalize ordOk cells n (op, a, b) = v at *
  simp only [eO]
  go_enter Tryz.func144, Tryz.ntmps144
  go_wp2_with fail
  refine (hv _).mono ?_
  rintro e w1 ⟨rfl, hb1⟩
  go_wp2
  go_ret
  exact ⟨rfl, thn hb0 hb1⟩
theorem enters_prog (args : Array Value) (w : World) : (callFunc 144 args).run Tryz.prog w = .ok (.enter 144 args) w := enters_of Tryz.func144 (by kernel_rfl) rfl args w
set_option maxHeartbeats 1000000 in
theorem progValid_any (A : Option Addr) (n c : Nat) (xs : List (Int × Int × Int)) (cells : Int) (w : World) (hs : Sl w 3 eO A n c xs) :
    Calls Tryz.prog 125 #[.slice A n c, .int .i64 cells] w fun e w' => .returned (.bool (progOk xs cells)) = e ∧ Below w.heap.size w w' := by
  have hl := hs.len
  have hle := hs.le
  have hmax := hs.max
  unfold progOk
  rw [hl]
  have hc1 := fun W => in_any n 1 20 W
  have hc2 := fun W => in_any cells 1 8 W
  have hp := @inB_true cells 1 8
  have hB1 := alo (alo (Below.refl w.heap.size w) (.cells #[.slice A n c] 76)) (.cells #[.int .i64 cells] 3)
  have B2 := (Blk.new w 76 #[.slice A n c]).alloc (.cells #[.int .i64 cells] 3)
  have B3 := Blk.new2 w (.cells #[.slice A n c] 76) 3 #[.int .i64 cells]
  skip
  skip
  have cB2_0 := B2.c0; have fB2 := B2.frozen; have cB3_0 := B3.c0; have fB3 := B3.frozen
  generalize inB cells 1 8 = v2 at *
  generalize inB (n : Int) 1 20 = v1 at *
  clear hl
  cases v1
  · clear hs hp
    go_enter Tryz.func125, Tryz.ntmps125
    go_wp2_with fail; refine (hc1 _).mono ?_; rintro e w' ⟨rfl, rfl⟩
    go_wp2
    go_ret
    exact ⟨rfl, hB1⟩
  · cases v2
    · clear hs hp
      go_enter Tryz.func125, Tryz.ntmps125
      go_wp2_with fail; refine (hc1 _).mono ?_; rintro e w' ⟨rfl, rfl⟩
      go_wp2_with fail; refine (hc2 _).mono ?_; rintro e w' ⟨rfl, rfl⟩
      go_wp2
      go_ret
      exact ⟨rfl, hB1⟩
    · have hp' := hp.1 rfl
      clear hp
      have hidx : Calls Tryz.prog 143 #[.slice A n c, .func (.func 144) #[] #[.pointer (some ⟨w.heap.size + 1, 0, none⟩), .pointer (some ⟨w.heap.size, 0, none⟩)]] ((w.alloc (.cells #[.slice A n c] 76)).alloc (.cells #[.int .i64 cells] 3)) fun e w' => .returned (.bool (xs.any fun x => !ordOk cells n x)) = e ∧ Below ((w.alloc (.cells #[.slice A n c] 76)).alloc (.cells #[.int .i64 cells] 3)).heap.size ((w.alloc (.cells #[.slice A n c] 76)).alloc (.cells #[.int .i64 cells] 3)) w' := by
        refine containsOrd (fun x => !ordOk cells n x) _ _ enters_prog A n c xs _ (fun _ => True) (fun _ _ => trivial) ?_ (hs.below hB1)
        intro V x _ hV
        have z2 := B2.below hV
        have z3 := B3.below hV
        exact progBad_any x cells A n c (by omega) (by omega) (w.heap.size + 1) w.heap.size V z3.c0 z2.c0 z3.lt z2.lt
      rw [any_notO] at hidx
      generalize xs.all (ordOk cells n) = v at hidx ⊢
      clear hs hp'
      have hmf : ∀ (fn : Fn) (first cap : Array Value) (w : World), (Instr.makeFunc fn first cap).run Tryz.prog w = .ok (.func fn first cap) w := fun _ _ _ _ => rfl
      go_enter Tryz.func125, Tryz.ntmps125
      go_wp2_with fail; refine (hc1 _).mono ?_; rintro e w' ⟨rfl, rfl⟩
      go_wp2_with fail; refine (hc2 _).mono ?_; rintro e w' ⟨rfl, rfl⟩
      go_wp2_with fail
      refine hidx.mono ?_
      rintro e w2 ⟨rfl, hb2⟩
      go_wp2
      go_ret
      exact ⟨by cases v <;> rfl, thn hB1 hb2⟩
set_option maxRecDepth 100000 in
set_option maxHeartbeats 8000000 in
theorem specProgValid_any (A : Option Addr) (n c : Nat) (xs : List (Int × Int × Int)) (cells : Int) (hc : -1000 ≤ cells ∧ cells ≤ 1000) (w : World) (hs : Sl w 3 eO A n c xs) :
    Calls Tryz.prog 107 #[.slice A n c, .int .i64 cells] w fun e w' => .returned (.bool (progOk xs cells)) = e ∧ Below w.heap.size w w' := by
  have hl := hs.len
  have hle := hs.le
  have hmax := hs.max
  obtain ⟨hc0, hc1⟩ := hc
  have hP := Lib.hid (show progOk xs cells = (inB n 1 20 && (inB cells 1 8 && xs.all (ordOk cells n))) by unfold progOk; rw [hl])
  have hbad := Lib.hid (show (∃ y, (∃ kk : Nat, xs[kk]? = some y) ∧ ordOk cells n y = false) → progOk xs cells = false from fun ⟨y, ⟨kk, h1⟩, h2⟩ => by rw [hP.out, all_fails h1 h2, Bool.and_false, Bool.and_false])
  have HL := Lib.hid hl
  clear hl
  go_enter Tryz.func107, Tryz.ntmps107
  go_wp2
  go_loopg [5] n (fun gg s5 wr => ∃ kk : Nat, kk ≤ n ∧ n - kk ≤ gg ∧ s5 = .int .i64 kk ∧ Aside (Below w.heap.size w wr) ∧ Aside (∀ j y, j < kk → xs[j]? = some y → ordOk cells n y = true))
  case atStart => exact ⟨0, Nat.zero_le _, by omega, rfl, (show Aside _ from Below.refl _ _), (show Aside _ from fun j _ hj => absurd hj (Nat.not_lt_zero _))⟩
  case round =>
    obtain ⟨kk, hkk, hg, rfl, BW, AA⟩ := hrel
    by_cases hlt : kk < n
    · have hltz : (kk : Int) < (n : Int) := by omega
      obtain ⟨bb, oo, rfl, y, hx, hc⟩ := hs.nth hlt BW.out
      have q0 := hc 0 _ rfl
      have q1 := hc 1 _ rfl
      have q2 := hc 2 _ rfl
      clear hc
      obtain ⟨op, a, b⟩ := y
      simp only [eO, Nat.add_zero] at q0 q1 q2
      have HX := Lib.hid hx
      replace hbad := Lib.hid (show ordOk cells n (op, a, b) = false → progOk xs cells = false from fun h9 => hbad.out ⟨_, ⟨kk, hx⟩, h9⟩)
      clear hx
      have hA := fun W => l1In_any a 0 (cells - 1) W
      have hB := fun W => l1In_any b 0 (cells - 1) W
      have hC := fun W => l1In_any b 0 255 W
      have hD := fun W => l1In_any a 0 ((n : Int) - 1) W
      have hE := fun W => l1In_any a 0 7 W
      have hb0 := alo BW.out (.cells #[.int .i64 op, .int .i64 a, .int .i64 b] 87)
      have B6 := Blk.new wr 87 #[.int .i64 op, .int .i64 a, .int .i64 b]
      skip
      skip
      have cB6_0 := B6.c0; have cB6_1 := B6.c1; have cB6_2 := B6.c2; have fB6 := B6.frozen
      by_cases h1 : op = 1
      · subst h1
        have hres := Lib.hid (show ordOk cells n ((1), a, b) = (inB a 0 (cells - 1) && inB b 0 255) by simp [ordOk])
        generalize inB a 0 (cells - 1) = va at *
        generalize inB b 0 (cells - 1) = vb at *
        generalize inB b 0 255 = vc at *
        generalize inB a 0 ((n : Int) - 1) = vd at *
        generalize inB a 0 7 = ve at *
        cases va
        · cases vc
          · go_wp2_with fail; refine (hA _).mono ?_; rintro e w' ⟨rfl, rfl⟩
            go_wp2_with fail; refine (hB _).mono ?_; rintro e w' ⟨rfl, rfl⟩
            go_wp2_with (go_at_call 30; refine (hC _).mono ?_; rintro e w' ⟨rfl, rfl⟩)
            go_ret
            exact ⟨by rw [hbad.out (by rw [hres.out] <;> first | rfl | (rw [hy, hz]; rfl) | (rw [hz]; rfl) | (rw [hy]; rfl))]; rfl, hb0⟩
          · go_wp2_with fail; refine (hA _).mono ?_; rintro e w' ⟨rfl, rfl⟩
            go_wp2_with fail; refine (hB _).mono ?_; rintro e w' ⟨rfl, rfl⟩
            go_wp2_with (go_at_call 30; refine (hC _).mono ?_; rintro e w' ⟨rfl, rfl⟩)
            go_ret
            exact ⟨by rw [hbad.out (by rw [hres.out] <;> first | rfl | (rw [hy, hz]; rfl) | (rw [hz]; rfl) | (rw [hy]; rfl))]; rfl, hb0⟩
        · cases vc
          · go_wp2_with fail; refine (hA _).mono ?_; rintro e w' ⟨rfl, rfl⟩
            go_wp2_with fail; refine (hB _).mono ?_; rintro e w' ⟨rfl, rfl⟩
            go_wp2_with (go_at_call 30; refine (hC _).mono ?_; rintro e w' ⟨rfl, rfl⟩)
            go_ret
            exact ⟨by rw [hbad.out (by rw [hres.out] <;> first | rfl | (rw [hy, hz]; rfl) | (rw [hz]; rfl) | (rw [hy]; rfl))]; rfl, hb0⟩
          · go_wp2_with fail; refine (hA _).mono ?_; rintro e w' ⟨rfl, rfl⟩
            go_wp2_with fail; refine (hB _).mono ?_; rintro e w' ⟨rfl, rfl⟩
            go_wp2_with (go_at_call 30; refine (hC _).mono ?_; rintro e w' ⟨rfl, rfl⟩)
            go_roundg (n - (kk + 1))
            case measure => omega
            case rel => exact ⟨kk + 1, by omega, by omega, by go_num, (show Aside _ from hb0), (show Aside _ from all_step AA.out HX.out (by rw [hres.out] <;> first | rfl | (rw [hy, hz]; rfl) | (rw [hz]; rfl) | (rw [hy]; rfl)))⟩
      by_cases h2 : op = 2
      · subst h2
        have hres := Lib.hid (show ordOk cells n ((2), a, b) = (inB a 0 (cells - 1) && inB b 0 (cells - 1)) by simp [ordOk])
        generalize inB a 0 (cells - 1) = va at *
        generalize inB b 0 (cells - 1) = vb at *
        generalize inB b 0 255 = vc at *
        generalize inB a 0 ((n : Int) - 1) = vd at *
        generalize inB a 0 7 = ve at *
        cases va
        · cases vb
          · go_wp2_with fail; refine (hA _).mono ?_; rintro e w' ⟨rfl, rfl⟩
            go_wp2_with fail; refine (hB _).mono ?_; rintro e w' ⟨rfl, rfl⟩
            go_wp2_with (fail)
            go_ret
            exact ⟨by rw [hbad.out (by rw [hres.out] <;> first | rfl | (rw [hy, hz]; rfl) | (rw [hz]; rfl) | (rw [hy]; rfl))]; rfl, hb0⟩
          · go_wp2_with fail; refine (hA _).mono ?_; rintro e w' ⟨rfl, rfl⟩
            go_wp2_with fail; refine (hB _).mono ?_; rintro e w' ⟨rfl, rfl⟩
            go_wp2_with (fail)
            go_ret
            exact ⟨by rw [hbad.out (by rw [hres.out] <;> first | rfl | (rw [hy, hz]; rfl) | (rw [hz]; rfl) | (rw [hy]; rfl))]; rfl, hb0⟩
        · cases vb
          · go_wp2_with fail; refine (hA _).mono ?_; rintro e w' ⟨rfl, rfl⟩
            go_wp2_with fail; refine (hB _).mono ?_; rintro e w' ⟨rfl, rfl⟩
            go_wp2_with (fail)
            go_ret
            exact ⟨by rw [hbad.out (by rw [hres.out] <;> first | rfl | (rw [hy, hz]; rfl) | (rw [hz]; rfl) | (rw [hy]; rfl))]; rfl, hb0⟩
          · go_wp2_with fail; refine (hA _).mono ?_; rintro e w' ⟨rfl, rfl⟩
            go_wp2_with fail; refine (hB _).mono ?_; rintro e w' ⟨rfl, rfl⟩
            go_wp2_with (fail)
            go_roundg (n - (kk + 1))
            case measure => omega
            case rel => exact ⟨kk + 1, by omega, by omega, by go_num, (show Aside _ from hb0), (show Aside _ from all_step AA.out HX.out (by rw [hres.out] <;> first | rfl | (rw [hy, hz]; rfl) | (rw [hz]; rfl) | (rw [hy]; rfl)))⟩
      by_cases h3 : op = 3
      · subst h3
        have hres := Lib.hid (show ordOk cells n ((3), a, b) = (inB a 0 (cells - 1) && inB b 0 (cells - 1)) by simp [ordOk])
        generalize inB a 0 (cells - 1) = va at *
        generalize inB b 0 (cells - 1) = vb at *
        generalize inB b 0 255 = vc at *
        generalize inB a 0 ((n : Int) - 1) = vd at *
        generalize inB a 0 7 = ve at *
        cases va
        · cases vb
          · go_wp2_with fail; refine (hA _).mono ?_; rintro e w' ⟨rfl, rfl⟩
            go_wp2_with fail; refine (hB _).mono ?_; rintro e w' ⟨rfl, rfl⟩
            go_wp2_with (fail)
            go_ret
            exact ⟨by rw [hbad.out (by rw [hres.out] <;> first | rfl | (rw [hy, hz]; rfl) | (rw [hz]; rfl) | (rw [hy]; rfl))]; rfl, hb0⟩
          · go_wp2_with fail; refine (hA _).mono ?_; rintro e w' ⟨rfl, rfl⟩
            go_wp2_with fail; refine (hB _).mono ?_; rintro e w' ⟨rfl, rfl⟩
            go_wp2_with (fail)
            go_ret
            exact ⟨by rw [hbad.out (by rw [hres.out] <;> first | rfl | (rw [hy, hz]; rfl) | (rw [hz]; rfl) | (rw [hy]; rfl))]; rfl, hb0⟩
        · cases vb
          · go_wp2_with fail; refine (hA _).mono ?_; rintro e w' ⟨rfl, rfl⟩
            go_wp2_with fail; refine (hB _).mono ?_; rintro e w' ⟨rfl, rfl⟩
            go_wp2_with (fail)
            go_ret
            exact ⟨by rw [hbad.out (by rw [hres.out] <;> first | rfl | (rw [hy, hz]; rfl) | (rw [hz]; rfl) | (rw [hy]; rfl))]; rfl, hb0⟩
          · go_wp2_with fail; refine (hA _).mono ?_; rintro e w' ⟨rfl, rfl⟩
            go_wp2_with fail; refine (hB _).mono ?_; rintro e w' ⟨rfl, rfl⟩
            go_wp2_with (fail)
            go_roundg (n - (kk + 1))
            case measure => omega
            case rel => exact ⟨kk + 1, by omega, by omega, by go_num, (show Aside _ from hb0), (show Aside _ from all_step AA.out HX.out (by rw [hres.out] <;> first | rfl | (rw [hy, hz]; rfl) | (rw [hz]; rfl) | (rw [hy]; rfl)))⟩
      by_cases h4 : op = 4
      · subst h4
        have hres := Lib.hid (show ordOk cells n ((4), a, b) = (inB a 0 ((n : Int) - 1) && inB b 0 (cells - 1)) by simp [ordOk])
        generalize inB a 0 (cells - 1) = va at *
        generalize inB b 0 (cells - 1) = vb at *
        generalize inB b 0 255 = vc at *
        generalize inB a 0 ((n : Int) - 1) = vd at *
        generalize inB a 0 7 = ve at *
        cases vd
        · cases vb
          · go_wp2_with fail; refine (hA _).mono ?_; rintro e w' ⟨rfl, rfl⟩
            go_wp2_with fail; refine (hB _).mono ?_; rintro e w' ⟨rfl, rfl⟩
            go_wp2_with (go_at_call 30; refine (hD _).mono ?_; rintro e w' ⟨rfl, rfl⟩)
            go_ret
            exact ⟨by rw [hbad.out (by rw [hres.out] <;> first | rfl | (rw [hy, hz]; rfl) | (rw [hz]; rfl) | (rw [hy]; rfl))]; rfl, hb0⟩
          · go_wp2_with fail; refine (hA _).mono ?_; rintro e w' ⟨rfl, rfl⟩
            go_wp2_with fail; refine (hB _).mono ?_; rintro e w' ⟨rfl, rfl⟩
            go_wp2_with (go_at_call 30; refine (hD _).mono ?_; rintro e w' ⟨rfl, rfl⟩)
            go_ret
            exact ⟨by rw [hbad.out (by rw [hres.out] <;> first | rfl | (rw [hy, hz]; rfl) | (rw [hz]; rfl) | (rw [hy]; rfl))]; rfl, hb0⟩
        · cases vb
          · go_wp2_with fail; refine (hA _).mono ?_; rintro e w' ⟨rfl, rfl⟩
            go_wp2_with fail; refine (hB _).mono ?_; rintro e w' ⟨rfl, rfl⟩
            go_wp2_with (go_at_call 30; refine (hD _).mono ?_; rintro e w' ⟨rfl, rfl⟩)
            go_ret
            exact ⟨by rw [hbad.out (by rw [hres.out] <;> first | rfl | (rw [hy, hz]; rfl) | (rw [hz]; rfl) | (rw [hy]; rfl))]; rfl, hb0⟩
          · go_wp2_with fail; refine (hA _).mono ?_; rintro e w' ⟨rfl, rfl⟩
            go_wp2_with fail; refine (hB _).mono ?_; rintro e w' ⟨rfl, rfl⟩
            go_wp2_with (go_at_call 30; refine (hD _).mono ?_; rintro e w' ⟨rfl, rfl⟩)
            go_roundg (n - (kk + 1))
            case measure => omega
            case rel => exact ⟨kk + 1, by omega, by omega, by go_num, (show Aside _ from hb0), (show Aside _ from all_step AA.out HX.out (by rw [hres.out] <;> first | rfl | (rw [hy, hz]; rfl) | (rw [hz]; rfl) | (rw [hy]; rfl)))⟩
      by_cases h5 : op = 5
      · subst h5
        have hres := Lib.hid (show ordOk cells n ((5), a, b) = (inB a 0 7 && inB b 0 (cells - 1)) by simp [ordOk])
        generalize inB a 0 (cells - 1) = va at *
        generalize inB b 0 (cells - 1) = vb at *
        generalize inB b 0 255 = vc at *
        generalize inB a 0 ((n : Int) - 1) = vd at *
        generalize inB a 0 7 = ve at *
        cases ve
        · cases vb
          · go_wp2_with fail; refine (hA _).mono ?_; rintro e w' ⟨rfl, rfl⟩
            go_wp2_with fail; refine (hB _).mono ?_; rintro e w' ⟨rfl, rfl⟩
            go_wp2_with (go_at_call 30; refine (hE _).mono ?_; rintro e w' ⟨rfl, rfl⟩)
            go_ret
            exact ⟨by rw [hbad.out (by rw [hres.out] <;> first | rfl | (rw [hy, hz]; rfl) | (rw [hz]; rfl) | (rw [hy]; rfl))]; rfl, hb0⟩
          · go_wp2_with fail; refine (hA _).mono ?_; rintro e w' ⟨rfl, rfl⟩
            go_wp2_with fail; refine (hB _).mono ?_; rintro e w' ⟨rfl, rfl⟩
            go_wp2_with (go_at_call 30; refine (hE _).mono ?_; rintro e w' ⟨rfl, rfl⟩)
            go_ret
            exact ⟨by rw [hbad.out (by rw [hres.out] <;> first | rfl | (rw [hy, hz]; rfl) | (rw [hz]; rfl) | (rw [hy]; rfl))]; rfl, hb0⟩
        · cases vb
          · go_wp2_with fail; refine (hA _).mono ?_; rintro e w' ⟨rfl, rfl⟩
            go_wp2_with fail; refine (hB _).mono ?_; rintro e w' ⟨rfl, rfl⟩
            go_wp2_with (go_at_call 30; refine (hE _).mono ?_; rintro e w' ⟨rfl, rfl⟩)
            go_ret
            exact ⟨by rw [hbad.out (by rw [hres.out] <;> first | rfl | (rw [hy, hz]; rfl) | (rw [hz]; rfl) | (rw [hy]; rfl))]; rfl, hb0⟩
          · go_wp2_with fail; refine (hA _).mono ?_; rintro e w' ⟨rfl, rfl⟩
            go_wp2_with fail; refine (hB _).mono ?_; rintro e w' ⟨rfl, rfl⟩
            go_wp2_with (go_at_call 30; refine (hE _).mono ?_; rintro e w' ⟨rfl, rfl⟩)
            go_roundg (n - (kk + 1))
            case measure => omega
            case rel => exact ⟨kk + 1, by omega, by omega, by go_num, (show Aside _ from hb0), (show Aside _ from all_step AA.out HX.out (by rw [hres.out] <;> first | rfl | (rw [hy, hz]; rfl) | (rw [hz]; rfl) | (rw [hy]; rfl)))⟩
      by_cases h6 : op = 6
      · subst h6
        have hres := Lib.hid (show ordOk cells n ((6), a, b) = (inB a 0 7 && inB b 0 (cells - 1)) by simp [ordOk])
        generalize inB a 0 (cells - 1) = va at *
        generalize inB b 0 (cells - 1) = vb at *
        generalize inB b 0 255 = vc at *
        generalize inB a 0 ((n : Int) - 1) = vd at *
        generalize inB a 0 7 = ve at *
        cases ve
        · cases vb
          · go_wp2_with fail; refine (hA _).mono ?_; rintro e w' ⟨rfl, rfl⟩
            go_wp2_with fail; refine (hB _).mono ?_; rintro e w' ⟨rfl, rfl⟩
            go_wp2_with (go_at_call 30; refine (hE _).mono ?_; rintro e w' ⟨rfl, rfl⟩)
            go_ret
            exact ⟨by rw [hbad.out (by rw [hres.out] <;> first | rfl | (rw [hy, hz]; rfl) | (rw [hz]; rfl) | (rw [hy]; rfl))]; rfl, hb0⟩
          · go_wp2_with fail; refine (hA _).mono ?_; rintro e w' ⟨rfl, rfl⟩
            go_wp2_with fail; refine (hB _).mono ?_; rintro e w' ⟨rfl, rfl⟩
            go_wp2_with (go_at_call 30; refine (hE _).mono ?_; rintro e w' ⟨rfl, rfl⟩)
            go_ret
            exact ⟨by rw [hbad.out (by rw [hres.out] <;> first | rfl | (rw [hy, hz]; rfl) | (rw [hz]; rfl) | (rw [hy]; rfl))]; rfl, hb0⟩
        · cases vb
          · go_wp2_with fail; refine (hA _).mono ?_; rintro e w' ⟨rfl, rfl⟩
            go_wp2_with fail; refine (hB _).mono ?_; rintro e w' ⟨rfl, rfl⟩
            go_wp2_with (go_at_call 30; refine (hE _).mono ?_; rintro e w' ⟨rfl, rfl⟩)
            go_ret
            exact ⟨by rw [hbad.out (by rw [hres.out] <;> first | rfl | (rw [hy, hz]; rfl) | (rw [hz]; rfl) | (rw [hy]; rfl))]; rfl, hb0⟩
          · go_wp2_with fail; refine (hA _).mono ?_; rintro e w' ⟨rfl, rfl⟩
            go_wp2_with fail; refine (hB _).mono ?_; rintro e w' ⟨rfl, rfl⟩
            go_wp2_with (go_at_call 30; refine (hE _).mono ?_; rintro e w' ⟨rfl, rfl⟩)
            go_roundg (n - (kk + 1))
            case measure => omega
            case rel => exact ⟨kk + 1, by omega, by omega, by go_num, (show Aside _ from hb0), (show Aside _ from all_step AA.out HX.out (by rw [hres.out] <;> first | rfl | (rw [hy, hz]; rfl) | (rw [hz]; rfl) | (rw [hy]; rfl)))⟩
      by_cases h7 : op = 7
      · subst h7
        have hres := Lib.hid (show ordOk cells n ((7), a, b) = (inB a 0 (cells - 1) && b == 0) by simp [ordOk])
        generalize inB a 0 (cells - 1) = va at *
        generalize inB b 0 (cells - 1) = vb at *
        generalize inB b 0 255 = vc at *
        generalize inB a 0 ((n : Int) - 1) = vd at *
        generalize inB a 0 7 = ve at *
        cases va
        · cases hz : (b == (0 : Int))
          · go_wp2_with fail; refine (hA _).mono ?_; rintro e w' ⟨rfl, rfl⟩
            go_wp2_with fail; refine (hB _).mono ?_; rintro e w' ⟨rfl, rfl⟩
            go_wp2_with (fail)
            go_ret
            exact ⟨by rw [hbad.out (by rw [hres.out] <;> first | rfl | (rw [hy, hz]; rfl) | (rw [hz]; rfl) | (rw [hy]; rfl))]; rfl, hb0⟩
          · go_wp2_with fail; refine (hA _).mono ?_; rintro e w' ⟨rfl, rfl⟩
            go_wp2_with fail; refine (hB _).mono ?_; rintro e w' ⟨rfl, rfl⟩
            go_wp2_with (fail)
            go_ret
            exact ⟨by rw [hbad.out (by rw [hres.out] <;> first | rfl | (rw [hy, hz]; rfl) | (rw [hz]; rfl) | (rw [hy]; rfl))]; rfl, hb0⟩
        · cases hz : (b == (0 : Int))
          · go_wp2_with fail; refine (hA _).mono ?_; rintro e w' ⟨rfl, rfl⟩
            go_wp2_with fail; refine (hB _).mono ?_; rintro e w' ⟨rfl, rfl⟩
            go_wp2_with (fail)
            go_ret
            exact ⟨by rw [hbad.out (by rw [hres.out] <;> first | rfl | (rw [hy, hz]; rfl) | (rw [hz]; rfl) | (rw [hy]; rfl))]; rfl, hb0⟩
          · go_wp2_with fail; refine (hA _).mono ?_; rintro e w' ⟨rfl, rfl⟩
            go_wp2_with fail; refine (hB _).mono ?_; rintro e w' ⟨rfl, rfl⟩
            go_wp2_with (fail)
            go_roundg (n - (kk + 1))
            case measure => omega
            case rel => exact ⟨kk + 1, by omega, by omega, by go_num, (show Aside _ from hb0), (show Aside _ from all_step AA.out HX.out (by rw [hres.out] <;> first | rfl | (rw [hy, hz]; rfl) | (rw [hz]; rfl) | (rw [hy]; rfl)))⟩
      by_cases h0 : op = 0
      · subst h0
        have hres := Lib.hid (show ordOk cells n ((0), a, b) = (a == 0 && b == 0) by simp [ordOk])
        generalize inB a 0 (cells - 1) = va at *
        generalize inB b 0 (cells - 1) = vb at *
        generalize inB b 0 255 = vc at *
        generalize inB a 0 ((n : Int) - 1) = vd at *
        generalize inB a 0 7 = ve at *
        cases hy : (a == (0 : Int))
        · cases hz : (b == (0 : Int))
          · go_wp2_with fail; refine (hA _).mono ?_; rintro e w' ⟨rfl, rfl⟩
            go_wp2_with fail; refine (hB _).mono ?_; rintro e w' ⟨rfl, rfl⟩
            go_wp2_with (fail)
            go_ret
            exact ⟨by rw [hbad.out (by rw [hres.out] <;> first | rfl | (rw [hy, hz]; rfl) | (rw [hz]; rfl) | (rw [hy]; rfl))]; rfl, hb0⟩
          · go_wp2_with fail; refine (hA _).mono ?_; rintro e w' ⟨rfl, rfl⟩
            go_wp2_with fail; refine (hB _).mono ?_; rintro e w' ⟨rfl, rfl⟩
            go_wp2_with (fail)
            go_ret
            exact ⟨by rw [hbad.out (by rw [hres.out] <;> first | rfl | (rw [hy, hz]; rfl) | (rw [hz]; rfl) | (rw [hy]; rfl))]; rfl, hb0⟩
        · cases hz : (b == (0 : Int))
          · go_wp2_with fail; refine (hA _).mono ?_; rintro e w' ⟨rfl, rfl⟩
            go_wp2_with fail; refine (hB _).mono ?_; rintro e w' ⟨rfl, rfl⟩
            go_wp2_with (fail)
            go_ret
            exact ⟨by rw [hbad.out (by rw [hres.out] <;> first | rfl | (rw [hy, hz]; rfl) | (rw [hz]; rfl) | (rw [hy]; rfl))]; rfl, hb0⟩
          · go_wp2_with fail; refine (hA _).mono ?_; rintro e w' ⟨rfl, rfl⟩
            go_wp2_with fail; refine (hB _).mono ?_; rintro e w' ⟨rfl, rfl⟩
            go_wp2_with (fail)
            go_roundg (n - (kk + 1))
            case measure => omega
            case rel => exact ⟨kk + 1, by omega, by omega, by go_num, (show Aside _ from hb0), (show Aside _ from all_step AA.out HX.out (by rw [hres.out] <;> first | rfl | (rw [hy, hz]; rfl) | (rw [hz]; rfl) | (rw [hy]; rfl)))⟩
      by_cases h8 : op = 8
      · subst h8
        have hres := Lib.hid (show ordOk cells n ((8), a, b) = (a == 0 && b == 0) by simp [ordOk])
        generalize inB a 0 (cells - 1) = va at *
        generalize inB b 0 (cells - 1) = vb at *
        generalize inB b 0 255 = vc at *
        generalize inB a 0 ((n : Int) - 1) = vd at *
        generalize inB a 0 7 = ve at *
        cases hy : (a == (0 : Int))
        · cases hz : (b == (0 : Int))
          · go_wp2_with fail; refine (hA _).mono ?_; rintro e w' ⟨rfl, rfl⟩
            go_wp2_with fail; refine (hB _).mono ?_; rintro e w' ⟨rfl, rfl⟩
            go_wp2_with (fail)
            go_ret
            exact ⟨by rw [hbad.out (by rw [hres.out] <;> first | rfl | (rw [hy, hz]; rfl) | (rw [hz]; rfl) | (rw [hy]; rfl))]; rfl, hb0⟩
          · go_wp2_with fail; refine (hA _).mono ?_; rintro e w' ⟨rfl, rfl⟩
            go_wp2_with fail; refine (hB _).mono ?_; rintro e w' ⟨rfl, rfl⟩
            go_wp2_with (fail)
            go_ret
            exact ⟨by rw [hbad.out (by rw [hres.out] <;> first | rfl | (rw [hy, hz]; rfl) | (rw [hz]; rfl) | (rw [hy]; rfl))]; rfl, hb0⟩
        · cases hz : (b == (0 : Int))
          · go_wp2_with fail; refine (hA _).mono ?_; rintro e w' ⟨rfl, rfl⟩
            go_wp2_with fail; refine (hB _).mono ?_; rintro e w' ⟨rfl, rfl⟩
            go_wp2_with (fail)
            go_ret
            exact ⟨by rw [hbad.out (by rw [hres.out] <;> first | rfl | (rw [hy, hz]; rfl) | (rw [hz]; rfl) | (rw [hy]; rfl))]; rfl, hb0⟩
          · go_wp2_with fail; refine (hA _).mono ?_; rintro e w' ⟨rfl, rfl⟩
            go_wp2_with fail; refine (hB _).mono ?_; rintro e w' ⟨rfl, rfl⟩
            go_wp2_with (fail)
            go_roundg (n - (kk + 1))
            case measure => omega
            case rel => exact ⟨kk + 1, by omega, by omega, by go_num, (show Aside _ from hb0), (show Aside _ from all_step AA.out HX.out (by rw [hres.out] <;> first | rfl | (rw [hy, hz]; rfl) | (rw [hz]; rfl) | (rw [hy]; rfl)))⟩
      have hres := Lib.hid (show ordOk cells n ((op), a, b) = (false) by simp [ordOk, h0, h1, h2, h3, h4, h5, h6, h7, h8])
      generalize inB a 0 (cells - 1) = va at *
      generalize inB b 0 (cells - 1) = vb at *
      generalize inB b 0 255 = vc at *
      generalize inB a 0 ((n : Int) - 1) = vd at *
      generalize inB a 0 7 = ve at *
      have g0 : (op == (0 : Int)) = false := by rw [beq_eq_false_iff_ne]; exact h0
      have g1 : (op == (1 : Int)) = false := by rw [beq_eq_false_iff_ne]; exact h1
      have g2 : (op == (2 : Int)) = false := by rw [beq_eq_false_iff_ne]; exact h2
      have g3 : (op == (3 : Int)) = false := by rw [beq_eq_false_iff_ne]; exact h3
      have g4 : (op == (4 : Int)) = false := by rw [beq_eq_false_iff_ne]; exact h4
      have g5 : (op == (5 : Int)) = false := by rw [beq_eq_false_iff_ne]; exact h5
      have g6 : (op == (6 : Int)) = false := by rw [beq_eq_false_iff_ne]; exact h6
      have g7 : (op == (7 : Int)) = false := by rw [beq_eq_false_iff_ne]; exact h7
      have g8 : (op == (8 : Int)) = false := by rw [beq_eq_false_iff_ne]; exact h8
      clear h0 h1 h2 h3 h4 h5 h6 h7 h8
      go_wp2_with fail; refine (hA _).mono ?_; rintro e w' ⟨rfl, rfl⟩
      go_wp2_with fail; refine (hB _).mono ?_; rintro e w' ⟨rfl, rfl⟩
      go_wp2_with (fail)
      go_ret
      exact ⟨by rw [hbad.out (by rw [hres.out] <;> first | rfl | (rw [hy, hz]; rfl) | (rw [hz]; rfl) | (rw [hy]; rfl))]; rfl, hb0⟩
    · have hltz : ¬ (kk : Int) < (n : Int) := by omega
      obtain rfl : kk = n := by omega
      have hq := Lib.hid (show progOk xs cells = (inB kk 1 20 && inB cells 1 8) by rw [hP.out, all_holds HL.out AA.out, Bool.and_true])
      have hc1 := fun W => l1In_any kk 1 20 W
      have hc2 := fun W => l1In_any cells 1 8 W
      generalize inB (kk : Int) 1 20 = v1 at *
      generalize inB cells 1 8 = v2 at *
      clear AA
      cases v1
      · go_wp2_with fail; refine (hc1 _).mono ?_; rintro e w' ⟨rfl, rfl⟩
        go_wp2
        go_ret
        exact ⟨by rw [hq.out]; rfl, BW.out⟩
      · go_wp2_with fail; refine (hc1 _).mono ?_; rintro e w' ⟨rfl, rfl⟩
        go_wp2_with fail; refine (hc2 _).mono ?_; rintro e w' ⟨rfl, rfl⟩
        go_wp2
        go_ret
        exact ⟨by rw [hq.out]; cases v2 <;> rfl, BW.out⟩
end Go.Proofs.YtckgdlgdipfgmaaGreat
