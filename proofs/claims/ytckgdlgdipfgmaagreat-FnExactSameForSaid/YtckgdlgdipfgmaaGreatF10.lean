/- flows and FlowsTo of impl, FlowsTo of spec. SameFor, as a law of contents. No program in sight. slices.Grow of nothing, slices.Concat of two lists of numbers. slices.Concat of two lists of numbers, and bit. slices.Clip at the types that are met. A region that draws its order, by one proof for each operation: an invariant that does not depend on the order. -/
import Derived.Test.YtckgdlgdipfgmaaGreatF1
import Derived.Test.YtckgdlgdipfgmaaGreatF2
import Derived.Test.YtckgdlgdipfgmaaGreatF3
import Derived.Test.YtckgdlgdipfgmaaGreatF9
import Derived.Lib.AppendZeros
import Derived.Orders

namespace Go.Proofs.YtckgdlgdipfgmaaGreat
set_option linter.unusedVariables false
set_option linter.unusedSimpArgs false
open Go.RowKit

def eB (x : Bool) : List Value := [.bool x]
theorem encB : Enc eB 1 := ⟨fun _ => rfl, fun x u h => by simp [eB] at h; subst h; rfl⟩
theorem zeroBool : ZeroT Tryz.prog 71 4 1 eB false := ZeroT.mk' (z := .bool false) (by kernel_rfl) (by kernel_rfl) rfl (by decide) (bytes := 1) (by decide)
/-- Flags in a block. -/
def flagA (out : List Bool) : Array Value := (out.map Value.bool).toArray
theorem flag_flat (out : List Bool) : (out.flatMap eB).toArray = flagA out := by
  unfold flagA
  congr 1
  induction out with
  | nil => rfl
  | cons x l ih => simp [List.flatMap_cons, eB, ih]
theorem Own.full {α : Type} {w : World} {base E k g n : Nat} {enc : α → List Value} {xs : List α} (hk : Enc enc k) (h : Own w base E k enc (.slice (some ⟨g, 0, none⟩) n n) xs) : Blk w g E (xs.flatMap enc).toArray ∧ base ≤ g := by
  rcases h.2 with ⟨h1, _⟩ | ⟨g', cap, cur, h1, hb, hg, hnc, hm, hs, ht⟩
  · cases h1
  · injection h1 with h2 h3 h4
    injection h2 with h2
    injection h2 with h2 _
    subst h2 h4
    refine ⟨?_, hb⟩
    have : cur = (xs.flatMap enc).toArray := by
      rw [← ht]
      have hx : xs.length = n := h3.symm
      rw [hx, ← hs, List.take_of_length_le (by simp)]
    rw [← this]
    exact hg
def flowStep (D : Nat → Nat → Bool) (out : List Bool) (a b : Nat) : List Bool := out.set a (out.getD a false || (out.getD b false && D a b))
def flowB (D : Nat → Nat → Bool) (a : Nat) : Nat → List Bool → List Bool
  | 0, out => out
  | b + 1, out => flowStep D (flowB D a b out) a b
def flowA (D : Nat → Nat → Bool) (P : Nat) : Nat → List Bool → List Bool
  | 0, out => out
  | a + 1, out => flowB D a P (flowA D P a out)
def flowR (D : Nat → Nat → Bool) (P : Nat) : Nat → List Bool → List Bool
  | 0, out => out
  | r + 1, out => flowA D P P (flowR D P r out)
def flowsL (D : Nat → Nat → Bool) (P N : Nat) : List Bool := flowR D P P ((List.replicate P false).set N true)
theorem flowB_len (D : Nat → Nat → Bool) (a : Nat) : ∀ (b : Nat) (out : List Bool), (flowB D a b out).length = out.length
  | 0, _ => rfl
  | b + 1, out => by simp [flowB, flowStep, flowB_len D a b out]
theorem flowA_len (D : Nat → Nat → Bool) (P : Nat) : ∀ (a : Nat) (out : List Bool), (flowA D P a out).length = out.length
  | 0, _ => rfl
  | a + 1, out => by simp [flowA, flowB_len, flowA_len D P a out]
theorem flowR_len (D : Nat → Nat → Bool) (P : Nat) : ∀ (r : Nat) (out : List Bool), (flowR D P r out).length = out.length
  | 0, _ => rfl
  | r + 1, out => by simp [flowR, flowA_len, flowR_len D P r out]
theorem flowsL_len (D : Nat → Nat → Bool) (P N : Nat) : (flowsL D P N).length = P := by simp [flowsL, flowR_len]
theorem flag_cell {w : World} {g t : Nat} {out : List Bool} (h : Blk w g t (flagA out)) {i : Nat} (hi : i < out.length) : w.cell? ⟨g, i, none⟩ = some (.bool (out.getD i false)) := by
  rw [h.cell]
  unfold flagA
  simp [hi]
theorem flag_set {w : World} {g t : Nat} {out : List Bool} (h : Blk w g t (flagA out)) (i : Nat) (v : Bool) : Blk (w.setCell ⟨g, i, none⟩ (.bool v)) g t (flagA (out.set i v)) := by
  have := h.set_ i (.bool v)
  unfold flagA at this ⊢
  simpa [List.map_set] using this
set_option maxRecDepth 100000 in
set_option maxHeartbeats 4000000 in
theorem flows_any (A : Option Addr) (n c : Nat) (xs : List (Int × Int × Int × Int)) (P N : Nat) (hP : P ≤ 100) (hN : N < P) (w : World) (hs : Sl w 4 eC A n c xs) :
    Calls Tryz.prog 42 #[.slice A n c, .int .i64 P, .int .i64 N] w (Post (fun g => .slice (some ⟨g, 0, none⟩) P P) fun g w' => Blk w' g 4 (flagA (flowsL (fun a b => directB xs a b) P N)) ∧ w.heap.size ≤ g ∧ Below w.heap.size w w') := by
  obtain ⟨D, hD⟩ : ∃ D : Nat → Nat → Bool, ∀ a b : Nat, D a b = directB xs a b := ⟨_, fun _ _ => rfl⟩
  rw [show (fun (a b : Nat) => directB xs a b) = D from funext fun a => funext fun b => (hD a b).symm]
  have hDR := fun W hW (a b : Nat) => direct_any A n c xs (a : Int) (b : Int) W (hs.below hW)
  replace hD := Lib.hid hD
  have hN2 : (N : Int) < (P : Int) := by omega
  have hP2 : (0 : Int) ≤ (P : Int) := by omega
  go_enter Tryz.func42, Tryz.ntmps42
  go_wp2_with (at_make; refine make_own rfl _ _ zeroBool rfl encB w.heap.size _ _ P rfl rfl (by omega) (by omega) (by omega) (Nat.le_refl _) ?_; intro w1 own1 hg1; have hb1 := below_of_grown hg1; obtain ⟨B0, -⟩ := own1.full encB; rw [flag_flat] at B0; have q0 := flag_cell B0 (i := N) (by simpa using hN); have f0 := B0.frozen)
  have hgw := Nat.le_refl w.heap.size
  have B1 := flag_set B0 N true
  have hb2 := hb1.setCell (p := ⟨w.heap.size, N, none⟩) (Nat.le_refl _) (.bool true)
  have hl0 : ((List.replicate P false).set N true).length = P := by simp
  have hres := Lib.hid (show flowsL D P N = flowR D P P ((List.replicate P false).set N true) from rfl)
  generalize (List.replicate P false).set N true = out0 at *
  clear B0 q0 f0 own1 hg1 hb1
  go_loopg [16] P (fun gg s16 wr => ∃ r : Nat, r ≤ P ∧ P - r ≤ gg ∧ s16 = .int .i64 r ∧ Aside (Below w.heap.size w wr) ∧ Aside (Blk wr w.heap.size 4 (flagA (flowR D P r out0))))
  case atStart => exact ⟨0, Nat.zero_le _, by omega, rfl, (show Aside _ from hb2), (show Aside _ from B1)⟩
  case round =>
    obtain ⟨r, hr, hgr, rfl, BW, BB⟩ := hrel
    by_cases hltr : r < P
    · have hltrz : (r : Int) < (P : Int) := by omega
      obtain ⟨out1, h1⟩ : ∃ out1, flowR D P r out0 = out1 := ⟨_, rfl⟩
      have hl1 : out1.length = P := by rw [← h1, flowR_len, hl0]
      rw [h1] at BB
      have hbw1 := BW.out
      have B1 := BB.out
      replace h1 := Lib.hid h1
      clear BW BB
      go_wp2_with fail
      go_loopg [19] P (fun gg s19 wr => ∃ a : Nat, a ≤ P ∧ P - a ≤ gg ∧ s19 = .int .i64 a ∧ Aside (Below w.heap.size w wr) ∧ Aside (Blk wr w.heap.size 4 (flagA (flowA D P a out1))))
      case atStart => exact ⟨0, Nat.zero_le _, by omega, rfl, (show Aside _ from hbw1), (show Aside _ from B1)⟩
      case round =>
        obtain ⟨a, ha, hga, rfl, BW2, BB2⟩ := hrel
        by_cases hlta : a < P
        · have hltaz : (a : Int) < (P : Int) := by omega
          obtain ⟨out2, h2⟩ : ∃ out2, flowA D P a out1 = out2 := ⟨_, rfl⟩
          have hl2 : out2.length = P := by rw [← h2, flowA_len, hl1]
          rw [h2] at BB2
          have hbw2 := BW2.out
          have B2 := BB2.out
          replace h2 := Lib.hid h2
          clear BW2 BB2
          go_wp2_with fail
          go_loopg [23] P (fun gg s23 wr => ∃ b : Nat, b ≤ P ∧ P - b ≤ gg ∧ s23 = .int .i64 b ∧ Aside (Below w.heap.size w wr) ∧ Aside (Blk wr w.heap.size 4 (flagA (flowB D a b out2))))
          case atStart => exact ⟨0, Nat.zero_le _, by omega, rfl, (show Aside _ from hbw2), (show Aside _ from B2)⟩
          case round =>
            obtain ⟨b, hb, hgb, rfl, BW3, BB3⟩ := hrel
            by_cases hltb : b < P
            · have hltbz : (b : Int) < (P : Int) := by omega
              have HS := Lib.hid (show flowB D a (b + 1) out2 = (flowB D a b out2).set a ((flowB D a b out2).getD a false || ((flowB D a b out2).getD b false && D a b)) from rfl)
              have B3 := BB3.out
              have hbw3 := BW3.out
              have hl3 := flowB_len D a b out2
              generalize flowB D a b out2 = out3 at *
              have qa := flag_cell B3 (i := a) (by omega)
              have qb := flag_cell B3 (i := b) (by omega)
              have fB := B3.frozen
              have hdr := hDR _ hbw3 a b
              rw [← hD.out] at hdr
              generalize out3.getD a false = xa at *
              generalize out3.getD b false = xb at *
              generalize D a b = xd at *
              cases xa
              · cases xb
                · go_wp2
                  go_roundg (P - (b + 1))
                  case measure => omega
                  case rel => exact ⟨b + 1, by omega, by omega, by go_num, (show Aside _ from hbw3.setCell (p := ⟨w.heap.size, a, none⟩) hgw _), (show Aside _ from by rw [HS.out]; exact flag_set B3 a false)⟩
                · go_wp2_with fail
                  refine hdr.mono ?_
                  rintro e w4 ⟨rfl, hb4⟩
                  have hbw4 := thn hbw3 hb4
                  have B4 := B3.below hb4
                  have qa4 := flag_cell B4 (i := a) (by omega)
                  have fB4 := B4.frozen
                  go_wp2
                  go_roundg (P - (b + 1))
                  case measure => omega
                  case rel => exact ⟨b + 1, by omega, by omega, by go_num, (show Aside _ from hbw4.setCell (p := ⟨w.heap.size, a, none⟩) hgw _), (show Aside _ from by rw [HS.out]; exact flag_set B4 a xd)⟩
              · go_wp2
                go_roundg (P - (b + 1))
                case measure => omega
                case rel => exact ⟨b + 1, by omega, by omega, by go_num, (show Aside _ from hbw3.setCell (p := ⟨w.heap.size, a, none⟩) hgw _), (show Aside _ from by rw [HS.out]; exact flag_set B3 a true)⟩
            · have hltbz : ¬ (b : Int) < (P : Int) := by omega
              obtain rfl : b = P := by omega
              go_wp2
              go_roundg (b - (a + 1))
              case measure => omega
              case rel => exact ⟨a + 1, by omega, by omega, by go_num, (show Aside _ from BW3.out), (show Aside _ from by rw [show flowA D b (a + 1) out1 = flowB D a b (flowA D b a out1) from rfl, h2.out]; exact BB3.out)⟩
        · have hltaz : ¬ (a : Int) < (P : Int) := by omega
          obtain rfl : a = P := by omega
          go_wp2
          go_roundg (a - (r + 1))
          case measure => omega
          case rel => exact ⟨r + 1, by omega, by omega, by go_num, (show Aside _ from BW2.out), (show Aside _ from by rw [show flowR D a (r + 1) out0 = flowA D a a (flowR D a r out0) from rfl, h1.out]; exact BB2.out)⟩
    · have hltrz : ¬ (r : Int) < (P : Int) := by omega
      obtain rfl : r = P := by omega
      go_wp2
      go_ret
      exact ⟨w.heap.size, rfl, by rw [hres.out]; exact BB.out, hgw, BW.out⟩
set_option maxRecDepth 100000 in
set_option maxHeartbeats 4000000 in
theorem specFlowsTo_any (A : Option Addr) (n c : Nat) (xs : List (Int × Int × Int × Int)) (P N : Nat) (hok : chansOk xs P = true) (hN : N < P) (w : World) (hs : Sl w 4 eC A n c xs) :
    Calls Tryz.prog 33 #[.slice A n c, .int .i64 P, .int .i64 N] w (Post (fun g => .slice (some ⟨g, 0, none⟩) P P) fun g w' => Blk w' g 4 (flagA (flowsL (fun a b => directB xs a b) P N)) ∧ w.heap.size ≤ g ∧ Below w.heap.size w w') := by
  have hP : P ≤ 5 := by
    have := hok
    unfold chansOk at this
    simp only [Bool.and_eq_true, inB_true] at this
    omega
  obtain ⟨D, hD⟩ : ∃ D : Nat → Nat → Bool, ∀ a b : Nat, D a b = directB xs a b := ⟨_, fun _ _ => rfl⟩
  rw [show (fun (a b : Nat) => directB xs a b) = D from funext fun a => funext fun b => (hD a b).symm]
  have hDR := fun W hW (a b : Nat) (ha : a < P) (hb : b < P) => show Calls Tryz.prog 72 #[.slice A n c, .int .i64 P, .int .i64 a, .int .i64 b] W fun e w' => .returned (.bool (directB xs a b)) = e ∧ Below W.heap.size W w' by
    have := specFlowDirect_any A n c xs P (a : Int) (b : Int) (by omega) W (hs.below hW)
    unfold flowD at this
    rw [hok, inB_true.2 (show 0 ≤ (a : Int) ∧ (a : Int) ≤ (P : Int) - 1 by omega), inB_true.2 (show 0 ≤ (b : Int) ∧ (b : Int) ≤ (P : Int) - 1 by omega)] at this
    exact this
  replace hD := Lib.hid hD
  have h1 := specChannelsValid_any A n c xs P (by omega) w hs
  rw [hok] at h1
  have h2 := fun W => l1In_any N 0 ((P : Int) - 1) W
  rw [inB_true.2 (show 0 ≤ (N : Int) ∧ (N : Int) ≤ (P : Int) - 1 by omega)] at h2
  have hN2 : (N : Int) < (P : Int) := by omega
  have hP2 : (0 : Int) ≤ (P : Int) := by omega
  clear hs hok
  go_enter Tryz.func33, Tryz.ntmps33
  go_wp2_with fail
  refine h1.mono ?_; rintro e w0 ⟨rfl, hb0⟩
  go_wp2_with fail
  refine (h2 _).mono ?_; rintro e w' ⟨rfl, rfl⟩
  have hgw := hb0.size
  go_wp2_with (at_make; refine make_own rfl _ _ zeroBool rfl encB w0.heap.size _ _ P rfl rfl (by omega) (by omega) (by omega) (Nat.le_refl _) ?_; intro w1 own1 hg1; have hb1 := thn hb0 (below_of_grown hg1); obtain ⟨B0, -⟩ := own1.full encB; rw [flag_flat] at B0; have q0 := flag_cell B0 (i := N) (by simpa using hN); have f0 := B0.frozen)
  have B1 := flag_set B0 N true
  have hb2 := hb1.setCell (p := ⟨w0.heap.size, N, none⟩) hgw (.bool true)
  have hl0 : ((List.replicate P false).set N true).length = P := by simp
  have hres := Lib.hid (show flowsL D P N = flowR D P P ((List.replicate P false).set N true) from rfl)
  generalize (List.replicate P false).set N true = out0 at *
  clear B0 q0 f0 own1 hg1 hb1 h1 h2
  go_loopg [8] P (fun gg s16 wr => ∃ r : Nat, r ≤ P ∧ P - r ≤ gg ∧ s16 = .int .i64 r ∧ Aside (Below w.heap.size w wr) ∧ Aside (Blk wr w0.heap.size 4 (flagA (flowR D P r out0))))
  case atStart => exact ⟨0, Nat.zero_le _, by omega, rfl, (show Aside _ from hb2), (show Aside _ from B1)⟩
  case round =>
    obtain ⟨r, hr, hgr, rfl, BW, BB⟩ := hrel
    by_cases hltr : r < P
    · have hltrz : (r : Int) < (P : Int) := by omega
      obtain ⟨out1, h1⟩ : ∃ out1, flowR D P r out0 = out1 := ⟨_, rfl⟩
      have hl1 : out1.length = P := by rw [← h1, flowR_len, hl0]
      rw [h1] at BB
      have hbw1 := BW.out
      have B1 := BB.out
      replace h1 := Lib.hid h1
      clear BW BB
      go_wp2_with fail
      go_loopg [9] P (fun gg s19 wr => ∃ a : Nat, a ≤ P ∧ P - a ≤ gg ∧ s19 = .int .i64 a ∧ Aside (Below w.heap.size w wr) ∧ Aside (Blk wr w0.heap.size 4 (flagA (flowA D P a out1))))
      case atStart => exact ⟨0, Nat.zero_le _, by omega, rfl, (show Aside _ from hbw1), (show Aside _ from B1)⟩
      case round =>
        obtain ⟨a, ha, hga, rfl, BW2, BB2⟩ := hrel
        by_cases hlta : a < P
        · have hltaz : (a : Int) < (P : Int) := by omega
          obtain ⟨out2, h2⟩ : ∃ out2, flowA D P a out1 = out2 := ⟨_, rfl⟩
          have hl2 : out2.length = P := by rw [← h2, flowA_len, hl1]
          rw [h2] at BB2
          have hbw2 := BW2.out
          have B2 := BB2.out
          replace h2 := Lib.hid h2
          clear BW2 BB2
          go_wp2_with fail
          go_loopg [10] P (fun gg s23 wr => ∃ b : Nat, b ≤ P ∧ P - b ≤ gg ∧ s23 = .int .i64 b ∧ Aside (Below w.heap.size w wr) ∧ Aside (Blk wr w0.heap.size 4 (flagA (flowB D a b out2))))
          case atStart => exact ⟨0, Nat.zero_le _, by omega, rfl, (show Aside _ from hbw2), (show Aside _ from B2)⟩
          case round =>
            obtain ⟨b, hb, hgb, rfl, BW3, BB3⟩ := hrel
            by_cases hltb : b < P
            · have hltbz : (b : Int) < (P : Int) := by omega
              have HS := Lib.hid (show flowB D a (b + 1) out2 = (flowB D a b out2).set a ((flowB D a b out2).getD a false || ((flowB D a b out2).getD b false && D a b)) from rfl)
              have B3 := BB3.out
              have hbw3 := BW3.out
              have hl3 := flowB_len D a b out2
              generalize flowB D a b out2 = out3 at *
              have qa := flag_cell B3 (i := a) (by omega)
              have qb := flag_cell B3 (i := b) (by omega)
              have fB := B3.frozen
              have hdr := hDR _ hbw3 a b hlta hltb
              rw [← hD.out] at hdr
              generalize out3.getD a false = xa at *
              generalize out3.getD b false = xb at *
              generalize D a b = xd at *
              cases xa
              · cases xb
                · go_wp2
                  go_roundg (P - (b + 1))
                  case measure => omega
                  case rel => exact ⟨b + 1, by omega, by omega, by go_num, (show Aside _ from hbw3.setCell (p := ⟨w0.heap.size, a, none⟩) hgw _), (show Aside _ from by rw [HS.out]; exact flag_set B3 a false)⟩
                · go_wp2_with fail
                  refine hdr.mono ?_
                  rintro e w4 ⟨rfl, hb4⟩
                  have hbw4 := thn hbw3 hb4
                  have B4 := B3.below hb4
                  have qa4 := flag_cell B4 (i := a) (by omega)
                  have fB4 := B4.frozen
                  go_wp2
                  go_roundg (P - (b + 1))
                  case measure => omega
                  case rel => exact ⟨b + 1, by omega, by omega, by go_num, (show Aside _ from hbw4.setCell (p := ⟨w0.heap.size, a, none⟩) hgw _), (show Aside _ from by rw [HS.out]; exact flag_set B4 a xd)⟩
              · go_wp2
                go_roundg (P - (b + 1))
                case measure => omega
                case rel => exact ⟨b + 1, by omega, by omega, by go_num, (show Aside _ from hbw3.setCell (p := ⟨w0.heap.size, a, none⟩) hgw _), (show Aside _ from by rw [HS.out]; exact flag_set B3 a true)⟩
            · have hltbz : ¬ (b : Int) < (P : Int) := by omega
              obtain rfl : b = P := by omega
              go_wp2
              go_roundg (b - (a + 1))
              case measure => omega
              case rel => exact ⟨a + 1, by omega, by omega, by go_num, (show Aside _ from BW3.out), (show Aside _ from by rw [show flowA D b (a + 1) out1 = flowB D a b (flowA D b a out1) from rfl, h2.out]; exact BB3.out)⟩
        · have hltaz : ¬ (a : Int) < (P : Int) := by omega
          obtain rfl : a = P := by omega
          go_wp2
          go_roundg (a - (r + 1))
          case measure => omega
          case rel => exact ⟨r + 1, by omega, by omega, by go_num, (show Aside _ from BW2.out), (show Aside _ from by rw [show flowR D a (r + 1) out0 = flowA D a a (flowR D a r out0) from rfl, h1.out]; exact BB2.out)⟩
    · have hltrz : ¬ (r : Int) < (P : Int) := by omega
      obtain rfl : r = P := by omega
      go_wp2
      go_ret
      exact ⟨w0.heap.size, rfl, by rw [hres.out]; exact BB.out, hgw, BW.out⟩
end Go.Proofs.YtckgdlgdipfgmaaGreat

namespace Go.Proofs.YtckgdlgdipfgmaaGreat
set_option linter.unusedVariables false
set_option linter.unusedSimpArgs false
open Go.RowKit

def nearC (c : MacC) (n : Int) : List Bool := flowsL (fun a b => directB c.1.2.1 a b) c.2.2.1.length n.toNat
def coreSame (a b : MacC) (k : Nat) : Bool := match a.2.1[k]?, b.2.1[k]?, a.2.2.1[k]?, b.2.2.1[k]? with
  | some p, some q, some x, some y => decide (p = q) && (decide (x.1 = y.1) && (decide (x.2.1 = y.2.1) && decide (x.2.2 = y.2.2)))
  | _, _, _, _ => false
def holdSame (a b : MacC) (k : Nat) : Bool := match a.2.2.2.1[k]?, b.2.2.2.1[k]? with
  | some x, some y => decide (x = y)
  | _, _ => false
def nearTo (c : MacC) (n : Int) (k : Nat) : Bool := match c.1.2.1[k]? with
  | some ch => (nearC c n).getD ch.2.2.1.toNat false
  | none => false
def coreOk (a b : MacC) (n : Int) (k : Nat) : Bool := !(nearC a n).getD k false || coreSame a b k
def holdsOk (a b : MacC) (n : Int) (k : Nat) : Bool := !nearTo a n k || holdSame a b k
def sameBody (a b : MacC) (n : Int) : Bool := (List.range a.2.2.1.length).all (coreOk a b n) && (List.range a.1.2.1.length).all (holdsOk a b n)
def sameForC (a b : MacC) (n : Int) : Bool := machOkC a && (machOkC b && (inB n 0 (a.2.2.1.length - 1) && (decide (a.2.2.2.2 = b.2.2.2.2) && (decide (numsC a.1 = numsC b.1) && sameBody a b n))))
theorem nums_lens {a b : MacC} (ha : machOkC a = true) (hb : machOkC b = true) (h : numsC a.1 = numsC b.1) : a.2.2.1.length = b.2.2.1.length ∧ a.1.2.1.length = b.1.2.1.length := by
  unfold numsC at h
  rw [mo_setup ha, mo_setup hb] at h
  simp only [if_true] at h
  have h1 := numsL_inj h
  have h2 := mo_lens ha
  have h3 := mo_lens hb
  exact ⟨by omega, h1.2⟩
theorem sameForC_seen (a b : MacC) (n : Int) : sameForC a b n = (seenC a n && (seenC b n && (decide (a.2.2.2.2 = b.2.2.2.2) && (decide (numsC a.1 = numsC b.1) && sameBody a b n)))) := by
  unfold sameForC seenC
  cases ha : machOkC a
  · rfl
  · cases hb : machOkC b
    · simp
    · by_cases hn : numsC a.1 = numsC b.1
      · rw [(nums_lens ha hb hn).1]
        simp only [Bool.true_and]
        cases inB n 0 ((b.2.2.1.length : Int) - 1) <;> simp
      · simp [hn]
theorem sameBody_core {a b : MacC} {n : Int} {k : Nat} (hk : k < a.2.2.1.length) (h : coreOk a b n k = false) : sameBody a b n = false := by unfold sameBody; rw [range_false hk h]; rfl
theorem sameBody_hold {a b : MacC} {n : Int} {k : Nat} (hk : k < a.1.2.1.length) (h : holdsOk a b n k = false) : sameBody a b n = false := by unfold sameBody; rw [range_false hk h, Bool.and_false]
theorem sameBody_true {a b : MacC} {n : Int} (h : ∀ k, k < a.2.2.1.length → coreOk a b n k = true) (h' : ∀ k, k < a.1.2.1.length → holdsOk a b n k = true) : sameBody a b n = true := by unfold sameBody; rw [range_true h, range_true h']; rfl
theorem chan_to {c : MacC} (h : machOkC c = true) {k : Nat} {ch : ChanT} (hk : c.1.2.1[k]? = some ch) : 0 ≤ ch.2.2.1 ∧ ch.2.2.1 < c.2.2.1.length := by
  have h1 := su_chans (mo_setup h)
  have h2 := mo_lens h
  simp only [chansOk, Bool.and_eq_true, List.all_eq_true, chanOk] at h1
  have h3 := inB_true.1 (h1.2.2 ch (List.mem_of_getElem? hk)).2.2.1
  omega
end Go.Proofs.YtckgdlgdipfgmaaGreat

namespace Go.Proofs.YtckgdlgdipfgmaaGreat
set_option linter.unusedVariables false
set_option linter.unusedSimpArgs false
open Go.RowKit

set_option maxRecDepth 100000 in
set_option maxHeartbeats 2000000 in
theorem growI_any (n : Nat) (hn : 0 < n ∧ n ≤ 10000) (w : World) :
    Calls Tryz.prog 122 #[.slice none 0 0, .int .i64 n] w (Post (fun v => v) fun v w' => Own w' w.heap.size 3 1 eI v ([] : List Int) ∧ Below w.heap.size w w') := by
  obtain ⟨h0, h1⟩ := hn
  obtain ⟨i, z, hi, hz, hsz, hby, hzs⟩ := appInt.info
  have hrun := fun ty => Lib.run_append_nil_zeros (P := Tryz.prog) w 47 3 ty 3 i z .i64 .i64 (by kernel_rfl) (by kernel_rfl) hi hz n h0 (by rw [hsz]; decide) (by omega) (by rw [hby]; omega)
  generalize z.cells = zc at hrun hzs
  have hG := grownCap_ge w n 0 3
  have hG2 := grownCap_le_maxLen w n 0 3 (by unfold maxLen; omega)
  obtain ⟨G, hg⟩ : ∃ G, grownCap w n 0 3 = G := ⟨_, rfl⟩
  rw [hg] at hG hG2 hrun
  have hG3 : G ≤ 9223372036854775807 := by unfold maxLen at hG2; omega
  have hh1 : ¬ ((n : Int) < 0) := by omega
  have hh2 : (0 : Int) < (n : Int) := by omega
  have hh3 : (0 : Int) ≤ (n : Int) := by omega
  have hh4 : (n : Int) ≤ (G : Int) := by omega
  clear hg
  have hown : Own (w.drew.alloc (.cells (Builtin.zeroCells zc n ++ Builtin.zeroCells zc (G - n)) 3)) w.heap.size 3 1 eI (.slice (some ⟨w.heap.size, 0, none⟩) 0 G) ([] : List Int) :=
    ⟨rfl, .inr ⟨w.heap.size, G, _, rfl, Nat.le_refl _, heap_alloc_new w.drew _, Nat.zero_le _, hG2, (by simp only [Array.size_append, size_zeroCells, hzs]; omega), rfl⟩⟩
  have hbl := alo (Below.refl w.heap.size w).drew (.cells (Builtin.zeroCells zc n ++ Builtin.zeroCells zc (G - n)) 3)
  clear hi hz hsz hby hzs
  go_enter Tryz.func122, Tryz.ntmps122
  go_wp2_with (at_builtin; refine Lib.wpList_append_run _ rfl _ _ _ _ rfl _ _ rfl rfl _ _ (hrun _) ?_)
  go_ret
  exact ⟨_, rfl, hown, hbl⟩
set_option maxRecDepth 100000 in
set_option maxHeartbeats 4000000 in
theorem concatI_any (A : Option Addr) (n c : Nat) (xs : List Int) (m : Int) (gb gm : Nat) (hn : n ≤ 1000) (hnil : A = none → c = 0) (w : World) (hs : Sl w 1 eI A n c xs) (hB : Blk w gb 47 #[.slice A n c, .slice (some ⟨gm, 0, none⟩) 1 1]) (hM : Blk w gm 3 #[.int .i64 m]) :
    Calls Tryz.prog 90 #[.slice (some ⟨gb, 0, none⟩) 2 2] w (Post (fun v => v) fun v w' => Own w' w.heap.size 3 1 eI v (xs ++ [m]) ∧ Below w.heap.size w w') := by
  have hle := hs.le
  have hmax := hs.max
  have HL := Lib.hid hs.len
  have hGr := fun W => growI_any (n + 1) (by omega) W
  simp only [Int.natCast_add, Int.cast_ofNat_Int] at hGr
  have c0 := hB.c0
  have c1 := hB.c1
  have fw : wrap64 ((n : Int) + 1) = (n : Int) + 1 := by unfold wrap64; omega
  clear fw
  have hltB := hB.lt
  have hltM := hM.lt
  go_enter Tryz.func90, Tryz.ntmps90
  go_wp2_with fail
  go_loopg [3, 11] 2 (fun gg s3 s11 wr => ∃ kk : Nat, kk ≤ 2 ∧ 2 - kk ≤ gg ∧ s3 = .int .i64 (if kk = 0 then 0 else if kk = 1 then (n : Int) else (n : Int) + 1) ∧ s11 = .int .i64 kk ∧ Aside (w = wr))
  case atStart => exact ⟨0, by omega, by omega, rfl, rfl, (show Aside _ from rfl)⟩
  case round =>
    obtain ⟨kk, hkk, hg, rfl, rfl, BW⟩ := hrel
    obtain rfl := BW.out
    have hcase : kk = 0 ∨ kk = 1 ∨ kk = 2 := by omega
    rcases hcase with rfl | rfl | rfl
    · simp only [if_true]
      go_wp2
      go_roundg 1
      case measure => omega
      case rel => exact ⟨1, by omega, by omega, by simp, by go_num, (show Aside _ from rfl)⟩
    · simp only [Nat.one_ne_zero, if_false, if_true]
      go_wp2
      go_roundg 0
      case measure => omega
      case rel => exact ⟨2, by omega, by omega, by simp, by go_num, (show Aside _ from rfl)⟩
    · simp only [show ¬ (2 : Nat) = 0 by omega, show ¬ (2 : Nat) = 1 by omega, if_false]
      go_wp2_with fail
      refine (hGr _).mono ?_
      rintro e w1 ⟨v, rfl, own1, hb1⟩
      clear hGr
      have hw1 := hb1.size
      have hB1 := hB.below hb1
      have hM1 := hM.below hb1
      have sl1 := hs.below hb1
      have ltA : 0 < n → ∀ b o, A = some ⟨b, o, none⟩ → b < w.heap.size := fun h b o e => by
        obtain ⟨b', o', e', h', -⟩ := hs.cells h
        rw [e] at e'
        injection e' with e'
        injection e' with e1 _
        omega
      go_wp2_with fail
      go_loopg [6, 27] 2 (fun gg s6 s27 wr => ∃ (kk : Nat) (v : Value), kk ≤ 2 ∧ 2 - kk ≤ gg ∧ s6 = v ∧ s27 = .int .i64 kk ∧ Aside (Below w.heap.size w wr) ∧ Aside (Own wr w.heap.size 3 1 eI v (if kk = 0 then [] else if kk = 1 then xs else xs ++ [m])))
      case atStart => exact ⟨0, _, by omega, by omega, rfl, rfl, (show Aside _ from hb1), (show Aside _ from own1)⟩
      case round =>
        obtain ⟨kk, v6, hkk, hg, hv6, rfl, BW, OW⟩ := hrel
        subst hv6
        have own6 := OW.out
        have hbw := BW.out
        clear OW BW
        have hB1 := hB.below hbw
        have hM1 := hM.below hbw
        have sl1 := hs.below hbw
        have d0 := hB1.c0
        have d1 := hB1.c1
        have hcase : kk = 0 ∨ kk = 1 ∨ kk = 2 := by omega
        rcases hcase with rfl | rfl | rfl
        · simp only [if_true] at own6
          go_wp2_with (at_builtin; refine app_own rfl _ _ appInt rfl encI w.heap.size _ [] rfl own6 _ _ _ xs rfl hnil sl1 (by simp; omega) hbw.size ?_; intro v7 w7 own7 hg7; have hb7 := belowApp hbw own6 hg7 (Nat.le_refl _) hbw.size; simp only [List.nil_append] at own7)
          go_roundg 1
          case measure => omega
          case rel => exact ⟨1, _, by omega, by omega, rfl, by go_num, (show Aside _ from hb7), (show Aside _ from own7)⟩
        · simp only [Nat.one_ne_zero, if_false, if_true] at own6
          have src := Sl.of_blk (xs := [m]) hM1 encI (by simp)
          have hlen : xs.length + 1 ≤ 100000000 := by rw [HL.out]; omega
          go_wp2_with (at_builtin; refine app_own rfl _ _ appInt rfl encI w.heap.size _ xs rfl own6 _ 1 1 [m] rfl (fun e => by cases e) src hlen hbw.size ?_; intro v7 w7 own7 hg7; have hb7 := belowApp hbw own6 hg7 (Nat.le_refl _) hbw.size)
          go_roundg 0
          case measure => omega
          case rel => exact ⟨2, _, by omega, by omega, rfl, by go_num, (show Aside _ from hb7), (show Aside _ from own7)⟩
        · simp only [show ¬ (2 : Nat) = 0 by omega, show ¬ (2 : Nat) = 1 by omega, if_false] at own6
          go_wp2
          go_ret
          exact ⟨_, rfl, own6, hbw⟩
end Go.Proofs.YtckgdlgdipfgmaaGreat

namespace Go.Proofs.YtckgdlgdipfgmaaGreat
set_option linter.unusedVariables false
set_option linter.unusedSimpArgs false
open Go.RowKit

theorem bit_any (b : Bool) (w : World) : Calls Tryz.prog 81 #[.bool b] w fun e w' => .returned (.int .i64 (bitI b)) = e ∧ w = w' := by
  cases b
  · rw [bitI_false]
    go_enter Tryz.func81, Tryz.ntmps81
    go_wp2
    go_ret
    exact ⟨rfl, rfl⟩
  · rw [bitI_true]
    go_enter Tryz.func81, Tryz.ntmps81
    go_wp2
    go_ret
    exact ⟨rfl, rfl⟩
set_option maxRecDepth 100000 in
set_option maxHeartbeats 4000000 in
theorem concatG_any (A A2 : Option Addr) (n c n2 c2 : Nat) (xs ys : List Int) (gb : Nat) (hn : n ≤ 1000) (hn2 : 1 ≤ n2 ∧ n2 ≤ 1000) (hnil : A = none → c = 0) (hnil2 : A2 = none → c2 = 0) (w : World) (hs : Sl w 1 eI A n c xs) (hs2 : Sl w 1 eI A2 n2 c2 ys) (hB : Blk w gb 47 #[.slice A n c, .slice A2 n2 c2]) :
    Calls Tryz.prog 90 #[.slice (some ⟨gb, 0, none⟩) 2 2] w (Post (fun v => v) fun v w' => Own w' w.heap.size 3 1 eI v (xs ++ ys) ∧ Below w.heap.size w w') := by
  have hle := hs.le
  have hmax := hs.max
  have HL := Lib.hid hs.len
  have hle2 := hs2.le
  have hmax2 := hs2.max
  have hGr := fun W => growI_any (n + n2) (by omega) W
  simp only [Int.natCast_add, Int.cast_ofNat_Int] at hGr
  have c0 := hB.c0
  have c1 := hB.c1
  have hltB := hB.lt
  go_enter Tryz.func90, Tryz.ntmps90
  go_wp2_with fail
  go_loopg [3, 11] 2 (fun gg s3 s11 wr => ∃ kk : Nat, kk ≤ 2 ∧ 2 - kk ≤ gg ∧ s3 = .int .i64 (if kk = 0 then 0 else if kk = 1 then (n : Int) else (n : Int) + (n2 : Int)) ∧ s11 = .int .i64 kk ∧ Aside (w = wr))
  case atStart => exact ⟨0, by omega, by omega, rfl, rfl, (show Aside _ from rfl)⟩
  case round =>
    obtain ⟨kk, hkk, hg, rfl, rfl, BW⟩ := hrel
    obtain rfl := BW.out
    have hcase : kk = 0 ∨ kk = 1 ∨ kk = 2 := by omega
    rcases hcase with rfl | rfl | rfl
    · simp only [if_true]
      go_wp2
      go_roundg 1
      case measure => omega
      case rel => exact ⟨1, by omega, by omega, by simp, by go_num, (show Aside _ from rfl)⟩
    · simp only [Nat.one_ne_zero, if_false, if_true]
      go_wp2
      go_roundg 0
      case measure => omega
      case rel => exact ⟨2, by omega, by omega, by simp, by go_num, (show Aside _ from rfl)⟩
    · simp only [show ¬ (2 : Nat) = 0 by omega, show ¬ (2 : Nat) = 1 by omega, if_false]
      go_wp2_with fail
      refine (hGr _).mono ?_
      rintro e w1 ⟨v, rfl, own1, hb1⟩
      clear hGr
      have hw1 := hb1.size
      have hB1 := hB.below hb1
      have sl1 := hs.below hb1
      have sl2 := hs2.below hb1
      have ltA : 0 < n → ∀ b o, A = some ⟨b, o, none⟩ → b < w.heap.size := fun h b o e => by
        obtain ⟨b', o', e', h', -⟩ := hs.cells h
        rw [e] at e'
        injection e' with e'
        injection e' with e1 _
        omega
      go_wp2_with fail
      go_loopg [6, 27] 2 (fun gg s6 s27 wr => ∃ (kk : Nat) (v : Value), kk ≤ 2 ∧ 2 - kk ≤ gg ∧ s6 = v ∧ s27 = .int .i64 kk ∧ Aside (Below w.heap.size w wr) ∧ Aside (Own wr w.heap.size 3 1 eI v (if kk = 0 then [] else if kk = 1 then xs else xs ++ ys)))
      case atStart => exact ⟨0, _, by omega, by omega, rfl, rfl, (show Aside _ from hb1), (show Aside _ from own1)⟩
      case round =>
        obtain ⟨kk, v6, hkk, hg, hv6, rfl, BW, OW⟩ := hrel
        subst hv6
        have own6 := OW.out
        have hbw := BW.out
        clear OW BW
        have hB1 := hB.below hbw
        have sl1 := hs.below hbw
        have sl2 := hs2.below hbw
        have d0 := hB1.c0
        have d1 := hB1.c1
        have hcase : kk = 0 ∨ kk = 1 ∨ kk = 2 := by omega
        rcases hcase with rfl | rfl | rfl
        · simp only [if_true] at own6
          go_wp2_with (at_builtin; refine app_own rfl _ _ appInt rfl encI w.heap.size _ [] rfl own6 _ _ _ xs rfl hnil sl1 (by simp; omega) hbw.size ?_; intro v7 w7 own7 hg7; have hb7 := belowApp hbw own6 hg7 (Nat.le_refl _) hbw.size; simp only [List.nil_append] at own7)
          go_roundg 1
          case measure => omega
          case rel => exact ⟨1, _, by omega, by omega, rfl, by go_num, (show Aside _ from hb7), (show Aside _ from own7)⟩
        · simp only [Nat.one_ne_zero, if_false, if_true] at own6
          have hlen : xs.length + n2 ≤ 100000000 := by rw [HL.out]; omega
          go_wp2_with (at_builtin; refine app_own rfl _ _ appInt rfl encI w.heap.size _ xs rfl own6 _ _ _ ys rfl hnil2 sl2 hlen hbw.size ?_; intro v7 w7 own7 hg7; have hb7 := belowApp hbw own6 hg7 (Nat.le_refl _) hbw.size)
          go_roundg 0
          case measure => omega
          case rel => exact ⟨2, _, by omega, by omega, rfl, by go_num, (show Aside _ from hb7), (show Aside _ from own7)⟩
        · simp only [show ¬ (2 : Nat) = 0 by omega, show ¬ (2 : Nat) = 1 by omega, if_false] at own6
          go_wp2
          go_ret
          exact ⟨_, rfl, own6, hbw⟩
end Go.Proofs.YtckgdlgdipfgmaaGreat

namespace Go.Proofs.YtckgdlgdipfgmaaGreat
set_option linter.unusedVariables false
set_option linter.unusedSimpArgs false
open Go.RowKit

theorem slN {α : Type} (w : World) (k : Nat) (enc : α → List Value) : Sl w k enc none 0 0 ([] : List α) := ⟨rfl, Nat.le_refl _, by omega, fun h => absurd h (by omega)⟩
theorem okNil {α : Type} (w : World) (b k : Nat) (enc : α → List Value) : SV.ok w b k enc ⟨none, 0, 0, ([] : List α)⟩ := ⟨slN w k enc, (fun b o e => by cases e), (fun _ => rfl), (fun _ e => by cases e)⟩
theorem clipInt_any (A : Option Addr) (n c : Nat) (hle : n ≤ c) (hmax : c ≤ 9223372036854775807) (hnil : A = none → c = 0) (w : World) :
    Calls Tryz.prog 82 #[.slice A n c] w fun e w' => .returned (.slice A n n) = e ∧ w = w' := by
  cases A with
  | none =>
    obtain rfl : c = 0 := hnil rfl
    obtain rfl : n = 0 := by omega
    clear hnil
    go_enter Tryz.func82, Tryz.ntmps82
    go_wp2
    go_ret
    exact ⟨rfl, rfl⟩
  | some a =>
    clear hnil
    go_enter Tryz.func82, Tryz.ntmps82
    go_wp2
    go_ret
    exact ⟨by simp, rfl⟩
end Go.Proofs.YtckgdlgdipfgmaaGreat

namespace Go.Proofs.YtckgdlgdipfgmaaGreat
set_option linter.unusedVariables false
set_option linter.unusedSimpArgs false
open Go.RowKit

section
variable {P : Program} {ops : Array Oper} {Q : Exit → Act → World → Prop} {md : Region.Mode}

/-- How many operations are still to come. -/
def left (listed : Array Bool) : Nat := (listed.toList.filter (! ·)).length

theorem filter_set (l : List Bool) : ∀ i, l[i]? = some false → ((l.set i true).filter (! ·)).length + 1 = (l.filter (! ·)).length := by
  induction l with
  | nil => intro i h; simp at h
  | cons x l ih =>
    intro i h
    cases i with
    | zero => simp at h; subst h; simp
    | succ i =>
      have := ih i (by simpa using h)
      cases x <;> simp <;> omega

theorem left_set {listed : Array Bool} {i : Nat} (h : listed.getD i true = false) : left (listed.setIfInBounds i true) + 1 = left listed := by
  have hi : listed.toList[i]? = some false := by
    rcases Nat.lt_or_ge i listed.size with h' | h'
    · simp [h'] at h ⊢; exact h
    · simp [Array.getElem?_eq_none h'] at h
  unfold left
  rw [Array.toList_setIfInBounds]
  exact filter_set _ _ hi

theorem unlisted_ready (hback : ∀ (i : Nat) (o : Oper), ops[i]? = some o → ∀ e ∈ o.after, Region.binds md e = true → e.on < i) {listed : Array Bool} (hr : Region.ready md ops listed = []) :
    ∀ i, i < ops.size → listed.getD i true = true := by
  intro i
  induction i using Nat.strongRecOn with
  | ind i ih =>
    intro hi
    cases hl : listed.getD i true with
    | true => rfl
    | false =>
      have : i ∈ Region.ready md ops listed := by
        rw [mem_ready]
        refine ⟨hl, ops[i], Array.getElem?_eq_getElem hi, fun e he hbe => ?_⟩
        have h1 := hback i _ (Array.getElem?_eq_getElem hi) e he hbe
        have h2 := ih e.on h1 (by omega)
        by_cases h3 : e.on < listed.size
        · simp [h3] at h2 ⊢; exact h2
        · exfalso
          have h4 : listed.size ≤ i := by omega
          simp [Array.getElem?_eq_none h4] at hl
      rw [hr] at this
      cases this

theorem wpAny_inv (I : Array Bool → Act → World → Prop)
    (hstep : ∀ listed a w i, I listed a w → i ∈ Region.ready md ops listed → wpOp P ops Q i (I (listed.setIfInBounds i true)) a w)
    (hend : ∀ listed a w, I listed a w → Region.ready md ops listed = [] → Q .normal a w) :
    ∀ fuel listed a w, left listed ≤ fuel → I listed a w → wpAny P md ops Q fuel listed a w := by
  intro fuel
  induction fuel with
  | zero =>
    intro listed a w hl hI
    have hr : Region.ready md ops listed = [] := by
      rw [List.eq_nil_iff_forall_not_mem]
      intro i hi
      have := left_set (mem_ready.1 hi).1
      omega
    exact ⟨hr, hend _ _ _ hI hr⟩
  | succ fuel ih =>
    intro listed a w hl hI
    refine ⟨hend _ _ _ hI, fun i hi => wpOp_mono (fun a' w' h => ih _ a' w' ?_ h) (hstep _ _ _ _ hI hi)⟩
    have := left_set (mem_ready.1 hi).1
    omega

theorem getD_put_same (a : Act) (d : Nat) (v : Value) (h : d < a.tmps.size) : (a.put (some d) v).tmps.getD d undef = v := by
  simp [Act.put, h]
theorem getD_put_ne (a : Act) (d : Option Nat) (k : Nat) (v : Value) (h : d ≠ some k) : (a.put d v).tmps.getD k undef = a.tmps.getD k undef := by
  cases d with
  | none => rfl
  | some d =>
    have : d ≠ k := fun e => h (by rw [e])
    simp [Act.put, Array.getElem?_setIfInBounds_ne this]

/-- What is known of the frame while the region runs: the slots that it does not write. -/
def Frm (ops : Array Oper) (a0 a : Act) : Prop :=
  a.defers = a0.defers ∧ a.tmps.size = a0.tmps.size ∧ ∀ k, (∀ (i : Nat) (o : Oper), ops[i]? = some o → o.dst ≠ some k) → a.tmps.getD k undef = a0.tmps.getD k undef

/-- What an operation leaves. -/
def Leaves (F : Nat → Value → World → Prop) (r T : Nat) (i : Nat) (o : Oper) (a : Act) (w : World) (b : Int) (a' : Act) (w' : World) : Prop :=
  ∃ v, a' = a.put o.dst v ∧ (∀ d, o.dst = some d → F i v w') ∧ w.grownBy w' (some r) ∧ Rd w' r T (b + 1)

theorem Leaves.val {F : Nat → Value → World → Prop} {r T i : Nat} {o : Oper} {a : Act} {w : World} {b : Int} {v : Value} {w' : World} (hF : F i v w') (hs : Stp r T w (b + 1) w') :
    Leaves F r T i o a w b (a.put o.dst v) w' := ⟨v, rfl, fun _ _ => hF, hs.grown, hs.rd⟩

/-- No operation writes slot k. -/
def drawFr (ops : Array Oper) (k : Nat) : Bool := ops.all fun o => !(o.dst == some k)
theorem drawFr_spec {ops : Array Oper} {k : Nat} (h : drawFr ops k = true) (i : Nat) (o : Oper) (ho : ops[i]? = some o) : o.dst ≠ some k := by
  have := Array.all_eq_true_iff_forall_mem.1 h o (Array.mem_of_getElem? ho)
  simpa using this

/-- The closed facts on the operations, by reckoning. -/
def drawChk (ops : Array Oper) (N : Nat) : Bool :=
  (List.range ops.size).all fun i => match ops[i]? with
    | none => true
    | some o => o.after.all (fun e => !Region.binds .any e || decide (e.on < i)) && o.guard.isNone && (match o.dst with
      | none => true
      | some d => decide (d < N) && (List.range ops.size).all fun j => match ops[j]? with
        | none => true
        | some y => !(y.dst == some d) || decide (j = i))
theorem drawChk_spec {ops : Array Oper} {N : Nat} (h : drawChk ops N = true) (i : Nat) (o : Oper) (ho : ops[i]? = some o) :
    (∀ e ∈ o.after, Region.binds .any e = true → e.on < i) ∧ o.guard = none ∧ ∀ d, o.dst = some d → d < N ∧ ∀ j y, ops[j]? = some y → y.dst = some d → i = j := by
  have hi : i < ops.size := (Array.getElem?_eq_some_iff.1 ho).1
  unfold drawChk at h
  rw [List.all_eq_true] at h
  have h1 := h i (List.mem_range.2 hi)
  rw [ho] at h1
  simp only [Bool.and_eq_true] at h1
  obtain ⟨⟨h2, h3⟩, h4⟩ := h1
  refine ⟨fun e he hbe => ?_, by simpa using h3, fun d hd => ?_⟩
  · have := Array.all_eq_true_iff_forall_mem.1 h2 e he
    simpa [hbe] using this
  · rw [hd] at h4
    simp only [Bool.and_eq_true, decide_eq_true_eq] at h4
    refine ⟨h4.1, fun j y hy hyd => ?_⟩
    have hj : j < ops.size := (Array.getElem?_eq_some_iff.1 hy).1
    have h5 := List.all_eq_true.1 h4.2 j (List.mem_range.2 hj)
    rw [hy] at h5
    simp [hyd] at h5
    exact h5.symm

/-- The last operation waits for every other one. -/
def lastChk (ops : Array Oper) (m : Nat) : Bool := decide (ops.size = m + 1) && match ops[m]? with
  | none => false
  | some o => (List.range m).all fun j => o.after.any fun e => Region.binds .any e && (e.on == j)

theorem region_draws {id : Nat} (hm : P.follows .mixedOrders = true) (F : Nat → Value → World → Prop) (r T m : Nat) (a0 : Act) (w0 w : World) (b : Int)
    (hchk : drawChk ops a0.tmps.size = true) (hlast : lastChk ops m = true)
    (hF : ∀ i v w w', F i v w → w.grownBy w' (some r) → F i v w')
    (hS : Stp r T w0 b w)
    (hob : ∀ (i : Nat) (o : Oper), i < m → ops[i]? = some o → ∀ (a : Act) (w : World) (b' : Int), b' ≤ b + m → Stp r T w0 b' w → Frm ops a0 a →
      (∀ e ∈ o.after, Region.binds .any e = true → ∀ oj d, ops[e.on]? = some oj → oj.dst = some d → F e.on (a.tmps.getD d undef) w) →
      o.wp P a w (Leaves F r T i o a w b') Q)
    (hend : ∀ (o : Oper), ops[m]? = some o → ∀ (a : Act) (w : World), Frm ops a0 a → (∀ (i : Nat) (x : Oper) (d : Nat), i < m → ops[i]? = some x → x.dst = some d → F i (a.tmps.getD d undef) w) → Stp r T w0 (b + m) w →
      o.wp P a w (fun a' w' => Q .normal a' w') Q) :
    (Code.region id ops true).wp P Q a0 w := by
  have hback : ∀ (i : Nat) (o : Oper), ops[i]? = some o → ∀ e ∈ o.after, Region.binds .any e = true → e.on < i := fun i o ho => (drawChk_spec hchk i o ho).1
  have hdst : ∀ (i j : Nat) (x y : Oper) (d : Nat), ops[i]? = some x → ops[j]? = some y → x.dst = some d → y.dst = some d → i = j := fun i j x y d hx hy hxd hyd => ((drawChk_spec hchk i x hx).2.2 d hxd).2 j y hy hyd
  have hlt : ∀ (i : Nat) (x : Oper) (d : Nat), ops[i]? = some x → x.dst = some d → d < a0.tmps.size := fun i x d hx hd => ((drawChk_spec hchk i x hx).2.2 d hd).1
  have hguard : ∀ (i : Nat) (x : Oper), ops[i]? = some x → x.guard = none := fun i x hx => (drawChk_spec hchk i x hx).2.1
  unfold lastChk at hlast
  rw [Bool.and_eq_true, decide_eq_true_eq] at hlast
  obtain ⟨hsize, hl⟩ := hlast
  have hm0 : ops[m]? = some (ops[m]'(by omega)) := Array.getElem?_eq_getElem (by omega)
  rw [hm0] at hl
  simp only [List.all_eq_true, List.mem_range] at hl
  refine wp_region_any hm ?_
  refine wpAny_inv (fun listed a w' => listed.size = ops.size ∧ ((listed.getD m true = true ∧ (∀ j, j < m → listed.getD j false = true) ∧ Q .normal a w') ∨ (listed.getD m true = false ∧ Frm ops a0 a ∧
      (∀ (i : Nat) (o : Oper) (d : Nat), listed.getD i false = true → ops[i]? = some o → o.dst = some d → F i (a.tmps.getD d undef) w') ∧
      ∃ c : Nat, c + left listed ≤ ops.size ∧ Stp r T w0 (b + c) w'))) ?_ ?_ _ _ _ _ ?_ ?_
  · intro listed a w' i ⟨hsz, hI⟩ hi
    obtain ⟨hun, o, ho, hdep⟩ := mem_ready.1 hi
    have him : i < ops.size := (Array.getElem?_eq_some_iff.1 ho).1
    unfold wpOp
    have hw : Region.wanted o (yielded ops a.tmps) = true := by simp [Region.wanted, hguard i o ho]
    simp only [ho, hw, if_true]
    left
    rcases hI with ⟨h1, h2, _⟩ | ⟨hlm, hfr, hv, c, hc, hS'⟩
    · exfalso
      by_cases e : i = m
      · subst e; rw [h1] at hun; cases hun
      · have h3 := h2 i (by omega)
        have h4 : i < listed.size := by omega
        simp [h4] at h3 hun
        rw [h3] at hun; cases hun
    · have hll := left_set hun
      by_cases e : i = m
      · subst e
        have hoe : o = ops[i] := by rw [hm0] at ho; injection ho with ho; exact ho.symm
        have hall : ∀ j, j < i → listed.getD j false = true := by
          intro j hj
          obtain ⟨e, he, hb⟩ := Array.any_eq_true'.1 (hl j hj)
          simp only [Bool.and_eq_true, beq_iff_eq] at hb
          have := hdep e (by rw [hoe]; exact he) hb.1
          rwa [hb.2] at this
        have hl1 : 1 ≤ left listed := by omega
        refine Oper.wp_mono ?_ (hend o ho a w' hfr (fun j x d hj hx hd => hv j x d (hall j hj) hx hd) (hS'.le (by omega)))
        intro a' w'' hq
        refine ⟨by simpa using hsz, .inl ⟨?_, fun j hj => ?_, hq⟩⟩
        · have : i < listed.size := by omega
          simp [this]
        · rw [getD_set_ne false (by omega)]; exact hall j hj
      · refine Oper.wp_mono ?_ (hob i o (by omega) ho a w' (b + c) (by omega) hS' hfr (fun e he hb oj d hoj hd => hv e.on oj d (hdep e he hb) hoj hd))
        rintro a' w'' ⟨v, rfl, hFv, hg, hrd⟩
        refine ⟨by simpa using hsz, .inr ⟨by rw [getD_set_ne true e]; exact hlm, ⟨?_, ?_, ?_⟩, ?_, c + 1, by omega, ?_⟩⟩
        · rw [← hfr.1]; cases o.dst <;> rfl
        · rw [← hfr.2.1]; cases o.dst <;> simp [Act.put]
        · intro k hk
          rw [getD_put_ne _ _ _ _ (hk i o ho)]
          exact hfr.2.2 k hk
        · intro j oj d hj hoj hd
          by_cases e : j = i
          · subst e
            rw [ho] at hoj
            injection hoj with hoj
            subst hoj
            rw [hd, getD_put_same _ _ _ (by rw [hfr.2.1]; exact hlt j o d ho hd)]
            exact hFv d hd
          · rw [getD_put_ne _ _ _ _ (fun h => e (hdst j i oj o d hoj ho hd h))]
            refine hF j _ w' w'' (hv j oj d ?_ hoj hd) hg
            rwa [getD_set_ne false (Ne.symm e)] at hj
        · exact ⟨grown_trans hS'.grown hg, by have h2 : (b + ((c + 1 : Nat) : Int)) = b + c + 1 := by omega
                                              rw [h2]; exact hrd⟩
  · intro listed a w' ⟨hsz, hI⟩ hr
    rcases hI with ⟨_, _, hq⟩ | ⟨hlm, _⟩
    · exact hq
    · have := unlisted_ready hback hr m (by omega)
      rw [hlm] at this; cases this
  · unfold left
    simp
  · refine ⟨by simp, .inr ⟨by have : m < ops.size := by omega
                              simp [this], ⟨rfl, rfl, fun _ _ => rfl⟩, fun i o d hi => ?_, 0, ?_, ?_⟩⟩
    · exfalso
      rcases Nat.lt_or_ge i ops.size with h | h
      · simp [h] at hi
      · simp [h] at hi
    · unfold left
      simp
    · simpa using hS.drew
end
end Go.Proofs.YtckgdlgdipfgmaaGreat
