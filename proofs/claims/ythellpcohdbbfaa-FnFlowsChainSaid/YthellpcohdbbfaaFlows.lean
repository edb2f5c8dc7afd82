/- flows and FlowsTo of impl, FlowsTo of spec. -/
import Derived.Test.YthellpcohdbbfaaFlow
import Derived.Test.YthellpcohdbbfaaAppT
namespace Go.Proofs.Ythellpcohdbbfaa
set_option linter.unusedVariables false
set_option linter.unusedSimpArgs false
open Go.RowKit

def eB (x : Bool) : List Value := [.bool x]
theorem encB : Enc eB 1 := ⟨fun _ => rfl, fun x u h => by simp [eB] at h; subst h; rfl⟩
theorem zeroBool : ZeroT Try.prog 26 4 1 eB false := ZeroT.mk' (z := .bool false) (by kernel_rfl) (by kernel_rfl) rfl (by decide) (bytes := 1) (by decide)
/-- Flags in a block. -/
def flagA (out : List Bool) : Array Value := (out.map Value.bool).toArray
theorem flag_flat (out : List Bool) : (out.flatMap eB).toArray = flagA out := by
  unfold flagA
  congr 1
  induction out with
  | nil => rfl
  | cons x l ih => simp [List.flatMap_cons, eB, ih]
theorem Own.full {α : Type} {w : World} {base E k g n : Nat} {enc : α → List Value} {xs : List α} (hk : Enc enc k) (h : Own w base E k enc (.slice (some ⟨g, 0, none⟩) n n) xs) : Blk w g E (xs.flatMap enc).toArray ∧ base ≤ g := by
  rcases h.2 with ⟨h1, _⟩ | ⟨g', cap, cur, h1, hb, hg, hnc, hm, hs, ht⟩
  · cases h1
  · injection h1 with h2 h3 h4
    injection h2 with h2
    injection h2 with h2 _
    subst h2 h4
    refine ⟨?_, hb⟩
    have : cur = (xs.flatMap enc).toArray := by
      rw [← ht]
      have hx : xs.length = n := h3.symm
      rw [hx, ← hs, List.take_of_length_le (by simp)]
    rw [← this]
    exact hg
def flowStep (D : Nat → Nat → Bool) (out : List Bool) (a b : Nat) : List Bool := out.set a (out.getD a false || (out.getD b false && D a b))
def flowB (D : Nat → Nat → Bool) (a : Nat) : Nat → List Bool → List Bool
  | 0, out => out
  | b + 1, out => flowStep D (flowB D a b out) a b
def flowA (D : Nat → Nat → Bool) (P : Nat) : Nat → List Bool → List Bool
  | 0, out => out
  | a + 1, out => flowB D a P (flowA D P a out)
def flowR (D : Nat → Nat → Bool) (P : Nat) : Nat → List Bool → List Bool
  | 0, out => out
  | r + 1, out => flowA D P P (flowR D P r out)
def flowsL (D : Nat → Nat → Bool) (P N : Nat) : List Bool := flowR D P P ((List.replicate P false).set N true)
theorem flowB_len (D : Nat → Nat → Bool) (a : Nat) : ∀ (b : Nat) (out : List Bool), (flowB D a b out).length = out.length
  | 0, _ => rfl
  | b + 1, out => by simp [flowB, flowStep, flowB_len D a b out]
theorem flowA_len (D : Nat → Nat → Bool) (P : Nat) : ∀ (a : Nat) (out : List Bool), (flowA D P a out).length = out.length
  | 0, _ => rfl
  | a + 1, out => by simp [flowA, flowB_len, flowA_len D P a out]
theorem flowR_len (D : Nat → Nat → Bool) (P : Nat) : ∀ (r : Nat) (out : List Bool), (flowR D P r out).length = out.length
  | 0, _ => rfl
  | r + 1, out => by simp [flowR, flowA_len, flowR_len D P r out]
theorem flowsL_len (D : Nat → Nat → Bool) (P N : Nat) : (flowsL D P N).length = P := by simp [flowsL, flowR_len]
theorem flag_cell {w : World} {g t : Nat} {out : List Bool} (h : Blk w g t (flagA out)) {i : Nat} (hi : i < out.length) : w.cell? ⟨g, i, none⟩ = some (.bool (out.getD i false)) := by
  rw [h.cell]
  unfold flagA
  simp [hi]
theorem flag_set {w : World} {g t : Nat} {out : List Bool} (h : Blk w g t (flagA out)) (i : Nat) (v : Bool) : Blk (w.setCell ⟨g, i, none⟩ (.bool v)) g t (flagA (out.set i v)) := by
  have := h.set_ i (.bool v)
  unfold flagA at this ⊢
  simpa [List.map_set] using this
set_option maxRecDepth 100000 in
set_option maxHeartbeats 4000000 in
theorem flows_any (A : Option Addr) (n c : Nat) (xs : List (Int × Int × Int × Int)) (P N : Nat) (hP : P ≤ 100) (hN : N < P) (w : World) (hs : Sl w 4 eC A n c xs) :
    Calls Try.prog 50 #[.slice A n c, .int .i64 P, .int .i64 N] w (Post (fun g => .slice (some ⟨g, 0, none⟩) P P) fun g w' => Blk w' g 4 (flagA (flowsL (fun a b => directB xs a b) P N)) ∧ w.heap.size ≤ g ∧ Below w.heap.size w w') := by
  obtain ⟨D, hD⟩ : ∃ D : Nat → Nat → Bool, ∀ a b : Nat, D a b = directB xs a b := ⟨_, fun _ _ => rfl⟩
  rw [show (fun (a b : Nat) => directB xs a b) = D from funext fun a => funext fun b => (hD a b).symm]
  have hDR := fun W hW (a b : Nat) => direct_any A n c xs (a : Int) (b : Int) W (hs.below hW)
  replace hD := Lib.hid hD
  have hN2 : (N : Int) < (P : Int) := by omega
  have hP2 : (0 : Int) ≤ (P : Int) := by omega
  go_enter Try.func50, Try.ntmps50
  go_wp2_with (at_make; refine make_own rfl _ _ zeroBool rfl encB w.heap.size _ _ P rfl rfl (by omega) (by omega) (by omega) (Nat.le_refl _) ?_; intro w1 own1 hg1; have hb1 := below_of_grown hg1; obtain ⟨B0, -⟩ := own1.full encB; rw [flag_flat] at B0; have q0 := flag_cell B0 (i := N) (by simpa using hN); have f0 := B0.frozen)
  have hgw := Nat.le_refl w.heap.size
  have B1 := flag_set B0 N true
  have hb2 := hb1.setCell (p := ⟨w.heap.size, N, none⟩) (Nat.le_refl _) (.bool true)
  have hl0 : ((List.replicate P false).set N true).length = P := by simp
  have hres := Lib.hid (show flowsL D P N = flowR D P P ((List.replicate P false).set N true) from rfl)
  generalize (List.replicate P false).set N true = out0 at *
  clear B0 q0 f0 own1 hg1 hb1
  go_loopg [16] P (fun gg s16 wr => ∃ r : Nat, r ≤ P ∧ P - r ≤ gg ∧ s16 = .int .i64 r ∧ Aside (Below w.heap.size w wr) ∧ Aside (Blk wr w.heap.size 4 (flagA (flowR D P r out0))))
  case atStart => exact ⟨0, Nat.zero_le _, by omega, rfl, (show Aside _ from hb2), (show Aside _ from B1)⟩
  case round =>
    obtain ⟨r, hr, hgr, rfl, BW, BB⟩ := hrel
    by_cases hltr : r < P
    · have hltrz : (r : Int) < (P : Int) := by omega
      obtain ⟨out1, h1⟩ : ∃ out1, flowR D P r out0 = out1 := ⟨_, rfl⟩
      have hl1 : out1.length = P := by rw [← h1, flowR_len, hl0]
      rw [h1] at BB
      have hbw1 := BW.out
      have B1 := BB.out
      replace h1 := Lib.hid h1
      clear BW BB
      go_wp2_with fail
      go_loopg [19] P (fun gg s19 wr => ∃ a : Nat, a ≤ P ∧ P - a ≤ gg ∧ s19 = .int .i64 a ∧ Aside (Below w.heap.size w wr) ∧ Aside (Blk wr w.heap.size 4 (flagA (flowA D P a out1))))
      case atStart => exact ⟨0, Nat.zero_le _, by omega, rfl, (show Aside _ from hbw1), (show Aside _ from B1)⟩
      case round =>
        obtain ⟨a, ha, hga, rfl, BW2, BB2⟩ := hrel
        by_cases hlta : a < P
        · have hltaz : (a : Int) < (P : Int) := by omega
          obtain ⟨out2, h2⟩ : ∃ out2, flowA D P a out1 = out2 := ⟨_, rfl⟩
          have hl2 : out2.length = P := by rw [← h2, flowA_len, hl1]
          rw [h2] at BB2
          have hbw2 := BW2.out
          have B2 := BB2.out
          replace h2 := Lib.hid h2
          clear BW2 BB2
          go_wp2_with fail
          go_loopg [23] P (fun gg s23 wr => ∃ b : Nat, b ≤ P ∧ P - b ≤ gg ∧ s23 = .int .i64 b ∧ Aside (Below w.heap.size w wr) ∧ Aside (Blk wr w.heap.size 4 (flagA (flowB D a b out2))))
          case atStart => exact ⟨0, Nat.zero_le _, by omega, rfl, (show Aside _ from hbw2), (show Aside _ from B2)⟩
          case round =>
            obtain ⟨b, hb, hgb, rfl, BW3, BB3⟩ := hrel
            by_cases hltb : b < P
            · have hltbz : (b : Int) < (P : Int) := by omega
              have HS := Lib.hid (show flowB D a (b + 1) out2 = (flowB D a b out2).set a ((flowB D a b out2).getD a false || ((flowB D a b out2).getD b false && D a b)) from rfl)
              have B3 := BB3.out
              have hbw3 := BW3.out
              have hl3 := flowB_len D a b out2
              generalize flowB D a b out2 = out3 at *
              have qa := flag_cell B3 (i := a) (by omega)
              have qb := flag_cell B3 (i := b) (by omega)
              have fB := B3.frozen
              have hdr := hDR _ hbw3 a b
              rw [← hD.out] at hdr
              generalize out3.getD a false = xa at *
              generalize out3.getD b false = xb at *
              generalize D a b = xd at *
              cases xa
              · cases xb
                · go_wp2
                  go_roundg (P - (b + 1))
                  case measure => omega
                  case rel => exact ⟨b + 1, by omega, by omega, by go_num, (show Aside _ from hbw3.setCell (p := ⟨w.heap.size, a, none⟩) hgw _), (show Aside _ from by rw [HS.out]; exact flag_set B3 a false)⟩
                · go_wp2_with fail
                  refine hdr.mono ?_
                  rintro e w4 ⟨rfl, hb4⟩
                  have hbw4 := thn hbw3 hb4
                  have B4 := B3.below hb4
                  have qa4 := flag_cell B4 (i := a) (by omega)
                  have fB4 := B4.frozen
                  go_wp2
                  go_roundg (P - (b + 1))
                  case measure => omega
                  case rel => exact ⟨b + 1, by omega, by omega, by go_num, (show Aside _ from hbw4.setCell (p := ⟨w.heap.size, a, none⟩) hgw _), (show Aside _ from by rw [HS.out]; exact flag_set B4 a xd)⟩
              · go_wp2
                go_roundg (P - (b + 1))
                case measure => omega
                case rel => exact ⟨b + 1, by omega, by omega, by go_num, (show Aside _ from hbw3.setCell (p := ⟨w.heap.size, a, none⟩) hgw _), (show Aside _ from by rw [HS.out]; exact flag_set B3 a true)⟩
            · have hltbz : ¬ (b : Int) < (P : Int) := by omega
              obtain rfl : b = P := by omega
              go_wp2
              go_roundg (b - (a + 1))
              case measure => omega
              case rel => exact ⟨a + 1, by omega, by omega, by go_num, (show Aside _ from BW3.out), (show Aside _ from by rw [show flowA D b (a + 1) out1 = flowB D a b (flowA D b a out1) from rfl, h2.out]; exact BB3.out)⟩
        · have hltaz : ¬ (a : Int) < (P : Int) := by omega
          obtain rfl : a = P := by omega
          go_wp2
          go_roundg (a - (r + 1))
          case measure => omega
          case rel => exact ⟨r + 1, by omega, by omega, by go_num, (show Aside _ from BW2.out), (show Aside _ from by rw [show flowR D a (r + 1) out0 = flowA D a a (flowR D a r out0) from rfl, h1.out]; exact BB2.out)⟩
    · have hltrz : ¬ (r : Int) < (P : Int) := by omega
      obtain rfl : r = P := by omega
      go_wp2
      go_ret
      exact ⟨w.heap.size, rfl, by rw [hres.out]; exact BB.out, hgw, BW.out⟩
set_option maxHeartbeats 1000000 in
theorem flowsTo_any (A : Option Addr) (n c : Nat) (xs : List (Int × Int × Int × Int)) (P N : Nat) (hok : chansOk xs P = true) (hN : N < P) (w : World) (hs : Sl w 4 eC A n c xs) :
    Calls Try.prog 15 #[.slice A n c, .int .i64 P, .int .i64 N] w (Post (fun g => .slice (some ⟨g, 0, none⟩) P P) fun g w' => Blk w' g 4 (flagA (flowsL (fun a b => directB xs a b) P N)) ∧ w.heap.size ≤ g ∧ Below w.heap.size w w') := by
  have hP : P ≤ 5 := by
    unfold chansOk at hok
    simp only [Bool.and_eq_true, inB_true] at hok
    omega
  have h1 := channelsValid_any A n c xs P w hs
  rw [hok] at h1
  have h2 := fun W => in_any N 0 ((P : Int) - 1) W
  rw [inB_true.2 (show 0 ≤ (N : Int) ∧ (N : Int) ≤ (P : Int) - 1 by omega)] at h2
  have h3 := fun W hW => flows_any A n c xs P N (by omega) hN W (hs.below hW)
  generalize flowsL (fun a b => directB xs a b) P N = res at *
  clear hs hok
  go_enter Try.func15, Try.ntmps15
  go_wp2_with fail
  refine h1.mono ?_; rintro e w1 ⟨rfl, hb1⟩
  go_wp2_with fail
  refine (h2 _).mono ?_; rintro e w' ⟨rfl, rfl⟩
  go_wp2_with fail
  refine (h3 _ hb1).mono ?_
  rintro e w2 ⟨g, rfl, B, hg, hb2⟩
  go_wp2
  go_ret
  exact ⟨g, rfl, B, by have := hb1.size; omega, thn hb1 hb2⟩
set_option maxRecDepth 100000 in
set_option maxHeartbeats 4000000 in
theorem specFlowsTo_any (A : Option Addr) (n c : Nat) (xs : List (Int × Int × Int × Int)) (P N : Nat) (hok : chansOk xs P = true) (hN : N < P) (w : World) (hs : Sl w 4 eC A n c xs) :
    Calls Try.prog 17 #[.slice A n c, .int .i64 P, .int .i64 N] w (Post (fun g => .slice (some ⟨g, 0, none⟩) P P) fun g w' => Blk w' g 4 (flagA (flowsL (fun a b => directB xs a b) P N)) ∧ w.heap.size ≤ g ∧ Below w.heap.size w w') := by
  have hP : P ≤ 5 := by
    have := hok
    unfold chansOk at this
    simp only [Bool.and_eq_true, inB_true] at this
    omega
  obtain ⟨D, hD⟩ : ∃ D : Nat → Nat → Bool, ∀ a b : Nat, D a b = directB xs a b := ⟨_, fun _ _ => rfl⟩
  rw [show (fun (a b : Nat) => directB xs a b) = D from funext fun a => funext fun b => (hD a b).symm]
  have hDR := fun W hW (a b : Nat) (ha : a < P) (hb : b < P) => show Calls Try.prog 24 #[.slice A n c, .int .i64 P, .int .i64 a, .int .i64 b] W fun e w' => .returned (.bool (directB xs a b)) = e ∧ Below W.heap.size W w' by
    have := specFlowDirect_any A n c xs P (a : Int) (b : Int) (by omega) W (hs.below hW)
    unfold flowD at this
    rw [hok, inB_true.2 (show 0 ≤ (a : Int) ∧ (a : Int) ≤ (P : Int) - 1 by omega), inB_true.2 (show 0 ≤ (b : Int) ∧ (b : Int) ≤ (P : Int) - 1 by omega)] at this
    exact this
  replace hD := Lib.hid hD
  have h1 := specChannelsValid_any A n c xs P (by omega) w hs
  rw [hok] at h1
  have h2 := fun W => l1In_any N 0 ((P : Int) - 1) W
  rw [inB_true.2 (show 0 ≤ (N : Int) ∧ (N : Int) ≤ (P : Int) - 1 by omega)] at h2
  have hN2 : (N : Int) < (P : Int) := by omega
  have hP2 : (0 : Int) ≤ (P : Int) := by omega
  clear hs hok
  go_enter Try.func17, Try.ntmps17
  go_wp2_with fail
  refine h1.mono ?_; rintro e w0 ⟨rfl, hb0⟩
  go_wp2_with fail
  refine (h2 _).mono ?_; rintro e w' ⟨rfl, rfl⟩
  have hgw := hb0.size
  go_wp2_with (at_make; refine make_own rfl _ _ zeroBool rfl encB w0.heap.size _ _ P rfl rfl (by omega) (by omega) (by omega) (Nat.le_refl _) ?_; intro w1 own1 hg1; have hb1 := thn hb0 (below_of_grown hg1); obtain ⟨B0, -⟩ := own1.full encB; rw [flag_flat] at B0; have q0 := flag_cell B0 (i := N) (by simpa using hN); have f0 := B0.frozen)
  have B1 := flag_set B0 N true
  have hb2 := hb1.setCell (p := ⟨w0.heap.size, N, none⟩) hgw (.bool true)
  have hl0 : ((List.replicate P false).set N true).length = P := by simp
  have hres := Lib.hid (show flowsL D P N = flowR D P P ((List.replicate P false).set N true) from rfl)
  generalize (List.replicate P false).set N true = out0 at *
  clear B0 q0 f0 own1 hg1 hb1 h1 h2
  go_loopg [8] P (fun gg s16 wr => ∃ r : Nat, r ≤ P ∧ P - r ≤ gg ∧ s16 = .int .i64 r ∧ Aside (Below w.heap.size w wr) ∧ Aside (Blk wr w0.heap.size 4 (flagA (flowR D P r out0))))
  case atStart => exact ⟨0, Nat.zero_le _, by omega, rfl, (show Aside _ from hb2), (show Aside _ from B1)⟩
  case round =>
    obtain ⟨r, hr, hgr, rfl, BW, BB⟩ := hrel
    by_cases hltr : r < P
    · have hltrz : (r : Int) < (P : Int) := by omega
      obtain ⟨out1, h1⟩ : ∃ out1, flowR D P r out0 = out1 := ⟨_, rfl⟩
      have hl1 : out1.length = P := by rw [← h1, flowR_len, hl0]
      rw [h1] at BB
      have hbw1 := BW.out
      have B1 := BB.out
      replace h1 := Lib.hid h1
      clear BW BB
      go_wp2_with fail
      go_loopg [9] P (fun gg s19 wr => ∃ a : Nat, a ≤ P ∧ P - a ≤ gg ∧ s19 = .int .i64 a ∧ Aside (Below w.heap.size w wr) ∧ Aside (Blk wr w0.heap.size 4 (flagA (flowA D P a out1))))
      case atStart => exact ⟨0, Nat.zero_le _, by omega, rfl, (show Aside _ from hbw1), (show Aside _ from B1)⟩
      case round =>
        obtain ⟨a, ha, hga, rfl, BW2, BB2⟩ := hrel
        by_cases hlta : a < P
        · have hltaz : (a : Int) < (P : Int) := by omega
          obtain ⟨out2, h2⟩ : ∃ out2, flowA D P a out1 = out2 := ⟨_, rfl⟩
          have hl2 : out2.length = P := by rw [← h2, flowA_len, hl1]
          rw [h2] at BB2
          have hbw2 := BW2.out
          have B2 := BB2.out
          replace h2 := Lib.hid h2
          clear BW2 BB2
          go_wp2_with fail
          go_loopg [10] P (fun gg s23 wr => ∃ b : Nat, b ≤ P ∧ P - b ≤ gg ∧ s23 = .int .i64 b ∧ Aside (Below w.heap.size w wr) ∧ Aside (Blk wr w0.heap.size 4 (flagA (flowB D a b out2))))
          case atStart => exact ⟨0, Nat.zero_le _, by omega, rfl, (show Aside _ from hbw2), (show Aside _ from B2)⟩
          case round =>
            obtain ⟨b, hb, hgb, rfl, BW3, BB3⟩ := hrel
            by_cases hltb : b < P
            · have hltbz : (b : Int) < (P : Int) := by omega
              have HS := Lib.hid (show flowB D a (b + 1) out2 = (flowB D a b out2).set a ((flowB D a b out2).getD a false || ((flowB D a b out2).getD b false && D a b)) from rfl)
              have B3 := BB3.out
              have hbw3 := BW3.out
              have hl3 := flowB_len D a b out2
              generalize flowB D a b out2 = out3 at *
              have qa := flag_cell B3 (i := a) (by omega)
              have qb := flag_cell B3 (i := b) (by omega)
              have fB := B3.frozen
              have hdr := hDR _ hbw3 a b hlta hltb
              rw [← hD.out] at hdr
              generalize out3.getD a false = xa at *
              generalize out3.getD b false = xb at *
              generalize D a b = xd at *
              cases xa
              · cases xb
                · go_wp2
                  go_roundg (P - (b + 1))
                  case measure => omega
                  case rel => exact ⟨b + 1, by omega, by omega, by go_num, (show Aside _ from hbw3.setCell (p := ⟨w0.heap.size, a, none⟩) hgw _), (show Aside _ from by rw [HS.out]; exact flag_set B3 a false)⟩
                · go_wp2_with fail
                  refine hdr.mono ?_
                  rintro e w4 ⟨rfl, hb4⟩
                  have hbw4 := thn hbw3 hb4
                  have B4 := B3.below hb4
                  have qa4 := flag_cell B4 (i := a) (by omega)
                  have fB4 := B4.frozen
                  go_wp2
                  go_roundg (P - (b + 1))
                  case measure => omega
                  case rel => exact ⟨b + 1, by omega, by omega, by go_num, (show Aside _ from hbw4.setCell (p := ⟨w0.heap.size, a, none⟩) hgw _), (show Aside _ from by rw [HS.out]; exact flag_set B4 a xd)⟩
              · go_wp2
                go_roundg (P - (b + 1))
                case measure => omega
                case rel => exact ⟨b + 1, by omega, by omega, by go_num, (show Aside _ from hbw3.setCell (p := ⟨w0.heap.size, a, none⟩) hgw _), (show Aside _ from by rw [HS.out]; exact flag_set B3 a true)⟩
            · have hltbz : ¬ (b : Int) < (P : Int) := by omega
              obtain rfl : b = P := by omega
              go_wp2
              go_roundg (b - (a + 1))
              case measure => omega
              case rel => exact ⟨a + 1, by omega, by omega, by go_num, (show Aside _ from BW3.out), (show Aside _ from by rw [show flowA D b (a + 1) out1 = flowB D a b (flowA D b a out1) from rfl, h2.out]; exact BB3.out)⟩
        · have hltaz : ¬ (a : Int) < (P : Int) := by omega
          obtain rfl : a = P := by omega
          go_wp2
          go_roundg (a - (r + 1))
          case measure => omega
          case rel => exact ⟨r + 1, by omega, by omega, by go_num, (show Aside _ from BW2.out), (show Aside _ from by rw [show flowR D a (r + 1) out0 = flowA D a a (flowR D a r out0) from rfl, h1.out]; exact BB2.out)⟩
    · have hltrz : ¬ (r : Int) < (P : Int) := by omega
      obtain rfl : r = P := by omega
      go_wp2
      go_ret
      exact ⟨w0.heap.size, rfl, by rw [hres.out]; exact BB.out, hgw, BW.out⟩
end Go.Proofs.Ythellpcohdbbfaa
