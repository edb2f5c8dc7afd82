/- The walk of FnFlowsChain. -/
import Derived.Test.YthellpcohdbbfaaFlows
import Derived.Test.YthellpcohdbbfaaAlive
import Derived.Test.YthellpcohdbbfaaL1In
import Derived.Test.YthellpcohdbbfaaPick
namespace Go.Proofs.Ythellpcohdbbfaa
set_option linter.unusedVariables false
set_option linter.unusedSimpArgs false
open Go.RowKit

def chainC (m k : Nat) : Int × Int × Int × Int := (1 + (((m + k) % 3 : Nat) : Int), (k : Int), (k : Int) + 1, 1)
def chainCs (m t : Nat) : List (Int × Int × Int × Int) := (List.range t).map (chainC m)
def credits (m t : Nat) : Bool := (List.range t).any fun k => 1 + (((m + k) % 3 : Nat) : Int) == 3
theorem chainCs_mod (m t : Nat) : chainCs m t = chainCs (m % 3) t := by
  unfold chainCs
  refine List.map_congr_left fun k _ => ?_
  unfold chainC
  rw [show (m + k) % 3 = (m % 3 + k) % 3 by omega]
theorem credits_mod (m t : Nat) : credits m t = credits (m % 3) t := by
  unfold credits
  congr 1
  funext k
  rw [show (m + k) % 3 = (m % 3 + k) % 3 by omega]
theorem chainCs_step (m t : Nat) : chainCs m (t + 1) = chainCs m t ++ [chainC m t] := by simp [chainCs, List.range_succ]
theorem credits_step (m t : Nat) : credits m (t + 1) = (credits m t || (1 + (((m + t) % 3 : Nat) : Int) == 3)) := by simp [credits, List.range_succ]
def chainChk : Bool := [2, 3, 4, 5].all fun (P : Nat) => [0, 1, 2].all fun (m : Nat) => chansOk (chainCs m (P - 1)) P && (List.range P).all fun (N : Nat) =>
  (flowsL (fun a b => directB (chainCs m (P - 1)) a b) P N).getD 0 false && (credits m (P - 1) || !decide (N < P - 1) || !(flowsL (fun a b => directB (chainCs m (P - 1)) a b) P N).getD (P - 1) false)
set_option maxRecDepth 100000 in
theorem chainChk_true : chainChk = true := by kernel_rfl
theorem chain_ok {P : Nat} (hP : 2 ≤ P ∧ P ≤ 5) (m : Nat) : chansOk (chainCs m (P - 1)) P = true ∧ ∀ N, N < P → (flowsL (fun a b => directB (chainCs m (P - 1)) a b) P N).getD 0 false = true ∧
    (credits m (P - 1) = false → N < P - 1 → (flowsL (fun a b => directB (chainCs m (P - 1)) a b) P N).getD (P - 1) false = false) := by
  rw [chainCs_mod, credits_mod]
  have h := chainChk_true
  unfold chainChk at h
  rw [List.all_eq_true] at h
  have h1 := h P (by simp; omega)
  rw [List.all_eq_true] at h1
  have h2 := h1 (m % 3) (by simp; omega)
  rw [Bool.and_eq_true, List.all_eq_true] at h2
  refine ⟨h2.1, fun N hN => ?_⟩
  have h3 := h2.2 N (List.mem_range.2 hN)
  rw [Bool.and_eq_true] at h3
  refine ⟨h3.1, fun hc hl => ?_⟩
  have h4 := h3.2
  rw [hc, decide_eq_true hl] at h4
  simpa using h4
theorem sameFlags_any (g g' P : Nat) (out : List Bool) (hl : out.length = P) (hP : P ≤ 1000) (w : World) (hB : Blk w g 4 (flagA out)) (hB' : Blk w g' 4 (flagA out)) :
    Calls Try.prog 16 #[.slice (some ⟨g, 0, none⟩) P P, .slice (some ⟨g', 0, none⟩) P P] w fun e w' => .returned (.bool true) = e ∧ Below w.heap.size w w' := by
  have HL := Lib.hid hl
  go_enter Try.func16, Try.ntmps16
  go_wp2
  go_loopg [5] P (fun gg s5 wr => ∃ kk : Nat, kk ≤ P ∧ P - kk ≤ gg ∧ s5 = .int .i64 kk ∧ Aside (Below w.heap.size w wr))
  case atStart => exact ⟨0, Nat.zero_le _, by omega, rfl, (show Aside _ from Below.refl _ _)⟩
  case round =>
    obtain ⟨kk, hkk, hg, rfl, BW⟩ := hrel
    by_cases hlt : kk < P
    · have hltz : (kk : Int) < (P : Int) := by omega
      have q0 := flag_cell (hB.below BW.out) (i := kk) (by rw [HL.out]; exact hlt)
      have q1 := flag_cell (hB'.below BW.out) (i := kk) (by rw [HL.out]; exact hlt)
      generalize out.getD kk false = x at *
      go_wp2_with fail
      go_quiet (fail)
      go_wp2
      go_roundg (P - (kk + 1))
      case measure => omega
      case rel => exact ⟨kk + 1, by omega, by omega, by go_num, (show Aside _ from (by have hBW := BW.out; repeat (first | exact Below.refl _ _ | assumption | apply alo | (apply Below.setCell; rotate_left; (first | assumption | exact Nat.le_refl _ | (simp only []; omega))) | apply Below.drew | apply belowDrewN | (refine thn ?_ (by assumption)))))⟩
    · have hltz : ¬ (kk : Int) < (P : Int) := by omega
      obtain rfl : kk = P := by omega
      go_wp2
      go_ret
      exact ⟨rfl, BW.out⟩
set_option maxRecDepth 100000 in
set_option maxHeartbeats 2000000 in
theorem lawFlowsChain (A : Option Addr) (n c : Nat) (zs : List Int) (A' : Option Addr) (n' c' : Nat) (zs' : List Int) (w : World) (h : Code w A n c zs) (h' : Code w A' n' c' zs') :
    Calls Try.prog 3 #[.slice A n c, .slice A' n' c'] w fun e w' => .returned (.bool true) = e ∧ Below w.heap.size w w' := by
  have hle := h.le
  have hmax := h.max
  have hle' := h'.le
  have hmax' := h'.max
  clear h h'
  by_cases hn : n ≤ 1048576
  · have hnz : ¬ 1048576 < (n : Int) := by omega
    by_cases hn' : n' ≤ 1048576
    · have hnz' : ¬ 1048576 < (n' : Int) := by omega
      obtain ⟨P, hP⟩ : ∃ P : Nat, 2 + n % 4 = P := ⟨_, rfl⟩
      have hP2 : 2 + (n : Int) % 4 = (P : Int) := by omega
      have hP3 : 2 ≤ P ∧ P ≤ 5 := by omega
      replace hP2 := Lib.hid hP2
      have hchain := Lib.hid (chain_ok hP3 n')
      obtain ⟨hPa, hPb⟩ := hP3
      clear hP
      have own0 := Own.of_blk (base := w.heap.size) (xs := ([] : List (Int × Int × Int × Int))) (enc := eC) (Blk.new w 25 #[]) (Nat.le_refl _) encC (by simp [maxLen])
      have hb0 := alo (Below.refl w.heap.size w) (.cells #[] 25)
      simp only [List.length_nil] at own0
      go_enter Try.func3, Try.ntmps3
      go_wp2_with fail
      simp only [hP2.out]
      go_loopg [6, 7, 8] P (fun gg s6 s7 s8 wr => ∃ (kk : Nat) (v : Value), kk + 1 ≤ P ∧ P - kk ≤ gg ∧ s6 = v ∧ s7 = .bool (credits n' kk) ∧ s8 = .int .i64 kk ∧ Aside (Below w.heap.size w wr) ∧ Aside (Own wr w.heap.size 25 4 eC v (chainCs n' kk)))
      case atStart => exact ⟨0, _, by omega, by omega, rfl, rfl, rfl, (show Aside _ from hb0), (show Aside _ from own0)⟩
      case round =>
        obtain ⟨kk, v, hkk, hg, hv6, rfl, rfl, BW, OW⟩ := hrel
        subst hv6
        clear hb0 own0
        have own6 := OW.out
        have hbw := BW.out
        clear OW BW
        by_cases hlt : kk + 1 < P
        · have hltz : (kk : Int) + 1 < (P : Int) := by omega
          obtain ⟨r, hr⟩ : ∃ r : Nat, (n' + kk) % 3 = r := ⟨_, rfl⟩
          have hrz : ((n' : Int) + (kk : Int)) % 3 = (r : Int) := by omega
          have HC := Lib.hid (show credits n' (kk + 1) = (credits n' kk || (1 + (r : Int) == 3)) by rw [credits_step, hr])
          have HL := Lib.hid (show chainCs n' (kk + 1) = chainCs n' kk ++ [(1 + (r : Int), (kk : Int), (kk : Int) + 1, 1)] by rw [chainCs_step]; unfold chainC; rw [hr])
          have hr3 : r < 3 := by omega
          clear hr
          have own7 := own6.alloc (.cells #[.int .i64 (1 + (r : Int)), .int .i64 kk, .int .i64 ((kk : Int) + 1), .int .i64 1] 25)
          have hb7 := alo hbw (.cells #[.int .i64 (1 + (r : Int)), .int .i64 kk, .int .i64 ((kk : Int) + 1), .int .i64 1] 25)
          have src := Sl.of_blk (xs := [((1 + (r : Int)), (kk : Int), (kk : Int) + 1, (1 : Int))]) (Blk.new wr 25 #[.int .i64 (1 + (r : Int)), .int .i64 kk, .int .i64 ((kk : Int) + 1), .int .i64 1]) encC (by simp)
          have hlen : (chainCs n' kk).length + 1 ≤ 100000000 := by simp [chainCs]; omega
          cases hcr : credits n' kk
          all_goals
            rw [hcr] at HC
            clear hcr
            go_wp2_with (at_builtin; refine app_own rfl _ _ appChan rfl encC w.heap.size _ _ rfl own7 _ 1 1 _ rfl (fun e => by cases e) src hlen hb7.size ?_; intro v8 w8 own8 hg8; have hb8 := belowApp hb7 own7 hg8 (Nat.le_refl _) hb7.size)
            rw [← HL.out] at own8
            go_roundg (P - (kk + 1))
            case measure => omega
            case rel => exact ⟨kk + 1, _, by omega, by omega, rfl, (by rw [HC.out]; simp), by go_num, (show Aside _ from hb8), (show Aside _ from own8)⟩
        · have hltz : ¬ (kk : Int) + 1 < (P : Int) := by omega
          have hPk : P - 1 = kk := by omega
          have hkz : (P : Int) - 1 = (kk : Int) := by omega
          have hch := hchain.out
          rw [hPk] at hch
          replace hch := Lib.hid hch
          clear hPk hchain
          obtain ⟨A6, c6, rfl, hA6, sl6, -⟩ := own6.sl encC
          have hlc : (chainCs n' kk).length = kk := by simp [chainCs]
          rw [hlc] at sl6 ⊢
          generalize chainCs n' kk = xs at *
          generalize credits n' kk = cr at *
          have hk4 : kk ≤ 4 := by omega
          clear own6 hlc
          go_wp2_with fail
          go_loopg [10] P (fun gg s10 wq => ∃ N : Nat, N ≤ P ∧ P - N ≤ gg ∧ s10 = .int .i64 N ∧ Aside (Below w.heap.size w wq) ∧ Aside (Sl wq 4 eC A6 kk c6 xs))
          case atStart => exact ⟨0, Nat.zero_le _, by omega, rfl, (show Aside _ from hbw), (show Aside _ from sl6)⟩
          case round =>
            obtain ⟨N, hN, hg, rfl, BW, SS⟩ := hrel
            clear sl6 hbw
            have sl6 := SS.out
            have hbw := BW.out
            clear SS BW
            by_cases hltN : N < P
            · have hltNz : (N : Int) < (P : Int) := by omega
              have hF := flowsTo_any A6 kk c6 xs P N hch.out.1 hltN _ sl6
              have hG := fun W hW => specFlowsTo_any A6 kk c6 xs P N hch.out.1 hltN W (sl6.below hW)
              obtain ⟨hx0, hx1⟩ := hch.out.2 N hltN
              have hlo := flowsL_len (fun a b => directB xs a b) P N
              generalize flowsL (fun a b => directB xs a b) P N = out at *
              replace hx0 := Lib.hid hx0
              replace hx1 := Lib.hid hx1
              have hlo2 := Lib.hid hlo
              go_wp2_with fail
              refine hF.mono ?_
              rintro e w1 ⟨g1, rfl, B1, -, hb1⟩
              go_wp2_with fail
              refine (hG _ hb1).mono ?_
              rintro e w2 ⟨g2, rfl, B2, -, hb2⟩
              replace B1 := B1.below hb2
              have hsf := sameFlags_any g1 g2 P out hlo2.out (by omega) w2 B1 B2
              go_wp2_with fail
              refine hsf.mono ?_
              rintro e w3 ⟨rfl, hb3⟩
              replace B1 := B1.below hb3
              have hb4 := thn (thn (thn hbw hb1) hb2) hb3
              have sl7 := ((sl6.below hb1).below hb2).below hb3
              have q0 := flag_cell B1 (i := 0) (by rw [hlo2.out]; omega)
              have qk := flag_cell B1 (i := kk) (by rw [hlo2.out]; omega)
              rw [hx0.out] at q0
              clear hF hG hsf B1 B2 hb1 hb2 hb3 hlo sl6
              have hP1 : (0 : Int) < (P : Int) := by omega
              have hkP : (kk : Int) < (P : Int) := by omega
              have hk0 : (0 : Int) ≤ (kk : Int) := by omega
              cases cr
              · by_cases hNk : N < kk
                · have hNkz : (N : Int) < (kk : Int) := by omega
                  rw [hx1.out rfl hNk] at qk
                  go_wp2
                  go_roundg (P - (N + 1))
                  case measure => omega
                  case rel => exact ⟨N + 1, by omega, by omega, by go_num, (show Aside _ from hb4), (show Aside _ from sl7)⟩
                · have hNkz : decide ((N : Int) < (kk : Int)) = false := decide_eq_false (by omega)
                  go_wp2
                  go_roundg (P - (N + 1))
                  case measure => omega
                  case rel => exact ⟨N + 1, by omega, by omega, by go_num, (show Aside _ from hb4), (show Aside _ from sl7)⟩
              · go_wp2
                go_roundg (P - (N + 1))
                case measure => omega
                case rel => exact ⟨N + 1, by omega, by omega, by go_num, (show Aside _ from hb4), (show Aside _ from sl7)⟩
            · have hltNz : ¬ (N : Int) < (P : Int) := by omega
              go_wp2_with fail
              refine (alive_any _).mono ?_
              rintro e w4 ⟨rfl, hb4⟩
              go_wp2
              go_ret
              exact ⟨rfl, thn hbw hb4⟩
    · have hnz' : 1048576 < (n' : Int) := by omega
      go_enter Try.func3, Try.ntmps3
      go_wp2
      go_ret
      exact ⟨rfl, Below.refl _ _⟩
  · have hnz : 1048576 < (n : Int) := by omega
    go_enter Try.func3, Try.ntmps3
    go_wp2
    go_ret
    exact ⟨rfl, Below.refl _ _⟩
end Go.Proofs.Ythellpcohdbbfaa
