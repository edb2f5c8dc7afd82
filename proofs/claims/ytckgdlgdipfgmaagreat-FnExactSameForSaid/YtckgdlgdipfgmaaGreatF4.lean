/- The exact laws' own functions at lists whose elements hold slices: sz, to, eq. The exact laws' own functions at []Slot: sz, to, eq. The exact laws' own functions at []Channel: sz, to, eq. -/
import Derived.Test.YtckgdlgdipfgmaaGreatF2
import Derived.Test.YtckgdlgdipfgmaaGreatF3

namespace Go.Proofs.YtckgdlgdipfgmaaGreat
set_option linter.unusedVariables false
set_option linter.unusedSimpArgs false
open Go.RowKit

theorem zeroPartL : ZeroT Tryz.prog 34 118 2 eP ((⟨none, 0, 0, []⟩, 0) : PartV) := ZeroT.mk' (z := .agg #[.slice none 0 0, .int .i64 0]) (by kernel_rfl) (by kernel_rfl) rfl (by decide) (bytes := 32) (by decide)
set_option maxHeartbeats 1000000 in
theorem szPartS_any (A : Option Addr) (n c : Nat) (l : List PartV) (left : Int) (hl : 0 ≤ left ∧ left ≤ 1048576) (w : World) (hs : Sl w 2 eP A n c l) (hok : ∀ x ∈ l, okP w x) :
    Calls Tryz.prog 62 #[.slice A n c, .int .i64 left] w (Post (fun m : Int => .int .i64 m) fun m w' => (-1 ≤ m ∧ m ≤ left) ∧ (0 ≤ m → shortL n smP l) ∧ Below w.heap.size w w') := by
  have hle := hs.le
  have hmax := hs.max
  have hlen := hs.len
  obtain ⟨hl0, hl1⟩ := hl
  have hw := IntWalk.i64_in (left - (n : Int)) (by omega)
  by_cases h0 : left - (n : Int) < 0
  · go_enter Tryz.func62, Tryz.ntmps62
    go_wp2
    go_ret
    exact ⟨-1, rfl, ⟨by omega, by omega⟩, (fun h => absurd h (by omega)), Below.refl _ _⟩
  · have h0' : 0 ≤ left - (n : Int) := by omega
    have hn6 : n ≤ 1048576 := by omega
    go_enter Tryz.func62, Tryz.ntmps62
    go_wp2_with fail
    go_loopg [1, 5] n (fun gg s1 s5 wr => ∃ (kk : Nat) (m : Int), kk ≤ n ∧ n - kk ≤ gg ∧ s1 = .int .i64 m ∧ s5 = .int .i64 kk ∧ 0 ≤ m ∧ m ≤ left ∧ Aside (Below w.heap.size w wr) ∧ Aside (∀ j x, j < kk → l[j]? = some x → smP x))
    case atStart => exact ⟨0, left - n, Nat.zero_le _, by omega, rfl, rfl, by omega, by omega, (show Aside _ from Below.refl _ _), (show Aside _ from fun j x hj => absurd hj (Nat.not_lt_zero _))⟩
    case round =>
      obtain ⟨kk, m, hkk, hg, rfl, rfl, hm0, hm1, BW, AA⟩ := hrel
      clear hw h0 h0'
      by_cases hlt : kk < n
      · have hltz : (kk : Int) < (n : Int) := by omega
        obtain ⟨b, o, rfl, y, hx, hc⟩ := hs.nth hlt BW.out
        have q0 := hc 0 _ rfl; have q1 := hc 1 _ rfl
        have hy := hok y (List.mem_of_getElem? hx)
        have HX := Lib.hid hx
        have hq := szPart_any y m ⟨hm0, by omega⟩ (by have h1 := Sl.le hy; have h2 := Sl.max hy; exact Nat.le_trans h1 h2) wr
        have HY := Lib.hid hy
        clear hc hx hy
        obtain ⟨⟨A1, n1, c1, x1⟩, m1⟩ := y
        simp only [eP, SV.v, Nat.add_zero, Nat.mul_one] at q0 q1 hq
        go_wp2_with fail
        refine hq.mono ?_
        rintro e w1 ⟨m1, rfl, hm1b, hsm, hb1⟩
        clear hq
        by_cases hneg : m1 < 0
        · go_wp2
          go_ret
          exact ⟨-1, rfl, ⟨by omega, by omega⟩, (fun h => absurd h (by omega)), thn BW.out hb1⟩
        · have hneg' : 0 ≤ m1 := by omega
          have hsmall := Lib.hid (hsm hneg')
          clear hsm
          go_wp2
          go_roundg (n - (kk + 1))
          case measure => omega
          case rel =>
            refine ⟨kk + 1, m1, by omega, by omega, rfl, by go_num, by omega, by omega, (show Aside _ from thn BW.out hb1), (show Aside _ from fun j z hj hz => ?_)⟩
            by_cases e : j = kk
            · subst e
              have := HX.out
              rw [this] at hz
              injection hz with hz
              rw [← hz]; exact hsmall.out
            · exact AA.out j z (by omega) hz
      · have hltz : ¬ (kk : Int) < (n : Int) := by omega
        obtain rfl : n = kk := by omega
        have HR := Lib.hid (show shortL n smP l from ⟨hn6, fun x hx => by obtain ⟨j, hj, hjx⟩ := List.getElem_of_mem hx; exact AA.out j x (by omega) (by rw [List.getElem?_eq_getElem hj, hjx])⟩)
        go_wp2
        go_ret
        exact ⟨m, rfl, ⟨by omega, hm1⟩, (fun _ => HR.out), BW.out⟩

set_option maxHeartbeats 1000000 in
theorem toPartS_any (A : Option Addr) (n c : Nat) (l : List PartV) (hn : n ≤ 1048576) (hsm : ∀ x ∈ l, smP x) (w : World) (hs : Sl w 2 eP A n c l) (hok : ∀ x ∈ l, okP w x) :
    Calls Tryz.prog 73 #[.slice A n c] w (Post (fun s : SV PartV => s.v) fun s w' => (Sl w' 2 eP s.A s.n s.c s.xs ∧ Fr w' w.heap.size s.A) ∧ AllE (liP w' w.heap.size) s.xs ∧ s.xs.map cP = l.map cP ∧ s.n = n ∧ Below w.heap.size w w') := by
  have hle := hs.le
  have hmax := hs.max
  have hlen := hs.len
  go_enter Tryz.func73, Tryz.ntmps73
  go_wp2_with (at_make; refine make_own rfl _ _ zeroPartL rfl encP w.heap.size _ _ n rfl rfl (by omega) (by omega) (by omega) (Nat.le_refl _) ?_; intro w1 own1 hg1; have hb1 := below_of_grown hg1; have U1 : UptoN w1 w.heap.size 118 (n * 2) [] := UptoN.made (n := n) (c := n) encP own1; clear own1 hg1)
  go_loopg [4] n (fun gg s4 wr => ∃ (kk : Nat) (l' : List PartV), kk ≤ n ∧ n - kk ≤ gg ∧ s4 = .int .i64 kk ∧ l'.length = kk ∧ Aside (Below w.heap.size w wr) ∧ Aside (UptoN wr w.heap.size 118 (n * 2) (l'.flatMap eP)) ∧ Aside (AllE (liP wr (w.heap.size + 1)) l') ∧ Aside (l'.map cP = (l.take kk).map cP))
  case atStart => exact ⟨0, [], Nat.zero_le _, by omega, rfl, rfl, (show Aside _ from hb1), (show Aside _ from U1), (show Aside _ from fun x hx => by cases hx), (show Aside _ from rfl)⟩
  case round =>
    obtain ⟨kk, l', hkk, hg, rfl, hl', BW, UU, OK, CC⟩ := hrel
    clear hb1 U1
    have U1 := UU.out
    clear UU
    by_cases hlt : kk < n
    · have hltz : (kk : Int) < (n : Int) := by omega
      obtain ⟨b, o, rfl, y, hx, hc⟩ := hs.nth hlt BW.out
      have q0 := hc 0 _ rfl; have q1 := hc 1 _ rfl
      have hyl := List.mem_of_getElem? hx
      have HC := Lib.hid (map_take_succ (f := cP) hx)
      have hq := toPart_any y (hsm y hyl) wr ((hok y hyl).below BW.out)
      clear hc hx hyl
      obtain ⟨⟨A1, n1, c1, x1⟩, m1⟩ := y
      simp only [eP, SV.v, Nat.add_zero, Nat.mul_one] at q0 q1 hq
      have hz := U1.lt
      have hle2 : kk * 2 + 2 ≤ n * 2 := by have := Nat.mul_le_mul_right 2 (show kk + 1 ≤ n by omega); omega
      go_wp2_with fail
      refine hq.mono ?_
      rintro e w2 ⟨y', rfl, hy', hcy, hb2⟩
      obtain ⟨⟨A2, n2, c2, x2⟩, m2⟩ := y'
      replace U1 := U1.below hb2
      have hB2 := thn BW.out hb2
      have hfr := U1.frozen
      have hfl : (l'.flatMap eP).length = kk * 2 := by rw [flatMap_len encP.len, hl']
      obtain ⟨v0, e0⟩ := U1.has (i := kk * 2 + 0) (by omega)
      obtain ⟨v1, e1⟩ := U1.has (i := kk * 2 + 1) (by omega)
      simp only [Nat.add_zero, Nat.mul_one] at e0 e1
      have U2 := ((U1.set (o := kk * 2) (.slice A2 n2 c2) (by simp [hfl]) (by omega)).set (o := kk * 2 + 1) (.int .i64 m2) (by simp [hfl]) (by omega))
      have HOK := Lib.hid (AllE.add (y := ((⟨A2, n2, c2, x2⟩, m2) : PartV)) (AllE.mono OK.out fun x h => liP.below h hb2) (liP.mono hy' (by omega)))
      have HCY := Lib.hid hcy
      have hnd := U1.lt
      clear hb2 hq hy' hcy
      simp only [eP, SV.v]
      go_wp2
      go_roundg (n - (kk + 1))
      case measure => omega
      case rel =>
        refine ⟨kk + 1, l' ++ [((⟨A2, n2, c2, x2⟩, m2) : PartV)], by omega, by omega, by go_num, by simp [hl'], (show Aside _ from (Below.setCell (Below.setCell hB2 (p := ⟨w.heap.size, _, none⟩) (Nat.le_refl _) _) (p := ⟨w.heap.size, _, none⟩) (Nat.le_refl _) _)), (show Aside _ from ?_), (show Aside _ from ?_), (show Aside _ from ?_)⟩
        · have h9 := U2
          try simp only [Nat.mul_one] at h9
          show UptoN _ _ _ _ ((l' ++ [((⟨A2, n2, c2, x2⟩, m2) : PartV)]).flatMap eP)
          rw [List.flatMap_append]
          simpa [eP, SV.v] using h9
        · exact AllE.mono HOK.out fun x h => (liP.set (liP.set h (p := ⟨w.heap.size, _, none⟩) (Nat.lt_succ_self _)) (p := ⟨w.heap.size, _, none⟩) (Nat.lt_succ_self _))
        · show (l' ++ [((⟨A2, n2, c2, x2⟩, m2) : PartV)]).map cP = _
          rw [HC.out, List.map_append, CC.out, List.map_singleton, HCY.out]
    · have hltz : ¬ (kk : Int) < (n : Int) := by omega
      obtain rfl : kk = n := by omega
      have hfl : (l'.flatMap eP).length = kk * 2 := by rw [flatMap_len encP.len, hl']
      have hcc := CC.out
      rw [List.take_of_length_le (by omega)] at hcc
      have HCC := Lib.hid hcc
      clear hcc
      go_wp2
      go_ret
      exact ⟨⟨some ⟨w.heap.size, 0, none⟩, kk, kk, l'⟩, rfl, ⟨fresh_sl encP (U1.full hfl) hl' hn, Fr.some (U1.full hfl) (Nat.le_refl _)⟩, AllE.mono OK.out (fun x h => liP.mono h (Nat.le_succ _)), HCC.out, rfl, BW.out⟩

set_option maxHeartbeats 1000000 in
theorem eqPartS_any (A A' : Option Addr) (n c c' : Nat) (l l' : List PartV) (w : World) (hs : Sl w 2 eP A n c l) (hs' : Sl w 2 eP A' n c' l') (hok : AllE (okP w) l) (hok' : AllE (okP w) l') (hcc : l.map cP = l'.map cP) :
    Calls Tryz.prog 84 #[.slice A n c, .slice A' n c'] w fun e w' => .returned (.bool true) = e ∧ Below w.heap.size w w' := by
  have hle := hs.le
  have hmax := hs.max
  have hle' := hs'.le
  go_enter Tryz.func84, Tryz.ntmps84
  go_wp2
  go_loopg [5] n (fun gg s3 wr => ∃ kk : Nat, kk ≤ n ∧ n - kk ≤ gg ∧ s3 = .int .i64 kk ∧ Aside (Below w.heap.size w wr))
  case atStart => exact ⟨0, Nat.zero_le _, by omega, rfl, (show Aside _ from Below.refl _ _)⟩
  case round =>
    obtain ⟨kk, hkk, hg, rfl, BW⟩ := hrel
    by_cases hlt : kk < n
    · have hltz : (kk : Int) < (n : Int) := by omega
      obtain ⟨b, o, rfl, y, hx, hc⟩ := hs.nth hlt BW.out
      obtain ⟨b', o', rfl, y', hx', hc'⟩ := hs'.nth hlt BW.out
      have hyc := map_at hcc hx hx'
      have hq := fun x : Near wr => eqPart_any y y' x.W (okP.below (hok y (List.mem_of_getElem? hx)) (thn BW.out x.b)) (okP.below (hok' y' (List.mem_of_getElem? hx')) (thn BW.out x.b)) hyc
      clear hx hx' hyc
      have g0 := fun x : Near wr => (x.b.cell (p := ⟨b, o + kk * 2 + 0, none⟩) (World.block_lt_of_cell? _ _ (hc 0 _ rfl))).trans (hc 0 _ rfl)
      have p0 := fun x : Near wr => (x.b.cell (p := ⟨b', o' + kk * 2 + 0, none⟩) (World.block_lt_of_cell? _ _ (hc' 0 _ rfl))).trans (hc' 0 _ rfl)
      have g1 := fun x : Near wr => (x.b.cell (p := ⟨b, o + kk * 2 + 1, none⟩) (World.block_lt_of_cell? _ _ (hc 1 _ rfl))).trans (hc 1 _ rfl)
      have p1 := fun x : Near wr => (x.b.cell (p := ⟨b', o' + kk * 2 + 1, none⟩) (World.block_lt_of_cell? _ _ (hc' 1 _ rfl))).trans (hc' 1 _ rfl)
      clear hc hc'
      obtain ⟨⟨A1, n1, c1, x1⟩, m1⟩ := y
      obtain ⟨⟨A9, n9, c9, x9⟩, m9⟩ := y'
      simp only [eP, SV.v, Nat.add_zero, Nat.mul_one] at g0 p0 g1 p1 hq
      skip
      go_wp2_with fail
      refine wp_region_near (by kernel_rfl) (by kernel_rfl) ?_; (repeat (go_big_quiet_step (first | (go_at_call 118; with_reducible exact near_call (hq _))))); refine wpQuiet_nil ?_; intro xN; have hbw2 := xN.b; generalize xN.W = w2 at hbw2 ⊢; clear xN
      clear g0 p0 g1 p1 hq
      go_wp2
      go_roundg (n - (kk + 1))
      case measure => omega
      case rel => exact ⟨kk + 1, by omega, by omega, by go_num, (show Aside _ from thn BW.out hbw2)⟩
    · have hltz : ¬ (kk : Int) < (n : Int) := by omega
      obtain rfl : kk = n := by omega
      go_wp2
      go_ret
      exact ⟨rfl, BW.out⟩
theorem zeroOrdL : ZeroT Tryz.prog 39 76 1 eOL (⟨none, 0, 0, []⟩ : OrdL) := ZeroT.mk' (z := .slice none 0 0) (by kernel_rfl) (by kernel_rfl) rfl (by decide) (bytes := 24) (by decide)
set_option maxHeartbeats 1000000 in
theorem szOrderSS_any (A : Option Addr) (n c : Nat) (l : List OrdL) (left : Int) (hl : 0 ≤ left ∧ left ≤ 1048576) (w : World) (hs : Sl w 1 eOL A n c l) (hok : ∀ x ∈ l, okO w x) :
    Calls Tryz.prog 26 #[.slice A n c, .int .i64 left] w (Post (fun m : Int => .int .i64 m) fun m w' => (-1 ≤ m ∧ m ≤ left) ∧ (0 ≤ m → shortL n smO l) ∧ Below w.heap.size w w') := by
  have hle := hs.le
  have hmax := hs.max
  have hlen := hs.len
  obtain ⟨hl0, hl1⟩ := hl
  have hw := IntWalk.i64_in (left - (n : Int)) (by omega)
  by_cases h0 : left - (n : Int) < 0
  · go_enter Tryz.func26, Tryz.ntmps26
    go_wp2
    go_ret
    exact ⟨-1, rfl, ⟨by omega, by omega⟩, (fun h => absurd h (by omega)), Below.refl _ _⟩
  · have h0' : 0 ≤ left - (n : Int) := by omega
    have hn6 : n ≤ 1048576 := by omega
    go_enter Tryz.func26, Tryz.ntmps26
    go_wp2_with fail
    go_loopg [1, 5] n (fun gg s1 s5 wr => ∃ (kk : Nat) (m : Int), kk ≤ n ∧ n - kk ≤ gg ∧ s1 = .int .i64 m ∧ s5 = .int .i64 kk ∧ 0 ≤ m ∧ m ≤ left ∧ Aside (Below w.heap.size w wr) ∧ Aside (∀ j x, j < kk → l[j]? = some x → smO x))
    case atStart => exact ⟨0, left - n, Nat.zero_le _, by omega, rfl, rfl, by omega, by omega, (show Aside _ from Below.refl _ _), (show Aside _ from fun j x hj => absurd hj (Nat.not_lt_zero _))⟩
    case round =>
      obtain ⟨kk, m, hkk, hg, rfl, rfl, hm0, hm1, BW, AA⟩ := hrel
      clear hw h0 h0'
      by_cases hlt : kk < n
      · have hltz : (kk : Int) < (n : Int) := by omega
        obtain ⟨b, o, rfl, y, hx, hc⟩ := hs.nth hlt BW.out
        have q0 := hc 0 _ rfl
        have hy := hok y (List.mem_of_getElem? hx)
        have HX := Lib.hid hx
        have hq := szOrderE_any y m ⟨hm0, by omega⟩ (by have h1 := Sl.le hy; have h2 := Sl.max hy; exact Nat.le_trans h1 h2) wr
        have HY := Lib.hid hy
        clear hc hx hy
        obtain ⟨A1, n1, c1, x1⟩ := y
        simp only [eOL, SV.v, Nat.add_zero, Nat.mul_one] at q0 hq
        go_wp2_with fail
        refine hq.mono ?_
        rintro e w1 ⟨m1, rfl, hm1b, hsm, hb1⟩
        clear hq
        by_cases hneg : m1 < 0
        · go_wp2
          go_ret
          exact ⟨-1, rfl, ⟨by omega, by omega⟩, (fun h => absurd h (by omega)), thn BW.out hb1⟩
        · have hneg' : 0 ≤ m1 := by omega
          have hsmall := Lib.hid (hsm hneg')
          clear hsm
          go_wp2
          go_roundg (n - (kk + 1))
          case measure => omega
          case rel =>
            refine ⟨kk + 1, m1, by omega, by omega, rfl, by go_num, by omega, by omega, (show Aside _ from thn BW.out hb1), (show Aside _ from fun j z hj hz => ?_)⟩
            by_cases e : j = kk
            · subst e
              have := HX.out
              rw [this] at hz
              injection hz with hz
              rw [← hz]; exact hsmall.out
            · exact AA.out j z (by omega) hz
      · have hltz : ¬ (kk : Int) < (n : Int) := by omega
        obtain rfl : n = kk := by omega
        have HR := Lib.hid (show shortL n smO l from ⟨hn6, fun x hx => by obtain ⟨j, hj, hjx⟩ := List.getElem_of_mem hx; exact AA.out j x (by omega) (by rw [List.getElem?_eq_getElem hj, hjx])⟩)
        go_wp2
        go_ret
        exact ⟨m, rfl, ⟨by omega, hm1⟩, (fun _ => HR.out), BW.out⟩

set_option maxHeartbeats 1000000 in
theorem toOrderSS_any (A : Option Addr) (n c : Nat) (l : List OrdL) (hn : n ≤ 1048576) (hsm : ∀ x ∈ l, smO x) (w : World) (hs : Sl w 1 eOL A n c l) (hok : ∀ x ∈ l, okO w x) :
    Calls Tryz.prog 36 #[.slice A n c] w (Post (fun s : SV OrdL => s.v) fun s w' => (Sl w' 1 eOL s.A s.n s.c s.xs ∧ Fr w' w.heap.size s.A) ∧ AllE (liO w' w.heap.size) s.xs ∧ s.xs.map cO = l.map cO ∧ s.n = n ∧ Below w.heap.size w w') := by
  have hle := hs.le
  have hmax := hs.max
  have hlen := hs.len
  go_enter Tryz.func36, Tryz.ntmps36
  go_wp2_with (at_make; refine make_own rfl _ _ zeroOrdL rfl encOL w.heap.size _ _ n rfl rfl (by omega) (by omega) (by omega) (Nat.le_refl _) ?_; intro w1 own1 hg1; have hb1 := below_of_grown hg1; have U1 : UptoN w1 w.heap.size 76 (n * 1) [] := UptoN.made (n := n) (c := n) encOL own1; clear own1 hg1)
  go_loopg [4] n (fun gg s4 wr => ∃ (kk : Nat) (l' : List OrdL), kk ≤ n ∧ n - kk ≤ gg ∧ s4 = .int .i64 kk ∧ l'.length = kk ∧ Aside (Below w.heap.size w wr) ∧ Aside (UptoN wr w.heap.size 76 (n * 1) (l'.flatMap eOL)) ∧ Aside (AllE (liO wr (w.heap.size + 1)) l') ∧ Aside (l'.map cO = (l.take kk).map cO))
  case atStart => exact ⟨0, [], Nat.zero_le _, by omega, rfl, rfl, (show Aside _ from hb1), (show Aside _ from U1), (show Aside _ from fun x hx => by cases hx), (show Aside _ from rfl)⟩
  case round =>
    obtain ⟨kk, l', hkk, hg, rfl, hl', BW, UU, OK, CC⟩ := hrel
    clear hb1 U1
    have U1 := UU.out
    clear UU
    by_cases hlt : kk < n
    · have hltz : (kk : Int) < (n : Int) := by omega
      obtain ⟨b, o, rfl, y, hx, hc⟩ := hs.nth hlt BW.out
      have q0 := hc 0 _ rfl
      have hyl := List.mem_of_getElem? hx
      have HC := Lib.hid (map_take_succ (f := cO) hx)
      have hq := toOrderE_any y (hsm y hyl) wr ((hok y hyl).below BW.out)
      clear hc hx hyl
      obtain ⟨A1, n1, c1, x1⟩ := y
      simp only [eOL, SV.v, Nat.add_zero, Nat.mul_one] at q0 hq
      have hz := U1.lt
      have hle2 : kk * 1 + 1 ≤ n * 1 := by have := Nat.mul_le_mul_right 1 (show kk + 1 ≤ n by omega); omega
      go_wp2_with fail
      refine hq.mono ?_
      rintro e w2 ⟨y', rfl, hy', hcy, hb2⟩
      obtain ⟨A2, n2, c2, x2⟩ := y'
      replace U1 := U1.below hb2
      have hB2 := thn BW.out hb2
      have hfr := U1.frozen
      have hfl : (l'.flatMap eOL).length = kk * 1 := by rw [flatMap_len encOL.len, hl']
      obtain ⟨v0, e0⟩ := U1.has (i := kk * 1 + 0) (by omega)
      simp only [Nat.add_zero, Nat.mul_one] at e0
      have U2 := (U1.set (o := kk * 1) (.slice A2 n2 c2) (by simp [hfl]) (by omega))
      have HOK := Lib.hid (AllE.add (y := (⟨A2, n2, c2, x2⟩ : OrdL)) (AllE.mono OK.out fun x h => liO.below h hb2) (liO.mono hy' (by omega)))
      have HCY := Lib.hid hcy
      have hnd := U1.lt
      clear hb2 hq hy' hcy
      simp only [eOL, SV.v]
      go_wp2
      go_roundg (n - (kk + 1))
      case measure => omega
      case rel =>
        refine ⟨kk + 1, l' ++ [(⟨A2, n2, c2, x2⟩ : OrdL)], by omega, by omega, by go_num, by simp [hl'], (show Aside _ from (Below.setCell hB2 (p := ⟨w.heap.size, _, none⟩) (Nat.le_refl _) _)), (show Aside _ from ?_), (show Aside _ from ?_), (show Aside _ from ?_)⟩
        · have h9 := U2
          try simp only [Nat.mul_one] at h9
          show UptoN _ _ _ _ ((l' ++ [(⟨A2, n2, c2, x2⟩ : OrdL)]).flatMap eOL)
          rw [List.flatMap_append]
          simpa [eOL, SV.v] using h9
        · exact AllE.mono HOK.out fun x h => (liO.set h (p := ⟨w.heap.size, _, none⟩) (Nat.lt_succ_self _))
        · show (l' ++ [(⟨A2, n2, c2, x2⟩ : OrdL)]).map cO = _
          rw [HC.out, List.map_append, CC.out, List.map_singleton, HCY.out]
    · have hltz : ¬ (kk : Int) < (n : Int) := by omega
      obtain rfl : kk = n := by omega
      have hfl : (l'.flatMap eOL).length = kk * 1 := by rw [flatMap_len encOL.len, hl']
      have hcc := CC.out
      rw [List.take_of_length_le (by omega)] at hcc
      have HCC := Lib.hid hcc
      clear hcc
      go_wp2
      go_ret
      exact ⟨⟨some ⟨w.heap.size, 0, none⟩, kk, kk, l'⟩, rfl, ⟨fresh_sl encOL (U1.full hfl) hl' hn, Fr.some (U1.full hfl) (Nat.le_refl _)⟩, AllE.mono OK.out (fun x h => liO.mono h (Nat.le_succ _)), HCC.out, rfl, BW.out⟩

set_option maxHeartbeats 1000000 in
theorem eqOrderSS_any (A A' : Option Addr) (n c c' : Nat) (l l' : List OrdL) (w : World) (hs : Sl w 1 eOL A n c l) (hs' : Sl w 1 eOL A' n c' l') (hok : AllE (okO w) l) (hok' : AllE (okO w) l') (hcc : l.map cO = l'.map cO) :
    Calls Tryz.prog 45 #[.slice A n c, .slice A' n c'] w fun e w' => .returned (.bool true) = e ∧ Below w.heap.size w w' := by
  have hle := hs.le
  have hmax := hs.max
  have hle' := hs'.le
  go_enter Tryz.func45, Tryz.ntmps45
  go_wp2
  go_loopg [5] n (fun gg s3 wr => ∃ kk : Nat, kk ≤ n ∧ n - kk ≤ gg ∧ s3 = .int .i64 kk ∧ Aside (Below w.heap.size w wr))
  case atStart => exact ⟨0, Nat.zero_le _, by omega, rfl, (show Aside _ from Below.refl _ _)⟩
  case round =>
    obtain ⟨kk, hkk, hg, rfl, BW⟩ := hrel
    by_cases hlt : kk < n
    · have hltz : (kk : Int) < (n : Int) := by omega
      obtain ⟨b, o, rfl, y, hx, hc⟩ := hs.nth hlt BW.out
      obtain ⟨b', o', rfl, y', hx', hc'⟩ := hs'.nth hlt BW.out
      have hyc := map_at hcc hx hx'
      have hq := fun x : Near wr => eqOrderE_any y y' x.W (okO.below (hok y (List.mem_of_getElem? hx)) (thn BW.out x.b)) (okO.below (hok' y' (List.mem_of_getElem? hx')) (thn BW.out x.b)) hyc
      clear hx hx' hyc
      have g0 := fun x : Near wr => (x.b.cell (p := ⟨b, o + kk * 1 + 0, none⟩) (World.block_lt_of_cell? _ _ (hc 0 _ rfl))).trans (hc 0 _ rfl)
      have p0 := fun x : Near wr => (x.b.cell (p := ⟨b', o' + kk * 1 + 0, none⟩) (World.block_lt_of_cell? _ _ (hc' 0 _ rfl))).trans (hc' 0 _ rfl)
      clear hc hc'
      obtain ⟨A1, n1, c1, x1⟩ := y
      obtain ⟨A9, n9, c9, x9⟩ := y'
      simp only [eOL, SV.v, Nat.add_zero, Nat.mul_one] at g0 p0 hq
      skip
      go_wp2_with fail
      refine wp_region_near (by kernel_rfl) (by kernel_rfl) ?_; (repeat (go_big_quiet_step (first | (go_at_call 87; with_reducible exact near_call (hq _))))); refine wpQuiet_nil ?_; intro xN; have hbw2 := xN.b; generalize xN.W = w2 at hbw2 ⊢; clear xN
      clear g0 p0 hq
      go_wp2
      go_roundg (n - (kk + 1))
      case measure => omega
      case rel => exact ⟨kk + 1, by omega, by omega, by go_num, (show Aside _ from thn BW.out hbw2)⟩
    · have hltz : ¬ (kk : Int) < (n : Int) := by omega
      obtain rfl : kk = n := by omega
      go_wp2
      go_ret
      exact ⟨rfl, BW.out⟩
theorem zeroCoreL : ZeroT Tryz.prog 40 74 3 eCo ((⟨none, 0, 0, []⟩, 0, false) : CoreT) := ZeroT.mk' (z := .agg #[.slice none 0 0, .int .i64 0, .bool false]) (by kernel_rfl) (by kernel_rfl) rfl (by decide) (bytes := 40) (by decide)
set_option maxHeartbeats 1000000 in
theorem szCoreS_any (A : Option Addr) (n c : Nat) (l : List CoreT) (left : Int) (hl : 0 ≤ left ∧ left ≤ 1048576) (w : World) (hs : Sl w 3 eCo A n c l) (hok : ∀ x ∈ l, okC w x) :
    Calls Tryz.prog 27 #[.slice A n c, .int .i64 left] w (Post (fun m : Int => .int .i64 m) fun m w' => (-1 ≤ m ∧ m ≤ left) ∧ (0 ≤ m → shortL n smC l) ∧ Below w.heap.size w w') := by
  have hle := hs.le
  have hmax := hs.max
  have hlen := hs.len
  obtain ⟨hl0, hl1⟩ := hl
  have hw := IntWalk.i64_in (left - (n : Int)) (by omega)
  by_cases h0 : left - (n : Int) < 0
  · go_enter Tryz.func27, Tryz.ntmps27
    go_wp2
    go_ret
    exact ⟨-1, rfl, ⟨by omega, by omega⟩, (fun h => absurd h (by omega)), Below.refl _ _⟩
  · have h0' : 0 ≤ left - (n : Int) := by omega
    have hn6 : n ≤ 1048576 := by omega
    go_enter Tryz.func27, Tryz.ntmps27
    go_wp2_with fail
    go_loopg [1, 5] n (fun gg s1 s5 wr => ∃ (kk : Nat) (m : Int), kk ≤ n ∧ n - kk ≤ gg ∧ s1 = .int .i64 m ∧ s5 = .int .i64 kk ∧ 0 ≤ m ∧ m ≤ left ∧ Aside (Below w.heap.size w wr) ∧ Aside (∀ j x, j < kk → l[j]? = some x → smC x))
    case atStart => exact ⟨0, left - n, Nat.zero_le _, by omega, rfl, rfl, by omega, by omega, (show Aside _ from Below.refl _ _), (show Aside _ from fun j x hj => absurd hj (Nat.not_lt_zero _))⟩
    case round =>
      obtain ⟨kk, m, hkk, hg, rfl, rfl, hm0, hm1, BW, AA⟩ := hrel
      clear hw h0 h0'
      by_cases hlt : kk < n
      · have hltz : (kk : Int) < (n : Int) := by omega
        obtain ⟨b, o, rfl, y, hx, hc⟩ := hs.nth hlt BW.out
        have q0 := hc 0 _ rfl; have q1 := hc 1 _ rfl; have q2 := hc 2 _ rfl
        have hy := hok y (List.mem_of_getElem? hx)
        have HX := Lib.hid hx
        have hq := szCore_any y m ⟨hm0, by omega⟩ (by have h1 := Sl.le hy; have h2 := Sl.max hy; exact Nat.le_trans h1 h2) wr
        have HY := Lib.hid hy
        clear hc hx hy
        obtain ⟨⟨A1, n1, c1, x1⟩, m1, t1⟩ := y
        simp only [eCo, SV.v, Nat.add_zero, Nat.mul_one] at q0 q1 q2 hq
        go_wp2_with fail
        refine hq.mono ?_
        rintro e w1 ⟨m1, rfl, hm1b, hsm, hb1⟩
        clear hq
        by_cases hneg : m1 < 0
        · go_wp2
          go_ret
          exact ⟨-1, rfl, ⟨by omega, by omega⟩, (fun h => absurd h (by omega)), thn BW.out hb1⟩
        · have hneg' : 0 ≤ m1 := by omega
          have hsmall := Lib.hid (hsm hneg')
          clear hsm
          go_wp2
          go_roundg (n - (kk + 1))
          case measure => omega
          case rel =>
            refine ⟨kk + 1, m1, by omega, by omega, rfl, by go_num, by omega, by omega, (show Aside _ from thn BW.out hb1), (show Aside _ from fun j z hj hz => ?_)⟩
            by_cases e : j = kk
            · subst e
              have := HX.out
              rw [this] at hz
              injection hz with hz
              rw [← hz]; exact hsmall.out
            · exact AA.out j z (by omega) hz
      · have hltz : ¬ (kk : Int) < (n : Int) := by omega
        obtain rfl : n = kk := by omega
        have HR := Lib.hid (show shortL n smC l from ⟨hn6, fun x hx => by obtain ⟨j, hj, hjx⟩ := List.getElem_of_mem hx; exact AA.out j x (by omega) (by rw [List.getElem?_eq_getElem hj, hjx])⟩)
        go_wp2
        go_ret
        exact ⟨m, rfl, ⟨by omega, hm1⟩, (fun _ => HR.out), BW.out⟩

set_option maxHeartbeats 1000000 in
theorem toCoreS_any (A : Option Addr) (n c : Nat) (l : List CoreT) (hn : n ≤ 1048576) (hsm : ∀ x ∈ l, smC x) (w : World) (hs : Sl w 3 eCo A n c l) (hok : ∀ x ∈ l, okC w x) :
    Calls Tryz.prog 37 #[.slice A n c] w (Post (fun s : SV CoreT => s.v) fun s w' => (Sl w' 3 eCo s.A s.n s.c s.xs ∧ Fr w' w.heap.size s.A) ∧ AllE (liC w' w.heap.size) s.xs ∧ s.xs.map cC = l.map cC ∧ s.n = n ∧ Below w.heap.size w w') := by
  have hle := hs.le
  have hmax := hs.max
  have hlen := hs.len
  go_enter Tryz.func37, Tryz.ntmps37
  go_wp2_with (at_make; refine make_own rfl _ _ zeroCoreL rfl encCo w.heap.size _ _ n rfl rfl (by omega) (by omega) (by omega) (Nat.le_refl _) ?_; intro w1 own1 hg1; have hb1 := below_of_grown hg1; have U1 : UptoN w1 w.heap.size 74 (n * 3) [] := UptoN.made (n := n) (c := n) encCo own1; clear own1 hg1)
  go_loopg [4] n (fun gg s4 wr => ∃ (kk : Nat) (l' : List CoreT), kk ≤ n ∧ n - kk ≤ gg ∧ s4 = .int .i64 kk ∧ l'.length = kk ∧ Aside (Below w.heap.size w wr) ∧ Aside (UptoN wr w.heap.size 74 (n * 3) (l'.flatMap eCo)) ∧ Aside (AllE (liC wr (w.heap.size + 1)) l') ∧ Aside (l'.map cC = (l.take kk).map cC))
  case atStart => exact ⟨0, [], Nat.zero_le _, by omega, rfl, rfl, (show Aside _ from hb1), (show Aside _ from U1), (show Aside _ from fun x hx => by cases hx), (show Aside _ from rfl)⟩
  case round =>
    obtain ⟨kk, l', hkk, hg, rfl, hl', BW, UU, OK, CC⟩ := hrel
    clear hb1 U1
    have U1 := UU.out
    clear UU
    by_cases hlt : kk < n
    · have hltz : (kk : Int) < (n : Int) := by omega
      obtain ⟨b, o, rfl, y, hx, hc⟩ := hs.nth hlt BW.out
      have q0 := hc 0 _ rfl; have q1 := hc 1 _ rfl; have q2 := hc 2 _ rfl
      have hyl := List.mem_of_getElem? hx
      have HC := Lib.hid (map_take_succ (f := cC) hx)
      have hq := toCore_any y (hsm y hyl) wr ((hok y hyl).below BW.out)
      clear hc hx hyl
      obtain ⟨⟨A1, n1, c1, x1⟩, m1, t1⟩ := y
      simp only [eCo, SV.v, Nat.add_zero, Nat.mul_one] at q0 q1 q2 hq
      have hz := U1.lt
      have hle2 : kk * 3 + 3 ≤ n * 3 := by have := Nat.mul_le_mul_right 3 (show kk + 1 ≤ n by omega); omega
      go_wp2_with fail
      refine hq.mono ?_
      rintro e w2 ⟨y', rfl, hy', hcy, hb2⟩
      obtain ⟨⟨A2, n2, c2, x2⟩, m2, t2⟩ := y'
      replace U1 := U1.below hb2
      have hB2 := thn BW.out hb2
      have hfr := U1.frozen
      have hfl : (l'.flatMap eCo).length = kk * 3 := by rw [flatMap_len encCo.len, hl']
      obtain ⟨v0, e0⟩ := U1.has (i := kk * 3 + 0) (by omega)
      obtain ⟨v1, e1⟩ := U1.has (i := kk * 3 + 1) (by omega)
      obtain ⟨v2, e2⟩ := U1.has (i := kk * 3 + 2) (by omega)
      simp only [Nat.add_zero, Nat.mul_one] at e0 e1 e2
      have U2 := (((U1.set (o := kk * 3) (.slice A2 n2 c2) (by simp [hfl]) (by omega)).set (o := kk * 3 + 1) (.int .i64 m2) (by simp [hfl]) (by omega)).set (o := kk * 3 + 2) (.bool t2) (by simp [hfl]) (by omega))
      have HOK := Lib.hid (AllE.add (y := ((⟨A2, n2, c2, x2⟩, m2, t2) : CoreT)) (AllE.mono OK.out fun x h => liC.below h hb2) (liC.mono hy' (by omega)))
      have HCY := Lib.hid hcy
      have hnd := U1.lt
      clear hb2 hq hy' hcy
      simp only [eCo, SV.v]
      go_wp2
      go_roundg (n - (kk + 1))
      case measure => omega
      case rel =>
        refine ⟨kk + 1, l' ++ [((⟨A2, n2, c2, x2⟩, m2, t2) : CoreT)], by omega, by omega, by go_num, by simp [hl'], (show Aside _ from (Below.setCell (Below.setCell (Below.setCell hB2 (p := ⟨w.heap.size, _, none⟩) (Nat.le_refl _) _) (p := ⟨w.heap.size, _, none⟩) (Nat.le_refl _) _) (p := ⟨w.heap.size, _, none⟩) (Nat.le_refl _) _)), (show Aside _ from ?_), (show Aside _ from ?_), (show Aside _ from ?_)⟩
        · have h9 := U2
          try simp only [Nat.mul_one] at h9
          show UptoN _ _ _ _ ((l' ++ [((⟨A2, n2, c2, x2⟩, m2, t2) : CoreT)]).flatMap eCo)
          rw [List.flatMap_append]
          simpa [eCo, SV.v] using h9
        · exact AllE.mono HOK.out fun x h => (liC.set (liC.set (liC.set h (p := ⟨w.heap.size, _, none⟩) (Nat.lt_succ_self _)) (p := ⟨w.heap.size, _, none⟩) (Nat.lt_succ_self _)) (p := ⟨w.heap.size, _, none⟩) (Nat.lt_succ_self _))
        · show (l' ++ [((⟨A2, n2, c2, x2⟩, m2, t2) : CoreT)]).map cC = _
          rw [HC.out, List.map_append, CC.out, List.map_singleton, HCY.out]
    · have hltz : ¬ (kk : Int) < (n : Int) := by omega
      obtain rfl : kk = n := by omega
      have hfl : (l'.flatMap eCo).length = kk * 3 := by rw [flatMap_len encCo.len, hl']
      have hcc := CC.out
      rw [List.take_of_length_le (by omega)] at hcc
      have HCC := Lib.hid hcc
      clear hcc
      go_wp2
      go_ret
      exact ⟨⟨some ⟨w.heap.size, 0, none⟩, kk, kk, l'⟩, rfl, ⟨fresh_sl encCo (U1.full hfl) hl' hn, Fr.some (U1.full hfl) (Nat.le_refl _)⟩, AllE.mono OK.out (fun x h => liC.mono h (Nat.le_succ _)), HCC.out, rfl, BW.out⟩

set_option maxHeartbeats 1000000 in
theorem eqCoreS_any (A A' : Option Addr) (n c c' : Nat) (l l' : List CoreT) (w : World) (hs : Sl w 3 eCo A n c l) (hs' : Sl w 3 eCo A' n c' l') (hok : AllE (okC w) l) (hok' : AllE (okC w) l') (hcc : l.map cC = l'.map cC) :
    Calls Tryz.prog 46 #[.slice A n c, .slice A' n c'] w fun e w' => .returned (.bool true) = e ∧ Below w.heap.size w w' := by
  have hle := hs.le
  have hmax := hs.max
  have hle' := hs'.le
  go_enter Tryz.func46, Tryz.ntmps46
  go_wp2
  go_loopg [5] n (fun gg s3 wr => ∃ kk : Nat, kk ≤ n ∧ n - kk ≤ gg ∧ s3 = .int .i64 kk ∧ Aside (Below w.heap.size w wr))
  case atStart => exact ⟨0, Nat.zero_le _, by omega, rfl, (show Aside _ from Below.refl _ _)⟩
  case round =>
    obtain ⟨kk, hkk, hg, rfl, BW⟩ := hrel
    by_cases hlt : kk < n
    · have hltz : (kk : Int) < (n : Int) := by omega
      obtain ⟨b, o, rfl, y, hx, hc⟩ := hs.nth hlt BW.out
      obtain ⟨b', o', rfl, y', hx', hc'⟩ := hs'.nth hlt BW.out
      have hyc := map_at hcc hx hx'
      have hq := fun x : Near wr => eqCore_any y y' x.W (okC.below (hok y (List.mem_of_getElem? hx)) (thn BW.out x.b)) (okC.below (hok' y' (List.mem_of_getElem? hx')) (thn BW.out x.b)) hyc
      clear hx hx' hyc
      have g0 := fun x : Near wr => (x.b.cell (p := ⟨b, o + kk * 3 + 0, none⟩) (World.block_lt_of_cell? _ _ (hc 0 _ rfl))).trans (hc 0 _ rfl)
      have p0 := fun x : Near wr => (x.b.cell (p := ⟨b', o' + kk * 3 + 0, none⟩) (World.block_lt_of_cell? _ _ (hc' 0 _ rfl))).trans (hc' 0 _ rfl)
      have g1 := fun x : Near wr => (x.b.cell (p := ⟨b, o + kk * 3 + 1, none⟩) (World.block_lt_of_cell? _ _ (hc 1 _ rfl))).trans (hc 1 _ rfl)
      have p1 := fun x : Near wr => (x.b.cell (p := ⟨b', o' + kk * 3 + 1, none⟩) (World.block_lt_of_cell? _ _ (hc' 1 _ rfl))).trans (hc' 1 _ rfl)
      have g2 := fun x : Near wr => (x.b.cell (p := ⟨b, o + kk * 3 + 2, none⟩) (World.block_lt_of_cell? _ _ (hc 2 _ rfl))).trans (hc 2 _ rfl)
      have p2 := fun x : Near wr => (x.b.cell (p := ⟨b', o' + kk * 3 + 2, none⟩) (World.block_lt_of_cell? _ _ (hc' 2 _ rfl))).trans (hc' 2 _ rfl)
      clear hc hc'
      obtain ⟨⟨A1, n1, c1, x1⟩, m1, t1⟩ := y
      obtain ⟨⟨A9, n9, c9, x9⟩, m9, t9⟩ := y'
      simp only [eCo, SV.v, Nat.add_zero, Nat.mul_one] at g0 p0 g1 p1 g2 p2 hq
      skip
      go_wp2_with fail
      refine wp_region_near (by kernel_rfl) (by kernel_rfl) ?_; (repeat (go_big_quiet_step (first | (go_at_call 88; with_reducible exact near_call (hq _))))); refine wpQuiet_nil ?_; intro xN; have hbw2 := xN.b; generalize xN.W = w2 at hbw2 ⊢; clear xN
      clear g0 p0 g1 p1 g2 p2 hq
      go_wp2
      go_roundg (n - (kk + 1))
      case measure => omega
      case rel => exact ⟨kk + 1, by omega, by omega, by go_num, (show Aside _ from thn BW.out hbw2)⟩
    · have hltz : ¬ (kk : Int) < (n : Int) := by omega
      obtain rfl : kk = n := by omega
      go_wp2
      go_ret
      exact ⟨rfl, BW.out⟩
theorem zeroHoldL : ZeroT Tryz.prog 41 80 1 eHr (⟨none, 0, 0, []⟩ : HoldR) := ZeroT.mk' (z := .agg #[.slice none 0 0]) (by kernel_rfl) (by kernel_rfl) rfl (by decide) (bytes := 24) (by decide)
set_option maxHeartbeats 1000000 in
theorem szHoldS_any (A : Option Addr) (n c : Nat) (l : List HoldR) (left : Int) (hl : 0 ≤ left ∧ left ≤ 1048576) (w : World) (hs : Sl w 1 eHr A n c l) (hok : ∀ x ∈ l, okH w x) :
    Calls Tryz.prog 28 #[.slice A n c, .int .i64 left] w (Post (fun m : Int => .int .i64 m) fun m w' => (-1 ≤ m ∧ m ≤ left) ∧ (0 ≤ m → shortL n smH l) ∧ Below w.heap.size w w') := by
  have hle := hs.le
  have hmax := hs.max
  have hlen := hs.len
  obtain ⟨hl0, hl1⟩ := hl
  have hw := IntWalk.i64_in (left - (n : Int)) (by omega)
  by_cases h0 : left - (n : Int) < 0
  · go_enter Tryz.func28, Tryz.ntmps28
    go_wp2
    go_ret
    exact ⟨-1, rfl, ⟨by omega, by omega⟩, (fun h => absurd h (by omega)), Below.refl _ _⟩
  · have h0' : 0 ≤ left - (n : Int) := by omega
    have hn6 : n ≤ 1048576 := by omega
    go_enter Tryz.func28, Tryz.ntmps28
    go_wp2_with fail
    go_loopg [1, 5] n (fun gg s1 s5 wr => ∃ (kk : Nat) (m : Int), kk ≤ n ∧ n - kk ≤ gg ∧ s1 = .int .i64 m ∧ s5 = .int .i64 kk ∧ 0 ≤ m ∧ m ≤ left ∧ Aside (Below w.heap.size w wr) ∧ Aside (∀ j x, j < kk → l[j]? = some x → smH x))
    case atStart => exact ⟨0, left - n, Nat.zero_le _, by omega, rfl, rfl, by omega, by omega, (show Aside _ from Below.refl _ _), (show Aside _ from fun j x hj => absurd hj (Nat.not_lt_zero _))⟩
    case round =>
      obtain ⟨kk, m, hkk, hg, rfl, rfl, hm0, hm1, BW, AA⟩ := hrel
      clear hw h0 h0'
      by_cases hlt : kk < n
      · have hltz : (kk : Int) < (n : Int) := by omega
        obtain ⟨b, o, rfl, y, hx, hc⟩ := hs.nth hlt BW.out
        have q0 := hc 0 _ rfl
        have hy := hok y (List.mem_of_getElem? hx)
        have HX := Lib.hid hx
        have hq := szHoldE_any y m ⟨hm0, by omega⟩ (by have h1 := Sl.le hy; have h2 := Sl.max hy; exact Nat.le_trans h1 h2) wr
        have HY := Lib.hid hy
        clear hc hx hy
        obtain ⟨A1, n1, c1, x1⟩ := y
        simp only [eHr, SV.v, Nat.add_zero, Nat.mul_one] at q0 hq
        go_wp2_with fail
        refine hq.mono ?_
        rintro e w1 ⟨m1, rfl, hm1b, hsm, hb1⟩
        clear hq
        by_cases hneg : m1 < 0
        · go_wp2
          go_ret
          exact ⟨-1, rfl, ⟨by omega, by omega⟩, (fun h => absurd h (by omega)), thn BW.out hb1⟩
        · have hneg' : 0 ≤ m1 := by omega
          have hsmall := Lib.hid (hsm hneg')
          clear hsm
          go_wp2
          go_roundg (n - (kk + 1))
          case measure => omega
          case rel =>
            refine ⟨kk + 1, m1, by omega, by omega, rfl, by go_num, by omega, by omega, (show Aside _ from thn BW.out hb1), (show Aside _ from fun j z hj hz => ?_)⟩
            by_cases e : j = kk
            · subst e
              have := HX.out
              rw [this] at hz
              injection hz with hz
              rw [← hz]; exact hsmall.out
            · exact AA.out j z (by omega) hz
      · have hltz : ¬ (kk : Int) < (n : Int) := by omega
        obtain rfl : n = kk := by omega
        have HR := Lib.hid (show shortL n smH l from ⟨hn6, fun x hx => by obtain ⟨j, hj, hjx⟩ := List.getElem_of_mem hx; exact AA.out j x (by omega) (by rw [List.getElem?_eq_getElem hj, hjx])⟩)
        go_wp2
        go_ret
        exact ⟨m, rfl, ⟨by omega, hm1⟩, (fun _ => HR.out), BW.out⟩

set_option maxHeartbeats 1000000 in
theorem toHoldS_any (A : Option Addr) (n c : Nat) (l : List HoldR) (hn : n ≤ 1048576) (hsm : ∀ x ∈ l, smH x) (w : World) (hs : Sl w 1 eHr A n c l) (hok : ∀ x ∈ l, okH w x) :
    Calls Tryz.prog 38 #[.slice A n c] w (Post (fun s : SV HoldR => s.v) fun s w' => (Sl w' 1 eHr s.A s.n s.c s.xs ∧ Fr w' w.heap.size s.A) ∧ AllE (liH w' w.heap.size) s.xs ∧ s.xs.map cH = l.map cH ∧ s.n = n ∧ Below w.heap.size w w') := by
  have hle := hs.le
  have hmax := hs.max
  have hlen := hs.len
  go_enter Tryz.func38, Tryz.ntmps38
  go_wp2_with (at_make; refine make_own rfl _ _ zeroHoldL rfl encHr w.heap.size _ _ n rfl rfl (by omega) (by omega) (by omega) (Nat.le_refl _) ?_; intro w1 own1 hg1; have hb1 := below_of_grown hg1; have U1 : UptoN w1 w.heap.size 80 (n * 1) [] := UptoN.made (n := n) (c := n) encHr own1; clear own1 hg1)
  go_loopg [4] n (fun gg s4 wr => ∃ (kk : Nat) (l' : List HoldR), kk ≤ n ∧ n - kk ≤ gg ∧ s4 = .int .i64 kk ∧ l'.length = kk ∧ Aside (Below w.heap.size w wr) ∧ Aside (UptoN wr w.heap.size 80 (n * 1) (l'.flatMap eHr)) ∧ Aside (AllE (liH wr (w.heap.size + 1)) l') ∧ Aside (l'.map cH = (l.take kk).map cH))
  case atStart => exact ⟨0, [], Nat.zero_le _, by omega, rfl, rfl, (show Aside _ from hb1), (show Aside _ from U1), (show Aside _ from fun x hx => by cases hx), (show Aside _ from rfl)⟩
  case round =>
    obtain ⟨kk, l', hkk, hg, rfl, hl', BW, UU, OK, CC⟩ := hrel
    clear hb1 U1
    have U1 := UU.out
    clear UU
    by_cases hlt : kk < n
    · have hltz : (kk : Int) < (n : Int) := by omega
      obtain ⟨b, o, rfl, y, hx, hc⟩ := hs.nth hlt BW.out
      have q0 := hc 0 _ rfl
      have hyl := List.mem_of_getElem? hx
      have HC := Lib.hid (map_take_succ (f := cH) hx)
      have hq := toHoldE_any y (hsm y hyl) wr ((hok y hyl).below BW.out)
      clear hc hx hyl
      obtain ⟨A1, n1, c1, x1⟩ := y
      simp only [eHr, SV.v, Nat.add_zero, Nat.mul_one] at q0 hq
      have hz := U1.lt
      have hle2 : kk * 1 + 1 ≤ n * 1 := by have := Nat.mul_le_mul_right 1 (show kk + 1 ≤ n by omega); omega
      go_wp2_with fail
      refine hq.mono ?_
      rintro e w2 ⟨y', rfl, hy', hcy, hb2⟩
      obtain ⟨A2, n2, c2, x2⟩ := y'
      replace U1 := U1.below hb2
      have hB2 := thn BW.out hb2
      have hfr := U1.frozen
      have hfl : (l'.flatMap eHr).length = kk * 1 := by rw [flatMap_len encHr.len, hl']
      obtain ⟨v0, e0⟩ := U1.has (i := kk * 1 + 0) (by omega)
      simp only [Nat.add_zero, Nat.mul_one] at e0
      have U2 := (U1.set (o := kk * 1) (.slice A2 n2 c2) (by simp [hfl]) (by omega))
      have HOK := Lib.hid (AllE.add (y := (⟨A2, n2, c2, x2⟩ : HoldR)) (AllE.mono OK.out fun x h => liH.below h hb2) (liH.mono hy' (by omega)))
      have HCY := Lib.hid hcy
      have hnd := U1.lt
      clear hb2 hq hy' hcy
      simp only [eHr, SV.v]
      go_wp2
      go_roundg (n - (kk + 1))
      case measure => omega
      case rel =>
        refine ⟨kk + 1, l' ++ [(⟨A2, n2, c2, x2⟩ : HoldR)], by omega, by omega, by go_num, by simp [hl'], (show Aside _ from (Below.setCell hB2 (p := ⟨w.heap.size, _, none⟩) (Nat.le_refl _) _)), (show Aside _ from ?_), (show Aside _ from ?_), (show Aside _ from ?_)⟩
        · have h9 := U2
          try simp only [Nat.mul_one] at h9
          show UptoN _ _ _ _ ((l' ++ [(⟨A2, n2, c2, x2⟩ : HoldR)]).flatMap eHr)
          rw [List.flatMap_append]
          simpa [eHr, SV.v] using h9
        · exact AllE.mono HOK.out fun x h => (liH.set h (p := ⟨w.heap.size, _, none⟩) (Nat.lt_succ_self _))
        · show (l' ++ [(⟨A2, n2, c2, x2⟩ : HoldR)]).map cH = _
          rw [HC.out, List.map_append, CC.out, List.map_singleton, HCY.out]
    · have hltz : ¬ (kk : Int) < (n : Int) := by omega
      obtain rfl : kk = n := by omega
      have hfl : (l'.flatMap eHr).length = kk * 1 := by rw [flatMap_len encHr.len, hl']
      have hcc := CC.out
      rw [List.take_of_length_le (by omega)] at hcc
      have HCC := Lib.hid hcc
      clear hcc
      go_wp2
      go_ret
      exact ⟨⟨some ⟨w.heap.size, 0, none⟩, kk, kk, l'⟩, rfl, ⟨fresh_sl encHr (U1.full hfl) hl' hn, Fr.some (U1.full hfl) (Nat.le_refl _)⟩, AllE.mono OK.out (fun x h => liH.mono h (Nat.le_succ _)), HCC.out, rfl, BW.out⟩

set_option maxHeartbeats 1000000 in
theorem eqHoldS_any (A A' : Option Addr) (n c c' : Nat) (l l' : List HoldR) (w : World) (hs : Sl w 1 eHr A n c l) (hs' : Sl w 1 eHr A' n c' l') (hok : AllE (okH w) l) (hok' : AllE (okH w) l') (hcc : l.map cH = l'.map cH) :
    Calls Tryz.prog 47 #[.slice A n c, .slice A' n c'] w fun e w' => .returned (.bool true) = e ∧ Below w.heap.size w w' := by
  have hle := hs.le
  have hmax := hs.max
  have hle' := hs'.le
  go_enter Tryz.func47, Tryz.ntmps47
  go_wp2
  go_loopg [5] n (fun gg s3 wr => ∃ kk : Nat, kk ≤ n ∧ n - kk ≤ gg ∧ s3 = .int .i64 kk ∧ Aside (Below w.heap.size w wr))
  case atStart => exact ⟨0, Nat.zero_le _, by omega, rfl, (show Aside _ from Below.refl _ _)⟩
  case round =>
    obtain ⟨kk, hkk, hg, rfl, BW⟩ := hrel
    by_cases hlt : kk < n
    · have hltz : (kk : Int) < (n : Int) := by omega
      obtain ⟨b, o, rfl, y, hx, hc⟩ := hs.nth hlt BW.out
      obtain ⟨b', o', rfl, y', hx', hc'⟩ := hs'.nth hlt BW.out
      have hyc := map_at hcc hx hx'
      have hq := fun x : Near wr => eqHoldE_any y y' x.W (okH.below (hok y (List.mem_of_getElem? hx)) (thn BW.out x.b)) (okH.below (hok' y' (List.mem_of_getElem? hx')) (thn BW.out x.b)) hyc
      clear hx hx' hyc
      have g0 := fun x : Near wr => (x.b.cell (p := ⟨b, o + kk * 1 + 0, none⟩) (World.block_lt_of_cell? _ _ (hc 0 _ rfl))).trans (hc 0 _ rfl)
      have p0 := fun x : Near wr => (x.b.cell (p := ⟨b', o' + kk * 1 + 0, none⟩) (World.block_lt_of_cell? _ _ (hc' 0 _ rfl))).trans (hc' 0 _ rfl)
      clear hc hc'
      obtain ⟨A1, n1, c1, x1⟩ := y
      obtain ⟨A9, n9, c9, x9⟩ := y'
      simp only [eHr, SV.v, Nat.add_zero, Nat.mul_one] at g0 p0 hq
      skip
      go_wp2_with fail
      refine wp_region_near (by kernel_rfl) (by kernel_rfl) ?_; (repeat (go_big_quiet_step (first | (go_at_call 89; with_reducible exact near_call (hq _))))); refine wpQuiet_nil ?_; intro xN; have hbw2 := xN.b; generalize xN.W = w2 at hbw2 ⊢; clear xN
      clear g0 p0 hq
      go_wp2
      go_roundg (n - (kk + 1))
      case measure => omega
      case rel => exact ⟨kk + 1, by omega, by omega, by go_num, (show Aside _ from thn BW.out hbw2)⟩
    · have hltz : ¬ (kk : Int) < (n : Int) := by omega
      obtain rfl : kk = n := by omega
      go_wp2
      go_ret
      exact ⟨rfl, BW.out⟩
end Go.Proofs.YtckgdlgdipfgmaaGreat

namespace Go.Proofs.YtckgdlgdipfgmaaGreat
set_option linter.unusedVariables false
set_option linter.unusedSimpArgs false
open Go.RowKit

def szOfSlot (n : Nat) (left : Int) : Int := if left - (n : Int) < 0 then -1 else left - n
theorem szSlotS_any (A : Option Addr) (n c : Nat) (left : Int) (hl : 0 ≤ left ∧ left ≤ 1048576) (hn : n ≤ 9223372036854775807) (w : World) :
    Calls Tryz.prog 64 #[.slice A n c, .int .i64 left] w fun e w' => .returned (.int .i64 (szOfSlot n left)) = e ∧ w = w' := by
  obtain ⟨h1, h2⟩ := hl
  unfold szOfSlot
  by_cases h : left - (n : Int) < 0
  · rw [if_pos h]
    go_enter Tryz.func64, Tryz.ntmps64
    go_wp2
    go_ret
    exact ⟨rfl, rfl⟩
  · rw [if_neg h]
    go_enter Tryz.func64, Tryz.ntmps64
    go_wp2
    go_ret
    exact ⟨rfl, rfl⟩

theorem toSlot_any (y0 : Int) (y1 : Int) (w : World) : Calls Tryz.prog 110 #[.agg #[.int .i64 y0, .int .i64 y1]] w fun e w' => .returned (.agg #[.int .i64 y0, .int .i64 y1]) = e ∧ Below w.heap.size w w' := by
  go_enter Tryz.func110, Tryz.ntmps110
  go_wp2
  exact bodyPost_ret (v := .agg #[.int .i64 y0, .int .i64 y1]) (by simp [results, Tryz.results110, go_sem, ]) rfl ⟨rfl, (by repeat (first | exact Below.refl _ _ | assumption | apply alo | (apply Below.setCell; rotate_left; (first | assumption | exact Nat.le_refl _ | (simp only []; omega))) | apply Below.drew | apply belowDrewN | (refine thn ?_ (by assumption))))⟩

theorem eqSlot_any (y0 : Int) (y1 : Int) (w : World) : Calls Tryz.prog 120 #[.agg #[.int .i64 y0, .int .i64 y1], .agg #[.int .i64 y0, .int .i64 y1]] w fun e w' => .returned (.bool true) = e ∧ Below w.heap.size w w' := by
  go_enter Tryz.func120, Tryz.ntmps120
  go_wp2
  go_ret
  exact ⟨rfl, (by repeat (first | exact Below.refl _ _ | assumption | apply alo | (apply Below.setCell; rotate_left; (first | assumption | exact Nat.le_refl _ | (simp only []; omega))) | apply Below.drew | apply belowDrewN | (refine thn ?_ (by assumption))))⟩

set_option maxHeartbeats 1000000 in
theorem toSlotS_any (A : Option Addr) (n c : Nat) (xs : List (Int × Int)) (hn : n ≤ 1048576) (w : World) (hs : Sl w 2 eS A n c xs) :
    Calls Tryz.prog 75 #[.slice A n c] w (Post (whole n) fun g w' => Blk w' g 123 (xs.flatMap eS).toArray ∧ w.heap.size ≤ g ∧ Below w.heap.size w w') := by
  have hle := hs.le
  have hmax := hs.max
  have hl := hs.len
  go_enter Tryz.func75, Tryz.ntmps75
  go_wp2_with (at_make; refine make_own rfl _ _ zeroSlot rfl encS w.heap.size _ _ n rfl rfl (by omega) (by omega) (by omega) (Nat.le_refl _) ?_; intro w1 own1 hg1; have hb1 := below_of_grown hg1; have U1 : Upto w1 w.heap.size 123 0 (xs.flatMap eS) := Upto.made (n := n) (c := n) encS own1 (by rw [List.length_replicate]; exact hl); clear own1 hg1)
  go_loopg [4] n (fun gg s4 wr => ∃ kk : Nat, kk ≤ n ∧ n - kk ≤ gg ∧ s4 = .int .i64 kk ∧ Aside (Below w.heap.size w wr) ∧ Aside (Upto wr w.heap.size 123 (kk * 2) (xs.flatMap eS)))
  case atStart => exact ⟨0, Nat.zero_le _, by omega, rfl, (show Aside _ from hb1), (show Aside _ from by rw [Nat.zero_mul]; exact U1)⟩
  case round =>
    obtain ⟨kk, hkk, hg, rfl, BW, UU⟩ := hrel
    clear hb1 U1
    have U1 := UU.out
    clear UU
    by_cases hlt : kk < n
    · have hltz : (kk : Int) < (n : Int) := by omega
      obtain ⟨b, o, rfl, y, hx, hc⟩ := hs.nth hlt BW.out
      have hc0 := hc 0 _ rfl
      have hc1 := hc 1 _ rfl
      have f0 := Lib.hid (flat_at encS hx 0 (kk * 2) _ rfl rfl)
      have f1 := Lib.hid (flat_at encS hx 1 (kk * 2 + 1) _ rfl rfl)
      clear hc hx
      obtain ⟨y0, y1⟩ := y
      have hq := fun W => toSlot_any y0 y1 W
      simp only [eS, Nat.add_zero] at hc0 hc1 f0 f1
      have hz := U1.lt
      go_wp2_with fail
      refine (hq _).mono ?_
      rintro e w2 ⟨rfl, hb2⟩
      replace U1 := U1.below hb2
      have hB2 := thn BW.out hb2
      have hfr := U1.frozen
      obtain ⟨v0, e0⟩ := U1.has f0.out
      obtain ⟨v1, e1⟩ := U1.has f1.out
      clear hb2 hq
      go_wp2
      go_roundg (n - (kk + 1))
      case measure => omega
      case rel => exact ⟨kk + 1, by omega, by omega, by go_num, (show Aside _ from (Below.setCell (Below.setCell hB2 (p := ⟨w.heap.size, _, none⟩) (Nat.le_refl _) _) (p := ⟨w.heap.size, _, none⟩) (Nat.le_refl _) _)), (show Aside _ from by have := ((U1.set f0.out).set f1.out); rw [show (kk + 1) * 2 = kk * 2 + 1 + 1 by omega]; exact this)⟩
    · have hltz : ¬ (kk : Int) < (n : Int) := by omega
      obtain rfl : kk = n := by omega
      go_wp2
      go_ret
      exact ⟨w.heap.size, rfl, U1.full (by rw [flatMap_len encS.len, hl]; omega), Nat.le_refl _, BW.out⟩

theorem eqSlotS_any (A A' : Option Addr) (n c c' : Nat) (xs : List (Int × Int)) (w : World) (hs : Sl w 2 eS A n c xs) (hs' : Sl w 2 eS A' n c' xs) :
    Calls Tryz.prog 86 #[.slice A n c, .slice A' n c'] w fun e w' => .returned (.bool true) = e ∧ Below w.heap.size w w' := by
  have hle := hs.le
  have hmax := hs.max
  have hle' := hs'.le
  go_enter Tryz.func86, Tryz.ntmps86
  go_wp2
  go_loopg [5] n (fun gg s3 wr => ∃ kk : Nat, kk ≤ n ∧ n - kk ≤ gg ∧ s3 = .int .i64 kk ∧ Aside (Below w.heap.size w wr))
  case atStart => exact ⟨0, Nat.zero_le _, by omega, rfl, (show Aside _ from Below.refl _ _)⟩
  case round =>
    obtain ⟨kk, hkk, hg, rfl, BW⟩ := hrel
    by_cases hlt : kk < n
    · have hltz : (kk : Int) < (n : Int) := by omega
      obtain ⟨b, o, rfl, y, hx, hc⟩ := hs.nth hlt BW.out
      obtain ⟨b', o', rfl, y', hx', hc'⟩ := hs'.nth hlt BW.out
      obtain rfl : y = y' := by rw [hx'] at hx; injection hx with hx; exact hx.symm
      clear hx hx'
      have g0 := fun x : Near wr => (x.b.cell (p := ⟨b, o + kk * 2 + 0, none⟩) (World.block_lt_of_cell? _ _ (hc 0 _ rfl))).trans (hc 0 _ rfl)
      have p0 := fun x : Near wr => (x.b.cell (p := ⟨b', o' + kk * 2 + 0, none⟩) (World.block_lt_of_cell? _ _ (hc' 0 _ rfl))).trans (hc' 0 _ rfl)
      have g1 := fun x : Near wr => (x.b.cell (p := ⟨b, o + kk * 2 + 1, none⟩) (World.block_lt_of_cell? _ _ (hc 1 _ rfl))).trans (hc 1 _ rfl)
      have p1 := fun x : Near wr => (x.b.cell (p := ⟨b', o' + kk * 2 + 1, none⟩) (World.block_lt_of_cell? _ _ (hc' 1 _ rfl))).trans (hc' 1 _ rfl)
      clear hc hc'
      obtain ⟨y0, y1⟩ := y
      have hq := fun W => eqSlot_any y0 y1 W
      simp only [eS, Nat.add_zero] at g0 p0 g1 p1
      skip
      go_wp2_with fail
      refine wp_region_near (by kernel_rfl) (by kernel_rfl) ?_; (repeat (go_big_quiet_step (first | (go_at_call 120; with_reducible exact near_call (hq _))))); refine wpQuiet_nil ?_; intro xN; have hbw2 := xN.b; generalize xN.W = w2 at hbw2 ⊢; clear xN
      clear g0 p0 g1 p1 hq
      go_wp2
      go_roundg (n - (kk + 1))
      case measure => omega
      case rel => exact ⟨kk + 1, by omega, by omega, by go_num, (show Aside _ from thn BW.out hbw2)⟩
    · have hltz : ¬ (kk : Int) < (n : Int) := by omega
      obtain rfl : kk = n := by omega
      go_wp2
      go_ret
      exact ⟨rfl, BW.out⟩
end Go.Proofs.YtckgdlgdipfgmaaGreat

namespace Go.Proofs.YtckgdlgdipfgmaaGreat
set_option linter.unusedVariables false
set_option linter.unusedSimpArgs false
open Go.RowKit

def szOfChannel (n : Nat) (left : Int) : Int := if left - (n : Int) < 0 then -1 else left - n
theorem szChannelS_any (A : Option Addr) (n c : Nat) (left : Int) (hl : 0 ≤ left ∧ left ≤ 1048576) (hn : n ≤ 9223372036854775807) (w : World) :
    Calls Tryz.prog 63 #[.slice A n c, .int .i64 left] w fun e w' => .returned (.int .i64 (szOfChannel n left)) = e ∧ w = w' := by
  obtain ⟨h1, h2⟩ := hl
  unfold szOfChannel
  by_cases h : left - (n : Int) < 0
  · rw [if_pos h]
    go_enter Tryz.func63, Tryz.ntmps63
    go_wp2
    go_ret
    exact ⟨rfl, rfl⟩
  · rw [if_neg h]
    go_enter Tryz.func63, Tryz.ntmps63
    go_wp2
    go_ret
    exact ⟨rfl, rfl⟩

theorem toChannel_any (y0 : Int) (y1 : Int) (y2 : Int) (y3 : Int) (w : World) : Calls Tryz.prog 109 #[.agg #[.int .i64 y0, .int .i64 y1, .int .i64 y2, .int .i64 y3]] w fun e w' => .returned (.agg #[.int .i64 y0, .int .i64 y1, .int .i64 y2, .int .i64 y3]) = e ∧ Below w.heap.size w w' := by
  go_enter Tryz.func109, Tryz.ntmps109
  go_wp2
  exact bodyPost_ret (v := .agg #[.int .i64 y0, .int .i64 y1, .int .i64 y2, .int .i64 y3]) (by simp [results, Tryz.results109, go_sem, ]) rfl ⟨rfl, (by repeat (first | exact Below.refl _ _ | assumption | apply alo | (apply Below.setCell; rotate_left; (first | assumption | exact Nat.le_refl _ | (simp only []; omega))) | apply Below.drew | apply belowDrewN | (refine thn ?_ (by assumption))))⟩

theorem eqChannel_any (y0 : Int) (y1 : Int) (y2 : Int) (y3 : Int) (w : World) : Calls Tryz.prog 119 #[.agg #[.int .i64 y0, .int .i64 y1, .int .i64 y2, .int .i64 y3], .agg #[.int .i64 y0, .int .i64 y1, .int .i64 y2, .int .i64 y3]] w fun e w' => .returned (.bool true) = e ∧ Below w.heap.size w w' := by
  go_enter Tryz.func119, Tryz.ntmps119
  go_wp2
  go_ret
  exact ⟨rfl, (by repeat (first | exact Below.refl _ _ | assumption | apply alo | (apply Below.setCell; rotate_left; (first | assumption | exact Nat.le_refl _ | (simp only []; omega))) | apply Below.drew | apply belowDrewN | (refine thn ?_ (by assumption))))⟩

set_option maxHeartbeats 1000000 in
theorem toChannelS_any (A : Option Addr) (n c : Nat) (xs : List (Int × Int × Int × Int)) (hn : n ≤ 1048576) (w : World) (hs : Sl w 4 eC A n c xs) :
    Calls Tryz.prog 74 #[.slice A n c] w (Post (whole n) fun g w' => Blk w' g 78 (xs.flatMap eC).toArray ∧ w.heap.size ≤ g ∧ Below w.heap.size w w') := by
  have hle := hs.le
  have hmax := hs.max
  have hl := hs.len
  go_enter Tryz.func74, Tryz.ntmps74
  go_wp2_with (at_make; refine make_own rfl _ _ zeroChan rfl encC w.heap.size _ _ n rfl rfl (by omega) (by omega) (by omega) (Nat.le_refl _) ?_; intro w1 own1 hg1; have hb1 := below_of_grown hg1; have U1 : Upto w1 w.heap.size 78 0 (xs.flatMap eC) := Upto.made (n := n) (c := n) encC own1 (by rw [List.length_replicate]; exact hl); clear own1 hg1)
  go_loopg [4] n (fun gg s4 wr => ∃ kk : Nat, kk ≤ n ∧ n - kk ≤ gg ∧ s4 = .int .i64 kk ∧ Aside (Below w.heap.size w wr) ∧ Aside (Upto wr w.heap.size 78 (kk * 4) (xs.flatMap eC)))
  case atStart => exact ⟨0, Nat.zero_le _, by omega, rfl, (show Aside _ from hb1), (show Aside _ from by rw [Nat.zero_mul]; exact U1)⟩
  case round =>
    obtain ⟨kk, hkk, hg, rfl, BW, UU⟩ := hrel
    clear hb1 U1
    have U1 := UU.out
    clear UU
    by_cases hlt : kk < n
    · have hltz : (kk : Int) < (n : Int) := by omega
      obtain ⟨b, o, rfl, y, hx, hc⟩ := hs.nth hlt BW.out
      have hc0 := hc 0 _ rfl
      have hc1 := hc 1 _ rfl
      have hc2 := hc 2 _ rfl
      have hc3 := hc 3 _ rfl
      have f0 := Lib.hid (flat_at encC hx 0 (kk * 4) _ rfl rfl)
      have f1 := Lib.hid (flat_at encC hx 1 (kk * 4 + 1) _ rfl rfl)
      have f2 := Lib.hid (flat_at encC hx 2 (kk * 4 + 2) _ rfl rfl)
      have f3 := Lib.hid (flat_at encC hx 3 (kk * 4 + 3) _ rfl rfl)
      clear hc hx
      obtain ⟨y0, y1, y2, y3⟩ := y
      have hq := fun W => toChannel_any y0 y1 y2 y3 W
      simp only [eC, Nat.add_zero] at hc0 hc1 hc2 hc3 f0 f1 f2 f3
      have hz := U1.lt
      go_wp2_with fail
      refine (hq _).mono ?_
      rintro e w2 ⟨rfl, hb2⟩
      replace U1 := U1.below hb2
      have hB2 := thn BW.out hb2
      have hfr := U1.frozen
      obtain ⟨v0, e0⟩ := U1.has f0.out
      obtain ⟨v1, e1⟩ := U1.has f1.out
      obtain ⟨v2, e2⟩ := U1.has f2.out
      obtain ⟨v3, e3⟩ := U1.has f3.out
      clear hb2 hq
      go_wp2
      go_roundg (n - (kk + 1))
      case measure => omega
      case rel => exact ⟨kk + 1, by omega, by omega, by go_num, (show Aside _ from (Below.setCell (Below.setCell (Below.setCell (Below.setCell hB2 (p := ⟨w.heap.size, _, none⟩) (Nat.le_refl _) _) (p := ⟨w.heap.size, _, none⟩) (Nat.le_refl _) _) (p := ⟨w.heap.size, _, none⟩) (Nat.le_refl _) _) (p := ⟨w.heap.size, _, none⟩) (Nat.le_refl _) _)), (show Aside _ from by have := ((((U1.set f0.out).set f1.out).set f2.out).set f3.out); rw [show (kk + 1) * 4 = kk * 4 + 1 + 1 + 1 + 1 by omega]; exact this)⟩
    · have hltz : ¬ (kk : Int) < (n : Int) := by omega
      obtain rfl : kk = n := by omega
      go_wp2
      go_ret
      exact ⟨w.heap.size, rfl, U1.full (by rw [flatMap_len encC.len, hl]; omega), Nat.le_refl _, BW.out⟩

theorem eqChannelS_any (A A' : Option Addr) (n c c' : Nat) (xs : List (Int × Int × Int × Int)) (w : World) (hs : Sl w 4 eC A n c xs) (hs' : Sl w 4 eC A' n c' xs) :
    Calls Tryz.prog 85 #[.slice A n c, .slice A' n c'] w fun e w' => .returned (.bool true) = e ∧ Below w.heap.size w w' := by
  have hle := hs.le
  have hmax := hs.max
  have hle' := hs'.le
  go_enter Tryz.func85, Tryz.ntmps85
  go_wp2
  go_loopg [5] n (fun gg s3 wr => ∃ kk : Nat, kk ≤ n ∧ n - kk ≤ gg ∧ s3 = .int .i64 kk ∧ Aside (Below w.heap.size w wr))
  case atStart => exact ⟨0, Nat.zero_le _, by omega, rfl, (show Aside _ from Below.refl _ _)⟩
  case round =>
    obtain ⟨kk, hkk, hg, rfl, BW⟩ := hrel
    by_cases hlt : kk < n
    · have hltz : (kk : Int) < (n : Int) := by omega
      obtain ⟨b, o, rfl, y, hx, hc⟩ := hs.nth hlt BW.out
      obtain ⟨b', o', rfl, y', hx', hc'⟩ := hs'.nth hlt BW.out
      obtain rfl : y = y' := by rw [hx'] at hx; injection hx with hx; exact hx.symm
      clear hx hx'
      have g0 := fun x : Near wr => (x.b.cell (p := ⟨b, o + kk * 4 + 0, none⟩) (World.block_lt_of_cell? _ _ (hc 0 _ rfl))).trans (hc 0 _ rfl)
      have p0 := fun x : Near wr => (x.b.cell (p := ⟨b', o' + kk * 4 + 0, none⟩) (World.block_lt_of_cell? _ _ (hc' 0 _ rfl))).trans (hc' 0 _ rfl)
      have g1 := fun x : Near wr => (x.b.cell (p := ⟨b, o + kk * 4 + 1, none⟩) (World.block_lt_of_cell? _ _ (hc 1 _ rfl))).trans (hc 1 _ rfl)
      have p1 := fun x : Near wr => (x.b.cell (p := ⟨b', o' + kk * 4 + 1, none⟩) (World.block_lt_of_cell? _ _ (hc' 1 _ rfl))).trans (hc' 1 _ rfl)
      have g2 := fun x : Near wr => (x.b.cell (p := ⟨b, o + kk * 4 + 2, none⟩) (World.block_lt_of_cell? _ _ (hc 2 _ rfl))).trans (hc 2 _ rfl)
      have p2 := fun x : Near wr => (x.b.cell (p := ⟨b', o' + kk * 4 + 2, none⟩) (World.block_lt_of_cell? _ _ (hc' 2 _ rfl))).trans (hc' 2 _ rfl)
      have g3 := fun x : Near wr => (x.b.cell (p := ⟨b, o + kk * 4 + 3, none⟩) (World.block_lt_of_cell? _ _ (hc 3 _ rfl))).trans (hc 3 _ rfl)
      have p3 := fun x : Near wr => (x.b.cell (p := ⟨b', o' + kk * 4 + 3, none⟩) (World.block_lt_of_cell? _ _ (hc' 3 _ rfl))).trans (hc' 3 _ rfl)
      clear hc hc'
      obtain ⟨y0, y1, y2, y3⟩ := y
      have hq := fun W => eqChannel_any y0 y1 y2 y3 W
      simp only [eC, Nat.add_zero] at g0 p0 g1 p1 g2 p2 g3 p3
      skip
      go_wp2_with fail
      refine wp_region_near (by kernel_rfl) (by kernel_rfl) ?_; (repeat (go_big_quiet_step (first | (go_at_call 119; with_reducible exact near_call (hq _))))); refine wpQuiet_nil ?_; intro xN; have hbw2 := xN.b; generalize xN.W = w2 at hbw2 ⊢; clear xN
      clear g0 p0 g1 p1 g2 p2 g3 p3 hq
      go_wp2
      go_roundg (n - (kk + 1))
      case measure => omega
      case rel => exact ⟨kk + 1, by omega, by omega, by go_num, (show Aside _ from thn BW.out hbw2)⟩
    · have hltz : ¬ (kk : Int) < (n : Int) := by omega
      obtain rfl : kk = n := by omega
      go_wp2
      go_ret
      exact ⟨rfl, BW.out⟩
end Go.Proofs.YtckgdlgdipfgmaaGreat
