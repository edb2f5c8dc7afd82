/- Cores: fits of the program, CoreValid of the reference. Machines: MachineValid, of the program and of the reference. Machines: MachineValid of the reference. seen: a machine is valid and has a partition. Own ticks: the frame as a list of who runs, against sums over the slots. No program in sight. -/
import Derived.Test.YtckgdlgdipfgmaaGreatF1
import Derived.Test.YtckgdlgdipfgmaaGreatF2
import Derived.Test.YtckgdlgdipfgmaaGreatF5
import Derived.Test.YtckgdlgdipfgmaaGreatF6
import Derived.Test.YtckgdlgdipfgmaaGreatF7

namespace Go.Proofs.YtckgdlgdipfgmaaGreat
set_option linter.unusedVariables false
set_option linter.unusedSimpArgs false
open Go.RowKit

def coreFits (x : List Int × Int × Bool) (o : List (Int × Int × Int)) (cells : Int) : Bool := decide ((x.1.length : Int) = cells) && (inB x.2.1 0 (o.length - 1) && x.1.all fun v => inB v 0 255)
theorem fitBad_any (n : Int) (w : World) : Calls Tryz.prog 127 #[.int .i64 n] w fun e w' => .returned (.bool (!inB n 0 255)) = e ∧ Below w.heap.size w w' := by
  go_enter Tryz.func127, Tryz.ntmps127
  go_wp2_with (go_at_call 128; refine (isValue_any _ _).mono ?_; rintro e w1 ⟨rfl, rfl⟩)
  go_ret
  exact ⟨rfl, Below.refl _ _⟩
theorem enters_fit (args : Array Value) (w : World) : (callFunc 127 args).run Tryz.prog w = .ok (.enter 127 args) w := enters_of Tryz.func127 (by kernel_rfl) rfl args w
theorem fits_any (x : CoreT) (o : OrdL) (cells : Int) (w : World) (h : okC w x) (ho : o.n = o.xs.length) (hom : o.n ≤ 9223372036854775807) :
    Calls Tryz.prog 100 #[.agg (eCo x).toArray, o.v, .int .i64 cells] w fun e w' => .returned (.bool (coreFits (cC x) (cO o) cells)) = e ∧ Below w.heap.size w w' := by
  obtain ⟨⟨A, n, c, xs⟩, at_, st⟩ := x
  obtain ⟨A2, n2, c2, x2⟩ := o
  simp only [okC, eCo, SV.v, cC, cO] at h ho hom ⊢
  have hl := h.len
  have hle := h.le
  have hmax := h.max
  subst ho
  have hb0 := alo (Below.refl w.heap.size w) (.cells #[.slice A n c, .int .i64 at_, .bool st] 74)
  have B0 := Blk.new w 74 #[.slice A n c, .int .i64 at_, .bool st]
  unfold coreFits
  simp only []
  rw [hl, ← any_notH]
  have hc1 := fun W => in_any at_ 0 (x2.length - 1) W
  have hc2 := containsInt (fun x => !inB x 0 255) _ #[] enters_fit A n c xs _ (fun _ => True) (fun _ _ => trivial) (fun W x _ _ => fitBad_any x W) (h.below hb0)
  have hw := IntWalk.i64_in ((x2.length : Int) - 1) (by omega)
  generalize (xs.any fun x => !inB x 0 255) = v2 at *
  generalize inB at_ 0 (x2.length - 1) = v1 at *
  clear h hl
  skip
  skip
  have cB0_0 := B0.c0; have cB0_1 := B0.c1; have cB0_2 := B0.c2; have fB0 := B0.frozen
  by_cases hn : (n : Int) = cells
  · have hn1 : ((n : Int) == cells) = true := by rw [hn]; exact beq_self_eq_true _
    have hn2 : decide ((n : Int) = cells) = true := decide_eq_true hn
    rw [hn2]
    clear hn hn2
    cases v1
    · clear hc2
      go_enter Tryz.func100, Tryz.ntmps100
      go_wp2_with fail
      refine (hc1 _).mono ?_; rintro e w' ⟨rfl, rfl⟩
      go_wp2
      go_ret
      exact ⟨rfl, hb0⟩
    · go_enter Tryz.func100, Tryz.ntmps100
      go_wp2_with fail
      refine (hc1 _).mono ?_; rintro e w' ⟨rfl, rfl⟩
      go_wp2_with fail
      refine hc2.mono ?_; rintro e w2 ⟨rfl, hb2⟩
      go_wp2
      go_ret
      exact ⟨by cases v2 <;> rfl, thn hb0 hb2⟩
  · have hn1 : ((n : Int) == cells) = false := by rw [beq_eq_false_iff_ne]; exact hn
    have hn2 : decide ((n : Int) = cells) = false := decide_eq_false hn
    rw [hn2]
    clear hn hn2 hc1 hc2
    go_enter Tryz.func100, Tryz.ntmps100
    go_wp2
    go_ret
    exact ⟨rfl, hb0⟩

set_option maxHeartbeats 1000000 in
theorem specCoreValid_any (x : CoreT) (o : OrdL) (cells : Int) (hcl : -1000 ≤ cells ∧ cells ≤ 1000) (w : World) (h : okC w x) (ho : okO w o) :
    Calls Tryz.prog 69 #[.agg (eCo x).toArray, o.v, .int .i64 cells] w fun e w' => .returned (.bool (progOk o.xs cells && coreFits (cC x) (cO o) cells)) = e ∧ Below w.heap.size w w' := by
  obtain ⟨⟨A, n, c, xs⟩, at_, st⟩ := x
  obtain ⟨A2, n2, c2, x2⟩ := o
  simp only [okC, okO, eCo, SV.v, cC, cO] at h ho ⊢
  have hl := h.len
  have hle := h.le
  have hmax := h.max
  have hl2 := ho.len
  have hle2 := ho.le
  have hmax2 := ho.max
  subst hl2
  have hb0 := alo (Below.refl w.heap.size w) (.cells #[.slice A n c, .int .i64 at_, .bool st] 74)
  have B0 := Blk.new w 74 #[.slice A n c, .int .i64 at_, .bool st]
  have HR := Lib.hid (show (progOk x2 cells && coreFits (xs, at_, st) x2 cells) = (progOk x2 cells && (decide ((n : Int) = cells) && (inB at_ 0 (x2.length - 1) && xs.all fun v => inB v 0 255))) by unfold coreFits; rw [hl])
  have HL := Lib.hid hl
  clear hl
  go_enter Tryz.func69, Tryz.ntmps69
  go_wp2_with fail
  go_loopg [7] n (fun gg s7 wr => ∃ kk : Nat, kk ≤ n ∧ n - kk ≤ gg ∧ s7 = .int .i64 kk ∧ Aside (Below w.heap.size w wr) ∧ Aside (Blk wr w.heap.size 74 #[.slice A n c, .int .i64 at_, .bool st]) ∧ Aside (∀ j y, j < kk → xs[j]? = some y → inB y 0 255 = true))
  case atStart => exact ⟨0, Nat.zero_le _, by omega, rfl, (show Aside _ from hb0), (show Aside _ from B0), (show Aside _ from fun j _ hj => absurd hj (Nat.not_lt_zero _))⟩
  case round =>
    obtain ⟨kk, hkk, hg, rfl, BW, BB, AA⟩ := hrel
    clear B0
    have B0 := BB.out
    clear BB
    have c0 := B0.c0
    by_cases hlt : kk < n
    · have hltz : (kk : Int) < (n : Int) := by omega
      obtain ⟨bb, oo, rfl, y, hx, hc⟩ := h.nth hlt BW.out
      have q0 := hc 0 _ rfl
      simp only [eI, Nat.mul_one, Nat.add_zero] at q0
      have HX := Lib.hid hx
      have h1 := fun W => l1In_any y 0 255 W
      clear hc hx
      obtain ⟨v1, hv1⟩ : ∃ v1, inB y 0 255 = v1 := ⟨_, rfl⟩
      rw [hv1] at h1
      have HV := Lib.hid hv1
      clear hv1
      cases v1
      · go_wp2_with fail; refine (h1 _).mono ?_; rintro e w' ⟨rfl, rfl⟩
        go_wp2
        go_ret
        exact ⟨by rw [HR.out, all_fails HX.out HV.out, Bool.and_false, Bool.and_false, Bool.and_false]; rfl, BW.out⟩
      · go_wp2_with fail; refine (h1 _).mono ?_; rintro e w' ⟨rfl, rfl⟩
        go_wp2
        go_roundg (n - (kk + 1))
        case measure => omega
        case rel =>
          refine ⟨kk + 1, by omega, by omega, by go_num, (show Aside _ from BW.out), (show Aside _ from B0), (show Aside _ from fun j z hj hz => ?_)⟩
          by_cases e : j = kk
          · subst e
            have := HX.out
            rw [this] at hz
            injection hz with hz
            rw [← hz]; exact HV.out
          · exact AA.out j z (by omega) hz
    · have hltz : ¬ (kk : Int) < (n : Int) := by omega
      obtain rfl : n = kk := by omega
      have HA := Lib.hid (show (xs.all fun v => inB v 0 255) = true from by
        rw [List.all_eq_true]
        intro z hz
        obtain ⟨j, hj, hjx⟩ := List.getElem_of_mem hz
        exact AA.out j z (by have := HL.out; omega) (by rw [List.getElem?_eq_getElem hj, hjx]))
      have h1 := specProgValid_any A2 x2.length c2 x2 cells hcl wr (ho.below BW.out)
      have h2 := fun W => l1In_any at_ 0 (x2.length - 1) W
      have hw := IntWalk.i64_in ((x2.length : Int) - 1) (by omega)
      have hRR := HR.out
      rw [HA.out, Bool.and_true] at hRR
      have HRR := Lib.hid hRR
      clear hRR HR HA AA h ho
      obtain ⟨v1, hv1⟩ : ∃ v1, progOk x2 cells = v1 := ⟨_, rfl⟩
      obtain ⟨v2, hv2⟩ : ∃ v2, inB at_ 0 (x2.length - 1) = v2 := ⟨_, rfl⟩
      rw [hv1] at h1 HRR
      rw [hv2] at h2 HRR
      have HV1 := Lib.hid hv1
      clear hv1 hv2
      cases v1
      · go_wp2_with fail
        refine h1.mono ?_
        rintro e w2 ⟨rfl, hb2⟩
        go_wp2
        go_ret
        exact ⟨by rw [HV1.out]; rfl, thn BW.out hb2⟩
      · by_cases hn : (n : Int) = cells
        · have hn1 : ((n : Int) == cells) = true := by rw [hn]; exact beq_self_eq_true _
          have HN2 := Lib.hid (show decide ((n : Int) = cells) = true from decide_eq_true hn)
          clear hn
          go_wp2_with fail
          refine h1.mono ?_
          rintro e w2 ⟨rfl, hb2⟩
          replace B0 := B0.below hb2
          clear c0
          have c0 := B0.c0
          have c1 := B0.c1
          go_wp2_with fail; refine (h2 _).mono ?_; rintro e w' ⟨rfl, rfl⟩
          go_wp2
          go_ret
          exact ⟨by rw [HV1.out, HRR.out, HN2.out]; cases v2 <;> rfl, thn BW.out hb2⟩
        · have hn1 : ((n : Int) == cells) = false := by rw [beq_eq_false_iff_ne]; exact hn
          have HN2 := Lib.hid (show decide ((n : Int) = cells) = false from decide_eq_false hn)
          clear hn
          go_wp2_with fail
          refine h1.mono ?_
          rintro e w2 ⟨rfl, hb2⟩
          replace B0 := B0.below hb2
          clear c0
          have c0 := B0.c0
          go_wp2
          go_ret
          exact ⟨by rw [HV1.out, HRR.out, HN2.out]; rfl, thn BW.out hb2⟩
end Go.Proofs.YtckgdlgdipfgmaaGreat

namespace Go.Proofs.YtckgdlgdipfgmaaGreat
set_option linter.unusedVariables false
set_option linter.unusedSimpArgs false
open Go.RowKit

abbrev MacC := SetC × List (List (Int × Int × Int)) × List (List Int × Int × Bool) × List (List Int) × Int
def progAt (ps : List (List Win × Int)) (os : List (List (Int × Int × Int))) (k : Nat) : Bool := match os[k]?, ps[k]? with | some o, some p => progOk o p.2 | _, _ => false
def coreAt (c : MacC) (k : Nat) : Bool := match c.2.2.1[k]?, c.2.1[k]?, c.1.1[k]? with | some x, some o, some p => coreFits x o p.2 | _, _, _ => false
def holdAt (c : MacC) (k : Nat) : Bool := match c.2.2.2.1[k]?, c.1.2.1[k]? with | some h, some ch => holdOk h ch.1 ch.2.2.2 | _, _ => false
def progsOkC (c : SetC) (os : List (List (Int × Int × Int))) : Bool := setupOkC c && (decide (os.length = c.1.length) && (List.range c.1.length).all (progAt c.1 os))
def machOkC (c : MacC) : Bool := progsOkC c.1 c.2.1 && (decide (c.2.2.1.length = c.2.1.length) && (decide (c.2.2.2.1.length = c.1.2.1.length) && ((List.range c.2.2.1.length).all (coreAt c) && ((List.range c.2.2.2.1.length).all (holdAt c) && inB c.2.2.2.2 0 100000))))
theorem range_false {n k : Nat} {f : Nat → Bool} (hk : k < n) (h : f k = false) : (List.range n).all f = false := by
  rw [List.all_eq_false]
  exact ⟨k, List.mem_range.2 hk, by rw [h]; simp⟩
theorem range_true {n : Nat} {f : Nat → Bool} (h : ∀ k, k < n → f k = true) : (List.range n).all f = true := by
  rw [List.all_eq_true]
  exact fun k hk => h k (List.mem_range.1 hk)
theorem po_setup {c : SetC} {os : List (List (Int × Int × Int))} (h : setupOkC c = false) : progsOkC c os = false := by unfold progsOkC; rw [h]; rfl
theorem po_len {c : SetC} {os : List (List (Int × Int × Int))} (h : ¬ os.length = c.1.length) : progsOkC c os = false := by unfold progsOkC; rw [decide_eq_false h]; simp
theorem po_prog {c : SetC} {os : List (List (Int × Int × Int))} {k : Nat} (hk : k < c.1.length) (h : progAt c.1 os k = false) : progsOkC c os = false := by unfold progsOkC; rw [range_false hk h]; simp
theorem po_true {c : SetC} {os : List (List (Int × Int × Int))} (h1 : setupOkC c = true) (h2 : os.length = c.1.length) (h : ∀ k, k < c.1.length → progAt c.1 os k = true) : progsOkC c os = true := by unfold progsOkC; rw [h1, decide_eq_true h2, range_true h]; rfl
theorem po_out {c : SetC} {os : List (List (Int × Int × Int))} (h : progsOkC c os = true) : setupOkC c = true ∧ os.length = c.1.length := by
  simp only [progsOkC, Bool.and_eq_true, decide_eq_true_eq] at h
  exact ⟨h.1, h.2.1⟩
theorem mo_progs {c : MacC} (h : progsOkC c.1 c.2.1 = false) : machOkC c = false := by unfold machOkC; rw [h]; rfl
theorem mo_len1 {c : MacC} (h : ¬ c.2.2.1.length = c.2.1.length) : machOkC c = false := by unfold machOkC; rw [decide_eq_false h]; simp
theorem mo_len2 {c : MacC} (h : ¬ c.2.2.2.1.length = c.1.2.1.length) : machOkC c = false := by unfold machOkC; rw [decide_eq_false h]; simp
theorem mo_core {c : MacC} {k : Nat} (hk : k < c.2.2.1.length) (h : coreAt c k = false) : machOkC c = false := by unfold machOkC; rw [range_false hk h]; simp
theorem mo_hold {c : MacC} {k : Nat} (hk : k < c.2.2.2.1.length) (h : holdAt c k = false) : machOkC c = false := by unfold machOkC; rw [range_false hk h]; simp
theorem mo_end {c : MacC} (h1 : progsOkC c.1 c.2.1 = true) (h2 : c.2.2.1.length = c.2.1.length) (h3 : c.2.2.2.1.length = c.1.2.1.length) (h4 : ∀ k, k < c.2.2.1.length → coreAt c k = true) (h5 : ∀ k, k < c.2.2.2.1.length → holdAt c k = true) : machOkC c = inB c.2.2.2.2 0 100000 := by
  unfold machOkC; rw [h1, decide_eq_true h2, decide_eq_true h3, range_true h4, range_true h5]; rfl
theorem setup_cells {c : SetC} (h : setupOkC c = true) {k : Nat} {p : List Win × Int} (hp : c.1[k]? = some p) : 1 ≤ p.2 ∧ p.2 ≤ 8 := by
  simp only [setupOkC, partsOkC, Bool.and_eq_true, List.all_eq_true] at h
  exact inB_true.1 (h.1.2 p (List.mem_of_getElem? hp)).2
theorem mapAt {α β : Type} {f : α → β} {l : List α} {k : Nat} {x : α} (h : l[k]? = some x) : (l.map f)[k]? = some (f x) := by rw [List.getElem?_map, h]; rfl

set_option maxHeartbeats 1000000 in
theorem programmed_any (s : SetR) (o : SV OrdL) (w : World) (h : okS w s) (ho : okLO w o) :
    Calls Tryz.prog 99 #[setV s, o.v] w fun e w' => .returned (.bool (progsOkC (cS s) (o.xs.map cO))) = e ∧ Below w.heap.size w w' := by
  obtain ⟨⟨A1, n1, c1, x1⟩, ⟨A2, n2, c2, x2⟩, ⟨A3, n3, c3, x3⟩⟩ := s
  obtain ⟨A4, n4, c4, x4⟩ := o
  have hb0 := alo (Below.refl w.heap.size w) (.cells #[.slice A1 n1 c1, .slice A2 n2 c2, .slice A3 n3 c3] 38)
  have B0 := Blk.new w 38 #[.slice A1 n1 c1, .slice A2 n2 c2, .slice A3 n3 c3]
  have hq := setupValid_any _ _ (h.below hb0)
  obtain ⟨h1, -, -⟩ := h
  simp only [okLP, okLO] at h1 ho
  have hs1 := h1.1
  have hs4 := ho.1
  have hl1 := hs1.len
  have hl4 := hs4.len
  have hle1 := hs1.le
  have hmax1 := hs1.max
  have hle4 := hs4.le
  have hmax4 := hs4.max
  simp only [setV, SV.v_mk] at hq ⊢
  obtain ⟨C, hC⟩ : ∃ C : SetC, cS ((⟨A1, n1, c1, x1⟩, ⟨A2, n2, c2, x2⟩, ⟨A3, n3, c3, x3⟩) : SetR) = C := ⟨_, rfl⟩
  have HC1 := Lib.hid (show C.1 = x1.map cP by rw [← hC]; rfl)
  have HL1 := Lib.hid (show C.1.length = n1 by rw [HC1.out, List.length_map]; exact hl1)
  have HL4 := Lib.hid (show (x4.map cO).length = n4 by rw [List.length_map]; exact hl4)
  rw [hC] at hq ⊢
  clear hC h1 hl1 hl4
  have HP := Lib.hid (fun k (p : PartV) (y : OrdL) (hp : x1[k]? = some p) (hy : x4[k]? = some y) => show progAt C.1 (x4.map cO) k = progOk y.xs p.2 from by unfold progAt; rw [HC1.out, mapAt hp, mapAt hy]; rfl)
  obtain ⟨R, hR⟩ : ∃ R, progsOkC C (x4.map cO) = R := ⟨_, rfl⟩
  have HR := Lib.hid hR
  rw [hR]
  clear hR
  skip
  skip
  have cB0_0 := B0.c0; have cB0_1 := B0.c1; have cB0_2 := B0.c2; have fB0 := B0.frozen
  obtain ⟨v1, hv1⟩ : ∃ v, setupOkC C = v := ⟨_, rfl⟩
  rw [hv1] at hq
  have HV1 := Lib.hid hv1
  clear hv1
  cases v1
  · go_enter Tryz.func99, Tryz.ntmps99
    go_wp2_with fail; refine (hq).mono ?_; rintro e w1 ⟨rfl, hbw1⟩; replace B0 := Blk.belowOf B0 hbw1 (by repeat (first | exact B0 | apply Blk.alloc | apply Blk.drew | (apply Blk.far; rotate_left; (first | assumption | exact Ne.symm (by assumption))) | apply Blk.set_))
    go_wp2
    go_ret
    exact ⟨by rw [← HR.out, po_setup HV1.out]; rfl, thn hb0 hbw1⟩
  · by_cases hn : n4 = n1
    · subst hn
      go_enter Tryz.func99, Tryz.ntmps99
      go_wp2_with fail; refine (hq).mono ?_; rintro e w1 ⟨rfl, hbw1⟩; replace B0 := Blk.belowOf B0 hbw1 (by repeat (first | exact B0 | apply Blk.alloc | apply Blk.drew | (apply Blk.far; rotate_left; (first | assumption | exact Ne.symm (by assumption))) | apply Blk.set_))
      have hb1 := thn hb0 hbw1
      clear cB0_0 cB0_1 cB0_2 fB0
      have cB0_0 := B0.c0; have cB0_1 := B0.c1; have cB0_2 := B0.c2; have fB0 := B0.frozen
      clear hbw1 hb0 hq
      go_wp2_with fail
      go_loopg [21] n4 (fun gg s21 wr => ∃ kk : Nat, kk ≤ n4 ∧ n4 - kk ≤ gg ∧ s21 = .int .i64 kk ∧ Aside (Below w.heap.size w wr) ∧ Aside (∀ j, j < kk → progAt C.1 (x4.map cO) j = true))
      case atStart => exact ⟨0, Nat.zero_le _, by omega, rfl, (show Aside _ from hb1), (show Aside _ from fun j hj => absurd hj (Nat.not_lt_zero _))⟩
      case round =>
        obtain ⟨kk, hkk, hg, rfl, BW, AA⟩ := hrel
        clear B0 hb1 cB0_0 cB0_1 cB0_2 fB0
        by_cases hlt : kk < n4
        · have hltz : (kk : Int) < (n4 : Int) := by omega
          obtain ⟨b, o, rfl, y, hx, hc⟩ := hs1.nth hlt BW.out
          obtain ⟨b', o', rfl, y', hx', hc'⟩ := hs4.nth hlt BW.out
          have q0 := hc 0 _ rfl
          have q1 := hc 1 _ rfl
          have HPK := Lib.hid (HP.out kk y y' hx hx')
          have hy' := ho.2 y' (List.mem_of_getElem? hx')
          obtain ⟨⟨A5, n5, c5, x5⟩, m5⟩ := y
          obtain ⟨A6, n6, c6, x6⟩ := y'
          simp only [eP, eOL, SV.v, Nat.add_zero, Nat.mul_one] at q0 q1
          have r0 := hc' 0 _ rfl
          simp only [eP, eOL, SV.v, Nat.add_zero, Nat.mul_one] at r0
          have hbW := alo (Below.refl wr.heap.size wr) (.cells #[.slice A5 n5 c5, .int .i64 m5] 118)
          have B6 := Blk.new wr 118 #[.slice A5 n5 c5, .int .i64 m5]
          have hq := fun x : Near (wr.alloc (.cells #[.slice A5 n5 c5, .int .i64 m5] 118)) => progValid_any A6 n6 c6 x6 m5 x.W (Sl.below (okO.below hy' (thn BW.out hbW)) x.b)
          have hlt0 := World.block_lt_of_cell? _ _ r0
          have g0 := fun x : Near (wr.alloc (.cells #[.slice A5 n5 c5, .int .i64 m5] 118)) => (((thn hbW x.b).cell (p := ⟨b', o' + kk, none⟩) hlt0).trans r0)
          simp only [] at HPK
          obtain ⟨v2, hv2⟩ : ∃ v2, progOk x6 m5 = v2 := ⟨_, rfl⟩
          rw [hv2] at hq HPK
          clear hc hc' hx hx' hy' hv2
          skip
          skip
          go_wp2_with fail
          have qB6_0 := fun x => (B6.near x).c0; have qB6_1 := fun x => (B6.near x).c1; refine wp_region_near (by kernel_rfl) (by kernel_rfl) ?_; (repeat (go_big_quiet_step (first | (go_at_call 125; with_reducible exact near_call (hq _))))); refine wpQuiet_nil ?_; intro xN; have hbw2 := xN.b; generalize xN.W = w2 at hbw2 ⊢; clear xN; clear qB6_0 qB6_1; replace B6 := B6.below hbw2
          clear g0 hq
          cases v2
          · go_wp2
            go_ret
            exact ⟨by rw [← HR.out, po_prog (by rw [HL1.out]; exact hlt) HPK.out]; rfl, thn (thn BW.out hbW) hbw2⟩
          · go_wp2
            go_roundg (n4 - (kk + 1))
            case measure => omega
            case rel =>
              refine ⟨kk + 1, by omega, by omega, by go_num, (show Aside _ from thn (thn BW.out hbW) hbw2), (show Aside _ from fun j hj => ?_)⟩
              by_cases e : j = kk
              · subst e; exact HPK.out
              · exact AA.out j (by omega)
        · have hltz : ¬ (kk : Int) < (n4 : Int) := by omega
          obtain rfl : n4 = kk := by omega
          go_wp2
          go_ret
          exact ⟨by rw [← HR.out, po_true HV1.out (by rw [HL1.out]; exact HL4.out) (fun j hj => AA.out j (by rw [HL1.out] at hj; exact hj))]; rfl, BW.out⟩
    · have hnz : ((n4 : Int) != (n1 : Int)) = true := by rw [bne_iff_ne]; omega
      have hnz2 : ¬ (n4 : Int) = (n1 : Int) := by omega
      have HN := Lib.hid hn
      clear hn
      skip
      go_enter Tryz.func99, Tryz.ntmps99
      go_wp2_with fail; refine (hq).mono ?_; rintro e w1 ⟨rfl, hbw1⟩; replace B0 := Blk.belowOf B0 hbw1 (by repeat (first | exact B0 | apply Blk.alloc | apply Blk.drew | (apply Blk.far; rotate_left; (first | assumption | exact Ne.symm (by assumption))) | apply Blk.set_))
      clear cB0_0 cB0_1 cB0_2 fB0
      have cB0_0 := B0.c0; have cB0_1 := B0.c1; have cB0_2 := B0.c2; have fB0 := B0.frozen
      go_wp2
      go_ret
      exact ⟨by rw [← HR.out, po_len (by rw [HL1.out, HL4.out]; exact HN.out)]; rfl, thn hb0 hbw1⟩
set_option maxRecDepth 100000 in
set_option maxHeartbeats 4000000 in
theorem machineValid_any (m : MacR) (w : World) (h : okM w m) :
    Calls Tryz.prog 57 #[macV m] w fun e w' => .returned (.bool (machOkC (cM m))) = e ∧ Below w.heap.size w w' := by
  obtain ⟨⟨⟨A1, n1, c1, x1⟩, ⟨A2, n2, c2, x2⟩, ⟨A3, n3, c3, x3⟩⟩, ⟨A4, n4, c4, x4⟩, ⟨A5, n5, c5, x5⟩, ⟨A6, n6, c6, x6⟩, tick⟩ := m
  obtain ⟨hS, ho, hk, hh⟩ := h
  have hb0 := alo (Below.refl w.heap.size w) (.cells #[.slice A1 n1 c1, .slice A2 n2 c2, .slice A3 n3 c3, .slice A4 n4 c4, .slice A5 n5 c5, .slice A6 n6 c6, .int .i64 tick] 43)
  have B0 := Blk.new w 43 #[.slice A1 n1 c1, .slice A2 n2 c2, .slice A3 n3 c3, .slice A4 n4 c4, .slice A5 n5 c5, .slice A6 n6 c6, .int .i64 tick]
  have hq := programmed_any _ _ _ (hS.below hb0) (ho.below hb0)
  have hs1 : Sl w 2 eP A1 n1 c1 x1 := hS.1.1
  have hs2 : Sl w 4 eC A2 n2 c2 x2 := hS.2.1
  have hs4 : Sl w 1 eOL A4 n4 c4 x4 := ho.1
  have hs5 : Sl w 3 eCo A5 n5 c5 x5 := hk.1
  have hs6 : Sl w 1 eHr A6 n6 c6 x6 := hh.1
  have HO := Lib.hid (show ∀ y ∈ x4, okO w y from ho.2)
  have HK := Lib.hid (show ∀ y ∈ x5, okC w y from hk.2)
  have HH := Lib.hid (show ∀ y ∈ x6, okH w y from hh.2)
  have hle1 := hs1.le
  have hmax1 := hs1.max
  have hle2 := hs2.le
  have hmax2 := hs2.max
  have hle4 := hs4.le
  have hmax4 := hs4.max
  have hle5 := hs5.le
  have hmax5 := hs5.max
  have hle6 := hs6.le
  have hmax6 := hs6.max
  simp only [macV, setV, SV.v_mk] at hq ⊢
  obtain ⟨C, hC⟩ : ∃ C : MacC, cM ((((⟨A1, n1, c1, x1⟩, ⟨A2, n2, c2, x2⟩, ⟨A3, n3, c3, x3⟩) : SetR), ⟨A4, n4, c4, x4⟩, ⟨A5, n5, c5, x5⟩, ⟨A6, n6, c6, x6⟩, tick) : MacR) = C := ⟨_, rfl⟩
  have E1 := Lib.hid (show C.1.1 = x1.map cP by rw [← hC]; rfl)
  have E2 := Lib.hid (show C.1.2.1 = x2 by rw [← hC]; rfl)
  have E4 := Lib.hid (show C.2.1 = x4.map cO by rw [← hC]; rfl)
  have E5 := Lib.hid (show C.2.2.1 = x5.map cC by rw [← hC]; rfl)
  have E6 := Lib.hid (show C.2.2.2.1 = x6.map cH by rw [← hC]; rfl)
  have E7 := Lib.hid (show C.2.2.2.2 = tick by rw [← hC]; rfl)
  have L1 := Lib.hid (show C.1.1.length = n1 by rw [E1.out, List.length_map]; exact hs1.len)
  have L2 := Lib.hid (show C.1.2.1.length = n2 by rw [E2.out]; exact hs2.len)
  have L4 := Lib.hid (show C.2.1.length = n4 by rw [E4.out, List.length_map]; exact hs4.len)
  have L5 := Lib.hid (show C.2.2.1.length = n5 by rw [E5.out, List.length_map]; exact hs5.len)
  have L6 := Lib.hid (show C.2.2.2.1.length = n6 by rw [E6.out, List.length_map]; exact hs6.len)
  have HCO := Lib.hid (fun k (p : PartV) (y : OrdL) (z : CoreT) (hp : x1[k]? = some p) (hy : x4[k]? = some y) (hz : x5[k]? = some z) => show coreAt C k = coreFits (cC z) (cO y) p.2 from by unfold coreAt; rw [E5.out, E4.out, E1.out, mapAt hp, mapAt hy, mapAt hz]; rfl)
  have HPR := Lib.hid (fun k (p : PartV) (y : OrdL) (hp : x1[k]? = some p) (hy : x4[k]? = some y) => show progAt C.1.1 C.2.1 k = progOk y.xs p.2 from by unfold progAt; rw [E4.out, E1.out, mapAt hp, mapAt hy]; rfl)
  have HHO := Lib.hid (fun k (y : HoldR) (ch : ChanT) (hy : x6[k]? = some y) (hc : x2[k]? = some ch) => show holdAt C k = holdOk y.xs ch.1 ch.2.2.2 from by unfold holdAt; rw [E6.out, E2.out, mapAt hy, hc]; rfl)
  rw [show cS ((⟨A1, n1, c1, x1⟩, ⟨A2, n2, c2, x2⟩, ⟨A3, n3, c3, x3⟩) : SetR) = C.1 from by rw [← hC]; rfl, ← E4.out] at hq
  rw [hC]
  clear hC hS ho hk hh
  obtain ⟨R, hR⟩ : ∃ R, machOkC C = R := ⟨_, rfl⟩
  have HR := Lib.hid hR
  rw [hR]
  clear hR
  skip
  skip
  have cB0_0 := B0.c0; have cB0_1 := B0.c1; have cB0_2 := B0.c2; have cB0_3 := B0.c3; have cB0_4 := B0.c4; have cB0_5 := B0.c5; have cB0_6 := B0.c6; have fB0 := B0.frozen
  obtain ⟨v1, hv1⟩ : ∃ v, progsOkC C.1 C.2.1 = v := ⟨_, rfl⟩
  rw [hv1] at hq
  have HV1 := Lib.hid hv1
  clear hv1
  cases v1
  · go_enter Tryz.func57, Tryz.ntmps57
    go_wp2_with fail; refine (hq).mono ?_; rintro e w1 ⟨rfl, hbw1⟩; replace B0 := Blk.belowOf B0 hbw1 (by repeat (first | exact B0 | apply Blk.alloc | apply Blk.drew | (apply Blk.far; rotate_left; (first | assumption | exact Ne.symm (by assumption))) | apply Blk.set_))
    go_wp2
    go_ret
    exact ⟨by rw [← HR.out, mo_progs HV1.out]; rfl, thn hb0 hbw1⟩
  · have h41 : n4 = n1 := by have := (po_out HV1.out).2; rw [L4.out, L1.out] at this; exact this
    subst h41
    skip
    by_cases h5 : n5 = n4
    · subst h5
      by_cases h6 : n6 = n2
      · subst h6
        go_enter Tryz.func57, Tryz.ntmps57
        go_wp2_with fail; refine (hq).mono ?_; rintro e w1 ⟨rfl, hbw1⟩; replace B0 := Blk.belowOf B0 hbw1 (by repeat (first | exact B0 | apply Blk.alloc | apply Blk.drew | (apply Blk.far; rotate_left; (first | assumption | exact Ne.symm (by assumption))) | apply Blk.set_))
        have hb1 := thn hb0 hbw1
        clear cB0_0 cB0_1 cB0_2 cB0_3 cB0_4 cB0_5 cB0_6 fB0
        have cB0_0 := B0.c0; have cB0_1 := B0.c1; have cB0_2 := B0.c2; have cB0_3 := B0.c3; have cB0_4 := B0.c4; have cB0_5 := B0.c5; have cB0_6 := B0.c6; have fB0 := B0.frozen
        clear hbw1 hb0 hq
        go_wp2_with fail
        go_loopg [36] n5 (fun gg s36 wr => ∃ kk : Nat, kk ≤ n5 ∧ n5 - kk ≤ gg ∧ s36 = .int .i64 kk ∧ Aside (Below w.heap.size w wr) ∧ Aside (Blk wr w.heap.size 43 #[.slice A1 n5 c1, .slice A2 n6 c2, .slice A3 n3 c3, .slice A4 n5 c4, .slice A5 n5 c5, .slice A6 n6 c6, .int .i64 tick]) ∧ Aside (∀ j, j < kk → coreAt C j = true))
        case atStart => exact ⟨0, Nat.zero_le _, by omega, rfl, (show Aside _ from hb1), (show Aside _ from B0), (show Aside _ from fun j hj => absurd hj (Nat.not_lt_zero _))⟩
        case round =>
          obtain ⟨kk, hkk, hg, rfl, BW, BB, AA⟩ := hrel
          clear cB0_0 cB0_1 cB0_2 cB0_3 cB0_4 cB0_5 cB0_6 fB0
          clear B0 hb1
          have B0 := BB.out
          clear BB
          by_cases hlt : kk < n5
          · have hltz : (kk : Int) < (n5 : Int) := by omega
            obtain ⟨b1, o1, rfl, y1, hx1, hc1⟩ := hs1.nth hlt BW.out
            obtain ⟨b4, o4, rfl, y4, hx4, hc4⟩ := hs4.nth hlt BW.out
            obtain ⟨b5, o5, rfl, y5, hx5, hc5⟩ := hs5.nth hlt BW.out
            have r1 := hc1 1 _ rfl
            have r4 := hc4 0 _ rfl
            have q0 := hc5 0 _ rfl
            have q1 := hc5 1 _ rfl
            have q2 := hc5 2 _ rfl
            have HPK := Lib.hid (HCO.out kk y1 y4 y5 hx1 hx4 hx5)
            have hy4 := HO.out y4 (List.mem_of_getElem? hx4)
            have hy5 := HK.out y5 (List.mem_of_getElem? hx5)
            obtain ⟨⟨A7, n7, c7, x7⟩, m7⟩ := y1
            obtain ⟨A8, n8, c8, x8⟩ := y4
            obtain ⟨⟨A9, n9, c9, x9⟩, m9, t9⟩ := y5
            simp only [eP, eOL, eCo, SV.v, Nat.add_zero, Nat.mul_one] at r1 r4 q0 q1 q2
            have hbW := alo (Below.refl wr.heap.size wr) (.cells #[.slice A9 n9 c9, .int .i64 m9, .bool t9] 74)
            have B4 := Blk.new wr 74 #[.slice A9 n9 c9, .int .i64 m9, .bool t9]
            have B0 := B0.alloc (.cells #[.slice A9 n9 c9, .int .i64 m9, .bool t9] 74)
            have hq := fun x : Near (wr.alloc (.cells #[.slice A9 n9 c9, .int .i64 m9, .bool t9] 74)) => fits_any (⟨A9, n9, c9, x9⟩, m9, t9) ⟨A8, n8, c8, x8⟩ m7 x.W (okC.below hy5 (thn (thn BW.out hbW) x.b)) (Sl.len hy4).symm (Nat.le_trans (Sl.le hy4) (Sl.max hy4))
            have hl1 := World.block_lt_of_cell? _ _ r1
            have hl4 := World.block_lt_of_cell? _ _ r4
            have g1 := fun x : Near (wr.alloc (.cells #[.slice A9 n9 c9, .int .i64 m9, .bool t9] 74)) => (((thn hbW x.b).cell (p := ⟨b1, o1 + kk * 2 + 1, none⟩) hl1).trans r1)
            have g4 := fun x : Near (wr.alloc (.cells #[.slice A9 n9 c9, .int .i64 m9, .bool t9] 74)) => (((thn hbW x.b).cell (p := ⟨b4, o4 + kk, none⟩) hl4).trans r4)
            simp only [cC, cO] at HPK hq
            simp only [eCo, SV.v] at hq
            obtain ⟨v2, hv2⟩ : ∃ v2, coreFits (x9, m9, t9) x8 m7 = v2 := ⟨_, rfl⟩
            rw [hv2] at hq HPK
            clear hc1 hc4 hc5 hx1 hx4 hx5 hy4 hy5 hv2
            skip
            skip
            go_wp2_with fail
            have qB0_0 := fun x => (B0.near x).c0; have qB0_1 := fun x => (B0.near x).c1; have qB0_2 := fun x => (B0.near x).c2; have qB0_3 := fun x => (B0.near x).c3; have qB0_4 := fun x => (B0.near x).c4; have qB0_5 := fun x => (B0.near x).c5; have qB0_6 := fun x => (B0.near x).c6; have qB4_0 := fun x => (B4.near x).c0; have qB4_1 := fun x => (B4.near x).c1; have qB4_2 := fun x => (B4.near x).c2; refine wp_region_near (by kernel_rfl) (by kernel_rfl) ?_; (repeat (go_big_quiet_step (first | (go_at_call 100; with_reducible exact near_call (hq _))))); refine wpQuiet_nil ?_; intro xN; have hbw2 := xN.b; generalize xN.W = w2 at hbw2 ⊢; clear xN; clear qB0_0 qB0_1 qB0_2 qB0_3 qB0_4 qB0_5 qB0_6; replace B0 := B0.below hbw2; clear qB4_0 qB4_1 qB4_2; replace B4 := B4.below hbw2
            clear g1 g4 hq
            cases v2
            · go_wp2
              go_ret
              exact ⟨by rw [← HR.out, mo_core (by rw [L5.out]; exact hlt) HPK.out]; rfl, thn (thn BW.out hbW) hbw2⟩
            · go_wp2
              go_roundg (n5 - (kk + 1))
              case measure => omega
              case rel =>
                refine ⟨kk + 1, by omega, by omega, by go_num, (show Aside _ from thn (thn BW.out hbW) hbw2), (show Aside _ from B0), (show Aside _ from fun j hj => ?_)⟩
                by_cases e : j = kk
                · subst e; exact HPK.out
                · exact AA.out j (by omega)
          · have hltz : ¬ (kk : Int) < (n5 : Int) := by omega
            obtain rfl : n5 = kk := by omega
            have HCA := Lib.hid (show ∀ j, j < C.2.2.1.length → coreAt C j = true from fun j hj => AA.out j (by rw [L5.out] at hj; exact hj))
            clear AA hltz hlt
            have hb1 := BW.out
            clear BW
            skip
            skip
            have cB0_0 := B0.c0; have cB0_1 := B0.c1; have cB0_2 := B0.c2; have cB0_3 := B0.c3; have cB0_4 := B0.c4; have cB0_5 := B0.c5; have cB0_6 := B0.c6; have fB0 := B0.frozen
            go_wp2_with fail
            go_loopg [60] n6 (fun gg s60 wr => ∃ kk : Nat, kk ≤ n6 ∧ n6 - kk ≤ gg ∧ s60 = .int .i64 kk ∧ Aside (Below w.heap.size w wr) ∧ Aside (Blk wr w.heap.size 43 #[.slice A1 n5 c1, .slice A2 n6 c2, .slice A3 n3 c3, .slice A4 n5 c4, .slice A5 n5 c5, .slice A6 n6 c6, .int .i64 tick]) ∧ Aside (∀ j, j < kk → holdAt C j = true))
            case atStart => exact ⟨0, Nat.zero_le _, by omega, rfl, (show Aside _ from hb1), (show Aside _ from B0), (show Aside _ from fun j hj => absurd hj (Nat.not_lt_zero _))⟩
            case round =>
              obtain ⟨kk, hkk, hg, rfl, BW, BB, AA⟩ := hrel
              clear cB0_0 cB0_1 cB0_2 cB0_3 cB0_4 cB0_5 cB0_6 fB0
              clear B0 hb1
              have B0 := BB.out
              clear BB
              by_cases hlt : kk < n6
              · have hltz : (kk : Int) < (n6 : Int) := by omega
                obtain ⟨b2, o2, rfl, y2, hx2, hc2⟩ := hs2.nth hlt BW.out
                obtain ⟨b6, o6, rfl, y6, hx6, hc6⟩ := hs6.nth hlt BW.out
                have q0 := hc2 0 _ rfl
                have q1 := hc2 1 _ rfl
                have q2 := hc2 2 _ rfl
                have q3 := hc2 3 _ rfl
                have r0 := hc6 0 _ rfl
                have HPK := Lib.hid (HHO.out kk y6 y2 hx6 hx2)
                have hy6 := HH.out y6 (List.mem_of_getElem? hx6)
                obtain ⟨k2, f2, t2, z2⟩ := y2
                obtain ⟨A9, n9, c9, x9⟩ := y6
                simp only [eC, eHr, SV.v, Nat.add_zero, Nat.mul_one] at r0 q0 q1 q2 q3
                have hbW := alo (alo (Below.refl wr.heap.size wr) (.cells #[.slice A9 n9 c9] 80)) (.cells #[.int .i64 k2, .int .i64 f2, .int .i64 t2, .int .i64 z2] 78)
                have hbV := alo (Below.refl wr.heap.size wr) (.cells #[.slice A9 n9 c9] 80)
                have B4 := (Blk.new wr 80 #[.slice A9 n9 c9]).alloc (.cells #[.int .i64 k2, .int .i64 f2, .int .i64 t2, .int .i64 z2] 78)
                have B7 := Blk.new2 wr (.cells #[.slice A9 n9 c9] 80) 78 #[.int .i64 k2, .int .i64 f2, .int .i64 t2, .int .i64 z2]
                have d0 := B4.c0
                have d1 := B7.c0
                have d2 := B7.c3
                have B0a := B0.alloc (.cells #[.slice A9 n9 c9] 80)
                have a1 := B0a.c1
                have u0 := (hbV.cell (p := ⟨b2, o2 + kk * 4, none⟩) (World.block_lt_of_cell? _ _ q0)).trans q0
                have u1 := (hbV.cell (p := ⟨b2, o2 + kk * 4 + 1, none⟩) (World.block_lt_of_cell? _ _ q1)).trans q1
                have u2 := (hbV.cell (p := ⟨b2, o2 + kk * 4 + 2, none⟩) (World.block_lt_of_cell? _ _ q2)).trans q2
                have u3 := (hbV.cell (p := ⟨b2, o2 + kk * 4 + 3, none⟩) (World.block_lt_of_cell? _ _ q3)).trans q3
                have hq := holdValid_any A9 n9 c9 x9 k2 z2 _ (Sl.below (okH.below hy6 BW.out) hbW)
                simp only [] at HPK
                obtain ⟨v2, hv2⟩ : ∃ v2, holdOk x9 k2 z2 = v2 := ⟨_, rfl⟩
                rw [hv2] at hq HPK
                clear hc2 hc6 hx2 hx6 hy6 hv2
                go_wp2_with fail
                refine hq.mono ?_
                rintro e w2 ⟨rfl, hb2⟩
                clear hq d0 d1 d2 a1 u0 u1 u2 u3 B4 B7 B0a
                have B0b := B0.below (thn hbW hb2)
                cases v2
                · go_wp2
                  go_ret
                  exact ⟨by rw [← HR.out, mo_hold (by rw [L6.out]; exact hlt) HPK.out]; rfl, thn (thn BW.out hbW) hb2⟩
                · go_wp2
                  go_roundg (n6 - (kk + 1))
                  case measure => omega
                  case rel =>
                    refine ⟨kk + 1, by omega, by omega, by go_num, (show Aside _ from thn (thn BW.out hbW) hb2), (show Aside _ from B0b), (show Aside _ from fun j hj => ?_)⟩
                    by_cases e : j = kk
                    · subst e; exact HPK.out
                    · exact AA.out j (by omega)
              · have hltz : ¬ (kk : Int) < (n6 : Int) := by omega
                obtain rfl : n6 = kk := by omega
                have HE := Lib.hid (mo_end HV1.out (by rw [L5.out, L4.out]) (by rw [L6.out, L2.out]) HCA.out (fun j hj => AA.out j (by rw [L6.out] at hj; exact hj)))
                have hq := fun W => in_any tick 0 100000 W
                have c6' := blk_cells B0 6 _ rfl
                go_wp2_with fail; refine (hq _).mono ?_; rintro e w' ⟨rfl, rfl⟩
                go_wp2
                go_ret
                exact ⟨by rw [← HR.out, HE.out, E7.out]; rfl, BW.out⟩
      · have hnz : ((n6 : Int) != (n2 : Int)) = true := by rw [bne_iff_ne]; omega
        have hnz2 : ¬ (n6 : Int) = (n2 : Int) := by omega
        have HN := Lib.hid h6
        clear h6
        skip
        go_enter Tryz.func57, Tryz.ntmps57
        go_wp2_with fail; refine (hq).mono ?_; rintro e w1 ⟨rfl, hbw1⟩; replace B0 := Blk.belowOf B0 hbw1 (by repeat (first | exact B0 | apply Blk.alloc | apply Blk.drew | (apply Blk.far; rotate_left; (first | assumption | exact Ne.symm (by assumption))) | apply Blk.set_))
        clear cB0_0 cB0_1 cB0_2 cB0_3 cB0_4 cB0_5 cB0_6 fB0
        have cB0_0 := B0.c0; have cB0_1 := B0.c1; have cB0_2 := B0.c2; have cB0_3 := B0.c3; have cB0_4 := B0.c4; have cB0_5 := B0.c5; have cB0_6 := B0.c6; have fB0 := B0.frozen
        go_wp2
        go_ret
        exact ⟨by rw [← HR.out, mo_len2 (by rw [L6.out, L2.out]; exact HN.out)]; rfl, thn hb0 hbw1⟩
    · have hnz : ((n5 : Int) != (n4 : Int)) = true := by rw [bne_iff_ne]; omega
      have hnz2 : ¬ (n5 : Int) = (n4 : Int) := by omega
      have HN := Lib.hid h5
      clear h5
      skip
      go_enter Tryz.func57, Tryz.ntmps57
      go_wp2_with fail; refine (hq).mono ?_; rintro e w1 ⟨rfl, hbw1⟩; replace B0 := Blk.belowOf B0 hbw1 (by repeat (first | exact B0 | apply Blk.alloc | apply Blk.drew | (apply Blk.far; rotate_left; (first | assumption | exact Ne.symm (by assumption))) | apply Blk.set_))
      clear cB0_0 cB0_1 cB0_2 cB0_3 cB0_4 cB0_5 cB0_6 fB0
      have cB0_0 := B0.c0; have cB0_1 := B0.c1; have cB0_2 := B0.c2; have cB0_3 := B0.c3; have cB0_4 := B0.c4; have cB0_5 := B0.c5; have cB0_6 := B0.c6; have fB0 := B0.frozen
      go_wp2
      go_ret
      exact ⟨by rw [← HR.out, mo_len1 (by rw [L5.out, L4.out]; exact HN.out)]; rfl, thn hb0 hbw1⟩
end Go.Proofs.YtckgdlgdipfgmaaGreat

namespace Go.Proofs.YtckgdlgdipfgmaaGreat
set_option linter.unusedVariables false
set_option linter.unusedSimpArgs false
open Go.RowKit


set_option maxRecDepth 100000 in
set_option maxHeartbeats 4000000 in
theorem specMachineValid_any (m : MacR) (w : World) (h : okM w m) :
    Calls Tryz.prog 29 #[macV m] w fun e w' => .returned (.bool (machOkC (cM m))) = e ∧ Below w.heap.size w w' := by
  obtain ⟨⟨⟨A1, n1, c1, x1⟩, ⟨A2, n2, c2, x2⟩, ⟨A3, n3, c3, x3⟩⟩, ⟨A4, n4, c4, x4⟩, ⟨A5, n5, c5, x5⟩, ⟨A6, n6, c6, x6⟩, tick⟩ := m
  obtain ⟨hS, ho, hk, hh⟩ := h
  have hb0 := alo (Below.refl w.heap.size w) (.cells #[.slice A1 n1 c1, .slice A2 n2 c2, .slice A3 n3 c3, .slice A4 n4 c4, .slice A5 n5 c5, .slice A6 n6 c6, .int .i64 tick] 43)
  have B0 := Blk.new w 43 #[.slice A1 n1 c1, .slice A2 n2 c2, .slice A3 n3 c3, .slice A4 n4 c4, .slice A5 n5 c5, .slice A6 n6 c6, .int .i64 tick]
  have hq := specSetupValid_any _ _ (hS.below hb0)
  have hs1 : Sl w 2 eP A1 n1 c1 x1 := hS.1.1
  have hs2 : Sl w 4 eC A2 n2 c2 x2 := hS.2.1
  have hs4 : Sl w 1 eOL A4 n4 c4 x4 := ho.1
  have hs5 : Sl w 3 eCo A5 n5 c5 x5 := hk.1
  have hs6 : Sl w 1 eHr A6 n6 c6 x6 := hh.1
  have HO := Lib.hid (show ∀ y ∈ x4, okO w y from ho.2)
  have HK := Lib.hid (show ∀ y ∈ x5, okC w y from hk.2)
  have HH := Lib.hid (show ∀ y ∈ x6, okH w y from hh.2)
  have hle1 := hs1.le
  have hmax1 := hs1.max
  have hle2 := hs2.le
  have hmax2 := hs2.max
  have hle4 := hs4.le
  have hmax4 := hs4.max
  have hle5 := hs5.le
  have hmax5 := hs5.max
  have hle6 := hs6.le
  have hmax6 := hs6.max
  simp only [macV, setV, SV.v_mk] at hq ⊢
  obtain ⟨C, hC⟩ : ∃ C : MacC, cM ((((⟨A1, n1, c1, x1⟩, ⟨A2, n2, c2, x2⟩, ⟨A3, n3, c3, x3⟩) : SetR), ⟨A4, n4, c4, x4⟩, ⟨A5, n5, c5, x5⟩, ⟨A6, n6, c6, x6⟩, tick) : MacR) = C := ⟨_, rfl⟩
  have E1 := Lib.hid (show C.1.1 = x1.map cP by rw [← hC]; rfl)
  have E2 := Lib.hid (show C.1.2.1 = x2 by rw [← hC]; rfl)
  have E4 := Lib.hid (show C.2.1 = x4.map cO by rw [← hC]; rfl)
  have E5 := Lib.hid (show C.2.2.1 = x5.map cC by rw [← hC]; rfl)
  have E6 := Lib.hid (show C.2.2.2.1 = x6.map cH by rw [← hC]; rfl)
  have E7 := Lib.hid (show C.2.2.2.2 = tick by rw [← hC]; rfl)
  have L1 := Lib.hid (show C.1.1.length = n1 by rw [E1.out, List.length_map]; exact hs1.len)
  have L2 := Lib.hid (show C.1.2.1.length = n2 by rw [E2.out]; exact hs2.len)
  have L4 := Lib.hid (show C.2.1.length = n4 by rw [E4.out, List.length_map]; exact hs4.len)
  have L5 := Lib.hid (show C.2.2.1.length = n5 by rw [E5.out, List.length_map]; exact hs5.len)
  have L6 := Lib.hid (show C.2.2.2.1.length = n6 by rw [E6.out, List.length_map]; exact hs6.len)
  have HCO := Lib.hid (fun k (p : PartV) (y : OrdL) (z : CoreT) (hp : x1[k]? = some p) (hy : x4[k]? = some y) (hz : x5[k]? = some z) => show coreAt C k = coreFits (cC z) (cO y) p.2 from by unfold coreAt; rw [E5.out, E4.out, E1.out, mapAt hp, mapAt hy, mapAt hz]; rfl)
  have HPR := Lib.hid (fun k (p : PartV) (y : OrdL) (hp : x1[k]? = some p) (hy : x4[k]? = some y) => show progAt C.1.1 C.2.1 k = progOk y.xs p.2 from by unfold progAt; rw [E4.out, E1.out, mapAt hp, mapAt hy]; rfl)
  have HHO := Lib.hid (fun k (y : HoldR) (ch : ChanT) (hy : x6[k]? = some y) (hc : x2[k]? = some ch) => show holdAt C k = holdOk y.xs ch.1 ch.2.2.2 from by unfold holdAt; rw [E6.out, E2.out, mapAt hy, hc]; rfl)
  rw [show cS ((⟨A1, n1, c1, x1⟩, ⟨A2, n2, c2, x2⟩, ⟨A3, n3, c3, x3⟩) : SetR) = C.1 from by rw [← hC]; rfl] at hq
  rw [hC]
  clear hC hS ho hk hh
  obtain ⟨R, hR⟩ : ∃ R, machOkC C = R := ⟨_, rfl⟩
  have HR := Lib.hid hR
  rw [hR]
  clear hR
  skip
  skip
  have cB0_0 := B0.c0; have cB0_1 := B0.c1; have cB0_2 := B0.c2; have cB0_3 := B0.c3; have cB0_4 := B0.c4; have cB0_5 := B0.c5; have cB0_6 := B0.c6; have fB0 := B0.frozen
  obtain ⟨v1, hv1⟩ : ∃ v, setupOkC C.1 = v := ⟨_, rfl⟩
  rw [hv1] at hq
  have HV1 := Lib.hid hv1
  clear hv1
  cases v1
  · go_enter Tryz.func29, Tryz.ntmps29
    go_wp2_with fail; refine (hq).mono ?_; rintro e w1 ⟨rfl, hbw1⟩; replace B0 := Blk.belowOf B0 hbw1 (by repeat (first | exact B0 | apply Blk.alloc | apply Blk.drew | (apply Blk.far; rotate_left; (first | assumption | exact Ne.symm (by assumption))) | apply Blk.set_))
    go_wp2
    go_ret
    exact ⟨by rw [← HR.out, mo_progs (po_setup HV1.out)]; rfl, thn hb0 hbw1⟩
  · skip
    by_cases h4 : n4 = n1
    · subst h4
      by_cases h5 : n5 = n4
      · subst h5
        by_cases h6 : n6 = n2
        · subst h6
          go_enter Tryz.func29, Tryz.ntmps29
          go_wp2_with fail; refine (hq).mono ?_; rintro e w1 ⟨rfl, hbw1⟩; replace B0 := Blk.belowOf B0 hbw1 (by repeat (first | exact B0 | apply Blk.alloc | apply Blk.drew | (apply Blk.far; rotate_left; (first | assumption | exact Ne.symm (by assumption))) | apply Blk.set_))
          have hb1 := thn hb0 hbw1
          clear cB0_0 cB0_1 cB0_2 cB0_3 cB0_4 cB0_5 cB0_6 fB0
          have cB0_0 := B0.c0; have cB0_1 := B0.c1; have cB0_2 := B0.c2; have cB0_3 := B0.c3; have cB0_4 := B0.c4; have cB0_5 := B0.c5; have cB0_6 := B0.c6; have fB0 := B0.frozen
          clear hbw1 hb0 hq
          go_wp2_with fail
          go_loopg [3] n5 (fun gg s3 wr => ∃ kk : Nat, kk ≤ n5 ∧ n5 - kk ≤ gg ∧ s3 = .int .i64 kk ∧ Aside (Below w.heap.size w wr) ∧ Aside (Blk wr w.heap.size 43 #[.slice A1 n5 c1, .slice A2 n6 c2, .slice A3 n3 c3, .slice A4 n5 c4, .slice A5 n5 c5, .slice A6 n6 c6, .int .i64 tick]) ∧ Aside (∀ j, j < kk → progAt C.1.1 C.2.1 j = true ∧ coreAt C j = true))
          case atStart => exact ⟨0, Nat.zero_le _, by omega, rfl, (show Aside _ from hb1), (show Aside _ from B0), (show Aside _ from fun j hj => absurd hj (Nat.not_lt_zero _))⟩
          case round =>
            obtain ⟨kk, hkk, hg, rfl, BW, BB, AA⟩ := hrel
            clear cB0_0 cB0_1 cB0_2 cB0_3 cB0_4 cB0_5 cB0_6 fB0
            clear B0 hb1
            have B0 := BB.out
            clear BB
            have x4' := blk_cells B0 4 _ rfl
            by_cases hlt : kk < n5
            · have hltz : (kk : Int) < (n5 : Int) := by omega
              obtain ⟨b1, o1, rfl, y1, hx1, hc1⟩ := hs1.nth hlt BW.out
              obtain ⟨b4, o4, rfl, y4, hx4, hc4⟩ := hs4.nth hlt BW.out
              obtain ⟨b5, o5, rfl, y5, hx5, hc5⟩ := hs5.nth hlt BW.out
              have r1 := hc1 1 _ rfl
              have r4 := hc4 0 _ rfl
              have q0 := hc5 0 _ rfl
              have q1 := hc5 1 _ rfl
              have q2 := hc5 2 _ rfl
              have HPK := Lib.hid (HCO.out kk y1 y4 y5 hx1 hx4 hx5)
              have HPG := Lib.hid (HPR.out kk y1 y4 hx1 hx4)
              have hcel := setup_cells HV1.out (k := kk) (p := cP y1) (by rw [E1.out]; exact mapAt hx1)
              have hy4 := HO.out y4 (List.mem_of_getElem? hx4)
              have hy5 := HK.out y5 (List.mem_of_getElem? hx5)
              obtain ⟨⟨A7, n7, c7, x7⟩, m7⟩ := y1
              obtain ⟨A8, n8, c8, x8⟩ := y4
              obtain ⟨⟨A9, n9, c9, x9⟩, m9, t9⟩ := y5
              simp only [eP, eOL, eCo, SV.v, Nat.add_zero, Nat.mul_one] at r1 r4 q0 q1 q2
              simp only [cP] at hcel
              have hq := fun x : Near wr => specCoreValid_any (⟨A9, n9, c9, x9⟩, m9, t9) ⟨A8, n8, c8, x8⟩ m7 (by omega) x.W (okC.below hy5 (thn BW.out x.b)) (okO.below hy4 (thn BW.out x.b))
              have g1 := fun x : Near wr => ((x.b.cell (p := ⟨b1, o1 + kk * 2 + 1, none⟩) (World.block_lt_of_cell? _ _ r1)).trans r1)
              have g4 := fun x : Near wr => ((x.b.cell (p := ⟨b4, o4 + kk, none⟩) (World.block_lt_of_cell? _ _ r4)).trans r4)
              have k0 := fun x : Near wr => ((x.b.cell (p := ⟨b5, o5 + kk * 3, none⟩) (World.block_lt_of_cell? _ _ q0)).trans q0)
              have k1 := fun x : Near wr => ((x.b.cell (p := ⟨b5, o5 + kk * 3 + 1, none⟩) (World.block_lt_of_cell? _ _ q1)).trans q1)
              have k2 := fun x : Near wr => ((x.b.cell (p := ⟨b5, o5 + kk * 3 + 2, none⟩) (World.block_lt_of_cell? _ _ q2)).trans q2)
              simp only [cC, cO] at HPK HPG hq
              simp only [eCo, SV.v] at hq
              obtain ⟨v2, hv2⟩ : ∃ v2, progOk x8 m7 = v2 := ⟨_, rfl⟩
              obtain ⟨v3, hv3⟩ : ∃ v3, coreFits (x9, m9, t9) x8 m7 = v3 := ⟨_, rfl⟩
              rw [hv2] at HPG
              rw [hv3] at HPK
              simp only [hv2, hv3] at hq
              clear hc1 hc4 hc5 hx1 hx4 hx5 hy4 hy5 hv2 hv3 hcel q0 q1 q2 r1 r4
              skip
              skip
              go_wp2_with fail
              have qB0_0 := fun x => (B0.near x).c0; have qB0_1 := fun x => (B0.near x).c1; have qB0_2 := fun x => (B0.near x).c2; have qB0_3 := fun x => (B0.near x).c3; have qB0_4 := fun x => (B0.near x).c4; have qB0_5 := fun x => (B0.near x).c5; have qB0_6 := fun x => (B0.near x).c6; refine wp_region_near (by kernel_rfl) (by kernel_rfl) ?_; (repeat (go_big_quiet_step (first | (go_at_call 69; with_reducible exact near_call (hq _))))); refine wpQuiet_nil ?_; intro xN; have hbw2 := xN.b; generalize xN.W = w2 at hbw2 ⊢; clear xN; clear qB0_0 qB0_1 qB0_2 qB0_3 qB0_4 qB0_5 qB0_6; replace B0 := B0.below hbw2
              clear g1 g4 k0 k1 k2 hq x4'
              cases v2
              · cases v3
                all_goals
                  go_wp2
                  go_ret
                  exact ⟨by rw [← HR.out, mo_progs (po_prog (by rw [L1.out]; exact hlt) HPG.out)]; rfl, thn BW.out hbw2⟩
              · cases v3
                · go_wp2
                  go_ret
                  exact ⟨by rw [← HR.out, mo_core (by rw [L5.out]; exact hlt) HPK.out]; rfl, thn BW.out hbw2⟩
                · go_wp2
                  go_roundg (n5 - (kk + 1))
                  case measure => omega
                  case rel =>
                    refine ⟨kk + 1, by omega, by omega, by go_num, (show Aside _ from thn BW.out hbw2), (show Aside _ from B0), (show Aside _ from fun j hj => ?_)⟩
                    by_cases e : j = kk
                    · subst e; exact ⟨HPG.out, HPK.out⟩
                    · exact AA.out j (by omega)
            · have hltz : ¬ (kk : Int) < (n5 : Int) := by omega
              obtain rfl : n5 = kk := by omega
              have HCA := Lib.hid (show ∀ j, j < C.2.2.1.length → coreAt C j = true from fun j hj => (AA.out j (by rw [L5.out] at hj; exact hj)).2)
              have HPA := Lib.hid (po_true HV1.out (by rw [L4.out, L1.out]) (fun j hj => (AA.out j (by rw [L1.out] at hj; exact hj)).1))
              clear AA hltz hlt
              have hb1 := BW.out
              clear BW
              skip
              skip
              have cB0_0 := B0.c0; have cB0_1 := B0.c1; have cB0_2 := B0.c2; have cB0_3 := B0.c3; have cB0_4 := B0.c4; have cB0_5 := B0.c5; have cB0_6 := B0.c6; have fB0 := B0.frozen
              go_wp2_with fail
              go_loopg [4] n6 (fun gg s4 wr => ∃ kk : Nat, kk ≤ n6 ∧ n6 - kk ≤ gg ∧ s4 = .int .i64 kk ∧ Aside (Below w.heap.size w wr) ∧ Aside (Blk wr w.heap.size 43 #[.slice A1 n5 c1, .slice A2 n6 c2, .slice A3 n3 c3, .slice A4 n5 c4, .slice A5 n5 c5, .slice A6 n6 c6, .int .i64 tick]) ∧ Aside (∀ j, j < kk → holdAt C j = true))
              case atStart => exact ⟨0, Nat.zero_le _, by omega, rfl, (show Aside _ from hb1), (show Aside _ from B0), (show Aside _ from fun j hj => absurd hj (Nat.not_lt_zero _))⟩
              case round =>
                obtain ⟨kk, hkk, hg, rfl, BW, BB, AA⟩ := hrel
                clear cB0_0 cB0_1 cB0_2 cB0_3 cB0_4 cB0_5 cB0_6 fB0
                clear B0 hb1 x4'
                have B0 := BB.out
                clear BB
                have x5' := blk_cells B0 5 _ rfl
                by_cases hlt : kk < n6
                · have hltz : (kk : Int) < (n6 : Int) := by omega
                  obtain ⟨b2, o2, rfl, y2, hx2, hc2⟩ := hs2.nth hlt BW.out
                  obtain ⟨b6, o6, rfl, y6, hx6, hc6⟩ := hs6.nth hlt BW.out
                  have q0 := hc2 0 _ rfl
                  have q3 := hc2 3 _ rfl
                  have r0 := hc6 0 _ rfl
                  have HPK := Lib.hid (HHO.out kk y6 y2 hx6 hx2)
                  have hy6 := HH.out y6 (List.mem_of_getElem? hx6)
                  obtain ⟨k2, f2, t2, z2⟩ := y2
                  obtain ⟨A9, n9, c9, x9⟩ := y6
                  simp only [eC, eHr, SV.v, Nat.add_zero, Nat.mul_one] at r0 q0 q3
                  have hq := fun x : Near wr => specHoldValid_any A9 n9 c9 x9 k2 z2 x.W (okH.below hy6 (thn BW.out x.b))
                  have g0 := fun x : Near wr => ((x.b.cell (p := ⟨b6, o6 + kk, none⟩) (World.block_lt_of_cell? _ _ r0)).trans r0)
                  have g1 := fun x : Near wr => ((x.b.cell (p := ⟨b2, o2 + kk * 4, none⟩) (World.block_lt_of_cell? _ _ q0)).trans q0)
                  have g3 := fun x : Near wr => ((x.b.cell (p := ⟨b2, o2 + kk * 4 + 3, none⟩) (World.block_lt_of_cell? _ _ q3)).trans q3)
                  simp only [] at HPK
                  obtain ⟨v2, hv2⟩ : ∃ v2, holdOk x9 k2 z2 = v2 := ⟨_, rfl⟩
                  rw [hv2] at HPK
                  simp only [hv2] at hq
                  clear hc2 hc6 hx2 hx6 hy6 hv2 q0 q3 r0
                  skip
                  skip
                  go_wp2_with fail
                  have qB0_0 := fun x => (B0.near x).c0; have qB0_1 := fun x => (B0.near x).c1; have qB0_2 := fun x => (B0.near x).c2; have qB0_3 := fun x => (B0.near x).c3; have qB0_4 := fun x => (B0.near x).c4; have qB0_5 := fun x => (B0.near x).c5; have qB0_6 := fun x => (B0.near x).c6; refine wp_region_near (by kernel_rfl) (by kernel_rfl) ?_; (repeat (go_big_quiet_step (first | (go_at_call 70; with_reducible exact near_call (hq _))))); refine wpQuiet_nil ?_; intro xN; have hbw2 := xN.b; generalize xN.W = w2 at hbw2 ⊢; clear xN; clear qB0_0 qB0_1 qB0_2 qB0_3 qB0_4 qB0_5 qB0_6; replace B0 := B0.below hbw2
                  clear g0 g1 g3 hq x5'
                  cases v2
                  · go_wp2
                    go_ret
                    exact ⟨by rw [← HR.out, mo_hold (by rw [L6.out]; exact hlt) HPK.out]; rfl, thn BW.out hbw2⟩
                  · go_wp2
                    go_roundg (n6 - (kk + 1))
                    case measure => omega
                    case rel =>
                      refine ⟨kk + 1, by omega, by omega, by go_num, (show Aside _ from thn BW.out hbw2), (show Aside _ from B0), (show Aside _ from fun j hj => ?_)⟩
                      by_cases e : j = kk
                      · subst e; exact HPK.out
                      · exact AA.out j (by omega)
                · have hltz : ¬ (kk : Int) < (n6 : Int) := by omega
                  obtain rfl : n6 = kk := by omega
                  have HE := Lib.hid (mo_end HPA.out (by rw [L5.out, L4.out]) (by rw [L6.out, L2.out]) HCA.out (fun j hj => AA.out j (by rw [L6.out] at hj; exact hj)))
                  have hq := fun W => l1In_any tick 0 100000 W
                  have c6' := blk_cells B0 6 _ rfl
                  go_wp2_with fail; refine (hq _).mono ?_; rintro e w' ⟨rfl, rfl⟩
                  go_wp2
                  go_ret
                  exact ⟨by rw [← HR.out, HE.out, E7.out]; rfl, BW.out⟩
        · have hnz : ((n6 : Int) != (n2 : Int)) = true := by rw [bne_iff_ne]; omega
          have hnz2 : ¬ (n6 : Int) = (n2 : Int) := by omega
          have HN := Lib.hid h6
          clear h6
          skip
          go_enter Tryz.func29, Tryz.ntmps29
          go_wp2_with fail; refine (hq).mono ?_; rintro e w1 ⟨rfl, hbw1⟩; replace B0 := Blk.belowOf B0 hbw1 (by repeat (first | exact B0 | apply Blk.alloc | apply Blk.drew | (apply Blk.far; rotate_left; (first | assumption | exact Ne.symm (by assumption))) | apply Blk.set_))
          clear cB0_0 cB0_1 cB0_2 cB0_3 cB0_4 cB0_5 cB0_6 fB0
          have cB0_0 := B0.c0; have cB0_1 := B0.c1; have cB0_2 := B0.c2; have cB0_3 := B0.c3; have cB0_4 := B0.c4; have cB0_5 := B0.c5; have cB0_6 := B0.c6; have fB0 := B0.frozen
          go_wp2
          go_ret
          exact ⟨by rw [← HR.out, mo_len2 (by rw [L6.out, L2.out]; exact HN.out)]; rfl, thn hb0 hbw1⟩
      · have hnz : ((n5 : Int) != (n4 : Int)) = true := by rw [bne_iff_ne]; omega
        have hnz2 : ¬ (n5 : Int) = (n4 : Int) := by omega
        have HN := Lib.hid h5
        clear h5
        skip
        go_enter Tryz.func29, Tryz.ntmps29
        go_wp2_with fail; refine (hq).mono ?_; rintro e w1 ⟨rfl, hbw1⟩; replace B0 := Blk.belowOf B0 hbw1 (by repeat (first | exact B0 | apply Blk.alloc | apply Blk.drew | (apply Blk.far; rotate_left; (first | assumption | exact Ne.symm (by assumption))) | apply Blk.set_))
        clear cB0_0 cB0_1 cB0_2 cB0_3 cB0_4 cB0_5 cB0_6 fB0
        have cB0_0 := B0.c0; have cB0_1 := B0.c1; have cB0_2 := B0.c2; have cB0_3 := B0.c3; have cB0_4 := B0.c4; have cB0_5 := B0.c5; have cB0_6 := B0.c6; have fB0 := B0.frozen
        go_wp2
        go_ret
        exact ⟨by rw [← HR.out, mo_len1 (by rw [L5.out, L4.out]; exact HN.out)]; rfl, thn hb0 hbw1⟩
    · have hnz : ((n4 : Int) != (n1 : Int)) = true := by rw [bne_iff_ne]; omega
      have hnz2 : ¬ (n4 : Int) = (n1 : Int) := by omega
      have HN := Lib.hid h4
      clear h4
      skip
      go_enter Tryz.func29, Tryz.ntmps29
      go_wp2_with fail; refine (hq).mono ?_; rintro e w1 ⟨rfl, hbw1⟩; replace B0 := Blk.belowOf B0 hbw1 (by repeat (first | exact B0 | apply Blk.alloc | apply Blk.drew | (apply Blk.far; rotate_left; (first | assumption | exact Ne.symm (by assumption))) | apply Blk.set_))
      clear cB0_0 cB0_1 cB0_2 cB0_3 cB0_4 cB0_5 cB0_6 fB0
      have cB0_0 := B0.c0; have cB0_1 := B0.c1; have cB0_2 := B0.c2; have cB0_3 := B0.c3; have cB0_4 := B0.c4; have cB0_5 := B0.c5; have cB0_6 := B0.c6; have fB0 := B0.frozen
      go_wp2
      go_ret
      exact ⟨by rw [← HR.out, mo_progs (po_len (by rw [L4.out, L1.out]; exact HN.out))]; rfl, thn hb0 hbw1⟩
end Go.Proofs.YtckgdlgdipfgmaaGreat

namespace Go.Proofs.YtckgdlgdipfgmaaGreat
set_option linter.unusedVariables false
set_option linter.unusedSimpArgs false
open Go.RowKit

def seenC (c : MacC) (n : Int) : Bool := machOkC c && inB n 0 (c.2.2.1.length - 1)
set_option maxRecDepth 100000 in
set_option maxHeartbeats 1000000 in
theorem seen_any (m : MacR) (n : Int) (w : World) (h : okM w m) :
    Calls Tryz.prog 39 #[macV m, .int .i64 n] w fun e w' => .returned (.bool (seenC (cM m) n)) = e ∧ Below w.heap.size w w' := by
  have hq := fun W (hW : Below w.heap.size w W) => machineValid_any m W (h.below hW)
  obtain ⟨⟨⟨A1, n1, c1, x1⟩, ⟨A2, n2, c2, x2⟩, ⟨A3, n3, c3, x3⟩⟩, ⟨A4, n4, c4, x4⟩, ⟨A5, n5, c5, x5⟩, ⟨A6, n6, c6, x6⟩, tick⟩ := m
  have hs5 : Sl w 3 eCo A5 n5 c5 x5 := h.2.2.1.1
  have hle5 := hs5.le
  have hmax5 := hs5.max
  have hb0 := alo (Below.refl w.heap.size w) (.cells #[.slice A1 n1 c1, .slice A2 n2 c2, .slice A3 n3 c3, .slice A4 n4 c4, .slice A5 n5 c5, .slice A6 n6 c6, .int .i64 tick] 43)
  have B0 := Blk.new w 43 #[.slice A1 n1 c1, .slice A2 n2 c2, .slice A3 n3 c3, .slice A4 n4 c4, .slice A5 n5 c5, .slice A6 n6 c6, .int .i64 tick]
  obtain ⟨C, hC⟩ : ∃ C : MacC, cM ((((⟨A1, n1, c1, x1⟩, ⟨A2, n2, c2, x2⟩, ⟨A3, n3, c3, x3⟩) : SetR), ⟨A4, n4, c4, x4⟩, ⟨A5, n5, c5, x5⟩, ⟨A6, n6, c6, x6⟩, tick) : MacR) = C := ⟨_, rfl⟩
  have L5 := Lib.hid (show C.2.2.1.length = n5 by rw [← hC]; exact (List.length_map _).trans hs5.len)
  simp only [hC] at hq ⊢
  simp only [macV, setV, SV.v_mk] at hq ⊢
  clear hC h hs5
  have hq := hq _ hb0
  have h1 := fun W => in_any n 0 (n5 - 1) W
  have hw := IntWalk.i64_in ((n5 : Int) - 1) (by omega)
  have HR := Lib.hid (show seenC C n = (machOkC C && inB n 0 (n5 - 1)) by unfold seenC; rw [L5.out])
  rw [HR.out]
  generalize machOkC C = v1 at *
  generalize inB n 0 (n5 - 1) = v2 at *
  have z0 := B0.c0
  have z1 := B0.c1
  have z2 := B0.c2
  have z3 := B0.c3
  have z4 := B0.c4
  have z5 := B0.c5
  have z6 := B0.c6
  cases v1
  · clear h1
    go_enter Tryz.func39, Tryz.ntmps39
    go_wp2_with fail
    refine hq.mono ?_
    rintro e w1 ⟨rfl, hb1⟩
    go_wp2
    go_ret
    exact ⟨rfl, thn hb0 hb1⟩
  · go_enter Tryz.func39, Tryz.ntmps39
    go_wp2_with fail
    refine hq.mono ?_
    rintro e w1 ⟨rfl, hb1⟩
    replace B0 := B0.below hb1
    clear z0 z1 z2 z3 z4 z5 z6
    have z4 := B0.c4
    go_wp2_with fail; refine (h1 _).mono ?_; rintro e w' ⟨rfl, rfl⟩
    go_wp2
    go_ret
    exact ⟨by cases v2 <;> rfl, thn hb0 hb1⟩
end Go.Proofs.YtckgdlgdipfgmaaGreat

namespace Go.Proofs.YtckgdlgdipfgmaaGreat
set_option linter.unusedVariables false
set_option linter.unusedSimpArgs false

/-- Who runs in each tick of a frame. -/
def frameL (xs : List (Int × Int)) : List Int := xs.flatMap fun x => List.replicate x.2.toNat x.1
/-- The ticks of all slots, of those of one. -/
def sumT : List (Int × Int) → Int
  | [] => 0
  | x :: xs => x.2 + sumT xs
def sumO (n : Int) : List (Int × Int) → Int
  | [] => 0
  | x :: xs => (if x.1 = n then x.2 else 0) + sumO n xs
/-- The ticks of one before t, the slots beginning at u. -/
def restO (n t : Int) : Int → List (Int × Int) → Int
  | _, [] => 0
  | u, x :: xs => (if x.1 = n then max 0 (min x.2 (t - u)) else 0) + restO n t (u + x.2) xs
theorem frameL_cons (x : Int × Int) (xs : List (Int × Int)) : frameL (x :: xs) = List.replicate x.2.toNat x.1 ++ frameL xs := rfl
theorem frameL_len {xs : List (Int × Int)} (h : ∀ x ∈ xs, 0 ≤ x.2) : ((frameL xs).length : Int) = sumT xs := by
  induction xs with
  | nil => rfl
  | cons x xs ih =>
    rw [frameL_cons, List.length_append, List.length_replicate]
    have h1 := h x List.mem_cons_self
    have h2 := ih fun y hy => h y (List.mem_cons_of_mem _ hy)
    simp only [sumT]
    omega
theorem frameL_count (n : Int) {xs : List (Int × Int)} (h : ∀ x ∈ xs, 0 ≤ x.2) : ((frameL xs).count n : Int) = sumO n xs := by
  induction xs with
  | nil => rfl
  | cons x xs ih =>
    rw [frameL_cons, List.count_append, List.count_replicate]
    have h1 := h x List.mem_cons_self
    have h2 := ih fun y hy => h y (List.mem_cons_of_mem _ hy)
    simp only [sumO, beq_iff_eq]
    by_cases e : x.1 = n
    · rw [if_pos e, if_pos e]; omega
    · rw [if_neg e, if_neg e]; omega
theorem restO_zero (n t : Int) {xs : List (Int × Int)} : ∀ (u : Int), t ≤ u → (∀ x ∈ xs, 0 ≤ x.2) → restO n t u xs = 0 := by
  induction xs with
  | nil => intro u _ _; rfl
  | cons x xs ih =>
    intro u hu h
    have h1 := h x List.mem_cons_self
    have h2 := ih (u + x.2) (by omega) fun y hy => h y (List.mem_cons_of_mem _ hy)
    simp only [restO, h2]
    split <;> omega
theorem frameL_take (n : Int) {xs : List (Int × Int)} : ∀ (k : Nat) (u : Int), (∀ x ∈ xs, 0 ≤ x.2) → (((frameL xs).take k).count n : Int) = restO n (u + k) u xs := by
  induction xs with
  | nil => intro k u _; simp [frameL, restO]
  | cons x xs ih =>
    intro k u h
    have h1 := h x List.mem_cons_self
    have hx : ∀ y ∈ xs, 0 ≤ y.2 := fun y hy => h y (List.mem_cons_of_mem _ hy)
    rw [frameL_cons, List.take_append, List.count_append, List.take_replicate, List.count_replicate, List.length_replicate]
    simp only [restO, beq_iff_eq]
    by_cases hk : x.2.toNat ≤ k
    · have h2 := ih (k - x.2.toNat) (u + x.2) hx
      rw [show u + x.2 + ((k - x.2.toNat : Nat) : Int) = u + k from by omega] at h2
      rw [← h2]
      by_cases e : x.1 = n
      · rw [if_pos e, if_pos e]; omega
      · rw [if_neg e, if_neg e]; omega
    · have h2 := restO_zero n (u + k) (xs := xs) (u + x.2) (by omega) hx
      rw [h2, show k - x.2.toNat = 0 from by omega]
      simp only [List.take_zero, List.count_nil]
      by_cases e : x.1 = n
      · rw [if_pos e, if_pos e]; omega
      · rw [if_neg e, if_neg e]; omega
end Go.Proofs.YtckgdlgdipfgmaaGreat
