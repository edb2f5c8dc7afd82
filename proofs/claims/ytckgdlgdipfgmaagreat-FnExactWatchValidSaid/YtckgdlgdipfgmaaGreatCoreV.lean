/- Cores: fits of the program, CoreValid of the reference. -/
import Derived.Test.YtckgdlgdipfgmaaGreatNest
import Derived.Test.YtckgdlgdipfgmaaGreatHoldV
import Derived.Test.YtckgdlgdipfgmaaGreatVProg
namespace Go.Proofs.YtckgdlgdipfgmaaGreat
set_option linter.unusedVariables false
set_option linter.unusedSimpArgs false
open Go.RowKit

def coreFits (x : List Int × Int × Bool) (o : List (Int × Int × Int)) (cells : Int) : Bool := decide ((x.1.length : Int) = cells) && (inB x.2.1 0 (o.length - 1) && x.1.all fun v => inB v 0 255)
theorem fitBad_any (n : Int) (w : World) : Calls Tryz.prog 127 #[.int .i64 n] w fun e w' => .returned (.bool (!inB n 0 255)) = e ∧ Below w.heap.size w w' := by
  go_enter Tryz.func127, Tryz.ntmps127
  go_wp2_with (go_at_call 128; refine (isValue_any _ _).mono ?_; rintro e w1 ⟨rfl, rfl⟩)
  go_ret
  exact ⟨rfl, Below.refl _ _⟩
theorem enters_fit (args : Array Value) (w : World) : (callFunc 127 args).run Tryz.prog w = .ok (.enter 127 args) w := enters_of Tryz.func127 (by kernel_rfl) rfl args w
theorem fits_any (x : CoreT) (o : OrdL) (cells : Int) (w : World) (h : okC w x) (ho : o.n = o.xs.length) (hom : o.n ≤ 9223372036854775807) :
    Calls Tryz.prog 100 #[.agg (eCo x).toArray, o.v, .int .i64 cells] w fun e w' => .returned (.bool (coreFits (cC x) (cO o) cells)) = e ∧ Below w.heap.size w w' := by
  obtain ⟨⟨A, n, c, xs⟩, at_, st⟩ := x
  obtain ⟨A2, n2, c2, x2⟩ := o
  simp only [okC, eCo, SV.v, cC, cO] at h ho hom ⊢
  have hl := h.len
  have hle := h.le
  have hmax := h.max
  subst ho
  have hb0 := alo (Below.refl w.heap.size w) (.cells #[.slice A n c, .int .i64 at_, .bool st] 74)
  have B0 := Blk.new w 74 #[.slice A n c, .int .i64 at_, .bool st]
  unfold coreFits
  simp only []
  rw [hl, ← any_notH]
  have hc1 := fun W => in_any at_ 0 (x2.length - 1) W
  have hc2 := containsInt (fun x => !inB x 0 255) _ #[] enters_fit A n c xs _ (fun _ => True) (fun _ _ => trivial) (fun W x _ _ => fitBad_any x W) (h.below hb0)
  have hw := IntWalk.i64_in ((x2.length : Int) - 1) (by omega)
  generalize (xs.any fun x => !inB x 0 255) = v2 at *
  generalize inB at_ 0 (x2.length - 1) = v1 at *
  clear h hl
  skip
  skip
  have cB0_0 := B0.c0; have cB0_1 := B0.c1; have cB0_2 := B0.c2; have fB0 := B0.frozen
  by_cases hn : (n : Int) = cells
  · have hn1 : ((n : Int) == cells) = true := by rw [hn]; exact beq_self_eq_true _
    have hn2 : decide ((n : Int) = cells) = true := decide_eq_true hn
    rw [hn2]
    clear hn hn2
    cases v1
    · clear hc2
      go_enter Tryz.func100, Tryz.ntmps100
      go_wp2_with fail
      refine (hc1 _).mono ?_; rintro e w' ⟨rfl, rfl⟩
      go_wp2
      go_ret
      exact ⟨rfl, hb0⟩
    · go_enter Tryz.func100, Tryz.ntmps100
      go_wp2_with fail
      refine (hc1 _).mono ?_; rintro e w' ⟨rfl, rfl⟩
      go_wp2_with fail
      refine hc2.mono ?_; rintro e w2 ⟨rfl, hb2⟩
      go_wp2
      go_ret
      exact ⟨by cases v2 <;> rfl, thn hb0 hb2⟩
  · have hn1 : ((n : Int) == cells) = false := by rw [beq_eq_false_iff_ne]; exact hn
    have hn2 : decide ((n : Int) = cells) = false := decide_eq_false hn
    rw [hn2]
    clear hn hn2 hc1 hc2
    go_enter Tryz.func100, Tryz.ntmps100
    go_wp2
    go_ret
    exact ⟨rfl, hb0⟩

set_option maxHeartbeats 1000000 in
theorem specCoreValid_any (x : CoreT) (o : OrdL) (cells : Int) (hcl : -1000 ≤ cells ∧ cells ≤ 1000) (w : World) (h : okC w x) (ho : okO w o) :
    Calls Tryz.prog 69 #[.agg (eCo x).toArray, o.v, .int .i64 cells] w fun e w' => .returned (.bool (progOk o.xs cells && coreFits (cC x) (cO o) cells)) = e ∧ Below w.heap.size w w' := by
  obtain ⟨⟨A, n, c, xs⟩, at_, st⟩ := x
  obtain ⟨A2, n2, c2, x2⟩ := o
  simp only [okC, okO, eCo, SV.v, cC, cO] at h ho ⊢
  have hl := h.len
  have hle := h.le
  have hmax := h.max
  have hl2 := ho.len
  have hle2 := ho.le
  have hmax2 := ho.max
  subst hl2
  have hb0 := alo (Below.refl w.heap.size w) (.cells #[.slice A n c, .int .i64 at_, .bool st] 74)
  have B0 := Blk.new w 74 #[.slice A n c, .int .i64 at_, .bool st]
  have HR := Lib.hid (show (progOk x2 cells && coreFits (xs, at_, st) x2 cells) = (progOk x2 cells && (decide ((n : Int) = cells) && (inB at_ 0 (x2.length - 1) && xs.all fun v => inB v 0 255))) by unfold coreFits; rw [hl])
  have HL := Lib.hid hl
  clear hl
  go_enter Tryz.func69, Tryz.ntmps69
  go_wp2_with fail
  go_loopg [7] n (fun gg s7 wr => ∃ kk : Nat, kk ≤ n ∧ n - kk ≤ gg ∧ s7 = .int .i64 kk ∧ Aside (Below w.heap.size w wr) ∧ Aside (Blk wr w.heap.size 74 #[.slice A n c, .int .i64 at_, .bool st]) ∧ Aside (∀ j y, j < kk → xs[j]? = some y → inB y 0 255 = true))
  case atStart => exact ⟨0, Nat.zero_le _, by omega, rfl, (show Aside _ from hb0), (show Aside _ from B0), (show Aside _ from fun j _ hj => absurd hj (Nat.not_lt_zero _))⟩
  case round =>
    obtain ⟨kk, hkk, hg, rfl, BW, BB, AA⟩ := hrel
    clear B0
    have B0 := BB.out
    clear BB
    have c0 := B0.c0
    by_cases hlt : kk < n
    · have hltz : (kk : Int) < (n : Int) := by omega
      obtain ⟨bb, oo, rfl, y, hx, hc⟩ := h.nth hlt BW.out
      have q0 := hc 0 _ rfl
      simp only [eI, Nat.mul_one, Nat.add_zero] at q0
      have HX := Lib.hid hx
      have h1 := fun W => l1In_any y 0 255 W
      clear hc hx
      obtain ⟨v1, hv1⟩ : ∃ v1, inB y 0 255 = v1 := ⟨_, rfl⟩
      rw [hv1] at h1
      have HV := Lib.hid hv1
      clear hv1
      cases v1
      · go_wp2_with fail; refine (h1 _).mono ?_; rintro e w' ⟨rfl, rfl⟩
        go_wp2
        go_ret
        exact ⟨by rw [HR.out, all_fails HX.out HV.out, Bool.and_false, Bool.and_false, Bool.and_false]; rfl, BW.out⟩
      · go_wp2_with fail; refine (h1 _).mono ?_; rintro e w' ⟨rfl, rfl⟩
        go_wp2
        go_roundg (n - (kk + 1))
        case measure => omega
        case rel =>
          refine ⟨kk + 1, by omega, by omega, by go_num, (show Aside _ from BW.out), (show Aside _ from B0), (show Aside _ from fun j z hj hz => ?_)⟩
          by_cases e : j = kk
          · subst e
            have := HX.out
            rw [this] at hz
            injection hz with hz
            rw [← hz]; exact HV.out
          · exact AA.out j z (by omega) hz
    · have hltz : ¬ (kk : Int) < (n : Int) := by omega
      obtain rfl : n = kk := by omega
      have HA := Lib.hid (show (xs.all fun v => inB v 0 255) = true from by
        rw [List.all_eq_true]
        intro z hz
        obtain ⟨j, hj, hjx⟩ := List.getElem_of_mem hz
        exact AA.out j z (by have := HL.out; omega) (by rw [List.getElem?_eq_getElem hj, hjx]))
      have h1 := specProgValid_any A2 x2.length c2 x2 cells hcl wr (ho.below BW.out)
      have h2 := fun W => l1In_any at_ 0 (x2.length - 1) W
      have hw := IntWalk.i64_in ((x2.length : Int) - 1) (by omega)
      have hRR := HR.out
      rw [HA.out, Bool.and_true] at hRR
      have HRR := Lib.hid hRR
      clear hRR HR HA AA h ho
      obtain ⟨v1, hv1⟩ : ∃ v1, progOk x2 cells = v1 := ⟨_, rfl⟩
      obtain ⟨v2, hv2⟩ : ∃ v2, inB at_ 0 (x2.length - 1) = v2 := ⟨_, rfl⟩
      rw [hv1] at h1 HRR
      rw [hv2] at h2 HRR
      have HV1 := Lib.hid hv1
      clear hv1 hv2
      cases v1
      · go_wp2_with fail
        refine h1.mono ?_
        rintro e w2 ⟨rfl, hb2⟩
        go_wp2
        go_ret
        exact ⟨by rw [HV1.out]; rfl, thn BW.out hb2⟩
      · by_cases hn : (n : Int) = cells
        · have hn1 : ((n : Int) == cells) = true := by rw [hn]; exact beq_self_eq_true _
          have HN2 := Lib.hid (show decide ((n : Int) = cells) = true from decide_eq_true hn)
          clear hn
          go_wp2_with fail
          refine h1.mono ?_
          rintro e w2 ⟨rfl, hb2⟩
          replace B0 := B0.below hb2
          clear c0
          have c0 := B0.c0
          have c1 := B0.c1
          go_wp2_with fail; refine (h2 _).mono ?_; rintro e w' ⟨rfl, rfl⟩
          go_wp2
          go_ret
          exact ⟨by rw [HV1.out, HRR.out, HN2.out]; cases v2 <;> rfl, thn BW.out hb2⟩
        · have hn1 : ((n : Int) == cells) = false := by rw [beq_eq_false_iff_ne]; exact hn
          have HN2 := Lib.hid (show decide ((n : Int) = cells) = false from decide_eq_false hn)
          clear hn
          go_wp2_with fail
          refine h1.mono ?_
          rintro e w2 ⟨rfl, hb2⟩
          replace B0 := B0.below hb2
          clear c0
          have c0 := B0.c0
          go_wp2
          go_ret
          exact ⟨by rw [HV1.out, HRR.out, HN2.out]; rfl, thn BW.out hb2⟩
end Go.Proofs.YtckgdlgdipfgmaaGreat
