/- Modes: ModesValid, of the program and of the reference. -/
import Derived.Test.YtmlodhogfejdjaaIdxTab
import Derived.Test.YtmlodhogfejdjaaSlotV
import Derived.Test.YtmlodhogfejdjaaList
namespace Go.Proofs.Ytmlodhogfejdjaa
set_option linter.unusedVariables false
set_option linter.unusedSimpArgs false
open Go.RowKit

def modesOk (l : List TabV) (now asked parts : Int) : Bool := inB l.length 1 4 && (inB now 0 (l.length - 1) && (inB asked (-1) (l.length - 1) && l.all fun x => slotsOk x.xs parts))
theorem any_notT (p : TabV → Bool) (xs : List TabV) : (xs.any fun x => !p x) = !xs.all p := by
  induction xs with
  | nil => rfl
  | cons a l ih => simp [ih]
theorem tabBad_any (x : TabV) (parts : Int) (q : Nat) (w : World) (h1 : w.cell? ⟨q, 0, none⟩ = some (.int .i64 parts)) (hs : Sl w 2 eS x.A x.n x.c x.xs) :
    Calls Try.prog 73 #[x.v, .pointer (some ⟨q, 0, none⟩)] w fun e w' => .returned (.bool (!slotsOk x.xs parts)) = e ∧ Below w.heap.size w w' := by
  obtain ⟨A, n, c, xs⟩ := x
  simp only [SV.v] at hs ⊢
  have hc := slotsValid_any A n c xs parts w hs
  generalize slotsOk xs parts = v at *
  clear hs
  go_enter Try.func73, Try.ntmps73
  go_wp2_with fail
  refine hc.mono ?_
  rintro e w1 ⟨rfl, hb⟩
  go_wp2
  go_ret
  exact ⟨rfl, hb⟩
theorem enters_tab (args : Array Value) (w : World) : (callFunc 73 args).run Try.prog w = .ok (.enter 73 args) w := enters_of Try.func73 (by kernel_rfl) rfl args w

set_option maxHeartbeats 1000000 in
theorem modesValid_any (A : Option Addr) (n c : Nat) (l : List TabV) (now asked parts : Int) (w : World) (hs : Sl w 1 eTb A n c l) (hp : TbOk w l) :
    Calls Try.prog 36 #[.agg #[.slice A n c, .int .i64 now, .int .i64 asked], .int .i64 parts] w fun e w' => .returned (.bool (modesOk l now asked parts)) = e ∧ Below w.heap.size w w' := by
  have hl := hs.len
  have hle := hs.le
  have hmax := hs.max
  subst hl
  have hb0 := alo (alo (Below.refl w.heap.size w) (.cells #[.slice A l.length c, .int .i64 now, .int .i64 asked] 59)) (.cells #[.int .i64 parts] 3)
  have B1 := (Blk.new w 59 #[.slice A l.length c, .int .i64 now, .int .i64 asked]).alloc (.cells #[.int .i64 parts] 3)
  have B2 := Blk.new2 w (.cells #[.slice A l.length c, .int .i64 now, .int .i64 asked] 59) 3 #[.int .i64 parts]
  have d0 := B2.c0
  have hc := containsTab (fun x => !slotsOk x.xs parts) _ #[.pointer (some ⟨w.heap.size + 1, 0, none⟩)] enters_tab A l.length c l _ (fun x => Sl _ 2 eS x.A x.n x.c x.xs) (hp.below hb0) (fun W x hx hW => by have := tabBad_any x parts (w.heap.size + 1) W ((hW.cell (p := ⟨w.heap.size + 1, 0, none⟩) B2.lt).trans d0) (hx.below hW); simpa using this) (hs.below hb0)
  rw [any_notT] at hc
  unfold modesOk
  have h1 := fun W => in_any l.length 1 4 W
  have h2 := fun W => in_any now 0 (l.length - 1) W
  have h3 := fun W => in_any asked (-1) (l.length - 1) W
  have hw := IntWalk.i64_in ((l.length : Int) - 1) (by omega)
  generalize (l.all fun x => slotsOk x.xs parts) = v4 at *
  generalize inB l.length 1 4 = v1 at *
  generalize inB now 0 (l.length - 1) = v2 at *
  generalize inB asked (-1) (l.length - 1) = v3 at *
  have c0 := B1.c0
  have c1 := B1.c1
  have c2 := B1.c2
  clear hs hp
  cases v1
  · clear h2 h3 hc
    go_enter Try.func36, Try.ntmps36
    go_wp2_with fail; refine (h1 _).mono ?_; rintro e w' ⟨rfl, rfl⟩
    go_wp2
    go_ret
    exact ⟨rfl, hb0⟩
  · cases v2
    · clear h3 hc
      go_enter Try.func36, Try.ntmps36
      go_wp2_with fail; refine (h1 _).mono ?_; rintro e w' ⟨rfl, rfl⟩
      go_wp2_with fail; refine (h2 _).mono ?_; rintro e w' ⟨rfl, rfl⟩
      go_wp2
      go_ret
      exact ⟨rfl, hb0⟩
    · cases v3
      · clear hc
        go_enter Try.func36, Try.ntmps36
        go_wp2_with fail; refine (h1 _).mono ?_; rintro e w' ⟨rfl, rfl⟩
        go_wp2_with fail; refine (h2 _).mono ?_; rintro e w' ⟨rfl, rfl⟩
        go_wp2_with fail; refine (h3 _).mono ?_; rintro e w' ⟨rfl, rfl⟩
        go_wp2
        go_ret
        exact ⟨rfl, hb0⟩
      · go_enter Try.func36, Try.ntmps36
        go_wp2_with fail; refine (h1 _).mono ?_; rintro e w' ⟨rfl, rfl⟩
        go_wp2_with fail; refine (h2 _).mono ?_; rintro e w' ⟨rfl, rfl⟩
        go_wp2_with fail; refine (h3 _).mono ?_; rintro e w' ⟨rfl, rfl⟩
        go_wp2_with fail
        refine hc.mono ?_
        rintro e w1 ⟨rfl, hb⟩
        go_wp2
        go_ret
        exact ⟨by cases v4 <;> rfl, thn hb0 hb⟩

theorem all_true {α : Type} {p : α → Bool} {xs : List α} {n : Nat} (hl : xs.length = n) (h : ∀ j y, j < n → xs[j]? = some y → p y = true) : xs.all p = true := by
  rw [List.all_eq_true]
  intro x hx
  obtain ⟨j, hj, hjx⟩ := List.getElem_of_mem hx
  exact h j x (by omega) (by rw [List.getElem?_eq_getElem hj, hjx])
set_option maxHeartbeats 1000000 in
theorem specModesValid_any (A : Option Addr) (n c : Nat) (l : List TabV) (now asked parts : Int) (w : World) (hpr : -1000 ≤ parts ∧ parts ≤ 1000) (hs : Sl w 1 eTb A n c l) (hp : TbOk w l) :
    Calls Try.prog 37 #[.agg #[.slice A n c, .int .i64 now, .int .i64 asked], .int .i64 parts] w fun e w' => .returned (.bool (modesOk l now asked parts)) = e ∧ Below w.heap.size w w' := by
  have hl := hs.len
  have hle := hs.le
  have hmax := hs.max
  have hb0 := alo (Below.refl w.heap.size w) (.cells #[.slice A n c, .int .i64 now, .int .i64 asked] 59)
  have B1 := Blk.new w 59 #[.slice A n c, .int .i64 now, .int .i64 asked]
  have hP := Lib.hid (show modesOk l now asked parts = (inB n 1 4 && (inB now 0 (n - 1) && (inB asked (-1) (n - 1) && l.all fun x => slotsOk x.xs parts))) by unfold modesOk; rw [hl])
  have HL := Lib.hid hl
  clear hl
  go_enter Try.func37, Try.ntmps37
  go_wp2_with fail
  go_loopg [5] n (fun gg s5 wr => ∃ kk : Nat, kk ≤ n ∧ n - kk ≤ gg ∧ s5 = .int .i64 kk ∧ Aside (Below w.heap.size w wr) ∧ Aside (Blk wr w.heap.size 59 #[.slice A n c, .int .i64 now, .int .i64 asked]) ∧ Aside (∀ j y, j < kk → l[j]? = some y → slotsOk y.xs parts = true))
  case atStart => exact ⟨0, Nat.zero_le _, by omega, rfl, (show Aside _ from hb0), (show Aside _ from B1), (show Aside _ from fun j _ hj => absurd hj (Nat.not_lt_zero _))⟩
  case round =>
    obtain ⟨kk, hkk, hg, rfl, BW, BB, AA⟩ := hrel
    clear B1
    have B1 := BB.out
    clear BB
    have c0 := B1.c0
    by_cases hlt : kk < n
    · have hltz : (kk : Int) < (n : Int) := by omega
      obtain ⟨bb, oo, rfl, y, hx, hc⟩ := hs.nth hlt BW.out
      have q0 := hc 0 _ rfl
      simp only [Nat.mul_one, Nat.add_zero] at q0
      have HX := Lib.hid hx
      have hy := (hp y (List.mem_of_getElem? hx)).below BW.out
      clear hc hx
      obtain ⟨A1, n1, c1, x1⟩ := y
      simp only [SV.v] at q0 hy
      have h1 := specSlotsValid_any A1 n1 c1 x1 parts wr (by omega) hy
      have HO := Lib.hid (show (fun x : TabV => slotsOk x.xs parts) ⟨A1, n1, c1, x1⟩ = slotsOk x1 parts from rfl)
      obtain ⟨v1, hv1⟩ : ∃ v1, slotsOk x1 parts = v1 := ⟨_, rfl⟩
      rw [hv1] at h1 HO
      have HV := Lib.hid hv1
      clear hv1
      cases v1
      · go_wp2_with fail
        refine h1.mono ?_
        rintro e w1 ⟨rfl, hb1⟩
        go_wp2
        go_ret
        exact ⟨by rw [hP.out, all_fails HX.out HV.out, Bool.and_false, Bool.and_false, Bool.and_false]; rfl, thn BW.out hb1⟩
      · go_wp2_with fail
        refine h1.mono ?_
        rintro e w1 ⟨rfl, hb1⟩
        go_wp2
        go_roundg (n - (kk + 1))
        case measure => omega
        case rel =>
          refine ⟨kk + 1, by omega, by omega, by go_num, (show Aside _ from thn BW.out hb1), (show Aside _ from B1.below hb1), (show Aside _ from fun j z hj hz => ?_)⟩
          by_cases e : j = kk
          · subst e
            have := HX.out
            rw [this] at hz
            injection hz with hz
            rw [← hz]; exact HV.out
          · exact AA.out j z (by omega) hz
    · have hltz : ¬ (kk : Int) < (n : Int) := by omega
      obtain rfl : n = kk := by omega
      have HA := Lib.hid (all_true (p := fun x : TabV => slotsOk x.xs parts) HL.out (fun j y hj hy => AA.out j y hj hy))
      have h1 := fun W => l1In_any n 1 4 W
      have h2 := fun W => l1In_any now 0 (n - 1) W
      have h3 := fun W => l1In_any asked (-1) (n - 1) W
      have hw := IntWalk.i64_in ((n : Int) - 1) (by omega)
      have hPP := hP.out
      rw [HA.out, Bool.and_true] at hPP
      have HPP := Lib.hid hPP
      clear hPP hP HA AA hs hp
      have c1 := B1.c1
      have c2 := B1.c2
      obtain ⟨v1, hv1⟩ : ∃ v1, inB n 1 4 = v1 := ⟨_, rfl⟩
      obtain ⟨v2, hv2⟩ : ∃ v2, inB now 0 (n - 1) = v2 := ⟨_, rfl⟩
      obtain ⟨v3, hv3⟩ : ∃ v3, inB asked (-1) (n - 1) = v3 := ⟨_, rfl⟩
      rw [hv1] at h1 HPP
      rw [hv2] at h2 HPP
      rw [hv3] at h3 HPP
      clear hv1 hv2 hv3
      cases v1
      · clear h2 h3
        go_wp2_with fail; refine (h1 _).mono ?_; rintro e w' ⟨rfl, rfl⟩
        go_wp2
        go_ret
        exact ⟨by rw [HPP.out]; rfl, BW.out⟩
      · go_wp2_with fail; refine (h1 _).mono ?_; rintro e w' ⟨rfl, rfl⟩
        cases v2
        · clear h3
          go_wp2_with fail; refine (h2 _).mono ?_; rintro e w' ⟨rfl, rfl⟩
          go_wp2
          go_ret
          exact ⟨by rw [HPP.out]; rfl, BW.out⟩
        · go_wp2_with fail; refine (h2 _).mono ?_; rintro e w' ⟨rfl, rfl⟩
          go_wp2_with fail; refine (h3 _).mono ?_; rintro e w' ⟨rfl, rfl⟩
          go_wp2
          go_ret
          exact ⟨by rw [HPP.out]; cases v3 <;> rfl, BW.out⟩
end Go.Proofs.Ytmlodhogfejdjaa
