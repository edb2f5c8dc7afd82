/- FlowDirect of impl and spec. -/
import Derived.Test.YthellpcohdbbfaaChanV
import Derived.Test.YthellpcohdbbfaaIdxChan
import Derived.Test.YthellpcohdbbfaaList
namespace Go.Proofs.Ythellpcohdbbfaa
set_option linter.unusedVariables false
set_option linter.unusedSimpArgs false
open Go.RowKit Go.Shelf

def dirP (f t : Int) (x : Int × Int × Int × Int) : Bool := (x.2.1 == f && x.2.2.1 == t) || (x.1 == 3 && x.2.1 == t && x.2.2.1 == f)
def directB (xs : List (Int × Int × Int × Int)) (f t : Int) : Bool := f == t || xs.any (dirP f t)
def flowD (xs : List (Int × Int × Int × Int)) (parts f t : Int) : Bool := chansOk xs parts && (inB f 0 (parts - 1) && (inB t 0 (parts - 1) && directB xs f t))
set_option maxHeartbeats 1000000 in
theorem dirP_any (x : Int × Int × Int × Int) (f t : Int) (q q' : Nat) (w : World) (h1 : w.cell? ⟨q, 0, none⟩ = some (.int .i64 f)) (h2 : w.cell? ⟨q', 0, none⟩ = some (.int .i64 t)) (hq : q < w.heap.size) (hq' : q' < w.heap.size) :
    Calls Try.prog 80 #[.agg (eC x).toArray, .pointer (some ⟨q, 0, none⟩), .pointer (some ⟨q', 0, none⟩)] w fun e w' => .returned (.bool (dirP f t x)) = e ∧ Below w.heap.size w w' := by
  obtain ⟨k, a, b, d⟩ := x
  unfold dirP
  simp only [eC]
  have hb0 := alo (Below.refl w.heap.size w) (.cells #[.int .i64 k, .int .i64 a, .int .i64 b, .int .i64 d] 25)
  have g1 : (w.alloc (.cells #[.int .i64 k, .int .i64 a, .int .i64 b, .int .i64 d] 25)).cell? ⟨q, 0, none⟩ = some (.int .i64 f) := (World.cell?_alloc_lt w _ ⟨q, 0, none⟩ hq).trans h1
  have g2 : (w.alloc (.cells #[.int .i64 k, .int .i64 a, .int .i64 b, .int .i64 d] 25)).cell? ⟨q', 0, none⟩ = some (.int .i64 t) := (World.cell?_alloc_lt w _ ⟨q', 0, none⟩ hq').trans h2
  clear h1 h2
  skip
  have B1 := Blk.new w 25 #[.int .i64 k, .int .i64 a, .int .i64 b, .int .i64 d]
  cases e1 : (a == f)
  · have e2 : True := trivial
    cases e3 : (k == (3 : Int))
    · have e4 : True := trivial
      have e5 : True := trivial
      go_enter Try.func80, Try.ntmps80
      have cB1_0 := B1.c0; have cB1_1 := B1.c1; have cB1_2 := B1.c2; have cB1_3 := B1.c3; have fB1 := B1.frozen
      go_wp2
      go_ret
      exact ⟨by simp [e1, e2, e3, e4, e5], hb0⟩
    · cases e4 : (a == t)
      · have e5 : True := trivial
        go_enter Try.func80, Try.ntmps80
        have cB1_0 := B1.c0; have cB1_1 := B1.c1; have cB1_2 := B1.c2; have cB1_3 := B1.c3; have fB1 := B1.frozen
        go_wp2
        go_ret
        exact ⟨by simp [e1, e2, e3, e4, e5], hb0⟩
      · cases e5 : (b == f)
        · go_enter Try.func80, Try.ntmps80
          have cB1_0 := B1.c0; have cB1_1 := B1.c1; have cB1_2 := B1.c2; have cB1_3 := B1.c3; have fB1 := B1.frozen
          go_wp2
          go_ret
          exact ⟨by simp [e1, e2, e3, e4, e5], hb0⟩
        · go_enter Try.func80, Try.ntmps80
          have cB1_0 := B1.c0; have cB1_1 := B1.c1; have cB1_2 := B1.c2; have cB1_3 := B1.c3; have fB1 := B1.frozen
          go_wp2
          go_ret
          exact ⟨by simp [e1, e2, e3, e4, e5], hb0⟩
  · cases e2 : (b == t)
    · cases e3 : (k == (3 : Int))
      · have e4 : True := trivial
        have e5 : True := trivial
        go_enter Try.func80, Try.ntmps80
        have cB1_0 := B1.c0; have cB1_1 := B1.c1; have cB1_2 := B1.c2; have cB1_3 := B1.c3; have fB1 := B1.frozen
        go_wp2
        go_ret
        exact ⟨by simp [e1, e2, e3, e4, e5], hb0⟩
      · cases e4 : (a == t)
        · have e5 : True := trivial
          go_enter Try.func80, Try.ntmps80
          have cB1_0 := B1.c0; have cB1_1 := B1.c1; have cB1_2 := B1.c2; have cB1_3 := B1.c3; have fB1 := B1.frozen
          go_wp2
          go_ret
          exact ⟨by simp [e1, e2, e3, e4, e5], hb0⟩
        · cases e5 : (b == f)
          · go_enter Try.func80, Try.ntmps80
            have cB1_0 := B1.c0; have cB1_1 := B1.c1; have cB1_2 := B1.c2; have cB1_3 := B1.c3; have fB1 := B1.frozen
            go_wp2
            go_ret
            exact ⟨by simp [e1, e2, e3, e4, e5], hb0⟩
          · go_enter Try.func80, Try.ntmps80
            have cB1_0 := B1.c0; have cB1_1 := B1.c1; have cB1_2 := B1.c2; have cB1_3 := B1.c3; have fB1 := B1.frozen
            go_wp2
            go_ret
            exact ⟨by simp [e1, e2, e3, e4, e5], hb0⟩
    · have e3 : True := trivial
      have e4 : True := trivial
      have e5 : True := trivial
      go_enter Try.func80, Try.ntmps80
      have cB1_0 := B1.c0; have cB1_1 := B1.c1; have cB1_2 := B1.c2; have cB1_3 := B1.c3; have fB1 := B1.frozen
      go_wp2
      go_ret
      exact ⟨by simp [e1, e2, e3, e4, e5], hb0⟩
theorem enters_dir (args : Array Value) (w : World) : (callFunc 80 args).run Try.prog w = .ok (.enter 80 args) w := enters_of Try.func80 (by kernel_rfl) rfl args w
theorem direct_any (A : Option Addr) (n c : Nat) (xs : List (Int × Int × Int × Int)) (f t : Int) (w : World) (hs : Sl w 4 eC A n c xs) :
    Calls Try.prog 59 #[.slice A n c, .int .i64 f, .int .i64 t] w fun e w' => .returned (.bool (directB xs f t)) = e ∧ Below w.heap.size w w' := by
  unfold directB
  have hb0 := alo (alo (Below.refl w.heap.size w) (.cells #[.int .i64 f] 3)) (.cells #[.int .i64 t] 3)
  cases e1 : (f == t)
  · have hidx : Calls Try.prog 56 #[.slice A n c, .func (.func 80) #[] #[.pointer (some ⟨w.heap.size, 0, none⟩), .pointer (some ⟨w.heap.size + 1, 0, none⟩)]] ((w.alloc (.cells #[.int .i64 f] 3)).alloc (.cells #[.int .i64 t] 3)) fun e w' => .returned (.bool (xs.any fun x => dirP f t x)) = e ∧ Below ((w.alloc (.cells #[.int .i64 f] 3)).alloc (.cells #[.int .i64 t] 3)).heap.size ((w.alloc (.cells #[.int .i64 f] 3)).alloc (.cells #[.int .i64 t] 3)) w' := by
      refine containsChan (fun x => dirP f t x) _ _ enters_dir A n c xs _ (fun _ => True) (fun _ _ => trivial) ?_ (hs.below hb0)
      intro V x _ hV
      have hz := hV.size
      simp at hz
      refine dirP_any x f t w.heap.size (w.heap.size + 1) V ?_ ?_ (by omega) (by omega)
      · rw [hV.cell (p := ⟨w.heap.size, 0, none⟩) (by simp; omega)]; exact ((Blk.new w 3 #[.int .i64 f]).alloc _).c0
      · rw [hV.cell (p := ⟨w.heap.size + 1, 0, none⟩) (by simp)]; exact (Blk.new2 w (.cells #[.int .i64 f] 3) 3 #[.int .i64 t]).c0
    have heta : (xs.any fun x => dirP f t x) = xs.any (dirP f t) := rfl
    rw [heta] at hidx
    clear heta
    generalize xs.any (dirP f t) = v at hidx ⊢
    clear hs
    have hmf : ∀ (fn : Fn) (first cap : Array Value) (w : World), (Instr.makeFunc fn first cap).run Try.prog w = .ok (.func fn first cap) w := fun _ _ _ _ => rfl
    have B4 := (Blk.new w 3 #[.int .i64 f]).alloc (.cells #[.int .i64 t] 3)
    have B5 := Blk.new2 w (.cells #[.int .i64 f] 3) 3 #[.int .i64 t]
    skip
    skip
    have cB4_0 := B4.c0; have fB4 := B4.frozen; have cB5_0 := B5.c0; have fB5 := B5.frozen
    go_enter Try.func59, Try.ntmps59
    go_wp2_with fail
    refine hidx.mono ?_
    rintro e w2 ⟨rfl, hb2⟩
    go_wp2
    go_ret
    exact ⟨rfl, thn hb0 hb2⟩
  · have B4 := (Blk.new w 3 #[.int .i64 f]).alloc (.cells #[.int .i64 t] 3)
    have B5 := Blk.new2 w (.cells #[.int .i64 f] 3) 3 #[.int .i64 t]
    skip
    have cB4_0 := B4.c0; have fB4 := B4.frozen; have cB5_0 := B5.c0; have fB5 := B5.frozen
    clear hs
    go_enter Try.func59, Try.ntmps59
    go_wp2
    go_ret
    exact ⟨rfl, hb0⟩
theorem flowDirect_any (A : Option Addr) (n c : Nat) (xs : List (Int × Int × Int × Int)) (parts f t : Int) (hp : -1000 ≤ parts ∧ parts ≤ 1000) (w : World) (hs : Sl w 4 eC A n c xs) :
    Calls Try.prog 22 #[.slice A n c, .int .i64 parts, .int .i64 f, .int .i64 t] w fun e w' => .returned (.bool (flowD xs parts f t)) = e ∧ Below w.heap.size w w' := by
  unfold flowD
  obtain ⟨hp0, hp1⟩ := hp
  have h1 := channelsValid_any A n c xs parts w hs
  have h2 := fun W => in_any f 0 (parts - 1) W
  have h3 := fun W => in_any t 0 (parts - 1) W
  have h4 := fun W hW => direct_any A n c xs f t W (hs.below hW)
  generalize chansOk xs parts = v1 at *
  generalize inB f 0 (parts - 1) = v2 at *
  generalize inB t 0 (parts - 1) = v3 at *
  generalize directB xs f t = v4 at *
  clear hs
  cases v1
  · go_enter Try.func22, Try.ntmps22
    go_wp2_with fail
    refine h1.mono ?_; rintro e w1 ⟨rfl, hb1⟩
    go_wp2
    go_ret
    exact ⟨rfl, hb1⟩
  · cases v2
    · go_enter Try.func22, Try.ntmps22
      go_wp2_with fail
      refine h1.mono ?_; rintro e w1 ⟨rfl, hb1⟩
      go_wp2_with fail; refine (h2 _).mono ?_; rintro e w' ⟨rfl, rfl⟩
      go_wp2
      go_ret
      exact ⟨rfl, hb1⟩
    · cases v3
      · go_enter Try.func22, Try.ntmps22
        go_wp2_with fail
        refine h1.mono ?_; rintro e w1 ⟨rfl, hb1⟩
        go_wp2_with fail; refine (h2 _).mono ?_; rintro e w' ⟨rfl, rfl⟩
        go_wp2_with fail; refine (h3 _).mono ?_; rintro e w' ⟨rfl, rfl⟩
        go_wp2
        go_ret
        exact ⟨rfl, hb1⟩
      · go_enter Try.func22, Try.ntmps22
        go_wp2_with fail
        refine h1.mono ?_; rintro e w1 ⟨rfl, hb1⟩
        go_wp2_with fail; refine (h2 _).mono ?_; rintro e w' ⟨rfl, rfl⟩
        go_wp2_with fail; refine (h3 _).mono ?_; rintro e w' ⟨rfl, rfl⟩
        go_wp2_with fail
        refine (h4 _ hb1).mono ?_; rintro e w2 ⟨rfl, hb2⟩
        go_wp2
        go_ret
        exact ⟨rfl, thn hb1 hb2⟩

theorem any_take {α : Type} {p : α → Bool} {xs : List α} {kk : Nat} {y : α} (h : xs[kk]? = some y) : (xs.take (kk + 1)).any p = ((xs.take kk).any p || p y) := by
  rw [List.take_add_one, h]
  simp
set_option maxHeartbeats 4000000 in
theorem specFlowDirect_any (A : Option Addr) (n c : Nat) (xs : List (Int × Int × Int × Int)) (parts f t : Int) (hp : -1000 ≤ parts ∧ parts ≤ 1000) (w : World) (hs : Sl w 4 eC A n c xs) :
    Calls Try.prog 24 #[.slice A n c, .int .i64 parts, .int .i64 f, .int .i64 t] w fun e w' => .returned (.bool (flowD xs parts f t)) = e ∧ Below w.heap.size w w' := by
  have hle := hs.le
  have hmax := hs.max
  have hl := hs.len
  have HF := Lib.hid (show flowD xs parts f t = (chansOk xs parts && (inB f 0 (parts - 1) && (inB t 0 (parts - 1) && directB xs f t))) from rfl)
  have h1 := specChannelsValid_any A n c xs parts hp w hs
  obtain ⟨hp0, hp1⟩ := hp
  have h2 := fun W => l1In_any f 0 (parts - 1) W
  have h3 := fun W => l1In_any t 0 (parts - 1) W
  generalize flowD xs parts f t = o at *
  generalize chansOk xs parts = v1 at *
  generalize inB f 0 (parts - 1) = v2 at *
  generalize inB t 0 (parts - 1) = v3 at *
  cases v1
  · have HQ := Lib.hid (show false = o from HF.out.symm)
    clear hs HF
    go_enter Try.func24, Try.ntmps24
    go_wp2_with fail
    refine h1.mono ?_; rintro e w1 ⟨rfl, hb1⟩
    go_wp2
    go_ret
    exact ⟨congrArg (fun o => Ending.returned (.bool o)) HQ.out.symm, hb1⟩
  · cases v2
    · have HQ := Lib.hid (show false = o from HF.out.symm)
      clear hs HF
      go_enter Try.func24, Try.ntmps24
      go_wp2_with fail
      refine h1.mono ?_; rintro e w1 ⟨rfl, hb1⟩
      go_wp2_with fail; refine (h2 _).mono ?_; rintro e w' ⟨rfl, rfl⟩
      go_wp2
      go_ret
      exact ⟨congrArg (fun o => Ending.returned (.bool o)) HQ.out.symm, hb1⟩
    · cases v3
      · have HQ := Lib.hid (show false = o from HF.out.symm)
        clear hs HF
        go_enter Try.func24, Try.ntmps24
        go_wp2_with fail
        refine h1.mono ?_; rintro e w1 ⟨rfl, hb1⟩
        go_wp2_with fail; refine (h2 _).mono ?_; rintro e w' ⟨rfl, rfl⟩
        go_wp2_with fail; refine (h3 _).mono ?_; rintro e w' ⟨rfl, rfl⟩
        go_wp2
        go_ret
        exact ⟨congrArg (fun o => Ending.returned (.bool o)) HQ.out.symm, hb1⟩
      · have HQ := Lib.hid (show directB xs f t = o from HF.out.symm)
        clear HF
        go_enter Try.func24, Try.ntmps24
        go_wp2_with fail
        refine h1.mono ?_; rintro e w1 ⟨rfl, hb1⟩
        go_wp2_with fail; refine (h2 _).mono ?_; rintro e w' ⟨rfl, rfl⟩
        go_wp2_with fail; refine (h3 _).mono ?_; rintro e w' ⟨rfl, rfl⟩
        clear h1 h2 h3
        obtain ⟨b0, hb0⟩ : ∃ b0, (f == t) = b0 := ⟨_, rfl⟩
        go_wp2
        go_loopg [9, 10] n (fun gg s9 s10 wr => ∃ (kk : Nat) (fd : Bool), kk ≤ n ∧ n - kk ≤ gg ∧ s9 = .bool fd ∧ s10 = .int .i64 kk ∧ Aside (Below w.heap.size w wr) ∧ Aside (fd = (b0 || (xs.take kk).any (dirP f t))))
        case atStart => exact ⟨0, b0, Nat.zero_le _, by omega, rfl, rfl, (show Aside _ from hb1), (show Aside _ from (show b0 = (b0 || (xs.take 0).any (dirP f t)) by simp))⟩
        case round =>
          have HB0 := Lib.hid hb0
          clear hb0 hb1
          obtain ⟨kk, fd, hkk, hg, rfl, rfl, BW, FE⟩ := hrel
          by_cases hlt : kk < n
          · have hltz : (kk : Int) < (n : Int) := by omega
            obtain ⟨g, o', rfl, y, hyk, hc⟩ := hs.nth hlt BW.out
            have HT := Lib.hid (any_take (p := dirP f t) hyk)
            obtain ⟨k, a, b, d⟩ := y
            have hc0 := hc 0 _ rfl
            have hc1 := hc 1 _ rfl
            have hc2 := hc 2 _ rfl
            have hc3 := hc 3 _ rfl
            simp only [eC, Nat.add_zero] at hc0 hc1 hc2 hc3
            have hB2 := alo BW.out (.cells #[.int .i64 k, .int .i64 a, .int .i64 b, .int .i64 d] 25)
            have B1 := Blk.new wr 25 #[.int .i64 k, .int .i64 a, .int .i64 b, .int .i64 d]
            clear hc hyk
            cases fd
            · cases e1 : (a == f)
              · have e2 : True := trivial
                cases e3 : (k == (3 : Int))
                · have e4 : True := trivial
                  have e5 : True := trivial
                  skip
                  skip
                  have cB1_0 := B1.c0; have cB1_1 := B1.c1; have cB1_2 := B1.c2; have cB1_3 := B1.c3; have fB1 := B1.frozen
                  go_wp2
                  go_roundg (n - (kk + 1))
                  case measure => omega
                  case rel => exact ⟨kk + 1, false, by omega, by omega, rfl, by go_num, (show Aside _ from hB2), (show Aside _ from (show (false : Bool) = (b0 || (xs.take (kk + 1)).any (dirP f t)) by rw [HT.out, ← Bool.or_assoc, ← FE.out]; simp [dirP, e1, e2, e3, e4, e5]))⟩
                · cases e4 : (a == t)
                  · have e5 : True := trivial
                    skip
                    skip
                    have cB1_0 := B1.c0; have cB1_1 := B1.c1; have cB1_2 := B1.c2; have cB1_3 := B1.c3; have fB1 := B1.frozen
                    go_wp2
                    go_roundg (n - (kk + 1))
                    case measure => omega
                    case rel => exact ⟨kk + 1, false, by omega, by omega, rfl, by go_num, (show Aside _ from hB2), (show Aside _ from (show (false : Bool) = (b0 || (xs.take (kk + 1)).any (dirP f t)) by rw [HT.out, ← Bool.or_assoc, ← FE.out]; simp [dirP, e1, e2, e3, e4, e5]))⟩
                  · cases e5 : (b == f)
                    · skip
                      skip
                      have cB1_0 := B1.c0; have cB1_1 := B1.c1; have cB1_2 := B1.c2; have cB1_3 := B1.c3; have fB1 := B1.frozen
                      go_wp2
                      go_roundg (n - (kk + 1))
                      case measure => omega
                      case rel => exact ⟨kk + 1, false, by omega, by omega, rfl, by go_num, (show Aside _ from hB2), (show Aside _ from (show (false : Bool) = (b0 || (xs.take (kk + 1)).any (dirP f t)) by rw [HT.out, ← Bool.or_assoc, ← FE.out]; simp [dirP, e1, e2, e3, e4, e5]))⟩
                    · skip
                      skip
                      have cB1_0 := B1.c0; have cB1_1 := B1.c1; have cB1_2 := B1.c2; have cB1_3 := B1.c3; have fB1 := B1.frozen
                      go_wp2
                      go_roundg (n - (kk + 1))
                      case measure => omega
                      case rel => exact ⟨kk + 1, true, by omega, by omega, rfl, by go_num, (show Aside _ from hB2), (show Aside _ from (show (true : Bool) = (b0 || (xs.take (kk + 1)).any (dirP f t)) by rw [HT.out, ← Bool.or_assoc, ← FE.out]; simp [dirP, e1, e2, e3, e4, e5]))⟩
              · cases e2 : (b == t)
                · cases e3 : (k == (3 : Int))
                  · have e4 : True := trivial
                    have e5 : True := trivial
                    skip
                    skip
                    have cB1_0 := B1.c0; have cB1_1 := B1.c1; have cB1_2 := B1.c2; have cB1_3 := B1.c3; have fB1 := B1.frozen
                    go_wp2
                    go_roundg (n - (kk + 1))
                    case measure => omega
                    case rel => exact ⟨kk + 1, false, by omega, by omega, rfl, by go_num, (show Aside _ from hB2), (show Aside _ from (show (false : Bool) = (b0 || (xs.take (kk + 1)).any (dirP f t)) by rw [HT.out, ← Bool.or_assoc, ← FE.out]; simp [dirP, e1, e2, e3, e4, e5]))⟩
                  · cases e4 : (a == t)
                    · have e5 : True := trivial
                      skip
                      skip
                      have cB1_0 := B1.c0; have cB1_1 := B1.c1; have cB1_2 := B1.c2; have cB1_3 := B1.c3; have fB1 := B1.frozen
                      go_wp2
                      go_roundg (n - (kk + 1))
                      case measure => omega
                      case rel => exact ⟨kk + 1, false, by omega, by omega, rfl, by go_num, (show Aside _ from hB2), (show Aside _ from (show (false : Bool) = (b0 || (xs.take (kk + 1)).any (dirP f t)) by rw [HT.out, ← Bool.or_assoc, ← FE.out]; simp [dirP, e1, e2, e3, e4, e5]))⟩
                    · cases e5 : (b == f)
                      · skip
                        skip
                        have cB1_0 := B1.c0; have cB1_1 := B1.c1; have cB1_2 := B1.c2; have cB1_3 := B1.c3; have fB1 := B1.frozen
                        go_wp2
                        go_roundg (n - (kk + 1))
                        case measure => omega
                        case rel => exact ⟨kk + 1, false, by omega, by omega, rfl, by go_num, (show Aside _ from hB2), (show Aside _ from (show (false : Bool) = (b0 || (xs.take (kk + 1)).any (dirP f t)) by rw [HT.out, ← Bool.or_assoc, ← FE.out]; simp [dirP, e1, e2, e3, e4, e5]))⟩
                      · skip
                        skip
                        have cB1_0 := B1.c0; have cB1_1 := B1.c1; have cB1_2 := B1.c2; have cB1_3 := B1.c3; have fB1 := B1.frozen
                        go_wp2
                        go_roundg (n - (kk + 1))
                        case measure => omega
                        case rel => exact ⟨kk + 1, true, by omega, by omega, rfl, by go_num, (show Aside _ from hB2), (show Aside _ from (show (true : Bool) = (b0 || (xs.take (kk + 1)).any (dirP f t)) by rw [HT.out, ← Bool.or_assoc, ← FE.out]; simp [dirP, e1, e2, e3, e4, e5]))⟩
                · have e3 : True := trivial
                  have e4 : True := trivial
                  have e5 : True := trivial
                  skip
                  skip
                  have cB1_0 := B1.c0; have cB1_1 := B1.c1; have cB1_2 := B1.c2; have cB1_3 := B1.c3; have fB1 := B1.frozen
                  go_wp2
                  go_roundg (n - (kk + 1))
                  case measure => omega
                  case rel => exact ⟨kk + 1, true, by omega, by omega, rfl, by go_num, (show Aside _ from hB2), (show Aside _ from (show (true : Bool) = (b0 || (xs.take (kk + 1)).any (dirP f t)) by rw [HT.out, ← Bool.or_assoc, ← FE.out]; simp [dirP, e1, e2, e3, e4, e5]))⟩
            · have e1 : True := trivial
              have e2 : True := trivial
              have e3 : True := trivial
              have e4 : True := trivial
              have e5 : True := trivial
              skip
              skip
              have cB1_0 := B1.c0; have cB1_1 := B1.c1; have cB1_2 := B1.c2; have cB1_3 := B1.c3; have fB1 := B1.frozen
              go_wp2
              go_roundg (n - (kk + 1))
              case measure => omega
              case rel => exact ⟨kk + 1, true, by omega, by omega, rfl, by go_num, (show Aside _ from hB2), (show Aside _ from (show (true : Bool) = (b0 || (xs.take (kk + 1)).any (dirP f t)) by rw [HT.out, ← Bool.or_assoc, ← FE.out]; simp [dirP, e1, e2, e3, e4, e5]))⟩
          · have hltz : ¬ (kk : Int) < (n : Int) := by omega
            obtain rfl : n = kk := by omega
            have HR := Lib.hid (show fd = o by rw [FE.out, List.take_of_length_le (by omega), ← HQ.out, ← HB0.out]; rfl)
            clear FE
            go_wp2
            go_ret
            exact ⟨congrArg (fun o => Ending.returned (.bool o)) HR.out.symm, BW.out⟩
end Go.Proofs.Ythellpcohdbbfaa
