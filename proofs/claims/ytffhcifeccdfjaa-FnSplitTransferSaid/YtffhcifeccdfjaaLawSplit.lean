/- The walk of FnSplitTransfer. -/
import Derived.Test.YtffhcifeccdfjaaDSplit
import Derived.Test.YtffhcifeccdfjaaSplit
import Derived.Test.YtffhcifeccdfjaaTrPart
import Derived.Test.YtffhcifeccdfjaaAlive
namespace Go.Proofs.Ytffhcifeccdfjaa
set_option linter.unusedVariables false
set_option linter.unusedSimpArgs false
open Go.RowKit

theorem partN_all (xs : List Win) (p : Int) (z : Bool) (m : Nat) : partN xs p z m = m ↔ ∀ j : Nat, j < m → 0 ≤ windowAt xs (p + (j : Int)) z := by
  unfold partN
  constructor
  · intro h j hj
    have := List.not_of_lt_findIdx (xs := List.range m) (p := fun i : Nat => decide (windowAt xs (p + (i : Int)) z < 0)) (i := j) (by rw [h]; exact hj)
    rw [List.getElem_range] at this
    simpa using this
  · intro h
    have : (List.range m).findIdx (fun i : Nat => decide (windowAt xs (p + (i : Int)) z < 0)) = (List.range m).length := by
      rw [List.findIdx_eq_length]
      intro x hx
      rw [List.mem_range] at hx
      simpa using h x hx
    rw [this, List.length_range]
theorem trAllowed_iff {xs : List Win} {p q : Int} {z : Bool} (hw : winsOk xs = true) (ht : trOk p q = true) : trAllowed xs p q z = true ↔ ∀ j : Nat, (j : Int) < q → 0 ≤ windowAt xs (p + (j : Int)) z := by
  obtain ⟨h1, h2, h3, h4⟩ := trOk_true ht
  unfold trAllowed trPart
  rw [hw, ht, Bool.true_and, Bool.and_self, if_pos rfl, beq_iff_eq]
  have e : ((partN xs p z q.toNat : Nat) : Int) = q ↔ partN xs p z q.toNat = q.toNat := by omega
  rw [e, partN_all]
  exact ⟨fun h j hj => h j (by omega), fun h j hj => h j (by omega)⟩
theorem encWn : Enc Win.cells 3 := ⟨fun _ => rfl, fun x u h => by simp [Win.cells] at h; rcases h with rfl | rfl | rfl <;> rfl⟩
def ws2 : List Win := [⟨20, 20, true⟩, ⟨40, 9, false⟩]
theorem ws2_ok : winsOk ws2 = true := by decide
theorem trOk_part {p q m c : Int} (h : trOk p q = true) (h0 : 0 ≤ m) (h1 : 1 ≤ c) (h2 : m + c ≤ q) : trOk (p + m) c = true := by
  obtain ⟨q1, q2, q3, q4⟩ := trOk_true h
  simp only [trOk, Bool.and_eq_true, inB_true]
  omega
/-- What is allowed so far. -/
def upTo (p : Int) (z : Bool) (m : Int) (b : Bool) : Prop := b = true ↔ ∀ j : Nat, (j : Int) < m → 0 ≤ windowAt ws2 (p + (j : Int)) z
theorem upTo_step {p q m c : Int} {z b : Bool} (h : trOk p q = true) (h0 : 0 ≤ m) (h1 : 1 ≤ c) (h2 : m + c ≤ q) (hb : upTo p z m b) : upTo p z (m + c) (b && trAllowed ws2 (p + m) c z) := by
  unfold upTo at *
  rw [Bool.and_eq_true, hb, trAllowed_iff ws2_ok (trOk_part h h0 h1 h2)]
  constructor
  · rintro ⟨ha, hc⟩ j hj
    by_cases hjm : (j : Int) < m
    · exact ha j hjm
    · have := hc (j - m.toNat) (by omega)
      rw [show p + m + ((j - m.toNat : Nat) : Int) = p + (j : Int) by omega] at this
      exact this
  · intro ha
    refine ⟨fun j hj => ha j (by omega), fun j hj => ?_⟩
    have := ha (m.toNat + j) (by omega)
    rw [show p + ((m.toNat + j : Nat) : Int) = p + m + (j : Int) by omega] at this
    exact this
theorem upTo_end {p q : Int} {z b : Bool} (h : trOk p q = true) (hb : upTo p z q b) : trAllowed ws2 p q z = b := by
  have := trAllowed_iff (z := z) ws2_ok h
  unfold upTo at hb
  rw [Bool.eq_iff_iff, this, hb]
theorem split_at {xs : List Tr} {p q s : Int} {z : Bool} {kk : Nat} {m : Int} {y : Tr} (hE : xs.drop kk = splitF p q s z (64 - kk) m) (hy : xs[kk]? = some y) :
    m < q ∧ kk < 64 ∧ y = (p + m, min s (q - m), z) ∧ xs.drop (kk + 1) = splitF p q s z (64 - (kk + 1)) (m + s) ∧ (q - m < s → xs.length = kk + 1) := by
  obtain ⟨hk, e⟩ := List.getElem?_eq_some_iff.1 hy
  rw [List.drop_eq_getElem_cons hk, e] at hE
  have hmq : m < q := by
    rcases Int.lt_or_le m q with h | h
    · exact h
    · rw [splitF_done (by omega)] at hE; cases hE
  have h64 : kk < 64 := by
    rcases Nat.lt_or_ge kk 64 with h | h
    · exact h
    · rw [show 64 - kk = 0 by omega] at hE; cases hE
  rw [show 64 - kk = (64 - (kk + 1)) + 1 by omega, splitF_go hmq] at hE
  injection hE with h1 h2
  refine ⟨hmq, h64, h1, h2, fun h => ?_⟩
  rw [splitF_done (by omega)] at h2
  have := congrArg List.length h2
  simp at this
  omega
theorem split_end {xs : List Tr} {p q s : Int} {z : Bool} {kk : Nat} {m : Int} (hE : xs.drop kk = splitF p q s z (64 - kk) m) (hk : xs.length ≤ kk) (hkm : (kk : Int) ≤ m) (hq : q ≤ 64) : q ≤ m := by
  rcases Int.lt_or_le m q with h | h
  · exfalso
    rw [List.drop_eq_nil_of_le hk, show 64 - kk = (64 - (kk + 1)) + 1 by omega, splitF_go h] at hE
    cases hE
  · exact h
theorem split_cases (p q s : Int) (z : Bool) : (split p q s z = [] ∧ (trOk p q && inB s 1 64) = false) ∨ (trOk p q = true ∧ 1 ≤ s ∧ s ≤ 64 ∧ split p q s z = splitF p q s z 64 0) := by
  unfold split
  cases h : (trOk p q && inB s 1 64)
  · exact .inl ⟨rfl, rfl⟩
  · rw [Bool.and_eq_true, inB_true] at h
    exact .inr ⟨h.1, h.2.1, h.2.2, rfl⟩

set_option maxRecDepth 100000 in
set_option maxHeartbeats 4000000 in
theorem lawSplitTransfer (A : Option Addr) (n c : Nat) (zs : List Int) (w : World) (h : Code w A n c zs) :
    Calls Try.prog 3 #[.slice A n c] w fun e w' => .returned (.bool true) = e ∧ Below w.heap.size w w' := by
  have hle := h.le
  have hmax := h.max
  by_cases hn : n ≤ 1048576
  · have hdraw := drawSplitTransfer_any A n c zs w h
    clear h
    go_enter Try.func3, Try.ntmps3
    go_wp2_with fail
    refine hdraw.mono ?_
    rintro e w1 ⟨⟨⟨p, q, z⟩, s⟩, rfl, htb, ⟨hs0, hs65⟩, hb⟩
    clear hdraw
    unfold TrB at htb
    simp only [stV, trCells] at htb hs0 hs65 ⊢
    obtain ⟨tb1, tb2, tb3, tb4⟩ := htb
    have hB1 := alo (Below.refl w1.heap.size w1) (.cells #[.int .i64 p, .int .i64 q, .bool z] 24)
    have hI := fun W => splitTransfer_any p q s z W
    have hS := fun W => specSplitTransfer_any p q s z W
    simp only [trCells] at hI hS
    have hcase := split_cases p q s z
    generalize split p q s z = xs at *
    have HC := Lib.hid hcase
    clear hcase
    skip
    have B3 := Blk.new w1 24 #[.int .i64 p, .int .i64 q, .bool z]
    have cB3_0 := B3.c0; have cB3_1 := B3.c1; have cB3_2 := B3.c2; have fB3 := B3.frozen
    go_wp2_with fail
    refine (hI _).mono ?_
    rintro e w2 ⟨⟨A1, n1, c1, ys⟩, rfl, ⟨hsl1, _, _, _⟩, hys, hb2⟩
    simp only [SV.v] at hsl1 hys ⊢
    rw [hys] at hsl1
    clear hys
    have hB2 := thn hB1 hb2
    replace B3 := B3.below hb2
    clear hb2 hI
    clear cB3_0 cB3_1 cB3_2 fB3
    have cB3_0 := B3.c0; have cB3_1 := B3.c1; have cB3_2 := B3.c2; have fB3 := B3.frozen
    go_wp2_with fail
    refine (hS _).mono ?_
    rintro e w3 ⟨⟨A2, n2, c2, ys⟩, rfl, ⟨hsl2, _, _, _⟩, hys, hb3⟩
    simp only [SV.v] at hsl2 hys ⊢
    rw [hys] at hsl2
    clear hys
    have hB3 := thn hB2 hb3
    replace B3 := B3.below hb3
    replace hsl1 := hsl1.below hb3
    have hl1 := hsl1.len
    obtain rfl : n1 = n2 := by rw [← hsl2.len]; exact hl1.symm
    have hle1 := hsl1.le
    have hmax1 := hsl1.max
    have hle2 := hsl2.le
    have hmax2 := hsl2.max
    clear hb3 hS hB1 hB2
    clear cB3_0 cB3_1 cB3_2 fB3
    have cB3_0 := B3.c0; have cB3_1 := B3.c1; have cB3_2 := B3.c2; have fB3 := B3.frozen
    have slW : ∀ W, Blk W w3.heap.size 30 #[.int .i64 20, .int .i64 20, .bool true, .int .i64 40, .int .i64 9, .bool false] → Sl W 3 Win.cells (some ⟨w3.heap.size, 0, none⟩) 2 2 ws2 := fun W hW => Sl.of_blk (xs := ws2) hW encWn (by decide)
    have hB4 := alo (Below.refl w3.heap.size w3) (.cells #[.int .i64 20, .int .i64 20, .bool true, .int .i64 40, .int .i64 9, .bool false] 30)
    rcases HC.out with ⟨rfl, _⟩ | ⟨hok, hs1, hs64, hE⟩
    · obtain rfl : n1 = 0 := by rw [← hl1]; rfl
      clear HC hsl1 hsl2 slW
      go_wp2
      go_loopg [7, 9, 10] 0 (fun gg s7 s9 s10 wr => s7 = .int .i64 p ∧ s9 = .bool true ∧ s10 = .int .i64 0 ∧ Aside (Below w3.heap.size w3 wr))
      case atStart => exact ⟨rfl, rfl, rfl, (show Aside _ from hB4)⟩
      case round =>
        obtain ⟨rfl, rfl, rfl, BW⟩ := hrel
        skip
        go_wp2_with fail; refine (alive_any _).mono ?_; rintro e w6 ⟨rfl, hbw6⟩
        go_wp2
        go_ret
        exact ⟨rfl, thn hb (thn hB3 (thn BW.out hbw6))⟩
    · obtain ⟨q1, q2, p1, p2⟩ := trOk_true hok
      have hpos : 0 < n1 := by rw [← hl1, hE, show (64 : Nat) = 63 + 1 from rfl, splitF_go (by omega)]; simp
      have hn0 : ((n1 : Int) == 0) = false := by rw [beq_eq_false_iff_ne]; omega
      have HE := Lib.hid hE
      clear HC hE
      skip
      replace B3 := B3.alloc (.cells #[.int .i64 20, .int .i64 20, .bool true, .int .i64 40, .int .i64 9, .bool false] 30)
      have B8 := Blk.new w3 30 #[.int .i64 20, .int .i64 20, .bool true, .int .i64 40, .int .i64 9, .bool false]
      go_wp2
      clear cB3_0 cB3_1 cB3_2 fB3
      go_loopg [7, 9, 10] n1 (fun gg s7 s9 s10 wr => ∃ (kk : Nat) (m a : Int) (b : Bool), kk ≤ n1 ∧ n1 - kk ≤ gg ∧ (kk : Int) ≤ m ∧ 0 ≤ m ∧ 0 ≤ a ∧ a ≤ 4096 ∧ s7 = .int .i64 a ∧ s9 = .bool b ∧ s10 = .int .i64 kk ∧ Aside (Below w3.heap.size w3 wr) ∧ Aside (Blk wr w1.heap.size 24 #[.int .i64 p, .int .i64 q, .bool z]) ∧ Aside (Blk wr w3.heap.size 30 #[.int .i64 20, .int .i64 20, .bool true, .int .i64 40, .int .i64 9, .bool false]) ∧ Aside (xs.drop kk = splitF p q s z (64 - kk) m) ∧ Aside (a = p + min m q) ∧ Aside (upTo p z (min m q) b))
      case atStart => exact ⟨0, 0, p, true, Nat.zero_le _, by omega, by omega, by omega, by omega, by omega, rfl, rfl, rfl, (show Aside _ from hB4), (show Aside _ from B3), (show Aside _ from B8), (show Aside _ from HE.out), (show Aside _ from (show p = p + min 0 q by omega)), (show Aside _ from ⟨fun _ j hj => absurd hj (by omega), fun _ => rfl⟩)⟩
      case round =>
        clear hB4 B3 B8 HE
        obtain ⟨kk, m, a, b, hkk, hg, hkm, hm0, ha0, ha1, rfl, rfl, rfl, BW, BB3, BB8, EQ, AE, UT⟩ := hrel
        have hB := BW.out
        have B3 := BB3.out
        have B8 := BB8.out
        clear BW BB3 BB8
        by_cases hlt : kk < n1
        · have hltz : (kk : Int) < (n1 : Int) := by omega
          obtain ⟨g1, o1, rfl, y, hyk, hc⟩ := hsl1.nth hlt hB
          obtain ⟨g2, o2, rfl, y2, hyk2, he⟩ := hsl2.nth hlt hB
          obtain ⟨hmq, h64, hy1, hnext, hlast⟩ := split_at EQ.out hyk
          obtain ⟨_, _, hy2, _, _⟩ := split_at EQ.out hyk2
          rw [hy1] at hc
          rw [hy2] at he
          clear hy1 hy2
          have HN := Lib.hid hnext
          obtain ⟨c, hcd⟩ : ∃ c, min s (q - m) = c := ⟨_, rfl⟩
          rw [hcd] at hc he
          have hc0 := hc 0 _ rfl
          have hc1 := hc 1 _ rfl
          have hc2 := hc 2 _ rfl
          have he0 := he 0 _ rfl
          have he1 := he 1 _ rfl
          have he2 := he 2 _ rfl
          simp only [eT, Nat.add_zero] at hc0 hc1 hc2 he0 he1 he2
          have hcs : c ≤ s := by omega
          have hc1' : 1 ≤ c := by omega
          have hcq : m + c ≤ q := by omega
          have hlast' : c < s → n1 = kk + 1 := fun h => by rw [← hl1]; exact hlast (by omega)
          have HCD := Lib.hid hcd
          obtain rfl : a = p + m := by have := AE.out; omega
          clear hc he hyk hyk2 hnext hlast hcd AE EQ
          have t1 : decide (s < c) = false := by rw [decide_eq_false_iff_not]; omega
          skip
          have cB3_0 := B3.c0; have cB3_1 := B3.c1; have cB3_2 := B3.c2; have fB3 := B3.frozen
          by_cases hcl : c < s
          · have hkn := hlast' hcl
            have t2 : decide (c < s) = true := by simpa using hcl
            have t3 : decide ((kk : Int) < (n1 : Int) - 1) = false := by rw [decide_eq_false_iff_not]; omega
            clear hlast' hkn
            go_wp2_with fail
            go_quiet (fail)
            have hbq := belowDrewN hB nq
            have B3q := B3.drewN nq
            have B8q := B8.drewN nq
            have hslq := slW _ (B8q)
            have hTq := transferAllowed_any _ _ _ ws2 (p + m) c z _ hslq
            have hd0 : (wr.drewN nq).cell? ⟨g1, o1 + kk * 3, none⟩ = _ := hc0
            have hd1 : (wr.drewN nq).cell? ⟨g1, o1 + kk * 3 + 1, none⟩ = _ := hc1
            have hd2 : (wr.drewN nq).cell? ⟨g1, o1 + kk * 3 + 2, none⟩ = _ := hc2
            simp only [trCells] at hTq
            have HU := Lib.hid (show ∀ b : Bool, upTo p z (min m q) b → upTo p z (min (m + s) q) (b && trAllowed ws2 (p + m) c z) from fun b h => by rw [show min m q = m by omega] at h; rw [show min (m + s) q = m + c by have := HCD.out; omega]; exact upTo_step hok hm0 (by omega) (by omega) h)
            have HA := Lib.hid (show p + m + c = p + min (m + s) q by have := HCD.out; omega)
            generalize trAllowed ws2 (p + m) c z = t at *
            clear hc0 hc1 hc2 he0 he1 he2
            cases b
            · clear hTq hslq
              go_wp2
              go_roundg (n1 - (kk + 1))
              case measure => omega
              case rel => exact ⟨kk + 1, m + s, p + m + c, false, by omega, by omega, by omega, by omega, by omega, by omega, by go_num, rfl, by go_num, (show Aside _ from hbq), (show Aside _ from B3q), (show Aside _ from B8q), (show Aside _ from HN.out), (show Aside _ from HA.out), (show Aside _ from HU.out _ UT.out)⟩
            · go_wp2_with fail
              refine hTq.mono ?_
              rintro e w5 ⟨rfl, hb5⟩
              have hb6 := thn hbq hb5
              have B3r := B3q.below hb5
              have B8r := B8q.below hb5
              clear hTq hslq hb5 hbq B3q B8q hd0 hd1 hd2
              go_wp2
              go_roundg (n1 - (kk + 1))
              case measure => omega
              case rel => exact ⟨kk + 1, m + s, p + m + c, t, by omega, by omega, by omega, by omega, by omega, by omega, by go_num, rfl, by go_num, (show Aside _ from hb6), (show Aside _ from B3r), (show Aside _ from B8r), (show Aside _ from HN.out), (show Aside _ from HA.out), (show Aside _ from by have := HU.out _ UT.out; rw [Bool.true_and] at this; exact this)⟩
          · have t2 : decide (c < s) = false := by simpa using hcl
            clear hlast'
            go_wp2_with fail
            go_quiet (fail)
            have hbq := belowDrewN hB nq
            have B3q := B3.drewN nq
            have B8q := B8.drewN nq
            have hslq := slW _ (B8q)
            have hTq := transferAllowed_any _ _ _ ws2 (p + m) c z _ hslq
            have hd0 : (wr.drewN nq).cell? ⟨g1, o1 + kk * 3, none⟩ = _ := hc0
            have hd1 : (wr.drewN nq).cell? ⟨g1, o1 + kk * 3 + 1, none⟩ = _ := hc1
            have hd2 : (wr.drewN nq).cell? ⟨g1, o1 + kk * 3 + 2, none⟩ = _ := hc2
            simp only [trCells] at hTq
            have HU := Lib.hid (show ∀ b : Bool, upTo p z (min m q) b → upTo p z (min (m + s) q) (b && trAllowed ws2 (p + m) c z) from fun b h => by rw [show min m q = m by omega] at h; rw [show min (m + s) q = m + c by have := HCD.out; omega]; exact upTo_step hok hm0 (by omega) (by omega) h)
            have HA := Lib.hid (show p + m + c = p + min (m + s) q by have := HCD.out; omega)
            generalize trAllowed ws2 (p + m) c z = t at *
            clear hc0 hc1 hc2 he0 he1 he2
            cases b
            · clear hTq hslq
              go_wp2
              go_roundg (n1 - (kk + 1))
              case measure => omega
              case rel => exact ⟨kk + 1, m + s, p + m + c, false, by omega, by omega, by omega, by omega, by omega, by omega, by go_num, rfl, by go_num, (show Aside _ from hbq), (show Aside _ from B3q), (show Aside _ from B8q), (show Aside _ from HN.out), (show Aside _ from HA.out), (show Aside _ from HU.out _ UT.out)⟩
            · go_wp2_with fail
              refine hTq.mono ?_
              rintro e w5 ⟨rfl, hb5⟩
              have hb6 := thn hbq hb5
              have B3r := B3q.below hb5
              have B8r := B8q.below hb5
              clear hTq hslq hb5 hbq B3q B8q hd0 hd1 hd2
              go_wp2
              go_roundg (n1 - (kk + 1))
              case measure => omega
              case rel => exact ⟨kk + 1, m + s, p + m + c, t, by omega, by omega, by omega, by omega, by omega, by omega, by go_num, rfl, by go_num, (show Aside _ from hb6), (show Aside _ from B3r), (show Aside _ from B8r), (show Aside _ from HN.out), (show Aside _ from HA.out), (show Aside _ from by have := HU.out _ UT.out; rw [Bool.true_and] at this; exact this)⟩
        · have hltz : ¬ (kk : Int) < (n1 : Int) := by omega
          obtain rfl : n1 = kk := by omega
          have hqm := split_end EQ.out (by omega) hkm q2
          obtain rfl : a = p + q := by have := AE.out; omega
          have hend := upTo_end hok ((show min m q = q by omega) ▸ UT.out)
          have hTq := transferAllowed_any _ _ _ ws2 p q z _ (slW _ B8)
          rw [hend] at hTq
          simp only [trCells] at hTq
          clear hend UT AE EQ slW
          skip
          have cB3_0 := B3.c0; have cB3_1 := B3.c1; have cB3_2 := B3.c2; have fB3 := B3.frozen
          go_wp2_with fail
          refine hTq.mono ?_
          rintro e w5 ⟨rfl, hb5⟩
          go_wp2
          go_ret
          exact ⟨by simp, thn hb (thn hB3 (thn hB hb5))⟩
  · clear h
    go_enter Try.func3, Try.ntmps3
    go_wp2
    go_ret
    exact ⟨rfl, Below.refl _ _⟩
end Go.Proofs.Ytffhcifeccdfjaa
