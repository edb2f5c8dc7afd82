/- The walk of FnChannelsOf. -/
import Derived.Test.YthellpcohdbbfaaChOf
import Derived.Test.YthellpcohdbbfaaSame
import Derived.Test.YthellpcohdbbfaaAlive
namespace Go.Proofs.Ythellpcohdbbfaa
set_option linter.unusedVariables false
set_option linter.unusedSimpArgs false
open Go.RowKit

def coV (x : SV Chn × Int × Int × Bool) : Value := .tuple #[x.1.v, .int .i64 x.2.1, .int .i64 x.2.2.1, .bool x.2.2.2]
set_option maxHeartbeats 1000000 in
theorem drawChannelsOf_any (A : Option Addr) (n c : Nat) (zs : List Int) (w : World) (h : Code w A n c zs) :
    Calls Try.prog 25 #[.slice A n c] w (Post coV fun x w' => SV.ok w' w.heap.size 4 eC x.1 ∧ x.1.n ≤ 13 ∧ (-1 ≤ x.2.1 ∧ x.2.1 ≤ 6) ∧ (-1 ≤ x.2.2.1 ∧ x.2.2.1 ≤ 5) ∧ Below w.heap.size w w') := by
  obtain ⟨r, hr, hrw⟩ : ∃ r, w.heap.size = r ∧ w.heap.size ≤ r := ⟨_, rfl, Nat.le_refl _⟩
  have hopen := open_at r A n c zs w h hr
  clear h hr
  go_enter Try.func25, Try.ntmps25
  go_wp2_with fail
  refine hopen.mono ?_
  rintro e w0 ⟨rfl, hrd, hb, hsz⟩
  replace hb := hb.mono hrw
  have hS := Stp.refl hrd
  have hr0 := hrd.lt
  clear hrd hopen
  have hz0 := hb.size
  go_wp2_with fail; refine (l20Net_any r 12 _ _ (by repeat (first | exact hS.rd | apply Rd.drew | apply Rd.alloc | (apply Rd.setCell; rotate_left; assumption))) (by omega) (by omega)).mono ?_; rintro e w1 ⟨x, rfl, hs1, hs2, hs3, hs4, hs⟩; replace hS := Stp.trans (by repeat (first | exact hS | apply Stp.drew | apply Stp.alloc | (apply Stp.set; assumption; assumption))) hs; clear hs
  obtain ⟨⟨A1, n1, c1, xs⟩, parts⟩ := x
  simp only [netV, SV.v] at hs1 hs2 hs4 ⊢
  obtain ⟨hp0, hp1⟩ := hs4
  have hok : ∀ W, Sl W 4 eC A1 n1 c1 xs → SV.ok W w.heap.size 4 eC ⟨A1, n1, c1, xs⟩ := fun W hW => ⟨hW, fun b o e => Nat.le_trans hz0 (hs1.fresh b o e), hs1.nil, hs1.spot⟩
  have hne : ∀ b o, A1 = some ⟨b, o, none⟩ → b ≠ r := fun b o e => by have := hs1.fresh b o e; omega
  have hsl := hs1.sl
  clear hs1 hs3
  go_wp2_with fail
  refine (pick_any _ 6 _ _ hS.rd (by omega) (by omega)).mono ?_
  rintro e w2 ⟨v2, rfl, hv20, hv21, hs⟩
  replace hsl := hsl.stp hs hne
  replace hS := Stp.trans (by repeat (first | exact hS | apply Stp.drew | apply Stp.alloc)) hs; clear hs
  go_wp2_with fail
  refine (pick_any _ 2 _ _ hS.rd (by omega) (by omega)).mono ?_
  rintro e w3 ⟨v3, rfl, hv30, hv31, hs⟩
  replace hsl := hsl.stp hs hne
  replace hS := Stp.trans (by repeat (first | exact hS | apply Stp.drew | apply Stp.alloc)) hs; clear hs
  have hBel := hS.belowT (a := w) (B := w.heap.size) hb (by assumption) hb.size
  obtain ⟨z, hz⟩ : ∃ z, (v3 == (0 : Int)) = z := ⟨_, rfl⟩
  go_wp2
  exact bodyPost_ret (v := coV (⟨A1, n1, c1, xs⟩, parts, v2 - 1, z)) (by simp [results, Try.results25, go_sem, coV, SV.v]) rfl ⟨(⟨A1, n1, c1, xs⟩, parts, v2 - 1, z), rfl, hok _ hsl, hs2, ⟨hp0, hp1⟩, ⟨by simp only []; omega, by simp only []; omega⟩, hBel⟩
theorem chOfN_at {q : Int} {s : Bool} {xs : List Chn} : ∀ (m i : Nat) (v : Int), (chOfN q s xs m)[i]? = some v → ∃ j : Nat, j < m ∧ v = (j : Int) ∧ ∃ y, xs[j]? = some y ∧ selP q s y = true
  | 0, i, v, h => by simp [chOfN] at h
  | m + 1, i, v, h => by
    cases hx : xs[m]? with
    | none =>
      have e : chOfN q s xs (m + 1) = chOfN q s xs m := by show chOfN q s xs m ++ (match xs[m]? with | some y => if selP q s y then [(m : Int)] else [] | none => []) = _; rw [hx]; simp
      rw [e] at h
      obtain ⟨j, h1, h2⟩ := chOfN_at m i v h
      exact ⟨j, by omega, h2⟩
    | some y =>
      cases hp : selP q s y
      · rw [chOfN_miss hx hp] at h
        obtain ⟨j, h1, h2⟩ := chOfN_at m i v h
        exact ⟨j, by omega, h2⟩
      · rw [chOfN_hit hx hp] at h
        by_cases hi : i < (chOfN q s xs m).length
        · rw [List.getElem?_append_left hi] at h
          obtain ⟨j, h1, h2⟩ := chOfN_at m i v h
          exact ⟨j, by omega, h2⟩
        · rw [List.getElem?_append_right (by omega)] at h
          have hz : i - (chOfN q s xs m).length = 0 := by
            rcases Nat.eq_zero_or_pos (i - (chOfN q s xs m).length) with h0 | h0
            · exact h0
            · rw [List.getElem?_eq_none (by simp; omega)] at h; cases h
          rw [hz] at h
          have : (m : Int) = v := by simpa using h
          exact ⟨m, by omega, this.symm, y, hx, hp⟩
/-- How many there are over the first K partitions. -/
def tot (s : Bool) (xs : List Chn) (m : Nat) : Nat → Nat
  | 0 => 0
  | K + 1 => tot s xs m K + (chOfN (K : Int) s xs m).length
def keyC (s : Bool) (y : Chn) : Int := if s then y.2.1 else y.2.2.1
theorem tot_zero (s : Bool) (xs : List Chn) : ∀ K, tot s xs 0 K = 0
  | 0 => rfl
  | K + 1 => by show tot s xs 0 K + 0 = 0; rw [tot_zero s xs K]
theorem tot_step {s : Bool} {xs : List Chn} {m : Nat} {y : Chn} (h : xs[m]? = some y) (h0 : 0 ≤ keyC s y) : ∀ K : Nat, tot s xs (m + 1) K = tot s xs m K + (if keyC s y < (K : Int) then 1 else 0)
  | 0 => by rw [if_neg (by omega)]; rfl
  | K + 1 => by
    show tot s xs (m + 1) K + (chOfN (K : Int) s xs (m + 1)).length = tot s xs m K + (chOfN (K : Int) s xs m).length + _
    rw [tot_step h h0 K]
    have hsel : selP (K : Int) s y = (keyC s y == (K : Int)) := by cases s <;> rfl
    cases hp : selP (K : Int) s y
    · rw [chOfN_miss h hp]
      have hne : ¬ keyC s y = (K : Int) := by rw [hsel] at hp; simpa using hp
      by_cases h1 : keyC s y < (K : Int)
      · rw [if_pos h1, if_pos (by omega)]; omega
      · rw [if_neg h1, if_neg (by omega)]; omega
    · rw [chOfN_hit h hp, List.length_append, List.length_singleton]
      have he : keyC s y = (K : Int) := by rw [hsel] at hp; simpa using hp
      rw [if_neg (by omega), if_pos (by omega)]; omega
theorem tot_all {s : Bool} {xs : List Chn} {P : Nat} (h : ∀ y ∈ xs, 0 ≤ keyC s y ∧ keyC s y < (P : Int)) : ∀ m, m ≤ xs.length → tot s xs m P = m
  | 0, _ => tot_zero s xs P
  | m + 1, hm => by
    have hy := h xs[m] (List.getElem_mem (by omega))
    rw [tot_step (List.getElem?_eq_getElem (by omega)) hy.1, tot_all h m (by omega), if_pos hy.2]
theorem chans_key {xs : List Chn} {P : Nat} (h : chansOk xs (P : Int) = true) (s : Bool) : ∀ y ∈ xs, 0 ≤ keyC s y ∧ keyC s y < (P : Int) := by
  intro y hy
  simp only [chansOk, Bool.and_eq_true, List.all_eq_true] at h
  have h1 := h.2.2 y hy
  simp only [chanOk, Bool.and_eq_true, inB_true] at h1
  unfold keyC
  cases s
  · simp only [Bool.false_eq_true, if_false]; omega
  · simp only [if_true]; omega
theorem chans_len {xs : List Chn} {parts : Int} (h : chansOk xs parts = true) : xs.length ≤ 8 ∧ 0 ≤ parts ∧ parts ≤ 5 := by
  simp only [chansOk, Bool.and_eq_true, decide_eq_true_eq, inB_true] at h
  omega
set_option maxRecDepth 100000 in
set_option maxHeartbeats 2000000 in
theorem lawChannelsOf (A : Option Addr) (n c : Nat) (zs : List Int) (w : World) (h : Code w A n c zs) :
    Calls Try.prog 6 #[.slice A n c] w fun e w' => .returned (.bool true) = e ∧ Below w.heap.size w w' := by
  have hle := h.le
  have hmax := h.max
  by_cases hn : n ≤ 1048576
  · have hdraw := drawChannelsOf_any A n c zs w h
    clear h
    go_enter Try.func6, Try.ntmps6
    go_wp2_with fail
    refine hdraw.mono ?_
    rintro e w1 ⟨⟨⟨A1, n1, c1, xs⟩, parts, q, s⟩, rfl, ⟨hsl, -, -, -⟩, hn1, ⟨hp0, hp1⟩, ⟨hq0, hq1⟩, hb⟩
    clear hdraw
    simp only [coV, SV.v] at hsl hn1 hp0 hp1 hq0 hq1 ⊢
    have hle1 := hsl.le
    have hmax1 := hsl.max
    have hl1 := hsl.len
    have hI := channelsOf_any A1 n1 c1 xs parts q s (by omega) w1 hsl
    have hS := fun W hW => specChannelsOf_any A1 n1 c1 xs parts q s (by omega) (by omega) W (hsl.below hW)
    have hV := fun W hW => specChannelsValid_any A1 n1 c1 xs parts (by omega) W (hsl.below hW)
    have hK := fun W hW (k : Int) => channelsOf_any A1 n1 c1 xs parts k s (by omega) W (hsl.below hW)
    have HL := Lib.hid hl1
    clear hl1
    go_wp2_with fail
    refine hI.mono ?_
    rintro e w2 ⟨⟨A2, n2, c2, l2⟩, rfl, ⟨hsl2, -, -, -⟩, hl2, hb2⟩
    simp only [SV.v] at hsl2 hl2 ⊢
    subst hl2
    have hle2 := hsl2.le
    have hmax2 := hsl2.max
    go_wp2_with fail
    refine (hS _ hb2).mono ?_
    rintro e w3 ⟨⟨A3, n3, c3, l3⟩, rfl, ⟨hsl3, -, -, -⟩, hl3, hb3⟩
    simp only [SV.v] at hsl3 hl3 ⊢
    subst hl3
    have hE := sameInts_any A2 A3 n2 n3 c2 c3 _ _ w3 (hsl2.below hb3) hsl3
    rw [decide_eq_true rfl] at hE
    go_wp2_with fail
    refine hE.mono ?_
    rintro e w4 ⟨rfl, hb4⟩
    have hbx := thn hb3 hb4
    have hby := thn hb2 hbx
    clear hI hS hE hsl3 hb3 hb4 hb2
    replace hsl2 := hsl2.below hbx
    have hq := hV _ hby
    cases hv : chansOk xs parts
    · rw [hv] at hq
      rw [chOf_no hv] at hsl2
      obtain rfl : n2 = 0 := hsl2.len.symm
      clear hv hK hsl2 hV
      go_wp2_with fail
      refine hq.mono ?_
      rintro e w5 ⟨rfl, hb5⟩
      skip
      go_wp2_with fail; refine (alive_any _).mono ?_; rintro e w9 ⟨rfl, hbw9⟩
      go_wp2
      go_ret
      exact ⟨rfl, thn hb (thn (thn hby hb5) hbw9)⟩
    · rw [hv] at hq
      rw [chOf_yes hv] at hsl2
      have hK' := fun W hW k => hK W hW k
      obtain ⟨hx8, hpp0, hpp1⟩ := chans_len hv
      obtain ⟨P, rfl⟩ : ∃ P : Nat, parts = (P : Int) := ⟨parts.toNat, by omega⟩
      have HYes := Lib.hid (fun k => chOf_yes (q := k) (s := s) hv)
      have HT := Lib.hid (tot_all (chans_key hv s) xs.length (Nat.le_refl _))
      have HLen := Lib.hid (fun k => chOfN_len k s xs xs.length)
      have HAt := Lib.hid (fun i v => @chOfN_at q s xs xs.length i v)
      have hP5 : P ≤ 5 := by omega
      clear hv hV hK hpp0 hpp1
      go_wp2_with fail
      refine hq.mono ?_
      rintro e w5 ⟨rfl, hb5⟩
      have hB5 := thn hby hb5
      replace hsl2 := hsl2.below hb5
      clear hq
      go_wp2
      go_loopg [8, 9] P (fun gg s8 s9 wr => ∃ (kk m : Nat), kk ≤ P ∧ P - kk ≤ gg ∧ s8 = .int .i64 m ∧ s9 = .int .i64 kk ∧ m ≤ 100 * kk ∧ Aside (Below w5.heap.size w5 wr) ∧ Aside (m = tot s xs xs.length kk))
      case atStart => exact ⟨0, 0, Nat.zero_le _, by omega, rfl, rfl, by omega, (show Aside _ from Below.refl _ _), (show Aside _ from rfl)⟩
      case round =>
        obtain ⟨kk, m, hkk, hg, rfl, rfl, hm, BW, ME⟩ := hrel
        by_cases hlt : kk < P
        · have hltz : (kk : Int) < (P : Int) := by omega
          have hq := hK' wr (thn hB5 BW.out) (kk : Int)
          rw [HYes.out (kk : Int)] at hq
          have hlk := HLen.out (kk : Int)
          have HK := Lib.hid (show tot s xs xs.length (kk + 1) = tot s xs xs.length kk + (chOfN (kk : Int) s xs xs.length).length from rfl)
          clear hK' HAt
          go_wp2_with fail
          refine hq.mono ?_
          rintro e w6 ⟨⟨A6, n6, c6, l6⟩, rfl, ⟨hsl6, -, -, -⟩, hl6, hb6⟩
          simp only [SV.v] at hsl6 hl6 ⊢
          have hn6 : n6 ≤ 8 := by rw [← hsl6.len, hl6]; omega
          have HN := Lib.hid (show (chOfN (kk : Int) s xs xs.length).length = n6 by rw [← hl6]; exact hsl6.len)
          have hle6 := hsl6.le
          have hmax6 := hsl6.max
          clear hl6 hsl6 hlk hq
          go_wp2
          go_roundg (P - (kk + 1))
          case measure => omega
          case rel => exact ⟨kk + 1, m + n6, by omega, by omega, by go_num, by go_num, by omega, (show Aside _ from thn BW.out hb6), (show Aside _ from (show m + n6 = tot s xs xs.length (kk + 1) by rw [HK.out, HN.out, ← ME.out]))⟩
        · have hltz : ¬ (kk : Int) < (P : Int) := by omega
          obtain rfl : P = kk := by omega
          have hmn : m = n1 := by rw [ME.out, HT.out, HL.out]
          subst hmn
          have hB6 := thn hB5 BW.out
          replace hsl2 := hsl2.below BW.out
          clear ME HT BW hK'
          obtain ⟨wo, rfl⟩ : ∃ wo : World, wo = wr := ⟨_, rfl⟩
          go_wp2
          go_loopg [10] n2 (fun gg s10 wr => ∃ kk : Nat, kk ≤ n2 ∧ n2 - kk ≤ gg ∧ s10 = .int .i64 kk ∧ Aside (wo = wr))
          case atStart => exact ⟨0, Nat.zero_le _, by omega, rfl, (show Aside _ from rfl)⟩
          case round =>
            obtain ⟨kk, hkk, hg, rfl, BW⟩ := hrel
            have hwe := BW.out
            subst hwe
            by_cases hlt : kk < n2
            · have hltz : (kk : Int) < (n2 : Int) := by omega
              obtain ⟨g, o, rfl, v, hvk, hc⟩ := hsl2.nth hlt (Below.refl _ _)
              obtain ⟨j, hj, rfl, y, hjy, hsel⟩ := HAt.out kk v hvk
              have hjn : j < m := by have := HL.out; omega
              obtain ⟨g1, o1, rfl, y2, hjx, hd⟩ := hsl.nth hjn hB6
              obtain rfl : y = y2 := by rw [hjy] at hjx; injection hjx
              have hc0 := hc 0 _ rfl
              simp only [eI, Nat.add_zero, Nat.mul_one] at hc0
              have hj0 : (0 : Int) ≤ (j : Int) := by omega
              have hjz : (j : Int) < (m : Int) := by omega
              clear HAt hvk
              obtain ⟨k, a, b, d⟩ := y
              have hd1 := hd 1 _ rfl
              have hd2 := hd 2 _ rfl
              simp only [eC, Nat.add_zero] at hd1 hd2
              clear hc hd hjy hjx
              cases s
              · have he : b = q := by simpa [selP] using hsel
                subst he
                clear hsel
                go_wp2
                go_roundg (n2 - (kk + 1))
                case measure => omega
                case rel => exact ⟨kk + 1, by omega, by omega, by go_num, (show Aside _ from rfl)⟩
              · have he : a = q := by simpa [selP] using hsel
                subst he
                clear hsel
                go_wp2
                go_roundg (n2 - (kk + 1))
                case measure => omega
                case rel => exact ⟨kk + 1, by omega, by omega, by go_num, (show Aside _ from rfl)⟩
            · have hltz : ¬ (kk : Int) < (n2 : Int) := by omega
              obtain rfl : n2 = kk := by omega
              go_wp2
              go_ret
              exact ⟨by simp, thn hb hB6⟩
  · clear h
    go_enter Try.func6, Try.ntmps6
    go_wp2
    go_ret
    exact ⟨rfl, Below.refl _ _⟩
end Go.Proofs.Ythellpcohdbbfaa
