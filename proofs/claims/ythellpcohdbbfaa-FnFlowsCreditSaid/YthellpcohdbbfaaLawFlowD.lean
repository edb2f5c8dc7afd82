/- The walk of FnFlowDirect. -/
import Derived.Test.YthellpcohdbbfaaNet
import Derived.Test.YthellpcohdbbfaaFlow
import Derived.Test.YthellpcohdbbfaaAlive
namespace Go.Proofs.Ythellpcohdbbfaa
set_option linter.unusedVariables false
set_option linter.unusedSimpArgs false
open Go.RowKit

abbrev Chan := Int × Int × Int × Int
def fdV (x : SV Chan × Int × Int × Int) : Value := .tuple #[x.1.v, .int .i64 x.2.1, .int .i64 x.2.2.1, .int .i64 x.2.2.2]
set_option maxHeartbeats 1000000 in
theorem drawFlowDirect_any (A : Option Addr) (n c : Nat) (zs : List Int) (w : World) (h : Code w A n c zs) :
    Calls Try.prog 23 #[.slice A n c] w (Post fdV fun x w' => SV.ok w' w.heap.size 4 eC x.1 ∧ x.1.n ≤ 13 ∧ (-1 ≤ x.2.1 ∧ x.2.1 ≤ 6) ∧ (-1 ≤ x.2.2.1 ∧ x.2.2.1 ≤ 5) ∧ (0 ≤ x.2.2.2 ∧ x.2.2.2 ≤ 6) ∧ Below w.heap.size w w') := by
  obtain ⟨r, hr, hrw⟩ : ∃ r, w.heap.size = r ∧ w.heap.size ≤ r := ⟨_, rfl, Nat.le_refl _⟩
  have hopen := open_at r A n c zs w h hr
  clear h hr
  go_enter Try.func23, Try.ntmps23
  go_wp2_with fail
  refine hopen.mono ?_
  rintro e w0 ⟨rfl, hrd, hb, hsz⟩
  replace hb := hb.mono hrw
  have hS := Stp.refl hrd
  have hr0 := hrd.lt
  clear hrd hopen
  have hz0 := hb.size
  go_wp2_with fail; refine (l20Net_any r 14 _ _ (by repeat (first | exact hS.rd | apply Rd.drew | apply Rd.alloc | (apply Rd.setCell; rotate_left; assumption))) (by omega) (by omega)).mono ?_; rintro e w1 ⟨x, rfl, hs1, hs2, hs3, hs4, hs⟩; replace hS := Stp.trans (by repeat (first | exact hS | apply Stp.drew | apply Stp.alloc | (apply Stp.set; assumption; assumption))) hs; clear hs
  obtain ⟨⟨A1, n1, c1, xs⟩, parts⟩ := x
  simp only [netV, SV.v] at hs1 hs2 hs4 ⊢
  obtain ⟨hp0, hp1⟩ := hs4
  have hok : ∀ W, Sl W 4 eC A1 n1 c1 xs → SV.ok W w.heap.size 4 eC ⟨A1, n1, c1, xs⟩ := fun W hW => ⟨hW, fun b o e => Nat.le_trans hz0 (hs1.fresh b o e), hs1.nil, hs1.spot⟩
  have hne : ∀ b o, A1 = some ⟨b, o, none⟩ → b ≠ r := fun b o e => by have := hs1.fresh b o e; omega
  have hsl := hs1.sl
  clear hs1 hs3
  go_wp2_with fail
  refine (pick_any _ 6 _ _ hS.rd (by omega) (by omega)).mono ?_
  rintro e w2 ⟨v2, rfl, hv20, hv21, hs⟩
  replace hsl := hsl.stp hs hne
  replace hS := Stp.trans (by repeat (first | exact hS | apply Stp.drew | apply Stp.alloc)) hs; clear hs
  go_wp2_with fail
  refine (pick_any _ 14 _ _ hS.rd (by omega) (by omega)).mono ?_
  rintro e w3 ⟨v3, rfl, hv30, hv31, hs⟩
  replace hsl := hsl.stp hs hne
  replace hS := Stp.trans (by repeat (first | exact hS | apply Stp.drew | apply Stp.alloc)) hs; clear hs
  by_cases hp : 1 < parts
  · have hmx : (if 1 < parts then parts else 1) = parts := if_pos hp
    have hmx2 : (if parts < 1 then 1 else parts) = parts := if_neg (by omega)
    go_wp2_with fail
    refine (pick_any _ (parts) _ _ hS.rd (by omega) (by omega)).mono ?_
    rintro e w4 ⟨v4, rfl, hv40, hv41, hs⟩
    have hok2 := hsl.stp hs hne
    replace hS := Stp.trans (by repeat (first | exact hS | apply Stp.drew | apply Stp.alloc)) hs; clear hs
    have hBel := hS.belowT (a := w) (B := w.heap.size) hb (by assumption) hb.size
    go_wp2
    exact bodyPost_ret (v := fdV (⟨A1, n1, c1, xs⟩, parts, v2 - v3 / 13, v4)) (by simp [results, Try.results23, go_sem, fdV, SV.v]) rfl ⟨(⟨A1, n1, c1, xs⟩, parts, v2 - v3 / 13, v4), rfl, hok _ hok2, hs2, ⟨hp0, hp1⟩, ⟨by simp only []; omega, by simp only []; omega⟩, ⟨by simp only []; omega, by simp only []; omega⟩, hBel⟩
  · have hmx : (if 1 < parts then parts else 1) = 1 := if_neg hp
    go_wp2_with fail
    refine (pick_any _ (1) _ _ hS.rd (by omega) (by omega)).mono ?_
    rintro e w4 ⟨v4, rfl, hv40, hv41, hs⟩
    have hok2 := hsl.stp hs hne
    replace hS := Stp.trans (by repeat (first | exact hS | apply Stp.drew | apply Stp.alloc)) hs; clear hs
    have hBel := hS.belowT (a := w) (B := w.heap.size) hb (by assumption) hb.size
    go_wp2
    exact bodyPost_ret (v := fdV (⟨A1, n1, c1, xs⟩, parts, v2 - v3 / 13, v4)) (by simp [results, Try.results23, go_sem, fdV, SV.v]) rfl ⟨(⟨A1, n1, c1, xs⟩, parts, v2 - v3 / 13, v4), rfl, hok _ hok2, hs2, ⟨hp0, hp1⟩, ⟨by simp only []; omega, by simp only []; omega⟩, ⟨by simp only []; omega, by simp only []; omega⟩, hBel⟩
theorem not_or_true {a b : Bool} (h : false = (a || b)) : a = false := by cases a <;> simp_all
theorem flowD_no {xs : List Chan} {parts f t : Int} (h : chansOk xs parts = false ∨ f < 0 ∨ parts ≤ f ∨ t < 0 ∨ parts ≤ t) : flowD xs parts f t = false := by
  unfold flowD
  rcases h with h | h
  · rw [h]; rfl
  · have : inB f 0 (parts - 1) = false ∨ inB t 0 (parts - 1) = false := by
      rcases h with h | h | h | h
      · exact .inl (inB_false.2 (.inl h))
      · exact .inl (inB_false.2 (.inr (by omega)))
      · exact .inr (inB_false.2 (.inl h))
      · exact .inr (inB_false.2 (.inr (by omega)))
    rcases this with h | h
    · rw [h]; simp
    · rw [h]; simp
theorem flowD_yes {xs : List Chan} {parts f t : Int} (h : chansOk xs parts = true) (h1 : 0 ≤ f) (h2 : f < parts) (h3 : 0 ≤ t) (h4 : t < parts) : flowD xs parts f t = directB xs f t := by
  unfold flowD
  rw [h, inB_true.2 ⟨h1, by omega⟩, inB_true.2 ⟨h3, by omega⟩]
  simp
theorem chansOk_one {xs : List Chan} {parts : Int} {y : Chan} {k : Nat} (h : chansOk xs parts = true) (hy : xs[k]? = some y) : chansOk [y] parts = true := by
  simp only [chansOk, Bool.and_eq_true, List.all_eq_true, decide_eq_true_eq] at h ⊢
  refine ⟨h.1, by simp, fun x hx => ?_⟩
  rw [List.mem_singleton.1 hx]
  exact h.2.2 y (List.mem_of_getElem? hy)
theorem drop_at' {α : Type} {xs : List α} {k : Nat} {y : α} (h : xs[k]? = some y) : (xs.drop k).take 1 = [y] := by
  obtain ⟨hk, e⟩ := List.getElem?_eq_some_iff.1 h
  rw [List.drop_eq_getElem_cons hk, e]
  rfl
theorem Sl.cut {α : Type} {w : World} {k n c b o : Nat} {enc : α → List Value} {xs : List α} {kk : Nat} {y : α} (h : Sl w k enc (some ⟨b, o, none⟩) n c xs) (hk : kk < n) (hy : xs[kk]? = some y) : Sl w k enc (some ⟨b, o + kk * k, none⟩) 1 (c - kk) [y] := by
  have hle := h.le
  have hmax := h.max
  have h1 := h.drop_ kk (by omega) (c' := c - kk) (A' := some ⟨b, o + kk * k, none⟩) (by omega) (by omega) (fun b' o' e _ => by injection e with e; injection e with e1 e2; subst e1 e2; rfl)
  have h2 := h1.take_ 1 (by omega)
  rw [drop_at' hy] at h2
  exact h2
set_option maxRecDepth 100000 in
set_option maxHeartbeats 2000000 in
theorem lawFlowDirect (A : Option Addr) (n c : Nat) (zs : List Int) (w : World) (h : Code w A n c zs) :
    Calls Try.prog 5 #[.slice A n c] w fun e w' => .returned (.bool true) = e ∧ Below w.heap.size w w' := by
  have hle := h.le
  have hmax := h.max
  by_cases hn : n ≤ 1048576
  · have hdraw := drawFlowDirect_any A n c zs w h
    clear h
    go_enter Try.func5, Try.ntmps5
    go_wp2_with fail
    refine hdraw.mono ?_
    rintro e w1 ⟨⟨⟨A1, n1, c1, xs⟩, parts, f, t⟩, rfl, ⟨hsl, -, -, -⟩, hn1, ⟨hp0, hp1⟩, ⟨hf0, hf1⟩, ⟨ht0, ht1⟩, hb⟩
    clear hdraw
    simp only [fdV, SV.v] at hsl hn1 hp0 hp1 hf0 hf1 ht0 ht1 ⊢
    have hle1 := hsl.le
    have hmax1 := hsl.max
    have hI := flowDirect_any A1 n1 c1 xs parts f t (by omega) w1 hsl
    have hS := fun W hW => specFlowDirect_any A1 n1 c1 xs parts f t (by omega) W (hsl.below hW)
    have hV := fun W hW => specChannelsValid_any A1 n1 c1 xs parts (by omega) W (hsl.below hW)
    have HNo := Lib.hid (@flowD_no xs parts f t)
    have HYes := Lib.hid (@flowD_yes xs parts f t)
    have HOne := Lib.hid (fun y k h1 h2 => @chansOk_one xs parts y k h1 h2)
    have HFO := fun W A n c y h => flowDirect_any A n c [y] parts f t (by omega) W h
    generalize flowD xs parts f t = o at *
    generalize chansOk xs parts = v at *
    go_wp2_with fail
    refine hI.mono ?_
    rintro e w2 ⟨rfl, hb2⟩
    go_wp2_with fail
    refine (hS _ hb2).mono ?_
    rintro e w3 ⟨rfl, hb3⟩
    have hB3 := thn hb2 hb3
    go_wp2_with fail
    refine (hV _ hB3).mono ?_
    rintro e w4 ⟨rfl, hb4⟩
    have hB4 := thn hB3 hb4
    clear hI hS hV hb2 hb3 hb4 hB3
    cases v
    · obtain rfl : o = false := HNo.out (.inl rfl)
      clear HNo HYes HOne HFO
      skip
      go_wp2_with fail; refine (alive_any _).mono ?_; rintro e w9 ⟨rfl, hbw9⟩
      go_wp2
      go_ret
      exact ⟨rfl, thn hb (thn hB4 hbw9)⟩
    · by_cases c1' : f < 0
      · obtain rfl : o = false := HNo.out (.inr (.inl c1'))
        clear HNo HYes HOne HFO
        skip
        go_wp2_with fail; refine (alive_any _).mono ?_; rintro e w9 ⟨rfl, hbw9⟩
        go_wp2
        go_ret
        exact ⟨rfl, thn hb (thn hB4 hbw9)⟩
      · by_cases c2' : parts ≤ f
        · obtain rfl : o = false := HNo.out (.inr (.inr (.inl c2')))
          clear HNo HYes HOne HFO
          skip
          go_wp2_with fail; refine (alive_any _).mono ?_; rintro e w9 ⟨rfl, hbw9⟩
          go_wp2
          go_ret
          exact ⟨rfl, thn hb (thn hB4 hbw9)⟩
        · by_cases c3' : t < 0
          · obtain rfl : o = false := HNo.out (.inr (.inr (.inr (.inl c3'))))
            clear HNo HYes HOne HFO
            skip
            go_wp2_with fail; refine (alive_any _).mono ?_; rintro e w9 ⟨rfl, hbw9⟩
            go_wp2
            go_ret
            exact ⟨rfl, thn hb (thn hB4 hbw9)⟩
          · by_cases c4' : parts ≤ t
            · obtain rfl : o = false := HNo.out (.inr (.inr (.inr (.inr c4'))))
              clear HNo HYes HOne HFO
              skip
              go_wp2_with fail; refine (alive_any _).mono ?_; rintro e w9 ⟨rfl, hbw9⟩
              go_wp2
              go_ret
              exact ⟨rfl, thn hb (thn hB4 hbw9)⟩
            · have HO := Lib.hid (HYes.out rfl (by omega) (by omega) (by omega) (by omega))
              have HL := Lib.hid hsl.len
              obtain ⟨b0, hb0⟩ : ∃ b0, (f == t) = b0 := ⟨_, rfl⟩
              have HB0 := Lib.hid hb0
              clear HNo HYes
              go_wp2
              clear hb0
              go_loopg [8, 9] n1 (fun gg s8 s9 wr => ∃ (kk : Nat) (fd : Bool), kk ≤ n1 ∧ n1 - kk ≤ gg ∧ s8 = .bool fd ∧ s9 = .int .i64 kk ∧ Aside (Below w1.heap.size w1 wr) ∧ Aside (fd = (b0 || (xs.take kk).any (dirP f t))))
              case atStart => exact ⟨0, b0, Nat.zero_le _, by omega, rfl, rfl, (show Aside _ from hB4), (show Aside _ from (show b0 = (b0 || (xs.take 0).any (dirP f t)) by simp))⟩
              case round =>
                clear hB4
                obtain ⟨kk, fd, hkk, hg, rfl, rfl, BW, FE⟩ := hrel
                by_cases hlt : kk < n1
                · have hltz : (kk : Int) < (n1 : Int) := by omega
                  obtain ⟨g, o', rfl, y, hyk, hc⟩ := hsl.nth hlt BW.out
                  have HT := Lib.hid (any_take (p := dirP f t) hyk)
                  have hone := HOne.out _ _ (by simp) hyk
                  have hcut := (hsl.below BW.out).cut hlt hyk
                  have hq := HFO wr _ _ _ y hcut
                  rw [flowD_yes hone (by omega) (by omega) (by omega) (by omega)] at hq
                  have HD := Lib.hid (show directB [y] f t = (b0 || dirP f t y) by unfold directB; rw [HB0.out]; simp)
                  generalize directB [y] f t = d at *
                  clear hc hyk hone hcut
                  cases fd
                  · have hck : ¬ c1 = kk := by omega
                    go_wp2_with fail
                    refine hq.mono ?_
                    rintro e w5 ⟨rfl, hb5⟩
                    go_wp2
                    go_roundg (n1 - (kk + 1))
                    case measure => omega
                    case rel => exact ⟨kk + 1, d, by omega, by omega, rfl, by go_num, (show Aside _ from thn BW.out hb5), (show Aside _ from (show d = (b0 || (xs.take (kk + 1)).any (dirP f t)) by
                      have h1 := FE.out
                      rw [HT.out, ← Bool.or_assoc, ← h1, HD.out]
                      have h2 : b0 = false := not_or_true h1
                      rw [h2]))⟩
                  · clear hq
                    go_wp2
                    go_roundg (n1 - (kk + 1))
                    case measure => omega
                    case rel => exact ⟨kk + 1, true, by omega, by omega, rfl, by go_num, (show Aside _ from BW.out), (show Aside _ from (show true = (b0 || (xs.take (kk + 1)).any (dirP f t)) by rw [HT.out, ← Bool.or_assoc, ← FE.out]; rfl))⟩
                · have hltz : ¬ (kk : Int) < (n1 : Int) := by omega
                  obtain rfl : n1 = kk := by omega
                  have HR := Lib.hid (show o = fd by rw [FE.out, List.take_of_length_le (by have := HL.out; omega), HO.out, ← HB0.out]; rfl)
                  clear FE
                  go_wp2
                  go_ret
                  exact ⟨by rw [HR.out]; simp, thn hb BW.out⟩
  · clear h
    go_enter Try.func5, Try.ntmps5
    go_wp2
    go_ret
    exact ⟨rfl, Below.refl _ _⟩
end Go.Proofs.Ythellpcohdbbfaa
