/- The walk of FnPartsSingle. -/
import Derived.Test.YtmlodhogfejdjaaApart
import Derived.Test.YtmlodhogfejdjaaLawPartV
import Derived.Test.YtmlodhogfejdjaaRel
namespace Go.Proofs.Ytmlodhogfejdjaa
set_option linter.unusedVariables false
set_option linter.unusedSimpArgs false
open Go.RowKit

/-- The windows' slices of a list of partitions lie below a bound. -/
def PtLt (G : Nat) (xs : List PartV) : Prop := ∀ x ∈ xs, ∀ b o, x.1.A = some ⟨b, o, none⟩ → b < G
theorem PtOwn.lt {w : World} {base : Nat} {xs : List PartV} (h : PtOwn w base xs) : PtLt w.heap.size xs := fun x hx b o e => by
  obtain ⟨A, c, hv, -, -, hf⟩ := (h x hx).sl encW
  unfold SV.v at hv
  injection hv with e1
  exact (hf b o (e1.symm.trans e)).2
theorem PtLt.mono {G G' : Nat} {xs : List PartV} (h : PtLt G xs) (hG : G ≤ G') : PtLt G' xs := fun x hx b o e => Nat.lt_of_lt_of_le (h x hx b o e) hG
theorem PtOk.appG {α : Type} {w w' : World} {base E k : Nat} {enc : α → List Value} {v : Value} {ys : List α} {xs : List PartV} (h : PtOk w xs) (hl : PtLt base xs) (hown : Own w base E k enc v ys) (hg : w.grownBy w' v.ownBlock) : PtOk w' xs := fun x hx => (h x hx).app hown hg (hl x hx)
theorem PtOk.setG {w : World} {g i : Nat} {xs : List PartV} (h : PtOk w xs) (hl : PtLt g xs) (u : Value) : PtOk (w.setCell ⟨g, i, none⟩ u) xs := fun x hx => (h x hx).keep (by simp [World.setCell]) (fun b o e => Below.heap_setCell _ _ _ _ (by have := hl x hx b o e; simp only []; omega))
theorem PtOwn.below {w w' : World} {base : Nat} {xs : List PartV} (h : PtOwn w base xs) (hb : Below w.heap.size w w') : PtOwn w' base xs := fun x hx => (h x hx).below hb
theorem PtOwn.appG {α : Type} {w w' : World} {base g E k : Nat} {enc : α → List Value} {v : Value} {ys : List α} {xs : List PartV} (h : PtOwn w base xs) (hl : PtLt g xs) (hown : Own w g E k enc v ys) (hg : w.grownBy w' v.ownBlock) : PtOwn w' base xs := fun x hx => (h x hx).kept hg (by
  obtain ⟨A, c, hv, hA, -, hf⟩ := (h x hx).sl encW
  rw [hv]
  unfold SV.v at hv
  injection hv with e1
  rcases A with _ | ⟨b, o, sp⟩
  · exact .inl rfl
  · have hsp := hA.2 _ rfl
    simp only [] at hsp
    subst hsp
    refine .inr fun e => ?_
    have h1 := hl x hx b o e1
    have h2 := hown.lt b (e.symm.trans rfl)
    omega)
theorem partsOk_win {xs : List PartV} (h : partsOk xs = true) {x : PartV} (hx : x ∈ xs) : x.1.xs.length ≤ 12 := by
  unfold partsOk at h
  simp only [Bool.and_eq_true, List.all_eq_true] at h
  have := h.2 x hx
  unfold partOk at this
  rw [Bool.and_eq_true] at this
  exact (winsOk_true.1 this.1).1
theorem PtOk.add {w : World} {xs : List PartV} {y : PartV} (h : PtOk w xs) (hy : Sl w 3 Win.cells y.1.A y.1.n y.1.c y.1.xs) : PtOk w (xs ++ [y]) := fun x hx => (List.mem_append.1 hx).elim (h x) (fun h9 => by rw [List.mem_singleton.1 h9]; exact hy)
theorem PtLt.add {G : Nat} {xs : List PartV} {y : PartV} (h : PtLt G xs) (hy : ∀ b o, y.1.A = some ⟨b, o, none⟩ → b < G) : PtLt G (xs ++ [y]) := fun x hx => (List.mem_append.1 hx).elim (h x) (fun h9 => by rw [List.mem_singleton.1 h9]; exact hy)
def calmW (x : Win) : Win := ⟨x.base, x.size, false⟩
theorem calm_take {xs : List Win} {jj : Nat} {y : Win} (h : xs[jj]? = some y) : (xs.take jj).map calmW ++ [⟨y.base, y.size, false⟩] = (xs.take (jj + 1)).map calmW := by
  have hlt := (List.getElem?_eq_some_iff.1 h).1
  rw [List.take_add_one, h]
  simp [calmW]
theorem calm_ok (x : Win) : (calmW x).ok = x.ok := rfl
theorem calm_winsOk (xs : List Win) : winsOk (xs.map calmW) = winsOk xs := by
  unfold winsOk
  rw [List.length_map, List.all_map]
  congr 1
theorem calm_clash (xs ys : List Win) : clashW (xs.map calmW) (ys.map calmW) = false := by
  unfold clashW hitW
  simp [calmW]
/-- A calm list of partitions beside the first kk of another one. -/
def Calm (ys xs : List PartV) (kk : Nat) : Prop := ys.length = kk ∧ ∀ (i : Nat) (y : PartV), ys[i]? = some y → ∃ x, xs[i]? = some x ∧ y.1.xs = x.1.xs.map calmW ∧ y.2 = x.2
theorem Calm.add {ys xs : List PartV} {kk : Nat} {x y : PartV} (h : Calm ys xs kk) (hx : xs[kk]? = some x) (h1 : y.1.xs = x.1.xs.map calmW) (h2 : y.2 = x.2) : Calm (ys ++ [y]) xs (kk + 1) := by
  obtain ⟨h3, h4⟩ := h
  refine ⟨by simp [h3], fun i z hz => ?_⟩
  by_cases hi : i < kk
  · rw [List.getElem?_append_left (by omega)] at hz
    exact h4 i z hz
  · have hlt := (List.getElem?_eq_some_iff.1 hz).1
    simp only [List.length_append, List.length_singleton] at hlt
    obtain rfl : i = kk := by omega
    rw [List.getElem?_append_right (by omega), h3, Nat.sub_self] at hz
    injection hz with hz
    rw [← hz]
    exact ⟨x, hx, h1, h2⟩
theorem Calm.parts {ys xs : List PartV} (h : Calm ys xs xs.length) (hok : partsOk xs = true) : partsOk ys = true ∧ NoClash ys := by
  obtain ⟨h1, h2⟩ := h
  unfold partsOk at hok ⊢
  simp only [Bool.and_eq_true, decide_eq_true_eq, List.all_eq_true] at hok ⊢
  refine ⟨⟨by omega, fun y hy => ?_⟩, fun i j x y _ hx hy => ?_⟩
  · obtain ⟨i, hi⟩ := List.mem_iff_getElem?.1 hy
    obtain ⟨x, hx, e1, e2⟩ := h2 i y hi
    have := hok.2 x (List.mem_of_getElem? hx)
    unfold partOk at this ⊢
    rw [e1, e2, calm_winsOk]
    exact this
  · obtain ⟨x', _, e1, _⟩ := h2 i x hx
    obtain ⟨y', _, e2, _⟩ := h2 j y hy
    rw [e1, e2]
    exact calm_clash _ _
theorem noClash_one (xs : List PartV) : NoClash (xs.take 1) := fun i j x y hj hx _ => by
  have := (List.getElem?_eq_some_iff.1 hx).1
  rw [List.length_take] at this
  omega
def relCalm (q6 n2 c2 kk jj n1 c1 g2 f2 g1 f1 : Nat) (v7 : Value) (wb wz : Int) : Nat → Value → World → Prop
  | 0, v, _ => v = .pointer (some ⟨q6, 0, none⟩)
  | 1, v, _ => v = v7
  | 2, v, _ => v = .slice (some ⟨g2, f2, none⟩) n2 c2
  | 3, v, _ => v = .int .i64 kk
  | 4, v, _ => v = .pointer (some ⟨g2, f2 + kk * 2, none⟩)
  | 5, v, _ => v = .pointer (some ⟨g2, f2 + kk * 2, none⟩)
  | 6, v, _ => v = .slice (some ⟨g1, f1, none⟩) n1 c1
  | 7, v, _ => v = .int .i64 jj
  | 8, v, _ => v = .pointer (some ⟨g1, f1 + jj * 3, none⟩)
  | 9, v, _ => v = .pointer (some ⟨g1, f1 + jj * 3, none⟩)
  | 10, v, _ => v = .int .i64 wb
  | 11, v, _ => v = .slice (some ⟨g2, f2, none⟩) n2 c2
  | 12, v, _ => v = .int .i64 kk
  | 13, v, _ => v = .pointer (some ⟨g2, f2 + kk * 2, none⟩)
  | 14, v, _ => v = .pointer (some ⟨g2, f2 + kk * 2, none⟩)
  | 15, v, _ => v = .slice (some ⟨g1, f1, none⟩) n1 c1
  | 16, v, _ => v = .int .i64 jj
  | 17, v, _ => v = .pointer (some ⟨g1, f1 + jj * 3, none⟩)
  | 18, v, _ => v = .pointer (some ⟨g1, f1 + jj * 3 + 1, none⟩)
  | 19, v, _ => v = .int .i64 wz
  | 20, v, _ => v = .agg #[.int .i64 wb, .int .i64 wz, .bool false]
  | 21, v, W => ∃ g, v = .slice (some ⟨g, 0, none⟩) 1 1 ∧ Blk W g 35 #[.int .i64 wb, .int .i64 wz, .bool false]
  | _, _, _ => True
theorem relCalm_below (q6 n2 c2 kk jj n1 c1 g2 f2 g1 f1 : Nat) (v7 : Value) (wb wz : Int) {i : Nat} {v : Value} {w w' : World} (h : relCalm q6 n2 c2 kk jj n1 c1 g2 f2 g1 f1 v7 wb wz i v w) (hb : Below w.heap.size w w') : relCalm q6 n2 c2 kk jj n1 c1 g2 f2 g1 f1 v7 wb wz i v w' := by
  match i, h with
  | 0, h => exact h
  | 1, h => exact h
  | 2, h => exact h
  | 3, h => exact h
  | 4, h => exact h
  | 5, h => exact h
  | 6, h => exact h
  | 7, h => exact h
  | 8, h => exact h
  | 9, h => exact h
  | 10, h => exact h
  | 11, h => exact h
  | 12, h => exact h
  | 13, h => exact h
  | 14, h => exact h
  | 15, h => exact h
  | 16, h => exact h
  | 17, h => exact h
  | 18, h => exact h
  | 19, h => exact h
  | 20, h => exact h
  | 21, ⟨g, e, B⟩ => exact ⟨g, e, B.below hb⟩
  | n + 22, _ => trivial

set_option maxRecDepth 100000 in
set_option maxHeartbeats 4000000 in
theorem lawPartsSingle (A : Option Addr) (n c : Nat) (zs : List Int) (w : World) (h : Code w A n c zs) :
    Calls Try.prog 14 #[.slice A n c] w fun e w' => .returned (.bool true) = e ∧ Below w.heap.size w w' := by
  have hle := h.le
  have hmax := h.max
  by_cases hn : n ≤ 1048576
  · have hdraw := drawPartsApart_any A n c zs w h
    clear h
    go_enter Try.func14, Try.ntmps14
    go_wp2_with fail
    refine hdraw.mono ?_
    rintro e w1 ⟨⟨A1, n1, c1, xs⟩, rfl, hown, hpto, hn1, hb⟩
    clear hdraw
    simp only [SV.v] at hown hn1 ⊢
    obtain ⟨hsl, -, hnil, -⟩ := Own.okv encP hown
    have hpt := hpto.ok
    have hlx := hpto.lt
    have hA1 : ∀ b o, A1 = some ⟨b, o, none⟩ → b < w1.heap.size := fun b o e => by
      obtain ⟨A, c, hv, -, -, hf⟩ := hown.sl encP
      injection hv with e1
      exact (hf b o (e1.symm.trans e)).2
    clear hown hpto
    simp only [] at hsl hnil
    have HL := Lib.hid hsl.len
    have hle1 := hsl.le
    have hmax1 := hsl.max
    obtain ⟨hn1a, hn1b⟩ := hn1
    have hI := fun W h h9 => partsValid_any A1 n1 c1 xs W h h9
    have hS := fun W h h9 => specPartsValid_any A1 n1 c1 xs W h h9
    have hOK := Lib.hid (show partsOk xs = partsOk xs from rfl)
    cases hv : partsOk xs
    · simp only [hv] at hI hS
      skip
      go_wp2_with fail; refine (hI _ hsl hpt).mono ?_; rintro e w2 ⟨rfl, hbw2⟩
      have hsl2 := hsl.below hbw2
      have hpt2 := hpt.below hbw2
      go_wp2_with fail; refine (hS _ hsl2 hpt2).mono ?_; rintro e w3 ⟨rfl, hbw3⟩
      have hsl3 := hsl2.below hbw3
      have hpt3 := hpt2.below hbw3
      go_wp2_with fail; refine (hS _ hsl3 hpt3).mono ?_; rintro e w4 ⟨rfl, hbw4⟩
      go_wp2_with fail; refine (alive_any _).mono ?_; rintro e w5 ⟨rfl, hbw5⟩
      go_wp2
      go_ret
      exact ⟨rfl, thn (thn (thn (thn hb hbw2) hbw3) hbw4) hbw5⟩
    · have HV := Lib.hid hv
      simp only [hv] at hI hS
      clear hv hOK
      skip
      go_wp2_with fail; refine (hI _ hsl hpt).mono ?_; rintro e w2 ⟨rfl, hbw2⟩
      have hsl2 := hsl.below hbw2
      have hpt2 := hpt.below hbw2
      go_wp2_with fail; refine (hS _ hsl2 hpt2).mono ?_; rintro e w3 ⟨rfl, hbw3⟩
      have hsl3 := hsl2.below hbw3
      have hpt3 := hpt2.below hbw3
      go_wp2_with fail; refine (hS _ hsl3 hpt3).mono ?_; rintro e w4 ⟨rfl, hbw4⟩
      have hsl4 := hsl3.below hbw4
      have hpt4 := hpt3.below hbw4
      have hb4 := thn (thn (thn hb hbw2) hbw3) hbw4
      have own0 : Own (w4.alloc (.cells #[] 56)) w4.heap.size 56 2 eP _ ([] : List PartV) := Own.of_blk (Blk.new w4 56 #[]) (Nat.le_refl _) encP (by simp [maxLen])
      have hb5 := alo hb4 (.cells #[] 56)
      have hsl5 := hsl4.below (alo (Below.refl _ _) (.cells #[] 56))
      have hpt5 := hpt4.below (alo (Below.refl _ _) (.cells #[] 56))
      have hw4 := hb4.size
      clear hI hS hsl hsl2 hsl3 hsl4 hpt hpt2 hpt3 hpt4 hb
      have hz14 : w1.heap.size ≤ w4.heap.size := Nat.le_trans hbw2.size (Nat.le_trans hbw3.size hbw4.size)
      replace hA1 := fun b o e => Nat.lt_of_lt_of_le (hA1 b o e) hz14
      replace hlx := hlx.mono hz14
      clear hz14 hbw2 hbw3 hbw4
      obtain ⟨G, hG⟩ : ∃ G, w4.heap.size = G := ⟨_, rfl⟩
      go_wp2_with fail
      rw [hG] at own0 hw4
      simp only [hG] at hA1 hlx
      have hGs : G ≤ (w4.alloc (.cells #[] 56)).heap.size := by rw [← hG]; simp
      replace hlx := Lib.hid hlx
      replace hA1 := Lib.hid (show ∀ b o, A1 = some ⟨b, o, none⟩ → b < G from hA1)
      go_loopg [4, 5] n1 (fun gg s4 s5 wr => ∃ (kk : Nat) (v4 : Value) (ys : List PartV), kk ≤ n1 ∧ n1 - kk ≤ gg ∧ s4 = v4 ∧ s5 = .int .i64 kk ∧ Aside (Below w.heap.size w wr) ∧ Aside (Own wr G 56 2 eP v4 ys) ∧ Aside (Calm ys xs kk) ∧ Aside (Sl wr 2 eP A1 n1 c1 xs) ∧ Aside (PtOk wr xs) ∧ Aside (PtOwn wr G ys) ∧ Aside (G ≤ wr.heap.size))
      case atStart => exact ⟨0, _, [], Nat.zero_le _, by omega, by subst hG; rfl, rfl, (show Aside _ from hb5), (show Aside _ from own0), (show Aside _ from ⟨rfl, fun i y hy => by cases hy⟩), (show Aside _ from hsl5), (show Aside _ from hpt5), (show Aside _ from fun x hx => by cases hx), (show Aside _ from hGs)⟩
      case round =>
        obtain ⟨kk, v4, ys, hkk, hg, hv4, rfl, BW, OW, CC9, SS, PX, PY, GG⟩ := hrel
        replace hv4 := hv4.symm
        subst hv4
        clear hb5 own0 hsl5 hpt5
        by_cases hlt : kk < n1
        · have hltz : (kk : Int) < (n1 : Int) := by omega
          obtain ⟨b1, o1, rfl, x, hx, hc⟩ := SS.out.nth hlt (Below.refl _ _)
          have q0 := hc 0 _ rfl
          have q1 := hc 1 _ rfl
          have HX := Lib.hid hx
          have hxs := PX.out x (List.mem_of_getElem? hx)
          clear hc hx
          obtain ⟨⟨A2, n2, c2, x2⟩, m2⟩ := x
          simp only [eP, SV.v, Nat.add_zero] at q0 q1 hxs
          have B6 := Blk.new wr 56 #[.slice none 0 0, .int .i64 m2]
          have hb6 := alo BW.out (.cells #[.slice none 0 0, .int .i64 m2] 56)
          have own6 := OW.out.alloc (.cells #[.slice none 0 0, .int .i64 m2] 56)
          have sl6 := SS.out.below (alo (Below.refl _ _) (.cells #[.slice none 0 0, .int .i64 m2] 56))
          have px6 := PX.out.below (alo (Below.refl _ _) (.cells #[.slice none 0 0, .int .i64 m2] 56))
          have py6 := PY.out.below (alo (Below.refl _ _) (.cells #[.slice none 0 0, .int .i64 m2] 56))
          have hq0 := (World.cell?_of_block (w := wr) (Below.heap_alloc wr (.cells #[.slice none 0 0, .int .i64 m2] 56) b1 (World.block_lt_of_cell? _ _ q0))).trans q0
          have LYo := PY.out.lt
          have hv4g : v4.ownBlock ≠ some wr.heap.size := fun e => by have := OW.out.lt _ e; omega
          have GGo := GG.out
          have CCo := CC9
          have hzr : (wr.alloc (.cells #[.slice none 0 0, .int .i64 m2] 56)).heap.size = wr.heap.size + 1 := by simp
          have hn12 : n2 ≤ 12 := by have h1 := partsOk_win HV.out (List.mem_of_getElem? HX.out); have h2 := hxs.len; simp only [] at h1 h2; omega
          have hwg : w.heap.size ≤ wr.heap.size := BW.out.size
          clear BW OW SS PX PY GG
          go_wp2_with fail
          generalize wr.alloc (.cells #[.slice none 0 0, .int .i64 m2] 56) = wn at *
          generalize wr.heap.size = g6 at *
          go_loopg [7] n2 (fun gg s7 wr => ∃ (jj : Nat) (v7 : Value) (zs : List Win), jj ≤ n2 ∧ n2 - jj ≤ gg ∧ s7 = .int .i64 jj ∧ zs.length = jj ∧ Aside (zs = (x2.take jj).map calmW) ∧ Aside (Below w.heap.size w wr) ∧ Aside (Blk wr g6 56 #[v7, .int .i64 m2]) ∧ Aside (Own wr g6 35 3 Win.cells v7 zs) ∧ Aside (Own wr G 56 2 eP v4 ys) ∧ Aside (Sl wr 2 eP (some ⟨b1, o1, none⟩) n1 c1 xs) ∧ Aside (PtOk wr xs) ∧ Aside (PtOwn wr G ys) ∧ Aside (g6 < wr.heap.size))
          case atStart => exact ⟨0, .slice none 0 0, [], Nat.zero_le _, by omega, rfl, rfl, (show Aside _ from (rfl : ([] : List Win) = (x2.take 0).map calmW)), (show Aside _ from hb6), (show Aside _ from B6), (show Aside _ from Own.nil), (show Aside _ from own6), (show Aside _ from sl6), (show Aside _ from px6), (show Aside _ from py6), (show Aside _ from (by omega : g6 < wn.heap.size))⟩
          case round =>
            obtain ⟨jj, v7, zs, hjj, hgj, rfl, hzl, ZZ, BW, BB, O7, OW, SS, PX, PY, GG⟩ := hrel
            clear hb6 B6 own6 sl6 px6 py6 hxs q0 q1 hq0 hzr
            have B6 := BB.out
            by_cases hltj : jj < n2
            · have hltjz : (jj : Int) < (n2 : Int) := by omega
              obtain ⟨bq, oq, eq, x', hx', hc⟩ := SS.out.nth hlt (Below.refl _ _)
              injection eq with eq
              injection eq with e1 e2
              subst e1 e2
              obtain rfl := Option.some.inj (hx'.symm.trans HX.out)
              have q0 := hc 0 _ rfl
              simp only [eP, SV.v, Nat.add_zero] at q0
              have hwx := PX.out _ (List.mem_of_getElem? HX.out)
              simp only [] at hwx
              obtain ⟨b2, o2, rfl, y, hy, hc2⟩ := hwx.nth hltj (Below.refl _ _)
              have r0 := hc2 0 _ rfl
              have r1 := hc2 1 _ rfl
              have HY := Lib.hid (calm_take hy)
              obtain ⟨yb, yz, yw⟩ := y
              simp only [Win.cells, Nat.add_zero] at r0 r1 HY
              have qa := fun W (h : Below wr.heap.size wr W) => (h.cell (p := ⟨b1, o1 + kk * 2, none⟩) (World.block_lt_of_cell? _ _ q0)).trans q0
              have qb := fun W (h : Below wr.heap.size wr W) => (h.cell (p := ⟨b2, o2 + jj * 3, none⟩) (World.block_lt_of_cell? _ _ r0)).trans r0
              have qc := fun W (h : Below wr.heap.size wr W) => (h.cell (p := ⟨b2, o2 + jj * 3 + 1, none⟩) (World.block_lt_of_cell? _ _ r1)).trans r1
              clear hc hc2 hy hwx hx' r0 r1
              go_wp2_with fail
              refine region_rel (by kernel_rfl) (fun iz vz wz => relCalm g6 n1 c1 kk jj n2 c2 b1 o1 b2 o2 v7 yb yz iz vz wz) (fun wz wz' => Below wz.heap.size wz wz') (fun _ wz' => Below wr.heap.size wr wz') 22 _ wr (by kernel_rfl) (by kernel_rfl) (fun iz vz wz wz' h hb => relCalm_below g6 n1 c1 kk jj n2 c2 b1 o1 b2 o2 v7 yb yz h hb) (fun wz => Below.refl _ _) (fun _ _ _ _ h => h) (show Below wr.heap.size wr wr.drew from (Below.refl _ _).drew) ?_ ?_
              · intro i o him ho a wa cc hcc hJ hfr hdep
                have B6 := B6.below hJ
                have c_qa := qa wa hJ
                have c_qb := qb wa hJ
                have c_qc := qc wa hJ
                have cB6_0 := B6.c0; have cB6_1 := B6.c1; have fB6 := B6.frozen
                match i, ho, him with
                | 0, ho, _ =>
                  injection ho with ho
                  subst ho
                  have h6 := hfr.2.2 6 (drawFrM_spec (by kernel_rfl))
                  clear hdep hfr
                  simp only [Array.getD_eq_getD_getElem?] at h6
                  refine .inl ⟨rfl, ?_⟩
                  unfold Oper.wp
                  go_simp
                  exact LeavesR.val rfl (Below.refl _ _) hJ
                | 1, ho, _ =>
                  injection ho with ho
                  subst ho
                  have h45 := hdep ⟨0, .data⟩ (by simp) (by kernel_rfl) _ 45 rfl rfl
                  clear hdep hfr
                  replace h45 : a.tmps.getD 45 undef = .pointer (some ⟨g6, 0, none⟩) := h45
                  simp only [Array.getD_eq_getD_getElem?] at h45
                  refine .inl ⟨rfl, ?_⟩
                  unfold Oper.wp
                  go_simp
                  exact LeavesR.val rfl (Below.refl _ _) hJ
                | 2, ho, _ =>
                  injection ho with ho
                  subst ho
                  have h3 := hfr.2.2 3 (drawFrM_spec (by kernel_rfl))
                  clear hdep hfr
                  simp only [Array.getD_eq_getD_getElem?] at h3
                  refine .inl ⟨rfl, ?_⟩
                  unfold Oper.wp
                  go_simp
                  exact LeavesR.val rfl (Below.refl _ _) hJ
                | 3, ho, _ =>
                  injection ho with ho
                  subst ho
                  have h5 := hfr.2.2 5 (drawFrM_spec (by kernel_rfl))
                  clear hdep hfr
                  simp only [Array.getD_eq_getD_getElem?] at h5
                  refine .inl ⟨rfl, ?_⟩
                  unfold Oper.wp
                  go_simp
                  exact LeavesR.val rfl (Below.refl _ _) hJ
                | 4, ho, _ =>
                  injection ho with ho
                  subst ho
                  have h47 := hdep ⟨2, .data⟩ (by simp) (by kernel_rfl) _ 47 rfl rfl
                  have h48 := hdep ⟨3, .data⟩ (by simp) (by kernel_rfl) _ 48 rfl rfl
                  clear hdep hfr
                  replace h47 : a.tmps.getD 47 undef = .slice (some ⟨b1, o1, none⟩) n1 c1 := h47
                  simp only [Array.getD_eq_getD_getElem?] at h47
                  replace h48 : a.tmps.getD 48 undef = .int .i64 kk := h48
                  simp only [Array.getD_eq_getD_getElem?] at h48
                  refine .inl ⟨rfl, ?_⟩
                  unfold Oper.wp
                  go_simp
                  exact LeavesR.val rfl (Below.refl _ _) hJ
                | 5, ho, _ =>
                  injection ho with ho
                  subst ho
                  have h49 := hdep ⟨4, .data⟩ (by simp) (by kernel_rfl) _ 49 rfl rfl
                  clear hdep hfr
                  replace h49 : a.tmps.getD 49 undef = .pointer (some ⟨b1, o1 + kk * 2, none⟩) := h49
                  simp only [Array.getD_eq_getD_getElem?] at h49
                  refine .inl ⟨rfl, ?_⟩
                  unfold Oper.wp
                  go_simp
                  exact LeavesR.val rfl (Below.refl _ _) hJ
                | 6, ho, _ =>
                  injection ho with ho
                  subst ho
                  have h50 := hdep ⟨5, .data⟩ (by simp) (by kernel_rfl) _ 50 rfl rfl
                  clear hdep hfr
                  replace h50 : a.tmps.getD 50 undef = .pointer (some ⟨b1, o1 + kk * 2, none⟩) := h50
                  simp only [Array.getD_eq_getD_getElem?] at h50
                  refine .inl ⟨rfl, ?_⟩
                  unfold Oper.wp
                  go_simp
                  exact LeavesR.val rfl (Below.refl _ _) hJ
                | 7, ho, _ =>
                  injection ho with ho
                  subst ho
                  have h7 := hfr.2.2 7 (drawFrM_spec (by kernel_rfl))
                  clear hdep hfr
                  simp only [Array.getD_eq_getD_getElem?] at h7
                  refine .inl ⟨rfl, ?_⟩
                  unfold Oper.wp
                  go_simp
                  exact LeavesR.val rfl (Below.refl _ _) hJ
                | 8, ho, _ =>
                  injection ho with ho
                  subst ho
                  have h51 := hdep ⟨6, .data⟩ (by simp) (by kernel_rfl) _ 51 rfl rfl
                  have h52 := hdep ⟨7, .data⟩ (by simp) (by kernel_rfl) _ 52 rfl rfl
                  clear hdep hfr
                  replace h51 : a.tmps.getD 51 undef = .slice (some ⟨b2, o2, none⟩) n2 c2 := h51
                  simp only [Array.getD_eq_getD_getElem?] at h51
                  replace h52 : a.tmps.getD 52 undef = .int .i64 jj := h52
                  simp only [Array.getD_eq_getD_getElem?] at h52
                  refine .inl ⟨rfl, ?_⟩
                  unfold Oper.wp
                  go_simp
                  exact LeavesR.val rfl (Below.refl _ _) hJ
                | 9, ho, _ =>
                  injection ho with ho
                  subst ho
                  have h53 := hdep ⟨8, .data⟩ (by simp) (by kernel_rfl) _ 53 rfl rfl
                  clear hdep hfr
                  replace h53 : a.tmps.getD 53 undef = .pointer (some ⟨b2, o2 + jj * 3, none⟩) := h53
                  simp only [Array.getD_eq_getD_getElem?] at h53
                  refine .inl ⟨rfl, ?_⟩
                  unfold Oper.wp
                  go_simp
                  exact LeavesR.val rfl (Below.refl _ _) hJ
                | 10, ho, _ =>
                  injection ho with ho
                  subst ho
                  have h54 := hdep ⟨9, .data⟩ (by simp) (by kernel_rfl) _ 54 rfl rfl
                  clear hdep hfr
                  replace h54 : a.tmps.getD 54 undef = .pointer (some ⟨b2, o2 + jj * 3, none⟩) := h54
                  simp only [Array.getD_eq_getD_getElem?] at h54
                  refine .inl ⟨rfl, ?_⟩
                  unfold Oper.wp
                  go_simp
                  exact LeavesR.val rfl (Below.refl _ _) hJ
                | 11, ho, _ =>
                  injection ho with ho
                  subst ho
                  have h3 := hfr.2.2 3 (drawFrM_spec (by kernel_rfl))
                  clear hdep hfr
                  simp only [Array.getD_eq_getD_getElem?] at h3
                  refine .inl ⟨rfl, ?_⟩
                  unfold Oper.wp
                  go_simp
                  exact LeavesR.val rfl (Below.refl _ _) hJ
                | 12, ho, _ =>
                  injection ho with ho
                  subst ho
                  have h5 := hfr.2.2 5 (drawFrM_spec (by kernel_rfl))
                  clear hdep hfr
                  simp only [Array.getD_eq_getD_getElem?] at h5
                  refine .inl ⟨rfl, ?_⟩
                  unfold Oper.wp
                  go_simp
                  exact LeavesR.val rfl (Below.refl _ _) hJ
                | 13, ho, _ =>
                  injection ho with ho
                  subst ho
                  have h56 := hdep ⟨11, .data⟩ (by simp) (by kernel_rfl) _ 56 rfl rfl
                  have h57 := hdep ⟨12, .data⟩ (by simp) (by kernel_rfl) _ 57 rfl rfl
                  clear hdep hfr
                  replace h56 : a.tmps.getD 56 undef = .slice (some ⟨b1, o1, none⟩) n1 c1 := h56
                  simp only [Array.getD_eq_getD_getElem?] at h56
                  replace h57 : a.tmps.getD 57 undef = .int .i64 kk := h57
                  simp only [Array.getD_eq_getD_getElem?] at h57
                  refine .inl ⟨rfl, ?_⟩
                  unfold Oper.wp
                  go_simp
                  exact LeavesR.val rfl (Below.refl _ _) hJ
                | 14, ho, _ =>
                  injection ho with ho
                  subst ho
                  have h58 := hdep ⟨13, .data⟩ (by simp) (by kernel_rfl) _ 58 rfl rfl
                  clear hdep hfr
                  replace h58 : a.tmps.getD 58 undef = .pointer (some ⟨b1, o1 + kk * 2, none⟩) := h58
                  simp only [Array.getD_eq_getD_getElem?] at h58
                  refine .inl ⟨rfl, ?_⟩
                  unfold Oper.wp
                  go_simp
                  exact LeavesR.val rfl (Below.refl _ _) hJ
                | 15, ho, _ =>
                  injection ho with ho
                  subst ho
                  have h59 := hdep ⟨14, .data⟩ (by simp) (by kernel_rfl) _ 59 rfl rfl
                  clear hdep hfr
                  replace h59 : a.tmps.getD 59 undef = .pointer (some ⟨b1, o1 + kk * 2, none⟩) := h59
                  simp only [Array.getD_eq_getD_getElem?] at h59
                  refine .inl ⟨rfl, ?_⟩
                  unfold Oper.wp
                  go_simp
                  exact LeavesR.val rfl (Below.refl _ _) hJ
                | 16, ho, _ =>
                  injection ho with ho
                  subst ho
                  have h7 := hfr.2.2 7 (drawFrM_spec (by kernel_rfl))
                  clear hdep hfr
                  simp only [Array.getD_eq_getD_getElem?] at h7
                  refine .inl ⟨rfl, ?_⟩
                  unfold Oper.wp
                  go_simp
                  exact LeavesR.val rfl (Below.refl _ _) hJ
                | 17, ho, _ =>
                  injection ho with ho
                  subst ho
                  have h60 := hdep ⟨15, .data⟩ (by simp) (by kernel_rfl) _ 60 rfl rfl
                  have h61 := hdep ⟨16, .data⟩ (by simp) (by kernel_rfl) _ 61 rfl rfl
                  clear hdep hfr
                  replace h60 : a.tmps.getD 60 undef = .slice (some ⟨b2, o2, none⟩) n2 c2 := h60
                  simp only [Array.getD_eq_getD_getElem?] at h60
                  replace h61 : a.tmps.getD 61 undef = .int .i64 jj := h61
                  simp only [Array.getD_eq_getD_getElem?] at h61
                  refine .inl ⟨rfl, ?_⟩
                  unfold Oper.wp
                  go_simp
                  exact LeavesR.val rfl (Below.refl _ _) hJ
                | 18, ho, _ =>
                  injection ho with ho
                  subst ho
                  have h62 := hdep ⟨17, .data⟩ (by simp) (by kernel_rfl) _ 62 rfl rfl
                  clear hdep hfr
                  replace h62 : a.tmps.getD 62 undef = .pointer (some ⟨b2, o2 + jj * 3, none⟩) := h62
                  simp only [Array.getD_eq_getD_getElem?] at h62
                  refine .inl ⟨rfl, ?_⟩
                  unfold Oper.wp
                  go_simp
                  exact LeavesR.val rfl (Below.refl _ _) hJ
                | 19, ho, _ =>
                  injection ho with ho
                  subst ho
                  have h63 := hdep ⟨18, .data⟩ (by simp) (by kernel_rfl) _ 63 rfl rfl
                  clear hdep hfr
                  replace h63 : a.tmps.getD 63 undef = .pointer (some ⟨b2, o2 + jj * 3 + 1, none⟩) := h63
                  simp only [Array.getD_eq_getD_getElem?] at h63
                  refine .inl ⟨rfl, ?_⟩
                  unfold Oper.wp
                  go_simp
                  exact LeavesR.val rfl (Below.refl _ _) hJ
                | 20, ho, _ =>
                  injection ho with ho
                  subst ho
                  have h55 := hdep ⟨10, .data⟩ (by simp) (by kernel_rfl) _ 55 rfl rfl
                  have h64 := hdep ⟨19, .data⟩ (by simp) (by kernel_rfl) _ 64 rfl rfl
                  clear hdep hfr
                  replace h55 : a.tmps.getD 55 undef = .int .i64 yb := h55
                  simp only [Array.getD_eq_getD_getElem?] at h55
                  replace h64 : a.tmps.getD 64 undef = .int .i64 yz := h64
                  simp only [Array.getD_eq_getD_getElem?] at h64
                  refine .inl ⟨rfl, ?_⟩
                  unfold Oper.wp
                  go_simp
                  exact LeavesR.val rfl (Below.refl _ _) hJ
                | 21, ho, _ =>
                  injection ho with ho
                  subst ho
                  have h65 := hdep ⟨20, .data⟩ (by simp) (by kernel_rfl) _ 65 rfl rfl
                  clear hdep hfr
                  replace h65 : a.tmps.getD 65 undef = .agg #[.int .i64 yb, .int .i64 yz, .bool false] := h65
                  simp only [Array.getD_eq_getD_getElem?] at h65
                  refine .inl ⟨rfl, ?_⟩
                  unfold Oper.wp
                  go_simp
                  exact LeavesR.val ⟨_, rfl, Blk.new wa _ _⟩ (alo (Below.refl _ _) _) (alo hJ _)
                | n + 22, _, him => exact absurd him (by omega)
              · intro V w9 hV hJ
                have hV0 := hV 0 _ 45 (by decide) rfl rfl
                replace hV0 : V 0 = .pointer (some ⟨g6, 0, none⟩) := hV0
                have hV1 := hV 1 _ 46 (by decide) rfl rfl
                replace hV1 : V 1 = v7 := hV1
                have hV2 := hV 2 _ 47 (by decide) rfl rfl
                replace hV2 : V 2 = .slice (some ⟨b1, o1, none⟩) n1 c1 := hV2
                have hV3 := hV 3 _ 48 (by decide) rfl rfl
                replace hV3 : V 3 = .int .i64 kk := hV3
                have hV4 := hV 4 _ 49 (by decide) rfl rfl
                replace hV4 : V 4 = .pointer (some ⟨b1, o1 + kk * 2, none⟩) := hV4
                have hV5 := hV 5 _ 50 (by decide) rfl rfl
                replace hV5 : V 5 = .pointer (some ⟨b1, o1 + kk * 2, none⟩) := hV5
                have hV6 := hV 6 _ 51 (by decide) rfl rfl
                replace hV6 : V 6 = .slice (some ⟨b2, o2, none⟩) n2 c2 := hV6
                have hV7 := hV 7 _ 52 (by decide) rfl rfl
                replace hV7 : V 7 = .int .i64 jj := hV7
                have hV8 := hV 8 _ 53 (by decide) rfl rfl
                replace hV8 : V 8 = .pointer (some ⟨b2, o2 + jj * 3, none⟩) := hV8
                have hV9 := hV 9 _ 54 (by decide) rfl rfl
                replace hV9 : V 9 = .pointer (some ⟨b2, o2 + jj * 3, none⟩) := hV9
                have hV10 := hV 10 _ 55 (by decide) rfl rfl
                replace hV10 : V 10 = .int .i64 yb := hV10
                have hV11 := hV 11 _ 56 (by decide) rfl rfl
                replace hV11 : V 11 = .slice (some ⟨b1, o1, none⟩) n1 c1 := hV11
                have hV12 := hV 12 _ 57 (by decide) rfl rfl
                replace hV12 : V 12 = .int .i64 kk := hV12
                have hV13 := hV 13 _ 58 (by decide) rfl rfl
                replace hV13 : V 13 = .pointer (some ⟨b1, o1 + kk * 2, none⟩) := hV13
                have hV14 := hV 14 _ 59 (by decide) rfl rfl
                replace hV14 : V 14 = .pointer (some ⟨b1, o1 + kk * 2, none⟩) := hV14
                have hV15 := hV 15 _ 60 (by decide) rfl rfl
                replace hV15 : V 15 = .slice (some ⟨b2, o2, none⟩) n2 c2 := hV15
                have hV16 := hV 16 _ 61 (by decide) rfl rfl
                replace hV16 : V 16 = .int .i64 jj := hV16
                have hV17 := hV 17 _ 62 (by decide) rfl rfl
                replace hV17 : V 17 = .pointer (some ⟨b2, o2 + jj * 3, none⟩) := hV17
                have hV18 := hV 18 _ 63 (by decide) rfl rfl
                replace hV18 : V 18 = .pointer (some ⟨b2, o2 + jj * 3 + 1, none⟩) := hV18
                have hV19 := hV 19 _ 64 (by decide) rfl rfl
                replace hV19 : V 19 = .int .i64 yz := hV19
                have hV20 := hV 20 _ 65 (by decide) rfl rfl
                replace hV20 : V 20 = .agg #[.int .i64 yb, .int .i64 yz, .bool false] := hV20
                obtain ⟨gE66, hV21, NE66⟩ := hV 21 _ 66 (by decide) rfl rfl
                clear hV
                simp only [puts, List.drop, Act.put, List.getElem?_toArray, List.getElem?_cons_succ, List.getElem?_cons_zero, List.setIfInBounds_toArray, List.set_cons_succ, List.set_cons_zero, hV0, hV1, hV2, hV3, hV4, hV5, hV6, hV7, hV8, hV9, hV10, hV11, hV12, hV13, hV14, hV15, hV16, hV17, hV18, hV19, hV20, hV21]
                clear hV0 hV1 hV2 hV3 hV4 hV5 hV6 hV7 hV8 hV9 hV10 hV11 hV12 hV13 hV14 hV15 hV16 hV17 hV18 hV19 hV20 hV21
                replace B6 := B6.below hJ
                have c_qa := qa w9 hJ
                have c_qb := qb w9 hJ
                have c_qc := qc w9 hJ
                clear qa qb qc c_qa c_qb c_qc q0
                have own7 := O7.out.below hJ
                have own1 := OW.out.below hJ
                have sl1 := SS.out.below hJ
                have px1 := PX.out.below hJ
                have py1 := PY.out.below hJ
                have hb9 := thn BW.out hJ
                have hgs1 : g6 < w9.heap.size := Nat.lt_of_lt_of_le GG.out hJ.size
                have hgs : g6 ≤ w9.heap.size := Nat.le_trans (Nat.le_of_lt GG.out) hJ.size
                have src := Sl.of_blk (xs := [(⟨yb, yz, false⟩ : Win)]) NE66 encW (by simp)
                have hlen : zs.length + 1 ≤ 100000000 := by omega
                clear BB O7 OW SS PX PY BW GG
                have y0 := B6.c0
                have y1 := B6.frozen
                go_wp2_with (at_builtin; (refine app_own rfl _ _ appWin rfl encW g6 v7 zs rfl own7 _ 1 1 [(⟨yb, yz, false⟩ : Win)] rfl (fun e => by cases e) src hlen hgs ?_); intro v5 w5 own5 hg5; have B6b := B6.appO hg5 (own7.neBlk B6 (by decide)); have z0 := B6b.c0; have z1 := B6b.frozen; have own1b := own1.kept hg5 (Own.ne2 own1 own7 (by decide)); have sl1b := sl1.app own7 hg5 (fun b o e => Nat.lt_of_lt_of_le (hA1.out b o e) GGo); have px1b := px1.appG (hlx.out.mono GGo) own7 hg5; have py1b := py1.appG LYo own7 hg5; have hbb := belowApp hb9 own7 hg5 hwg (Nat.le_trans hwg hgs); have hg5s := hg5.size; clear hg5 own7 own1 sl1 px1 py1 B6 hb9 src; obtain ⟨A8, c8, hv5, -, -, -⟩ := own5.sl encW; rw [List.length_append, List.length_singleton, hzl] at hv5; subst hv5)
                have hsz : g6 < (w5.setCell ⟨g6, 0, none⟩ (.slice A8 (jj + 1) c8)).heap.size := by simp [World.setCell]; omega
                have hzz : zs ++ [(⟨yb, yz, false⟩ : Win)] = (x2.take (jj + 1)).map calmW := by rw [ZZ.out]; exact HY.out
                have hzl2 : (zs ++ [(⟨yb, yz, false⟩ : Win)]).length = jj + 1 := by rw [List.length_append, List.length_singleton, hzl]
                have slc := sl1b.keep (w' := w5.setCell ⟨g6, 0, none⟩ (.slice A8 (jj + 1) c8)) (by simp [World.setCell]) (fun b o e => Below.heap_setCell _ _ _ _ (by have := hA1.out b o e; simp only []; omega))
                go_roundg (n2 - (jj + 1))
                case measure => omega
                case rel => exact ⟨jj + 1, _, _, by omega, by omega, by go_num, hzl2, (show Aside _ from hzz), (show Aside _ from hbb.setCell (p := ⟨g6, 0, none⟩) hwg _), (show Aside _ from B6b.set_ 0 _), (show Aside _ from own5.farNe (p := ⟨g6, 0, none⟩) (own5.neBlk B6b (by decide)) _), (show Aside _ from own1b.farNe (p := ⟨g6, 0, none⟩) hv4g _), (show Aside _ from slc), (show Aside _ from px1b.setG (hlx.out.mono GGo) _), (show Aside _ from py1b.far B6b _), (show Aside _ from hsz)⟩
            · obtain rfl : jj = n2 := by omega
              have hltjz : ¬ (jj : Int) < (jj : Int) := by omega
              clear hltj
              obtain ⟨bq, oq, eq, x', hx', hc⟩ := SS.out.nth hlt (Below.refl _ _)
              injection eq with eq
              injection eq with e1 e2
              subst e1 e2
              obtain rfl := Option.some.inj (hx'.symm.trans HX.out)
              have q0 := hc 0 _ rfl
              simp only [eP, SV.v, Nat.add_zero] at q0
              have hxl := (PX.out _ (List.mem_of_getElem? HX.out)).len
              simp only [] at hxl
              have hzz : zs = x2.map calmW := by rw [ZZ.out, ← hxl, List.take_length]
              obtain ⟨A8, c8, hv7, -, -, -⟩ := O7.out.sl encW
              subst hv7
              rw [hzl] at *
              have y0 := B6.c0
              have y1 := B6.c1
              have src := Sl.of_blk (xs := [((⟨A8, jj, c8, zs⟩, m2) : PartV)]) (Blk.new wr 56 #[.slice A8 jj c8, .int .i64 m2]) encP (by simp)
              have own1 := OW.out.alloc (.cells #[.slice A8 jj c8, .int .i64 m2] 56)
              have own7 := (O7.out.low GGo).alloc (.cells #[.slice A8 jj c8, .int .i64 m2] 56)
              have hbq := alo (Below.refl wr.heap.size wr) (.cells #[.slice A8 jj c8, .int .i64 m2] 56)
              have sl1 := SS.out.below hbq
              have px1 := PX.out.below hbq
              have py1 := PY.out.below hbq
              have hb9 := thn BW.out hbq
              have hyl : ys.length = kk := CC9.out.1
              have hlen : ys.length + 1 ≤ 100000000 := by omega
              have hgs := Nat.le_trans (Nat.le_trans GGo (Nat.le_of_lt GG.out)) hbq.size
              have hwG : w.heap.size ≤ G := hw4
              clear hc hx' BB OW O7 SS PX PY BW ZZ
              go_wp2_with (at_builtin; (refine app_own rfl _ _ appPart rfl encP G v4 ys rfl own1 _ 1 1 [((⟨A8, jj, c8, zs⟩, m2) : PartV)] rfl (fun e => by cases e) src hlen hgs ?_); intro v5 w5 own5 hg5; have own7b := own7.kept hg5 (Own.ne2 own7 own1 (by decide)); have sl1b := sl1.app own1 hg5 hA1.out; have px1b := px1.appG hlx.out own1 hg5; have py1b := py1.app own1 hg5; have hbb := belowApp hb9 own1 hg5 hwG (Nat.le_trans hwG hgs); have hg5s := hg5.size)
              go_roundg (n1 - (kk + 1))
              case measure => omega
              case rel => exact ⟨kk + 1, _, ys ++ [((⟨A8, jj, c8, zs⟩, m2) : PartV)], by omega, by omega, rfl, by go_num, (show Aside _ from hbb), (show Aside _ from own5), (show Aside _ from CC9.out.add HX.out hzz rfl), (show Aside _ from sl1b), (show Aside _ from px1b), (show Aside _ from py1b.add own7b), (show Aside _ from Nat.le_trans hgs hg5s)⟩
        · have hltz : ¬ (kk : Int) < (n1 : Int) := by omega
          obtain rfl : kk = n1 := by omega
          clear hlt hg hkk
          have hpv := Calm.parts (by rw [HL.out]; exact CC9.out) HV.out
          have hyl : ys.length = kk := CC9.out.1
          have ownY := OW.out
          obtain ⟨A5, c5, hv5, -, -, -⟩ := ownY.sl encP
          subst hv5
          have slY := (ownY.okv encP).sl
          have ptY := PY.out.ok
          simp only [hyl] at slY
          have hp1 := fun W h => partsApart_any A1 1 c1 (xs.take 1) (partsOk_take xs 1 HV.out) (noClash_one xs) W ((SS.out.take_ 1 hn1a).below h) (PtOk.below (fun x hx => PX.out x (List.mem_of_mem_take hx)) h)
          have hp2 := fun W h => partsApart_any A5 kk c5 ys hpv.1 hpv.2 W (slY.below h) (ptY.below h)
          have hcz : (1 : Int) ≤ (c1 : Int) := by omega
          have hbw := BW.out
          clear CC9 OW SS PX PY GG hlx hA1 BW hpv
          rw [hyl]
          go_wp2_with fail
          refine (hp1 _ (Below.refl _ _)).mono ?_
          rintro e w5 ⟨rfl, hb5b⟩
          go_wp2_with fail
          refine (hp2 _ hb5b).mono ?_
          rintro e w6 ⟨rfl, hb6b⟩
          go_wp2
          go_ret
          exact ⟨rfl, thn (thn hbw hb5b) hb6b⟩
  · have hnz : 1048576 < (n : Int) := by omega
    clear h
    go_enter Try.func14, Try.ntmps14
    go_wp2
    go_ret
    exact ⟨rfl, Below.refl _ _⟩
end Go.Proofs.Ytmlodhogfejdjaa
