/- LinkRun of impl. -/
import Derived.Test.YtenbpaoelipifaaLinkM
import Derived.Test.YtenbpaoelipifaaLinkTS
import Derived.Deep.RegionHeld3
namespace Go.Proofs.Ytenbpaoelipifaa
set_option linter.unusedVariables false
set_option linter.unusedSimpArgs false
open Go.RowKit

/-- A link and what has arrived, after some ticks. -/
def runS (d : Int) (vs : List Int) (xs : List (Int × Int)) (t : Nat) : List (Int × Int) := match vs[t]? with | some v => (sentL d xs t v).1.2 | none => xs
def runL (d : Int) (vs : List Int) : Nat → List (Int × Int) × List Int
  | 0 => ([], [])
  | t + 1 => ((runS d vs (runL d vs t).1 t).drop (takenL (runS d vs (runL d vs t).1 t) t).length, (runL d vs t).2 ++ takenL (runS d vs (runL d vs t).1 t) t)
def linkRun (d : Int) (vs : List Int) : List Int := if inB d 0 50 && (decide ((vs.length : Int) ≤ 40) && vs.all (fun v => inB v 0 255)) then (runL d vs (vs.length + d.toNat)).2 else []
theorem sentL_len {d : Int} {xs : List (Int × Int)} {t v : Int} (h : xs.length ≤ 20) : (sentL d xs t v).1.2.length ≤ 20 := by
  unfold sentL
  split
  · exact h
  · rename_i hf
    unfold fullL at hf
    simp only [Bool.or_eq_true, decide_eq_true_eq, not_or] at hf
    simp only [List.length_append, List.length_singleton]
    omega
theorem runS_len {d : Int} {vs : List Int} {xs : List (Int × Int)} {t : Nat} (h : xs.length ≤ 20) : (runS d vs xs t).length ≤ 20 := by
  unfold runS
  split
  · exact sentL_len h
  · exact h
theorem runL_len (d : Int) (vs : List Int) : ∀ t, (runL d vs t).1.length ≤ 20 ∧ (runL d vs t).2.length ≤ 20 * t
  | 0 => by simp [runL]
  | t + 1 => by
    have h := runL_len d vs t
    have h1 := runS_len (d := d) (vs := vs) (t := t) h.1
    have h2 := takenL_le (runS d vs (runL d vs t).1 t) t
    simp only [runL, List.length_drop, List.length_append]
    omega
theorem sentL_d (d : Int) (xs : List (Int × Int)) (t v : Int) : (sentL d xs t v).1.1 = d := by
  unfold sentL
  split <;> rfl
theorem runBad_any (n : Int) (w : World) : Calls Try.prog 73 #[.int .i64 n] w fun e w' => .returned (.bool (!inB n 0 255)) = e ∧ Below w.heap.size w w' := by
  go_enter Try.func73, Try.ntmps73
  go_wp2_with (go_at_call 55; refine (isValue_any _ _).mono ?_; rintro e w1 ⟨rfl, rfl⟩)
  go_ret
  exact ⟨rfl, Below.refl _ _⟩
theorem enters_run (args : Array Value) (w : World) : (callFunc 73 args).run Try.prog w = .ok (.enter 73 args) w := enters_of Try.func73 (by kernel_rfl) rfl args w
theorem wsApp {α β : Type} {w w' : World} {base base' E E' k k' : Nat} {enc : α → List Value} {enc' : β → List Value} {s : SV α} {v : Value} {ys : List β} (h : WS w base E k enc s) (h' : Own w base' E' k' enc' v ys) (hE : E ≠ E') (hg : w.grownBy w' v.ownBlock) : WS w' base E k enc s := by
  by_cases hn : 0 < s.n
  · obtain ⟨g, o, cs, e, B, hc⟩ := h.wr hn
    have hne : v.ownBlock ≠ some g := h'.neBlk B hE
    exact h.other hg (fun b o' e' => by
      rw [e] at e'
      injection e' with e'
      injection e' with e1 _
      subst e1
      exact hne)
  · exact ⟨⟨⟨h.ok.sl.len, h.ok.sl.le, h.ok.sl.max, fun h => absurd h hn⟩, h.ok.fresh, h.ok.nil, h.ok.spot⟩, fun h => absurd h hn⟩
set_option maxRecDepth 100000 in
set_option maxHeartbeats 4000000 in
theorem linkRun_any (d : Int) (A : Option Addr) (n c : Nat) (vs : List Int) (w : World) (hs : Sl w 1 eI A n c vs) :
    Calls Try.prog 39 #[.int .i64 d, .slice A n c] w (Post SV.v fun s w' => WS w' w.heap.size 3 1 eI s ∧ s.xs = linkRun d vs ∧ Below w.heap.size w w') := by
  have hle := hs.le
  have hmax := hs.max
  have HL := Lib.hid hs.len
  have hI := fun W => in_any d 0 50 W
  have hC := containsInt (fun x => !inB x 0 255) _ #[] enters_run A n c vs w (fun _ => True) (fun _ _ => trivial) (fun W x _ _ => runBad_any x W) hs
  rw [show (vs.any fun x => !inB x 0 255) = !(vs.all fun v => inB v 0 255) by rw [← any_notH, Bool.not_not]] at hC
  cases h1 : inB d 0 50
  · rw [h1] at hI
    have hz : linkRun d vs = [] := by unfold linkRun; rw [h1]; simp
    rw [hz]
    clear hz
    go_enter Try.func39, Try.ntmps39
    go_wp2_with fail
    refine (hI _).mono ?_; rintro e w' ⟨rfl, rfl⟩
    go_wp2_with fail
    go_ret
    exact ⟨⟨none, 0, 0, []⟩, rfl, WS.nilS, rfl, Below.refl _ _⟩
  · rw [h1] at hI
    by_cases hn : (n : Int) ≤ 40
    · have h2 : decide ((vs.length : Int) ≤ 40) = true := by rw [HL.out]; exact decide_eq_true hn
      cases h3 : vs.all (fun v => inB v 0 255)
      · rw [h3] at hC
        have hz : linkRun d vs = [] := by unfold linkRun; rw [h1, h3]; simp
        rw [hz]
        clear hz
        go_enter Try.func39, Try.ntmps39
        go_wp2_with fail
        refine (hI _).mono ?_; rintro e w' ⟨rfl, rfl⟩
        go_wp2_with fail
        refine hC.mono ?_
        rintro e w1 ⟨rfl, hb1⟩
        go_wp2
        go_ret
        exact ⟨⟨none, 0, 0, []⟩, rfl, WS.nilS, rfl, hb1⟩
      · rw [h3] at hC
        have hz : linkRun d vs = (runL d vs (n + d.toNat)).2 := by unfold linkRun; rw [h1, h2, h3, HL.out]; rfl
        rw [hz]
        clear hz h2 h3
        have hd := inB_true.1 h1
        clear h1
        obtain ⟨hd0, hd1⟩ := hd
        obtain ⟨D, rfl⟩ : ∃ D : Nat, d = (D : Int) := ⟨d.toNat, by omega⟩
        have hn40 : n ≤ 40 := by omega
        have hd50 : D ≤ 50 := by omega
        simp only [Int.toNat_natCast]
        obtain ⟨M, hM⟩ : ∃ M, n + D = M := ⟨_, rfl⟩
        rw [hM]
        have hM90 : M ≤ 90 := by omega
        have hsum : (n : Int) + (D : Int) = (M : Int) := by omega
        replace hM := Lib.hid hM
        go_enter Try.func39, Try.ntmps39
        go_wp2_with fail
        refine (hI _).mono ?_; rintro e w' ⟨rfl, rfl⟩
        go_wp2_with fail
        refine hC.mono ?_
        rintro e w1 ⟨rfl, hb1⟩
        have B5 := Blk.new w1 29 #[.int .i64 (D : Int), .slice none 0 0]
        have hb2 := alo hb1 (.cells #[.int .i64 (D : Int), .slice none 0 0] 29)
        have hw1 := hb1.size
        clear hI hC
        go_wp2_with fail
        go_loopg [6, 28] M (fun gg s6 s28 wr => ∃ (kk : Nat) (v : Value) (s : SV (Int × Int)), kk ≤ M ∧ M - kk ≤ gg ∧ s6 = v ∧ s28 = .int .i64 kk ∧ Aside (Below w.heap.size w wr) ∧ Aside (Blk wr w1.heap.size 29 #[.int .i64 (D : Int), s.v]) ∧ Aside (WS wr w1.heap.size 75 2 eS s) ∧ Aside (s.xs = (runL D vs kk).1) ∧ Aside (Own wr w1.heap.size 3 1 eI v (runL D vs kk).2))
        case atStart => exact ⟨0, _, ⟨none, 0, 0, []⟩, Nat.zero_le _, by omega, rfl, rfl, (show Aside _ from hb2), (show Aside _ from B5), (show Aside _ from WS.nilS), (show Aside _ from rfl), (show Aside _ from Own.nil)⟩
        case round =>
          obtain ⟨kk, v, ⟨A5, n5, c5, l5⟩, hkk, hg, hv6, rfl, BW, BB, SS, LL, OW⟩ := hrel
          subst hv6
          simp only [SV.v] at BB SS LL
          clear B5 hb2
          have B5 := BB.out
          have ws5 := SS.out
          have own6 := OW.out
          have hbw := BW.out
          clear BB SS OW BW
          skip
          skip
          have cB5_0 := B5.c0; have cB5_1 := B5.c1; have fB5 := B5.frozen
          have hl5 : n5 ≤ 20 := by
            have h9 := ws5.ok.sl.len
            have h8 := (runL_len D vs kk).1
            rw [← LL.out] at h8
            simp only [] at h9
            omega
          by_cases hlt : kk < M
          · have hltz : (kk : Int) < (M : Int) := by omega
            by_cases hlv : kk < n
            · have hlvz : (kk : Int) < (n : Int) := by omega
              obtain ⟨bb, oo, rfl, y, hx, hc⟩ := hs.nth hlv hbw
              have hc0 := hc 0 _ rfl
              simp only [eI, Nat.add_zero, Nat.mul_one] at hc0
              have HS := Lib.hid (show runS D vs l5 kk = (sentL D l5 kk y).1.2 by unfold runS; rw [hx])
              clear hc hx
              have hsd := fun W (hW : Below wr.heap.size wr W) => send_any (D : Int) A5 n5 c5 l5 (kk : Int) y (by omega) ws5.ok.plain (by omega) (by omega) W (ws5.ok.sl.below hW)
              have hbl := World.block_lt_of_cell? _ _ hc0
              simp only [linkV] at hsd
              go_wp2_with fail
              have hlt5 := B5.lt
              go_region_with (first | (go_at_call 74; refine (hsd _ (by repeat (first | exact Below.refl _ _ | apply Below.drew))).mono ?_; rintro e w3 ⟨⟨dS, ⟨A7, n7, c7, l7⟩, okS⟩, rfl, ws7, hr7, hb3⟩; simp only [lmV, SV.v] at ws7 hr7 ⊢; have hdS : dS = (D : Int) := (congrArg (fun z => z.1.1) hr7).trans (sentL_d _ _ _ _); subst hdS; have HL7 := Lib.hid (show l7 = runS D vs l5 kk from (congrArg (fun z => z.1.2) hr7).trans HS.out.symm); clear hr7; have hbx : Below wr.heap.size wr w3 := thn (by repeat (first | exact Below.refl _ _ | apply Below.drew)) hb3; clear hb3; replace ws7 := ws7.mono (show w1.heap.size ≤ _ from Nat.le_of_lt hlt5); have B5x := B5.below hbx; have cB5x_0 := B5x.c0; have cB5x_1 := B5x.c1; have fB5x := B5x.frozen; have q0 := (hbx.cell (p := ⟨bb, oo + kk, none⟩) hbl).trans hc0))
              all_goals
                clear hsd
                have ws7a := (ws7.setBlk B5x (i := 0) (by decide) (.int .i64 (D : Int))).setBlk (B5x.set_ 0 _) (i := 1) (by decide) (.slice A7 n7 c7)
                have B5y : Blk ((w3.setCell ⟨w1.heap.size, 0, none⟩ (.int .i64 (D : Int))).setCell ⟨w1.heap.size, 1, none⟩ (.slice A7 n7 c7)) w1.heap.size 29 #[.int .i64 (D : Int), .slice A7 n7 c7] := (B5x.set_ 0 _).set_ 1 _
                have own7 := ((own6.below hbx).farNe (p := ⟨w1.heap.size, 0, none⟩) ((own6.below hbx).neBlk B5x (by decide)) (.int .i64 (D : Int))).farNe (p := ⟨w1.heap.size, 1, none⟩) ((own6.below hbx).neBlk B5x (by decide)) (.slice A7 n7 c7)
                have hby := ((thn hbw hbx).setCell (p := ⟨w1.heap.size, 0, none⟩) hw1 (.int .i64 (D : Int))).setCell (p := ⟨w1.heap.size, 1, none⟩) hw1 (.slice A7 n7 c7)
                clear cB5_0 cB5_1 fB5 cB5x_0 cB5x_1 fB5x q0 B5 ws5 own6 hbw ws7 B5x hc0 hbl
                generalize (w3.setCell ⟨w1.heap.size, 0, none⟩ (.int .i64 (D : Int))).setCell ⟨w1.heap.size, 1, none⟩ (.slice A7 n7 c7) = w8 at *
                have B5 := B5y
                have own6 := own7
                have hbw := hby
                have hlt6 := B5.lt
                clear B5y own7 hby hlt5
                have hlt5 := hlt6
                skip
                have hn7 : n7 ≤ 20 := by
                  have h9 := ws7a.ok.sl.len
                  have h8 := runS_len (d := D) (vs := vs) (t := kk) (runL_len D vs kk).1
                  rw [← LL.out, ← HL7.out] at h8
                  simp only [] at h9
                  omega
                have htk := take_any (D : Int) A7 n7 c7 l7 (kk : Int) (by omega) ws7a.ok.plain w8 ws7a.ok.sl
                simp only [linkV] at htk
                have cB5_0 := B5.c0; have cB5_1 := B5.c1; have fB5 := B5.frozen
                go_wp2_with fail
                refine htk.mono ?_
                rintro e w9 ⟨⟨⟨A8, n8, c8, l8⟩, ⟨A9, n9, c9, l9⟩⟩, rfl, ws8, hl8, ws9, hl9, hb9⟩
                simp only [tkV, SV.v] at ws8 hl8 ws9 hl9 ⊢
                have HL8 := Lib.hid (show l8 = (runL D vs (kk + 1)).1 by rw [hl8, HL7.out, LL.out]; rfl)
                have HL9 := Lib.hid (show (runL D vs (kk + 1)).2 = (runL D vs kk).2 ++ l9 by rw [hl9, HL7.out, LL.out]; rfl)
                clear hl8 hl9 htk
                clear cB5_0 cB5_1 fB5
                replace B5 := B5.below hb9
                have hz9 := B5.lt
                have hz10 : w1.heap.size ≤ w9.heap.size := Nat.le_of_lt hz9
                have hzl := Nat.le_trans (Nat.le_of_lt hlt5) hb9.size
                have hlen9 : (runL D vs kk).2.length + n9 ≤ 100000000 := by
                  have h8 := (runL_len D vs (kk + 1)).2
                  have h7 := ws9.ok.sl.len
                  rw [HL9.out, List.length_append] at h8
                  simp only [] at h7
                  omega
                have hbA := alo (((thn hbw hb9).setCell (p := ⟨w1.heap.size, 0, none⟩) hw1 (.int .i64 (D : Int))).setCell (p := ⟨w1.heap.size, 1, none⟩) hw1 (.slice A8 n8 c8)) (.cells #[.int .i64 (D : Int), .slice A8 n8 c8] 29)
                have B5a : Blk (((w9.setCell ⟨w1.heap.size, 0, none⟩ (.int .i64 (D : Int))).setCell ⟨w1.heap.size, 1, none⟩ (.slice A8 n8 c8)).alloc (.cells #[.int .i64 (D : Int), .slice A8 n8 c8] 29)) w1.heap.size 29 #[.int .i64 (D : Int), .slice A8 n8 c8] := ((B5.set_ 0 _).set_ 1 _).alloc _
                have own9 := own6.below hb9
                have ownA := ((own9.farNe (p := ⟨w1.heap.size, 0, none⟩) (own9.neBlk B5 (by decide)) (.int .i64 (D : Int))).farNe (p := ⟨w1.heap.size, 1, none⟩) (own9.neBlk B5 (by decide)) (.slice A8 n8 c8)).alloc (.cells #[.int .i64 (D : Int), .slice A8 n8 c8] 29)
                have ws8a := ((ws8.setBlk B5 (i := 0) (by decide) (.int .i64 (D : Int))).setBlk (B5.set_ 0 _) (i := 1) (by decide) (.slice A8 n8 c8)).below (alo (Below.refl _ _) (.cells #[.int .i64 (D : Int), .slice A8 n8 c8] 29))
                have ws9a := ((ws9.setBlk B5 (i := 0) (by decide) (.int .i64 (D : Int))).setBlk (B5.set_ 0 _) (i := 1) (by decide) (.slice A8 n8 c8)).below (alo (Below.refl _ _) (.cells #[.int .i64 (D : Int), .slice A8 n8 c8] 29))
                have B5z := B5.alloc (.cells #[.int .i64 (D : Int), .slice A8 n8 c8] 29)
                have B8 := Blk.new w9 29 #[.int .i64 (D : Int), .slice A8 n8 c8]
                have x0 := B5z.c0
                have x1 := B5z.c1
                have x2 := B5z.frozen
                have x3 := B8.c0
                have x4 := B8.c1
                have x5 := B5.c0
                have x6 := B5.c1
                have x7 := B5.frozen
                clear own9
                have hnA : A9 = none → c9 = 0 := ws9.ok.nil
                go_wp2_with (at_builtin; refine app_own rfl _ _ appInt rfl encI w1.heap.size _ _ rfl ownA _ _ _ l9 rfl hnA ws9a.ok.sl hlen9 (by simp [World.setCell]; omega) ?_; intro v5 w5 own5 hg5; have B5b := B5a.appO hg5 (ownA.neBlk B5a (by decide)); have hbB := belowApp hbA ownA hg5 hw1 hbA.size; have ws8b : WS w5 w1.heap.size 75 2 eS ⟨A8, n8, c8, l8⟩ := wsApp (ws8a.mono (by omega)) ownA (by decide) hg5)
                rw [← HL9.out] at own5
                go_roundg (M - (kk + 1))
                case measure => omega
                case rel => exact ⟨kk + 1, _, ⟨A8, n8, c8, l8⟩, by omega, by omega, rfl, by go_num, (show Aside _ from hbB), (show Aside _ from B5b), (show Aside _ from ws8b), (show Aside _ from HL8.out), (show Aside _ from own5)⟩
            · have hlvz : ¬ (kk : Int) < (n : Int) := by omega
              have HL7 := Lib.hid (show l5 = runS D vs l5 kk by unfold runS; rw [List.getElem?_eq_none (by rw [HL.out]; omega)])
              have hlt5 := B5.lt
              clear cB5_0 cB5_1 fB5
              have hn7 : n5 ≤ 20 := by
                have h9 := ws5.ok.sl.len
                have h8 := runS_len (d := D) (vs := vs) (t := kk) (runL_len D vs kk).1
                rw [← LL.out, ← HL7.out] at h8
                simp only [] at h9
                omega
              have htk := take_any (D : Int) A5 n5 c5 l5 (kk : Int) (by omega) ws5.ok.plain wr ws5.ok.sl
              simp only [linkV] at htk
              have cB5_0 := B5.c0; have cB5_1 := B5.c1; have fB5 := B5.frozen
              go_wp2_with fail
              refine htk.mono ?_
              rintro e w9 ⟨⟨⟨A8, n8, c8, l8⟩, ⟨A9, n9, c9, l9⟩⟩, rfl, ws8, hl8, ws9, hl9, hb9⟩
              simp only [tkV, SV.v] at ws8 hl8 ws9 hl9 ⊢
              have HL8 := Lib.hid (show l8 = (runL D vs (kk + 1)).1 by rw [hl8, HL7.out, LL.out]; rfl)
              have HL9 := Lib.hid (show (runL D vs (kk + 1)).2 = (runL D vs kk).2 ++ l9 by rw [hl9, HL7.out, LL.out]; rfl)
              clear hl8 hl9 htk
              clear cB5_0 cB5_1 fB5
              replace B5 := B5.below hb9
              have hz9 := B5.lt
              have hz10 : w1.heap.size ≤ w9.heap.size := Nat.le_of_lt hz9
              have hzl := Nat.le_trans (Nat.le_of_lt hlt5) hb9.size
              have hlen9 : (runL D vs kk).2.length + n9 ≤ 100000000 := by
                have h8 := (runL_len D vs (kk + 1)).2
                have h7 := ws9.ok.sl.len
                rw [HL9.out, List.length_append] at h8
                simp only [] at h7
                omega
              have hbA := alo (((thn hbw hb9).setCell (p := ⟨w1.heap.size, 0, none⟩) hw1 (.int .i64 (D : Int))).setCell (p := ⟨w1.heap.size, 1, none⟩) hw1 (.slice A8 n8 c8)) (.cells #[.int .i64 (D : Int), .slice A8 n8 c8] 29)
              have B5a : Blk (((w9.setCell ⟨w1.heap.size, 0, none⟩ (.int .i64 (D : Int))).setCell ⟨w1.heap.size, 1, none⟩ (.slice A8 n8 c8)).alloc (.cells #[.int .i64 (D : Int), .slice A8 n8 c8] 29)) w1.heap.size 29 #[.int .i64 (D : Int), .slice A8 n8 c8] := ((B5.set_ 0 _).set_ 1 _).alloc _
              have own9 := own6.below hb9
              have ownA := ((own9.farNe (p := ⟨w1.heap.size, 0, none⟩) (own9.neBlk B5 (by decide)) (.int .i64 (D : Int))).farNe (p := ⟨w1.heap.size, 1, none⟩) (own9.neBlk B5 (by decide)) (.slice A8 n8 c8)).alloc (.cells #[.int .i64 (D : Int), .slice A8 n8 c8] 29)
              have ws8a := ((ws8.setBlk B5 (i := 0) (by decide) (.int .i64 (D : Int))).setBlk (B5.set_ 0 _) (i := 1) (by decide) (.slice A8 n8 c8)).below (alo (Below.refl _ _) (.cells #[.int .i64 (D : Int), .slice A8 n8 c8] 29))
              have ws9a := ((ws9.setBlk B5 (i := 0) (by decide) (.int .i64 (D : Int))).setBlk (B5.set_ 0 _) (i := 1) (by decide) (.slice A8 n8 c8)).below (alo (Below.refl _ _) (.cells #[.int .i64 (D : Int), .slice A8 n8 c8] 29))
              have B5z := B5.alloc (.cells #[.int .i64 (D : Int), .slice A8 n8 c8] 29)
              have B8 := Blk.new w9 29 #[.int .i64 (D : Int), .slice A8 n8 c8]
              have x0 := B5z.c0
              have x1 := B5z.c1
              have x2 := B5z.frozen
              have x3 := B8.c0
              have x4 := B8.c1
              have x5 := B5.c0
              have x6 := B5.c1
              have x7 := B5.frozen
              clear own9
              have hnA : A9 = none → c9 = 0 := ws9.ok.nil
              go_wp2_with (at_builtin; refine app_own rfl _ _ appInt rfl encI w1.heap.size _ _ rfl ownA _ _ _ l9 rfl hnA ws9a.ok.sl hlen9 (by simp [World.setCell]; omega) ?_; intro v5 w5 own5 hg5; have B5b := B5a.appO hg5 (ownA.neBlk B5a (by decide)); have hbB := belowApp hbA ownA hg5 hw1 hbA.size; have ws8b : WS w5 w1.heap.size 75 2 eS ⟨A8, n8, c8, l8⟩ := wsApp (ws8a.mono (by omega)) ownA (by decide) hg5)
              rw [← HL9.out] at own5
              go_roundg (M - (kk + 1))
              case measure => omega
              case rel => exact ⟨kk + 1, _, ⟨A8, n8, c8, l8⟩, by omega, by omega, rfl, by go_num, (show Aside _ from hbB), (show Aside _ from B5b), (show Aside _ from ws8b), (show Aside _ from HL8.out), (show Aside _ from own5)⟩
          · have hltz : ¬ (kk : Int) < (M : Int) := by omega
            obtain rfl : kk = M := by omega
            obtain ⟨A6, c6, rfl, hA6, hsl6, -⟩ := own6.sl encI
            have hle6 := hsl6.le
            have hmax6 := hsl6.max
            have hcp := fun W => clipInt_any A6 _ c6 hle6 hmax6 hA6.1 W
            have ws6 := own6.ws (c' := (runL D vs kk).2.length) encI ⟨Nat.le_refl _, hle6⟩
            go_wp2_with fail
            refine (hcp _).mono ?_; rintro e w' ⟨rfl, rfl⟩
            go_wp2
            go_ret
            exact ⟨⟨A6, _, _, _⟩, rfl, ws6.mono hw1, rfl, hbw⟩
    · have h2 : decide ((vs.length : Int) ≤ 40) = false := by rw [HL.out]; exact decide_eq_false hn
      have hn' : decide ((n : Int) ≤ 40) = false := decide_eq_false hn
      have hn'' : (40 : Int) < (n : Int) := by omega
      have hz : linkRun d vs = [] := by unfold linkRun; rw [h1, h2]; simp
      rw [hz]
      clear hz
      go_enter Try.func39, Try.ntmps39
      go_wp2_with fail
      refine (hI _).mono ?_; rintro e w' ⟨rfl, rfl⟩
      go_wp2_with fail
      go_ret
      exact ⟨⟨none, 0, 0, []⟩, rfl, WS.nilS, rfl, Below.refl _ _⟩
end Go.Proofs.Ytenbpaoelipifaa
