/- mark and held at links. -/
import Derived.Test.YtenbpaoelipifaaWSl
import Derived.Test.YtenbpaoelipifaaLinkV
namespace Go.Proofs.Ytenbpaoelipifaa
set_option linter.unusedVariables false
set_option linter.unusedSimpArgs false
open Go.RowKit

theorem markLink_any (d : Int) (s : SV (Int × Int)) (k : Int) (base : Nat) (hk : 0 ≤ k ∧ k ≤ 10000000) (hn : s.n ≤ 2000000) (w : World) (hs : WS w base 75 2 eS s) :
    Calls Try.prog 45 #[.agg #[.int .i64 d, s.v], .int .i64 k] w fun e w' => .returned (.int .i64 (k + 2 * s.n)) = e ∧ w.grownBy w' s.row ∧ WS w' base 75 2 eS ⟨s.A, s.n, s.c, marksS k s.n⟩ := by
  have hm := markPacketS_any s k base hk (by omega) _ (hs.below (alo (Below.refl _ _) (.cells #[.int .i64 d, s.v] 29)))
  have B1 := Blk.new w 29 #[.int .i64 d, s.v]
  have c0 := B1.c0
  have c1 := B1.c1
  clear B1
  obtain ⟨A, n, c, xs⟩ := s
  simp only [SV.v] at hm c0 c1 hn ⊢
  go_enter Try.func45, Try.ntmps45
  go_wp2_with fail
  refine hm.mono ?_
  rintro e w2 ⟨rfl, hg, ws⟩
  go_wp2
  go_ret
  exact ⟨rfl, grown_trans (grown_alloc (World.grownBy.refl _ _) _) hg, ws⟩
theorem heldLink_any (d : Int) (A : Option Addr) (n c : Nat) (k : Int) (hk : 0 ≤ k ∧ k ≤ 10000000) (hn : n ≤ 2000000) (w : World) (hs : Sl w 2 eS A n c (marksS k n)) :
    Calls Try.prog 46 #[.agg #[.int .i64 d, .slice A n c], .int .i64 k] w fun e w' => .returned (.int .i64 (k + 2 * n)) = e ∧ Below w.heap.size w w' := by
  have hb0 := alo (Below.refl w.heap.size w) (.cells #[.int .i64 d, .slice A n c] 29)
  have hm := heldPacketS_any A n c k hk (by omega) _ (hs.below hb0)
  have B1 := Blk.new w 29 #[.int .i64 d, .slice A n c]
  have c0 := B1.c0
  have c1 := B1.c1
  clear B1
  go_enter Try.func46, Try.ntmps46
  go_wp2_with fail
  refine hm.mono ?_
  rintro e w2 ⟨rfl, hb⟩
  go_wp2
  go_ret
  exact ⟨rfl, thn hb0 hb⟩
end Go.Proofs.Ytenbpaoelipifaa
