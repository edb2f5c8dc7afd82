/- WindowAt of impl. -/
import Derived.Test.YtmlodhogfejdjaaIdx
namespace Go.Proofs.Ytmlodhogfejdjaa
set_option linter.unusedVariables false
set_option linter.unusedSimpArgs false
open Go.RowKit Go.Shelf

theorem has_any (x : Win) (hx : x.ok = true) (p : Int) (w : World) : Calls Try.prog 65 #[.agg #[.int .i64 x.base, .int .i64 x.size, .bool x.wr], .int .i64 p] w fun e w' => .returned (.bool (x.has p)) = e ∧ Below w.heap.size w w' := by
  rw [Win.ok_true] at hx
  obtain ⟨b, s, wr⟩ := x
  obtain ⟨h1, h2, h3, h4⟩ := hx
  simp only [Win.has] at h1 h2 h3 h4 ⊢
  go_enter Try.func65, Try.ntmps65
  go_wp2_with (go_at_call 47; refine (in_any _ _ _ _).mono ?_; rintro e w' ⟨rfl, rfl⟩)
  go_ret
  exact ⟨rfl, (Below.refl _ _).alloc (Nat.le_refl _) _⟩

def atP (place : Int) (wr : Bool) (x : Win) : Bool := x.has place && (x.wr || !wr)

/-- The closure of WindowAt: its two captured variables lie in blocks q and q + 1. -/
theorem at_any (x : Win) (hx : x.ok = true) (place : Int) (wr : Bool) (q q' : Nat) (w : World) (h1 : w.cell? ⟨q, 0, none⟩ = some (.int .i64 place)) (h2 : w.cell? ⟨q', 0, none⟩ = some (.bool wr)) (hq : q < w.heap.size) (hq' : q' < w.heap.size) :
    Calls Try.prog 64 #[.agg #[.int .i64 x.base, .int .i64 x.size, .bool x.wr], .pointer (some ⟨q, 0, none⟩), .pointer (some ⟨q', 0, none⟩)] w fun e w' => .returned (.bool (atP place wr x)) = e ∧ Below w.heap.size w w' := by
  have hcall := fun W => has_any x hx place W
  unfold atP
  obtain ⟨b, s, wx⟩ := x
  generalize Win.has ⟨b, s, wx⟩ place = h at hcall
  simp only [] at hcall ⊢
  clear hx
  have hcell : ∀ (W : World), Below (w.heap.size + 1) (w.alloc (.cells #[.int .i64 b, .int .i64 s, .bool wx] 35)) W → W.cell? ⟨q', 0, none⟩ = some (.bool wr) ∧ W.cell? ⟨w.heap.size, 2, none⟩ = some (.bool wx) := by
    intro W hb
    refine ⟨(hb.cell (p := ⟨q', 0, none⟩) (by simp; omega)).trans ?_, (hb.cell (p := ⟨w.heap.size, 2, none⟩) (by simp)).trans ?_⟩
    · rw [World.cell?_alloc_lt w _ ⟨q', 0, none⟩ hq']; exact h2
    · simp
  cases h <;> cases wx <;> cases wr
  all_goals
    go_enter Try.func64, Try.ntmps64
    go_wp2_with fail
    refine (hcall _).mono ?_
    rintro e w1 ⟨rfl, hb⟩
    obtain ⟨g1, g2⟩ := hcell w1 (by simpa using hb)
    clear hcell hcall
    go_wp2
    go_ret
    exact ⟨rfl, ((Below.refl _ _).alloc (Nat.le_refl _) _).trans (hb.mono (by simp))⟩

def windowAt (xs : List Win) (place : Int) (wr : Bool) : Int := if winsOk xs then idxP (atP place wr) xs else -1

theorem enters_at (args : Array Value) (w : World) : (callFunc 64 args).run Try.prog w = .ok (.enter 64 args) w := enters_of Try.func64 (by kernel_rfl) rfl args w

theorem windowAt_any (A : Option Addr) (n c : Nat) (xs : List Win) (place : Int) (wr : Bool) (w : World) (hs : Sl w 3 Win.cells A n c xs) :
    Calls Try.prog 29 #[.slice A n c, .int .i64 place, .bool wr] w fun e w' => .returned (.int .i64 (windowAt xs place wr)) = e ∧ Below w.heap.size w w' := by
  have hB1 := ((Below.refl w.heap.size w).alloc (Nat.le_refl _) (.cells #[.int .i64 place] 3)).alloc (by simp) (.cells #[.bool wr] 4)
  have hv := fun W (hW : Below w.heap.size w W) => windowsValid_any A n c xs W (hs.below hW)
  unfold windowAt
  cases hok : winsOk xs
  · simp only [hok] at hv
    rw [if_neg (by simp)]
    clear hok hs
    go_enter Try.func29, Try.ntmps29
    go_wp2_with fail
    refine (hv _ hB1).mono ?_
    rintro e w1 ⟨rfl, hb⟩
    go_wp2
    go_ret
    exact ⟨rfl, hB1.trans (hb.mono hB1.size)⟩
  · simp only [hok] at hv
    rw [if_pos rfl]
    rw [winsOk_true] at hok
    obtain ⟨_, hok⟩ := hok
    have hidx : ∀ W, Below (w.heap.size + 2) ((w.alloc (.cells #[.int .i64 place] 3)).alloc (.cells #[.bool wr] 4)) W →
        Calls Try.prog 63 #[.slice A n c, .func (.func 64) #[] #[.pointer (some ⟨w.heap.size, 0, none⟩), .pointer (some ⟨w.heap.size + 1, 0, none⟩)]] W fun e w' => .returned (.int .i64 (idxP (atP place wr) xs)) = e ∧ Below W.heap.size W w' := by
      intro W hW
      have hz : w.heap.size + 2 ≤ W.heap.size := by have := hW.size; simpa using this
      refine indexWin _ _ _ enters_at A n c xs W (fun x => x.ok = true) hok ?_ (hs.below (hB1.trans (hW.mono (by omega))))
      intro V x hx hV
      refine at_any x hx place wr w.heap.size (w.heap.size + 1) V ?_ ?_ (by have := hV.size; omega) (by have := hV.size; omega)
      · rw [hV.cell (p := ⟨w.heap.size, 0, none⟩) (by show w.heap.size < _; omega), hW.cell (p := ⟨w.heap.size, 0, none⟩) (by simp)]; simp
      · rw [hV.cell (p := ⟨w.heap.size + 1, 0, none⟩) (by show w.heap.size + 1 < _; omega), hW.cell (p := ⟨w.heap.size + 1, 0, none⟩) (by simp)]; simp
    generalize idxP (atP place wr) xs = i at hidx ⊢
    clear hok hs
    have hmf : ∀ (fn : Fn) (first cap : Array Value) (w : World), (Instr.makeFunc fn first cap).run Try.prog w = .ok (.func fn first cap) w := fun _ _ _ _ => rfl
    go_enter Try.func29, Try.ntmps29
    go_wp2_with fail
    refine (hv _ hB1).mono ?_
    rintro e w1 ⟨rfl, hb⟩
    have hx := hidx w1 (by simpa using hb)
    clear hidx hv
    go_wp2_with fail
    refine hx.mono ?_
    rintro e w2 ⟨rfl, hb2⟩
    go_wp2
    go_ret
    exact ⟨rfl, hB1.trans ((hb.mono hB1.size).trans (hb2.mono (Nat.le_trans hB1.size hb.size)))⟩

end Go.Proofs.Ytmlodhogfejdjaa
