/- A region that draws its order by picks and stores a struct into the result's own block. -/
import Derived.Test.YtffhcifeccdfjaaRelG
import Derived.Test.YtffhcifeccdfjaaReg
namespace Go.Proofs.Ytffhcifeccdfjaa
set_option linter.unusedVariables false
set_option linter.unusedSimpArgs false
open Go.RowKit

/-- What an operation of such a region may turn: nothing behind the reader's block; the result's block g, once it is cs, stays. -/
def RR (r g T : Nat) (cs : Array Value) (w w' : World) : Prop := w.heap.size ≤ w'.heap.size ∧ (∀ k, r < k → k < w.heap.size → w'.heap[k]? = w.heap[k]?) ∧ (Blk w g T cs → Blk w' g T cs)
/-- None of the cells is a byte. -/
def noU8 (cs : Array Value) : Prop := ∀ (i : Nat) (z : Int), cs[i]? ≠ some (.int .u8 z)
structure TJ (r g T n : Nat) (w0 : World) (b : Int) (w : World) : Prop where
  os : w.os = w0.os
  tape : w.tape = w0.tape
  output : w.output = w0.output
  size : w0.heap.size ≤ w.heap.size
  block : ∀ k, k < w0.heap.size → k ≠ r → k ≠ g → w.heap[k]? = w0.heap[k]?
  rd : Rd w r 96 b
  res : ∃ cs, Blk w g T cs ∧ cs.size = n ∧ noU8 cs
theorem RR.refl {r g T : Nat} {cs : Array Value} (w : World) : RR r g T cs w w := ⟨Nat.le_refl _, fun _ _ _ => rfl, fun h => h⟩
theorem RR.stp {r g T : Nat} {cs : Array Value} {w w' : World} {b : Int} (h : Stp r 96 w b w') (hg : g ≠ r) : RR r g T cs w w' :=
  ⟨h.grown.size, fun k h1 h2 => h.grown.block k h2 (fun e => by injection e; omega), fun hB => Blk.stp h hB hg⟩
theorem TJ.start {r g T : Nat} {cs : Array Value} {w0 : World} {b : Int} (hr : Rd w0 r 96 b) (hB : Blk w0 g T cs) (hN : noU8 cs) : TJ r g T cs.size w0 b w0.drew :=
  ⟨rfl, rfl, rfl, Nat.le_refl _, fun _ _ _ _ => rfl, hr.drew, cs, hB.drew, rfl, hN⟩
theorem TJ.stp {r g T n : Nat} {w0 w w' : World} {b b' : Int} (hJ : TJ r g T n w0 b w) (h : Stp r 96 w b' w') (hg : g ≠ r) : TJ r g T n w0 b' w' :=
  ⟨h.grown.os.trans hJ.os, h.grown.tape.trans hJ.tape, h.grown.output.trans hJ.output, Nat.le_trans hJ.size h.grown.size,
    fun k h1 h2 h3 => (h.grown.block k (Nat.lt_of_lt_of_le h1 hJ.size) (fun e => by injection e; omega)).trans (hJ.block k h1 h2 h3), h.rd,
    by obtain ⟨cs, hB, hn, hN⟩ := hJ.res; exact ⟨cs, Blk.stp h hB hg, hn, hN⟩⟩
theorem TJ.le {r g T n : Nat} {w0 w : World} {b b' : Int} (hJ : TJ r g T n w0 b w) (h : b ≤ b') : TJ r g T n w0 b' w :=
  ⟨hJ.os, hJ.tape, hJ.output, hJ.size, hJ.block, hJ.rd.le h, hJ.res⟩
theorem TJ.old {r g T n : Nat} {w0 w : World} {b : Int} (hJ : TJ r g T n w0 b w) {k : Nat} {t : TypeId} {cs : Array Value} (hB : Blk w0 k t cs) (h1 : k ≠ r) (h2 : k ≠ g) : Blk w k t cs := (hJ.block k hB.lt h1 h2).trans hB
/-- A world whose block g has become cs. -/
theorem TJ.put {r g T n : Nat} {cs : Array Value} {w0 w w' : World} {b : Int} (hJ : TJ r g T n w0 b w) (hg : g < r) (hB : Blk w' g T cs) (hn : cs.size = n) (hN : noU8 cs) (hs : w'.heap.size = w.heap.size) (ho : w'.os = w.os) (ht : w'.tape = w.tape) (hu : w'.output = w.output)
    (hk : ∀ k, k ≠ g → w'.heap[k]? = w.heap[k]?) : TJ r g T n w0 b w' ∧ RR r g T cs w w' :=
  ⟨⟨ho.trans hJ.os, ht.trans hJ.tape, hu.trans hJ.output, by rw [hs]; exact hJ.size, fun k h1 h2 h3 => (hk k h3).trans (hJ.block k h1 h2 h3), by
      obtain ⟨cs0, hB0, _, hN0⟩ := hJ.res
      obtain ⟨A, m, c, zs, p, ⟨h1, h2, h3, h4⟩, h0, hp⟩ := hJ.rd
      refine ⟨A, m, c, zs, p, ⟨(hk r (by omega)).trans h1, h2, h3, fun hm => ?_⟩, h0, hp⟩
      obtain ⟨b', o, rfl, hb, hc⟩ := h4 hm
      have hne : b' ≠ g := by
        rintro rfl
        have h5 := hc 0 hm
        rw [hB0.cell] at h5
        exact hN0 _ _ h5
      exact ⟨b', o, rfl, hb, fun i hi => (World.cell?_of_block (w := w) (hk b' hne)).trans (hc i hi)⟩, cs, hB, hn, hN⟩,
   ⟨by rw [hs]; exact Nat.le_refl _, fun k h1 _ => hk k (by omega), fun _ => hB⟩⟩
theorem Ty.stableR {r g T E : Nat} {cs : Array Value} (t : Ty) (v : Value) (w w' : World) (h : t.holds r E v w) (hg : RR r g T cs w w') : t.holds r E v w' := by
  cases t with
  | pure p => exact h
  | lit n lo hi =>
    obtain ⟨b, xs, e, hr, hb, hc⟩ := h
    exact ⟨b, xs, e, hr, (hg.2.1 b hr (Array.getElem?_eq_some_iff.1 hb).1).trans hb, hc⟩
  | elt lo hi =>
    obtain ⟨b, i, u, e, hr, hb, hc⟩ := h
    exact ⟨b, i, u, e, hr, (World.cell?_of_block (w := w) (hg.2.1 b hr (World.block_lt_of_cell? _ _ hb))).trans hb, hc⟩
/-- The fact of the store: behind operation k the result's block is cs. -/
def GS (g T k : Nat) (cs : Array Value) (i : Nat) (w : World) : Prop := i = k → Blk w g T cs
theorem GS.stable {r g T k : Nat} {cs : Array Value} (i : Nat) (w w' : World) (h : GS g T k cs i w) (hR : RR r g T cs w w') : GS g T k cs i w' := fun e => hR.2.2 (h e)
theorem leaves_stp {F : Nat → Value → World → Prop} {r g T n k i c : Nat} {cs : Array Value} {w0 w w' : World} {b : Int} {o : Oper} {a : Act} {v : Value} (hJ : TJ r g T n w0 (b + c) w) (hg : g ≠ r) (hi : i ≠ k) (hF : F i v w') (hs : Stp r 96 w (b + c + 1) w') :
    LeavesG F (GS g T k cs) (RR r g T cs) (fun c w => TJ r g T n w0 (b + c) w) i o a w c (a.put o.dst v) w' :=
  LeavesG.val hF (RR.stp hs hg) ((hJ.stp hs hg).le (by omega)) (fun e => absurd e hi)
theorem leaves_put {F : Nat → Value → World → Prop} {r g T n i c : Nat} {cs : Array Value} {w0 w w' : World} {b : Int} {o : Oper} {a : Act} {v : Value} (hJ : TJ r g T n w0 (b + c) w) (hd : o.dst = none) (hg : g < r) (hB : Blk w' g T cs) (hn : cs.size = n) (hN : noU8 cs) (hs : w'.heap.size = w.heap.size) (ho : w'.os = w.os) (ht : w'.tape = w.tape) (hu : w'.output = w.output)
    (hk : ∀ k, k ≠ g → w'.heap[k]? = w.heap[k]?) :
    LeavesG F (GS g T i cs) (RR r g T cs) (fun c w => TJ r g T n w0 (b + c) w) i o a w c (a.put o.dst v) w' :=
  LeavesG.none hd (hJ.put hg hB hn hN hs ho ht hu hk).2 ((hJ.put hg hB hn hN hs ho ht hu hk).1.le (by omega)) (fun _ => hB)
theorem region_store {P : Program} {ops : Array Oper} {Q : Exit → Act → World → Prop} {id : Nat} (hm : P.follows .mixedOrders = true) (F : Nat → Value → World → Prop) (k m : Nat) (cs : Array Value) {cs0 : Array Value} {r g T n : Nat} {a0 : Act} {w : World} {b : Int}
    (hr : Rd w r 96 b) (hB : Blk w g T cs0) (hN : noU8 cs0) (hn : cs0.size = n) (hkm : k < m) (hks : k < ops.size)
    (hchk : relChk ops a0.tmps.size = true) (htail : tailChk ops m = true)
    (hF : ∀ i v w w', F i v w → RR r g T cs w w' → F i v w')
    (hob : ∀ (i : Nat) (o : Oper), i < m → ops[i]? = some o → ∀ (a : Act) (wa : World) (c : Nat), c ≤ m → TJ r g T n w (b + c) wa → Frm ops a0 a →
      (∀ e ∈ o.after, Region.binds .any e = true → ∀ oj d, ops[e.on]? = some oj → oj.dst = some d → F e.on (a.tmps.getD d undef) wa) →
      Region.wanted o (yielded ops a.tmps) = true ∧ o.wp P a wa (LeavesG F (GS g T k cs) (RR r g T cs) (fun c w' => TJ r g T n w (b + c) w') i o a wa c) Q)
    (hend : ∀ (V : Nat → Value) (w' : World), (∀ (i : Nat) (x : Oper) (d : Nat), i < m → ops[i]? = some x → x.dst = some d → F i (V i) w') → Blk w' g T cs → TJ r g T n w (b + m) w' →
      wpList P ops Q (ops.toList.drop m) (puts ops a0 V m) w') :
    (Code.region id ops true).wp P Q a0 w :=
  region_relG hm F (GS g T k cs) (RR r g T cs) (fun c w' => TJ r g T n w (b + c) w') m a0 w hchk htail hF GS.stable RR.refl (fun c c' w hcc hJ => hJ.le (by omega))
    (by have := (TJ.start hr hB hN).le (b' := b + ((0 : Nat) : Int)) (by omega); rw [hn] at this; exact this)
    (fun i o him ho a wa c hc hJ hfr hdep _ => .inl (hob i o him ho a wa c hc hJ hfr hdep))
    (fun V w' hV hG hJ => hend V w' hV (hG k hkm hks rfl) hJ)
theorem two_of {cs : Array Value} (h : cs.size = 2) : ∃ u0 u1, cs = #[u0, u1] := by
  obtain ⟨l⟩ := cs
  match l, h with
  | [a, b], _ => exact ⟨a, b, rfl⟩
theorem three_of {cs : Array Value} (h : cs.size = 3) : ∃ u0 u1 u2, cs = #[u0, u1, u2] := by
  obtain ⟨l⟩ := cs
  match l, h with
  | [a, b, c], _ => exact ⟨a, b, c, rfl⟩
theorem noU8_2 {a b : Value} (ha : ∀ z, a ≠ .int .u8 z) (hb : ∀ z, b ≠ .int .u8 z) : noU8 #[a, b] := fun i z h => by
  rcases i with _ | _ | i
  · exact ha z (by simpa using h)
  · exact hb z (by simpa using h)
  · simp at h
theorem noU8_3 {a b c : Value} (ha : ∀ z, a ≠ .int .u8 z) (hb : ∀ z, b ≠ .int .u8 z) (hc : ∀ z, c ≠ .int .u8 z) : noU8 #[a, b, c] := fun i z h => by
  rcases i with _ | _ | _ | i
  · exact ha z (by simpa using h)
  · exact hb z (by simpa using h)
  · exact hc z (by simpa using h)
  · simp at h
/-- Behind the region. -/
theorem TJ.below {r g T n B : Nat} {w0 w : World} {b : Int} (hJ : TJ r g T n w0 b w) (hr : B ≤ r) (hg : B ≤ g) (hB : B ≤ w0.heap.size) : Below B w0 w :=
  ⟨hJ.os, hJ.tape, hJ.output, hJ.size, fun k hk => hJ.block k (by omega) (by omega) (by omega)⟩
theorem Sl.turned {α : Type} {r g T n m c k : Nat} {enc : α → List Value} {A : Option Addr} {xs : List α} {w0 w : World} {b : Int} (h : Sl w0 k enc A m c xs) (hJ : TJ r g T n w0 b w) (hA : ∀ q o, A = some ⟨q, o, none⟩ → q ≠ r ∧ q ≠ g) : Sl w k enc A m c xs := by
  refine ⟨h.len, h.le, h.max, fun hn => ?_⟩
  obtain ⟨q, o, rfl, hq, hc⟩ := h.cells hn
  obtain ⟨h1, h2⟩ := hA q o rfl
  exact ⟨q, o, rfl, Nat.lt_of_lt_of_le hq hJ.size, fun j x hx i u hu => (World.cell?_of_block (w := w0) (hJ.block q hq h1 h2)).trans (hc j x hx i u hu)⟩
end Go.Proofs.Ytffhcifeccdfjaa
