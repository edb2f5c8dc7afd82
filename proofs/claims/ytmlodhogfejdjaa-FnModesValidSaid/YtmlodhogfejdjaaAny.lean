/- A region that draws its order, by one proof for each operation: an invariant that does not depend on the order. -/
import Derived.Test.YtmlodhogfejdjaaBase
import Derived.Orders
namespace Go.Proofs.Ytmlodhogfejdjaa
set_option linter.unusedVariables false
set_option linter.unusedSimpArgs false
open Go.RowKit

section
variable {P : Program} {ops : Array Oper} {Q : Exit → Act → World → Prop} {md : Region.Mode}

/-- How many operations are still to come. -/
def left (listed : Array Bool) : Nat := (listed.toList.filter (! ·)).length

theorem filter_set (l : List Bool) : ∀ i, l[i]? = some false → ((l.set i true).filter (! ·)).length + 1 = (l.filter (! ·)).length := by
  induction l with
  | nil => intro i h; simp at h
  | cons x l ih =>
    intro i h
    cases i with
    | zero => simp at h; subst h; simp
    | succ i =>
      have := ih i (by simpa using h)
      cases x <;> simp <;> omega

theorem left_set {listed : Array Bool} {i : Nat} (h : listed.getD i true = false) : left (listed.setIfInBounds i true) + 1 = left listed := by
  have hi : listed.toList[i]? = some false := by
    rcases Nat.lt_or_ge i listed.size with h' | h'
    · simp [h'] at h ⊢; exact h
    · simp [Array.getElem?_eq_none h'] at h
  unfold left
  rw [Array.toList_setIfInBounds]
  exact filter_set _ _ hi

theorem unlisted_ready (hback : ∀ (i : Nat) (o : Oper), ops[i]? = some o → ∀ e ∈ o.after, Region.binds md e = true → e.on < i) {listed : Array Bool} (hr : Region.ready md ops listed = []) :
    ∀ i, i < ops.size → listed.getD i true = true := by
  intro i
  induction i using Nat.strongRecOn with
  | ind i ih =>
    intro hi
    cases hl : listed.getD i true with
    | true => rfl
    | false =>
      have : i ∈ Region.ready md ops listed := by
        rw [mem_ready]
        refine ⟨hl, ops[i], Array.getElem?_eq_getElem hi, fun e he hbe => ?_⟩
        have h1 := hback i _ (Array.getElem?_eq_getElem hi) e he hbe
        have h2 := ih e.on h1 (by omega)
        by_cases h3 : e.on < listed.size
        · simp [h3] at h2 ⊢; exact h2
        · exfalso
          have h4 : listed.size ≤ i := by omega
          simp [Array.getElem?_eq_none h4] at hl
      rw [hr] at this
      cases this

theorem wpAny_inv (I : Array Bool → Act → World → Prop)
    (hstep : ∀ listed a w i, I listed a w → i ∈ Region.ready md ops listed → wpOp P ops Q i (I (listed.setIfInBounds i true)) a w)
    (hend : ∀ listed a w, I listed a w → Region.ready md ops listed = [] → Q .normal a w) :
    ∀ fuel listed a w, left listed ≤ fuel → I listed a w → wpAny P md ops Q fuel listed a w := by
  intro fuel
  induction fuel with
  | zero =>
    intro listed a w hl hI
    have hr : Region.ready md ops listed = [] := by
      rw [List.eq_nil_iff_forall_not_mem]
      intro i hi
      have := left_set (mem_ready.1 hi).1
      omega
    exact ⟨hr, hend _ _ _ hI hr⟩
  | succ fuel ih =>
    intro listed a w hl hI
    refine ⟨hend _ _ _ hI, fun i hi => wpOp_mono (fun a' w' h => ih _ a' w' ?_ h) (hstep _ _ _ _ hI hi)⟩
    have := left_set (mem_ready.1 hi).1
    omega

theorem getD_put_same (a : Act) (d : Nat) (v : Value) (h : d < a.tmps.size) : (a.put (some d) v).tmps.getD d undef = v := by
  simp [Act.put, h]
theorem getD_put_ne (a : Act) (d : Option Nat) (k : Nat) (v : Value) (h : d ≠ some k) : (a.put d v).tmps.getD k undef = a.tmps.getD k undef := by
  cases d with
  | none => rfl
  | some d =>
    have : d ≠ k := fun e => h (by rw [e])
    simp [Act.put, Array.getElem?_setIfInBounds_ne this]

/-- What is known of the frame while the region runs: the slots that it does not write. -/
def Frm (ops : Array Oper) (a0 a : Act) : Prop :=
  a.defers = a0.defers ∧ a.tmps.size = a0.tmps.size ∧ ∀ k, (∀ (i : Nat) (o : Oper), ops[i]? = some o → o.dst ≠ some k) → a.tmps.getD k undef = a0.tmps.getD k undef

/-- What an operation leaves. -/
def Leaves (F : Nat → Value → World → Prop) (r T : Nat) (i : Nat) (o : Oper) (a : Act) (w : World) (b : Int) (a' : Act) (w' : World) : Prop :=
  ∃ v, a' = a.put o.dst v ∧ (∀ d, o.dst = some d → F i v w') ∧ w.grownBy w' (some r) ∧ Rd w' r T (b + 1)

theorem Leaves.val {F : Nat → Value → World → Prop} {r T i : Nat} {o : Oper} {a : Act} {w : World} {b : Int} {v : Value} {w' : World} (hF : F i v w') (hs : Stp r T w (b + 1) w') :
    Leaves F r T i o a w b (a.put o.dst v) w' := ⟨v, rfl, fun _ _ => hF, hs.grown, hs.rd⟩

/-- No operation writes slot k. -/
def drawFr (ops : Array Oper) (k : Nat) : Bool := ops.all fun o => !(o.dst == some k)
theorem drawFr_spec {ops : Array Oper} {k : Nat} (h : drawFr ops k = true) (i : Nat) (o : Oper) (ho : ops[i]? = some o) : o.dst ≠ some k := by
  have := Array.all_eq_true_iff_forall_mem.1 h o (Array.mem_of_getElem? ho)
  simpa using this

/-- The closed facts on the operations, by reckoning. -/
def drawChk (ops : Array Oper) (N : Nat) : Bool :=
  (List.range ops.size).all fun i => match ops[i]? with
    | none => true
    | some o => o.after.all (fun e => !Region.binds .any e || decide (e.on < i)) && o.guard.isNone && (match o.dst with
      | none => true
      | some d => decide (d < N) && (List.range ops.size).all fun j => match ops[j]? with
        | none => true
        | some y => !(y.dst == some d) || decide (j = i))
theorem drawChk_spec {ops : Array Oper} {N : Nat} (h : drawChk ops N = true) (i : Nat) (o : Oper) (ho : ops[i]? = some o) :
    (∀ e ∈ o.after, Region.binds .any e = true → e.on < i) ∧ o.guard = none ∧ ∀ d, o.dst = some d → d < N ∧ ∀ j y, ops[j]? = some y → y.dst = some d → i = j := by
  have hi : i < ops.size := (Array.getElem?_eq_some_iff.1 ho).1
  unfold drawChk at h
  rw [List.all_eq_true] at h
  have h1 := h i (List.mem_range.2 hi)
  rw [ho] at h1
  simp only [Bool.and_eq_true] at h1
  obtain ⟨⟨h2, h3⟩, h4⟩ := h1
  refine ⟨fun e he hbe => ?_, by simpa using h3, fun d hd => ?_⟩
  · have := Array.all_eq_true_iff_forall_mem.1 h2 e he
    simpa [hbe] using this
  · rw [hd] at h4
    simp only [Bool.and_eq_true, decide_eq_true_eq] at h4
    refine ⟨h4.1, fun j y hy hyd => ?_⟩
    have hj : j < ops.size := (Array.getElem?_eq_some_iff.1 hy).1
    have h5 := List.all_eq_true.1 h4.2 j (List.mem_range.2 hj)
    rw [hy] at h5
    simp [hyd] at h5
    exact h5.symm

/-- The last operation waits for every other one. -/
def lastChk (ops : Array Oper) (m : Nat) : Bool := decide (ops.size = m + 1) && match ops[m]? with
  | none => false
  | some o => (List.range m).all fun j => o.after.any fun e => Region.binds .any e && (e.on == j)

theorem region_draws {id : Nat} (hm : P.follows .mixedOrders = true) (F : Nat → Value → World → Prop) (r T m : Nat) (a0 : Act) (w0 w : World) (b : Int)
    (hchk : drawChk ops a0.tmps.size = true) (hlast : lastChk ops m = true)
    (hF : ∀ i v w w', F i v w → w.grownBy w' (some r) → F i v w')
    (hS : Stp r T w0 b w)
    (hob : ∀ (i : Nat) (o : Oper), i < m → ops[i]? = some o → ∀ (a : Act) (w : World) (b' : Int), b' ≤ b + m → Stp r T w0 b' w → Frm ops a0 a →
      (∀ e ∈ o.after, Region.binds .any e = true → ∀ oj d, ops[e.on]? = some oj → oj.dst = some d → F e.on (a.tmps.getD d undef) w) →
      o.wp P a w (Leaves F r T i o a w b') Q)
    (hend : ∀ (o : Oper), ops[m]? = some o → ∀ (a : Act) (w : World), Frm ops a0 a → (∀ (i : Nat) (x : Oper) (d : Nat), i < m → ops[i]? = some x → x.dst = some d → F i (a.tmps.getD d undef) w) → Stp r T w0 (b + m) w →
      o.wp P a w (fun a' w' => Q .normal a' w') Q) :
    (Code.region id ops true).wp P Q a0 w := by
  have hback : ∀ (i : Nat) (o : Oper), ops[i]? = some o → ∀ e ∈ o.after, Region.binds .any e = true → e.on < i := fun i o ho => (drawChk_spec hchk i o ho).1
  have hdst : ∀ (i j : Nat) (x y : Oper) (d : Nat), ops[i]? = some x → ops[j]? = some y → x.dst = some d → y.dst = some d → i = j := fun i j x y d hx hy hxd hyd => ((drawChk_spec hchk i x hx).2.2 d hxd).2 j y hy hyd
  have hlt : ∀ (i : Nat) (x : Oper) (d : Nat), ops[i]? = some x → x.dst = some d → d < a0.tmps.size := fun i x d hx hd => ((drawChk_spec hchk i x hx).2.2 d hd).1
  have hguard : ∀ (i : Nat) (x : Oper), ops[i]? = some x → x.guard = none := fun i x hx => (drawChk_spec hchk i x hx).2.1
  unfold lastChk at hlast
  rw [Bool.and_eq_true, decide_eq_true_eq] at hlast
  obtain ⟨hsize, hl⟩ := hlast
  have hm0 : ops[m]? = some (ops[m]'(by omega)) := Array.getElem?_eq_getElem (by omega)
  rw [hm0] at hl
  simp only [List.all_eq_true, List.mem_range] at hl
  refine wp_region_any hm ?_
  refine wpAny_inv (fun listed a w' => listed.size = ops.size ∧ ((listed.getD m true = true ∧ (∀ j, j < m → listed.getD j false = true) ∧ Q .normal a w') ∨ (listed.getD m true = false ∧ Frm ops a0 a ∧
      (∀ (i : Nat) (o : Oper) (d : Nat), listed.getD i false = true → ops[i]? = some o → o.dst = some d → F i (a.tmps.getD d undef) w') ∧
      ∃ c : Nat, c + left listed ≤ ops.size ∧ Stp r T w0 (b + c) w'))) ?_ ?_ _ _ _ _ ?_ ?_
  · intro listed a w' i ⟨hsz, hI⟩ hi
    obtain ⟨hun, o, ho, hdep⟩ := mem_ready.1 hi
    have him : i < ops.size := (Array.getElem?_eq_some_iff.1 ho).1
    unfold wpOp
    have hw : Region.wanted o (yielded ops a.tmps) = true := by simp [Region.wanted, hguard i o ho]
    simp only [ho, hw, if_true]
    left
    rcases hI with ⟨h1, h2, _⟩ | ⟨hlm, hfr, hv, c, hc, hS'⟩
    · exfalso
      by_cases e : i = m
      · subst e; rw [h1] at hun; cases hun
      · have h3 := h2 i (by omega)
        have h4 : i < listed.size := by omega
        simp [h4] at h3 hun
        rw [h3] at hun; cases hun
    · have hll := left_set hun
      by_cases e : i = m
      · subst e
        have hoe : o = ops[i] := by rw [hm0] at ho; injection ho with ho; exact ho.symm
        have hall : ∀ j, j < i → listed.getD j false = true := by
          intro j hj
          obtain ⟨e, he, hb⟩ := Array.any_eq_true'.1 (hl j hj)
          simp only [Bool.and_eq_true, beq_iff_eq] at hb
          have := hdep e (by rw [hoe]; exact he) hb.1
          rwa [hb.2] at this
        have hl1 : 1 ≤ left listed := by omega
        refine Oper.wp_mono ?_ (hend o ho a w' hfr (fun j x d hj hx hd => hv j x d (hall j hj) hx hd) (hS'.le (by omega)))
        intro a' w'' hq
        refine ⟨by simpa using hsz, .inl ⟨?_, fun j hj => ?_, hq⟩⟩
        · have : i < listed.size := by omega
          simp [this]
        · rw [getD_set_ne false (by omega)]; exact hall j hj
      · refine Oper.wp_mono ?_ (hob i o (by omega) ho a w' (b + c) (by omega) hS' hfr (fun e he hb oj d hoj hd => hv e.on oj d (hdep e he hb) hoj hd))
        rintro a' w'' ⟨v, rfl, hFv, hg, hrd⟩
        refine ⟨by simpa using hsz, .inr ⟨by rw [getD_set_ne true e]; exact hlm, ⟨?_, ?_, ?_⟩, ?_, c + 1, by omega, ?_⟩⟩
        · rw [← hfr.1]; cases o.dst <;> rfl
        · rw [← hfr.2.1]; cases o.dst <;> simp [Act.put]
        · intro k hk
          rw [getD_put_ne _ _ _ _ (hk i o ho)]
          exact hfr.2.2 k hk
        · intro j oj d hj hoj hd
          by_cases e : j = i
          · subst e
            rw [ho] at hoj
            injection hoj with hoj
            subst hoj
            rw [hd, getD_put_same _ _ _ (by rw [hfr.2.1]; exact hlt j o d ho hd)]
            exact hFv d hd
          · rw [getD_put_ne _ _ _ _ (fun h => e (hdst j i oj o d hoj ho hd h))]
            refine hF j _ w' w'' (hv j oj d ?_ hoj hd) hg
            rwa [getD_set_ne false (Ne.symm e)] at hj
        · exact ⟨grown_trans hS'.grown hg, by have h2 : (b + ((c + 1 : Nat) : Int)) = b + c + 1 := by omega
                                              rw [h2]; exact hrd⟩
  · intro listed a w' ⟨hsz, hI⟩ hr
    rcases hI with ⟨_, _, hq⟩ | ⟨hlm, _⟩
    · exact hq
    · have := unlisted_ready hback hr m (by omega)
      rw [hlm] at this; cases this
  · unfold left
    simp
  · refine ⟨by simp, .inr ⟨by have : m < ops.size := by omega
                              simp [this], ⟨rfl, rfl, fun _ _ => rfl⟩, fun i o d hi => ?_, 0, ?_, ?_⟩⟩
    · exfalso
      rcases Nat.lt_or_ge i ops.size with h | h
      · simp [h] at hi
      · simp [h] at hi
    · unfold left
      simp
    · simpa using hS.drew
end
end Go.Proofs.Ytmlodhogfejdjaa
