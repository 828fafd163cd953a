/-
  A region that draws its order, walked once by a plan: the operations that yield one value in every world that meets S are taken first, the others come up alone. Over any program.
-/
import Derived.OrdersHeld
import Derived.Deep.RegionHeld
namespace Go.Proofs.Ytbcaiegglbdonaa
open Go
section
variable {P : Program} {ops : Array Oper} {Q : Exit → Act → World → Prop} {S : World → Prop}

def wpPlan (P : Program) (ops : Array Oper) (Q : Exit → Act → World → Prop) (S : World → Prop) : List (Nat × Bool) → Act → World → Prop
  | [], a, w => Q .normal a w
  | (i, true) :: rest, a, w => ∃ o v, ops[i]? = some o ∧ YieldsIf P ops S o v a ∧ wpPlan P ops Q S rest (a.put o.dst v) w
  | (i, false) :: rest, a, w => wpOp P ops Q i (fun a' w' => S w' ∧ (S w' → wpPlan P ops Q S rest a' w')) a w
def planOK (ops : Array Oper) : List (Nat × Bool) → Array Bool → Bool
  | [], listed => Region.ready .any ops listed == []
  | (i, true) :: rest, listed => Region.free .any ops listed i && (Region.ready .any ops listed).contains i && planOK ops rest (listed.setIfInBounds i true)
  | (i, false) :: rest, listed => Region.ready .any ops listed == [i] && planOK ops rest (listed.setIfInBounds i true)

theorem plan_sound (hs : Region.noSelect ops = true) (hQ : ∀ c a w (dst : Option Tmp) v, Q (.panic c) (a.put dst v) w → Q (.panic c) a w) : ∀ (plan : List (Nat × Bool)) (listed : Array Bool) (a : Act) (w : World), planOK ops plan listed = true → S w → wpPlan P ops Q S plan a w →
    wpAnyH P .any ops Q S plan.length listed a w := by
  intro plan
  induction plan with
  | nil =>
    intro listed a w hp _ h
    exact wpAnyH_done (by simpa [planOK] using hp) h 0
  | cons x plan ih =>
    intro listed a w hp hS h
    obtain ⟨i, t⟩ := x
    cases t with
    | true =>
      simp only [planOK, Bool.and_eq_true] at hp
      obtain ⟨o, v, hi, hy, hr⟩ := h
      exact wpAnyH_take hi hs hp.1.1 hp.1.2 (fun c a w hq => hQ c a w _ _ hq) hy hS (ih _ _ _ hp.2 hS hr)
    | false =>
      simp only [planOK, Bool.and_eq_true, beq_iff_eq] at hp
      refine wpAnyH_all hp.1 (by simp) ?_
      intro j hj
      obtain rfl : j = i := by simpa using hj
      exact wpOp_mono (fun a' w' hk => ⟨hk.1, ih _ _ _ hp.2 hk.1 (hk.2 hk.1)⟩) h

/-- The beginning. -/
theorem region_plan {id : Nat} {a : Act} {w : World} (plan : List (Nat × Bool)) (hm : P.follows .mixedOrders = true) (hl : plan.length = ops.size) (hs : Region.noSelect ops = true) (hp : planOK ops plan (Array.replicate ops.size false) = true)
    (hQ : ∀ c a w (dst : Option Tmp) v, Q (.panic c) (a.put dst v) w → Q (.panic c) a w) (hS : S w.drew) (h : S w.drew → wpPlan P ops Q S plan a w.drew) : (Code.region id ops true).wp P Q a w := by
  refine wp_region_held (S := S) hm ?_
  rw [← hl] at hp ⊢
  exact plan_sound hs hQ plan _ _ _ hp hS (h hS)

theorem plan_nil {a : Act} {w : World} (h : Q .normal a w) : wpPlan P ops Q S [] a w := h
theorem plan_take {i : Nat} {rest : List (Nat × Bool)} {a : Act} {w : World} {o : Oper} {v : Value} (ho : ops[i]? = some o) (hw : Region.wanted o (yielded ops a.tmps) = true) (hv : ∀ w', S w' → (execOp a.eval o).run P w' = .ok (.value v) w')
    (h : wpPlan P ops Q S rest (a.put o.dst v) w) : wpPlan P ops Q S ((i, true) :: rest) a w := ⟨o, v, ho, .inl ⟨hw, hv⟩, h⟩
theorem plan_skip {i : Nat} {rest : List (Nat × Bool)} {a : Act} {w : World} {o : Oper} (ho : ops[i]? = some o) (hw : Region.wanted o (yielded ops a.tmps) = false)
    (h : wpPlan P ops Q S rest (a.put o.dst undef) w) : wpPlan P ops Q S ((i, true) :: rest) a w := ⟨o, undef, ho, .inr ⟨hw, rfl⟩, h⟩
theorem plan_solo {i : Nat} {rest : List (Nat × Bool)} {a : Act} {w : World} {o : Oper} (ho : ops[i]? = some o) (hw : Region.wanted o (yielded ops a.tmps) = true)
    (h : ∀ K : Act → World → Prop, Shut (∀ a' w', S w' → (S w' → wpPlan P ops Q S rest a' w') → K a' w') → Oper.wp P o a w K Q) : wpPlan P ops Q S ((i, false) :: rest) a w := by
  have h1 := h (fun a' w' => S w' ∧ (S w' → wpPlan P ops Q S rest a' w')) (fun a' w' h1 h2 => ⟨h1, h2⟩)
  show Go.wpOp P ops Q i _ a w
  unfold Go.wpOp
  simp only [ho, hw, if_true]
  exact .inl h1
theorem plan_solo_skip {i : Nat} {rest : List (Nat × Bool)} {a : Act} {w : World} {o : Oper} (ho : ops[i]? = some o) (hw : Region.wanted o (yielded ops a.tmps) = false) (hS : S w)
    (h : wpPlan P ops Q S rest (a.put o.dst undef) w) : wpPlan P ops Q S ((i, false) :: rest) a w := by
  show Go.wpOp P ops Q i _ a w
  unfold Go.wpOp
  simp only [ho, hw, Bool.false_eq_true, if_false]
  exact ⟨hS, fun _ => h⟩
end
end Go.Proofs.Ytbcaiegglbdonaa
