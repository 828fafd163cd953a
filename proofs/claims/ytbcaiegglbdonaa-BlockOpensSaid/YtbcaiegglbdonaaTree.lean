/-
  A region that draws its order, walked by a plan that parts where two operations may come in either order. Over any program.
-/
import Derived.Test.YtbcaiegglbdonaaPlan
namespace Go.Proofs.Ytbcaiegglbdonaa
open Go
inductive Tree where
  | nil : Tree
  | take (i : Nat) (t : Tree) : Tree
  | one (i : Nat) (t : Tree) : Tree
  | two (i : Nat) (t : Tree) (j : Nat) (u : Tree) : Tree
section
variable {P : Program} {ops : Array Oper} {Q : Exit → Act → World → Prop} {S : World → Prop}
def wpTree (P : Program) (ops : Array Oper) (Q : Exit → Act → World → Prop) (S : World → Prop) : Tree → Act → World → Prop
  | .nil, a, w => Q .normal a w
  | .take i t, a, w => ∃ o v, ops[i]? = some o ∧ YieldsIf P ops S o v a ∧ wpTree P ops Q S t (a.put o.dst v) w
  | .one i t, a, w => wpOp P ops Q i (fun a' w' => S w' ∧ (S w' → wpTree P ops Q S t a' w')) a w
  | .two i t j u, a, w => wpOp P ops Q i (fun a' w' => S w' ∧ (S w' → wpTree P ops Q S t a' w')) a w ∧ wpOp P ops Q j (fun a' w' => S w' ∧ (S w' → wpTree P ops Q S u a' w')) a w
def treeOK (ops : Array Oper) : Nat → Tree → Array Bool → Bool
  | 0, .nil, listed => Region.ready .any ops listed == []
  | n + 1, .take i t, listed => Region.free .any ops listed i && (Region.ready .any ops listed).contains i && treeOK ops n t (listed.setIfInBounds i true)
  | n + 1, .one i t, listed => Region.ready .any ops listed == [i] && treeOK ops n t (listed.setIfInBounds i true)
  | n + 1, .two i t j u, listed => Region.ready .any ops listed == [i, j] && treeOK ops n t (listed.setIfInBounds i true) && treeOK ops n u (listed.setIfInBounds j true)
  | _, _, _ => false
theorem tree_sound (hs : Region.noSelect ops = true) (hQ : ∀ c a w (dst : Option Tmp) v, Q (.panic c) (a.put dst v) w → Q (.panic c) a w) : ∀ (n : Nat) (t : Tree) (listed : Array Bool) (a : Act) (w : World), treeOK ops n t listed = true → S w → wpTree P ops Q S t a w →
    wpAnyH P .any ops Q S n listed a w := by
  intro n
  induction n with
  | zero =>
    intro t listed a w hp _ h
    cases t with
    | nil => exact wpAnyH_done (by simpa [treeOK] using hp) h 0
    | take => simp [treeOK] at hp
    | one => simp [treeOK] at hp
    | two => simp [treeOK] at hp
  | succ n ih =>
    intro t listed a w hp hS h
    cases t with
    | nil => simp [treeOK] at hp
    | take i t =>
      simp only [treeOK, Bool.and_eq_true] at hp
      obtain ⟨o, v, hi, hy, hr⟩ := h
      exact wpAnyH_take hi hs hp.1.1 hp.1.2 (fun c a w hq => hQ c a w _ _ hq) hy hS (ih _ _ _ _ hp.2 hS hr)
    | one i t =>
      simp only [treeOK, Bool.and_eq_true, beq_iff_eq] at hp
      refine wpAnyH_all hp.1 (by simp) ?_
      intro j hj
      obtain rfl : j = i := by simpa using hj
      exact wpOp_mono (fun a' w' hk => ⟨hk.1, ih _ _ _ _ hp.2 hk.1 (hk.2 hk.1)⟩) h
    | two i t k u =>
      simp only [treeOK, Bool.and_eq_true, beq_iff_eq] at hp
      refine wpAnyH_all hp.1.1 (by simp) ?_
      intro j hj
      rcases List.mem_cons.1 hj with rfl | hj
      · exact wpOp_mono (fun a' w' hk => ⟨hk.1, ih _ _ _ _ hp.1.2 hk.1 (hk.2 hk.1)⟩) h.1
      · obtain rfl : j = k := by simpa using hj
        exact wpOp_mono (fun a' w' hk => ⟨hk.1, ih _ _ _ _ hp.2 hk.1 (hk.2 hk.1)⟩) h.2
theorem region_tree {id : Nat} {a : Act} {w : World} (t : Tree) (hm : P.follows .mixedOrders = true) (hs : Region.noSelect ops = true) (hp : treeOK ops ops.size t (Array.replicate ops.size false) = true)
    (hQ : ∀ c a w (dst : Option Tmp) v, Q (.panic c) (a.put dst v) w → Q (.panic c) a w) (hS : S w.drew) (h : S w.drew → wpTree P ops Q S t a w.drew) : (Code.region id ops true).wp P Q a w := by
  refine wp_region_held (S := S) hm ?_
  exact tree_sound hs hQ _ _ _ _ _ hp hS (h hS)
theorem tree_nil {a : Act} {w : World} (h : Q .normal a w) : wpTree P ops Q S .nil a w := h
theorem tree_take {i : Nat} {t : Tree} {a : Act} {w : World} {o : Oper} {v : Value} (ho : ops[i]? = some o) (hw : Region.wanted o (yielded ops a.tmps) = true) (hv : ∀ w', S w' → (execOp a.eval o).run P w' = .ok (.value v) w')
    (h : wpTree P ops Q S t (a.put o.dst v) w) : wpTree P ops Q S (.take i t) a w := ⟨o, v, ho, .inl ⟨hw, hv⟩, h⟩
theorem tree_op {i : Nat} {t : Tree} {a : Act} {w : World} {o : Oper} (ho : ops[i]? = some o) (hw : Region.wanted o (yielded ops a.tmps) = true)
    (h : ∀ K : Act → World → Prop, Shut (∀ a' w', S w' → (S w' → wpTree P ops Q S t a' w') → K a' w') → Oper.wp P o a w K Q) : wpOp P ops Q i (fun a' w' => S w' ∧ (S w' → wpTree P ops Q S t a' w')) a w := by
  have h1 := h (fun a' w' => S w' ∧ (S w' → wpTree P ops Q S t a' w')) (fun a' w' h1 h2 => ⟨h1, h2⟩)
  unfold Go.wpOp
  simp only [ho, hw, if_true]
  exact .inl h1
theorem tree_one {i : Nat} {t : Tree} {a : Act} {w : World} {o : Oper} (ho : ops[i]? = some o) (hw : Region.wanted o (yielded ops a.tmps) = true)
    (h : ∀ K : Act → World → Prop, Shut (∀ a' w', S w' → (S w' → wpTree P ops Q S t a' w') → K a' w') → Oper.wp P o a w K Q) : wpTree P ops Q S (.one i t) a w := tree_op ho hw h
theorem tree_two {i j : Nat} {t u : Tree} {a : Act} {w : World} {o o' : Oper} (ho : ops[i]? = some o) (hw : Region.wanted o (yielded ops a.tmps) = true) (ho' : ops[j]? = some o') (hw' : Region.wanted o' (yielded ops a.tmps) = true)
    (h : ∀ K : Act → World → Prop, Shut (∀ a' w', S w' → (S w' → wpTree P ops Q S t a' w') → K a' w') → Oper.wp P o a w K Q)
    (h' : ∀ K : Act → World → Prop, Shut (∀ a' w', S w' → (S w' → wpTree P ops Q S u a' w') → K a' w') → Oper.wp P o' a w K Q) : wpTree P ops Q S (.two i t j u) a w := ⟨tree_op ho hw h, tree_op ho' hw' h'⟩
end
end Go.Proofs.Ytbcaiegglbdonaa
