/-
  The reference's Less; two scans that touch are one (plain).
-/
import Derived.Test.YtbcaiegglbdonaaMemScan
namespace Go.Proofs.Ytbcaiegglbdonaa
open Go.RowKit

theorem lt_str (a b : ByteArray) : Op.bytesLess a.toList b.toList = true ↔ SLt a b := by rw [Lib.toList_data, Lib.toList_data]; rfl

set_option maxRecDepth 100000 in
set_option maxHeartbeats 1000000 in
theorem less_spec (a b : Cell) (w : World) :
    Calls Try.prog 25 #[.agg #[.string a.key, .int .u64 a.seq, .string a.val, .bool a.gone], .agg #[.string b.key, .int .u64 b.seq, .string b.val, .bool b.gone]] w fun e w' => e = .returned (.bool (decide (PLt a.key a.seq b.key b.seq))) ∧ Below w.heap.size w w' := by
  by_cases h1 : Op.bytesLess a.key.toList b.key.toList = true
  · have hp : decide (PLt a.key a.seq b.key b.seq) = true := by simp only [decide_eq_true_eq]; exact .inl ((lt_str _ _).1 h1)
    rw [hp]
    clear hp
    go_enter Try.func25, Try.ntmps25
    go_wp2_with fail
    go_ret
    exact ⟨rfl, ((Below.refl _ _).alloc (Nat.le_refl _) _).alloc (by simp) _⟩
  have h1 : Op.bytesLess a.key.toList b.key.toList = false := by simpa using h1
  by_cases h2 : (a.key.toList == b.key.toList) = true
  · by_cases h3 : b.seq < a.seq
    · have hp : decide (PLt a.key a.seq b.key b.seq) = true := by simp only [decide_eq_true_eq]; exact .inr ⟨str_beq.1 h2, h3⟩
      rw [hp]
      clear hp
      go_enter Try.func25, Try.ntmps25
      go_wp2_with fail
      go_ret
      exact ⟨rfl, ((Below.refl _ _).alloc (Nat.le_refl _) _).alloc (by simp) _⟩
    · have hp : decide (PLt a.key a.seq b.key b.seq) = false := by
        simp only [decide_eq_false_iff_not]
        rintro (h | ⟨_, h⟩)
        · rw [(lt_str _ _).2 h] at h1; cases h1
        · exact h3 h
      rw [hp]
      clear hp
      go_enter Try.func25, Try.ntmps25
      go_wp2_with fail
      go_ret
      exact ⟨rfl, ((Below.refl _ _).alloc (Nat.le_refl _) _).alloc (by simp) _⟩
  have h2 : (a.key.toList == b.key.toList) = false := by simpa using h2
  have hp : decide (PLt a.key a.seq b.key b.seq) = false := by
    simp only [decide_eq_false_iff_not]
    rintro (h | ⟨h, _⟩)
    · rw [(lt_str _ _).2 h] at h1; cases h1
    · exact str_beq_false.1 h2 h
  rw [hp]
  clear hp
  go_enter Try.func25, Try.ntmps25
  go_wp2_with fail
  go_ret
  exact ⟨rfl, ((Below.refl _ _).alloc (Nat.le_refl _) _).alloc (by simp) _⟩

/-! ### Plain -/
theorem scanL_low {fr to : ByteArray} {cs : List Cell} (h : ∀ c ∈ cs, SLt c.key fr) (ds : List Cell) : scanL fr to (cs ++ ds) = scanL fr to ds := by
  induction cs with
  | nil => rfl
  | cons c cs ih => simp only [List.cons_append, scanL]; rw [if_pos ((lt_str _ _).2 (h c (by simp)))]; exact ih fun d hd => h d (by simp [hd])
def KSorted (cs : List Cell) : Prop := cs.Pairwise fun x y => ¬ SLt y.key x.key
theorem scanL_filter {fr to : ByteArray} : ∀ {cs : List Cell}, KSorted cs → scanL fr to cs = cs.filter fun c => !Op.bytesLess c.key.toList fr.toList && (decide (to.toList = []) || Op.bytesLess c.key.toList to.toList) := by
  intro cs
  induction cs with
  | nil => intro _; rfl
  | cons c cs ih =>
    intro hs
    obtain ⟨h1, h2⟩ := List.pairwise_cons.1 hs
    unfold scanL
    by_cases hl : Op.bytesLess c.key.toList fr.toList = true
    · rw [if_pos hl, List.filter_cons_of_neg (by simp [hl])]; exact ih h2
    rw [if_neg hl]
    by_cases ht : to.toList ≠ [] ∧ Op.bytesLess c.key.toList to.toList = false
    · rw [if_pos ht]
      symm
      rw [List.filter_eq_nil_iff]
      intro d hd
      rcases List.mem_cons.1 hd with rfl | hd
      · simp [ht.1, ht.2]
      · have h3 := h1 d hd
        have h4 : ¬ Op.bytesLess d.key.toList to.toList = true := by
          intro h5
          have h5 := (lt_str _ _).1 h5
          rcases SLt.total c.key d.key with h6 | h6 | h6
          · have := (lt_str _ _).2 (h6.trans h5); rw [ht.2] at this; cases this
          · rw [← h6] at h5; have := (lt_str _ _).2 h5; rw [ht.2] at this; cases this
          · exact h3 h6
        simp [ht.1, h4]
    · rw [if_neg ht, List.filter_cons_of_pos, ih h2]
      by_cases h6 : to.toList = []
      · simp [h6, hl]
      · have : Op.bytesLess c.key.toList to.toList = true := by
          by_cases h7 : Op.bytesLess c.key.toList to.toList = true
          · exact h7
          · exact absurd ⟨h6, by simpa using h7⟩ ht
        simp [this, hl]
theorem filter_touch {α : Type} (p q r : α → Bool) (l : List α) (h : l.Pairwise fun x y => q x = true → ¬ p y = true) (hd : ∀ x ∈ l, r x = (p x || q x)) (hx : ∀ x ∈ l, ¬ (p x = true ∧ q x = true)) : l.filter p ++ l.filter q = l.filter r := by
  induction l with
  | nil => rfl
  | cons x l ih =>
    obtain ⟨h1, h2⟩ := List.pairwise_cons.1 h
    have hi := ih h2 (fun y hy => hd y (by simp [hy])) (fun y hy => hx y (by simp [hy]))
    have hr := hd x (by simp)
    by_cases hp : p x = true
    · rw [List.filter_cons_of_pos hp, List.filter_cons_of_neg (fun hq => hx x (by simp) ⟨hp, hq⟩), List.filter_cons_of_pos (by rw [hr]; simp [hp]), ← hi]; rfl
    · rw [List.filter_cons_of_neg hp]
      by_cases hq : q x = true
      · rw [List.filter_cons_of_pos hq, List.filter_cons_of_pos (by rw [hr]; simp [hq]), ← hi]
        have : l.filter p = [] := List.filter_eq_nil_iff.2 fun y hy => h1 y hy hq
        rw [this]; rfl
      · rw [List.filter_cons_of_neg hq, List.filter_cons_of_neg (by rw [hr]; simp [hp, hq])]; exact hi
theorem scan_touch {fr mid to : ByteArray} {cs : List Cell} (hs : KSorted cs) (h1 : ¬ SLt mid fr) (h2 : mid.toList ≠ []) (h3 : to.toList ≠ [] → ¬ SLt to mid) : scanL fr mid cs ++ scanL mid to cs = scanL fr to cs := by
  rw [scanL_filter hs, scanL_filter hs, scanL_filter hs]
  have L : ∀ a b : ByteArray, Op.bytesLess a.toList b.toList = decide (SLt a b) := fun a b => by
    by_cases h : SLt a b
    · rw [decide_eq_true h]; exact (lt_str _ _).2 h
    · rw [decide_eq_false h]; simpa using fun h' => h ((lt_str _ _).1 h')
  simp only [L]
  have ht : ∀ {a b c : ByteArray}, ¬ SLt a b → SLt a c → ¬ SLt b c → False := fun {a b c} h k g => by
    rcases SLt.total a b with e | e | e
    · exact h e
    · subst e; exact g k
    · exact g (e.trans k)
  have nt : ∀ {a b c : ByteArray}, SLt a b → ¬ SLt c b → SLt a c := fun {a b c} h k => by
    rcases SLt.total c b with e | e | e
    · exact absurd e k
    · subst e; exact h
    · exact h.trans e
  refine filter_touch _ _ _ _ (hs.imp fun {x y} hxy hq hp => ?_) (fun x _ => ?_) (fun x _ => ?_)
  · simp only [Bool.and_eq_true, Bool.not_eq_true', decide_eq_false_iff_not, Bool.or_eq_true, decide_eq_true_eq, h2, false_or] at hq hp
    exact hxy (nt hp.2 hq.1)
  · by_cases hf : SLt x.key fr
    · have : SLt x.key mid := nt hf h1
      simp [hf, this]
    · by_cases hm : SLt x.key mid
      · by_cases hte : to.toList = []
        · simp [hf, hm, hte, h2]
        · have : SLt x.key to := nt hm (h3 hte)
          simp [hf, hm, this, h2]
      · simp [hf, hm, h2]
  · simp only [Bool.and_eq_true, Bool.not_eq_true', decide_eq_false_iff_not, Bool.or_eq_true, decide_eq_true_eq, h2, false_or]
    rintro ⟨⟨_, a⟩, b, _⟩
    exact b a

end Go.Proofs.Ytbcaiegglbdonaa
