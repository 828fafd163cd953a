/-
  The laws' does: one step, of a table and the reference.
-/
import Derived.Test.YtbcaiegglbdonaaPlanTac
import Derived.Test.YtbcaiegglbdonaaTree
import Derived.Test.YtbcaiegglbdonaaLooks
import Derived.Test.YtbcaiegglbdonaaMemGoes
import Derived.Test.YtbcaiegglbdonaaMemOrder
import Derived.Test.YtbcaiegglbdonaaOpenOps
namespace Go.Proofs.Ytbcaiegglbdonaa
open Go.RowKit

def stepM (M : MM) (o : Step) : MM := if o.kind = 0 then (putRes M o.c o.n).2 else M
def DoesPost (w : World) (base a r : Nat) (F : Nat → Prop) (M : MM) (o : Step) (e : Ending) (w' : World) : Prop :=
  e = .returned (.bool true) ∧ ∃ F', Duo w' base a r F' (stepM M o) ∧ (∀ k, F' k → F k ∨ w.heap.size ≤ k) ∧ Only (fun k => F k ∨ k = r) w w'
theorem box7 {w : World} {b : Nat} {v0 v1 v2 v3 v4 v5 v6 : Value} {t : TypeId} (h : Blk w b #[v0, v1, v2, v3, v4, v5, v6] t) :
    w.cell? ⟨b, 0, none⟩ = some v0 ∧ w.cell? ⟨b, 1, none⟩ = some v1 ∧ w.cell? ⟨b, 2, none⟩ = some v2 ∧ w.cell? ⟨b, 3, none⟩ = some v3 ∧ w.cell? ⟨b, 4, none⟩ = some v4 ∧ w.cell? ⟨b, 5, none⟩ = some v5 ∧ w.cell? ⟨b, 6, none⟩ = some v6 :=
  ⟨h.cell 0 _ rfl, h.cell 1 _ rfl, h.cell 2 _ rfl, h.cell 3 _ rfl, h.cell 4 _ rfl, h.cell 5 _ rfl, h.cell 6 _ rfl⟩
theorem scan_part {fr tt : ByteArray} {cs : List Cell} (h : KSorted cs) : cs.filter (partP fr tt) = scanL fr tt cs := (scanL_filter h).symm
theorem does_stay {w w' : World} {base a r : Nat} {F : Nat → Prop} {M : MM} {o : Step} (h : Duo w base a r F M) (hk : o.kind ≠ 0) (hb : Below w.heap.size w w') : DoesPost w base a r F M o (.returned (.bool true)) w' :=
  ⟨rfl, F, by unfold stepM; rw [if_neg hk]; exact h.kept hb, fun k hk => .inl hk, Only.of_below hb⟩

set_option maxRecDepth 100000 in
set_option maxHeartbeats 4000000 in
theorem does_put {w : World} {base a r : Nat} {F : Nat → Prop} {M : MM} (h : Duo w base a r F M) (hB : base ≤ w.heap.size) (hl : M.length ≤ 2700000000000) (o : Step) (hk : o.kind = 0) :
    Calls Try.prog 32 #[.pointer (some ⟨a, 0, none⟩), .pointer (some ⟨r, 0, none⟩), .agg #[.int .i64 o.kind, .string o.c.key, .int .u64 o.c.seq, .string o.c.val, .bool o.c.gone, .string o.to, .int .i64 o.n]] w (DoesPost w base a r F M o) := by
  have HS := Lib.hid (show stepM M o = (putRes M o.c o.n).2 by unfold stepM; rw [if_pos hk])
  have HD := Lib.hid h
  have HK := Lib.hid hk
  obtain ⟨vc, vh, g1, _, _⟩ := h.ref.ex
  have rl := g1.lt
  have hFr := h.rout
  have hFlt := h.mem.lt
  have hkq : (o.kind == 0) = true := by simpa using hk
  have hb0 : Below w.heap.size w (w.alloc (.cells #[.int .i64 o.kind, .string o.c.key, .int .u64 o.c.seq, .string o.c.val, .bool o.c.gone, .string o.to, .int .i64 o.n] 51)).drew := ((Below.refl _ _).alloc (Nat.le_refl _) _).drew
  have hBx : Blk (w.alloc (.cells #[.int .i64 o.kind, .string o.c.key, .int .u64 o.c.seq, .string o.c.val, .bool o.c.gone, .string o.to, .int .i64 o.n] 51)).drew w.heap.size #[.int .i64 o.kind, .string o.c.key, .int .u64 o.c.seq, .string o.c.val, .bool o.c.gone, .string o.to, .int .i64 o.n] 51 := Blk.new ..
  clear h g1 hk
  go_enter Try.func32, Try.ntmps32
  go_wp2_with fail
  refine region_plan (S := fun w' => w'.cell? ⟨w.heap.size, 0, none⟩ = some (.int .i64 o.kind) ∧ w'.cell? ⟨w.heap.size, 1, none⟩ = some (.string o.c.key) ∧ w'.cell? ⟨w.heap.size, 2, none⟩ = some (.int .u64 o.c.seq) ∧ w'.cell? ⟨w.heap.size, 3, none⟩ = some (.string o.c.val) ∧ w'.cell? ⟨w.heap.size, 4, none⟩ = some (.bool o.c.gone) ∧ w'.cell? ⟨w.heap.size, 5, none⟩ = some (.string o.to) ∧ w'.cell? ⟨w.heap.size, 6, none⟩ = some (.int .i64 o.n))
    ((0, true) :: (1, true) :: (2, true) :: (3, true) :: (4, true) :: (6, true) :: (7, true) :: (8, true) :: (9, true) :: (10, true) :: (5, false) :: (11, false) :: (12, true) :: (13, true) :: (14, true) :: (15, true) :: (17, true) :: (18, true) :: (16, false) :: (19, false) :: (20, true) :: (21, true) :: (22, true) :: [])
    (by kernel_rfl) (by kernel_rfl) (by kernel_rfl) (by kernel_rfl) (fun _ _ _ dst _ h => by cases dst <;> exact h) (box7 hBx) (fun hH => ?_)
  (repeat (first | (refine plan_take (v := ?_) (by (simp only [List.getElem?_toArray, List.getElem?_cons_succ, List.getElem?_cons_zero]; exact rfl)) (by rfl) ?_ ?_; rotate_left; (focus (intro wS hS; (try dsimp only at hS); go_split_ands; go_simp; (try with_reducible rfl))); simp only [Act.put, List.setIfInBounds_toArray, List.set_cons_zero, List.set_cons_succ]) | (refine plan_skip (by (simp only [List.getElem?_toArray, List.getElem?_cons_succ, List.getElem?_cons_zero]; exact rfl)) (by rfl) ?_; simp only [Act.put, List.setIfInBounds_toArray, List.set_cons_zero, List.set_cons_succ])))
  (refine plan_solo (by (simp only [List.getElem?_toArray, List.getElem?_cons_succ, List.getElem?_cons_zero]; exact rfl)) (by rfl) ?_; intro K hK; go_simp)
  refine (put_model (HD.out.kept hb0).mem o.c o.n (by omega)).mono ?_
  rintro e w1 ⟨F1, rfl, hm1, hF1, ho1⟩
  obtain ⟨F1', hm1', ht1, hs1⟩ := hm1.typed
  have hBx1 := hBx.only ho1 (fun hF => Nat.lt_irrefl _ (hFlt _ hF))
  have hr1 := (HD.out.kept hb0).ref.typed (HD.out.kept hb0).typ ho1
  refine hK.out _ _ (box7 hBx1) (fun hH => ?_)
  clear hK K
  try simp only [Act.put, List.setIfInBounds_toArray, List.set_cons_zero, List.set_cons_succ]
  (repeat (first | (refine plan_take (v := ?_) (by (simp only [List.getElem?_toArray, List.getElem?_cons_succ, List.getElem?_cons_zero]; exact rfl)) (by rfl) ?_ ?_; rotate_left; (focus (intro wS hS; (try dsimp only at hS); go_split_ands; go_simp; (try with_reducible rfl))); simp only [Act.put, List.setIfInBounds_toArray, List.set_cons_zero, List.set_cons_succ]) | (refine plan_skip (by (simp only [List.getElem?_toArray, List.getElem?_cons_succ, List.getElem?_cons_zero]; exact rfl)) (by rfl) ?_; simp only [Act.put, List.setIfInBounds_toArray, List.set_cons_zero, List.set_cons_succ])))
  (refine plan_solo (by (simp only [List.getElem?_toArray, List.getElem?_cons_succ, List.getElem?_cons_zero]; exact rfl)) (by rfl) ?_; intro K hK; go_simp)
  refine (ref_put hr1 (Nat.le_trans hB (Nat.le_trans hb0.size ho1.size)) hl o.c o.n).mono ?_
  rintro e w2 ⟨rfl, hr2, ho2⟩
  have hBx2 := hBx1.only ho2 (by omega)
  have hm2 := hm1'.only ho2 (fun k hF e => by subst e; obtain ⟨vc, vh, q1, _⟩ := hr1.ex; exact ht1.not q1 (by decide) (by decide) hF)
  have ht2 := ht1.only ho2 (fun k hF e => by subst e; obtain ⟨vc, vh, q1, _⟩ := hr1.ex; exact ht1.not q1 (by decide) (by decide) hF)
  refine hK.out _ _ (box7 hBx2) (fun hH => ?_)
  clear hK K
  try simp only [Act.put, List.setIfInBounds_toArray, List.set_cons_zero, List.set_cons_succ]
  (repeat (first | (refine plan_take (v := ?_) (by (simp only [List.getElem?_toArray, List.getElem?_cons_succ, List.getElem?_cons_zero]; exact rfl)) (by rfl) ?_ ?_; rotate_left; (focus (intro wS hS; (try dsimp only at hS); go_split_ands; go_simp; (try with_reducible rfl))); simp only [Act.put, List.setIfInBounds_toArray, List.set_cons_zero, List.set_cons_succ]) | (refine plan_skip (by (simp only [List.getElem?_toArray, List.getElem?_cons_succ, List.getElem?_cons_zero]; exact rfl)) (by rfl) ?_; simp only [Act.put, List.setIfInBounds_toArray, List.set_cons_zero, List.set_cons_succ])))
  (refine plan_solo (by (simp only [List.getElem?_toArray, List.getElem?_cons_succ, List.getElem?_cons_zero]; exact rfl)) (by rfl) ?_; intro K hK; go_simp)
  refine (check_spec o.c _).mono ?_
  rintro e w3 ⟨rfl, hb3⟩
  refine hK.out _ _ (box7 (hBx2.kept hb3)) (fun hH => ?_)
  clear hK K
  try simp only [Act.put, List.setIfInBounds_toArray, List.set_cons_zero, List.set_cons_succ]
  (repeat (first | (refine plan_take (v := ?_) (by (simp only [List.getElem?_toArray, List.getElem?_cons_succ, List.getElem?_cons_zero]; exact rfl)) (by rfl) ?_ ?_; rotate_left; (focus (intro wS hS; (try dsimp only at hS); go_split_ands; go_simp; (try with_reducible rfl))); simp only [Act.put, List.setIfInBounds_toArray, List.set_cons_zero, List.set_cons_succ]) | (refine plan_skip (by (simp only [List.getElem?_toArray, List.getElem?_cons_succ, List.getElem?_cons_zero]; exact rfl)) (by rfl) ?_; simp only [Act.put, List.setIfInBounds_toArray, List.set_cons_zero, List.set_cons_succ])))
  (refine plan_solo (by (simp only [List.getElem?_toArray, List.getElem?_cons_succ, List.getElem?_cons_zero]; exact rfl)) (by rfl) ?_; intro K hK; go_simp)
  refine (ref_check o.c _).mono ?_
  rintro e w4 ⟨rfl, hb4⟩
  refine hK.out _ _ (box7 ((hBx2.kept hb3).kept hb4)) (fun hH => ?_)
  clear hK K
  try simp only [Act.put, List.setIfInBounds_toArray, List.set_cons_zero, List.set_cons_succ]
  have b4 : Below w2.heap.size w2 w4 := hb3.trans (hb4.mono hb3.size)
  (repeat (first | (refine plan_take (v := ?_) (by (simp only [List.getElem?_toArray, List.getElem?_cons_succ, List.getElem?_cons_zero]; exact rfl)) (by rfl) ?_ ?_; rotate_left; (focus (intro wS hS; (try dsimp only at hS); go_split_ands; go_simp; (try with_reducible rfl))); simp only [Act.put, List.setIfInBounds_toArray, List.set_cons_zero, List.set_cons_succ]) | (refine plan_skip (by (simp only [List.getElem?_toArray, List.getElem?_cons_succ, List.getElem?_cons_zero]; exact rfl)) (by rfl) ?_; simp only [Act.put, List.setIfInBounds_toArray, List.set_cons_zero, List.set_cons_succ])))
  refine plan_nil ?_
  go_wp2_with fail
  go_ret
  refine ⟨rfl, F1', by rw [HS.out]; exact ⟨hm2.kept b4, ht2.kept b4, hr2.kept b4⟩, fun k hk => ?_, ?_⟩
  · rcases hF1 k (hs1 k hk) with h | h
    · exact .inl h
    · exact .inr (Nat.le_trans hb0.size h)
  · exact (Only.of_below hb0).trans ((ho1.mono fun k _ hF => .inl hF).trans ((ho2.mono fun k _ e => .inr e).trans (Only.of_below b4)))

set_option maxRecDepth 100000 in
set_option maxHeartbeats 4000000 in
theorem does_look {w : World} {base a r : Nat} {F : Nat → Prop} {M : MM} (h : Duo w base a r F M) (hl : M.length ≤ 2700000000000) (o : Step) (hk : o.kind = 3) :
    Calls Try.prog 32 #[.pointer (some ⟨a, 0, none⟩), .pointer (some ⟨r, 0, none⟩), .agg #[.int .i64 o.kind, .string o.c.key, .int .u64 o.c.seq, .string o.c.val, .bool o.c.gone, .string o.to, .int .i64 o.n]] w (DoesPost w base a r F M o) := by
  have HK := Lib.hid (show o.kind ≠ 0 by omega)
  have HD := Lib.hid h
  have hlen : (M.map (·.1)).length = M.length := List.length_map ..
  obtain ⟨vc, vh, g1, g2, _⟩ := h.ref.ex
  obtain ⟨Ac, kc, rfl⟩ := (Reads.of_own g2).form
  have hrc : Reads w (.slice Ac M.length kc) (M.map (·.1)).length 4 (cellVals (M.map (·.1))) := by rw [hlen]; exact Reads.of_own g2
  have HRC := Lib.hid hrc
  have HL := Lib.hid hlen
  have rl := g1.lt
  have hkq0 : (o.kind == 0) = false := by simp; omega
  have hkq1 : (o.kind == 1) = false := by simp; omega
  have hkq2 : (o.kind == 2) = false := by simp; omega
  have hkq3 : (o.kind == 3) = true := by simp; omega
  have r0 : w.cell? ⟨r, 0, none⟩ = some (.slice Ac M.length kc) := g1.cell 0 _ rfl
  have hb0 : Below w.heap.size w (w.alloc (.cells #[.int .i64 o.kind, .string o.c.key, .int .u64 o.c.seq, .string o.c.val, .bool o.c.gone, .string o.to, .int .i64 o.n] 51)) := ((Below.refl _ _).alloc (Nat.le_refl _) _)
  have hBx : Blk (w.alloc (.cells #[.int .i64 o.kind, .string o.c.key, .int .u64 o.c.seq, .string o.c.val, .bool o.c.gone, .string o.to, .int .i64 o.n] 51)) w.heap.size #[.int .i64 o.kind, .string o.c.key, .int .u64 o.c.seq, .string o.c.val, .bool o.c.gone, .string o.to, .int .i64 o.n] 51 := Blk.new ..
  clear h g1 g2 hk hrc hlen
  go_enter Try.func32, Try.ntmps32
  go_wp2_with (go_at_call 33; refine (looks_spec (HD.out.kept hb0) hl).mono ?_; rintro e w1 ⟨rfl, hb1⟩)
  go_ret
  exact does_stay HD.out HK.out (hb0.trans (hb1.mono hb0.size))

set_option maxRecDepth 100000 in
set_option maxHeartbeats 4000000 in
theorem does_none {w : World} {base a r : Nat} {F : Nat → Prop} {M : MM} (h : Duo w base a r F M) (o : Step) (hk : o.kind ≠ 0 ∧ o.kind ≠ 1 ∧ o.kind ≠ 2 ∧ o.kind ≠ 3) :
    Calls Try.prog 32 #[.pointer (some ⟨a, 0, none⟩), .pointer (some ⟨r, 0, none⟩), .agg #[.int .i64 o.kind, .string o.c.key, .int .u64 o.c.seq, .string o.c.val, .bool o.c.gone, .string o.to, .int .i64 o.n]] w (DoesPost w base a r F M o) := by
  have HK := Lib.hid (show o.kind ≠ 0 from hk.1)
  have HD := Lib.hid h
  have hlen : (M.map (·.1)).length = M.length := List.length_map ..
  obtain ⟨vc, vh, g1, g2, _⟩ := h.ref.ex
  obtain ⟨Ac, kc, rfl⟩ := (Reads.of_own g2).form
  have hrc : Reads w (.slice Ac M.length kc) (M.map (·.1)).length 4 (cellVals (M.map (·.1))) := by rw [hlen]; exact Reads.of_own g2
  have HRC := Lib.hid hrc
  have HL := Lib.hid hlen
  have rl := g1.lt
  have hkq0 : (o.kind == 0) = false := by simpa using hk.1
  have hkq1 : (o.kind == 1) = false := by simpa using hk.2.1
  have hkq2 : (o.kind == 2) = false := by simpa using hk.2.2.1
  have hkq3 : (o.kind == 3) = false := by simpa using hk.2.2.2
  have r0 : w.cell? ⟨r, 0, none⟩ = some (.slice Ac M.length kc) := g1.cell 0 _ rfl
  have hb0 : Below w.heap.size w (w.alloc (.cells #[.int .i64 o.kind, .string o.c.key, .int .u64 o.c.seq, .string o.c.val, .bool o.c.gone, .string o.to, .int .i64 o.n] 51)) := ((Below.refl _ _).alloc (Nat.le_refl _) _)
  have hBx : Blk (w.alloc (.cells #[.int .i64 o.kind, .string o.c.key, .int .u64 o.c.seq, .string o.c.val, .bool o.c.gone, .string o.to, .int .i64 o.n] 51)) w.heap.size #[.int .i64 o.kind, .string o.c.key, .int .u64 o.c.seq, .string o.c.val, .bool o.c.gone, .string o.to, .int .i64 o.n] 51 := Blk.new ..
  clear h g1 g2 hk hrc hlen
  go_enter Try.func32, Try.ntmps32
  go_wp2_with fail
  go_ret
  exact does_stay HD.out HK.out hb0

set_option maxRecDepth 100000 in
set_option maxHeartbeats 4000000 in
theorem does_scan {w : World} {base a r : Nat} {F : Nat → Prop} {M : MM} (h : Duo w base a r F M) (hl : M.length ≤ 2700000000000) (o : Step) (hk : o.kind = 2) :
    Calls Try.prog 32 #[.pointer (some ⟨a, 0, none⟩), .pointer (some ⟨r, 0, none⟩), .agg #[.int .i64 o.kind, .string o.c.key, .int .u64 o.c.seq, .string o.c.val, .bool o.c.gone, .string o.to, .int .i64 o.n]] w (DoesPost w base a r F M o) := by
  have HK := Lib.hid (show o.kind ≠ 0 by omega)
  have HD := Lib.hid h
  have hlen : (M.map (·.1)).length = M.length := List.length_map ..
  obtain ⟨vc, vh, g1, g2, _⟩ := h.ref.ex
  obtain ⟨Ac, kc, rfl⟩ := (Reads.of_own g2).form
  have hrc : Reads w (.slice Ac M.length kc) (M.map (·.1)).length 4 (cellVals (M.map (·.1))) := by rw [hlen]; exact Reads.of_own g2
  have HRC := Lib.hid hrc
  have HL := Lib.hid hlen
  have rl := g1.lt
  have hkq0 : (o.kind == 0) = false := by simp; omega
  have hkq1 : (o.kind == 1) = false := by simp; omega
  have hkq2 : (o.kind == 2) = true := by simp; omega
  have HPS := Lib.hid (scan_part (fr := o.c.key) (tt := o.to) (ksorted_of h.mem.sorted))
  have r0 : w.cell? ⟨r, 0, none⟩ = some (.slice Ac M.length kc) := g1.cell 0 _ rfl
  have hb0 : Below w.heap.size w (w.alloc (.cells #[.int .i64 o.kind, .string o.c.key, .int .u64 o.c.seq, .string o.c.val, .bool o.c.gone, .string o.to, .int .i64 o.n] 51)) := ((Below.refl _ _).alloc (Nat.le_refl _) _)
  have hBx : Blk (w.alloc (.cells #[.int .i64 o.kind, .string o.c.key, .int .u64 o.c.seq, .string o.c.val, .bool o.c.gone, .string o.to, .int .i64 o.n] 51)) w.heap.size #[.int .i64 o.kind, .string o.c.key, .int .u64 o.c.seq, .string o.c.val, .bool o.c.gone, .string o.to, .int .i64 o.n] 51 := Blk.new ..
  clear h g1 g2 hk hrc hlen
  go_enter Try.func32, Try.ntmps32
  go_wp2_with fail
  have r0' := cell_keep (hb0.drew) r0
  have hss := scan_some (.pointer (some ⟨a, 0, none⟩)) o.c.key o.to (w.alloc (.cells #[.int .i64 o.kind, .string o.c.key, .int .u64 o.c.seq, .string o.c.val, .bool o.c.gone, .string o.to, .int .i64 o.n] 51)).drew ⟨_, rfl⟩
  obtain ⟨q, hq⟩ : ∃ q, (w.alloc (.cells #[.int .i64 o.kind, .string o.c.key, .int .u64 o.c.seq, .string o.c.val, .bool o.c.gone, .string o.to, .int .i64 o.n] 51)).drew.heap.size = q := ⟨_, rfl⟩
  rw [hq] at hss
  have HSS := Lib.hid hss
  have HQ := Lib.hid hq
  clear hss hq
  refine region_plan (S := fun w' => (w'.cell? ⟨w.heap.size, 0, none⟩ = some (.int .i64 o.kind) ∧ w'.cell? ⟨w.heap.size, 1, none⟩ = some (.string o.c.key) ∧ w'.cell? ⟨w.heap.size, 2, none⟩ = some (.int .u64 o.c.seq) ∧ w'.cell? ⟨w.heap.size, 3, none⟩ = some (.string o.c.val) ∧ w'.cell? ⟨w.heap.size, 4, none⟩ = some (.bool o.c.gone) ∧ w'.cell? ⟨w.heap.size, 5, none⟩ = some (.string o.to) ∧ w'.cell? ⟨w.heap.size, 6, none⟩ = some (.int .i64 o.n)) ∧ w'.cell? ⟨r, 0, none⟩ = some (.slice Ac M.length kc))
    ((0, true) :: (1, true) :: (2, true) :: (3, true) :: (4, true) :: (5, true) :: (7, true) :: (8, true) :: (9, true) :: (10, true) :: (11, true) :: (12, true) :: (13, true) :: (14, true) :: (15, true) :: (17, true) :: (18, true) :: (6, false) :: (16, false) :: (19, false) :: (20, true) :: [])
    (by kernel_rfl) (by kernel_rfl) (by kernel_rfl) (by kernel_rfl) (fun _ _ _ dst _ h => by cases dst <;> exact h) ⟨box7 hBx.drew, r0'⟩ (fun hH => ?_)
  (repeat (first | (refine plan_take (v := ?_) (by (simp only [List.getElem?_toArray, List.getElem?_cons_succ, List.getElem?_cons_zero]; exact rfl)) (by rfl) ?_ ?_; rotate_left; (focus (intro wS hS; (try dsimp only at hS); go_split_ands; go_simp; (try with_reducible rfl))); simp only [Act.put, List.setIfInBounds_toArray, List.set_cons_zero, List.set_cons_succ]) | (refine plan_skip (by (simp only [List.getElem?_toArray, List.getElem?_cons_succ, List.getElem?_cons_zero]; exact rfl)) (by rfl) ?_; simp only [Act.put, List.setIfInBounds_toArray, List.set_cons_zero, List.set_cons_succ])))
  (refine plan_solo (by (simp only [List.getElem?_toArray, List.getElem?_cons_succ, List.getElem?_cons_zero]; exact rfl)) (by rfl) ?_; intro K hK; go_simp)
  refine (HSS.out).mono ?_
  rintro e w1 ⟨rfl, x0, x1, x2, hb1⟩
  refine hK.out _ _ ⟨box7 (hBx.drew.kept (by rw [HQ.out]; exact hb1)), cell_keep (by rw [HQ.out]; exact hb1) r0'⟩ (fun hH => ?_)
  clear hK K
  try simp only [Act.put, List.setIfInBounds_toArray, List.set_cons_zero, List.set_cons_succ]
  have b1 : Below w.heap.size w w1 := hb0.drew.trans (hb1.mono (by rw [← HQ.out]; exact hb0.size))
  have r1' := cell_keep (by rw [HQ.out]; exact hb1) r0'
  have hBx1 := hBx.drew.kept (by rw [HQ.out]; exact hb1)
  (repeat (first | (refine plan_take (v := ?_) (by (simp only [List.getElem?_toArray, List.getElem?_cons_succ, List.getElem?_cons_zero]; exact rfl)) (by rfl) ?_ ?_; rotate_left; (focus (intro wS hS; (try dsimp only at hS); go_split_ands; go_simp; (try with_reducible rfl))); simp only [Act.put, List.setIfInBounds_toArray, List.set_cons_zero, List.set_cons_succ]) | (refine plan_skip (by (simp only [List.getElem?_toArray, List.getElem?_cons_succ, List.getElem?_cons_zero]; exact rfl)) (by rfl) ?_; simp only [Act.put, List.setIfInBounds_toArray, List.set_cons_zero, List.set_cons_succ])))
  (refine plan_solo (by (simp only [List.getElem?_toArray, List.getElem?_cons_succ, List.getElem?_cons_zero]; exact rfl)) (by rfl) ?_; intro K hK; go_simp)
  refine (ref_part (l := M.map (·.1)) (HRC.out.kept b1) o.c.key o.to (by rw [HL.out]; omega)).mono ?_
  rintro e w2 ⟨v2, rfl, hv2, hb2⟩
  refine hK.out _ _ ⟨box7 (hBx1.kept hb2), cell_keep hb2 r1'⟩ (fun hH => ?_)
  clear hK K
  try simp only [Act.put, List.setIfInBounds_toArray, List.set_cons_zero, List.set_cons_succ]
  have b2 : Below w.heap.size w w2 := b1.trans (hb2.mono b1.size)
  have r2' := cell_keep hb2 r1'
  have hBx2 := hBx1.kept hb2
  (repeat (first | (refine plan_take (v := ?_) (by (simp only [List.getElem?_toArray, List.getElem?_cons_succ, List.getElem?_cons_zero]; exact rfl)) (by rfl) ?_ ?_; rotate_left; (focus (intro wS hS; (try dsimp only at hS); go_split_ands; go_simp; (try with_reducible rfl))); simp only [Act.put, List.setIfInBounds_toArray, List.set_cons_zero, List.set_cons_succ]) | (refine plan_skip (by (simp only [List.getElem?_toArray, List.getElem?_cons_succ, List.getElem?_cons_zero]; exact rfl)) (by rfl) ?_; simp only [Act.put, List.setIfInBounds_toArray, List.set_cons_zero, List.set_cons_succ])))
  (refine plan_solo (by (simp only [List.getElem?_toArray, List.getElem?_cons_succ, List.getElem?_cons_zero]; exact rfl)) (by rfl) ?_; intro K hK; go_simp)
  refine (goes_spec o.n (x0.kept hb2) (x1.kept hb2) (x2.kept hb2) ((HD.out.mem.kept b2).tab (by omega)) HPS.out (Reads.of_own hv2)).mono ?_
  rintro e w3 ⟨rfl, hb3⟩
  refine hK.out _ _ ⟨box7 (hBx2.kept hb3), cell_keep hb3 r2'⟩ (fun hH => ?_)
  clear hK K
  try simp only [Act.put, List.setIfInBounds_toArray, List.set_cons_zero, List.set_cons_succ]
  (repeat (first | (refine plan_take (v := ?_) (by (simp only [List.getElem?_toArray, List.getElem?_cons_succ, List.getElem?_cons_zero]; exact rfl)) (by rfl) ?_ ?_; rotate_left; (focus (intro wS hS; (try dsimp only at hS); go_split_ands; go_simp; (try with_reducible rfl))); simp only [Act.put, List.setIfInBounds_toArray, List.set_cons_zero, List.set_cons_succ]) | (refine plan_skip (by (simp only [List.getElem?_toArray, List.getElem?_cons_succ, List.getElem?_cons_zero]; exact rfl)) (by rfl) ?_; simp only [Act.put, List.setIfInBounds_toArray, List.set_cons_zero, List.set_cons_succ])))
  refine plan_nil ?_
  go_wp2_with fail
  go_ret
  exact does_stay HD.out HK.out (b2.trans (hb3.mono b2.size))

set_option maxRecDepth 100000 in
set_option maxHeartbeats 4000000 in
theorem does_get {w : World} {base a r : Nat} {F : Nat → Prop} {M : MM} (h : Duo w base a r F M) (o : Step) (hk : o.kind = 1) :
    Calls Try.prog 32 #[.pointer (some ⟨a, 0, none⟩), .pointer (some ⟨r, 0, none⟩), .agg #[.int .i64 o.kind, .string o.c.key, .int .u64 o.c.seq, .string o.c.val, .bool o.c.gone, .string o.to, .int .i64 o.n]] w (DoesPost w base a r F M o) := by
  have HK := Lib.hid (show o.kind ≠ 0 by omega)
  have HD := Lib.hid h
  have hlen : (M.map (·.1)).length = M.length := List.length_map ..
  obtain ⟨vc, vh, g1, g2, _⟩ := h.ref.ex
  obtain ⟨Ac, kc, rfl⟩ := (Reads.of_own g2).form
  have hrc : Reads w (.slice Ac M.length kc) (M.map (·.1)).length 4 (cellVals (M.map (·.1))) := by rw [hlen]; exact Reads.of_own g2
  have HRC := Lib.hid hrc
  have HL := Lib.hid hlen
  have rl := g1.lt
  have hkq0 : (o.kind == 0) = false := by simp; omega
  have hkq1 : (o.kind == 1) = true := by simp; omega
  have HGN := Lib.hid (getM_newest h.mem.sorted o.c.key o.c.seq)
  have r0 : w.cell? ⟨r, 0, none⟩ = some (.slice Ac M.length kc) := g1.cell 0 _ rfl
  have hb0 : Below w.heap.size w (w.alloc (.cells #[.int .i64 o.kind, .string o.c.key, .int .u64 o.c.seq, .string o.c.val, .bool o.c.gone, .string o.to, .int .i64 o.n] 51)) := ((Below.refl _ _).alloc (Nat.le_refl _) _)
  have hBx : Blk (w.alloc (.cells #[.int .i64 o.kind, .string o.c.key, .int .u64 o.c.seq, .string o.c.val, .bool o.c.gone, .string o.to, .int .i64 o.n] 51)) w.heap.size #[.int .i64 o.kind, .string o.c.key, .int .u64 o.c.seq, .string o.c.val, .bool o.c.gone, .string o.to, .int .i64 o.n] 51 := Blk.new ..
  clear h g1 g2 hk hrc hlen
  go_enter Try.func32, Try.ntmps32
  obtain ⟨G, hG⟩ : ∃ G, getM M o.c.key o.c.seq = G := ⟨_, rfl⟩
  have hgm := get_model (HD.out.kept hb0).mem o.c.key o.c.seq
  rw [hG] at hgm
  have HGN2 := Lib.hid (HGN.out.symm.trans hG)
  have HGM := Lib.hid hgm
  clear hG hgm HGN
  go_wp2_with (go_at_call 23; refine HGM.out.mono ?_; rintro e w1 ⟨rfl, hb1⟩; simp only [Cell.v])
  have hb1' : Below w.heap.size w w1 := hb0.trans (hb1.mono hb0.size)
  have hA := Blk.new w1 #[.string G.1.key, .int .u64 G.1.seq, .string G.1.val, .bool G.1.gone] 25
  have hb2 : Below w1.heap.size w1 (w1.alloc (.cells #[.string G.1.key, .int .u64 G.1.seq, .string G.1.val, .bool G.1.gone] 25)).drew := ((Below.refl _ _).alloc (Nat.le_refl _) _).drew
  have hBx1 := ((hBx.kept hb1).kept hb2)
  have b2 := hb1'.trans (hb2.mono hb1'.size)
  have r2 := cell_keep b2 r0
  refine region_tree (S := fun w' => (w'.cell? ⟨w.heap.size, 0, none⟩ = some (.int .i64 o.kind) ∧ w'.cell? ⟨w.heap.size, 1, none⟩ = some (.string o.c.key) ∧ w'.cell? ⟨w.heap.size, 2, none⟩ = some (.int .u64 o.c.seq) ∧ w'.cell? ⟨w.heap.size, 3, none⟩ = some (.string o.c.val) ∧ w'.cell? ⟨w.heap.size, 4, none⟩ = some (.bool o.c.gone) ∧ w'.cell? ⟨w.heap.size, 5, none⟩ = some (.string o.to) ∧ w'.cell? ⟨w.heap.size, 6, none⟩ = some (.int .i64 o.n)) ∧ w'.cell? ⟨r, 0, none⟩ = some (.slice Ac M.length kc))
    (.take 0 (.take 1 (.take 2 (.take 3 (.take 4 (.take 5 (.take 6 (.take 7 (.take 8 (.take 9 (.two 10 (.take 11 (.take 12 (.take 13 (.one 14 (.one 15 (.take 16 .nil)))))) 14 (.one 10 (.take 11 (.take 12 (.take 13 (.one 15 (.take 16 .nil)))))))))))))))))
    (by kernel_rfl) (by kernel_rfl) (by kernel_rfl) (fun _ _ _ dst _ h => by cases dst <;> exact h) ⟨box7 hBx1, r2⟩ (fun hH => ?_)
  (repeat (refine tree_take (v := ?_) (by (simp only [List.getElem?_toArray, List.getElem?_cons_succ, List.getElem?_cons_zero]; exact rfl)) (by rfl) ?_ ?_; rotate_left; (focus (intro wS hS; (try dsimp only at hS); go_split_ands; go_simp; (try with_reducible rfl))); simp only [Act.put, List.setIfInBounds_toArray, List.set_cons_zero, List.set_cons_succ]))
  (refine tree_two (by (simp only [List.getElem?_toArray, List.getElem?_cons_succ, List.getElem?_cons_zero]; exact rfl)) (by rfl) (by (simp only [List.getElem?_toArray, List.getElem?_cons_succ, List.getElem?_cons_zero]; exact rfl)) (by rfl) ?_ ?_ <;> (intro K hK; go_simp))
  · refine (ref_newest (l := M.map (·.1)) (HRC.out.kept b2) o.c.key o.c.seq).mono ?_
    rintro e w3 ⟨rfl, hb3⟩
    rw [HGN2.out]
    refine hK.out _ _ ⟨box7 (hBx1.kept hb3), cell_keep hb3 r2⟩ (fun hH => ?_)
    clear hK K
    simp only [cellW]
    (repeat (refine tree_take (v := ?_) (by (simp only [List.getElem?_toArray, List.getElem?_cons_succ, List.getElem?_cons_zero]; exact rfl)) (by rfl) ?_ ?_; rotate_left; (focus (intro wS hS; (try dsimp only at hS); go_split_ands; go_simp; (try with_reducible rfl))); simp only [Act.put, List.setIfInBounds_toArray, List.set_cons_zero, List.set_cons_succ]))
    (refine tree_one (by (simp only [List.getElem?_toArray, List.getElem?_cons_succ, List.getElem?_cons_zero]; exact rfl)) (by rfl) ?_; intro K hK; go_simp)
    have b3 := b2.trans (hb3.mono b2.size)
    refine hK.out _ _ ⟨box7 ((hBx1.kept hb3).alloc _), cell_keep ((Below.refl _ _).alloc (Nat.le_refl _) _) (cell_keep hb3 r2)⟩ (fun hH => ?_)
    clear hK K
    try simp only [Act.put, List.setIfInBounds_toArray, List.set_cons_zero, List.set_cons_succ]
    have hZ := Blk.new w3 #[.string ⟨#[]⟩, .int .u64 0, .string ⟨#[]⟩, .bool false] 25
    obtain ⟨z0, z1, z2, z3⟩ := cell4 hZ
    have zf := hZ.frozen
    (refine tree_one (by (simp only [List.getElem?_toArray, List.getElem?_cons_succ, List.getElem?_cons_zero]; exact rfl)) (by rfl) ?_; intro K hK; go_simp)
    have hS4 : Below w.heap.size w (w3.alloc (.cells #[.string G.1.key, .int .u64 G.1.seq, .string G.1.val, .bool G.1.gone] 25)) := b3.alloc b3.size _
    refine hK.out _ _ ⟨box7 ((hBx1.kept hb3).alloc _), cell_keep ((Below.refl _ _).alloc (Nat.le_refl _) _) (cell_keep hb3 r2)⟩ (fun hH => ?_)
    clear hK K
    try simp only [Act.put, List.setIfInBounds_toArray, List.set_cons_zero, List.set_cons_succ]
    (repeat (refine tree_take (v := ?_) (by (simp only [List.getElem?_toArray, List.getElem?_cons_succ, List.getElem?_cons_zero]; exact rfl)) (by rfl) ?_ ?_; rotate_left; (focus (intro wS hS; (try dsimp only at hS); go_split_ands; go_simp; (try with_reducible rfl))); simp only [Act.put, List.setIfInBounds_toArray, List.set_cons_zero, List.set_cons_succ]))
    refine tree_nil ?_
    obtain ⟨x0, x1, x2, x3⟩ := cell4 ((hA.drew.kept hb3).alloc (.cells #[.string G.1.key, .int .u64 G.1.seq, .string G.1.val, .bool G.1.gone] 25))
    obtain ⟨y0, y1, y2, y3⟩ := cell4 (Blk.new w3 #[.string G.1.key, .int .u64 G.1.seq, .string G.1.val, .bool G.1.gone] 25)
    clear z0 z1 z2 z3 zf hZ
    have xl := World.block_lt_of_cell? _ _ x0
    have yl := World.block_lt_of_cell? _ _ y0
    generalize w3.alloc (.cells #[.string G.1.key, .int .u64 G.1.seq, .string G.1.val, .bool G.1.gone] 25) = w9 at *
    generalize w3.heap.size = b9 at *
    have heq := cell_eql G.1 G.1
    rw [decide_eq_true rfl] at heq
    have hbeq : (G.2 == G.2) = true := by simp
    go_wp2_with fail
    go_ret
    exact does_stay HD.out HK.out hS4
  · have hZ0 := Blk.new (w1.alloc (.cells #[.string G.1.key, .int .u64 G.1.seq, .string G.1.val, .bool G.1.gone] 25)) #[.string ⟨#[]⟩, .int .u64 0, .string ⟨#[]⟩, .bool false] 25
    rw [World.size_alloc] at hZ0
    have hcb : Below (w1.alloc (.cells #[.string G.1.key, .int .u64 G.1.seq, .string G.1.val, .bool G.1.gone] 25)).heap.size (w1.alloc (.cells #[.string G.1.key, .int .u64 G.1.seq, .string G.1.val, .bool G.1.gone] 25)) ((w1.alloc (.cells #[.string G.1.key, .int .u64 G.1.seq, .string G.1.val, .bool G.1.gone] 25)).alloc (.cells #[.string ⟨#[]⟩, .int .u64 0, .string ⟨#[]⟩, .bool false] 25)).drew := ((Below.refl _ _).alloc (Nat.le_refl _) _).drew
    have b3 : Below w.heap.size w ((w1.alloc (.cells #[.string G.1.key, .int .u64 G.1.seq, .string G.1.val, .bool G.1.gone] 25)).alloc (.cells #[.string ⟨#[]⟩, .int .u64 0, .string ⟨#[]⟩, .bool false] 25)).drew := (hb1'.alloc hb1'.size _).trans (hcb.mono (by rw [World.size_alloc]; have := hb1'.size; omega))
    have hBx3 := ((hBx.kept hb1).alloc (.cells #[.string G.1.key, .int .u64 G.1.seq, .string G.1.val, .bool G.1.gone] 25)).kept hcb
    have r3 := cell_keep b3 r0
    have hA3 := hA.kept hcb
    refine hK.out _ _ ⟨box7 hBx3, r3⟩ (fun hH => ?_)
    clear hK K
    try simp only [Act.put, List.setIfInBounds_toArray, List.set_cons_zero, List.set_cons_succ]
    have hZ := hZ0.drew
    clear hcb hZ0
    generalize ((w1.alloc (.cells #[.string G.1.key, .int .u64 G.1.seq, .string G.1.val, .bool G.1.gone] 25)).alloc (.cells #[.string ⟨#[]⟩, .int .u64 0, .string ⟨#[]⟩, .bool false] 25)).drew = w4 at *
    (refine tree_one (by (simp only [List.getElem?_toArray, List.getElem?_cons_succ, List.getElem?_cons_zero]; exact rfl)) (by rfl) ?_; intro K hK; go_simp)
    refine (ref_newest (l := M.map (·.1)) (HRC.out.kept b3) o.c.key o.c.seq).mono ?_
    rintro e w5 ⟨rfl, hb5⟩
    rw [HGN2.out]
    refine hK.out _ _ ⟨box7 (hBx3.kept hb5), cell_keep hb5 r3⟩ (fun hH => ?_)
    clear hK K
    simp only [cellW]
    (repeat (refine tree_take (v := ?_) (by (simp only [List.getElem?_toArray, List.getElem?_cons_succ, List.getElem?_cons_zero]; exact rfl)) (by rfl) ?_ ?_; rotate_left; (focus (intro wS hS; (try dsimp only at hS); go_split_ands; go_simp; (try with_reducible rfl))); simp only [Act.put, List.setIfInBounds_toArray, List.set_cons_zero, List.set_cons_succ]))
    have hZ5 := hZ.kept hb5
    have hA5 := hA3.kept hb5
    have b5 := b3.trans (hb5.mono b3.size)
    obtain ⟨z0, z1, z2, z3⟩ := cell4 hZ5
    have zf := hZ5.frozen
    have zl := hZ5.lt
    (refine tree_one (by (simp only [List.getElem?_toArray, List.getElem?_cons_succ, List.getElem?_cons_zero]; exact rfl)) (by rfl) ?_; intro K hK; go_simp)
    have hge : w.heap.size ≤ w1.heap.size + 1 := by have := hb1'.size; omega
    have hsz1 : w.heap.size < w1.heap.size := (hBx.kept hb1).lt
    have hS4 : Below w.heap.size w ((((w5.setCell ⟨w1.heap.size + 1, 0, none⟩ (.string G.1.key)).setCell ⟨w1.heap.size + 1, 1, none⟩ (.int .u64 G.1.seq)).setCell ⟨w1.heap.size + 1, 2, none⟩ (.string G.1.val)).setCell ⟨w1.heap.size + 1, 3, none⟩ (.bool G.1.gone)) := (((b5.setCell hge _).setCell hge _).setCell hge _).setCell hge _
    have hBx5 := (((((hBx3.kept hb5).setCell_ne (b' := w1.heap.size + 1) (by omega) 0 (.string G.1.key)).setCell_ne (b' := w1.heap.size + 1) (by omega) 1 (.int .u64 G.1.seq)).setCell_ne (b' := w1.heap.size + 1) (by omega) 2 (.string G.1.val)).setCell_ne (b' := w1.heap.size + 1) (by omega) 3 (.bool G.1.gone))
    have hA6 := ((((hA5.setCell_ne (b' := w1.heap.size + 1) (by omega) 0 (.string G.1.key)).setCell_ne (b' := w1.heap.size + 1) (by omega) 1 (.int .u64 G.1.seq)).setCell_ne (b' := w1.heap.size + 1) (by omega) 2 (.string G.1.val)).setCell_ne (b' := w1.heap.size + 1) (by omega) 3 (.bool G.1.gone))
    have hZ6 := (((hZ5.setCell 0 (.string G.1.key)).setCell 1 (.int .u64 G.1.seq)).setCell 2 (.string G.1.val)).setCell 3 (.bool G.1.gone)
    clear z0 z1 z2 z3 zf zl hZ5 hZ hA5 hA3 hBx3
    generalize ((((w5.setCell ⟨w1.heap.size + 1, 0, none⟩ (.string G.1.key)).setCell ⟨w1.heap.size + 1, 1, none⟩ (.int .u64 G.1.seq)).setCell ⟨w1.heap.size + 1, 2, none⟩ (.string G.1.val)).setCell ⟨w1.heap.size + 1, 3, none⟩ (.bool G.1.gone)) = w9 at *
    refine hK.out _ _ ⟨box7 hBx5, cell_keep hS4 r0⟩ (fun hH => ?_)
    clear hK K
    try simp only [Act.put, List.setIfInBounds_toArray, List.set_cons_zero, List.set_cons_succ]
    (repeat (refine tree_take (v := ?_) (by (simp only [List.getElem?_toArray, List.getElem?_cons_succ, List.getElem?_cons_zero]; exact rfl)) (by rfl) ?_ ?_; rotate_left; (focus (intro wS hS; (try dsimp only at hS); go_split_ands; go_simp; (try with_reducible rfl))); simp only [Act.put, List.setIfInBounds_toArray, List.set_cons_zero, List.set_cons_succ]))
    refine tree_nil ?_
    obtain ⟨x0, x1, x2, x3⟩ := cell4 hA6
    obtain ⟨y0, y1, y2, y3⟩ := cell4 hZ6
    have xl := World.block_lt_of_cell? _ _ x0
    have yl := World.block_lt_of_cell? _ _ y0
    have heq := cell_eql G.1 G.1
    rw [decide_eq_true rfl] at heq
    have hbeq : (G.2 == G.2) = true := by simp
    go_wp2_with fail
    go_ret
    exact does_stay HD.out HK.out hS4

theorem does_spec {w : World} {base a r : Nat} {F : Nat → Prop} {M : MM} (h : Duo w base a r F M) (hB : base ≤ w.heap.size) (hl : M.length ≤ 2700000000000) (o : Step) :
    Calls Try.prog 32 #[.pointer (some ⟨a, 0, none⟩), .pointer (some ⟨r, 0, none⟩), .agg #[.int .i64 o.kind, .string o.c.key, .int .u64 o.c.seq, .string o.c.val, .bool o.c.gone, .string o.to, .int .i64 o.n]] w (DoesPost w base a r F M o) := by
  by_cases h0 : o.kind = 0
  · exact does_put h hB hl o h0
  by_cases h1 : o.kind = 1
  · exact does_get h o h1
  by_cases h2 : o.kind = 2
  · exact does_scan h hl o h2
  by_cases h3 : o.kind = 3
  · exact does_look h hl o h3
  exact does_none h o ⟨h0, h1, h2, h3⟩
end Go.Proofs.Ytbcaiegglbdonaa
