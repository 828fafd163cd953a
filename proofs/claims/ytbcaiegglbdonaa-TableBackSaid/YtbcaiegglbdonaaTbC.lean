/-
  Texts of this seat, part 3: AppNil, Writer, Pieces, Writer2, Crc, RefNum, Bytes8, Reader, Reader2, Shape, Reader3, ReadN, ReadSz.
-/
import Derived.Test.YtbcaiegglbdonaaTbB
import Derived.OwnWalkIn
import Derived.Deep.CutBlock
import Derived.Laws.OwnMore
import Derived.Deep.Onto
import Derived.Laws.BytesArg
import Derived.Lib.ConvBytes
import Derived.Laws.Bits64b
/-
  Append of a nil slice: nothing happens. Over any program.
-/
namespace Go.Proofs.Ytbcaiegglbdonaa
open Go Go.RowKit
section
variable {P : Program}
theorem run_append_src_nil (w : World) (t ty e : TypeId) (i : TypeInfo) (ht : P.underlying t = some (.slice e)) (hi : P.info? e = some i) (b : Addr) (n cap : Nat) (hn : n ≤ cap) :
    (Builtin.append_ #[t, t] ty #[.slice (some b) n cap, .slice none 0 0]).run P w = .ok (.slice (some b) n cap) w := by
  simp [Builtin.append_, run_underlying ht, sizeOf, typeInfo, hi, Builtin.lenOf, Builtin.firstCells, loadCells, hn, storeCells]
theorem append_block_some {w : World} (base : Nat) (t ty e : TypeId) (i : TypeInfo) (z : Value) (size bytes : Nat) (ht : P.underlying t = some (.slice e)) (hi : P.info? e = some i) (hz : i.zero = some z)
    (hsize : i.size = size) (hby : i.bytes = bytes) (b n cap : Nat) (xs : List Value) (hown : w.ownsRow base e size (.slice (some ⟨b, 0, none⟩) n cap) n xs)
    (a : Addr) (m c : Nat) (news : List Value) (hl : news.length = m * size) (hnews : ∀ j u, news[j]? = some u → w.cell? (a.add j) = some u) (h1 : ∀ u ∈ news, u.oneCell' = true)
    (h63 : n + m ≤ maxLen) (hbytes : (n + m) * bytes ≤ 140737488355328) {v' : Value} {w' : World} (hr : (Builtin.append_ #[t, t] ty #[.slice (some ⟨b, 0, none⟩) n cap, .slice (some a) m c]).run P w = .ok v' w') :
    ∀ g, v'.ownBlock = some g → g = b ∨ w.heap.size ≤ g := by
  subst hsize
  subst hby
  have hsm : n + m ≤ 9223372036854775807 := by simp only [maxLen] at h63; omega
  intro g' hg'
  rcases hown.2 with ⟨h, _⟩ | ⟨g, cap2, cur, hv, hbg, hg, hnc, hcm, hcs, htake⟩
  · cases h
  · cases hv
    by_cases hroom : n + m ≤ cap
    · have hr2 := run_append_room (P := P) w t ty e i ht hi b n cap cur hg a m c news hl hnews h1 hroom (by rw [hl, hcs, ← Nat.add_mul]; exact Nat.mul_le_mul_right _ hroom)
      rw [hr] at hr2
      cases hr2
      cases hg'
      exact .inl rfl
    · have hr2 := run_append_grow (P := P) w t ty e i z ht hi hz ⟨b, 0, none⟩ n cap xs hown.1 (hown.cells (g := b) rfl) a m c news hl hnews (by omega) (by omega) (growslice_fits (by omega) hbytes)
      rw [hr] at hr2
      cases hr2
      cases hg'
      exact .inr (Nat.le_refl _)
theorem wpList_append_any {w : World} {ops : Array Oper} {rest : List Oper} {o : Oper} {a : Act} {Q : Exit → Act → World → Prop} (hgd : o.guard = none) (s x : Operand) (t : TypeId)
    (ho : o.op = .call { callee := .builtin .append, args := #[s, x], argTypes := #[t, t] })
    (base : Nat) (e : TypeId) (i : TypeInfo) (z : Value) (size bytes : Nat) (ht : P.underlying t = some (.slice e)) (hi : P.info? e = some i) (hz : i.zero = some z)
    (hsize : i.size = size) (hby : i.bytes = bytes) (hzs : z.cells.size = size) (hsz : 0 < size)
    (b n cap : Nat) (xs : List Value) (hs : a.eval s = .slice (some ⟨b, 0, none⟩) n cap) (hown : w.ownsRow base e size (.slice (some ⟨b, 0, none⟩) n cap) n xs)
    (m : Nat) (news : List Value) (hl : news.length = m * size) (hx : (a.eval x = .slice none 0 0 ∧ m = 0) ∨ ∃ ad c, a.eval x = .slice (some ad) m c ∧ ∀ j u, news[j]? = some u → w.cell? (ad.add j) = some u) (h1 : ∀ u ∈ news, u.oneCell' = true)
    (h63 : n + m ≤ maxLen) (hbytes : (n + m) * bytes ≤ 140737488355328) (hbase : base ≤ w.heap.size)
    (h : ∀ g' cap' w', w'.ownsRow base e size (.slice (some ⟨g', 0, none⟩) (n + m) cap') (n + m) (xs ++ news) → w.grownBy w' (some b) → (g' = b ∨ w.heap.size ≤ g') → wpList P ops Q rest (a.put o.dst (.slice (some ⟨g', 0, none⟩) (n + m) cap')) w') : wpList P ops Q (o :: rest) a w := by
  have hnc : n ≤ cap := by
    rcases hown.2 with ⟨h, _⟩ | ⟨g, cap', cur, h, _, _, hc, _⟩
    · cases h
    · cases h; exact hc
  rcases hx with ⟨hx, rfl⟩ | ⟨ad, c, hx, hnews⟩
  · have hne : news = [] := List.eq_nil_of_length_eq_zero (by simpa using hl)
    subst hne
    refine wpList_plain hgd fun K hK => ?_
    have hr := run_append_src_nil (P := P) w t o.type e i ht hi ⟨b, 0, none⟩ n cap hnc
    unfold Oper.wp execOp
    simp only [ho, resolve, invoke, builtin, Sem.run_bind, Sem.run_pure, Result.andThen_ok, List.map_toArray, List.map_cons, List.map_nil, hs, hx, hr]
    exact hK _ _ (h b cap w (by simpa using hown) ⟨rfl, rfl, rfl, Nat.le_refl _, fun _ _ _ => rfl⟩ (.inl rfl))
  · refine wpList_plain hgd fun K hK' => ?_
    obtain ⟨v', w', hrun, r1, r2, r3⟩ := run_append_own (P := P) w base t o.type e i z size bytes ht hi hz hsize hby hzs hsz _ n xs hown ad m c news hl hnews h1 h63 hbytes hbase
    have r4 := append_block_some base t o.type e i z size bytes ht hi hz hsize hby b n cap xs hown ad m c news hl hnews h1 h63 hbytes hrun
    unfold Oper.wp execOp
    simp only [ho, resolve, invoke, builtin, Sem.run_bind, Sem.run_pure, Result.andThen_ok, List.map_toArray, List.map_cons, List.map_nil, hs, hx, hrun]
    refine hK' _ _ ?_
    rcases r1.2 with ⟨rfl, _⟩ | ⟨g, cap', cur, rfl, _⟩
    · have := (r3.1 rfl).1; cases this
    · exact h g cap' w' r1 r2 (r4 g rfl)
theorem oper_append_any {w : World} {o : Oper} {a : Act} {K : Act → World → Prop} {Q : Exit → Act → World → Prop} (s x : Operand) (t : TypeId)
    (ho : o.op = .call { callee := .builtin .append, args := #[s, x], argTypes := #[t, t] })
    (base : Nat) (e : TypeId) (i : TypeInfo) (z : Value) (size bytes : Nat) (ht : P.underlying t = some (.slice e)) (hi : P.info? e = some i) (hz : i.zero = some z)
    (hsize : i.size = size) (hby : i.bytes = bytes) (hzs : z.cells.size = size) (hsz : 0 < size)
    (b n cap : Nat) (xs : List Value) (hs : a.eval s = .slice (some ⟨b, 0, none⟩) n cap) (hown : w.ownsRow base e size (.slice (some ⟨b, 0, none⟩) n cap) n xs)
    (m : Nat) (news : List Value) (hl : news.length = m * size) (hx : (a.eval x = .slice none 0 0 ∧ m = 0) ∨ ∃ ad c, a.eval x = .slice (some ad) m c ∧ ∀ j u, news[j]? = some u → w.cell? (ad.add j) = some u) (h1 : ∀ u ∈ news, u.oneCell' = true)
    (h63 : n + m ≤ maxLen) (hbytes : (n + m) * bytes ≤ 140737488355328) (hbase : base ≤ w.heap.size)
    (h : ∀ g' cap' w', w'.ownsRow base e size (.slice (some ⟨g', 0, none⟩) (n + m) cap') (n + m) (xs ++ news) → w.grownBy w' (some b) → (g' = b ∨ w.heap.size ≤ g') → K (a.put o.dst (.slice (some ⟨g', 0, none⟩) (n + m) cap')) w') : Oper.wp P o a w K Q := by
  have hnc : n ≤ cap := by
    rcases hown.2 with ⟨h, _⟩ | ⟨g, cap', cur, h, _, _, hc, _⟩
    · cases h
    · cases h; exact hc
  rcases hx with ⟨hx, rfl⟩ | ⟨ad, c, hx, hnews⟩
  · have hne : news = [] := List.eq_nil_of_length_eq_zero (by simpa using hl)
    subst hne
    have hr := run_append_src_nil (P := P) w t o.type e i ht hi ⟨b, 0, none⟩ n cap hnc
    unfold Oper.wp execOp
    simp only [ho, resolve, invoke, builtin, Sem.run_bind, Sem.run_pure, Result.andThen_ok, List.map_toArray, List.map_cons, List.map_nil, hs, hx, hr]
    exact (h b cap w (by simpa using hown) ⟨rfl, rfl, rfl, Nat.le_refl _, fun _ _ _ => rfl⟩ (.inl rfl))
  · obtain ⟨v', w', hrun, r1, r2, r3⟩ := run_append_own (P := P) w base t o.type e i z size bytes ht hi hz hsize hby hzs hsz _ n xs hown ad m c news hl hnews h1 h63 hbytes hbase
    have r4 := append_block_some base t o.type e i z size bytes ht hi hz hsize hby b n cap xs hown ad m c news hl hnews h1 h63 hbytes hrun
    unfold Oper.wp execOp
    simp only [ho, resolve, invoke, builtin, Sem.run_bind, Sem.run_pure, Result.andThen_ok, List.map_toArray, List.map_cons, List.map_nil, hs, hx, hrun]
    rcases r1.2 with ⟨rfl, _⟩ | ⟨g, cap', cur, rfl, _⟩
    · have := (r3.1 rfl).1; cases this
    · exact h g cap' w' r1 r2 (r4 g rfl)
end
end Go.Proofs.Ytbcaiegglbdonaa

/-
  The codec's Writer: bytes put one behind the other.
-/
namespace Go.Proofs.Ytbcaiegglbdonaa
open Go Go.RowKit
section
variable {P : Program}
theorem wpList_append_row {w : World} {ops : Array Oper} {rest : List Oper} {o : Oper} {a : Act} {Q : Exit → Act → World → Prop} (hgd : o.guard = none) (s x : Operand) (t : TypeId)
    (ho : o.op = .call { callee := .builtin .append, args := #[s, x], argTypes := #[t, t] })
    (base : Nat) (e : TypeId) (i : TypeInfo) (z : Value) (size bytes : Nat) (ht : P.underlying t = some (.slice e)) (hi : P.info? e = some i) (hz : i.zero = some z)
    (hsize : i.size = size) (hby : i.bytes = bytes) (hzs : z.cells.size = size) (hsz : 0 < size)
    (v : Value) (n : Nat) (xs : List Value) (hs : a.eval s = v) (hown : w.ownsRow base e size v n xs)
    (ad : Addr) (m c : Nat) (news : List Value) (hx : a.eval x = .slice (some ad) m c) (hl : news.length = m * size) (hnews : ∀ j u, news[j]? = some u → w.cell? (ad.add j) = some u) (h1 : ∀ u ∈ news, u.oneCell' = true)
    (h63 : n + m ≤ maxLen) (hbytes : (n + m) * bytes ≤ 140737488355328) (hbase : base ≤ w.heap.size)
    (h : ∀ v' w', w'.ownsRow base e size v' (n + m) (xs ++ news) → w.grownBy w' v.ownBlock → (∀ g, v'.ownBlock = some g → v.ownBlock = some g ∨ w.heap.size ≤ g) → wpList P ops Q rest (a.put o.dst v') w') : wpList P ops Q (o :: rest) a w := by
  refine wpList_plain hgd fun K hK' => ?_
  obtain ⟨v', w', hrun, r1, r2, r3⟩ := run_append_own (P := P) w base t o.type e i z size bytes ht hi hz hsize hby hzs hsz v n xs hown ad m c news hl hnews h1 h63 hbytes hbase
  have r4 : ∀ g, v'.ownBlock = some g → v.ownBlock = some g ∨ w.heap.size ≤ g := by
    rcases Nat.eq_zero_or_pos m with hm | hm
    · rcases hown.2 with ⟨hv, _⟩ | ⟨g, cap, cur, hv, _⟩
      · intro g hg
        rw [r3.2 ⟨hv, hm⟩] at hg
        cases hg
      · subst hv
        intro g' hg'
        rcases append_block_some base t o.type e i z size bytes ht hi hz hsize hby g n cap xs hown ad m c news hl hnews h1 h63 hbytes hrun g' hg' with h | h
        · exact .inl (by rw [h]; rfl)
        · exact .inr h
    · exact append_block base t o.type e i z size bytes ht hi hz hsize hby v n xs hown ad m c news hl hnews h1 hm h63 hbytes hrun
  unfold Oper.wp execOp
  simp only [ho, resolve, invoke, builtin, Sem.run_bind, Sem.run_pure, Result.andThen_ok, List.map_toArray, List.map_cons, List.map_nil, hs, hx, hrun]
  exact hK' _ _ (h v' w' r1 r2 r4)
end

theorem body_none {P : Program} {fn : Func} {R : Ending → World → Prop} {a : Act} {w : World} (hr : fn.results = #[]) (hd : a.defers = []) (hR : R (.returned (.tuple #[])) w) : bodyPost P fn R .normal a w :=
  ⟨hd, .tuple #[], by unfold results; rw [hr]; simp [Sem.run_pure], hR⟩

/-! ### Bytes -/
def bv (l : List UInt8) : List Value := l.map fun b => .int .u8 (b.toNat : Int)
theorem bv_len (l : List UInt8) : (bv l).length = l.length := by simp [bv]
theorem bv_append (a b : List UInt8) : bv (a ++ b) = bv a ++ bv b := by simp [bv]
theorem bv_one (l : List UInt8) : ∀ u ∈ bv l, u.oneCell' = true := by
  intro u hu
  obtain ⟨b, _, rfl⟩ := List.mem_map.1 hu
  rfl
theorem Try.infoByte : (Try.prog.info? 5).map (fun i => (i.zero, i.size, i.bytes)) = some (some (.int .u8 0), 1, 1) := by kernel_rfl

def mostW : Nat := 1099511627776
def putW (st : Option (List UInt8)) (d : List UInt8) : Option (List UInt8) := st.bind fun l => if (mostW : Int) - l.length < d.length then none else some (l ++ d)
/-- The Writer at block p tells st: the bytes written, or none: too many. -/
structure WrIs (w : World) (base p : Nat) (F : Nat → Prop) (st : Option (List UInt8)) : Prop where
  ex : ∃ v l, Blk w p #[.int .i64 1099511627776, v, .bool st.isNone] 159 ∧ w.ownsRow base 5 1 v l.length (bv l) ∧ (st = none ∨ st = some l) ∧ l.length ≤ mostW ∧ F p ∧ ∀ g, v.ownBlock = some g → F g
  lt : ∀ k, F k → base ≤ k ∧ k < w.heap.size
theorem WrIs.only {w w' : World} {base p : Nat} {F S : Nat → Prop} {st : Option (List UInt8)} (h : WrIs w base p F st) (ho : Only S w w') (hS : ∀ k, F k → ¬ S k) : WrIs w' base p F st := by
  obtain ⟨v, l, h1, h2, h3, h4, h5, h6⟩ := h.ex
  refine ⟨⟨v, l, h1.only ho (hS p h5), ?_, h3, h4, h5, h6⟩, fun k hk => ⟨(h.lt k hk).1, Nat.lt_of_lt_of_le (h.lt k hk).2 ho.size⟩⟩
  refine ⟨h2.1, ?_⟩
  rcases h2.2 with h3 | ⟨g, cap', cur, e1, hb, hg, hr2⟩
  · exact .inl h3
  · exact .inr ⟨g, cap', cur, e1, hb, Blk.only (show Blk w g cur 5 from hg) ho (hS g (h6 g (by rw [e1]; rfl))), hr2⟩
theorem WrIs.kept {w w' : World} {base p : Nat} {F : Nat → Prop} {st : Option (List UInt8)} (h : WrIs w base p F st) (hb : Below w.heap.size w w') : WrIs w' base p F st := h.only (Only.of_below (S := fun _ => False) hb) fun _ _ h => h

/-- What a call leaves that puts bytes into a Writer. -/
def PutsW (w : World) (base p : Nat) (F : Nat → Prop) (st' : Option (List UInt8)) (e : Ending) (w' : World) : Prop :=
  e = .returned (.tuple #[]) ∧ ∃ F', WrIs w' base p F' st' ∧ (∀ k, F' k → F k ∨ w.heap.size ≤ k) ∧ Only F w w'

set_option maxRecDepth 100000 in
set_option maxHeartbeats 1000000 in
theorem writer_put {w : World} {base p : Nat} {F : Nat → Prop} {st : Option (List UInt8)} (h : WrIs w base p F st) (hB : base ≤ w.heap.size) {ad : Addr} {d : List UInt8} {c : Nat} (hd : ∀ j u, (bv d)[j]? = some u → w.cell? (ad.add j) = some u) :
    Calls Try.prog 128 #[.pointer (some ⟨p, 0, none⟩), .slice (some ad) d.length c] w (PutsW w base p F (putW st d)) := by
  obtain ⟨v, l, h1, h2, h3, h4, h5, h6⟩ := h.ex
  obtain ⟨i0, hi, hz0, hz1, hz2⟩ := info_parts Try.infoByte
  obtain ⟨A, cap, rfl⟩ := (Reads.of_own h2).form
  have c0 : w.cell? ⟨p, 0, none⟩ = some (.int .i64 1099511627776) := h1.cell 0 _ rfl
  have c1 : w.cell? ⟨p, 1, none⟩ = some (.slice A l.length cap) := h1.cell 1 _ rfl
  have c2 : w.cell? ⟨p, 2, none⟩ = some (.bool st.isNone) := h1.cell 2 _ rfl
  have cf := h1.frozen
  have pl := h1.lt
  unfold mostW at h4
  have HW := Lib.hid h
  have H1 := Lib.hid h1
  have H2 := Lib.hid h2
  have HD := Lib.hid hd
  clear h h1 h2 hd
  rcases h3 with rfl | rfl
  · have c2' : w.cell? ⟨p, 2, none⟩ = some (.bool true) := c2
    clear c2
    go_enter Try.func128, Try.ntmps128
    go_wp2_with fail
    exact body_none rfl rfl ⟨rfl, F, HW.out, fun k hk => .inl hk, Only.refl _ _⟩
  · have c2' : w.cell? ⟨p, 2, none⟩ = some (.bool false) := c2
    clear c2
    by_cases hr : 1099511627776 - (l.length : Int) < (d.length : Int)
    · have hp : putW (some l) d = none := by simp [putW, mostW, hr]
      have HP := Lib.hid hp
      have hw : IntKind.i64.wrap (1099511627776 - (l.length : Int)) = 1099511627776 - (l.length : Int) := IntWalk.i64_in _ (by omega)
      clear hp
      go_enter Try.func128, Try.ntmps128
      go_wp2_with fail
      go_quiet (fail)
      go_wp2_with fail
      refine body_none rfl rfl ⟨rfl, F, ⟨⟨_, l, (by rw [HP.out]; exact (H1.out.drewN nq).setCell 2 (.bool true)), own_set (w := w.drewN nq) H2.out (H1.out.drewN nq) (by decide) 2 _, .inl (by simp [putW, mostW, hr]), by unfold mostW; omega, h5, h6⟩, ?_⟩, fun k hk => .inl hk, ?_⟩
      · intro k hk
        exact ⟨(HW.out.lt k hk).1, by rw [World.size_setCell]; exact (HW.out.lt k hk).2⟩
      · exact (Only.of_below (below_drewN (Below.refl _ _) nq)).setCell (.inl h5) 2 _
    · have hp : putW (some l) d = some (l ++ d) := by
        unfold putW mostW
        simp only [Option.bind_some]
        rw [if_neg (by omega)]
      have HP := Lib.hid hp
      have hw : IntKind.i64.wrap (1099511627776 - (l.length : Int)) = 1099511627776 - (l.length : Int) := IntWalk.i64_in _ (by omega)
      have hr' : ¬ 1099511627776 - (l.length : Int) < (d.length : Int) := hr
      have hpF := HW.out.lt p h5
      have hdr : Below w.heap.size w w.drew := (Below.refl _ _).drew
      have p1 : l.length + d.length ≤ maxLen := by unfold maxLen; omega
      have p2 : (l.length + d.length) * 1 ≤ 140737488355328 := by omega
      have hld : d.length ≤ 1099511627776 - l.length := by omega
      clear hp
      go_enter Try.func128, Try.ntmps128
      go_wp2_with fail
      go_quiet (fail)
      go_wp2_with (at_builtin; refine wpList_append_row rfl _ _ 74 rfl base 5 i0 (.int .u8 0) 1 1 Try.underlying74 hi hz0 hz1 hz2 rfl (by decide) _ _ (bv l) rfl (w := w.drewN nq) H2.out ad d.length c (bv d) rfl (by rw [bv_len, Nat.mul_one]) HD.out (bv_one d) p1 p2 hB ?_)
      intro v' w1 own1 hgr hfr
      obtain ⟨A', cap', rfl⟩ := (Reads.of_own own1).form
      have hb1 : w.heap.size ≤ w1.heap.size := hgr.size
      have hne : some p ≠ (Value.slice A l.length cap).ownBlock := by
        intro e
        rcases H2.out.2 with ⟨h1, _⟩ | ⟨g, cap', cur, h1, _, hg, _⟩
        · rw [h1] at e; cases e
        · rw [h1] at e
          cases e
          have := hg.symm.trans H1.out
          injection this with this
          injection this with _ e2 _
          exact absurd e2 (by decide)
      have hk1 : Blk w1 p #[.int .i64 1099511627776, .slice A l.length cap, .bool false] 159 := (hgr.block p pl hne).trans H1.out
      have r1 := hk1.cell 1 _ rfl
      have rf := hk1.frozen
      have rl := hk1.lt
      have own1' := own_set own1 hk1 (by decide) 1 (.slice A' (l.length + d.length) cap')
      have hne' : ∀ k, (Value.slice A' (l.length + d.length) cap').ownBlock = some k → k < w1.heap.size ∧ base ≤ k := fun k hk => ⟨(own1.lt k hk).2, (own1.lt k hk).1⟩
      clear cf c0 c1 c2'
      go_wp2_with fail
      refine body_none rfl rfl ⟨rfl, fun k => k = p ∨ (Value.slice A' (l.length + d.length) cap').ownBlock = some k, ⟨⟨_, l ++ d, ?_, ?_, .inr HP.out, ?_, .inl rfl, fun g hg => .inr hg⟩, ?_⟩, ?_, ?_⟩
      · rw [HP.out]; exact hk1.setCell 1 (.slice A' (l.length + d.length) cap')
      · rw [bv_append, List.length_append]; exact own1'
      · rw [List.length_append]; unfold mostW; omega
      · intro k hk
        rw [World.size_setCell]
        rcases hk with rfl | hk
        · exact ⟨hpF.1, rl⟩
        · exact ⟨(hne' k hk).2, (hne' k hk).1⟩
      · intro k hk
        rcases hk with rfl | hk
        · exact .inl h5
        · exact (hfr k hk).imp (h6 k) id
      · refine (Only.of_below (below_drewN (Below.refl _ _) nq)).trans (Only.setCell (w := w1) (a := w.drewN nq) ⟨hgr.os, hgr.tape, hgr.output, hgr.size, fun k hk hn => hgr.block k hk (fun e => hn (h6 k e.symm))⟩ (.inl h5) 1 (.slice A' (l.length + d.length) cap'))

/-! ### A number in groups of seven bits -/
def varN (n : Nat) : List UInt8 := if h : n < 128 then [UInt8.ofNat n] else UInt8.ofNat (n % 128 + 128) :: varN (n / 128)
termination_by n
decreasing_by exact Nat.div_lt_self (by omega) (by decide)
theorem varN_lt {n : Nat} (h : n < 128) : varN n = [UInt8.ofNat n] := by rw [varN]; simp [h]
theorem varN_ge {n : Nat} (h : ¬ n < 128) : varN n = UInt8.ofNat (n % 128 + 128) :: varN (n / 128) := by rw [varN]; simp [h]
theorem varN_len : ∀ (k n : Nat), n < 128 ^ (k + 1) → (varN n).length ≤ k + 1 := by
  intro k
  induction k with
  | zero => intro n h; rw [varN_lt (by simpa using h)]; simp
  | succ k ih =>
    intro n h
    by_cases hn : n < 128
    · rw [varN_lt hn]; simp
    · rw [varN_ge hn]
      have := ih (n / 128) (Nat.div_lt_of_lt_mul (by rw [Nat.pow_succ] at h; rw [Nat.mul_comm]; exact h))
      simp; omega
theorem or128 : ∀ n : Fin 256, bits .or .u8 (n.val : Int) 128 = ((n.val % 128 + 128 : Nat) : Int) := by decide +kernel
theorem varN_or {m : Nat} : bits .or .u8 ((m : Int) % 256) 128 = ((UInt8.ofNat (m % 128 + 128)).toNat : Int) := by
  have h1 : (m : Int) % 256 = ((m % 256 : Nat) : Int) := by simp
  have h2 := or128 ⟨m % 256, Nat.mod_lt _ (by decide)⟩
  rw [h1, h2]
  simp only [UInt8.toNat_ofNat']
  omega
def VarRel (w : World) (n : Nat) (t b : Value) (W : World) : Prop :=
  ∃ (m : Nat) (pre : List UInt8), pre ++ varN m = varN n ∧ m < 18446744073709551616 ∧ t = .int .u64 m ∧ W.ownsRow w.heap.size 5 1 b pre.length (bv pre) ∧ Below w.heap.size w W
set_option maxRecDepth 100000 in
set_option maxHeartbeats 1000000 in
theorem varint_spec (n : Nat) (hn : n < 18446744073709551616) (w : World) :
    Calls Try.prog 129 #[.int .u64 n] w fun e w' => ∃ A c, e = .returned (.slice (some A) (varN n).length c) ∧ w'.ownsRow w.heap.size 5 1 (.slice (some A) (varN n).length c) (varN n).length (bv (varN n)) ∧ Below w.heap.size w w' := by
  obtain ⟨i0, hi, hz0, hz1, hz2⟩ := info_parts Try.infoByte
  have HL := Lib.hid (varN_len 9 n (by omega))
  go_enter Try.func129, Try.ntmps129
  go_wp2_with fail
  go_loopw [0, 3] (VarRel w n) (fun t _ _ => (intOf t).toNat)
  case atStart => exact ⟨n, [], rfl, hn, rfl, World.ownsRow_nil _ _ _ _, Below.refl _ _⟩
  case round =>
    obtain ⟨m, pre, hpre, hm, rfl, hown, hb⟩ := hrel
    have hlen := congrArg List.length hpre
    rw [List.length_append] at hlen
    have h10 := HL.out
    have q2 : w.heap.size ≤ wr.heap.size + 1 := by have := hb.size; omega
    by_cases hlt : m < 128
    · have hle : ¬ (128 : Int) ≤ (m : Int) := by omega
      have HV := Lib.hid (show (m : Int) = ((UInt8.ofNat m).toNat : Int) by simp only [UInt8.toNat_ofNat']; omega)
      have hv1 := varN_lt hlt
      rw [hv1] at hpre hlen
      simp only [List.length_cons, List.length_nil] at hlen
      have p1 : pre.length + 1 ≤ maxLen := by unfold maxLen; omega
      have p2 : (pre.length + 1) * 1 ≤ 140737488355328 := by omega
      have HP := Lib.hid hpre
      have HLN := Lib.hid hlen
      clear hv1 hpre hlen h10
      go_wp2_with (at_builtin; refine wpList_append_row rfl _ _ 74 rfl w.heap.size 5 i0 (.int .u8 0) 1 1 Try.underlying74 hi hz0 hz1 hz2 rfl (by decide) _ _ _ rfl (hown.alloc _) ⟨wr.heap.size, 0, none⟩ 1 1 [.int .u8 (m : Int)] rfl rfl (cell_one_new _ _ _) (by simp [Value.oneCell']) p1 p2 (by rw [World.size_alloc]; exact q2) ?_)
      intro v' w1 own1 hgr hfr
      have hb1 : Below w.heap.size w w1 := (hb.alloc hb.size _).grown hgr (by rw [World.size_alloc]; exact q2) (fun j hj => (hown.lt j hj).1)
      obtain ⟨A', cap', e⟩ : ∃ A' cap', v' = .slice (some A') (pre.length + 1) cap' := by
        rcases own1.2 with ⟨h1, h2⟩ | ⟨g, cap', cur, h1, _⟩
        · omega
        · exact ⟨_, _, h1⟩
      subst e
      rw [HV.out] at own1
      go_wp2_with fail
      go_ret
      refine ⟨A', cap', by rw [← HLN.out]; rfl, ?_, hb1⟩
      rw [← HP.out, bv_append, List.length_append]
      exact own1
    · have hle : (128 : Int) ≤ (m : Int) := by omega
      have HV := Lib.hid (varN_or (m := m))
      have hv1 := varN_ge hlt
      rw [hv1] at hpre hlen
      simp only [List.length_cons] at hlen
      have p1 : pre.length + 1 ≤ maxLen := by unfold maxLen; omega
      have p2 : (pre.length + 1) * 1 ≤ 140737488355328 := by omega
      have HP := Lib.hid hpre
      clear hv1 hpre hlen h10
      go_wp2_with (at_builtin; refine wpList_append_row rfl _ _ 74 rfl w.heap.size 5 i0 (.int .u8 0) 1 1 Try.underlying74 hi hz0 hz1 hz2 rfl (by decide) _ _ _ rfl (hown.alloc _) ⟨wr.heap.size, 0, none⟩ 1 1 [.int .u8 (bits .or .u8 ((m : Int) % 256) 128)] rfl rfl (cell_one_new _ _ _) (by simp [Value.oneCell']) p1 p2 (by rw [World.size_alloc]; exact q2) ?_)
      intro v' w1 own1 hgr hfr
      have hb1 : Below w.heap.size w w1 := (hb.alloc hb.size _).grown hgr (by rw [World.size_alloc]; exact q2) (fun j hj => (hown.lt j hj).1)
      rw [HV.out] at own1
      go_wp2_with fail
      go_roundw
      case rel =>
        refine ⟨m / 128, pre ++ [UInt8.ofNat (m % 128 + 128)], by rw [← HP.out]; simp, by omega, ?_, ?_, hb1⟩
        · rfl
        · rw [bv_append, List.length_append]; exact own1
      case measure =>
        show ((m : Int) / 128).toNat < (m : Int).toNat
        omega
end Go.Proofs.Ytbcaiegglbdonaa

/-
  Cells cut into blocks: the program's pieces.
-/
namespace Go.Proofs.Ytbcaiegglbdonaa
open Go Go.RowKit
set_option linter.unusedSimpArgs false

/-! ### Plain -/
def szC (c : Cell) : Nat := c.key.size + c.val.size + 16
def szAt (l : List Cell) (i : Nat) : Nat := ((l[i]?).map szC).getD 0
structure Cuts where
  out : List (Nat × Nat)
  start : Nat
  n : Nat
def cutS (l : List Cell) (size : Int) : Nat → Cuts
  | 0 => ⟨[], 0, 0⟩
  | i + 1 =>
    let s := cutS l size i
    if size ≤ (s.n + szAt l i : Nat) ∨ i + 1 = l.length then ⟨s.out ++ [(s.start, i + 1)], i + 1, 0⟩ else ⟨s.out, s.start, s.n + szAt l i⟩
def cutN (l : List Cell) (size : Int) : List (Nat × Nat) := (cutS l size l.length).out
theorem cutS_yes {l : List Cell} {size : Int} {i : Nat} (h : size ≤ ((cutS l size i).n + szAt l i : Nat) ∨ i + 1 = l.length) : cutS l size (i + 1) = ⟨(cutS l size i).out ++ [((cutS l size i).start, i + 1)], i + 1, 0⟩ := by
  show (if _ then _ else _) = _
  rw [if_pos h]
theorem cutS_no {l : List Cell} {size : Int} {i : Nat} (h : ¬ (size ≤ ((cutS l size i).n + szAt l i : Nat) ∨ i + 1 = l.length)) : cutS l size (i + 1) = ⟨(cutS l size i).out, (cutS l size i).start, (cutS l size i).n + szAt l i⟩ := by
  show (if _ then _ else _) = _
  rw [if_neg h]
theorem cutS_start (l : List Cell) (size : Int) (i : Nat) : (cutS l size i).start ≤ i := by
  induction i with
  | zero => exact Nat.le_refl _
  | succ i ih =>
    by_cases h : size ≤ ((cutS l size i).n + szAt l i : Nat) ∨ i + 1 = l.length
    · rw [cutS_yes h]; exact Nat.le_refl _
    · rw [cutS_no h]; exact Nat.le_succ_of_le ih
theorem cutS_len (l : List Cell) (size : Int) (i : Nat) : (cutS l size i).out.length ≤ i := by
  induction i with
  | zero => exact Nat.le_refl _
  | succ i ih =>
    by_cases h : size ≤ ((cutS l size i).n + szAt l i : Nat) ∨ i + 1 = l.length
    · rw [cutS_yes h, List.length_append]; simp only [List.length_cons, List.length_nil]; omega
    · rw [cutS_no h]; exact Nat.le_succ_of_le ih
theorem szAt_le {l : List Cell} (hs : ∀ c ∈ l, c.key.size ≤ 128 ∧ c.val.size ≤ 1024) (i : Nat) : szAt l i ≤ 1168 := by
  unfold szAt
  cases h : l[i]? with
  | none => exact Nat.zero_le _
  | some x =>
    have := hs x (List.mem_of_getElem? h)
    show szC x ≤ 1168
    unfold szC
    omega
theorem cutS_n {l : List Cell} (hs : ∀ c ∈ l, c.key.size ≤ 128 ∧ c.val.size ≤ 1024) (size : Int) (i : Nat) : (cutS l size i).n ≤ i * 1168 := by
  induction i with
  | zero => exact Nat.le_refl _
  | succ i ih =>
    by_cases h : size ≤ ((cutS l size i).n + szAt l i : Nat) ∨ i + 1 = l.length
    · rw [cutS_yes h]; exact Nat.zero_le _
    · rw [cutS_no h]
      have := szAt_le hs i
      show (cutS l size i).n + szAt l i ≤ _
      omega
/-! ### The walk -/
theorem Try.infoSlice : (Try.prog.info? 22).map (fun i => (i.zero, i.size, i.bytes)) = some (some (.slice none 0 0), 1, 24) := by kernel_rfl
def cutOf2 (a : Option Addr) (l h m s : Nat) : Value := sliced a l h m s
theorem cut_both {t : TypeId} (a : Option Addr) (len cap L n : Nat) (H : Int) (hl : (L : Int) ≤ H) (ht : Try.prog.underlying t = some (.slice (Try.prog.elem t))) (hs : ∀ w, (sizeOf (Try.prog.elem t)).run Try.prog w = .ok n w) (h : H ≤ cap) (w : World) :
    (Instr.sliceAt t (.slice a len cap) (some (.int .i64 L)) (some (.int .i64 H)) none).run Try.prog w = .ok (cutOf2 a L H.toNat cap n) w := by
  rw [run_sliceAt_slice (P := Try.prog) w t _ _ _ _ ht, run_slice_lh w t a len cap ht .i64 .i64 L H (by omega) (by omega) (by omega), hs]
  rfl
def pieceV (A : Option Addr) (cap : Nat) (p : Nat × Nat) : Value := cutOf2 A p.1 p.2 cap 4
def PcRel (w : World) (l : List Cell) (size : Int) (A : Option Addr) (cap : Nat) (out f n i : Value) (W : World) : Prop :=
  ∃ k : Nat, k ≤ l.length ∧ i = .int .i64 k ∧ f = .int .i64 ((cutS l size k).start : Nat) ∧ n = .int .i64 ((cutS l size k).n : Nat) ∧ Below w.heap.size w W ∧ W.ownsRow w.heap.size 22 1 out (cutS l size k).out.length ((cutS l size k).out.map (pieceV A cap))
def PiecesPost (w : World) (l : List Cell) (size : Int) (A : Option Addr) (cap : Nat) (e : Ending) (w' : World) : Prop :=
  ∃ v, e = .returned v ∧ Below w.heap.size w w' ∧ w'.ownsRow w.heap.size 22 1 v (cutN l size).length ((cutN l size).map (pieceV A cap))
set_option maxRecDepth 100000 in
set_option maxHeartbeats 2000000 in
theorem pieces_spec {w : World} {l : List Cell} {A : Option Addr} {cap : Nat} (h : Reads w (.slice A l.length cap) l.length 4 (cellVals l)) (hl : l.length ≤ 65536) (hcap : l.length ≤ cap) (hs : ∀ c ∈ l, c.key.size ≤ 128 ∧ c.val.size ≤ 1024) (size : Int) :
    Calls Try.prog 108 #[.slice A l.length cap, .int .i64 size] w (PiecesPost w l size A cap) := by
  obtain ⟨i0, hi, hz0, hz1, hz2⟩ := info_parts Try.infoSlice
  have H := Lib.hid h
  have HS := Lib.hid hs
  clear h hs
  go_enter Try.func108, Try.ntmps108
  go_wp2_with fail
  go_loopw [5, 6, 7, 12] (PcRel w l size A cap) (fun _ _ _ i _ => l.length - (intOf i).toNat)
  case atStart => exact ⟨0, by omega, rfl, rfl, rfl, Below.refl _ _, World.ownsRow_nil _ _ _ _⟩
  case round =>
    obtain ⟨k, hk, rfl, rfl, rfl, hb, hrow⟩ := hrel
    by_cases hlt : k < l.length
    · obtain ⟨x, hx⟩ : ∃ x, l[k]? = some x := ⟨_, List.getElem?_eq_getElem hlt⟩
      obtain ⟨b, o, rfl, hbl, c0, c1, c2, c3⟩ := (H.out.kept hb).cell_at hx
      have hxs := HS.out x (List.mem_of_getElem? hx)
      have hsz : szAt l k = x.key.size + x.val.size + 16 := by unfold szAt; rw [hx]; rfl
      have hnb := cutS_n HS.out size k
      have hcl := cutS_len l size k
      have hcs := cutS_start l size k
      obtain ⟨st, hst⟩ : ∃ st, cutS l size k = st := ⟨_, rfl⟩
      have HY := Lib.hid (@cutS_yes l size k)
      have HN := Lib.hid (@cutS_no l size k)
      rw [hst, hsz] at HY HN
      rw [hst] at hrow hnb hcl hcs ⊢
      have j0 : (0 : Int) ≤ (k : Int) := by omega
      have j1 : (k : Int) < (l.length : Int) := by omega
      have HX := Lib.hid hx
      have wr1 : IntKind.i64.wrap ((x.key.size : Int) + (x.val.size : Int)) = (x.key.size : Int) + (x.val.size : Int) := IntWalk.i64_in _ (by omega)
      have wr2 : IntKind.i64.wrap ((x.key.size : Int) + (x.val.size : Int) + 16) = (x.key.size : Int) + (x.val.size : Int) + 16 := IntWalk.i64_in _ (by omega)
      have wr3 : IntKind.i64.wrap ((st.n : Int) + ((x.key.size : Int) + (x.val.size : Int) + 16)) = (st.n : Int) + ((x.key.size : Int) + (x.val.size : Int) + 16) := IntWalk.i64_in _ (by omega)
      have wr4 : IntKind.i64.wrap ((l.length : Int) - 1) = (l.length : Int) - 1 := IntWalk.i64_in _ (by omega)
      have wr5 : IntKind.i64.wrap ((k : Int) + 1) = (k : Int) + 1 := IntWalk.i64_in _ (by omega)
      have hba : Below wr.heap.size wr (wr.alloc (.cells #[.string x.key, .int .u64 x.seq, .string x.val, .bool x.gone] 25)) := (Below.refl _ _).alloc (Nat.le_refl _) _
      have hcut : ∀ W : World, (Instr.sliceAt 22 (.slice (some ⟨b, o, none⟩) l.length cap) (some (.int .i64 (st.start : Nat))) (some (.int .i64 ((k : Int) + 1))) none).run Try.prog W = .ok (pieceV (some ⟨b, o, none⟩) cap (st.start, k + 1)) W :=
        fun W => cut_both (t := 22) (some ⟨b, o, none⟩) l.length cap st.start 4 ((k : Int) + 1) (by omega) (by kernel_rfl) (fun w => by go_simp) (by omega) W
      have p1 : st.out.length + 1 ≤ maxLen := by unfold maxLen; omega
      have p2 : (st.out.length + 1) * 24 ≤ 140737488355328 := by omega
      have HR := Lib.hid hrow
      have HB := Lib.hid hb
      clear hx hrow hst hsz hnb hb
      by_cases hge : size ≤ (st.n : Int) + ((x.key.size : Int) + (x.val.size : Int) + 16)
      · have HA := Lib.hid (HY.out (.inl (by omega)))
        have p3 : w.heap.size ≤ ((wr.alloc (.cells #[.string x.key, .int .u64 x.seq, .string x.val, .bool x.gone] 25)).alloc (.cells #[pieceV (some ⟨b, o, none⟩) cap (st.start, k + 1)] 22)).heap.size := by have := HB.out.size; simp; omega
        obtain ⟨pa, pn, pc, hpv⟩ : ∃ pa pn pc, pieceV (some ⟨b, o, none⟩) cap (st.start, k + 1) = .slice pa pn pc := ⟨_, _, _, rfl⟩
        have HPV := Lib.hid hpv
        rw [hpv] at hcut p3
        clear hpv
        go_wp2_with (at_builtin; refine wpList_append_row rfl _ _ 139 rfl w.heap.size 22 i0 (.slice none 0 0) 1 24 (by kernel_rfl) hi hz0 hz1 hz2 rfl (by decide) u5 _ _ rfl ((HR.out.alloc _).alloc _) ⟨wr.heap.size + 1, 0, none⟩ 1 1 [.slice pa pn pc] rfl rfl (by have := cell_one_new (wr.alloc (.cells #[.string x.key, .int .u64 x.seq, .string x.val, .bool x.gone] 25)) (.slice pa pn pc) 22; rw [World.size_alloc] at this; exact this) (by simp [Value.oneCell']) p1 p2 p3 ?_; intro rs' w4 own4 hgr hfr)
        go_roundw
        case rel =>
          refine ⟨k + 1, by omega, by go_num, by rw [HA.out]; rfl, by rw [HA.out]; rfl, ?_, ?_⟩
          · exact (HB.out.trans ((hba.alloc hba.size _).mono HB.out.size)).grown hgr (by have := HB.out.size; simp; omega) (fun z hz => (HR.out.lt z hz).1)
          · rw [HA.out]
            simpa [HPV.out] using own4
        case measure => simp [intOf]; omega
      · have hgf : ¬ (st.n : Int) + ((x.key.size : Int) + (x.val.size : Int) + 16) ≥ size := hge
        by_cases hend : k + 1 = l.length
        · have hq : ((k : Int) == (l.length : Int) - 1) = true := by rw [beq_iff_eq]; omega
          have HA := Lib.hid (HY.out (.inr hend))
          have p3 : w.heap.size ≤ ((wr.alloc (.cells #[.string x.key, .int .u64 x.seq, .string x.val, .bool x.gone] 25)).alloc (.cells #[pieceV (some ⟨b, o, none⟩) cap (st.start, k + 1)] 22)).heap.size := by have := HB.out.size; simp; omega
          obtain ⟨pa, pn, pc, hpv⟩ : ∃ pa pn pc, pieceV (some ⟨b, o, none⟩) cap (st.start, k + 1) = .slice pa pn pc := ⟨_, _, _, rfl⟩
          have HPV := Lib.hid hpv
          rw [hpv] at hcut p3
          clear hpv
          go_wp2_with (at_builtin; refine wpList_append_row rfl _ _ 139 rfl w.heap.size 22 i0 (.slice none 0 0) 1 24 (by kernel_rfl) hi hz0 hz1 hz2 rfl (by decide) u5 _ _ rfl ((HR.out.alloc _).alloc _) ⟨wr.heap.size + 1, 0, none⟩ 1 1 [.slice pa pn pc] rfl rfl (by have := cell_one_new (wr.alloc (.cells #[.string x.key, .int .u64 x.seq, .string x.val, .bool x.gone] 25)) (.slice pa pn pc) 22; rw [World.size_alloc] at this; exact this) (by simp [Value.oneCell']) p1 p2 p3 ?_; intro rs' w4 own4 hgr hfr)
          go_roundw
          case rel =>
            refine ⟨k + 1, by omega, by go_num, by rw [HA.out]; rfl, by rw [HA.out]; rfl, ?_, ?_⟩
            · exact (HB.out.trans ((hba.alloc hba.size _).mono HB.out.size)).grown hgr (by have := HB.out.size; simp; omega) (fun z hz => (HR.out.lt z hz).1)
            · rw [HA.out]
              simpa [HPV.out] using own4
          case measure => simp [intOf]; omega
        · have hq : ((k : Int) == (l.length : Int) - 1) = false := by
            rw [beq_eq_false_iff_ne]; omega
          go_wp2_with fail
          go_roundw
          case rel => exact ⟨k + 1, by omega, by go_num, by rw [HN.out (by omega)], by rw [HN.out (by omega)]; show Value.int _ _ = Value.int _ _; congr 1, HB.out.trans (hba.mono HB.out.size), by rw [HN.out (by omega)]; exact HR.out.alloc _⟩
          case measure => simp [intOf]; omega
    · obtain rfl : k = l.length := by omega
      go_wp2_with fail
      go_ret
      exact ⟨_, rfl, hb, hrow⟩
end Go.Proofs.Ytbcaiegglbdonaa

/-
  The codec's Writer: Varint, Raw, U8, U16, U32, Len, Done, NewWriter.
-/
namespace Go.Proofs.Ytbcaiegglbdonaa
open Go Go.RowKit

theorem own_src {w : World} {B e k n c : Nat} {A : Addr} {xs : List Value} (h : w.ownsRow B e k (.slice (some A) n c) n xs) : ∀ j u, xs[j]? = some u → w.cell? (A.add j) = some u := by
  rcases h.2 with ⟨h1, _⟩ | ⟨g, cap', cur, h1, _⟩
  · cases h1
  · cases h1
    exact h.cells rfl
theorem PutsW.pre {w w1 w' : World} {base p : Nat} {F : Nat → Prop} {st : Option (List UInt8)} {e : Ending} (hb : Below w.heap.size w w1) (h : PutsW w1 base p F st e w') : PutsW w base p F st e w' := by
  obtain ⟨h1, F', h2, h3, h4⟩ := h
  exact ⟨h1, F', h2, fun k hk => (h3 k hk).imp id (fun h => Nat.le_trans hb.size h), (Only.of_below hb).trans h4⟩
set_option maxRecDepth 100000 in
set_option maxHeartbeats 1000000 in
theorem writer_varint {w : World} {base p : Nat} {F : Nat → Prop} {st : Option (List UInt8)} (h : WrIs w base p F st) (hB : base ≤ w.heap.size) (n : Nat) (hn : n < 18446744073709551616) :
    Calls Try.prog 86 #[.pointer (some ⟨p, 0, none⟩), .int .u64 n] w (PutsW w base p F (putW st (varN n))) := by
  have HW := Lib.hid h
  clear h
  go_enter Try.func86, Try.ntmps86
  go_wp2_with fail
  refine (varint_spec n hn w).mono ?_
  rintro e w1 ⟨A, c, rfl, hown, hb1⟩
  have HO := Lib.hid hown
  clear hown
  go_wp2_with fail
  refine (writer_put (HW.out.kept hb1) (Nat.le_trans hB hb1.size) (own_src HO.out)).mono ?_
  rintro e w2 h2
  have h3 := h2.pre hb1
  obtain ⟨rfl, h4⟩ := h3
  clear h2
  go_wp2_with fail
  exact body_none rfl rfl ⟨rfl, h4⟩

theorem bytes_below (w : World) (s : ByteArray) : Below w.heap.size w (Lib.bytesWorld w 5 s) :=
  ⟨rfl, rfl, rfl, by rw [Lib.bytesWorld_size]; omega, fun k hk => Lib.bytesWorld_at_old w 5 s k hk⟩
set_option maxRecDepth 100000 in
set_option maxHeartbeats 1000000 in
theorem writer_raw {w : World} {base p : Nat} {F : Nat → Prop} {st : Option (List UInt8)} (h : WrIs w base p F st) (hB : base ≤ w.heap.size) (s : ByteArray) :
    Calls Try.prog 88 #[.pointer (some ⟨p, 0, none⟩), .string s] w (PutsW w base p F (putW st s.data.toList)) := by
  have HW := Lib.hid h
  clear h
  have hcv : ∀ W, (convert 9 74 (.string s)).run Try.prog W = .ok (.slice (some ⟨W.heap.size, 0, none⟩) s.size (grownCap W s.size 0 5)) (Lib.bytesWorld W 5 s) := fun W => Lib.run_convert_string_bytes W 9 74 5 s Try.underlying9 Try.underlying74 Try.underlying5
  go_enter Try.func88, Try.ntmps88
  go_wp2_with fail
  have hbb := bytes_below w s
  refine (writer_put (d := s.data.toList) (HW.out.kept hbb) (Nat.le_trans hB hbb.size) (ad := ⟨w.heap.size, 0, none⟩) (c := grownCap w s.size 0 5) (fun j u hj => ?_)).mono ?_
  · have hjl := (List.getElem?_eq_some_iff.1 hj).1
    rw [bv_len] at hjl
    rw [add_at rfl]
    show World.cell? _ ⟨w.heap.size, 0 + j, none⟩ = _
    rw [Nat.zero_add, Lib.bytesWorld_cell w 5 s j (by simpa using hjl)]
    unfold bv at hj
    rw [List.getElem?_map, List.getElem?_eq_getElem hjl] at hj
    simp at hj
    subst hj
    simp [List.getD, List.getElem?_eq_getElem hjl]
  rintro e w2 h2
  have h3 := h2.pre hbb
  obtain ⟨rfl, h4⟩ := h3
  clear h2 hcv
  go_wp2_with fail
  exact body_none rfl rfl ⟨rfl, h4⟩

theorem make_bytes (k : Nat) (hk : k ≤ 1000) (w : World) : (Instr.makeSlice 74 (.int .i64 k) (.int .i64 k)).run Try.prog w = .ok (.slice (some ⟨w.heap.size, 0, none⟩) k k) (w.alloc (.cells (madeCells #[.int .u8 0] k) 5)) := by
  obtain ⟨i0, hi, hz0, hz1, hz2⟩ := info_parts Try.infoByte
  have := run_makeSlice (P := Try.prog) w 74 5 i0 _ Try.underlying74 hi hz0 .i64 .i64 k k (by omega) (by omega) (by rw [hz1]; simp; omega) (by rw [hz2]; omega) (by omega)
  rw [this, hz1]
  simp [Value.cells]
/-- The end of a number: its bytes lie in a new block. -/
theorem put_new_bytes {w : World} {base p : Nat} {F : Nat → Prop} {st : Option (List UInt8)} (h : WrIs w base p F st) (hB : base ≤ w.heap.size) (d : List UInt8) (arr : Array Value) (ha : arr = (bv d).toArray) (c : Nat) :
    Calls Try.prog 128 #[.pointer (some ⟨p, 0, none⟩), .slice (some ⟨w.heap.size, 0, none⟩) d.length c] (w.alloc (.cells arr 5)) (PutsW w base p F (putW st d)) := by
  subst ha
  have hb : Below w.heap.size w (w.alloc (.cells (bv d).toArray 5)) := (Below.refl _ _).alloc (Nat.le_refl _) _
  refine (writer_put (h.kept hb) (Nat.le_trans hB hb.size) (fun j u hj => ?_)).mono fun e w' h2 => h2.pre hb
  rw [add_at rfl]
  have := (Blk.new w (bv d).toArray 5).cell j u (by simpa using hj)
  simpa using this
set_option maxRecDepth 100000 in
set_option maxHeartbeats 1000000 in
theorem number_u8 {w : World} {base p : Nat} {F : Nat → Prop} {st : Option (List UInt8)} (h : WrIs w base p F st) (hB : base ≤ w.heap.size) (n : Nat) (hn : n < 256) :
    Calls Try.prog 130 #[.pointer (some ⟨p, 0, none⟩), .int .u8 n, .int .i64 1] w (PutsW w base p F (putW st [UInt8.ofNat n])) := by
  have HW := Lib.hid h
  clear h
  have hmk : ∀ W, (Instr.makeSlice 74 (.int .i64 1) (.int .i64 1)).run Try.prog W = .ok (.slice (some ⟨W.heap.size, 0, none⟩) 1 1) (W.alloc (.cells #[.int .u8 0] 5)) := fun W => by
    have := make_bytes 1 (by decide) W
    rw [show madeCells #[.int .u8 0] 1 = #[.int .u8 0] from by kernel_rfl] at this
    exact this
  go_enter Try.func130, Try.ntmps130
  go_wp2_with fail
  refine wp_loop_rounds 3 ?_
  rw [rounds_succ]
  go_wp2_with fail
  rw [rounds_succ]
  go_wp2_with fail
  refine (put_new_bytes HW.out hB [UInt8.ofNat n] _ ?_ 1).mono ?_
  · simp [bv]; omega
  rintro e w2 ⟨rfl, h4⟩
  go_wp2_with fail
  exact body_none rfl rfl ⟨rfl, h4⟩
def be4 (n : Nat) : List UInt8 := [UInt8.ofNat (n / 16777216), UInt8.ofNat (n / 65536), UInt8.ofNat (n / 256), UInt8.ofNat n]
def be2 (n : Nat) : List UInt8 := [UInt8.ofNat (n / 256), UInt8.ofNat n]
set_option maxRecDepth 100000 in
set_option maxHeartbeats 1000000 in
theorem number_u32 {w : World} {base p : Nat} {F : Nat → Prop} {st : Option (List UInt8)} (h : WrIs w base p F st) (hB : base ≤ w.heap.size) (n : Nat) (hn : n < 4294967296) :
    Calls Try.prog 131 #[.pointer (some ⟨p, 0, none⟩), .int .u32 n, .int .i64 4] w (PutsW w base p F (putW st (be4 n))) := by
  have HW := Lib.hid h
  clear h
  have hmk : ∀ W, (Instr.makeSlice 74 (.int .i64 4) (.int .i64 4)).run Try.prog W = .ok (.slice (some ⟨W.heap.size, 0, none⟩) 4 4) (W.alloc (.cells #[.int .u8 0, .int .u8 0, .int .u8 0, .int .u8 0] 5)) := fun W => by
    have := make_bytes 4 (by decide) W
    rw [show madeCells #[.int .u8 0] 4 = #[.int .u8 0, .int .u8 0, .int .u8 0, .int .u8 0] from by kernel_rfl] at this
    exact this
  go_enter Try.func131, Try.ntmps131
  go_wp2_with fail
  refine wp_loop_rounds 6 ?_
  rw [rounds_succ]
  go_wp2_with fail
  rw [rounds_succ]
  go_wp2_with fail
  rw [rounds_succ]
  go_wp2_with fail
  rw [rounds_succ]
  go_wp2_with fail
  rw [rounds_succ]
  go_wp2_with fail
  refine (put_new_bytes HW.out hB (be4 n) _ ?_ 4).mono ?_
  · simp [bv, be4, UInt8.toNat_ofNat']; omega
  rintro e w2 ⟨rfl, h4⟩
  go_wp2_with fail
  exact body_none rfl rfl ⟨rfl, h4⟩
set_option maxRecDepth 100000 in
set_option maxHeartbeats 1000000 in
theorem number_u16 {w : World} {base p : Nat} {F : Nat → Prop} {st : Option (List UInt8)} (h : WrIs w base p F st) (hB : base ≤ w.heap.size) (n : Nat) (hn : n < 65536) :
    Calls Try.prog 132 #[.pointer (some ⟨p, 0, none⟩), .int .u16 n, .int .i64 2] w (PutsW w base p F (putW st (be2 n))) := by
  have HW := Lib.hid h
  clear h
  have hmk : ∀ W, (Instr.makeSlice 74 (.int .i64 2) (.int .i64 2)).run Try.prog W = .ok (.slice (some ⟨W.heap.size, 0, none⟩) 2 2) (W.alloc (.cells #[.int .u8 0, .int .u8 0] 5)) := fun W => by
    have := make_bytes 2 (by decide) W
    rw [show madeCells #[.int .u8 0] 2 = #[.int .u8 0, .int .u8 0] from by kernel_rfl] at this
    exact this
  go_enter Try.func132, Try.ntmps132
  go_wp2_with fail
  refine wp_loop_rounds 6 ?_
  rw [rounds_succ]
  go_wp2_with fail
  rw [rounds_succ]
  go_wp2_with fail
  rw [rounds_succ]
  go_wp2_with fail
  refine (put_new_bytes HW.out hB (be2 n) _ ?_ 2).mono ?_
  · simp [bv, be2, UInt8.toNat_ofNat']; omega
  rintro e w2 ⟨rfl, h4⟩
  go_wp2_with fail
  exact body_none rfl rfl ⟨rfl, h4⟩
set_option maxRecDepth 100000 in
theorem writer_u8 {w : World} {base p : Nat} {F : Nat → Prop} {st : Option (List UInt8)} (h : WrIs w base p F st) (hB : base ≤ w.heap.size) (n : Nat) (hn : n < 256) :
    Calls Try.prog 87 #[.pointer (some ⟨p, 0, none⟩), .int .u8 n] w (PutsW w base p F (putW st ([UInt8.ofNat n]))) := by
  have HN := Lib.hid (number_u8 h hB n hn)
  clear h
  go_enter Try.func87, Try.ntmps87
  go_wp2_with fail
  refine HN.out.mono ?_
  rintro e w2 ⟨rfl, h4⟩
  go_wp2_with fail
  exact body_none rfl rfl ⟨rfl, h4⟩
set_option maxRecDepth 100000 in
theorem writer_u32 {w : World} {base p : Nat} {F : Nat → Prop} {st : Option (List UInt8)} (h : WrIs w base p F st) (hB : base ≤ w.heap.size) (n : Nat) (hn : n < 4294967296) :
    Calls Try.prog 89 #[.pointer (some ⟨p, 0, none⟩), .int .u32 n] w (PutsW w base p F (putW st (be4 n))) := by
  have HN := Lib.hid (number_u32 h hB n hn)
  clear h
  go_enter Try.func89, Try.ntmps89
  go_wp2_with fail
  refine HN.out.mono ?_
  rintro e w2 ⟨rfl, h4⟩
  go_wp2_with fail
  exact body_none rfl rfl ⟨rfl, h4⟩
set_option maxRecDepth 100000 in
theorem writer_u16 {w : World} {base p : Nat} {F : Nat → Prop} {st : Option (List UInt8)} (h : WrIs w base p F st) (hB : base ≤ w.heap.size) (n : Nat) (hn : n < 65536) :
    Calls Try.prog 90 #[.pointer (some ⟨p, 0, none⟩), .int .u16 n] w (PutsW w base p F (putW st (be2 n))) := by
  have HN := Lib.hid (number_u16 h hB n hn)
  clear h
  go_enter Try.func90, Try.ntmps90
  go_wp2_with fail
  refine HN.out.mono ?_
  rintro e w2 ⟨rfl, h4⟩
  go_wp2_with fail
  exact body_none rfl rfl ⟨rfl, h4⟩

def lenW (st : Option (List UInt8)) : Nat := (st.map List.length).getD 0
set_option maxRecDepth 100000 in
theorem writer_len {w : World} {base p : Nat} {F : Nat → Prop} {st : Option (List UInt8)} (h : WrIs w base p F st) :
    Calls Try.prog 84 #[.pointer (some ⟨p, 0, none⟩)] w fun e w' => e = .returned (.int .i64 (lenW st)) ∧ w = w' := by
  obtain ⟨v, l, h1, h2, h3, h4, h5, h6⟩ := h.ex
  obtain ⟨A, cap, rfl⟩ := (Reads.of_own h2).form
  have c1 : w.cell? ⟨p, 1, none⟩ = some (.slice A l.length cap) := h1.cell 1 _ rfl
  have c2 : w.cell? ⟨p, 2, none⟩ = some (.bool st.isNone) := h1.cell 2 _ rfl
  have pl := h1.lt
  clear h h1 h2 h4
  rcases h3 with rfl | rfl
  · have c2' : w.cell? ⟨p, 2, none⟩ = some (.bool true) := c2
    clear c2
    go_enter Try.func84, Try.ntmps84
    go_wp2_with fail
    go_ret
    exact ⟨rfl, rfl⟩
  · have c2' : w.cell? ⟨p, 2, none⟩ = some (.bool false) := c2
    clear c2
    go_enter Try.func84, Try.ntmps84
    go_wp2_with fail
    go_ret
    exact ⟨rfl, rfl⟩
def strW (st : Option (List UInt8)) : ByteArray := ⟨(st.getD []).toArray⟩
def errW (st : Option (List UInt8)) : Int := if st.isNone then 3 else 0
theorem conv_own {w : World} {B n : Nat} {v : Value} {l : List UInt8} (hown : w.ownsRow B 5 1 v n (bv l)) : (convert 74 9 v).run Try.prog w = .ok (.string ⟨l.toArray⟩) w := by
  have hl : l.length = n := by have := hown.1; rw [bv_len] at this; omega
  obtain ⟨A, cap, rfl⟩ := (Reads.of_own hown).form
  rcases hown.2 with ⟨h1, h2⟩ | ⟨g, cap', cur, h1, _⟩
  · cases h1
    have : l = [] := List.eq_nil_of_length_eq_zero (by omega)
    subst this
    have := run_convert_bytes_nil (P := Try.prog) w 74 5 Try.underlying74 Try.underlying5 0 0 9 Try.underlying9
    exact this
  · cases h1
    have := run_convert_bytes_arg (P := Try.prog) w 74 5 Try.underlying74 Try.underlying5 g 0 n cap (l.map fun b => (b.toNat : Int)) (by simpa using hl) (fun i hi => by
      have := hown.cells rfl i (.int .u8 ((l[i]'(by omega)).toNat : Int)) (by simp [bv, hl, hi])
      rw [add_at rfl] at this
      simpa [hl, hi, List.getD] using this) 9 Try.underlying9
    have hs : strOfNums (l.map fun b => (b.toNat : Int)) = ⟨l.toArray⟩ := by
      unfold strOfNums
      rw [List.map_map]
      have h1 : ((fun n : Int => UInt8.ofNat n.toNat) ∘ fun b : UInt8 => (b.toNat : Int)) = id := by funext b; simp
      rw [h1, List.map_id]
    rw [this, hs]
set_option maxRecDepth 100000 in
theorem writer_done {w : World} {base p : Nat} {F : Nat → Prop} {st : Option (List UInt8)} (h : WrIs w base p F st) :
    Calls Try.prog 91 #[.pointer (some ⟨p, 0, none⟩)] w fun e w' => e = .returned (.tuple #[.string (strW st), .int .i64 (errW st)]) ∧ w = w' := by
  obtain ⟨v, l, h1, h2, h3, h4, h5, h6⟩ := h.ex
  have hcv := conv_own h2
  obtain ⟨A, cap, rfl⟩ := (Reads.of_own h2).form
  have c1 : w.cell? ⟨p, 1, none⟩ = some (.slice A l.length cap) := h1.cell 1 _ rfl
  have c2 : w.cell? ⟨p, 2, none⟩ = some (.bool st.isNone) := h1.cell 2 _ rfl
  have pl := h1.lt
  clear h h1 h2 h4
  rcases h3 with rfl | rfl
  · have c2' : w.cell? ⟨p, 2, none⟩ = some (.bool true) := c2
    clear c2
    go_enter Try.func91, Try.ntmps91
    go_wp2_with fail
    go_ret2
    exact ⟨rfl, rfl⟩
  · have c2' : w.cell? ⟨p, 2, none⟩ = some (.bool false) := c2
    clear c2
    go_enter Try.func91, Try.ntmps91
    go_wp2_with fail
    go_ret2
    exact ⟨rfl, rfl⟩
set_option maxRecDepth 100000 in
theorem writer_new (w : World) : Calls Try.prog 83 #[.int .i64 1099511627776] w fun e w' => e = .returned (.pointer (some ⟨w.heap.size, 0, none⟩)) ∧ WrIs w' w.heap.size w.heap.size (fun k => k = w.heap.size) (some []) ∧ Below w.heap.size w w' ∧ w'.heap.size = w.heap.size + 1 := by
  go_enter Try.func83, Try.ntmps83
  go_wp2_with fail
  go_ret
  exact ⟨rfl, ⟨⟨.slice none 0 0, [], Blk.new _ _ _, World.ownsRow_nil _ _ _ _, .inr rfl, by simp, rfl, fun g hg => by cases hg⟩, fun k hk => by subst hk; simp⟩, (Below.refl _ _).alloc (Nat.le_refl _) _, by simp⟩
end Go.Proofs.Ytbcaiegglbdonaa

/-
  The check sum, the codec's and the reference's.
-/
namespace Go.Proofs.Ytbcaiegglbdonaa
open Go Go.RowKit

def crcBit (c : Nat) : Nat := (c / 2) ^^^ (if c % 2 = 1 then 2197175160 else 0)
def crcBits : Nat → Nat → Nat
  | 0, c => c
  | j + 1, c => crcBits j (crcBit c)
def crcByte (c : Nat) (b : UInt8) : Nat := crcBits 8 (c ^^^ b.toNat)
def crcN (l : List UInt8) : Nat := (l.foldl crcByte 4294967295) ^^^ 4294967295
theorem bits_xor_u32_nat (a b : Nat) (ha : a < 4294967296) (hb : b < 4294967296) : bits .xor .u32 (a : Int) (b : Int) = ((a ^^^ b : Nat) : Int) := by
  have hx : a ^^^ b < 2 ^ 32 := Nat.xor_lt_two_pow (by omega) (by omega)
  have h1 : (BitVec.ofInt 32 (a : Int)).toNat = a := by
    rw [BitVec.ofInt_natCast, BitVec.toNat_ofNat]; exact Nat.mod_eq_of_lt (by omega)
  have h2 : (BitVec.ofInt 32 (b : Int)).toNat = b := by
    rw [BitVec.ofInt_natCast, BitVec.toNat_ofNat]; exact Nat.mod_eq_of_lt (by omega)
  show IntKind.u32.wrap ((BitVec.ofInt 32 (a : Int) ^^^ BitVec.ofInt 32 (b : Int)).toNat : Int) = _
  rw [BitVec.toNat_xor, h1, h2]
  simp [IntKind.wrap, IntKind.bits, IntKind.signed]
  omega
theorem bits_and_u32_nat (a b : Nat) (ha : a < 4294967296) (hb : b < 4294967296) : bits .and .u32 (a : Int) (b : Int) = ((a &&& b : Nat) : Int) := by
  have hx : a &&& b < 2 ^ 32 := Nat.and_lt_two_pow _ (by omega)
  have h1 : (BitVec.ofInt 32 (a : Int)).toNat = a := by
    rw [BitVec.ofInt_natCast, BitVec.toNat_ofNat]; exact Nat.mod_eq_of_lt (by omega)
  have h2 : (BitVec.ofInt 32 (b : Int)).toNat = b := by
    rw [BitVec.ofInt_natCast, BitVec.toNat_ofNat]; exact Nat.mod_eq_of_lt (by omega)
  show IntKind.u32.wrap ((BitVec.ofInt 32 (a : Int) &&& BitVec.ofInt 32 (b : Int)).toNat : Int) = _
  rw [BitVec.toNat_and, h1, h2]
  simp [IntKind.wrap, IntKind.bits, IntKind.signed]
  omega
theorem crc_step {c : Nat} (h : c < 4294967296) : bits .xor .u32 ((c : Int) / 2) (bits .and .u32 2197175160 (-bits .and .u32 (c : Int) 1 % 4294967296)) = ((crcBit c : Nat) : Int) := by
  have h1 : bits .and .u32 (c : Int) 1 = ((c % 2 : Nat) : Int) := by
    have := bits_and_u32_nat c 1 h (by decide)
    rw [Nat.and_one_is_mod] at this
    exact this
  rw [h1]
  have h2 : ((c : Int) / 2) = ((c / 2 : Nat) : Int) := by omega
  rw [h2]
  unfold crcBit
  rcases Nat.mod_two_eq_zero_or_one c with hc | hc
  · rw [hc, if_neg (by decide)]
    rw [show bits .and .u32 2197175160 (-((0 : Nat) : Int) % 4294967296) = ((0 : Nat) : Int) from by decide +kernel]
    exact bits_xor_u32_nat _ _ (by omega) (by decide)
  · rw [hc, if_pos rfl]
    rw [show bits .and .u32 2197175160 (-((1 : Nat) : Int) % 4294967296) = ((2197175160 : Nat) : Int) from by decide +kernel]
    exact bits_xor_u32_nat _ _ (by omega) (by decide)
theorem crcBit_lt {c : Nat} (h : c < 4294967296) : crcBit c < 4294967296 := by
  unfold crcBit
  exact Nat.xor_lt_two_pow (n := 32) (by omega) (by split <;> omega)
theorem crcBits_lt : ∀ (j : Nat) {c : Nat}, c < 4294967296 → crcBits j c < 4294967296
  | 0, _, h => h
  | j + 1, _, h => crcBits_lt j (crcBit_lt h)
theorem crcBits_succ : ∀ (j c : Nat), crcBits (j + 1) c = crcBit (crcBits j c)
  | 0, _ => rfl
  | j + 1, c => crcBits_succ j (crcBit c)
theorem crcByte_lt {c : Nat} (b : UInt8) (h : c < 4294967296) : crcByte c b < 4294967296 := crcBits_lt 8 (Nat.xor_lt_two_pow (n := 32) (by omega) (by have := b.toNat_lt; omega))
theorem crcFold_lt : ∀ (l : List UInt8) {c : Nat}, c < 4294967296 → l.foldl crcByte c < 4294967296
  | [], _, h => h
  | b :: l, _, h => crcFold_lt l (crcByte_lt b h)
def CrcOut (w : World) (s : ByteArray) (t i : Value) (W : World) : Prop := ∃ k : Nat, k ≤ s.size ∧ i = .int .i64 k ∧ t = .int .u32 ((s.data.toList.take k).foldl crcByte 4294967295 : Nat) ∧ W = w
def CrcIn (c0 : Nat) (wo : World) (t i : Value) (W : World) : Prop := ∃ j : Nat, j ≤ 8 ∧ i = .int .i64 j ∧ t = .int .u32 (crcBits j c0 : Nat) ∧ W = wo
set_option maxRecDepth 100000 in
set_option maxHeartbeats 1000000 in
theorem crc_spec (s : ByteArray) (w : World) (hs : s.size ≤ 9223372036854775807) : Calls Try.prog 92 #[.string s] w fun e w' => e = .returned (.int .u32 (crcN s.data.toList)) ∧ w' = w := by
  go_enter Try.func92, Try.ntmps92
  go_wp2_with fail
  go_loopw [3, 7] (CrcOut w s) (fun _ i _ => s.size - (intOf i).toNat)
  case atStart => exact ⟨0, by omega, rfl, rfl, rfl⟩
  case round =>
    obtain ⟨k, hk, rfl, rfl, rfl⟩ := hrel
    by_cases hlt : k < s.size
    · have i0 : (0 : Int) ≤ (k : Int) := by omega
      have i1 : (k : Int) < (s.size : Int) := by omega
      go_wp2_with fail
      obtain ⟨b, hb⟩ : ∃ b, s.data.toList[k]? = some b := ⟨_, List.getElem?_eq_getElem (by simpa using hlt)⟩
      have hsk : s[k].toNat = b.toNat := by
        have h2 := List.getElem?_eq_some_iff.1 hb
        obtain ⟨h3, h4⟩ := h2
        rw [← h4]
        rfl
      have HB := Lib.hid hb
      have HK := Lib.hid hsk
      have hc0 := crcFold_lt (s.data.toList.take k) (c := 4294967295) (by decide)
      obtain ⟨c, hc⟩ : ∃ c, (s.data.toList.take k).foldl crcByte 4294967295 = c := ⟨_, rfl⟩
      rw [hc] at hc0 ⊢
      have HC := Lib.hid hc
      clear hb hsk hc
      have hcb : c ^^^ b.toNat < 4294967296 := Nat.xor_lt_two_pow (n := 32) (by omega) (by have := b.toNat_lt; omega)
      go_loopw [3, 16] (CrcIn (c ^^^ b.toNat) wr) (fun _ i _ => 8 - (intOf i).toNat)
      case atStart =>
        refine ⟨0, by omega, rfl, ?_, rfl⟩
        rw [HK.out, show ((b.toNat : Int) % 4294967296) = ((b.toNat : Nat) : Int) from by have := b.toNat_lt; omega, bits_xor_u32_nat _ _ hc0 (by have := b.toNat_lt; omega)]
        rfl
      case round =>
        obtain ⟨j, hj, rfl, rfl, rfl⟩ := hrel
        have hcj := crcBits_lt j hcb
        have HS := Lib.hid (crc_step hcj)
        have HN := Lib.hid (crcBits_succ j (c ^^^ b.toNat))
        by_cases hj8 : j < 8
        · go_wp2_with fail
          go_roundw
          case rel => exact ⟨j + 1, by omega, by go_num, by rw [HS.out, HN.out], rfl⟩
          case measure => simp [intOf]; omega
        · obtain rfl : j = 8 := by omega
          go_wp2_with fail
          go_roundw
          case rel =>
            refine ⟨k + 1, by omega, by go_num, ?_, rfl⟩
            rw [List.take_add_one, HB.out, List.foldl_append, HC.out]
            rfl
          case measure => simp [intOf]; omega
    · obtain rfl : k = s.size := by omega
      go_wp2_with fail
      go_ret
      refine ⟨?_, rfl⟩
      have h1 : s.data.toList.take s.size = s.data.toList := List.take_of_length_le (Nat.le_refl _)
      have h2 := crcFold_lt s.data.toList (c := 4294967295) (by decide)
      rw [h1]
      show Ending.returned (Value.int IntKind.u32 (bits .xor .u32 ((4294967295 : Nat) : Int) _)) = _
      rw [bits_xor_u32_nat _ _ (by decide) h2, Nat.xor_comm]
      rfl

set_option maxRecDepth 100000 in
set_option maxHeartbeats 1000000 in
theorem ref_crc (s : ByteArray) (w : World) (hs : s.size ≤ 4611686018427387904) : Calls Try.prog 96 #[.string s] w fun e w' => e = .returned (.int .u32 (crcN s.data.toList)) ∧ w' = w := by
  go_enter Try.func96, Try.ntmps96
  go_wp2_with fail
  go_loopw [3, 4] (CrcOut w s) (fun _ i _ => s.size - (intOf i).toNat)
  case atStart => exact ⟨0, by omega, rfl, rfl, rfl⟩
  case round =>
    obtain ⟨k, hk, rfl, rfl, rfl⟩ := hrel
    by_cases hlt : k < s.size
    · have i0 : (0 : Int) ≤ (k : Int) := by omega
      have i1 : (k : Int) < (s.size : Int) := by omega
      go_wp2_with fail
      obtain ⟨b, hb⟩ : ∃ b, s.data.toList[k]? = some b := ⟨_, List.getElem?_eq_getElem (by simpa using hlt)⟩
      have hsk : s[k].toNat = b.toNat := by
        have h2 := List.getElem?_eq_some_iff.1 hb
        obtain ⟨h3, h4⟩ := h2
        rw [← h4]
        rfl
      have HB := Lib.hid hb
      have HK := Lib.hid hsk
      have hc0 := crcFold_lt (s.data.toList.take k) (c := 4294967295) (by decide)
      obtain ⟨c, hc⟩ : ∃ c, (s.data.toList.take k).foldl crcByte 4294967295 = c := ⟨_, rfl⟩
      rw [hc] at hc0 ⊢
      have HC := Lib.hid hc
      clear hb hsk hc
      have hcb : c ^^^ b.toNat < 4294967296 := Nat.xor_lt_two_pow (n := 32) (by omega) (by have := b.toNat_lt; omega)
      go_loopw [3, 5] (CrcIn (c ^^^ b.toNat) wr) (fun _ i _ => 8 - (intOf i).toNat)
      case atStart =>
        refine ⟨0, by omega, rfl, ?_, rfl⟩
        rw [HK.out, show ((b.toNat : Int) % 4294967296) = ((b.toNat : Nat) : Int) from by have := b.toNat_lt; omega, bits_xor_u32_nat _ _ hc0 (by have := b.toNat_lt; omega)]
        rfl
      case round =>
        obtain ⟨j, hj, rfl, rfl, rfl⟩ := hrel
        have hcj := crcBits_lt j hcb
        have HN := Lib.hid (crcBits_succ j (c ^^^ b.toNat))
        by_cases hj8 : j < 8
        · obtain ⟨q, hq⟩ : ∃ q, crcBits j (c ^^^ b.toNat) = q := ⟨_, rfl⟩
          rw [hq] at HN hcj ⊢
          clear hq
          by_cases hodd : q % 2 = 1
          · have ho : (q : Int) % 2 = 1 := by omega
            have HX := Lib.hid (show bits .xor .u32 ((q : Int) / 2) 2197175160 = ((crcBit q : Nat) : Int) by
              unfold crcBit
              rw [if_pos hodd]
              exact bits_xor_u32_nat (q / 2) 2197175160 (by omega) (by decide))
            go_wp2_with fail
            go_roundw
            case rel => exact ⟨j + 1, by omega, by go_num, by rw [HX.out, HN.out], rfl⟩
            case measure => simp [intOf]; omega
          · have ho : ¬ (q : Int) % 2 = 1 := by omega
            have HX := Lib.hid (show ((q : Int) / 2) = ((crcBit q : Nat) : Int) by
              unfold crcBit
              rw [if_neg hodd, Nat.xor_zero]
              omega)
            go_wp2_with fail
            go_roundw
            case rel => exact ⟨j + 1, by omega, by go_num, by rw [HX.out, HN.out], rfl⟩
            case measure => simp [intOf]; omega
        · obtain rfl : j = 8 := by omega
          go_wp2_with fail
          go_roundw
          case rel =>
            refine ⟨k + 1, by omega, by go_num, ?_, rfl⟩
            rw [List.take_add_one, HB.out, List.foldl_append, HC.out]
            rfl
          case measure => simp [intOf]; omega
    · obtain rfl : k = s.size := by omega
      go_wp2_with fail
      go_ret
      refine ⟨?_, rfl⟩
      have h1 : s.data.toList.take s.size = s.data.toList := List.take_of_length_le (Nat.le_refl _)
      have h2 := crcFold_lt s.data.toList (c := 4294967295) (by decide)
      rw [h1]
      show Ending.returned (Value.int IntKind.u32 (bits .xor .u32 _ ((4294967295 : Nat) : Int))) = _
      rw [bits_xor_u32_nat _ _ h2 (by decide)]
      rfl
end Go.Proofs.Ytbcaiegglbdonaa

/-
  The reference's Varint and Number.
-/
namespace Go.Proofs.Ytbcaiegglbdonaa
open Go Go.RowKit

theorem varN_mod {m : Nat} : ((m : Int) % 128 + 128) = ((UInt8.ofNat (m % 128 + 128)).toNat : Int) := by
  simp only [UInt8.toNat_ofNat']
  omega
set_option maxRecDepth 100000 in
set_option maxHeartbeats 1000000 in
theorem ref_varint (n : Nat) (hn : n < 18446744073709551616) (w : World) :
    Calls Try.prog 94 #[.int .u64 n] w fun e w' => e = .returned (.string ⟨(varN n).toArray⟩) ∧ Below w.heap.size w w' := by
  obtain ⟨i0, hi, hz0, hz1, hz2⟩ := info_parts Try.infoByte
  have HL := Lib.hid (varN_len 9 n (by omega))
  go_enter Try.func94, Try.ntmps94
  go_wp2_with fail
  go_loopw [0, 3] (VarRel w n) (fun t _ _ => (intOf t).toNat)
  case atStart => exact ⟨n, [], rfl, hn, rfl, World.ownsRow_nil _ _ _ _, Below.refl _ _⟩
  case round =>
    obtain ⟨m, pre, hpre, hm, rfl, hown, hb⟩ := hrel
    have hlen := congrArg List.length hpre
    rw [List.length_append] at hlen
    have h10 := HL.out
    have q2 : w.heap.size ≤ wr.heap.size + 1 := by have := hb.size; omega
    by_cases hlt : m < 128
    · have hle : ¬ (128 : Int) ≤ (m : Int) := by omega
      have HV := Lib.hid (show (m : Int) = ((UInt8.ofNat m).toNat : Int) by simp only [UInt8.toNat_ofNat']; omega)
      have hv1 := varN_lt hlt
      rw [hv1] at hpre hlen
      simp only [List.length_cons, List.length_nil] at hlen
      have p1 : pre.length + 1 ≤ maxLen := by unfold maxLen; omega
      have p2 : (pre.length + 1) * 1 ≤ 140737488355328 := by omega
      have HP := Lib.hid hpre
      have HLN := Lib.hid hlen
      clear hv1 hpre hlen h10
      go_wp2_with (at_builtin; refine wpList_append_row rfl _ _ 74 rfl w.heap.size 5 i0 (.int .u8 0) 1 1 Try.underlying74 hi hz0 hz1 hz2 rfl (by decide) _ _ _ rfl (hown.alloc _) ⟨wr.heap.size, 0, none⟩ 1 1 [.int .u8 (m : Int)] rfl rfl (cell_one_new _ _ _) (by simp [Value.oneCell']) p1 p2 (by rw [World.size_alloc]; exact q2) ?_)
      intro v' w1 own1 hgr hfr
      have hb1 : Below w.heap.size w w1 := (hb.alloc hb.size _).grown hgr (by rw [World.size_alloc]; exact q2) (fun j hj => (hown.lt j hj).1)
      rw [HV.out] at own1
      have own2 : w1.ownsRow w.heap.size 5 1 v' (pre.length + 1) (bv (varN n)) := by rw [← HP.out, bv_append]; exact own1
      have hcv := conv_own own2
      clear own1 own2 hgr hfr
      go_wp2_with fail
      go_ret
      exact ⟨rfl, hb1⟩
    · have hle : (128 : Int) ≤ (m : Int) := by omega
      have HV := Lib.hid (varN_mod (m := m))
      have hv1 := varN_ge hlt
      rw [hv1] at hpre hlen
      simp only [List.length_cons] at hlen
      have p1 : pre.length + 1 ≤ maxLen := by unfold maxLen; omega
      have p2 : (pre.length + 1) * 1 ≤ 140737488355328 := by omega
      have HP := Lib.hid hpre
      clear hv1 hpre hlen h10
      go_wp2_with (at_builtin; refine wpList_append_row rfl _ _ 74 rfl w.heap.size 5 i0 (.int .u8 0) 1 1 Try.underlying74 hi hz0 hz1 hz2 rfl (by decide) _ _ _ rfl (hown.alloc _) ⟨wr.heap.size, 0, none⟩ 1 1 [.int .u8 ((m : Int) % 128 + 128)] rfl rfl (cell_one_new _ _ _) (by simp [Value.oneCell']) p1 p2 (by rw [World.size_alloc]; exact q2) ?_)
      intro v' w1 own1 hgr hfr
      have hb1 : Below w.heap.size w w1 := (hb.alloc hb.size _).grown hgr (by rw [World.size_alloc]; exact q2) (fun j hj => (hown.lt j hj).1)
      rw [HV.out] at own1
      go_wp2_with fail
      go_roundw
      case rel =>
        refine ⟨m / 128, pre ++ [UInt8.ofNat (m % 128 + 128)], by rw [← HP.out]; simp, by omega, ?_, ?_, hb1⟩
        · rfl
        · rw [bv_append, List.length_append]; exact own1
      case measure =>
        show ((m : Int) / 128).toNat < (m : Int).toNat
        omega
set_option maxRecDepth 100000 in
set_option maxHeartbeats 1000000 in
theorem ref_number4 (n : Nat) (w : World) :
    Calls Try.prog 95 #[.int .u64 n, .int .i64 4] w fun e w' => e = .returned (.string ⟨(be4 n).toArray⟩) ∧ Below w.heap.size w w' := by
  obtain ⟨i0, hi, hz0, hz1, hz2⟩ := info_parts Try.infoByte
  have ow0 := World.ownsRow_nil w w.heap.size 5 1
  have hb0 : Below w.heap.size w w := Below.refl _ _
  go_enter Try.func95, Try.ntmps95
  go_wp2_with fail
  refine wp_loop_rounds 6 ?_
  rw [rounds_succ]
  go_wp2_with (at_builtin; refine wpList_append_row rfl _ _ 74 rfl w.heap.size 5 i0 (.int .u8 0) 1 1 Try.underlying74 hi hz0 hz1 hz2 rfl (by decide) _ 0 _ rfl (ow0.alloc _) ⟨w.heap.size, 0, none⟩ 1 1 [.int .u8 ((n : Int) / 16777216 % 256)] rfl rfl (cell_one_new _ _ _) (by simp [Value.oneCell']) (by decide) (by decide) (by rw [World.size_alloc]; have := hb0.size; omega) ?_)
  intro v1 w1 ow1 hgr hfr
  have hb1 : Below w.heap.size w w1 := (hb0.alloc hb0.size _).grown hgr (by rw [World.size_alloc]; have := hb0.size; omega) (fun j hj => (ow0.lt j hj).1)
  clear hgr hfr
  go_wp2_with fail
  rw [rounds_succ]
  go_wp2_with (at_builtin; refine wpList_append_row rfl _ _ 74 rfl w.heap.size 5 i0 (.int .u8 0) 1 1 Try.underlying74 hi hz0 hz1 hz2 rfl (by decide) _ 1 _ rfl (ow1.alloc _) ⟨w1.heap.size, 0, none⟩ 1 1 [.int .u8 ((n : Int) / 65536 % 256)] rfl rfl (cell_one_new _ _ _) (by simp [Value.oneCell']) (by decide) (by decide) (by rw [World.size_alloc]; have := hb1.size; omega) ?_)
  intro v2 w2 ow2 hgr hfr
  have hb2 : Below w.heap.size w w2 := (hb1.alloc hb1.size _).grown hgr (by rw [World.size_alloc]; have := hb1.size; omega) (fun j hj => (ow1.lt j hj).1)
  clear hgr hfr
  go_wp2_with fail
  rw [rounds_succ]
  go_wp2_with (at_builtin; refine wpList_append_row rfl _ _ 74 rfl w.heap.size 5 i0 (.int .u8 0) 1 1 Try.underlying74 hi hz0 hz1 hz2 rfl (by decide) _ 2 _ rfl (ow2.alloc _) ⟨w2.heap.size, 0, none⟩ 1 1 [.int .u8 ((n : Int) / 256 % 256)] rfl rfl (cell_one_new _ _ _) (by simp [Value.oneCell']) (by decide) (by decide) (by rw [World.size_alloc]; have := hb2.size; omega) ?_)
  intro v3 w3 ow3 hgr hfr
  have hb3 : Below w.heap.size w w3 := (hb2.alloc hb2.size _).grown hgr (by rw [World.size_alloc]; have := hb2.size; omega) (fun j hj => (ow2.lt j hj).1)
  clear hgr hfr
  go_wp2_with fail
  rw [rounds_succ]
  go_wp2_with (at_builtin; refine wpList_append_row rfl _ _ 74 rfl w.heap.size 5 i0 (.int .u8 0) 1 1 Try.underlying74 hi hz0 hz1 hz2 rfl (by decide) _ 3 _ rfl (ow3.alloc _) ⟨w3.heap.size, 0, none⟩ 1 1 [.int .u8 ((n : Int) % 256)] rfl rfl (cell_one_new _ _ _) (by simp [Value.oneCell']) (by decide) (by decide) (by rw [World.size_alloc]; have := hb3.size; omega) ?_)
  intro v4 w4 ow4 hgr hfr
  have hb4 : Below w.heap.size w w4 := (hb3.alloc hb3.size _).grown hgr (by rw [World.size_alloc]; have := hb3.size; omega) (fun j hj => (ow3.lt j hj).1)
  clear hgr hfr
  go_wp2_with fail
  have own2 : w4.ownsRow w.heap.size 5 1 v4 4 (bv (be4 n)) := by
    have e : bv (be4 n) = [.int .u8 ((n : Int) / 16777216 % 256), .int .u8 ((n : Int) / 65536 % 256), .int .u8 ((n : Int) / 256 % 256), .int .u8 ((n : Int) % 256)] := by simp [bv, be4, UInt8.toNat_ofNat']
    rw [e]
    simpa using ow4
  have hcv := conv_own own2
  clear own2 ow0 ow1 ow2 ow3 ow4
  rw [rounds_succ]
  go_wp2_with fail
  go_ret
  exact ⟨rfl, hb4⟩
set_option maxRecDepth 100000 in
set_option maxHeartbeats 1000000 in
theorem ref_number2 (n : Nat) (w : World) :
    Calls Try.prog 95 #[.int .u64 n, .int .i64 2] w fun e w' => e = .returned (.string ⟨(be2 n).toArray⟩) ∧ Below w.heap.size w w' := by
  obtain ⟨i0, hi, hz0, hz1, hz2⟩ := info_parts Try.infoByte
  have ow0 := World.ownsRow_nil w w.heap.size 5 1
  have hb0 : Below w.heap.size w w := Below.refl _ _
  go_enter Try.func95, Try.ntmps95
  go_wp2_with fail
  refine wp_loop_rounds 4 ?_
  rw [rounds_succ]
  go_wp2_with (at_builtin; refine wpList_append_row rfl _ _ 74 rfl w.heap.size 5 i0 (.int .u8 0) 1 1 Try.underlying74 hi hz0 hz1 hz2 rfl (by decide) _ 0 _ rfl (ow0.alloc _) ⟨w.heap.size, 0, none⟩ 1 1 [.int .u8 ((n : Int) / 256 % 256)] rfl rfl (cell_one_new _ _ _) (by simp [Value.oneCell']) (by decide) (by decide) (by rw [World.size_alloc]; have := hb0.size; omega) ?_)
  intro v1 w1 ow1 hgr hfr
  have hb1 : Below w.heap.size w w1 := (hb0.alloc hb0.size _).grown hgr (by rw [World.size_alloc]; have := hb0.size; omega) (fun j hj => (ow0.lt j hj).1)
  clear hgr hfr
  go_wp2_with fail
  rw [rounds_succ]
  go_wp2_with (at_builtin; refine wpList_append_row rfl _ _ 74 rfl w.heap.size 5 i0 (.int .u8 0) 1 1 Try.underlying74 hi hz0 hz1 hz2 rfl (by decide) _ 1 _ rfl (ow1.alloc _) ⟨w1.heap.size, 0, none⟩ 1 1 [.int .u8 ((n : Int) % 256)] rfl rfl (cell_one_new _ _ _) (by simp [Value.oneCell']) (by decide) (by decide) (by rw [World.size_alloc]; have := hb1.size; omega) ?_)
  intro v2 w2 ow2 hgr hfr
  have hb2 : Below w.heap.size w w2 := (hb1.alloc hb1.size _).grown hgr (by rw [World.size_alloc]; have := hb1.size; omega) (fun j hj => (ow1.lt j hj).1)
  clear hgr hfr
  go_wp2_with fail
  have own2 : w2.ownsRow w.heap.size 5 1 v2 2 (bv (be2 n)) := by
    have e : bv (be2 n) = [.int .u8 ((n : Int) / 256 % 256), .int .u8 ((n : Int) % 256)] := by simp [bv, be2, UInt8.toNat_ofNat']
    rw [e]
    simpa using ow2
  have hcv := conv_own own2
  clear own2 ow0 ow1 ow2
  rw [rounds_succ]
  go_wp2_with fail
  go_ret
  exact ⟨rfl, hb2⟩
end Go.Proofs.Ytbcaiegglbdonaa

/-
  A block's bytes; a Writer with blocks beside it that stay.
-/
namespace Go.Proofs.Ytbcaiegglbdonaa
open Go Go.RowKit

/-! ### The bytes -/
def encC (n : Nat) (c : Cell) : List UInt8 :=
  varN n ++ (varN (c.key.size - n) ++ (varN c.val.size ++ ([UInt8.ofNat (if c.gone then 1 else 0)] ++ (varN c.seq.toNat ++ (c.key.data.toList.drop n ++ c.val.data.toList)))))
def keyAt (l : List Cell) (i : Nat) : List UInt8 := ((l[i]?).map fun c => c.key.data.toList).getD []
def shAt (l : List Cell) (r i : Nat) : Nat := if i % r = 0 then 0 else sharedN (keyAt l (i - 1)) (keyAt l i)
def encAt (l : List Cell) (r i : Nat) : List UInt8 := ((l[i]?).map fun c => encC (shAt l r i) c).getD []
def bodyN (l : List Cell) (r k : Nat) : List UInt8 := (List.range k).flatMap (encAt l r)
def startsN (l : List Cell) (r k : Nat) : List Nat := ((List.range k).filter fun i => i % r = 0).map fun i => (bodyN l r i).length
def tailN (l : List Cell) (r : Nat) : List UInt8 := bodyN l r l.length ++ ((startsN l r l.length).flatMap be4 ++ (be4 (startsN l r l.length).length ++ be2 r))
def blockN (l : List Cell) (r : Nat) : List UInt8 := tailN l r ++ be4 (crcN (tailN l r))
def buildN (l : List Cell) (r : Int) : List UInt8 × Int :=
  if r < 1 ∨ 64 < r then ([], 1) else if checkL l ≠ 0 then ([], checkL l) else if (blockN l r.toNat).length ≤ 65536 then (blockN l r.toNat, 0) else ([], 3)
theorem bodyN_succ (l : List Cell) (r k : Nat) : bodyN l r (k + 1) = bodyN l r k ++ encAt l r k := by
  unfold bodyN
  rw [List.range_succ, List.flatMap_append]
  simp
theorem bodyN_mono (l : List Cell) (r : Nat) {i k : Nat} (h : i ≤ k) : (bodyN l r i).length ≤ (bodyN l r k).length := by
  induction k with
  | zero => obtain rfl : i = 0 := by omega
            exact Nat.le_refl _
  | succ k ih =>
    by_cases hk : i = k + 1
    · rw [hk]; exact Nat.le_refl _
    · rw [bodyN_succ, List.length_append]
      have := ih (by omega)
      omega
theorem putW_append (st : Option (List UInt8)) (a b : List UInt8) : putW (putW st a) b = putW st (a ++ b) := by
  cases st with
  | none => rfl
  | some l =>
    simp only [putW, Option.bind_some]
    by_cases h : (mostW : Int) - l.length < a.length
    · rw [if_pos h, if_pos (by rw [List.length_append]; omega)]; rfl
    · rw [if_neg h]
      simp only [Option.bind_some, List.length_append]
      by_cases h2 : (mostW : Int) - ((l.length + a.length : Nat) : Int) < b.length
      · rw [if_pos h2, if_pos (by omega)]
      · rw [if_neg h2, if_neg (by omega), List.append_assoc]
theorem putW_nil (l : List UInt8) (h : l.length ≤ mostW) : putW (some []) l = some l := by
  unfold putW
  simp only [Option.bind_some]
  rw [if_neg (by simp; omega)]
  simp
theorem putW_over (l : List UInt8) (h : mostW < l.length) : putW (some []) l = none := by
  unfold putW
  simp only [Option.bind_some]
  rw [if_pos (by simp; omega)]

/-! ### A Writer and blocks that stay -/
structure WrG (w0 : World) (p : Nat) (st : Option (List UInt8)) (G : Nat → Prop) (W : World) : Prop where
  ex : ∃ F, WrIs W w0.heap.size p F st ∧ ∀ k, G k → ¬ F k ∧ k < W.heap.size
  below : Below w0.heap.size w0 W
/-- What a call leaves that puts bytes: the Writer, and G's blocks as they lay. -/
def PutsG (w0 : World) (p : Nat) (st : Option (List UInt8)) (G : Nat → Prop) (W : World) (e : Ending) (W' : World) : Prop :=
  e = .returned (.tuple #[]) ∧ WrG w0 p st G W' ∧ (∀ k, G k → W'.heap[k]? = W.heap[k]?) ∧ W.heap.size ≤ W'.heap.size
theorem WrG.puts {w0 W : World} {p f : Nat} {st st' : Option (List UInt8)} {G : Nat → Prop} {args : Array Value} (h : WrG w0 p st G W) (hc : ∀ F, WrIs W w0.heap.size p F st → Calls Try.prog f args W (PutsW W w0.heap.size p F st')) :
    Calls Try.prog f args W (PutsG w0 p st' G W) := by
  obtain ⟨F, h1, h2⟩ := h.ex
  refine (hc F h1).mono ?_
  rintro e W' ⟨rfl, F', h3, h4, ho⟩
  have hB := h.below.size
  refine ⟨rfl, ⟨⟨F', h3, fun k hk => ⟨fun hF => ?_, Nat.lt_of_lt_of_le (h2 k hk).2 ho.size⟩⟩, h.below.trans (ho.below hB fun k hk => (h1.lt k hk).1)⟩, fun k hk => ho.block k (h2 k hk).2 (h2 k hk).1, ho.size⟩
  rcases h4 k hF with h | h
  · exact (h2 k hk).1 h
  · have := (h2 k hk).2; omega
theorem WrG.kept {w0 W W' : World} {p : Nat} {st : Option (List UInt8)} {G : Nat → Prop} (h : WrG w0 p st G W) (hb : Below W.heap.size W W') : WrG w0 p st G W' := by
  obtain ⟨F, h1, h2⟩ := h.ex
  exact ⟨⟨F, h1.kept hb, fun k hk => ⟨(h2 k hk).1, Nat.lt_of_lt_of_le (h2 k hk).2 hb.size⟩⟩, h.below.trans (hb.mono h.below.size)⟩
theorem WrG.less {w0 W : World} {p : Nat} {st : Option (List UInt8)} {G G' : Nat → Prop} (h : WrG w0 p st G W) (hg : ∀ k, G' k → G k) : WrG w0 p st G' W := by
  obtain ⟨F, h1, h2⟩ := h.ex
  exact ⟨⟨F, h1, fun k hk => h2 k (hg k hk)⟩, h.below⟩
/-- Blocks made since a world in which the Writer stood. -/
theorem WrG.newer {w0 W W' : World} {p : Nat} {st : Option (List UInt8)} {G G' : Nat → Prop} (h : WrG w0 p st G W) (ho : Only G W W') (hg : ∀ k, G' k → G k ∨ (W.heap.size ≤ k ∧ k < W'.heap.size)) (hG0 : ∀ k, G k → w0.heap.size ≤ k) : WrG w0 p st G' W' := by
  obtain ⟨F, h1, h2⟩ := h.ex
  refine ⟨⟨F, h1.only ho fun k hk hG => (h2 k hG).1 hk, fun k hk => ?_⟩, h.below.trans (ho.below h.below.size hG0)⟩
  rcases hg k hk with h | h
  · exact ⟨(h2 k h).1, Nat.lt_of_lt_of_le (h2 k h).2 ho.size⟩
  · exact ⟨fun hF => by have := (h1.lt k hF).2; omega, h.2⟩
theorem blk_same {W W' : World} {b : Nat} {arr : Array Value} {t : TypeId} (h : Blk W b arr t) (he : W'.heap[b]? = W.heap[b]?) : Blk W' b arr t := he.trans h
theorem own_same {W W' : World} {B e k n : Nat} {v : Value} {xs : List Value} (h : W.ownsRow B e k v n xs) (he : ∀ g, v.ownBlock = some g → W'.heap[g]? = W.heap[g]?) : W'.ownsRow B e k v n xs := by
  refine ⟨h.1, ?_⟩
  rcases h.2 with h3 | ⟨g, cap', cur, e1, hb, hg, hr2⟩
  · exact .inl h3
  · exact .inr ⟨g, cap', cur, e1, hb, (he g (by rw [e1]; rfl)).trans hg, hr2⟩
theorem WrG.len {w0 W : World} {p : Nat} {st : Option (List UInt8)} {G : Nat → Prop} (h : WrG w0 p st G W) : Calls Try.prog 84 #[.pointer (some ⟨p, 0, none⟩)] W fun e w' => e = .returned (.int .i64 (lenW st)) ∧ W = w' := by
  obtain ⟨F, h1, _⟩ := h.ex
  exact writer_len h1
theorem WrG.done {w0 W : World} {p : Nat} {st : Option (List UInt8)} {G : Nat → Prop} (h : WrG w0 p st G W) : Calls Try.prog 91 #[.pointer (some ⟨p, 0, none⟩)] W fun e w' => e = .returned (.tuple #[.string (strW st), .int .i64 (errW st)]) ∧ W = w' := by
  obtain ⟨F, h1, _⟩ := h.ex
  exact writer_done h1
theorem WrG.varint {w0 W : World} {p : Nat} {st : Option (List UInt8)} {G : Nat → Prop} (h : WrG w0 p st G W) (n : Nat) (hn : n < 18446744073709551616) : Calls Try.prog 86 #[.pointer (some ⟨p, 0, none⟩), .int .u64 n] W (PutsG w0 p (putW st (varN n)) G W) :=
  h.puts fun _ hF => writer_varint hF h.below.size n hn
theorem WrG.u8 {w0 W : World} {p : Nat} {st : Option (List UInt8)} {G : Nat → Prop} (h : WrG w0 p st G W) (n : Nat) (hn : n < 256) : Calls Try.prog 87 #[.pointer (some ⟨p, 0, none⟩), .int .u8 n] W (PutsG w0 p (putW st [UInt8.ofNat n]) G W) :=
  h.puts fun _ hF => writer_u8 hF h.below.size n hn
theorem WrG.u16 {w0 W : World} {p : Nat} {st : Option (List UInt8)} {G : Nat → Prop} (h : WrG w0 p st G W) (n : Nat) (hn : n < 65536) : Calls Try.prog 90 #[.pointer (some ⟨p, 0, none⟩), .int .u16 n] W (PutsG w0 p (putW st (be2 n)) G W) :=
  h.puts fun _ hF => writer_u16 hF h.below.size n hn
theorem WrG.u32 {w0 W : World} {p : Nat} {st : Option (List UInt8)} {G : Nat → Prop} (h : WrG w0 p st G W) (n : Nat) (hn : n < 4294967296) : Calls Try.prog 89 #[.pointer (some ⟨p, 0, none⟩), .int .u32 n] W (PutsG w0 p (putW st (be4 n)) G W) :=
  h.puts fun _ hF => writer_u32 hF h.below.size n hn
theorem WrG.raw {w0 W : World} {p : Nat} {st : Option (List UInt8)} {G : Nat → Prop} (h : WrG w0 p st G W) (s : ByteArray) : Calls Try.prog 88 #[.pointer (some ⟨p, 0, none⟩), .string s] W (PutsG w0 p (putW st s.data.toList) G W) :=
  h.puts fun _ hF => writer_raw hF h.below.size s
end Go.Proofs.Ytbcaiegglbdonaa

/-
  The codec's Reader: bytes taken from the front. Begun: NewReader, fault, Raw, Left, Err.
-/
namespace Go.Proofs.Ytbcaiegglbdonaa
open Go Go.RowKit

/-- The Reader at block p: what is left, and the first fault. -/
def RdIs (w : World) (p : Nat) (s : ByteArray) (e : Int) : Prop := Blk w p #[.string s, .int .i64 e] 167
theorem only_set {w : World} {p : Nat} (i : Nat) (v : Value) : Only (fun k => k = p) w (w.setCell ⟨p, i, none⟩ v) := (Only.refl (fun k => k = p) w).setCell (.inl rfl) i v
def ReadsR (w : World) (p : Nat) (v : Value) (s : ByteArray) (er : Int) (e : Ending) (w' : World) : Prop := e = .returned v ∧ RdIs w' p s er ∧ Only (fun k => k = p) w w'
set_option maxRecDepth 100000 in
theorem reader_new (s : ByteArray) (w : World) : Calls Try.prog 98 #[.string s] w fun e w' => e = .returned (.pointer (some ⟨w.heap.size, 0, none⟩)) ∧ RdIs w' w.heap.size s 0 ∧ Below w.heap.size w w' ∧ w'.heap.size = w.heap.size + 1 := by
  go_enter Try.func98, Try.ntmps98
  go_wp2_with fail
  go_ret
  exact ⟨rfl, Blk.new _ _ _, (Below.refl _ _).alloc (Nat.le_refl _) _, by simp⟩
set_option maxRecDepth 100000 in
theorem reader_fault {w : World} {p : Nat} {s : ByteArray} {e : Int} (h : RdIs w p s e) (f : Int) :
    Calls Try.prog 150 #[.pointer (some ⟨p, 0, none⟩), .int .i64 f] w (ReadsR w p (.string ⟨#[]⟩) s (if e = 0 then f else e)) := by
  have c0 : w.cell? ⟨p, 0, none⟩ = some (.string s) := Blk.cell h 0 _ rfl
  have c1 : w.cell? ⟨p, 1, none⟩ = some (.int .i64 e) := Blk.cell h 1 _ rfl
  have cf := Blk.frozen h
  have pl := Blk.lt h
  have H := Lib.hid h
  clear h
  by_cases he : e = 0
  · subst he
    rw [if_pos rfl]
    go_enter Try.func150, Try.ntmps150
    go_wp2_with fail
    go_ret
    exact ⟨rfl, Blk.setCell H.out 1 _, only_set 1 _⟩
  · rw [if_neg he]
    have heq : (e == 0) = false := by simpa using he
    go_enter Try.func150, Try.ntmps150
    go_wp2_with fail
    go_ret
    exact ⟨rfl, H.out, Only.refl _ _⟩
def rawR (s : ByteArray) (e n : Int) : ByteArray × ByteArray × Int :=
  if e ≠ 0 then (⟨#[]⟩, s, e) else if n < 0 then (⟨#[]⟩, s, 1) else if (s.size : Int) < n then (⟨#[]⟩, s, 20) else (s.extract 0 n.toNat, s.extract n.toNat s.size, 0)
set_option maxRecDepth 100000 in
set_option maxHeartbeats 1000000 in
theorem reader_raw {w : World} {p : Nat} {s : ByteArray} {e : Int} (h : RdIs w p s e) (n : Int) :
    Calls Try.prog 138 #[.pointer (some ⟨p, 0, none⟩), .int .i64 n] w (ReadsR w p (.string (rawR s e n).1) (rawR s e n).2.1 (rawR s e n).2.2) := by
  have c0 : w.cell? ⟨p, 0, none⟩ = some (.string s) := Blk.cell h 0 _ rfl
  have c1 : w.cell? ⟨p, 1, none⟩ = some (.int .i64 e) := Blk.cell h 1 _ rfl
  have cf := Blk.frozen h
  have pl := Blk.lt h
  have H := Lib.hid h
  clear h
  by_cases he : e = 0
  · subst he
    by_cases h1 : n < 0
    · have HR := Lib.hid (show rawR s 0 n = (⟨#[]⟩, s, 1) by unfold rawR; rw [if_neg (by simp), if_pos h1])
      go_enter Try.func138, Try.ntmps138
      go_wp2_with (go_at_call 150; refine (reader_fault H.out 1).mono ?_; rintro e w1 ⟨rfl, hr, ho⟩)
      go_ret
      rw [HR.out]
      exact ⟨rfl, hr, ho⟩
    by_cases h2 : (s.size : Int) < n
    · have HR := Lib.hid (show rawR s 0 n = (⟨#[]⟩, s, 20) by unfold rawR; rw [if_neg (by simp), if_neg h1, if_pos h2])
      go_enter Try.func138, Try.ntmps138
      go_wp2_with (go_at_call 150; refine (reader_fault H.out 20).mono ?_; rintro e w1 ⟨rfl, hr, ho⟩)
      go_ret
      rw [HR.out]
      exact ⟨rfl, hr, ho⟩
    · have HR := Lib.hid (show rawR s 0 n = (s.extract 0 n.toNat, s.extract n.toNat s.size, 0) by unfold rawR; rw [if_neg (by simp), if_neg h1, if_neg h2])
      have h3 : 0 ≤ n := by omega
      have h4 : n ≤ (s.size : Int) := by omega
      go_enter Try.func138, Try.ntmps138
      go_wp2_with fail
      go_ret
      rw [HR.out]
      exact ⟨rfl, Blk.setCell H.out 0 _, only_set 0 _⟩
  · have HR := Lib.hid (show rawR s e n = (⟨#[]⟩, s, e) by unfold rawR; rw [if_pos he])
    have heq : (e == 0) = false := by simpa using he
    go_enter Try.func138, Try.ntmps138
    go_wp2_with fail
    go_ret
    rw [HR.out]
    exact ⟨rfl, H.out, Only.refl _ _⟩
set_option maxRecDepth 100000 in
theorem reader_left {w : World} {p : Nat} {s : ByteArray} {e : Int} (h : RdIs w p s e) :
    Calls Try.prog 134 #[.pointer (some ⟨p, 0, none⟩)] w fun x w' => x = .returned (.int .i64 (if e = 0 then (s.size : Int) else 0)) ∧ w = w' := by
  have c0 : w.cell? ⟨p, 0, none⟩ = some (.string s) := Blk.cell h 0 _ rfl
  have c1 : w.cell? ⟨p, 1, none⟩ = some (.int .i64 e) := Blk.cell h 1 _ rfl
  have pl := Blk.lt h
  clear h
  by_cases he : e = 0
  · subst he
    rw [if_pos rfl]
    go_enter Try.func134, Try.ntmps134
    go_wp2_with fail
    go_ret
    exact ⟨rfl, rfl⟩
  · rw [if_neg he]
    have heq : (e == 0) = false := by simpa using he
    go_enter Try.func134, Try.ntmps134
    go_wp2_with fail
    go_ret
    exact ⟨rfl, rfl⟩
set_option maxRecDepth 100000 in
theorem reader_err {w : World} {p : Nat} {s : ByteArray} {e : Int} (h : RdIs w p s e) : Calls Try.prog 137 #[.pointer (some ⟨p, 0, none⟩)] w fun x w' => x = .returned (.int .i64 e) ∧ w = w' := by
  have c1 : w.cell? ⟨p, 1, none⟩ = some (.int .i64 e) := Blk.cell h 1 _ rfl
  have pl := Blk.lt h
  clear h
  go_enter Try.func137, Try.ntmps137
  go_wp2_with fail
  go_ret
  exact ⟨rfl, rfl⟩
end Go.Proofs.Ytbcaiegglbdonaa

/-
  The codec's Reader: numbers of one, two and four bytes.
-/
namespace Go.Proofs.Ytbcaiegglbdonaa
open Go Go.RowKit

def numN (l : List UInt8) : Nat := l.foldl (fun n b => n * 256 + b.toNat) 0
theorem numN_snoc (l : List UInt8) (b : UInt8) : numN (l ++ [b]) = numN l * 256 + b.toNat := by unfold numN; rw [List.foldl_append]; rfl
theorem foldN_lt : ∀ (l : List UInt8) (n k : Nat), n < 256 ^ k → l.foldl (fun n b => n * 256 + b.toNat) n < 256 ^ (k + l.length)
  | [], _, _, h => h
  | b :: l, n, k, h => by
    have := foldN_lt l (n * 256 + b.toNat) (k + 1) (by rw [Nat.pow_succ]; have := b.toNat_lt; omega)
    rw [List.foldl_cons, List.length_cons]
    have e : k + 1 + l.length = k + (l.length + 1) := by omega
    rwa [e] at this
theorem numN_lt (l : List UInt8) : numN l < 256 ^ l.length := by
  have := foldN_lt l 0 0 (by decide)
  simpa [numN] using this
theorem shl_or (n b : Nat) (hn : n < 72057594037927936) (hb : b < 256) : bits .or .u64 ((n : Int) * 256) (b : Int) = ((n * 256 + b : Nat) : Int) := by
  have h := bits_or_u64_nat (n * 256) b (by omega) (by omega)
  have e : n * 256 ||| b = n * 256 + b := by
    have := Nat.shiftLeft_add_eq_or_of_lt (i := 8) (b := b) (by omega) n
    rw [Nat.shiftLeft_eq] at this
    exact this.symm
  rw [e] at h
  rw [Int.natCast_mul] at h
  exact h
def RdRel (wb : World) (l : List UInt8) (n i : Value) (W : World) : Prop := ∃ k : Nat, k ≤ l.length ∧ i = .int .i64 k ∧ n = .int .u64 (numN (l.take k) : Nat) ∧ W = wb
set_option maxRecDepth 100000 in
set_option maxHeartbeats 1000000 in
theorem reader_read {w : World} {p : Nat} {s : ByteArray} {e : Int} (h : RdIs w p s e) (n : Nat) (hn : n ≤ 4) :
    Calls Try.prog 133 #[.pointer (some ⟨p, 0, none⟩), .int .i64 n] w (ReadsR w p (.int .u64 (numN (rawR s e n).1.data.toList : Nat)) (rawR s e n).2.1 (rawR s e n).2.2) := by
  have H := Lib.hid h
  clear h
  have hsz : (rawR s e n).1.size ≤ 4 := by
    unfold rawR
    split
    · exact Nat.zero_le _
    · split
      · exact Nat.zero_le _
      · split
        · exact Nat.zero_le _
        · rw [ByteArray.size_extract]; omega
  obtain ⟨R, hR⟩ : ∃ R, rawR s e n = R := ⟨_, rfl⟩
  have hraw := reader_raw H.out n
  rw [hR] at hraw hsz ⊢
  have HRW := Lib.hid hraw
  clear hR hraw
  have hcv : ∀ W, (convert 9 74 (.string R.1)).run Try.prog W = .ok (.slice (some ⟨W.heap.size, 0, none⟩) R.1.size (grownCap W R.1.size 0 5)) (Lib.bytesWorld W 5 R.1) := fun W => Lib.run_convert_string_bytes W 9 74 5 R.1 Try.underlying9 Try.underlying74 Try.underlying5
  go_enter Try.func133, Try.ntmps133
  go_wp2_with (go_at_call 138; refine HRW.out.mono ?_; rintro e w1 ⟨rfl, hr, ho⟩)
  have hbb := bytes_below w1 R.1
  have hcell := Lib.bytesWorld_cell w1 5 R.1
  have hlt1 : w1.heap.size < (Lib.bytesWorld w1 5 R.1).heap.size := by rw [Lib.bytesWorld_size]; omega
  clear hcv
  go_loopw [5, 13] (RdRel (Lib.bytesWorld w1 5 R.1) R.1.data.toList) (fun _ i _ => R.1.size - (intOf i).toNat)
  case atStart => exact ⟨0, by omega, rfl, rfl, rfl⟩
  case round =>
    obtain ⟨k, hk, rfl, rfl, rfl⟩ := hrel
    by_cases hlt : k < R.1.size
    · obtain ⟨b, hb⟩ : ∃ b, R.1.data.toList[k]? = some b := ⟨_, List.getElem?_eq_getElem (by simpa using hlt)⟩
      have c0 := hcell k hlt
      rw [show R.1.data.toList.getD k 0 = b by simp [List.getD, hb]] at c0
      have j0 : (0 : Int) ≤ (k : Int) := by omega
      have j1 : (k : Int) < (R.1.size : Int) := by omega
      have HB := Lib.hid hb
      clear hb hcell
      have hnl := numN_lt (R.1.data.toList.take k)
      have hpw : 256 ^ (R.1.data.toList.take k).length ≤ 256 ^ 4 := Nat.pow_le_pow_right (by decide) (by rw [List.length_take]; omega)
      obtain ⟨m, hm⟩ : ∃ m, numN (R.1.data.toList.take k) = m := ⟨_, rfl⟩
      rw [hm] at hnl ⊢
      have hm4 : m < 4294967296 := by have : 256 ^ 4 = 4294967296 := by decide
                                      omega
      have HM := Lib.hid hm
      have hbt := b.toNat_lt
      clear hnl hpw hm
      go_wp2_with fail
      go_roundw
      case rel =>
        refine ⟨k + 1, by show k + 1 ≤ R.1.size; omega, by go_num, ?_, rfl⟩
        rw [shl_or m b.toNat (by omega) (by omega), List.take_add_one, HB.out]
        show _ = Value.int .u64 ((numN (_ ++ [b]) : Nat) : Int)
        rw [numN_snoc, HM.out]
      case measure => simp [intOf]; omega
    · obtain rfl : k = R.1.size := by have : k ≤ R.1.size := hk; omega
      have h1 : R.1.data.toList.take R.1.size = R.1.data.toList := List.take_of_length_le (Nat.le_refl _)
      rw [h1]
      have HRr := Lib.hid hr
      clear hcell
      go_wp2_with fail
      go_ret
      exact ⟨rfl, Blk.kept HRr.out hbb, ho.trans (Only.of_below hbb)⟩
set_option maxRecDepth 100000 in
theorem reader_u32 {w : World} {p : Nat} {s : ByteArray} {e : Int} (h : RdIs w p s e) :
    Calls Try.prog 99 #[.pointer (some ⟨p, 0, none⟩)] w (ReadsR w p (.int .u32 (numN (rawR s e 4).1.data.toList % 4294967296 : Nat)) (rawR s e 4).2.1 (rawR s e 4).2.2) := by
  have HN := Lib.hid (reader_read h 4 (by decide))
  clear h
  go_enter Try.func99, Try.ntmps99
  go_wp2_with (go_at_call 133; refine HN.out.mono ?_; rintro e w1 ⟨rfl, hr, ho⟩)
  go_ret
  exact ⟨rfl, hr, ho⟩
set_option maxRecDepth 100000 in
theorem reader_u16 {w : World} {p : Nat} {s : ByteArray} {e : Int} (h : RdIs w p s e) :
    Calls Try.prog 100 #[.pointer (some ⟨p, 0, none⟩)] w (ReadsR w p (.int .u16 (numN (rawR s e 2).1.data.toList % 65536 : Nat)) (rawR s e 2).2.1 (rawR s e 2).2.2) := by
  have HN := Lib.hid (reader_read h 2 (by decide))
  clear h
  go_enter Try.func100, Try.ntmps100
  go_wp2_with (go_at_call 133; refine HN.out.mono ?_; rintro e w1 ⟨rfl, hr, ho⟩)
  go_ret
  exact ⟨rfl, hr, ho⟩
set_option maxRecDepth 100000 in
theorem reader_u8 {w : World} {p : Nat} {s : ByteArray} {e : Int} (h : RdIs w p s e) :
    Calls Try.prog 136 #[.pointer (some ⟨p, 0, none⟩)] w (ReadsR w p (.int .u8 (numN (rawR s e 1).1.data.toList % 256 : Nat)) (rawR s e 1).2.1 (rawR s e 1).2.2) := by
  have HN := Lib.hid (reader_read h 1 (by decide))
  clear h
  go_enter Try.func136, Try.ntmps136
  go_wp2_with (go_at_call 133; refine HN.out.mono ?_; rintro e w1 ⟨rfl, hr, ho⟩)
  go_ret
  exact ⟨rfl, hr, ho⟩
end Go.Proofs.Ytbcaiegglbdonaa

/-
  The shape of a number in groups of seven bits.
-/
namespace Go.Proofs.Ytbcaiegglbdonaa
open Go Go.RowKit

def shp (i n : Nat) : List UInt8 → Nat × Nat × Int
  | [] => (0, 0, 20)
  | c :: l => if i = 9 ∧ c ≠ 1 then (0, 0, 21) else if c.toNat < 128 then (if c = 0 ∧ 0 < i then (0, 0, 21) else (n + c.toNat * 128 ^ i, i + 1, 0)) else shp (i + 1) (n + c.toNat % 128 * 128 ^ i) l
def shapeN (l : List UInt8) : Nat × Nat × Int := shp 0 0 l
theorem and127 : ∀ n : Fin 256, bits .and .u8 (n.val : Int) 127 = ((n.val % 128 : Nat) : Int) := by decide +kernel
theorem shp_or {m k c : Nat} (hc : c < 256) (hm : m < 128 ^ k) (hb : c % 128 * 128 ^ k < 18446744073709551616) (hm2 : m < 18446744073709551616) :
    bits .or .u64 (m : Int) (IntKind.u64.wrap (IntKind.u64.wrap (bits .and .u8 (c : Int) 127) * 2 ^ (7 * k))) = ((m + c % 128 * 128 ^ k : Nat) : Int) := by
  have h1 := and127 ⟨c, hc⟩
  have hp : (128 : Nat) ^ k = 2 ^ (7 * k) := by rw [Nat.pow_mul]
  have hp2 : (2 : Int) ^ (7 * k) = ((128 ^ k : Nat) : Int) := by rw [hp]; norm_cast
  simp only at h1
  have hw1 : IntKind.u64.wrap ((c % 128 : Nat) : Int) = ((c % 128 : Nat) : Int) := by rw [IntKind.wrap_u64]; omega
  have hw2 : IntKind.u64.wrap ((c % 128 * 128 ^ k : Nat) : Int) = ((c % 128 * 128 ^ k : Nat) : Int) := by
    rw [IntKind.wrap_u64]
    exact Int.emod_eq_of_lt (Int.natCast_nonneg _) (Int.ofNat_lt.2 hb)
  rw [h1, hw1, hp2, ← Int.natCast_mul, hw2, bits_or_u64_nat _ _ hm2 hb]
  congr 1
  rw [hp] at hm ⊢
  have := Nat.shiftLeft_add_eq_or_of_lt (i := 7 * k) (b := m) hm (c % 128)
  rw [Nat.shiftLeft_eq] at this
  rw [Nat.or_comm, ← this, Nat.add_comm]
def ShpRel (w : World) (s : ByteArray) (n i : Value) (W : World) : Prop :=
  ∃ k m : Nat, k ≤ s.size ∧ k ≤ 9 ∧ m < 128 ^ k ∧ i = .int .i64 k ∧ n = .int .u64 m ∧ shapeN s.data.toList = shp k m (s.data.toList.drop k) ∧ W = w
set_option maxRecDepth 100000 in
set_option maxHeartbeats 1000000 in
theorem shape_spec (s : ByteArray) (hs : s.size ≤ 4611686018427387904) (w : World) :
    Calls Try.prog 149 #[.string s] w fun e w' => e = .returned (.tuple #[.int .u64 ((shapeN s.data.toList).1 : Nat), .int .i64 ((shapeN s.data.toList).2.1 : Nat), .int .i64 (shapeN s.data.toList).2.2]) ∧ w' = w := by
  go_enter Try.func149, Try.ntmps149
  go_wp2_with fail
  go_loopw [2, 9] (ShpRel w s) (fun _ i _ => s.size - (intOf i).toNat)
  case atStart => exact ⟨0, 0, by omega, by omega, by decide, rfl, rfl, rfl, rfl⟩
  case round =>
    obtain ⟨k, m, hk, hk9, hm, rfl, rfl, hsh, rfl⟩ := hrel
    by_cases hlt : k < s.size
    · obtain ⟨c, hc⟩ : ∃ c, s.data.toList[k]? = some c := ⟨_, List.getElem?_eq_getElem (by simpa using hlt)⟩
      have hd := drop_step hc
      have hsk : s[k].toNat = c.toNat := by
        obtain ⟨h3, h4⟩ := List.getElem?_eq_some_iff.1 hc
        rw [← h4]; rfl
      rw [hd, shp] at hsh
      have j0 : (0 : Int) ≤ (k : Int) := by omega
      have j1 : (k : Int) < (s.size : Int) := by omega
      have hct := c.toNat_lt
      have hpk : 128 ^ k ≤ 128 ^ 9 := Nat.pow_le_pow_right (by decide) hk9
      have hp9 : (128 : Nat) ^ 9 = 9223372036854775808 := by decide
      have hm2 : m < 18446744073709551616 := by omega
      by_cases h9 : k = 9
      · have hk' : ((k : Int) == 9) = true := by simp; omega
        by_cases hc1 : c = 1
        · have HS := Lib.hid (show shapeN s.data.toList = (m + c.toNat % 128 * 128 ^ k, k + 1, 0) by
            rw [hsh, if_neg (by rintro ⟨_, h⟩; exact h hc1), hc1, if_pos (by decide), if_neg (by rintro ⟨h, _⟩; exact absurd h (by decide))]
            rfl)
          have hcn : c.toNat = 1 := by rw [hc1]; rfl
          have HO := Lib.hid (shp_or (m := m) (k := k) (c := c.toNat) (by omega) hm (by rw [hcn, h9]; decide) hm2)
          have hq1 : ((c.toNat : Int) == 1) = true := by rw [hcn]; rfl
          have hq2 : ((c.toNat : Int) == 0) = false := by rw [hcn]; rfl
          have hq3 : (c.toNat : Int) < 128 := by omega
          clear hsh hd hc hpk hp9 h9 hcn hc1
          go_wp2_with fail
          go_ret3
          refine ⟨?_, rfl⟩
          rw [HS.out]
          show Ending.returned (Value.tuple #[.int .u64 (bits .or .u64 (m : Int) (IntKind.u64.wrap (IntKind.u64.wrap (bits .and .u8 (c.toNat : Int) 127) * 2 ^ (7 * k)))), .int .i64 ((k : Int) + 1), .int .i64 0]) = _
          rw [HO.out]
          rfl
        · have HS := Lib.hid (show shapeN s.data.toList = (0, 0, 21) by rw [hsh, if_pos ⟨h9, hc1⟩])
          have hq1 : ((c.toNat : Int) == 1) = false := by
            simp only [beq_eq_false_iff_ne, ne_eq]
            intro h
            exact hc1 (UInt8.toNat_inj.1 (by have : c.toNat = 1 := by omega
                                             rw [this]; rfl))
          clear hsh hd hc hpk hp9 h9
          go_wp2_with fail
          go_ret3
          exact ⟨by rw [HS.out]; rfl, rfl⟩
      · have hk' : ((k : Int) == 9) = false := by simp; omega
        have hpk8 : 128 ^ k ≤ 128 ^ 8 := Nat.pow_le_pow_right (by decide) (by omega)
        have hp8 : (128 : Nat) ^ 8 = 72057594037927936 := by decide
        have hbd : c.toNat % 128 * 128 ^ k < 18446744073709551616 := by
          have : c.toNat % 128 * 128 ^ k ≤ 127 * 72057594037927936 := Nat.mul_le_mul (by omega) (by omega)
          omega
        have HO := Lib.hid (shp_or (m := m) (k := k) (c := c.toNat) (by omega) hm hbd hm2)
        rw [if_neg (by omega)] at hsh
        have HS := Lib.hid hsh
        have HM := Lib.hid hm
        clear hsh hd hc hpk hp9 hpk8 hp8 hbd hm
        by_cases h128 : c.toNat < 128
        · have hq3 : (c.toNat : Int) < 128 := by omega
          by_cases hz : c = 0 ∧ 0 < k
          · have HT := Lib.hid (show shapeN s.data.toList = (0, 0, 21) by rw [HS.out, if_pos h128, if_pos hz])
            have hq2 : ((c.toNat : Int) == 0) = true := by rw [hz.1]; rfl
            have hq4 : (0 : Int) < (k : Int) := by omega
            go_wp2_with fail
            go_ret3
            exact ⟨by rw [HT.out]; rfl, rfl⟩
          · have HT := Lib.hid (show shapeN s.data.toList = (m + c.toNat % 128 * 128 ^ k, k + 1, 0) by rw [HS.out, if_pos h128, if_neg hz, Nat.mod_eq_of_lt h128])
            by_cases hc0 : c = 0
            · have hq2 : ((c.toNat : Int) == 0) = true := by rw [hc0]; rfl
              have hq4 : ¬ (0 : Int) < (k : Int) := by have : ¬ 0 < k := fun h => hz ⟨hc0, h⟩
                                                       omega
              go_wp2_with fail
              go_ret3
              refine ⟨?_, rfl⟩
              rw [HT.out]
              have h := HO.out
              rw [show c.toNat = 0 by rw [hc0]; rfl] at h ⊢
              show Ending.returned (Value.tuple #[.int .u64 (bits .or .u64 (m : Int) (IntKind.u64.wrap (IntKind.u64.wrap (bits .and .u8 ((0 : Nat) : Int) 127) * 2 ^ (7 * k)))), .int .i64 ((k : Int) + 1), .int .i64 0]) = _
              rw [h]
              rfl
            · have hq2 : ((c.toNat : Int) == 0) = false := by
                simp only [beq_eq_false_iff_ne, ne_eq]
                intro h
                exact hc0 (UInt8.toNat_inj.1 (by have : c.toNat = 0 := by omega
                                                 rw [this]; rfl))
              go_wp2_with fail
              go_ret3
              refine ⟨?_, rfl⟩
              rw [HT.out]
              show Ending.returned (Value.tuple #[.int .u64 (bits .or .u64 (m : Int) (IntKind.u64.wrap (IntKind.u64.wrap (bits .and .u8 (c.toNat : Int) 127) * 2 ^ (7 * k)))), .int .i64 ((k : Int) + 1), .int .i64 0]) = _
              rw [HO.out]
              rfl
        · have hcl : ¬ ((c.toNat : Int) < 128) := by omega
          go_wp2_with fail
          go_roundw
          case rel =>
            refine ⟨k + 1, m + c.toNat % 128 * 128 ^ k, by omega, by omega, ?_, by go_num, ?_, ?_, rfl⟩
            · rw [Nat.pow_succ]
              have := HM.out
              have h2 : c.toNat % 128 * 128 ^ k ≤ 127 * 128 ^ k := Nat.mul_le_mul_right _ (by omega)
              omega
            · rw [HO.out]
            · rw [HS.out, if_neg h128]
          case measure => simp [intOf]; omega
    · have HS := Lib.hid (show shapeN s.data.toList = (0, 0, 20) by
        rw [hsh, List.drop_eq_nil_of_le (by show s.size ≤ k; omega)]; rfl)
      have j1 : ¬ (k : Int) < (s.size : Int) := by omega
      clear hsh
      go_wp2_with fail
      go_ret3
      exact ⟨by rw [HS.out]; rfl, rfl⟩
end Go.Proofs.Ytbcaiegglbdonaa

/-
  The codec's Reader: a number in groups of seven bits.
-/
namespace Go.Proofs.Ytbcaiegglbdonaa
open Go Go.RowKit

theorem shp_size : ∀ (l : List UInt8) (i n : Nat), (shp i n l).2.1 ≤ i + l.length
  | [], i, n => by simp [shp]
  | c :: l, i, n => by
    rw [shp]
    split
    · simp
    · split
      · split
        · simp
        · simp <;> omega
      · have := shp_size l (i + 1) (n + c.toNat % 128 * 128 ^ i)
        simp at this ⊢
        omega
def varR (s : ByteArray) (e : Int) : Nat × ByteArray × Int :=
  if e ≠ 0 then (0, s, e) else if (shapeN s.data.toList).2.2 ≠ 0 then (0, s, (shapeN s.data.toList).2.2) else ((shapeN s.data.toList).1, s.extract (shapeN s.data.toList).2.1 s.size, 0)
set_option maxRecDepth 100000 in
set_option maxHeartbeats 1000000 in
theorem reader_varint {w : World} {p : Nat} {s : ByteArray} {e : Int} (h : RdIs w p s e) (hs : s.size ≤ 4611686018427387904) :
    Calls Try.prog 135 #[.pointer (some ⟨p, 0, none⟩)] w (ReadsR w p (.int .u64 ((varR s e).1 : Nat)) (varR s e).2.1 (varR s e).2.2) := by
  have c0 : w.cell? ⟨p, 0, none⟩ = some (.string s) := Blk.cell h 0 _ rfl
  have c1 : w.cell? ⟨p, 1, none⟩ = some (.int .i64 e) := Blk.cell h 1 _ rfl
  have cf := Blk.frozen h
  have pl := Blk.lt h
  have H := Lib.hid h
  clear h
  by_cases he : e = 0
  · subst he
    have hsh := shape_spec s hs w
    have hsz := shp_size s.data.toList 0 0
    obtain ⟨T, hT⟩ : ∃ T, shapeN s.data.toList = T := ⟨_, rfl⟩
    have hT2 : T.2.1 ≤ s.size := by rw [← hT]; show (shp 0 0 s.data.toList).2.1 ≤ s.size; have h1 : s.data.toList.length = s.size := rfl; omega
    rw [hT] at hsh
    have HSH := Lib.hid hsh
    clear hsh hsz
    by_cases hf : T.2.2 = 0
    · have HR := Lib.hid (show varR s 0 = (T.1, s.extract T.2.1 s.size, 0) by unfold varR; rw [if_neg (by simp), hT, if_neg (by simp [hf])])
      have hfq : (T.2.2 == 0) = true := by simpa using hf
      have h3 : (0 : Int) ≤ (T.2.1 : Int) := by omega
      have h4 : (T.2.1 : Int) ≤ (s.size : Int) := by omega
      clear hT
      go_enter Try.func135, Try.ntmps135
      go_wp2_with (go_at_call 149; refine HSH.out.mono ?_; rintro e w1 ⟨rfl, rfl⟩)
      go_ret
      rw [HR.out]
      exact ⟨rfl, Blk.setCell H.out 0 _, only_set 0 _⟩
    · have HR := Lib.hid (show varR s 0 = (0, s, T.2.2) by unfold varR; rw [if_neg (by simp), hT, if_pos hf])
      have hfq : (T.2.2 == 0) = false := by simpa using hf
      clear hT
      go_enter Try.func135, Try.ntmps135
      go_wp2_with (first | (go_at_call 149; refine HSH.out.mono ?_; rintro e w1 ⟨rfl, rfl⟩) | (go_at_call 150; refine (reader_fault H.out _).mono ?_; rintro e w2 ⟨rfl, hr, ho⟩))
      go_ret
      rw [HR.out]
      exact ⟨rfl, hr, ho⟩
  · have HR := Lib.hid (show varR s e = (0, s, e) by unfold varR; rw [if_pos he])
    have heq : (e == 0) = false := by simpa using he
    go_enter Try.func135, Try.ntmps135
    go_wp2_with fail
    go_ret
    rw [HR.out]
    exact ⟨rfl, H.out, Only.refl _ _⟩
end Go.Proofs.Ytbcaiegglbdonaa

/-
  What the program's read tells of bytes: one cell, and all of them. Plain.
-/
namespace Go.Proofs.Ytbcaiegglbdonaa
open Go

/-- One cell behind a key: the cell and what is left. -/
def readOne (s ah : ByteArray) : Option (Cell × ByteArray) :=
  let a := varR s 0
  let b := varR a.2.1 a.2.2
  let c := varR b.2.1 b.2.2
  let g := rawR c.2.1 c.2.2 1
  let q := varR g.2.1 g.2.2
  let gone := numN g.1.data.toList % 256
  if q.2.2 ≠ 0 ∨ ah.size < a.1 ∨ q.2.1.size < b.1 ∨ q.2.1.size < c.1 ∨ 1 < gone then none
  else
    let k := rawR q.2.1 0 b.1
    let v := rawR k.2.1 k.2.2 c.1
    if v.2.2 ≠ 0 then none else some (⟨⟨(ah.extract 0 a.1).data ++ k.1.data⟩, q.1, v.1, gone == 1⟩, v.2.1)
/-- All cells; n: how often at most (each cell takes a byte at least). -/
def readAll : Nat → ByteArray → ByteArray → Option (List Cell)
  | 0, s, _ => if s.size = 0 then some [] else none
  | n + 1, s, ah => if s.size = 0 then some [] else match readOne s ah with
    | none => none
    | some (c, t) => (readAll n t c.key).map (c :: ·)
def readN (s : ByteArray) : Option (List Cell) := readAll s.size s ⟨#[]⟩
end Go.Proofs.Ytbcaiegglbdonaa

/-
  Sizes of what read takes. Plain.
-/
namespace Go.Proofs.Ytbcaiegglbdonaa
open Go

theorem ex_size_le (s : ByteArray) (i j : Nat) : (s.extract i j).size ≤ s.size := by
  rw [ByteArray.size_extract]; omega
theorem varR_err {s : ByteArray} {e : Int} (h : e ≠ 0) : varR s e = (0, s, e) := by unfold varR; rw [if_pos h]
theorem varR_size (s : ByteArray) (e : Int) : (varR s e).2.1.size ≤ s.size := by
  unfold varR
  split
  · exact Nat.le_refl _
  · split
    · exact Nat.le_refl _
    · exact ex_size_le _ _ _
theorem rawR_err {s : ByteArray} {e n : Int} (h : e ≠ 0) : rawR s e n = (⟨#[]⟩, s, e) := by unfold rawR; rw [if_pos h]
theorem rawR_size (s : ByteArray) (e n : Int) : (rawR s e n).2.1.size ≤ s.size := by
  unfold rawR
  split
  · exact Nat.le_refl _
  · split
    · exact Nat.le_refl _
    · split
      · exact Nat.le_refl _
      · exact ex_size_le _ _ _
theorem rawR_ok {s : ByteArray} {e n : Int} (h : (rawR s e n).2.2 = 0) : e = 0 ∧ 0 ≤ n ∧ n ≤ s.size ∧ (rawR s e n).1.size = n.toNat ∧ (rawR s e n).2.1.size = s.size - n.toNat := by
  unfold rawR at h ⊢
  split at h
  · exact absurd h (by assumption)
  · split at h
    · exact absurd h (by simp)
    · split at h
      · exact absurd h (by simp)
      · rename_i h1 h2 h3
        rw [if_neg h1, if_neg h2, if_neg h3]
        refine ⟨by simpa using h1, by omega, by omega, ?_, ?_⟩
        · simp only [ByteArray.size_extract]; omega
        · simp only [ByteArray.size_extract]; omega
theorem readOne_size {s ah t : ByteArray} {c : Cell} (h : readOne s ah = some (c, t)) : t.size < s.size ∧ c.key.size + t.size ≤ ah.size + s.size ∧ 0 ≤ c.seq ∧ c.val.size ≤ s.size := by
  unfold readOne at h
  simp only [] at h
  have z1 := varR_size s 0
  generalize varR s 0 = a at h z1
  have z2 := varR_size a.2.1 a.2.2
  generalize varR a.2.1 a.2.2 = b at h z2
  have z3 := varR_size b.2.1 b.2.2
  generalize varR b.2.1 b.2.2 = d at h z3
  have z4 := @rawR_ok d.2.1 d.2.2 1
  generalize rawR d.2.1 d.2.2 1 = g at h z4
  have z5 := varR_size g.2.1 g.2.2
  have z6 := @varR_err g.2.1 g.2.2
  generalize varR g.2.1 g.2.2 = q at h z5 z6
  split at h
  · exact absurd h (by simp)
  · rename_i h1
    have z7 := @rawR_ok q.2.1 0 b.1
    have z7' : (rawR q.2.1 0 b.1).2.2 = 0 := by
      unfold rawR
      rw [if_neg (by simp), if_neg (by omega), if_neg (by omega)]
    have z8 := @rawR_ok (rawR q.2.1 0 b.1).2.1 (rawR q.2.1 0 b.1).2.2 d.1
    generalize rawR q.2.1 0 b.1 = k at h z7 z7' z8
    generalize rawR k.2.1 k.2.2 d.1 = v at h z8
    split at h
    · exact absurd h (by simp)
    · rename_i h2
      injection h with h
      injection h with h3 h4
      subst h3
      subst h4
      have hg : g.2.2 = 0 := by
        by_cases hg : g.2.2 = 0
        · exact hg
        · exfalso
          have := z6 hg
          rw [this] at h1
          exact h1 (.inl hg)
      have y4 := z4 hg
      have y7 := z7 z7'
      have y8 := z8 (by simpa using h2)
      have hsz : (⟨(ah.extract 0 a.1).data ++ k.1.data⟩ : ByteArray).size = (ah.extract 0 a.1).size + k.1.size := by
        show ((ah.extract 0 a.1).data ++ k.1.data).size = _
        rw [Array.size_append]; rfl
      refine ⟨by omega, ?_, by exact Int.natCast_nonneg _, by show v.1.size ≤ _; omega⟩
      show (⟨(ah.extract 0 a.1).data ++ k.1.data⟩ : ByteArray).size + v.2.1.size ≤ _
      rw [hsz]
      have := ex_size_le ah 0 a.1
      omega
theorem readAll_seq : ∀ (n : Nat) (s ah : ByteArray) (l : List Cell), readAll n s ah = some l → l.length ≤ s.size ∧ ∀ c ∈ l, 0 ≤ c.seq
  | 0, s, ah, l, h => by
    unfold readAll at h
    split at h
    · injection h with h; subst h; simp
    · exact absurd h (by simp)
  | n + 1, s, ah, l, h => by
    unfold readAll at h
    split at h
    · injection h with h; subst h; simp
    · split at h
      · exact absurd h (by simp)
      · rename_i c t h1
        obtain ⟨l', h2, rfl⟩ := Option.map_eq_some_iff.1 h
        have h3 := readOne_size h1
        have h4 := readAll_seq n t c.key l' h2
        refine ⟨by simp; omega, ?_⟩
        intro x hx
        rcases List.mem_cons.1 hx with rfl | hx
        · exact h3.2.2.1
        · exact h4.2 x hx
theorem readN_seq {s : ByteArray} {l : List Cell} (h : readN s = some l) : l.length ≤ s.size ∧ ∀ c ∈ l, 0 ≤ c.seq := readAll_seq _ _ _ _ h
/-- More rounds than bytes change nothing. -/
theorem readAll_step {n : Nat} {s ah : ByteArray} (hs : s.size ≠ 0) (hn : s.size ≤ n) : readAll n s ah = match readOne s ah with | none => none | some (c, t) => (readAll (n - 1) t c.key).map (c :: ·) := by
  obtain ⟨m, rfl⟩ : ∃ m, n = m + 1 := ⟨n - 1, by omega⟩
  rw [readAll, if_neg hs]
  rfl
end Go.Proofs.Ytbcaiegglbdonaa
