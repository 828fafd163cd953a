/-
  The codec's Writer: bytes put one behind the other.
-/
import Derived.Test.YtbcaiegglbdonaaMemCol
import Derived.Test.YtbcaiegglbdonaaAppNil
import Derived.Test.YtbcaiegglbdonaaSmall
import Derived.Deep.CutBlock
import Derived.Laws.OwnMore
import Derived.Deep.Onto
import Derived.Laws.BytesArg
namespace Go.Proofs.Ytbcaiegglbdonaa
open Go Go.RowKit
section
variable {P : Program}
theorem wpList_append_row {w : World} {ops : Array Oper} {rest : List Oper} {o : Oper} {a : Act} {Q : Exit → Act → World → Prop} (hgd : o.guard = none) (s x : Operand) (t : TypeId)
    (ho : o.op = .call { callee := .builtin .append, args := #[s, x], argTypes := #[t, t] })
    (base : Nat) (e : TypeId) (i : TypeInfo) (z : Value) (size bytes : Nat) (ht : P.underlying t = some (.slice e)) (hi : P.info? e = some i) (hz : i.zero = some z)
    (hsize : i.size = size) (hby : i.bytes = bytes) (hzs : z.cells.size = size) (hsz : 0 < size)
    (v : Value) (n : Nat) (xs : List Value) (hs : a.eval s = v) (hown : w.ownsRow base e size v n xs)
    (ad : Addr) (m c : Nat) (news : List Value) (hx : a.eval x = .slice (some ad) m c) (hl : news.length = m * size) (hnews : ∀ j u, news[j]? = some u → w.cell? (ad.add j) = some u) (h1 : ∀ u ∈ news, u.oneCell' = true)
    (h63 : n + m ≤ maxLen) (hbytes : (n + m) * bytes ≤ 140737488355328) (hbase : base ≤ w.heap.size)
    (h : ∀ v' w', w'.ownsRow base e size v' (n + m) (xs ++ news) → w.grownBy w' v.ownBlock → (∀ g, v'.ownBlock = some g → v.ownBlock = some g ∨ w.heap.size ≤ g) → wpList P ops Q rest (a.put o.dst v') w') : wpList P ops Q (o :: rest) a w := by
  refine wpList_plain hgd fun K hK' => ?_
  obtain ⟨v', w', hrun, r1, r2, r3⟩ := run_append_own (P := P) w base t o.type e i z size bytes ht hi hz hsize hby hzs hsz v n xs hown ad m c news hl hnews h1 h63 hbytes hbase
  have r4 : ∀ g, v'.ownBlock = some g → v.ownBlock = some g ∨ w.heap.size ≤ g := by
    rcases Nat.eq_zero_or_pos m with hm | hm
    · rcases hown.2 with ⟨hv, _⟩ | ⟨g, cap, cur, hv, _⟩
      · intro g hg
        rw [r3.2 ⟨hv, hm⟩] at hg
        cases hg
      · subst hv
        intro g' hg'
        rcases append_block_some base t o.type e i z size bytes ht hi hz hsize hby g n cap xs hown ad m c news hl hnews h1 h63 hbytes hrun g' hg' with h | h
        · exact .inl (by rw [h]; rfl)
        · exact .inr h
    · exact append_block base t o.type e i z size bytes ht hi hz hsize hby v n xs hown ad m c news hl hnews h1 hm h63 hbytes hrun
  unfold Oper.wp execOp
  simp only [ho, resolve, invoke, builtin, Sem.run_bind, Sem.run_pure, Result.andThen_ok, List.map_toArray, List.map_cons, List.map_nil, hs, hx, hrun]
  exact hK' _ _ (h v' w' r1 r2 r4)
end

theorem body_none {P : Program} {fn : Func} {R : Ending → World → Prop} {a : Act} {w : World} (hr : fn.results = #[]) (hd : a.defers = []) (hR : R (.returned (.tuple #[])) w) : bodyPost P fn R .normal a w :=
  ⟨hd, .tuple #[], by unfold results; rw [hr]; simp [Sem.run_pure], hR⟩

/-! ### Bytes -/
def bv (l : List UInt8) : List Value := l.map fun b => .int .u8 (b.toNat : Int)
theorem bv_len (l : List UInt8) : (bv l).length = l.length := by simp [bv]
theorem bv_append (a b : List UInt8) : bv (a ++ b) = bv a ++ bv b := by simp [bv]
theorem bv_one (l : List UInt8) : ∀ u ∈ bv l, u.oneCell' = true := by
  intro u hu
  obtain ⟨b, _, rfl⟩ := List.mem_map.1 hu
  rfl
theorem Try.infoByte : (Try.prog.info? 5).map (fun i => (i.zero, i.size, i.bytes)) = some (some (.int .u8 0), 1, 1) := by kernel_rfl

def mostW : Nat := 1099511627776
def putW (st : Option (List UInt8)) (d : List UInt8) : Option (List UInt8) := st.bind fun l => if (mostW : Int) - l.length < d.length then none else some (l ++ d)
/-- The Writer at block p tells st: the bytes written, or none: too many. -/
structure WrIs (w : World) (base p : Nat) (F : Nat → Prop) (st : Option (List UInt8)) : Prop where
  ex : ∃ v l, Blk w p #[.int .i64 1099511627776, v, .bool st.isNone] 159 ∧ w.ownsRow base 5 1 v l.length (bv l) ∧ (st = none ∨ st = some l) ∧ l.length ≤ mostW ∧ F p ∧ ∀ g, v.ownBlock = some g → F g
  lt : ∀ k, F k → base ≤ k ∧ k < w.heap.size
theorem WrIs.only {w w' : World} {base p : Nat} {F S : Nat → Prop} {st : Option (List UInt8)} (h : WrIs w base p F st) (ho : Only S w w') (hS : ∀ k, F k → ¬ S k) : WrIs w' base p F st := by
  obtain ⟨v, l, h1, h2, h3, h4, h5, h6⟩ := h.ex
  refine ⟨⟨v, l, h1.only ho (hS p h5), ?_, h3, h4, h5, h6⟩, fun k hk => ⟨(h.lt k hk).1, Nat.lt_of_lt_of_le (h.lt k hk).2 ho.size⟩⟩
  refine ⟨h2.1, ?_⟩
  rcases h2.2 with h3 | ⟨g, cap', cur, e1, hb, hg, hr2⟩
  · exact .inl h3
  · exact .inr ⟨g, cap', cur, e1, hb, Blk.only (show Blk w g cur 5 from hg) ho (hS g (h6 g (by rw [e1]; rfl))), hr2⟩
theorem WrIs.kept {w w' : World} {base p : Nat} {F : Nat → Prop} {st : Option (List UInt8)} (h : WrIs w base p F st) (hb : Below w.heap.size w w') : WrIs w' base p F st := h.only (Only.of_below (S := fun _ => False) hb) fun _ _ h => h

/-- What a call leaves that puts bytes into a Writer. -/
def PutsW (w : World) (base p : Nat) (F : Nat → Prop) (st' : Option (List UInt8)) (e : Ending) (w' : World) : Prop :=
  e = .returned (.tuple #[]) ∧ ∃ F', WrIs w' base p F' st' ∧ (∀ k, F' k → F k ∨ w.heap.size ≤ k) ∧ Only F w w'

set_option maxRecDepth 100000 in
set_option maxHeartbeats 1000000 in
theorem writer_put {w : World} {base p : Nat} {F : Nat → Prop} {st : Option (List UInt8)} (h : WrIs w base p F st) (hB : base ≤ w.heap.size) {ad : Addr} {d : List UInt8} {c : Nat} (hd : ∀ j u, (bv d)[j]? = some u → w.cell? (ad.add j) = some u) :
    Calls Try.prog 128 #[.pointer (some ⟨p, 0, none⟩), .slice (some ad) d.length c] w (PutsW w base p F (putW st d)) := by
  obtain ⟨v, l, h1, h2, h3, h4, h5, h6⟩ := h.ex
  obtain ⟨i0, hi, hz0, hz1, hz2⟩ := info_parts Try.infoByte
  obtain ⟨A, cap, rfl⟩ := (Reads.of_own h2).form
  have c0 : w.cell? ⟨p, 0, none⟩ = some (.int .i64 1099511627776) := h1.cell 0 _ rfl
  have c1 : w.cell? ⟨p, 1, none⟩ = some (.slice A l.length cap) := h1.cell 1 _ rfl
  have c2 : w.cell? ⟨p, 2, none⟩ = some (.bool st.isNone) := h1.cell 2 _ rfl
  have cf := h1.frozen
  have pl := h1.lt
  unfold mostW at h4
  have HW := Lib.hid h
  have H1 := Lib.hid h1
  have H2 := Lib.hid h2
  have HD := Lib.hid hd
  clear h h1 h2 hd
  rcases h3 with rfl | rfl
  · have c2' : w.cell? ⟨p, 2, none⟩ = some (.bool true) := c2
    clear c2
    go_enter Try.func128, Try.ntmps128
    go_wp2_with fail
    exact body_none rfl rfl ⟨rfl, F, HW.out, fun k hk => .inl hk, Only.refl _ _⟩
  · have c2' : w.cell? ⟨p, 2, none⟩ = some (.bool false) := c2
    clear c2
    by_cases hr : 1099511627776 - (l.length : Int) < (d.length : Int)
    · have hp : putW (some l) d = none := by simp [putW, mostW, hr]
      have HP := Lib.hid hp
      have hw : IntKind.i64.wrap (1099511627776 - (l.length : Int)) = 1099511627776 - (l.length : Int) := IntWalk.i64_in _ (by omega)
      clear hp
      go_enter Try.func128, Try.ntmps128
      go_wp2_with fail
      go_quiet (fail)
      go_wp2_with fail
      refine body_none rfl rfl ⟨rfl, F, ⟨⟨_, l, (by rw [HP.out]; exact (H1.out.drewN nq).setCell 2 (.bool true)), own_set (w := w.drewN nq) H2.out (H1.out.drewN nq) (by decide) 2 _, .inl (by simp [putW, mostW, hr]), by unfold mostW; omega, h5, h6⟩, ?_⟩, fun k hk => .inl hk, ?_⟩
      · intro k hk
        exact ⟨(HW.out.lt k hk).1, by rw [World.size_setCell]; exact (HW.out.lt k hk).2⟩
      · exact (Only.of_below (below_drewN (Below.refl _ _) nq)).setCell (.inl h5) 2 _
    · have hp : putW (some l) d = some (l ++ d) := by
        unfold putW mostW
        simp only [Option.bind_some]
        rw [if_neg (by omega)]
      have HP := Lib.hid hp
      have hw : IntKind.i64.wrap (1099511627776 - (l.length : Int)) = 1099511627776 - (l.length : Int) := IntWalk.i64_in _ (by omega)
      have hr' : ¬ 1099511627776 - (l.length : Int) < (d.length : Int) := hr
      have hpF := HW.out.lt p h5
      have hdr : Below w.heap.size w w.drew := (Below.refl _ _).drew
      have p1 : l.length + d.length ≤ maxLen := by unfold maxLen; omega
      have p2 : (l.length + d.length) * 1 ≤ 140737488355328 := by omega
      have hld : d.length ≤ 1099511627776 - l.length := by omega
      clear hp
      go_enter Try.func128, Try.ntmps128
      go_wp2_with fail
      go_quiet (fail)
      go_wp2_with (at_builtin; refine wpList_append_row rfl _ _ 74 rfl base 5 i0 (.int .u8 0) 1 1 Try.underlying74 hi hz0 hz1 hz2 rfl (by decide) _ _ (bv l) rfl (w := w.drewN nq) H2.out ad d.length c (bv d) rfl (by rw [bv_len, Nat.mul_one]) HD.out (bv_one d) p1 p2 hB ?_)
      intro v' w1 own1 hgr hfr
      obtain ⟨A', cap', rfl⟩ := (Reads.of_own own1).form
      have hb1 : w.heap.size ≤ w1.heap.size := hgr.size
      have hne : some p ≠ (Value.slice A l.length cap).ownBlock := by
        intro e
        rcases H2.out.2 with ⟨h1, _⟩ | ⟨g, cap', cur, h1, _, hg, _⟩
        · rw [h1] at e; cases e
        · rw [h1] at e
          cases e
          have := hg.symm.trans H1.out
          injection this with this
          injection this with _ e2 _
          exact absurd e2 (by decide)
      have hk1 : Blk w1 p #[.int .i64 1099511627776, .slice A l.length cap, .bool false] 159 := (hgr.block p pl hne).trans H1.out
      have r1 := hk1.cell 1 _ rfl
      have rf := hk1.frozen
      have rl := hk1.lt
      have own1' := own_set own1 hk1 (by decide) 1 (.slice A' (l.length + d.length) cap')
      have hne' : ∀ k, (Value.slice A' (l.length + d.length) cap').ownBlock = some k → k < w1.heap.size ∧ base ≤ k := fun k hk => ⟨(own1.lt k hk).2, (own1.lt k hk).1⟩
      clear cf c0 c1 c2'
      go_wp2_with fail
      refine body_none rfl rfl ⟨rfl, fun k => k = p ∨ (Value.slice A' (l.length + d.length) cap').ownBlock = some k, ⟨⟨_, l ++ d, ?_, ?_, .inr HP.out, ?_, .inl rfl, fun g hg => .inr hg⟩, ?_⟩, ?_, ?_⟩
      · rw [HP.out]; exact hk1.setCell 1 (.slice A' (l.length + d.length) cap')
      · rw [bv_append, List.length_append]; exact own1'
      · rw [List.length_append]; unfold mostW; omega
      · intro k hk
        rw [World.size_setCell]
        rcases hk with rfl | hk
        · exact ⟨hpF.1, rl⟩
        · exact ⟨(hne' k hk).2, (hne' k hk).1⟩
      · intro k hk
        rcases hk with rfl | hk
        · exact .inl h5
        · exact (hfr k hk).imp (h6 k) id
      · refine (Only.of_below (below_drewN (Below.refl _ _) nq)).trans (Only.setCell (w := w1) (a := w.drewN nq) ⟨hgr.os, hgr.tape, hgr.output, hgr.size, fun k hk hn => hgr.block k hk (fun e => hn (h6 k e.symm))⟩ (.inl h5) 1 (.slice A' (l.length + d.length) cap'))

/-! ### A number in groups of seven bits -/
def varN (n : Nat) : List UInt8 := if h : n < 128 then [UInt8.ofNat n] else UInt8.ofNat (n % 128 + 128) :: varN (n / 128)
termination_by n
decreasing_by exact Nat.div_lt_self (by omega) (by decide)
theorem varN_lt {n : Nat} (h : n < 128) : varN n = [UInt8.ofNat n] := by rw [varN]; simp [h]
theorem varN_ge {n : Nat} (h : ¬ n < 128) : varN n = UInt8.ofNat (n % 128 + 128) :: varN (n / 128) := by rw [varN]; simp [h]
theorem varN_len : ∀ (k n : Nat), n < 128 ^ (k + 1) → (varN n).length ≤ k + 1 := by
  intro k
  induction k with
  | zero => intro n h; rw [varN_lt (by simpa using h)]; simp
  | succ k ih =>
    intro n h
    by_cases hn : n < 128
    · rw [varN_lt hn]; simp
    · rw [varN_ge hn]
      have := ih (n / 128) (Nat.div_lt_of_lt_mul (by rw [Nat.pow_succ] at h; rw [Nat.mul_comm]; exact h))
      simp; omega
theorem or128 : ∀ n : Fin 256, bits .or .u8 (n.val : Int) 128 = ((n.val % 128 + 128 : Nat) : Int) := by decide +kernel
theorem varN_or {m : Nat} : bits .or .u8 ((m : Int) % 256) 128 = ((UInt8.ofNat (m % 128 + 128)).toNat : Int) := by
  have h1 : (m : Int) % 256 = ((m % 256 : Nat) : Int) := by simp
  have h2 := or128 ⟨m % 256, Nat.mod_lt _ (by decide)⟩
  rw [h1, h2]
  simp only [UInt8.toNat_ofNat']
  omega
def VarRel (w : World) (n : Nat) (t b : Value) (W : World) : Prop :=
  ∃ (m : Nat) (pre : List UInt8), pre ++ varN m = varN n ∧ m < 18446744073709551616 ∧ t = .int .u64 m ∧ W.ownsRow w.heap.size 5 1 b pre.length (bv pre) ∧ Below w.heap.size w W
set_option maxRecDepth 100000 in
set_option maxHeartbeats 1000000 in
theorem varint_spec (n : Nat) (hn : n < 18446744073709551616) (w : World) :
    Calls Try.prog 129 #[.int .u64 n] w fun e w' => ∃ A c, e = .returned (.slice (some A) (varN n).length c) ∧ w'.ownsRow w.heap.size 5 1 (.slice (some A) (varN n).length c) (varN n).length (bv (varN n)) ∧ Below w.heap.size w w' := by
  obtain ⟨i0, hi, hz0, hz1, hz2⟩ := info_parts Try.infoByte
  have HL := Lib.hid (varN_len 9 n (by omega))
  go_enter Try.func129, Try.ntmps129
  go_wp2_with fail
  go_loopw [0, 3] (VarRel w n) (fun t _ _ => (intOf t).toNat)
  case atStart => exact ⟨n, [], rfl, hn, rfl, World.ownsRow_nil _ _ _ _, Below.refl _ _⟩
  case round =>
    obtain ⟨m, pre, hpre, hm, rfl, hown, hb⟩ := hrel
    have hlen := congrArg List.length hpre
    rw [List.length_append] at hlen
    have h10 := HL.out
    have q2 : w.heap.size ≤ wr.heap.size + 1 := by have := hb.size; omega
    by_cases hlt : m < 128
    · have hle : ¬ (128 : Int) ≤ (m : Int) := by omega
      have HV := Lib.hid (show (m : Int) = ((UInt8.ofNat m).toNat : Int) by simp only [UInt8.toNat_ofNat']; omega)
      have hv1 := varN_lt hlt
      rw [hv1] at hpre hlen
      simp only [List.length_cons, List.length_nil] at hlen
      have p1 : pre.length + 1 ≤ maxLen := by unfold maxLen; omega
      have p2 : (pre.length + 1) * 1 ≤ 140737488355328 := by omega
      have HP := Lib.hid hpre
      have HLN := Lib.hid hlen
      clear hv1 hpre hlen h10
      go_wp2_with (at_builtin; refine wpList_append_row rfl _ _ 74 rfl w.heap.size 5 i0 (.int .u8 0) 1 1 Try.underlying74 hi hz0 hz1 hz2 rfl (by decide) _ _ _ rfl (hown.alloc _) ⟨wr.heap.size, 0, none⟩ 1 1 [.int .u8 (m : Int)] rfl rfl (cell_one_new _ _ _) (by simp [Value.oneCell']) p1 p2 (by rw [World.size_alloc]; exact q2) ?_)
      intro v' w1 own1 hgr hfr
      have hb1 : Below w.heap.size w w1 := (hb.alloc hb.size _).grown hgr (by rw [World.size_alloc]; exact q2) (fun j hj => (hown.lt j hj).1)
      obtain ⟨A', cap', e⟩ : ∃ A' cap', v' = .slice (some A') (pre.length + 1) cap' := by
        rcases own1.2 with ⟨h1, h2⟩ | ⟨g, cap', cur, h1, _⟩
        · omega
        · exact ⟨_, _, h1⟩
      subst e
      rw [HV.out] at own1
      go_wp2_with fail
      go_ret
      refine ⟨A', cap', by rw [← HLN.out]; rfl, ?_, hb1⟩
      rw [← HP.out, bv_append, List.length_append]
      exact own1
    · have hle : (128 : Int) ≤ (m : Int) := by omega
      have HV := Lib.hid (varN_or (m := m))
      have hv1 := varN_ge hlt
      rw [hv1] at hpre hlen
      simp only [List.length_cons] at hlen
      have p1 : pre.length + 1 ≤ maxLen := by unfold maxLen; omega
      have p2 : (pre.length + 1) * 1 ≤ 140737488355328 := by omega
      have HP := Lib.hid hpre
      clear hv1 hpre hlen h10
      go_wp2_with (at_builtin; refine wpList_append_row rfl _ _ 74 rfl w.heap.size 5 i0 (.int .u8 0) 1 1 Try.underlying74 hi hz0 hz1 hz2 rfl (by decide) _ _ _ rfl (hown.alloc _) ⟨wr.heap.size, 0, none⟩ 1 1 [.int .u8 (bits .or .u8 ((m : Int) % 256) 128)] rfl rfl (cell_one_new _ _ _) (by simp [Value.oneCell']) p1 p2 (by rw [World.size_alloc]; exact q2) ?_)
      intro v' w1 own1 hgr hfr
      have hb1 : Below w.heap.size w w1 := (hb.alloc hb.size _).grown hgr (by rw [World.size_alloc]; exact q2) (fun j hj => (hown.lt j hj).1)
      rw [HV.out] at own1
      go_wp2_with fail
      go_roundw
      case rel =>
        refine ⟨m / 128, pre ++ [UInt8.ofNat (m % 128 + 128)], by rw [← HP.out]; simp, by omega, ?_, ?_, hb1⟩
        · rfl
        · rw [bv_append, List.length_append]; exact own1
      case measure =>
        show ((m : Int) / 128).toNat < (m : Int).toNat
        omega
end Go.Proofs.Ytbcaiegglbdonaa
