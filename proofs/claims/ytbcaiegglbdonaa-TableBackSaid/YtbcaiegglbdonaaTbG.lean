/-
  Texts of this seat, part 7: Append2, TabSame, TabLeaf, BScan, Round, MemTab, BTab, Places, MemGoes, MemNo, MemNobody, MemOwn.
-/
import Derived.Test.YtbcaiegglbdonaaTbF
import Derived.Lib.AppendStr
import Derived.Lib.AppendZeros
import Derived.Laws.Concat
import Derived.Laws.BitsAllLaws
import Derived.OwnWalkIn
import Derived.Sort.QuietIn
import Derived.RangeFuncNested
import Derived.Sort.CutIn
/-
  Append: of a slice that may be nil; of a string; and in which block the row then lies. Over any program.
-/
namespace Go.Proofs.Ytbcaiegglbdonaa
open Go Go.RowKit
section
variable {P : Program}
theorem run_append_nil_nil (w : World) (t ty e : TypeId) (i : TypeInfo) (ht : P.underlying t = some (.slice e)) (hi : P.info? e = some i) :
    (Builtin.append_ #[t, t] ty #[.slice none 0 0, .slice none 0 0]).run P w = .ok (.slice none 0 0) w := by
  simp [Builtin.append_, run_underlying ht, sizeOf, typeInfo, hi, Builtin.lenOf, Builtin.firstCells]
/-- A value that a source of an append may be: m elements whose cells are 'news'. -/
def SrcIs (w : World) (v : Value) (m : Nat) (news : List Value) : Prop := (v = .slice none 0 0 ∧ m = 0) ∨ ∃ ad c, v = .slice (some ad) m c ∧ ∀ j u, news[j]? = some u → w.cell? (ad.add j) = some u
theorem wpList_append_src {w : World} {ops : Array Oper} {rest : List Oper} {o : Oper} {a : Act} {Q : Exit → Act → World → Prop} (hgd : o.guard = none) (s x : Operand) (t : TypeId)
    (ho : o.op = .call { callee := .builtin .append, args := #[s, x], argTypes := #[t, t] })
    (base : Nat) (e : TypeId) (i : TypeInfo) (z : Value) (size bytes : Nat) (ht : P.underlying t = some (.slice e)) (hi : P.info? e = some i) (hz : i.zero = some z)
    (hsize : i.size = size) (hby : i.bytes = bytes) (hzs : z.cells.size = size) (hsz : 0 < size)
    (v : Value) (n : Nat) (xs : List Value) (hs : a.eval s = v) (hown : w.ownsRow base e size v n xs)
    (m : Nat) (news : List Value) (hx : SrcIs w (a.eval x) m news) (hl : news.length = m * size) (h1 : ∀ u ∈ news, u.oneCell' = true)
    (h63 : n + m ≤ maxLen) (hbytes : (n + m) * bytes ≤ 140737488355328) (hbase : base ≤ w.heap.size)
    (h : ∀ v' w', w'.ownsRow base e size v' (n + m) (xs ++ news) → w.grownBy w' v.ownBlock → (∀ g, v'.ownBlock = some g → v.ownBlock = some g ∨ w.heap.size ≤ g) → wpList P ops Q rest (a.put o.dst v') w') : wpList P ops Q (o :: rest) a w := by
  rcases hx with ⟨hx, rfl⟩ | ⟨ad, c, hx, hn⟩
  · have hne : news = [] := List.eq_nil_of_length_eq_zero (by simpa using hl)
    subst hne
    have hrun : (Builtin.append_ #[t, t] o.type #[v, .slice none 0 0]).run P w = .ok v w := by
      rcases hown.2 with ⟨rfl, _⟩ | ⟨g, cap, cur, rfl, _, _, hnc, _⟩
      · exact run_append_nil_nil w t o.type e i ht hi
      · exact run_append_src_nil (P := P) w t o.type e i ht hi _ n cap hnc
    refine wpList_plain hgd fun K hK => ?_
    unfold Oper.wp execOp
    simp only [ho, resolve, invoke, builtin, Sem.run_bind, Sem.run_pure, Result.andThen_ok, List.map_toArray, List.map_cons, List.map_nil, hs, hx, hrun]
    exact hK _ _ (h v w (by simpa using hown) ⟨rfl, rfl, rfl, Nat.le_refl _, fun _ _ _ => rfl⟩ (fun g hg => .inl hg))
  · exact wpList_append_row hgd s x t ho base e i z size bytes ht hi hz hsize hby hzs hsz v n xs hs hown ad m c news hx hl hn h1 h63 hbytes hbase h
theorem append_string_block {w : World} (base : Nat) (t u ty e : TypeId) (i : TypeInfo) (ht : P.underlying t = some (.slice e)) (hu : P.underlying u = some .string) (hi : P.info? e = some i) (hz : i.zero = some (.int .u8 0))
    (hsize : i.size = 1) (hby : i.bytes = 1) (v : Value) (n : Nat) (xs : List Value) (hown : w.ownsRow base e 1 v n xs) (s : ByteArray)
    (h63 : n + s.size ≤ maxLen) (hbytes : n + s.size ≤ 140737488355328) {v' : Value} {w' : World} (hr : (Builtin.append_ #[t, u] ty #[v, .string s]).run P w = .ok v' w') :
    ∀ g, v'.ownBlock = some g → v.ownBlock = some g ∨ w.heap.size ≤ g := by
  have hsm : n + s.size ≤ 9223372036854775807 := by simp only [maxLen] at h63; omega
  have hxl : xs.length = n := by simpa using hown.1
  intro g' hg'
  rcases hown.2 with ⟨rfl, rfl⟩ | ⟨g, cap, cur, rfl, hbg, hg, hnc, hcm, hcs, htake⟩
  · by_cases hm : s.size = 0
    · have hf := Lib.run_firstCells_string (P := P) w 1 s
      rw [hm] at hf
      have hr2 : (Builtin.append_ #[t, u] ty #[.slice none 0 0, .string s]).run P w = .ok (.slice none 0 0) w := by
        simp [Builtin.append_, run_underlying ht, run_underlying hu, sizeOf, typeInfo, hi, hsize, Builtin.lenOf, hm, hf]
      rw [hr] at hr2
      cases hr2
      cases hg'
    · have hr2 := run_append_nil_string (P := P) w t u ty e i (.int .u8 0) ht hu hi hz s (by omega) (by omega) (by rw [hby]; omega)
      rw [hr] at hr2
      cases hr2
      cases hg'
      exact .inr (Nat.le_refl _)
  · by_cases hroom : n + s.size ≤ cap
    · have hcs' : cur.size = cap := by simpa using hcs
      have hr2 := Lib.run_append_room_string (P := P) w t u ty e i ht hu hi hsize g n cap cur hg s hroom (by omega)
      rw [hr] at hr2
      cases hr2
      exact .inl hg'
    · have holds : ∀ j u, xs[j]? = some u → w.cell? ((⟨g, 0, none⟩ : Addr).add j) = some u := hown.cells (g := g) rfl
      have hr2 := Lib.run_append_grow_string (P := P) w t u ty e i (.int .u8 0) ht hu hi hz ⟨g, 0, none⟩ n cap xs (by rw [hsize]; simpa using hxl) holds s (by omega) (by omega) (by rw [hby]; exact growslice_fits (by omega) (by omega))
      rw [hr] at hr2
      cases hr2
      cases hg'
      exact .inr (Nat.le_refl _)
theorem wpList_append_text {w : World} {ops : Array Oper} {rest : List Oper} {o : Oper} {a : Act} {Q : Exit → Act → World → Prop} (hgd : o.guard = none) (sl x : Operand) (t u : TypeId)
    (ho : o.op = .call { callee := .builtin .append, args := #[sl, x], argTypes := #[t, u] })
    (base : Nat) (e : TypeId) (i : TypeInfo) (ht : P.underlying t = some (.slice e)) (hu : P.underlying u = some .string) (hi : P.info? e = some i) (hz : i.zero = some (.int .u8 0))
    (hsize : i.size = 1) (hby : i.bytes = 1)
    (v : Value) (n : Nat) (xs : List Value) (hs : a.eval sl = v) (hown : w.ownsRow base e 1 v n xs) (s : ByteArray) (hx : a.eval x = .string s)
    (h63 : n + s.size ≤ maxLen) (hbytes : n + s.size ≤ 140737488355328) (hbase : base ≤ w.heap.size)
    (h : ∀ v' w', w'.ownsRow base e 1 v' (n + s.size) (xs ++ bv s.data.toList) → w.grownBy w' v.ownBlock → (∀ g, v'.ownBlock = some g → v.ownBlock = some g ∨ w.heap.size ≤ g) → (v' = .slice none 0 0 ↔ v = .slice none 0 0 ∧ s.size = 0) → wpList P ops Q rest (a.put o.dst v') w') : wpList P ops Q (o :: rest) a w := by
  refine wpList_plain hgd fun K hK => ?_
  obtain ⟨v', w', hr, h2, h3, h4⟩ := Lib.run_append_own_string (P := P) w base t u o.type e i ht hu hi hz hsize hby v n xs hown s h63 hbytes hbase
  have h5 := append_string_block base t u o.type e i ht hu hi hz hsize hby v n xs hown s h63 hbytes hr
  unfold Oper.wp execOp
  simp only [ho, resolve, invoke, builtin, Sem.run_bind, Sem.run_pure, Result.andThen_ok, List.map_toArray, List.map_cons, List.map_nil, hs, hx, hr]
  exact hK _ _ (h v' w' h2 h3 h5 h4)
end
end Go.Proofs.Ytbcaiegglbdonaa

/-
  Bytes compared, cells compared; slices.Clone of bytes.
-/
namespace Go.Proofs.Ytbcaiegglbdonaa
open Go Go.RowKit
set_option linter.unusedSimpArgs false

theorem Reads.byte_at {w : World} {A : Option Addr} {cap : Nat} {l : List UInt8} (h : Reads w (.slice A l.length cap) l.length 1 (bv l)) {k : Nat} {x : UInt8} (hk : l[k]? = some x) :
    ∃ b o, A = some ⟨b, o, none⟩ ∧ b < w.heap.size ∧ w.cell? ⟨b, o + k, none⟩ = some (.int .u8 (x.toNat : Nat)) := by
  obtain ⟨_, _, A', cap', e, h3⟩ := h
  injection e with e1 e2 e3
  subst e1 e3
  have hlt := (List.getElem?_eq_some_iff.1 hk).1
  obtain ⟨b, o, rfl, hb, hc⟩ := h3.resolve_left (by omega)
  exact ⟨b, o, rfl, hb, hc k _ (by simp [bv, hk])⟩
theorem Reads.some_at {w : World} {A : Option Addr} {n k cap : Nat} {xs : List Value} (h : Reads w (.slice A n cap) n k xs) (hn : n ≠ 0) :
    ∃ b o, A = some ⟨b, o, none⟩ ∧ b < w.heap.size ∧ ∀ (j : Nat) u, xs[j]? = some u → w.cell? ⟨b, o + j, none⟩ = some u := by
  obtain ⟨_, _, A', cap', e, h3⟩ := h
  injection e with e1 e2 e3
  subst e1 e3
  exact h3.resolve_left hn
def SameBRel (w : World) (l1 l2 : List UInt8) (i : Value) (wr : World) : Prop := ∃ k : Nat, k ≤ l1.length ∧ i = .int .i64 k ∧ l1.take k = l2.take k ∧ Below w.heap.size w wr
theorem take_step {α : Type} {l1 l2 : List α} {k : Nat} {x y : α} (h : l1.take k = l2.take k) (hx : l1[k]? = some x) (hy : l2[k]? = some y) (e : x = y) : l1.take (k + 1) = l2.take (k + 1) := by
  rw [take_snoc hx, take_snoc hy, h, e]
set_option maxRecDepth 100000 in
set_option maxHeartbeats 1000000 in
theorem samebytes_spec {w : World} {v1 v2 : Value} {l1 l2 : List UInt8} (h1 : Reads w v1 l1.length 1 (bv l1)) (h2 : Reads w v2 l2.length 1 (bv l2)) :
    Calls Try.prog 57 #[v1, v2] w fun e w' => e = .returned (.bool (decide (l1 = l2))) ∧ Below w.heap.size w w' := by
  obtain ⟨A1, c1, rfl⟩ := h1.form
  obtain ⟨A2, c2, rfl⟩ := h2.form
  have hm1 := h1.2.1
  have hm2 := h2.2.1
  have H1 := Lib.hid h1
  have H2 := Lib.hid h2
  clear h1 h2
  by_cases hl : l1.length = l2.length
  · have hlb : ((l1.length : Int) != (l2.length : Int)) = false := by simp [hl]
    have HL := Lib.hid hl
    clear hl
    go_enter Try.func57, Try.ntmps57
    go_wp2
    go_loopw [5] (SameBRel w l1 l2) (fun i _ => l1.length - (intOf i).toNat)
    case atStart => exact ⟨0, by omega, rfl, rfl, Below.refl _ _⟩
    case round =>
      obtain ⟨k, hk, rfl, heq, hbel⟩ := hrel
      by_cases hlt : k < l1.length
      · obtain ⟨x, hx⟩ : ∃ x, l1[k]? = some x := ⟨_, List.getElem?_eq_getElem hlt⟩
        obtain ⟨y, hy⟩ : ∃ y, l2[k]? = some y := ⟨_, List.getElem?_eq_getElem (by have := HL.out; omega)⟩
        obtain ⟨b1, o1, rfl, g1, p0⟩ := (H1.out.kept hbel).byte_at hx
        obtain ⟨b2, o2, rfl, g2, q0⟩ := (H2.out.kept hbel).byte_at hy
        have i1 : (k : Int) < (l1.length : Int) := by omega
        have i2 : (k : Int) < (l2.length : Int) := by have := HL.out; omega
        have i0 : (0 : Int) ≤ (k : Int) := by omega
        have HX := Lib.hid hx
        have HY := Lib.hid hy
        have HE := Lib.hid heq
        clear hx hy heq
        by_cases hxy : x = y
        · have hb : ((x.toNat : Int) != (y.toNat : Int)) = false := by simp [hxy]
          have HXY := Lib.hid hxy
          clear hxy
          go_wp2
          go_quiet (fail)
          go_wp2
          go_roundw
          case rel => exact ⟨k + 1, by omega, by go_num, take_step HE.out HX.out HY.out HXY.out, below_drewN hbel nq⟩
          case measure => simp [intOf]; omega
        · have hb : ((x.toNat : Int) != (y.toNat : Int)) = true := by
            simp only [bne_iff_ne, ne_eq]
            intro h
            exact hxy (UInt8.toNat_inj.1 (by omega))
          have hnl : decide (l1 = l2) = false := by
            simp; rintro rfl; exact hxy (Option.some.inj (HX.out.symm.trans HY.out))
          have HN := Lib.hid hnl
          clear hnl hxy
          go_wp2
          go_quiet (fail)
          go_wp2
          go_ret
          exact ⟨ret_bool HN.out.symm, below_drewN hbel nq⟩
      · obtain rfl : k = l1.length := by omega
        have heq' : decide (l1 = l2) = true := by
          simp
          have := heq
          rwa [List.take_length, HL.out, List.take_length] at this
        have HN := Lib.hid heq'
        clear heq heq'
        go_wp2
        go_ret
        exact ⟨ret_bool HN.out.symm, hbel⟩
  · have hlb : ((l1.length : Int) != (l2.length : Int)) = true := by simp; omega
    have hne : decide (l1 = l2) = false := by simp; rintro rfl; exact hl rfl
    rw [hne]
    clear hne hl
    go_enter Try.func57, Try.ntmps57
    go_wp2
    go_ret
    exact ⟨rfl, Below.refl _ _⟩
set_option maxRecDepth 100000 in
set_option maxHeartbeats 1000000 in
theorem equal_bytes {w : World} {v1 v2 : Value} {l1 l2 : List UInt8} (h1 : Reads w v1 l1.length 1 (bv l1)) (h2 : Reads w v2 l2.length 1 (bv l2)) :
    Calls Try.prog 120 #[v1, v2] w fun e w' => e = .returned (.bool (decide (l1 = l2))) ∧ Below w.heap.size w w' := by
  obtain ⟨A1, c1, rfl⟩ := h1.form
  obtain ⟨A2, c2, rfl⟩ := h2.form
  have hm1 := h1.2.1
  have hm2 := h2.2.1
  have H1 := Lib.hid h1
  have H2 := Lib.hid h2
  clear h1 h2
  by_cases hl : l1.length = l2.length
  · have hlb : ((l1.length : Int) != (l2.length : Int)) = false := by simp [hl]
    have HL := Lib.hid hl
    clear hl
    go_enter Try.func120, Try.ntmps120
    go_wp2
    go_loopw [13] (SameBRel w l1 l2) (fun i _ => l1.length - (intOf i).toNat)
    case atStart => exact ⟨0, by omega, rfl, rfl, Below.refl _ _⟩
    case round =>
      obtain ⟨k, hk, rfl, heq, hbel⟩ := hrel
      by_cases hlt : k < l1.length
      · obtain ⟨x, hx⟩ : ∃ x, l1[k]? = some x := ⟨_, List.getElem?_eq_getElem hlt⟩
        obtain ⟨y, hy⟩ : ∃ y, l2[k]? = some y := ⟨_, List.getElem?_eq_getElem (by have := HL.out; omega)⟩
        obtain ⟨b1, o1, rfl, g1, p0⟩ := (H1.out.kept hbel).byte_at hx
        obtain ⟨b2, o2, rfl, g2, q0⟩ := (H2.out.kept hbel).byte_at hy
        have i1 : (k : Int) < (l1.length : Int) := by omega
        have i2 : (k : Int) < (l2.length : Int) := by have := HL.out; omega
        have i0 : (0 : Int) ≤ (k : Int) := by omega
        have HX := Lib.hid hx
        have HY := Lib.hid hy
        have HE := Lib.hid heq
        clear hx hy heq
        by_cases hxy : x = y
        · have hb : ((x.toNat : Int) != (y.toNat : Int)) = false := by simp [hxy]
          have HXY := Lib.hid hxy
          clear hxy
          go_wp2
          go_quiet (fail)
          go_wp2
          go_roundw
          case rel => exact ⟨k + 1, by omega, by go_num, take_step HE.out HX.out HY.out HXY.out, below_drewN hbel nq⟩
          case measure => simp [intOf]; omega
        · have hb : ((x.toNat : Int) != (y.toNat : Int)) = true := by
            simp only [bne_iff_ne, ne_eq]
            intro h
            exact hxy (UInt8.toNat_inj.1 (by omega))
          have hnl : decide (l1 = l2) = false := by
            simp; rintro rfl; exact hxy (Option.some.inj (HX.out.symm.trans HY.out))
          have HN := Lib.hid hnl
          clear hnl hxy
          go_wp2
          go_quiet (fail)
          go_wp2
          go_ret
          exact ⟨ret_bool HN.out.symm, below_drewN hbel nq⟩
      · obtain rfl : k = l1.length := by omega
        have heq' : decide (l1 = l2) = true := by
          simp
          have := heq
          rwa [List.take_length, HL.out, List.take_length] at this
        have HN := Lib.hid heq'
        clear heq heq'
        go_wp2
        go_ret
        exact ⟨ret_bool HN.out.symm, hbel⟩
  · have hlb : ((l1.length : Int) != (l2.length : Int)) = true := by simp; omega
    have hne : decide (l1 = l2) = false := by simp; rintro rfl; exact hl rfl
    rw [hne]
    clear hne hl
    go_enter Try.func120, Try.ntmps120
    go_wp2
    go_ret
    exact ⟨rfl, Below.refl _ _⟩
set_option maxRecDepth 100000 in
set_option maxHeartbeats 1000000 in
theorem samecells_spec {w : World} {v1 v2 : Value} {l1 l2 : List Cell} (h1 : Reads w v1 l1.length 4 (cellVals l1)) (h2 : Reads w v2 l2.length 4 (cellVals l2)) :
    Calls Try.prog 60 #[v1, v2] w fun e w' => e = .returned (.bool (decide (l1 = l2))) ∧ Below w.heap.size w w' := by
  obtain ⟨A1, c1, rfl⟩ := h1.form
  obtain ⟨A2, c2, rfl⟩ := h2.form
  have hm1 := h1.2.1
  have hm2 := h2.2.1
  have H1 := Lib.hid h1
  have H2 := Lib.hid h2
  clear h1 h2
  by_cases hl : l1.length = l2.length
  · have hlb : ((l1.length : Int) != (l2.length : Int)) = false := by simp [hl]
    have HL := Lib.hid hl
    clear hl
    go_enter Try.func60, Try.ntmps60
    go_wp2
    go_loopw [5] (SameCRel w l1 l2) (fun i _ => l1.length - (intOf i).toNat)
    case atStart => exact ⟨0, by omega, rfl, rfl, Below.refl _ _⟩
    case round =>
      obtain ⟨k, hk, rfl, heq, hbel⟩ := hrel
      by_cases hlt : k < l1.length
      · obtain ⟨x, hx⟩ : ∃ x, l1[k]? = some x := ⟨_, List.getElem?_eq_getElem hlt⟩
        obtain ⟨y, hy⟩ : ∃ y, l2[k]? = some y := ⟨_, List.getElem?_eq_getElem (by have := HL.out; omega)⟩
        obtain ⟨b1, o1, rfl, g1, p0, p1, p2, p3⟩ := (H1.out.kept hbel).cell_at hx
        obtain ⟨b2, o2, rfl, g2, q0, q1, q2, q3⟩ := (H2.out.kept hbel).cell_at hy
        have i1 : (k : Int) < (l1.length : Int) := by omega
        have i2 : (k : Int) < (l2.length : Int) := by have := HL.out; omega
        have i0 : (0 : Int) ≤ (k : Int) := by omega
        have HX := Lib.hid hx
        have HY := Lib.hid hy
        have HE := Lib.hid heq
        clear hx hy heq
        have hne := cell_neq x y
        by_cases hxy : x = y
        · have hb : decide (x = y) = true := by simp [hxy]
          rw [hb] at hne
          have HXY := Lib.hid hxy
          clear hxy hb
          go_wp2
          go_quiet (fail)
          go_wp2
          go_roundw
          case rel => exact ⟨k + 1, by omega, by go_num, same_step HE.out HX.out HY.out HXY.out, below_drewN hbel nq⟩
          case measure => simp [intOf]; omega
        · have hb : decide (x = y) = false := by simp [hxy]
          rw [hb] at hne
          have hnl : decide (l1 = l2) = false := by
            simp; rintro rfl; exact hxy (Option.some.inj (HX.out.symm.trans HY.out))
          have HN := Lib.hid hnl
          clear hnl hxy hb
          go_wp2
          go_quiet (fail)
          go_wp2
          go_ret
          exact ⟨ret_bool HN.out.symm, below_drewN hbel nq⟩
      · obtain rfl : k = l1.length := by omega
        have heq' : decide (l1 = l2) = true := by
          simp
          have := heq
          rwa [List.take_length, HL.out, List.take_length] at this
        have HN := Lib.hid heq'
        clear heq heq'
        go_wp2
        go_ret
        exact ⟨ret_bool HN.out.symm, hbel⟩
  · have hlb : ((l1.length : Int) != (l2.length : Int)) = true := by simp; omega
    have hne : decide (l1 = l2) = false := by simp; rintro rfl; exact hl rfl
    rw [hne]
    clear hne hl
    go_enter Try.func60, Try.ntmps60
    go_wp2
    go_ret
    exact ⟨rfl, Below.refl _ _⟩

set_option maxRecDepth 100000 in
set_option maxHeartbeats 1000000 in
theorem clone_bytes {w : World} {A : Option Addr} {cap : Nat} {l : List UInt8} (h : Reads w (.slice A l.length cap) l.length 1 (bv l)) (hl : l.length ≤ 1099511627776) (hA : l.length ≠ 0) :
    Calls Try.prog 118 #[.slice A l.length cap] w fun e w' => ∃ g c, e = .returned (.slice (some ⟨g, 0, none⟩) l.length c) ∧ w'.ownsRow w.heap.size 5 1 (.slice (some ⟨g, 0, none⟩) l.length c) l.length (bv l) ∧ Below w.heap.size w w' := by
  obtain ⟨i0, hi, hz0, hz1, hz2⟩ := info_parts Try.infoByte
  have H := Lib.hid h
  have hnil := fun W => Lib.run_eql_slice_nil (P := Try.prog) W 74 5 A l.length cap 0 0 Try.underlying74
  obtain ⟨b, o, rfl, hbl, hc⟩ := h.some_at hA
  have oA := World.ownsRow_made (base := w.heap.size) (e := 5) (size := 1) w #[] 0 (Nat.le_refl _) (by decide) rfl
  have p1 : 0 + l.length ≤ maxLen := by unfold maxLen; omega
  have p2 : (0 + l.length) * 1 ≤ 140737488355328 := by omega
  have p3 : w.heap.size ≤ (w.alloc (.cells #[] 5)).heap.size := by simp
  have hbA : Below w.heap.size w (w.alloc (.cells #[] 5)) := (Below.refl _ _).alloc (Nat.le_refl _) _
  have HC := Lib.hid hc
  clear h hc
  go_enter Try.func118, Try.ntmps118
  go_wp2_with (at_builtin; refine wpList_append_any rfl _ _ 74 rfl w.heap.size 5 i0 (.int .u8 0) 1 1 Try.underlying74 hi hz0 hz1 hz2 rfl (by decide) w.heap.size 0 0 [] rfl oA l.length (bv l) ?hl ?hx ?h1 p1 p2 p3 ?_)
  case hl => rw [bv_len]; omega
  case h1 => exact bv_one l
  case hx => exact .inr ⟨_, _, rfl, fun j u hj => by rw [add_at rfl]; exact cell_keep hbA (HC.out j u hj)⟩
  intro g1 c1 w2 own1 hgr hg1
  have own1 : w2.ownsRow w.heap.size 5 1 (.slice (some ⟨g1, 0, none⟩) l.length c1) l.length (bv l) := by simpa using own1
  have b2 : Below w.heap.size w w2 := ((Below.refl _ _).alloc (Nat.le_refl _) _).grown hgr p3 (fun j hj => by cases hj; exact Nat.le_refl _)
  have HO := Lib.hid own1
  clear own1 hgr hg1 oA
  go_wp2_with fail
  go_ret
  exact ⟨g1, c1, rfl, HO.out, b2⟩
end Go.Proofs.Ytbcaiegglbdonaa

/-
  Leaves of the table: shapes, cells' check, bytes and cells compared, Mix.
-/
namespace Go.Proofs.Ytbcaiegglbdonaa
open Go Go.RowKit
set_option linter.unusedSimpArgs false

/-- Why a shape may not be. -/
def checkS (b r t : Int) : Int := if b < 64 ∨ 32768 < b ∨ r < 1 ∨ 64 < r ∨ t < 1 ∨ 32 < t then 1 else 0
def shpA (b r t : Int) : Array Value := #[.int .i64 b, .int .i64 r, .int .i64 t]
set_option maxRecDepth 100000 in
set_option maxHeartbeats 1000000 in
theorem table_shape (b r t : Int) (w : World) : Calls Try.prog 58 #[.agg #[.int .i64 b, .int .i64 r, .int .i64 t]] w fun e w' => e = .returned (.int .i64 (checkS b r t)) ∧ Below w.heap.size w w' := by
  by_cases h0 : b < 64
  · have HC := Lib.hid (show checkS b r t = 1 by unfold checkS; rw [if_pos (.inl h0)])
    go_enter Try.func58, Try.ntmps58
    go_wp2_with fail
    go_ret
    exact ⟨by rw [HC.out]; rfl, (Below.refl _ _).alloc (Nat.le_refl _) _⟩
  have g0 : 64 ≤ b := by omega
  by_cases h1 : 32768 < b
  · have HC := Lib.hid (show checkS b r t = 1 by unfold checkS; rw [if_pos (.inr (.inl h1))])
    go_enter Try.func58, Try.ntmps58
    go_wp2_with fail
    go_ret
    exact ⟨by rw [HC.out]; rfl, (Below.refl _ _).alloc (Nat.le_refl _) _⟩
  have g1 : b ≤ 32768 := by omega
  by_cases h2 : r < 1
  · have HC := Lib.hid (show checkS b r t = 1 by unfold checkS; rw [if_pos (.inr (.inr (.inl h2)))])
    go_enter Try.func58, Try.ntmps58
    go_wp2_with fail
    go_ret
    exact ⟨by rw [HC.out]; rfl, (Below.refl _ _).alloc (Nat.le_refl _) _⟩
  have g2 : 1 ≤ r := by omega
  by_cases h3 : 64 < r
  · have HC := Lib.hid (show checkS b r t = 1 by unfold checkS; rw [if_pos (.inr (.inr (.inr (.inl h3))))])
    go_enter Try.func58, Try.ntmps58
    go_wp2_with fail
    go_ret
    exact ⟨by rw [HC.out]; rfl, (Below.refl _ _).alloc (Nat.le_refl _) _⟩
  have g3 : r ≤ 64 := by omega
  by_cases h4 : t < 1
  · have HC := Lib.hid (show checkS b r t = 1 by unfold checkS; rw [if_pos (.inr (.inr (.inr (.inr (.inl h4)))))])
    go_enter Try.func58, Try.ntmps58
    go_wp2_with fail
    go_ret
    exact ⟨by rw [HC.out]; rfl, (Below.refl _ _).alloc (Nat.le_refl _) _⟩
  have g4 : 1 ≤ t := by omega
  by_cases h5 : 32 < t
  · have HC := Lib.hid (show checkS b r t = 1 by unfold checkS; rw [if_pos (.inr (.inr (.inr (.inr (.inr h5)))))])
    go_enter Try.func58, Try.ntmps58
    go_wp2_with fail
    go_ret
    exact ⟨by rw [HC.out]; rfl, (Below.refl _ _).alloc (Nat.le_refl _) _⟩
  have g5 : t ≤ 32 := by omega
  have HC := Lib.hid (show checkS b r t = 0 by unfold checkS; rw [if_neg (by omega)])
  go_enter Try.func58, Try.ntmps58
  go_wp2_with fail
  go_ret
  exact ⟨by rw [HC.out]; rfl, (Below.refl _ _).alloc (Nat.le_refl _) _⟩
set_option maxRecDepth 100000 in
set_option maxHeartbeats 1000000 in
theorem ref_shape (b r t : Int) (w : World) : Calls Try.prog 59 #[.agg #[.int .i64 b, .int .i64 r, .int .i64 t]] w fun e w' => e = .returned (.int .i64 (checkS b r t)) ∧ Below w.heap.size w w' := by
  by_cases h0 : b < 64
  · have HC := Lib.hid (show checkS b r t = 1 by unfold checkS; rw [if_pos (.inl h0)])
    go_enter Try.func59, Try.ntmps59
    go_wp2_with fail
    go_ret
    exact ⟨by rw [HC.out]; rfl, (Below.refl _ _).alloc (Nat.le_refl _) _⟩
  have g0 : 64 ≤ b := by omega
  by_cases h1 : 32768 < b
  · have HC := Lib.hid (show checkS b r t = 1 by unfold checkS; rw [if_pos (.inr (.inl h1))])
    go_enter Try.func59, Try.ntmps59
    go_wp2_with fail
    go_ret
    exact ⟨by rw [HC.out]; rfl, (Below.refl _ _).alloc (Nat.le_refl _) _⟩
  have g1 : b ≤ 32768 := by omega
  by_cases h2 : r < 1
  · have HC := Lib.hid (show checkS b r t = 1 by unfold checkS; rw [if_pos (.inr (.inr (.inl h2)))])
    go_enter Try.func59, Try.ntmps59
    go_wp2_with fail
    go_ret
    exact ⟨by rw [HC.out]; rfl, (Below.refl _ _).alloc (Nat.le_refl _) _⟩
  have g2 : 1 ≤ r := by omega
  by_cases h3 : 64 < r
  · have HC := Lib.hid (show checkS b r t = 1 by unfold checkS; rw [if_pos (.inr (.inr (.inr (.inl h3))))])
    go_enter Try.func59, Try.ntmps59
    go_wp2_with fail
    go_ret
    exact ⟨by rw [HC.out]; rfl, (Below.refl _ _).alloc (Nat.le_refl _) _⟩
  have g3 : r ≤ 64 := by omega
  by_cases h4 : t < 1
  · have HC := Lib.hid (show checkS b r t = 1 by unfold checkS; rw [if_pos (.inr (.inr (.inr (.inr (.inl h4)))))])
    go_enter Try.func59, Try.ntmps59
    go_wp2_with fail
    go_ret
    exact ⟨by rw [HC.out]; rfl, (Below.refl _ _).alloc (Nat.le_refl _) _⟩
  have g4 : 1 ≤ t := by omega
  by_cases h5 : 32 < t
  · have HC := Lib.hid (show checkS b r t = 1 by unfold checkS; rw [if_pos (.inr (.inr (.inr (.inr (.inr h5)))))])
    go_enter Try.func59, Try.ntmps59
    go_wp2_with fail
    go_ret
    exact ⟨by rw [HC.out]; rfl, (Below.refl _ _).alloc (Nat.le_refl _) _⟩
  have g5 : t ≤ 32 := by omega
  have HC := Lib.hid (show checkS b r t = 0 by unfold checkS; rw [if_neg (by omega)])
  go_enter Try.func59, Try.ntmps59
  go_wp2_with fail
  go_ret
  exact ⟨by rw [HC.out]; rfl, (Below.refl _ _).alloc (Nat.le_refl _) _⟩
/-- Why cells may be no table's. -/
def checkT (l : List Cell) (b r t : Int) : Int :=
  if checkS b r t ≠ 0 then checkS b r t else if 65536 < l.length then 3 else if l.length = 0 then 1 else if checkL l = 81 then 91 else checkL l
set_option maxRecDepth 100000 in
set_option maxHeartbeats 1000000 in
theorem table_check {w : World} {v : Value} {l : List Cell} (h : Reads w v l.length 4 (cellVals l)) (hl : l.length ≤ 2932031007402) (b r t : Int) :
    Calls Try.prog 107 #[v, .agg #[.int .i64 b, .int .i64 r, .int .i64 t]] w fun e w' => e = .returned (.int .i64 (checkT l b r t)) ∧ Below w.heap.size w w' := by
  obtain ⟨A, cap, rfl⟩ := h.form
  have b0 := (Below.refl w.heap.size w).alloc (Nat.le_refl _) (.cells #[.int .i64 b, .int .i64 r, .int .i64 t] 89)
  have HS := Lib.hid (table_shape b r t (w.alloc (.cells #[.int .i64 b, .int .i64 r, .int .i64 t] 89)))
  have H := Lib.hid h
  clear h
  obtain ⟨S, hS⟩ : ∃ S, checkS b r t = S := ⟨_, rfl⟩
  rw [hS] at HS
  by_cases h0 : ¬ S = 0
  · have HT := Lib.hid (show checkT l b r t = S by unfold checkT; rw [hS, if_pos h0])
    have hq : (S == 0) = false := by simpa using h0
    clear hS
    go_enter Try.func107, Try.ntmps107
    go_wp2_with (go_at_call 58; refine HS.out.mono ?_; rintro e w1 ⟨rfl, b1⟩)
    go_ret
    exact ⟨by rw [HT.out]; rfl, b0.trans (b1.mono b0.size)⟩
  · have h0 : S = 0 := by omega
    subst h0
    by_cases h1 : 65536 < l.length
    · have HT := Lib.hid (show checkT l b r t = 3 by unfold checkT; rw [hS, if_neg (by simp), if_pos h1])
      have hI : (65536 : Int) < (l.length : Int) := by omega
      clear hS
      go_enter Try.func107, Try.ntmps107
      go_wp2_with (go_at_call 58; refine HS.out.mono ?_; rintro e w1 ⟨rfl, b1⟩)
      go_ret
      exact ⟨by rw [HT.out]; rfl, b0.trans (b1.mono b0.size)⟩
    have hI : (l.length : Int) ≤ 65536 := by omega
    by_cases h2 : l.length = 0
    · have HT := Lib.hid (show checkT l b r t = 1 by unfold checkT; rw [hS, if_neg (by simp), if_neg h1, if_pos h2])
      have hq : ((l.length : Int) == 0) = true := by simpa using h2
      have hz : (l.length : Int) = 0 := by omega
      clear hS
      go_enter Try.func107, Try.ntmps107
      go_wp2_with (go_at_call 58; refine HS.out.mono ?_; rintro e w1 ⟨rfl, b1⟩)
      go_ret
      exact ⟨by rw [HT.out]; rfl, b0.trans (b1.mono b0.size)⟩
    have hq2 : ¬ l = [] := by rintro rfl; exact h2 rfl
    have hq : ((l.length : Int) == 0) = false := by simpa using hq2
    have HCK := Lib.hid (fun (W : World) (hW : Reads W (.slice A l.length cap) l.length 4 (cellVals l)) => block_check hW hl)
    obtain ⟨C, hC⟩ : ∃ C, checkL l = C := ⟨_, rfl⟩
    rw [hC] at HCK
    by_cases h3 : C = 81
    · subst h3
      have HT := Lib.hid (show checkT l b r t = 91 by unfold checkT; rw [hS, if_neg (by simp), if_neg h1, if_neg h2, hC, if_pos rfl])
      clear hS hC
      go_enter Try.func107, Try.ntmps107
      go_wp2_with (first | (go_at_call 58; refine HS.out.mono ?_; rintro e w1 ⟨rfl, b1⟩; have c1 := b0.trans (b1.mono b0.size)) | (go_at_call 39; refine (HCK.out _ (H.out.kept c1)).mono ?_; rintro e w2 ⟨rfl, b2⟩))
      go_ret
      exact ⟨by rw [HT.out]; rfl, c1.trans (b2.mono c1.size)⟩
    · have HT := Lib.hid (show checkT l b r t = C by unfold checkT; rw [hS, if_neg (by simp), if_neg h1, if_neg h2, hC, if_neg h3])
      have hq3 : (C == 81) = false := by simpa using h3
      clear hS hC
      go_enter Try.func107, Try.ntmps107
      go_wp2_with (first | (go_at_call 58; refine HS.out.mono ?_; rintro e w1 ⟨rfl, b1⟩; have c1 := b0.trans (b1.mono b0.size)) | (go_at_call 39; refine (HCK.out _ (H.out.kept c1)).mono ?_; rintro e w2 ⟨rfl, b2⟩))
      go_ret
      exact ⟨by rw [HT.out]; rfl, c1.trans (b2.mono c1.size)⟩
/-! ### Mix -/
def shrN (x k : Nat) : Nat := x ^^^ (x / 2 ^ k)
def mixN (x : Nat) : Nat := shrN (shrN (shrN x 30 * 13787848793156543929 % 18446744073709551616) 27 * 10723151780598845931 % 18446744073709551616) 31
theorem shrN_lt {x k : Nat} (h : x < 18446744073709551616) : shrN x k < 18446744073709551616 :=
  Nat.xor_lt_two_pow (n := 64) (by omega) (Nat.lt_of_le_of_lt (Nat.div_le_self _ _) (by omega))
theorem mixN_lt {x : Nat} : mixN x < 18446744073709551616 := shrN_lt (Nat.mod_lt _ (by decide))
theorem xor_shr {x k : Nat} (hx : x < 18446744073709551616) (d : Int) (hd : d = ((2 ^ k : Nat) : Int)) : bits .xor .u64 (x : Int) ((x : Int) / d) = ((shrN x k : Nat) : Int) := by
  subst hd
  have e : ((x : Int) / ((2 ^ k : Nat) : Int)) = ((x / 2 ^ k : Nat) : Int) := (Int.natCast_ediv x (2 ^ k)).symm
  rw [e, u64_xor_nat _ _ hx (Nat.lt_of_le_of_lt (Nat.div_le_self _ _) hx)]
  rfl
theorem wrap_mul (x c : Nat) : IntKind.u64.wrap ((x : Int) * (c : Int)) = ((x * c % 18446744073709551616 : Nat) : Int) := by
  rw [IntKind.wrap_u64, ← Int.natCast_mul]
  exact (Int.natCast_emod (x * c) 18446744073709551616).symm
def mixA (x : Nat) : Nat := shrN x 30 * 13787848793156543929 % 18446744073709551616
def mixB (x : Nat) : Nat := shrN (mixA x) 27 * 10723151780598845931 % 18446744073709551616
theorem mix_one {x : Nat} (hx : x < 18446744073709551616) : IntKind.u64.wrap (bits .xor .u64 (x : Int) ((x : Int) / 1073741824) * 13787848793156543929) = ((mixA x : Nat) : Int) := by
  rw [xor_shr hx 1073741824 (k := 30) (by decide)]
  exact wrap_mul (shrN x 30) 13787848793156543929
theorem mix_two (x : Nat) : IntKind.u64.wrap (bits .xor .u64 ((mixA x : Nat) : Int) (((mixA x : Nat) : Int) / 134217728) * 10723151780598845931) = ((mixB x : Nat) : Int) := by
  rw [xor_shr (x := mixA x) (show mixA x < 18446744073709551616 from Nat.mod_lt _ (by decide)) 134217728 (k := 27) (by decide)]
  exact wrap_mul (shrN (mixA x) 27) 10723151780598845931
theorem mix_three (x : Nat) : bits .xor .u64 ((mixB x : Nat) : Int) (((mixB x : Nat) : Int) / 2147483648) = ((mixN x : Nat) : Int) := by
  rw [xor_shr (x := mixB x) (show mixB x < 18446744073709551616 from Nat.mod_lt _ (by decide)) 2147483648 (k := 31) (by decide)]
  rfl
set_option maxRecDepth 100000 in
theorem sched_mix (x : Nat) (hx : x < 18446744073709551616) (w : World) : Calls Try.prog 151 #[.int .u64 x] w fun e w' => e = .returned (.int .u64 (mixN x : Nat)) ∧ w' = w := by
  have m1 := mix_one hx
  have m2 := mix_two x
  have m3 := mix_three x
  go_enter Try.func151, Try.ntmps151
  go_wp2_with fail
  go_ret
  exact ⟨rfl, rfl⟩
set_option maxRecDepth 100000 in
theorem ref_mix (x : Nat) (hx : x < 18446744073709551616) (w : World) : Calls Try.prog 153 #[.int .u64 x] w fun e w' => e = .returned (.int .u64 (mixN x : Nat)) ∧ w' = w := by
  have m1 := mix_one hx
  have m2 := mix_two x
  have m3 := mix_three x
  go_enter Try.func153, Try.ntmps153
  go_wp2_with fail
  go_ret
  exact ⟨rfl, rfl⟩
end Go.Proofs.Ytbcaiegglbdonaa

/-
  The block's Scan: what its iterator goes over, for every loop body that leaves alone the memory that is not its own.
-/
namespace Go.Proofs.Ytbcaiegglbdonaa
open Go.RowKit Go.Shelf
attribute [local go_sem] Oper.semAt_some

def BScanRel (J : List Cell → World → Prop) (X : Nat → Prop) (pb b1 b2 : Nat) (fr «to» : ByteArray) (cs : List Cell) (v : Value) (i : Value) (wr : World) : Prop :=
  ∃ (k : Nat) (pre : List Cell), k ≤ cs.length ∧ i = .int .i64 k ∧ cs.filter (partP fr «to») = pre ++ (cs.drop k).filter (partP fr «to») ∧ J pre wr ∧ Blk wr b1 #[.string fr] 9 ∧ Blk wr b2 #[.string «to»] 9 ∧ ¬ Sx X pb wr b1 ∧ ¬ Sx X pb wr b2 ∧
    pb < wr.heap.size ∧
    (∃ B, wr.ownsRow B 25 4 v cs.length (cellVals cs)) ∧ ∀ g, v.ownBlock = some g → ¬ Sx X pb wr g

set_option maxRecDepth 100000 in
set_option maxHeartbeats 1000000 in
theorem bscan_any (n : Nat) (hn : 1 ≤ n) (l : Nat) (X : Nat → Prop) (pb b0 b1 b2 : Nat) (p : Value) (cs : List Cell) (fr «to» : ByteArray) (J Jx : List Cell → World → Prop) (W : World)
    (hJ : AbidesFrom W.heap.size J)
    (hY : ∀ pre x W1, J pre W1 → pre.length < (cs.filter (partP fr «to»)).length → YieldAt Fence.wide (n - 1) Try.prog l #[.agg #[.string x.key, .int .u64 x.seq, .string x.val, .bool x.gone]] W1 fun e W' =>
      (e = .returned (.bool true) ∧ J (pre ++ [x]) W' ∧ KpC X pb W1 W') ∨ (e = .returned (.bool false) ∧ Jx (pre ++ [x]) W'))
    (h0 : Blk W b0 #[p] 68) (h1 : Blk W b1 #[.string fr] 9) (h2 : Blk W b2 #[.string «to»] 9) (n1 : ¬ Sx X pb W b1) (n2 : ¬ Sx X pb W b2) (hS : ∀ b, Sx X pb W b → b < W.heap.size) (hpb : pb < W.heap.size)
    (hcs : Calls Try.prog 43 #[p] W (CellsPost W cs)) (hcb : cs.length ≤ 2932031007403) (hp1 : ∃ q, p = .pointer q) (hj0 : J [] W) :
    CallsIn Fence.wide n Try.prog 106 #[.func (.yield l) #[] #[], .pointer (some ⟨b0, 0, none⟩), .pointer (some ⟨b1, 0, none⟩), .pointer (some ⟨b2, 0, none⟩)] W fun e W' => (∃ v, e = .returned v) ∧
      ((∃ ys, ys = cs.filter (partP fr «to») ∧ J ys W') ∨ (∃ pre, pre <+: cs.filter (partP fr «to») ∧ Jx pre W')) := by
  obtain ⟨q, rfl⟩ := hp1
  have c0 : W.cell? ⟨b0, 0, none⟩ = some (.pointer q) := h0.cell 0 _ rfl
  have l0 := h0.lt
  refine callsIn_of_wp Try.func106 rfl trivial ?_ rfl
  simp only [Try.ntmps106, List.size_toArray, List.length_cons, List.length_nil, Nat.reduceAdd, Nat.reduceSub, Array.replicate_succ, Array.replicate_zero, List.push_toArray, List.append_toArray, List.nil_append, List.cons_append]
  have hn1 : 1 ≤ n - 1 + 1 := by omega
  gi_wp2_with (first | (refine ⟨trivial, ?_⟩; gi_at_call 43; refine (callsIn_wide.2 hcs).mono ?_; rintro e w' ⟨v, rfl, hown, hbel⟩; obtain ⟨A, cap, rfl⟩ := (Reads.of_own hown).form))
  have hsx : ∀ b, Sx X pb w' b → b < W.heap.size := fun b hs => hS b (hs.imp id fun ⟨o, x, c, h⟩ => ⟨o, x, c, by rw [← hbel.cell (p := ⟨pb, 0, none⟩) hpb]; exact h⟩)
  have hk0 : KpC X pb W w' := KpC.of_below hbel hpb
  gi_loopw [10] (BScanRel J X pb b1 b2 fr «to» cs (.slice A cs.length cap)) (fun i _ => cs.length - (intOf i).toNat)
  case atStart =>
    exact ⟨0, [], Nat.zero_le _, rfl, rfl, hJ _ _ _ none hj0 ⟨hbel.os, hbel.tape, hbel.output, hbel.size, fun k hk _ => hbel.block k hk⟩ (fun r e => by cases e), h1.kept hbel, h2.kept hbel, fun h => n1 (hk0.sub _ h1.lt h), fun h => n2 (hk0.sub _ h2.lt h), Nat.lt_of_lt_of_le hpb hbel.size, ⟨_, hown⟩,
      fun g hg h => by have := hsx g h; have := (hown.lt g hg).1; omega⟩
  case round =>
    obtain ⟨k, pre, hk, rfl, hsc, hJr, r1, r2, m1, m2, hpw, ⟨B, how⟩, hAo⟩ := hrel
    by_cases hlt : k < cs.length
    · obtain ⟨x, hx⟩ : ∃ x, cs[k]? = some x := ⟨_, List.getElem?_eq_getElem hlt⟩
      obtain ⟨b, o, rfl, g1, p0, p1, p2, p3⟩ := (Reads.of_own how).cell_at hx
      have i1 : (k : Int) < (cs.length : Int) := by omega
      have i0 : (0 : Int) ≤ (k : Int) := by omega
      have hJ1 : J pre (wr.alloc (.cells #[.string x.key, .int .u64 x.seq, .string x.val, .bool x.gone] 25)) := hJ _ _ _ none hJr (World.grownBy_alloc _ _ none) (fun r e => by cases e)
      have hka : KpC X pb wr (wr.alloc (.cells #[.string x.key, .int .u64 x.seq, .string x.val, .bool x.gone] 25)) := KpC.of_below ((Below.refl _ _).alloc (Nat.le_refl _) _) hpw
      have hdr : cs.drop k = x :: cs.drop (k + 1) := by rw [List.drop_eq_getElem_cons hlt]; congr; simpa [List.getElem?_eq_getElem hlt] using hx
      have HX := Lib.hid hx
      have HD := Lib.hid hdr
      have HS := Lib.hid hsc
      have e1 : wr.cell? ⟨b1, 0, none⟩ = some (.string fr) := r1.cell 0 _ rfl
      have e2 : wr.cell? ⟨b2, 0, none⟩ = some (.string «to») := r2.cell 0 _ rfl
      have d1 := r1.lt
      have d2 := r2.lt
      clear hx hdr hsc
      by_cases hlow : Op.bytesLess x.key.toList fr.toList = true
      · have hsl := Lib.hid (show (x :: cs.drop (k + 1)).filter (partP fr «to») = (cs.drop (k + 1)).filter (partP fr «to») by rw [List.filter_cons, if_neg (by simp [partP, hlow])])
        gi_wp2_with fail
        refine ⟨fun _ h => (by cases h), ?_⟩
        gi_wp2_with fail
        go_roundw
        case rel =>
          exact ⟨k + 1, pre, by omega, by go_num, by rw [HS.out, HD.out, hsl.out], hJ1, r1.kp hka m1, r2.kp hka m2, fun h => m1 (hka.sub _ d1 h), fun h => m2 (hka.sub _ d2 h), Nat.lt_of_lt_of_le hpw hka.size, ⟨B, KpC.own how hka hAo⟩, fun g hg h => hAo g hg (hka.sub _ (how.lt g hg).2 h)⟩
        case measure => simp [intOf]; omega
      have hlow : Op.bytesLess x.key.toList fr.toList = false := by simpa using hlow
      by_cases hto : «to».toList = []
      · have hsl := Lib.hid (show (x :: cs.drop (k + 1)).filter (partP fr «to») = x :: (cs.drop (k + 1)).filter (partP fr «to») by rw [List.filter_cons, if_pos (by simp [partP, hlow, hto])])
        obtain ⟨fn, tmps, assign, body, hy, hR⟩ := hY pre x _ hJ1 (by rw [HS.out, HD.out, hsl.out]; simp)
        gi_wp2_with fail
        refine hR.mono ?_
        rintro e W3 (⟨rfl, hJ3, hk3⟩ | ⟨rfl, hJx3⟩)
        · gi_wp2_with fail
          go_roundw
          case rel =>
            have hk4 := hka.trans hk3
            exact ⟨k + 1, pre ++ [x], by omega, by go_num, by rw [HS.out, HD.out, hsl.out]; simp, hJ3, r1.kp hk4 m1, r2.kp hk4 m2, fun h => m1 (hk4.sub _ d1 h), fun h => m2 (hk4.sub _ d2 h), Nat.lt_of_lt_of_le hpw hk4.size, ⟨B, KpC.own how hk4 hAo⟩, fun g hg h => hAo g hg (hk4.sub _ (how.lt g hg).2 h)⟩
          case measure => simp [intOf]; omega
        · gi_wp2_with fail
          refine bodyPost_ret (results_none rfl _ _ _) rfl ?_
          exact ⟨⟨_, rfl⟩, .inr ⟨pre ++ [x], by rw [HS.out, HD.out, hsl.out]; exact ⟨_, by rw [List.append_assoc]; rfl⟩, hJx3⟩⟩
      by_cases hhi : Op.bytesLess x.key.toList «to».toList = true
      · have hsl := Lib.hid (show (x :: cs.drop (k + 1)).filter (partP fr «to») = x :: (cs.drop (k + 1)).filter (partP fr «to») by rw [List.filter_cons, if_pos (by simp [partP, hlow, hhi])])
        obtain ⟨fn, tmps, assign, body, hy, hR⟩ := hY pre x _ hJ1 (by rw [HS.out, HD.out, hsl.out]; simp)
        gi_wp2_with fail
        refine hR.mono ?_
        rintro e W3 (⟨rfl, hJ3, hk3⟩ | ⟨rfl, hJx3⟩)
        · gi_wp2_with fail
          go_roundw
          case rel =>
            have hk4 := hka.trans hk3
            exact ⟨k + 1, pre ++ [x], by omega, by go_num, by rw [HS.out, HD.out, hsl.out]; simp, hJ3, r1.kp hk4 m1, r2.kp hk4 m2, fun h => m1 (hk4.sub _ d1 h), fun h => m2 (hk4.sub _ d2 h), Nat.lt_of_lt_of_le hpw hk4.size, ⟨B, KpC.own how hk4 hAo⟩, fun g hg h => hAo g hg (hk4.sub _ (how.lt g hg).2 h)⟩
          case measure => simp [intOf]; omega
        · gi_wp2_with fail
          refine bodyPost_ret (results_none rfl _ _ _) rfl ?_
          exact ⟨⟨_, rfl⟩, .inr ⟨pre ++ [x], by rw [HS.out, HD.out, hsl.out]; exact ⟨_, by rw [List.append_assoc]; rfl⟩, hJx3⟩⟩
      have hhi : Op.bytesLess x.key.toList «to».toList = false := by simpa using hhi
      have hsl := Lib.hid (show (x :: cs.drop (k + 1)).filter (partP fr «to») = (cs.drop (k + 1)).filter (partP fr «to») by rw [List.filter_cons, if_neg (by simp [partP, hto, hhi])])
      gi_wp2_with fail
      refine ⟨fun _ h => (by cases h), ?_⟩
      gi_wp2_with fail
      go_roundw
      case rel =>
        exact ⟨k + 1, pre, by omega, by go_num, by rw [HS.out, HD.out, hsl.out], hJ1, r1.kp hka m1, r2.kp hka m2, fun h => m1 (hka.sub _ d1 h), fun h => m2 (hka.sub _ d2 h), Nat.lt_of_lt_of_le hpw hka.size, ⟨B, KpC.own how hka hAo⟩, fun g hg h => hAo g hg (hka.sub _ (how.lt g hg).2 h)⟩
      case measure => simp [intOf]; omega
    · obtain rfl : k = cs.length := by omega
      have HS := Lib.hid hsc
      clear hsc
      gi_wp2_with fail
      go_end0
      exact ⟨⟨_, rfl⟩, .inl ⟨pre, by rw [HS.out]; simp, hJr⟩⟩
end Go.Proofs.Ytbcaiegglbdonaa

/-
  A region that draws its order and only reads, within a round of a range over a function. Over any program.
-/
namespace Go.Proofs.Ytbcaiegglbdonaa
open Go Go.RowKit Go.BigFrame
section
variable {F : Fence} {n : Nat} {P : Program} {ops : Array Oper} {Q : Exit → Act → World → Prop}

theorem oper_round {l : Nat} {o : Oper} {a : Act} {w : World} {K : Act → World → Prop} (hd : ∀ c, o.op ≠ .defer c) (h : o.wpIn F n P a w K Q) : o.wpIn (F.inRound l) n P a w K Q := by
  unfold Oper.wpIn at h ⊢
  rw [Oper.semAt_plain F _ _ hd] at h
  rw [Oper.semAt_plain (F.inRound l) _ _ hd]
  refine ⟨h.1, ?_⟩
  exact h.2
def noDefer (ops : Array Oper) : Bool := ops.all fun o => match o.op with | .defer .. => false | _ => true
theorem noDefer_spec (h : noDefer ops = true) {j : Nat} {o : Oper} (ho : ops[j]? = some o) : ∀ c, o.op ≠ .defer c := by
  intro c heq
  obtain ⟨hj, rfl⟩ := Array.getElem?_eq_some_iff.1 ho
  have := (Array.all_eq_true.1 h) j hj
  rw [heq] at this
  cases this
theorem any_round {l : Nat} {md : Region.Mode} (hd : noDefer ops = true) : ∀ (fuel : Nat) (listed : Array Bool) (a : Act) (w : World), wpAnyIn F n P md ops Q fuel listed a w → wpAnyIn (F.inRound l) n P md ops Q fuel listed a w := by
  intro fuel
  induction fuel with
  | zero => exact fun _ _ _ h => h
  | succ fuel ih =>
    intro listed a w h
    refine ⟨h.1, fun i hi => ?_⟩
    have h2 := wpOpIn_mono (fun a w => ih (listed.setIfInBounds i true) a w) (h.2 i hi)
    unfold wpOpIn at h2 ⊢
    split
    · simpa [*] using h2
    · rename_i o ho
      simp only [ho] at h2
      split
      · rename_i hw; simp only [hw, if_true] at h2; exact oper_round (noDefer_spec hd ho) h2
      · rename_i hw; simp only [hw] at h2; exact h2
theorem region_quiet_round {l₀ : Nat} {id : Nat} {a : Act} {w : World} {l : List Oper} (hro : F.round = none) (hd : noDefer l.toArray = true) (hm : P.follows .mixedOrders = true) (hB : Region.lexB .any l.toArray = true)
    (h : wpQuietIn F n P l.toArray (fun w' => ∃ n, w' = w.drewN n) (fun a' => ∀ w', (∃ n, w' = w.drewN n) → Q .normal a' w') l a) : (Code.region id l.toArray true).wpIn (F.inRound l₀) n P Q a w := by
  simp only [Region.lexB, Bool.and_eq_true] at hB
  refine wpIn_region_any hm (any_round hd _ _ _ _ (wpAnyIn_of_quiet (C := fun w' => ∃ n, w' = w.drewN n) (Q := fun a' => ∀ w', (∃ n, w' = w.drewN n) → Q .normal a' w') hro (fun _ w' hw' h => h w' hw') _ _ _ _ ⟨1, rfl⟩ ?_))
  have := wpAnyQIn_lex (F := F) (n := n) (C := fun w' => ∃ n, w' = w.drewN n) (md := .any) hB.1 l 0 (Array.replicate l.toArray.size false) a (by simp) (by simpa using hB.2) h
  simpa using this
end
end Go.Proofs.Ytbcaiegglbdonaa

/-
  What Scan's iterator goes over, for whatever value Cells answers of; blocks that a loop over an iterator keeps.
-/
namespace Go.Proofs.Ytbcaiegglbdonaa
open Go.RowKit Go.Shelf

/-- Of the pointer p Cells tells cs, as long as the blocks of F lie as they lay. -/
structure Tab (p : Value) (F : Nat → Prop) (cs : List Cell) (W : World) : Prop where
  calls : ∀ W', Only (fun k => ¬ F k) W W' → Calls Try.prog 24 #[p] W' (CellsPost W' cs)
  len : cs.length ≤ 2932031007402
  ptr : ∃ q, p = .pointer q
theorem Tab.only {p : Value} {F : Nat → Prop} {cs : List Cell} {W W' : World} (h : Tab p F cs W) (ho : Only (fun k => ¬ F k) W W') : Tab p F cs W' := ⟨fun W2 h2 => h.calls W2 (ho.trans h2), h.len, h.ptr⟩
theorem Tab.kept {p : Value} {F : Nat → Prop} {cs : List Cell} {W W' : World} (h : Tab p F cs W) (hb : Below W.heap.size W W') : Tab p F cs W' := h.only (Only.of_below hb)
theorem MemIs.tab {w : World} {a : Nat} {F : Nat → Prop} {M : MM} (h : MemIs w a F M) (hl : M.length * 48 ≤ 140737488355328) : Tab (.pointer (some ⟨a, 0, none⟩)) F (M.map (·.1)) w :=
  ⟨fun _ ho => cells_model (h.only ho fun _ hk hn => hn hk) hl, by rw [List.length_map]; omega, ⟨_, rfl⟩⟩
theorem tab_stops (n : Nat) (hn : 1 ≤ n) {w : World} {X : Nat → Prop} {pb b0 b1 b2 : Nat} {p : Value} {F : Nat → Prop} {cs : List Cell} {fr «to» : ByteArray}
    (h0 : Blk w b0 #[p] 26) (h1 : Blk w b1 #[.string fr] 9) (h2 : Blk w b2 #[.string «to»] 9) (n1 : ¬ Sx X pb w b1) (n2 : ¬ Sx X pb w b2) (hS : ∀ b, Sx X pb w b → b < w.heap.size) (hpb : pb < w.heap.size) (hm : Tab p F cs w) :
    SeqStopsK Fence.wide n Try.prog 77 #[.pointer (some ⟨b0, 0, none⟩), .pointer (some ⟨b1, 0, none⟩), .pointer (some ⟨b2, 0, none⟩)] (fun x : Cell => #[.agg #[.string x.key, .int .u64 x.seq, .string x.val, .bool x.gone]]) (KpC X pb)
      (fun ys => ys = scanL fr «to» cs) (fun pre => pre <+: scanL fr «to» cs) (scanL fr «to» cs).length w := fun l J Jx W hW hJ _ hY hj0 => by
  have hk : KpC X pb w W := KpC.of_below hW hpb
  exact scan1_any n hn l X pb b0 b1 b2 p cs fr «to» J Jx W hJ hY (h0.kept hW) (h1.kept hW) (h2.kept hW) (fun h => n1 (hk.sub _ h1.lt h)) (fun h => n2 (hk.sub _ h2.lt h))
    (fun b hs => Nat.lt_of_lt_of_le (hS b (hs.imp id fun ⟨o, x, c, h⟩ => ⟨o, x, c, by rw [← hW.cell (p := ⟨pb, 0, none⟩) hpb]; exact h⟩)) hW.size) (Nat.lt_of_lt_of_le hpb hW.size) (hm.calls W (Only.of_below hW)) (by have := hm.len; omega) hm.ptr hj0

/-- Blocks known whole, the memory that was there, the marks of the loops before. -/
structure Keep (w0 : World) (Bs : List (Nat × Array Value × TypeId)) (Ds : List Nat) (W : World) : Prop where
  blk : ∀ x ∈ Bs, Blk W x.1 x.2.1 x.2.2
  below : Below w0.heap.size w0 W
  marks : ∀ D ∈ Ds, W.heap[D]? = some (.deferred (some []))
theorem keep_own {β : Type} {w0 : World} {B : Nat} (Bs : β → List (Nat × Array Value × TypeId)) {Ds : List Nat} (hB : w0.heap.size ≤ B) (hD : ∀ D ∈ Ds, D < B) : OwnFrom B (fun s W => Keep w0 (Bs s) Ds W) := by
  rintro s X Y row ⟨h1, h2, h3⟩ hg hrow
  refine ⟨fun x hx => (hg.block x.1 (h1 x hx).lt (fun e => ?_)).trans (h1 x hx), h2.grown hg h2.size (fun k e => Nat.le_trans hB (hrow k e).1), fun D hd => (hg.block D (Array.getElem?_eq_some_iff.1 (h3 D hd)).1 (fun e => ?_)).trans (h3 D hd)⟩
  · obtain ⟨_, o, ho, hc⟩ := hrow x.1 e.symm
    rw [show X.heap[x.1]? = _ from h1 x hx] at ho; cases ho; cases hc
  · have := (hrow D e.symm).1; have := hD D hd; omega
theorem Keep.kept {w0 W W' : World} {Bs : List (Nat × Array Value × TypeId)} {Ds : List Nat} (h : Keep w0 Bs Ds W) (hb : Below W.heap.size W W') : Keep w0 Bs Ds W' :=
  ⟨fun x hx => (h.blk x hx).kept hb, h.below.trans (hb.mono h.below.size), fun D hd => (hb.block D (Array.getElem?_eq_some_iff.1 (h.marks D hd)).1).trans (h.marks D hd)⟩
theorem Keep.less {w0 W : World} {Bs Bs' : List (Nat × Array Value × TypeId)} {Ds : List Nat} (h : Keep w0 Bs Ds W) (hs : ∀ x ∈ Bs', x ∈ Bs) : Keep w0 Bs' Ds W := ⟨fun x hx => h.blk x (hs x hx), h.below, h.marks⟩
theorem Keep.mark {w0 W : World} {Bs : List (Nat × Array Value × TypeId)} {Ds : List Nat} {D : Nat} (h : Keep w0 Bs Ds W) (hk : W.heap[D]? = some (.deferred (some []))) : Keep w0 Bs (D :: Ds) W :=
  ⟨h.blk, h.below, fun D' hD => by rcases List.mem_cons.1 hD with rfl | hD; exact hk; exact h.marks _ hD⟩
theorem Keep.add {w0 W : World} {Bs : List (Nat × Array Value × TypeId)} {Ds : List Nat} (h : Keep w0 Bs Ds W) {b : Nat} {arr : Array Value} {t : TypeId} (hb : Blk W b arr t) : Keep w0 ((b, arr, t) :: Bs) Ds W :=
  ⟨fun x hx => by rcases List.mem_cons.1 hx with rfl | hx; exact hb; exact h.blk x hx, h.below, h.marks⟩
/-- A store into a box that stands first. -/
theorem Keep.set {w0 W : World} {Bs : List (Nat × Array Value × TypeId)} {Ds : List Nat} {b : Nat} {v : Value} {t : TypeId} (h : Keep w0 ((b, #[v], t) :: Bs) Ds W) (hn : ∀ x ∈ Bs, x.1 ≠ b) (hb : w0.heap.size ≤ b) (v' : Value) :
    Keep w0 ((b, #[v'], t) :: Bs) Ds (W.setCell ⟨b, 0, none⟩ v') := by
  have hbB := h.blk _ (by simp : (b, #[v], t) ∈ _)
  refine ⟨fun x hx => ?_, h.below.setCell (p := ⟨b, 0, none⟩) hb v', fun D hd => (Below.heap_setCell _ _ _ _ (fun e => ?_)).trans (h.marks D hd)⟩
  · rcases List.mem_cons.1 hx with rfl | hx
    · exact hbB.setCell 0 v'
    · exact (h.blk x (by simp [hx])).setCell_ne (hn x hx) 0 v'
  · subst e
    have h1 := h.marks D hd
    rw [show W.heap[D]? = _ from hbB] at h1
    cases h1
theorem KpC.setInt {X : Nat → Prop} {W : World} {b : Nat} (hX : X b) (x : Int) (k : IntKind) {v : Value} {t : TypeId} (hb : Blk W b #[v] t) : KpC X b W (W.setCell ⟨b, 0, none⟩ (.int k x)) := by
  refine ⟨by simp, fun b' o hn h _ => (Below.heap_setCell _ _ _ _ (fun e => hn (.inl (by rw [show b' = b from e]; exact hX)))).trans h, fun b' _ hs => hs.imp id ?_⟩
  rintro ⟨o, n, c, h⟩
  rw [(hb.setCell 0 (.int k x)).cell 0 (.int k x) (by simp)] at h
  cases h
theorem keeps_drewN (W : World) (n : Nat) : KeepsOthers W (W.drewN n) := ⟨Nat.le_refl _, fun _ _ h _ => h⟩
/-- The two ways out of a loop over an iterator meet. -/
theorem wpIn_cutD {F : Fence} {n : Nat} {P : Program} {s : Code} {K : Act → World → Prop} {Q' : Exit → Act → World → Prop} {a : Act} {w : World} (R : Nat → World → Prop)
    (first : s.wpIn F n P (Exit.then (fun a' w' => ∃ D, a' = { a with defers := { target := .collected D, args := #[] } :: a.defers } ∧ R D w') Q') a w)
    (rest : ∀ D w', R D w' → K { a with defers := { target := .collected D, args := #[] } :: a.defers } w') : s.wpIn F n P (Exit.then K Q') a w := by
  refine wpIn_mono first ?_
  intro e a' w' hq
  cases e with
  | normal => obtain ⟨D, rfl, h⟩ := hq; exact rest D w' h
  | exit id => exact hq
  | goto l => exact hq
  | ret => exact hq
  | panic ch => exact hq
  | outgrown => exact hq

/-- A loop over the iterator whose two ways out meet. -/
theorem range_meet {n : Nat} (h1 : 1 ≤ n) {p q : Nat} {g : Operand} {assign body : Code} {Q : Exit → Act → World → Prop} {a : Act} {w : World} {lb : Array Value}
    (hg : a.eval g = .func (.func 77) #[] lb) {X : Nat → Prop} {pb : Nat} {Z : List Cell}
    (hseq : SeqStopsK Fence.wide (n - 1) Try.prog 77 lb (fun x : Cell => #[.agg #[.string x.key, .int .u64 x.seq, .string x.val, .bool x.gone]]) (KpC X pb) (fun ys => ys = Z) (fun pre => pre <+: Z) Z.length w) (hpb : pb < w.heap.size)
    (I : List Cell → World → Prop) (Ix : Code → List Cell → World → Prop) (hI : OwnFrom w.heap.size I) (hIx : ∀ c, OwnFrom w.heap.size (Ix c)) (h0 : I [] w)
    (hassign : ∀ (l : Nat) (x : Cell) (W : World) (K : Act → World → Prop), K ⟨(a.tmps.setIfInBounds p (.agg (cellA x))).setIfInBounds q (.pointer (some ⟨W.heap.size, 0, none⟩)), []⟩ (W.alloc (.cells (cellA x) 25)) →
      assign.wpIn (Fence.wide.inRound l) (n - 1 - 1) Try.prog (Exit.then K (fun _ _ _ => False)) ⟨a.tmps.setIfInBounds p (.agg (cellA x)), []⟩ W)
    (hbody : ∀ (l : Nat) (pre : List Cell) (x : Cell) (Bx : Nat) (W : World), I pre W → Blk W Bx (cellA x) 25 → w.heap.size ≤ Bx → pre.length < Z.length →
      body.wpIn (Fence.wide.inRound l) (n - 1 - 1) Try.prog (ownPostG w.heap.size (KpC X pb) I Ix (pre ++ [x]) W) ⟨(a.tmps.setIfInBounds p (.agg (cellA x))).setIfInBounds q (.pointer (some ⟨Bx, 0, none⟩)), []⟩ W)
    (R : Nat → World → Prop) (id : Nat)
    (hdone : ∀ (D : Nat) (W : World), w.heap.size ≤ D → I Z W → W.heap[D]? = some (.deferred (some [])) → R D W)
    (hstop : ∀ (D : Nat) (c : Code) (pre : List Cell) (W : World), w.heap.size ≤ D → pre <+: Z → Ix c pre W → W.heap[D]? = some (.deferred (some [])) → c = .exit id ∧ R D W)
    (hIs : ∀ pre W, I pre W → w.heap.size ≤ W.heap.size) (hx : ∀ a w, Q .normal a w → Q (.exit id) a w)
    (meet : ∀ D W, R D W → Q .normal { a with defers := { target := .collected D, args := #[] } :: a.defers } W) :
    (Code.rangeFunc g #[p] assign body).wpIn Fence.wide n Try.prog Q a w :=
  range_cells h1 hg hseq hpb I Ix hI hIx h0 hassign hbody (fun D W hD hi hk => meet D W (hdone D W hD hi hk)) (fun D c pre W hD hp hi hk => by
    obtain ⟨rfl, hr⟩ := hstop D c pre W hD hp hi hk
    exact wpIn_exit (hx _ _ (meet D W hr))) hIs

end Go.Proofs.Ytbcaiegglbdonaa

/-
  The block's iterator in a loop of the law.
-/
namespace Go.Proofs.Ytbcaiegglbdonaa
open Go.RowKit Go.Shelf

/-- Of the pointer p Cells tells cs, as long as the blocks of F lie as they lay. -/
structure BTab (p : Value) (F : Nat → Prop) (cs : List Cell) (W : World) : Prop where
  calls : ∀ W', Only (fun k => ¬ F k) W W' → Calls Try.prog 43 #[p] W' (CellsPost W' cs)
  len : cs.length ≤ 2932031007402
  ptr : ∃ q, p = .pointer q
theorem BTab.only {p : Value} {F : Nat → Prop} {cs : List Cell} {W W' : World} (h : BTab p F cs W) (ho : Only (fun k => ¬ F k) W W') : BTab p F cs W' := ⟨fun W2 h2 => h.calls W2 (ho.trans h2), h.len, h.ptr⟩
theorem BTab.kept {p : Value} {F : Nat → Prop} {cs : List Cell} {W W' : World} (h : BTab p F cs W) (hb : Below W.heap.size W W') : BTab p F cs W' := h.only (Only.of_below hb)
theorem btab_stops (n : Nat) (hn : 1 ≤ n) {w : World} {X : Nat → Prop} {pb b0 b1 b2 : Nat} {p : Value} {F : Nat → Prop} {cs : List Cell} {fr «to» : ByteArray}
    (h0 : Blk w b0 #[p] 68) (h1 : Blk w b1 #[.string fr] 9) (h2 : Blk w b2 #[.string «to»] 9) (n1 : ¬ Sx X pb w b1) (n2 : ¬ Sx X pb w b2) (hS : ∀ b, Sx X pb w b → b < w.heap.size) (hpb : pb < w.heap.size) (hm : BTab p F cs w) :
    SeqStopsK Fence.wide n Try.prog 106 #[.pointer (some ⟨b0, 0, none⟩), .pointer (some ⟨b1, 0, none⟩), .pointer (some ⟨b2, 0, none⟩)] (fun x : Cell => #[.agg #[.string x.key, .int .u64 x.seq, .string x.val, .bool x.gone]]) (KpC X pb)
      (fun ys => ys = cs.filter (partP fr «to»)) (fun pre => pre <+: cs.filter (partP fr «to»)) (cs.filter (partP fr «to»)).length w := fun l J Jx W hW hJ _ hY hj0 => by
  have hk : KpC X pb w W := KpC.of_below hW hpb
  exact bscan_any n hn l X pb b0 b1 b2 p cs fr «to» J Jx W hJ hY (h0.kept hW) (h1.kept hW) (h2.kept hW) (fun h => n1 (hk.sub _ h1.lt h)) (fun h => n2 (hk.sub _ h2.lt h))
    (fun b hs => Nat.lt_of_lt_of_le (hS b (hs.imp id fun ⟨o, x, c, h⟩ => ⟨o, x, c, by rw [← hW.cell (p := ⟨pb, 0, none⟩) hpb]; exact h⟩)) hW.size) (Nat.lt_of_lt_of_le hpb hW.size) (hm.calls W (Only.of_below hW)) (by have := hm.len; omega) hm.ptr hj0
theorem range_cells6 {n : Nat} (h1 : 1 ≤ n) {p q : Nat} {g : Operand} {assign body : Code} {Q : Exit → Act → World → Prop} {a : Act} {w : World} {lb : Array Value}
    (hg : a.eval g = .func (.func 106) #[] lb) {X : Nat → Prop} {pb : Nat} {Z : List Cell}
    (hseq : SeqStopsK Fence.wide (n - 1) Try.prog 106 lb (fun x : Cell => #[.agg #[.string x.key, .int .u64 x.seq, .string x.val, .bool x.gone]]) (KpC X pb) (fun ys => ys = Z) (fun pre => pre <+: Z) Z.length w) (hpb : pb < w.heap.size)
    (I : List Cell → World → Prop) (Ix : Code → List Cell → World → Prop) (hI : OwnFrom w.heap.size I) (hIx : ∀ c, OwnFrom w.heap.size (Ix c)) (h0 : I [] w)
    (hassign : ∀ (l : Nat) (x : Cell) (W : World) (K : Act → World → Prop), K ⟨(a.tmps.setIfInBounds p (.agg (cellA x))).setIfInBounds q (.pointer (some ⟨W.heap.size, 0, none⟩)), []⟩ (W.alloc (.cells (cellA x) 25)) →
      assign.wpIn (Fence.wide.inRound l) (n - 1 - 1) Try.prog (Exit.then K (fun _ _ _ => False)) ⟨a.tmps.setIfInBounds p (.agg (cellA x)), []⟩ W)
    (hbody : ∀ (l : Nat) (pre : List Cell) (x : Cell) (Bx : Nat) (W : World), I pre W → Blk W Bx (cellA x) 25 → w.heap.size ≤ Bx → pre.length < Z.length →
      body.wpIn (Fence.wide.inRound l) (n - 1 - 1) Try.prog (ownPostG w.heap.size (KpC X pb) I Ix (pre ++ [x]) W) ⟨(a.tmps.setIfInBounds p (.agg (cellA x))).setIfInBounds q (.pointer (some ⟨Bx, 0, none⟩)), []⟩ W)
    (hdone : ∀ (D : Nat) (W : World), w.heap.size ≤ D → I Z W → W.heap[D]? = some (.deferred (some [])) → Q .normal { a with defers := { target := .collected D, args := #[] } :: a.defers } W)
    (hstop : ∀ (D : Nat) (c : Code) (pre : List Cell) (W : World), w.heap.size ≤ D → pre <+: Z → Ix c pre W → W.heap[D]? = some (.deferred (some [])) → c.wpIn Fence.wide n Try.prog Q { a with defers := { target := .collected D, args := #[] } :: a.defers } W)
    (hIs : ∀ pre W, I pre W → w.heap.size ≤ W.heap.size) :
    (Code.rangeFunc g #[p] assign body).wpIn Fence.wide n Try.prog Q a w := by
  refine wpIn_rangeFunc_ownH rfl h1 (gf := 106) hg trivial (enters_of Try.func106 (by kernel_rfl) rfl) hseq (fun h k => h.trans k) (fun W l o o' => kpC_b hpb W l o o') (Below.refl _ _) (fun _ => rfl) I Ix hI hIx h0
    (fun x a' W => ∃ Bx, Blk W Bx (cellA x) 25 ∧ w.heap.size ≤ Bx ∧ a' = ⟨(a.tmps.setIfInBounds p (.agg (cellA x))).setIfInBounds q (.pointer (some ⟨Bx, 0, none⟩)), []⟩) ?_ ?_ ?_ (fun D xs W hD he hi hk => ?_) (fun D c pre W hD hp hx hk => hstop D c pre W hD hp hx hk)
  · rintro x a' s A B row ⟨Bx, hb, hB, rfl⟩ hgr hrow
    refine ⟨Bx, (hgr.block Bx hb.lt (fun e => ?_)).trans hb, hB, rfl⟩
    obtain ⟨_, o, ho, hc⟩ := hrow Bx e.symm
    rw [show A.heap[Bx]? = _ from hb] at ho; cases ho; cases hc
  · intro l pre x W K hi hK
    have he : ((#[p] : Array Tmp).zip #[Value.agg #[Value.string x.key, Value.int IntKind.u64 x.seq, Value.string x.val, Value.bool x.gone]]).foldl (fun t (p, v) => t.setIfInBounds p v) a.tmps = a.tmps.setIfInBounds p (.agg (cellA x)) := by simp [cellA]
    rw [he]
    refine hassign l x W K (hK _ _ ((KeepsOthers.alloc _ _).from _) ?_ (hI.alloc _ hi) ⟨W.heap.size, Blk.new _ _ _, hIs pre W hi, rfl⟩)
    exact KpC.of_below ((Below.refl _ _).alloc (Nat.le_refl _) _) (Nat.lt_of_lt_of_le hpb (hIs pre W hi))
  · rintro l pre x a' W _ _ hi ⟨Bx, hb, hB, rfl⟩ hlt
    exact hbody l pre x Bx W hi hb hB hlt
  · subst he
    exact hdone D W hD hi hk
theorem range_meet6 {n : Nat} (h1 : 1 ≤ n) {p q : Nat} {g : Operand} {assign body : Code} {Q : Exit → Act → World → Prop} {a : Act} {w : World} {lb : Array Value}
    (hg : a.eval g = .func (.func 106) #[] lb) {X : Nat → Prop} {pb : Nat} {Z : List Cell}
    (hseq : SeqStopsK Fence.wide (n - 1) Try.prog 106 lb (fun x : Cell => #[.agg #[.string x.key, .int .u64 x.seq, .string x.val, .bool x.gone]]) (KpC X pb) (fun ys => ys = Z) (fun pre => pre <+: Z) Z.length w) (hpb : pb < w.heap.size)
    (I : List Cell → World → Prop) (Ix : Code → List Cell → World → Prop) (hI : OwnFrom w.heap.size I) (hIx : ∀ c, OwnFrom w.heap.size (Ix c)) (h0 : I [] w)
    (hassign : ∀ (l : Nat) (x : Cell) (W : World) (K : Act → World → Prop), K ⟨(a.tmps.setIfInBounds p (.agg (cellA x))).setIfInBounds q (.pointer (some ⟨W.heap.size, 0, none⟩)), []⟩ (W.alloc (.cells (cellA x) 25)) →
      assign.wpIn (Fence.wide.inRound l) (n - 1 - 1) Try.prog (Exit.then K (fun _ _ _ => False)) ⟨a.tmps.setIfInBounds p (.agg (cellA x)), []⟩ W)
    (hbody : ∀ (l : Nat) (pre : List Cell) (x : Cell) (Bx : Nat) (W : World), I pre W → Blk W Bx (cellA x) 25 → w.heap.size ≤ Bx → pre.length < Z.length →
      body.wpIn (Fence.wide.inRound l) (n - 1 - 1) Try.prog (ownPostG w.heap.size (KpC X pb) I Ix (pre ++ [x]) W) ⟨(a.tmps.setIfInBounds p (.agg (cellA x))).setIfInBounds q (.pointer (some ⟨Bx, 0, none⟩)), []⟩ W)
    (R : Nat → World → Prop) (id : Nat)
    (hdone : ∀ (D : Nat) (W : World), w.heap.size ≤ D → I Z W → W.heap[D]? = some (.deferred (some [])) → R D W)
    (hstop : ∀ (D : Nat) (c : Code) (pre : List Cell) (W : World), w.heap.size ≤ D → pre <+: Z → Ix c pre W → W.heap[D]? = some (.deferred (some [])) → c = .exit id ∧ R D W)
    (hIs : ∀ pre W, I pre W → w.heap.size ≤ W.heap.size) (hx : ∀ a w, Q .normal a w → Q (.exit id) a w)
    (meet : ∀ D W, R D W → Q .normal { a with defers := { target := .collected D, args := #[] } :: a.defers } W) :
    (Code.rangeFunc g #[p] assign body).wpIn Fence.wide n Try.prog Q a w :=
  range_cells6 h1 hg hseq hpb I Ix hI hIx h0 hassign hbody (fun D W hD hi hk => meet D W (hdone D W hD hi hk)) (fun D c pre W hD hp hi hk => by
    obtain ⟨rfl, hr⟩ := hstop D c pre W hD hp hi hk
    exact wpIn_exit (hx _ _ (meet D W hr))) hIs
end Go.Proofs.Ytbcaiegglbdonaa

/-
  The places of a key in a filter: the program's places and what its iterator goes over.
-/
namespace Go.Proofs.Ytbcaiegglbdonaa
open Go Go.RowKit Go.Shelf
attribute [local go_sem] Oper.semAt_some
set_option linter.unusedSimpArgs false

/-! ### Plain -/
def hashN (key : ByteArray) : Nat := mixN ((crcN key.data.toList + key.size * 4294967296) % 18446744073709551616)
def stepN (key : ByteArray) : Nat := mixN (hashN key) ||| 1
def placeN (h d m i : Nat) : Nat := (h + i * d % 18446744073709551616) % 18446744073709551616 % m
def placesN (h d m k : Nat) : List Nat := (List.range k).map (placeN h d m)
theorem hashN_lt (key : ByteArray) : hashN key < 18446744073709551616 := mixN_lt
theorem stepN_lt (key : ByteArray) : stepN key < 18446744073709551616 := Nat.or_lt_two_pow (n := 64) mixN_lt (by decide)
theorem placeN_lt (h d i : Nat) {m : Nat} (hm : 0 < m) : placeN h d m i < m := Nat.mod_lt _ hm
theorem placesN_len (h d m k : Nat) : (placesN h d m k).length = k := by simp [placesN]
theorem placesN_get (h d m : Nat) {k i : Nat} (hi : i < k) : (placesN h d m k)[i]? = some (placeN h d m i) := by
  unfold placesN
  rw [List.getElem?_map, List.getElem?_range hi]
  rfl

def placesF (h d : Nat) {m : Nat} (hm : 0 < m) (k : Nat) : List (Fin m) := (List.range k).map fun i => ⟨placeN h d m i, placeN_lt h d i hm⟩
theorem placesF_len (h d : Nat) {m : Nat} (hm : 0 < m) (k : Nat) : (placesF h d hm k).length = k := by simp [placesF]
theorem placesF_get (h d : Nat) {m : Nat} (hm : 0 < m) {k i : Nat} (hi : i < k) : (placesF h d hm k)[i]? = some ⟨placeN h d m i, placeN_lt h d i hm⟩ := by
  unfold placesF
  rw [List.getElem?_map, List.getElem?_range hi]
  rfl
theorem placesF_val (h d : Nat) {m : Nat} (hm : 0 < m) (k : Nat) : (placesF h d hm k).map (·.val) = placesN h d m k := by simp [placesF, placesN, Function.comp_def]

/-! ### The places handed out -/
structure PlBox (s : Nat) (h d m k : Nat) (W : World) : Prop where
  m : Blk W s #[.int .u64 (m : Nat)] 23
  k : Blk W (s + 1) #[.int .i64 (k : Nat)] 3
  h : Blk W (s + 2) #[.int .u64 (h : Nat)] 23
  d : Blk W (s + 3) #[.int .u64 (d : Nat)] 23
def plFn (s : Nat) : Value := .func (.func 152) #[] #[.pointer (some ⟨s + 1, 0, none⟩), .pointer (some ⟨s + 2, 0, none⟩), .pointer (some ⟨s + 3, 0, none⟩), .pointer (some ⟨s, 0, none⟩)]
set_option maxRecDepth 100000 in
set_option maxHeartbeats 1000000 in
theorem places_spec (key : ByteArray) (hk : key.size ≤ 2147483648) (m k : Nat) (w : World) :
    Calls Try.prog 141 #[.string key, .int .u64 (m : Nat), .int .i64 (k : Nat)] w fun e w' => e = .returned (plFn w.heap.size) ∧ PlBox w.heap.size (hashN key) (stepN key) m k w' ∧ Below w.heap.size w w' := by
  have hc := crcN_lt key.data.toList
  have w1 : IntKind.u64.wrap ((crcN key.data.toList : Nat) : Int) = ((crcN key.data.toList : Nat) : Int) := by rw [IntKind.wrap_u64]; omega
  have w2 : IntKind.u64.wrap (key.size : Int) = (key.size : Int) := by rw [IntKind.wrap_u64]; omega
  have w3 : IntKind.u64.wrap ((key.size : Int) * 4294967296) = (key.size : Int) * 4294967296 := by rw [IntKind.wrap_u64]; omega
  have w4 : IntKind.u64.wrap (((crcN key.data.toList : Nat) : Int) + (key.size : Int) * 4294967296) = (((crcN key.data.toList + key.size * 4294967296) % 18446744073709551616 : Nat) : Int) := by rw [IntKind.wrap_u64]; omega
  have hor : bits .or .u64 ((mixN (hashN key) : Nat) : Int) 1 = ((stepN key : Nat) : Int) := u64_or_nat _ 1 mixN_lt (by decide)
  have HOR := Lib.hid hor
  clear hor
  go_enter Try.func141, Try.ntmps141
  go_wp2_with fail
  refine (crc_spec key _ (by omega)).mono ?_
  rintro e w1 ⟨rfl, rfl⟩
  go_wp2_with fail
  refine (sched_mix ((crcN key.data.toList + key.size * 4294967296) % 18446744073709551616) (Nat.mod_lt _ (by decide)) _).mono ?_
  rintro e w1 ⟨rfl, rfl⟩
  go_wp2_with fail
  refine (sched_mix (hashN key) (hashN_lt key) _).mono ?_
  rintro e w1 ⟨rfl, rfl⟩
  go_wp2_with fail
  go_ret
  refine ⟨rfl, ⟨(((Blk.new _ _ _).alloc _).alloc _).alloc _, ((Blk.new' _ _ _ (by simp)).alloc _).alloc _, (Blk.new' _ _ _ (by simp)).alloc _, ?_⟩, (((((Below.refl _ _).alloc (Nat.le_refl _) _).alloc (by simp) _).alloc (by simp; omega) _).alloc (by simp; omega) _)⟩
  rw [← HOR.out]
  exact Blk.new' _ _ _ (by simp)
/-! ### The iterator -/
/-- What a round keeps: the blocks below N but for g. -/
def KpB (N g : Nat) (W W' : World) : Prop := W.heap.size ≤ W'.heap.size ∧ ∀ b, b < N → b ≠ g → W'.heap[b]? = W.heap[b]?
theorem KpB.trans {N g : Nat} {A B C : World} (h : KpB N g A B) (k : KpB N g B C) : KpB N g A C := ⟨Nat.le_trans h.1 k.1, fun b hb hn => (k.2 b hb hn).trans (h.2 b hb hn)⟩
theorem KpB.of_below {N g : Nat} {W W' : World} (hb : Below W.heap.size W W') (hN : N ≤ W.heap.size) : KpB N g W W' := ⟨hb.size, fun b h _ => hb.block b (Nat.lt_of_lt_of_le h hN)⟩
theorem kpB_b {N g : Nat} {w : World} (hN : N ≤ w.heap.size) (W : World) (l : Nat) (o o' : Obj) (hl : w.heap.size ≤ l) (_ : W.heap[l]? = some o) (_ : o.isCells = false) (_ : o.isWalk = false) : KpB N g W (W.putObj l o') :=
  ⟨(grownBy_putObj' W l o').size, fun b hb _ => World.putObj_heap_other (by omega)⟩
theorem Blk.kpB {N g b : Nat} {W W' : World} {arr : Array Value} {t : TypeId} (h : Blk W b arr t) (hk : KpB N g W W') (hb : b < N) (hn : b ≠ g) : Blk W' b arr t := (hk.2 b hb hn).trans h
def PlRel {m : Nat} (J : List (Fin m) → World → Prop) (N : Nat) (s h d : Nat) (hm : 0 < m) (k : Nat) (i : Value) (wr : World) : Prop :=
  ∃ j : Nat, j ≤ k ∧ i = .int .i64 j ∧ J ((placesF h d hm k).take j) wr ∧ PlBox s h d m k wr ∧ N ≤ wr.heap.size
set_option maxRecDepth 100000 in
set_option maxHeartbeats 1000000 in
theorem places_any (n : Nat) (hn : 1 ≤ n) (l : Nat) (N g s h d m k : Nat) (hm : 0 < m) (J Jx : List (Fin m) → World → Prop) (W : World) (hm2 : m < 18446744073709551616) (hk : k ≤ 255)
    (hY : ∀ pre x W1, J pre W1 → pre.length < k → YieldAt Fence.wide (n - 1) Try.prog l #[.int .u64 (x.val : Nat)] W1 fun e W' =>
      (e = .returned (.bool true) ∧ J (pre ++ [x]) W' ∧ KpB N g W1 W') ∨ (e = .returned (.bool false) ∧ Jx (pre ++ [x]) W'))
    (hB : PlBox s h d m k W) (hN : s + 3 < N) (hNW : N ≤ W.heap.size) (hg : g < s ∨ s + 3 < g) (hj0 : J [] W) :
    CallsIn Fence.wide n Try.prog 152 #[.func (.yield l) #[] #[], .pointer (some ⟨s + 1, 0, none⟩), .pointer (some ⟨s + 2, 0, none⟩), .pointer (some ⟨s + 3, 0, none⟩), .pointer (some ⟨s, 0, none⟩)] W fun e W' => (∃ v, e = .returned v) ∧
      ((∃ ys, ys = placesF h d hm k ∧ J ys W') ∨ (∃ pre, pre <+: placesF h d hm k ∧ Jx pre W')) := by
  have c1 : W.cell? ⟨s + 1, 0, none⟩ = some (.int .i64 (k : Nat)) := hB.k.cell 0 _ rfl
  have l1 := hB.k.lt
  refine callsIn_of_wp Try.func152 rfl trivial ?_ rfl
  simp only [Try.ntmps152, List.size_toArray, List.length_cons, List.length_nil, Nat.reduceAdd, Nat.reduceSub, Array.replicate_succ, Array.replicate_zero, List.push_toArray, List.append_toArray, List.nil_append, List.cons_append]
  have hn1 : 1 ≤ n - 1 + 1 := by omega
  gi_wp2_with fail
  gi_loopw [8] (PlRel J N s h d hm k) (fun i _ => k - (intOf i).toNat)
  case atStart => exact ⟨0, Nat.zero_le _, rfl, hj0, hB, hNW⟩
  case round =>
    obtain ⟨j, hj, rfl, hJr, hBr, hNr⟩ := hrel
    by_cases hlt : j < k
    · have i1 : (j : Int) < (k : Int) := by omega
      have e2 : wr.cell? ⟨s + 2, 0, none⟩ = some (.int .u64 (h : Nat)) := hBr.h.cell 0 _ rfl
      have e3 : wr.cell? ⟨s + 3, 0, none⟩ = some (.int .u64 (d : Nat)) := hBr.d.cell 0 _ rfl
      have e0 : wr.cell? ⟨s, 0, none⟩ = some (.int .u64 (m : Nat)) := hBr.m.cell 0 _ rfl
      have d2 := hBr.h.lt
      have d3 := hBr.d.lt
      have d0 := hBr.m.lt
      have w1 : IntKind.u64.wrap (j : Int) = (j : Int) := by rw [IntKind.wrap_u64]; omega
      obtain ⟨X, hX⟩ : ∃ X, (h + j * d % 18446744073709551616) % 18446744073709551616 = X := ⟨_, rfl⟩
      obtain ⟨p, hp⟩ : ∃ p, placeN h d m j = p := ⟨_, rfl⟩
      have w2 : IntKind.u64.wrap ((j : Int) * (d : Int)) = (j : Int) * (d : Int) % 18446744073709551616 := by rw [IntKind.wrap_u64]
      have w3 : IntKind.u64.wrap ((h : Int) + (j : Int) * (d : Int) % 18446744073709551616) = (X : Int) := by
        rw [IntKind.wrap_u64, ← hX, ← Int.natCast_mul]
        have e1 : ((j * d : Nat) : Int) % 18446744073709551616 = ((j * d % 18446744073709551616 : Nat) : Int) := (Int.natCast_emod (j * d) 18446744073709551616).symm
        rw [e1, ← Int.natCast_add]
        exact (Int.natCast_emod _ 18446744073709551616).symm
      have hpm : p < m := by rw [← hp]; exact placeN_lt h d j hm
      have w4 : Int.tmod (X : Int) (m : Int) = (p : Int) := by rw [← hp, ← hX]; rfl
      have w5 : IntKind.u64.wrap (p : Int) = (p : Int) := by rw [IntKind.wrap_u64]; omega
      have hm0 : ¬ (m : Int) = 0 := by omega
      have hget := placesF_get h d hm hlt
      have hlen : ((placesF h d hm k).take j).length < k := by rw [List.length_take, placesF_len]; omega
      obtain ⟨fn, tmps, assign, body, hy, hR⟩ := hY _ ⟨p, hpm⟩ _ hJr hlen
      have hget' : (placesF h d hm k)[j]? = some ⟨p, hpm⟩ := by subst hp; exact hget
      rw [← take_snoc hget'] at hR
      have HG := Lib.hid hget'
      clear hget hget' hp hX
      gi_wp2_with fail
      refine hR.mono ?_
      rintro e W3 (⟨rfl, hJ3, hk3⟩ | ⟨rfl, hJx3⟩)
      · gi_wp2_with fail
        go_roundw
        case rel =>
          exact ⟨j + 1, by omega, by go_num, hJ3, ⟨hBr.m.kpB hk3 (by omega) (by omega), hBr.k.kpB hk3 (by omega) (by omega), hBr.h.kpB hk3 (by omega) (by omega), hBr.d.kpB hk3 (by omega) (by omega)⟩, Nat.le_trans hNr hk3.1⟩
        case measure => simp [intOf]; omega
      · gi_wp2_with fail
        refine bodyPost_ret (results_none rfl _ _ _) rfl ?_
        exact ⟨⟨_, rfl⟩, .inr ⟨_, List.take_prefix _ _, hJx3⟩⟩
    · obtain rfl : j = k := by omega
      rw [List.take_of_length_le (by rw [placesF_len]; exact Nat.le_refl _)] at hJr
      gi_wp2_with fail
      go_end0
      exact ⟨⟨_, rfl⟩, .inl ⟨_, rfl, hJr⟩⟩
theorem PlBox.kept {s h d m k : Nat} {W W' : World} (h1 : PlBox s h d m k W) (hb : Below W.heap.size W W') : PlBox s h d m k W' := ⟨h1.m.kept hb, h1.k.kept hb, h1.h.kept hb, h1.d.kept hb⟩
theorem places_stops (n : Nat) (hn : 1 ≤ n) {w : World} {N g s h d m k : Nat} (hm : 0 < m) (hm2 : m < 18446744073709551616) (hk : k ≤ 255) (hB : PlBox s h d m k w) (hN : s + 3 < N) (hNW : N ≤ w.heap.size) (hg : g < s ∨ s + 3 < g) :
    SeqStopsK Fence.wide n Try.prog 152 #[.pointer (some ⟨s + 1, 0, none⟩), .pointer (some ⟨s + 2, 0, none⟩), .pointer (some ⟨s + 3, 0, none⟩), .pointer (some ⟨s, 0, none⟩)] (fun x : Fin m => #[.int .u64 (x.val : Nat)]) (KpB N g)
      (fun ys => ys = placesF h d hm k) (fun pre => pre <+: placesF h d hm k) (placesF h d hm k).length w := fun l J Jx W hW _ _ hY hj0 => by
  rw [placesF_len] at hY
  exact places_any n hn l N g s h d m k hm J Jx W hm2 hk hY (hB.kept hW) hN (Nat.le_trans hNW hW.size) hg hj0
theorem range_places {m n : Nat} (h1 : 1 ≤ n) {p q : Nat} {g : Operand} {assign body : Code} {Q : Exit → Act → World → Prop} {a : Act} {w : World} {lb : Array Value}
    (hg : a.eval g = .func (.func 152) #[] lb) {N gb : Nat} {Z : List (Fin m)}
    (hseq : SeqStopsK Fence.wide (n - 1) Try.prog 152 lb (fun x : Fin m => #[.int .u64 (x.val : Nat)]) (KpB N gb) (fun ys => ys = Z) (fun pre => pre <+: Z) Z.length w) (hN : N ≤ w.heap.size)
    (I : List (Fin m) → World → Prop) (Ix : Code → List (Fin m) → World → Prop) (hI : OwnFrom w.heap.size I) (hIx : ∀ c, OwnFrom w.heap.size (Ix c)) (h0 : I [] w)
    (hassign : ∀ (l : Nat) (x : Fin m) (W : World) (K : Act → World → Prop), K ⟨(a.tmps.setIfInBounds p (.int .u64 (x.val : Nat))).setIfInBounds q (.int .u64 (x.val : Nat)), []⟩ W →
      assign.wpIn (Fence.wide.inRound l) (n - 1 - 1) Try.prog (Exit.then K (fun _ _ _ => False)) ⟨a.tmps.setIfInBounds p (.int .u64 (x.val : Nat)), []⟩ W)
    (hbody : ∀ (l : Nat) (pre : List (Fin m)) (x : Fin m) (W : World), I pre W → pre.length < Z.length →
      body.wpIn (Fence.wide.inRound l) (n - 1 - 1) Try.prog (ownPostG w.heap.size (KpB N gb) I Ix (pre ++ [x]) W) ⟨(a.tmps.setIfInBounds p (.int .u64 (x.val : Nat))).setIfInBounds q (.int .u64 (x.val : Nat)), []⟩ W)
    (hdone : ∀ (D : Nat) (W : World), w.heap.size ≤ D → I Z W → W.heap[D]? = some (.deferred (some [])) → Q .normal { a with defers := { target := .collected D, args := #[] } :: a.defers } W)
    (hstop : ∀ (D : Nat) (c : Code) (pre : List (Fin m)) (W : World), w.heap.size ≤ D → pre <+: Z → Ix c pre W → W.heap[D]? = some (.deferred (some [])) → c.wpIn Fence.wide n Try.prog Q { a with defers := { target := .collected D, args := #[] } :: a.defers } W) :
    (Code.rangeFunc g #[p] assign body).wpIn Fence.wide n Try.prog Q a w := by
  refine wpIn_rangeFunc_ownH rfl h1 (gf := 152) hg trivial (enters_of Try.func152 (by kernel_rfl) rfl) hseq (fun h k => h.trans k) (fun W l o o' => kpB_b hN W l o o') (Below.refl _ _) (fun _ => rfl) I Ix hI hIx h0
    (fun x a' _ => a' = ⟨(a.tmps.setIfInBounds p (.int .u64 (x.val : Nat))).setIfInBounds q (.int .u64 (x.val : Nat)), []⟩) ?_ ?_ ?_ (fun D xs W hD he hi hk => ?_) (fun D c pre W hD hp hx hk => hstop D c pre W hD hp hx hk)
  · rintro x a' s A B row h hgr hrow
    exact h
  · intro l pre x W K hi hK
    have he : ((#[p] : Array Tmp).zip #[Value.int .u64 (x.val : Nat)]).foldl (fun t (p, v) => t.setIfInBounds p v) a.tmps = a.tmps.setIfInBounds p (.int .u64 (x.val : Nat)) := by simp
    rw [he]
    exact hassign l x W K (hK _ _ (KeepsFrom.refl _ _) ⟨Nat.le_refl _, fun _ _ _ => rfl⟩ hi rfl)
  · rintro l pre x a' W _ _ hi rfl hlt
    exact hbody l pre x W hi hlt
  · subst he
    exact hdone D W hD hi hk
end Go.Proofs.Ytbcaiegglbdonaa

/-
  The law's Goes: an iterator goes over just these cells, twice.
-/
namespace Go.Proofs.Ytbcaiegglbdonaa
open Go.RowKit Go.Shelf
attribute [local go_sem] Oper.semAt_some
set_option linter.unusedSimpArgs false

set_option maxRecDepth 100000 in
theorem goes_result {tmps : Array Value} {b : Nat} {W : World} (hp : tmps.getD 6 undef = .pointer (some ⟨b, 0, none⟩)) (hc : Blk W b #[.bool true] 4) : (results Try.f35 tmps).run Try.prog W = .ok (.bool true) W := by
  have c0 : W.cell? ⟨b, 0, none⟩ = some (.bool true) := hc.cell 0 _ rfl
  have hr : Try.f35.results = #[.cell 6 4] := rfl
  have hp' : tmps[6]?.getD undef = .pointer (some ⟨b, 0, none⟩) := by simpa using hp
  simp only [results, hr]
  simp [hp', asAddr, loadVar, Sem.run_bind, Result.andThen]
  go_simp

set_option maxRecDepth 100000 in
set_option maxHeartbeats 4000000 in
theorem goes_spec {w : World} {p vw : Value} {F : Nat → Prop} {cs Z : List Cell} {b0 b1 b2 : Nat} {fr «to» : ByteArray} (stop : Int) (x0 : Blk w b0 #[p] 26) (x1 : Blk w b1 #[.string fr] 9) (x2 : Blk w b2 #[.string «to»] 9) (hT : Tab p F cs w)
    (hz : Z = scanL fr «to» cs) (hw : Reads w vw Z.length 4 (cellVals Z)) :
    Calls Try.prog 35 #[.func (.func 77) #[] #[.pointer (some ⟨b0, 0, none⟩), .pointer (some ⟨b1, 0, none⟩), .pointer (some ⟨b2, 0, none⟩)], vw, .int .i64 stop] w fun e w' => e = .returned (.bool true) ∧ Below w.heap.size w w' := by
  have fq := func_eql
  obtain ⟨A, cap, rfl⟩ := hw.form
  have HW := Lib.hid hw
  have hzl : Z.length ≤ 2932031007402 := by rw [hz]; exact Nat.le_trans (scanL_len _ _ _) hT.len
  have HZ := Lib.hid hz
  clear hw hz
  refine (callsIn_wide (n := 6)).1 ?_
  refine callsIn_of_wp_marks Try.func35 rfl trivial ?_ rfl
  simp only [Try.ntmps35, List.size_toArray, List.length_cons, List.length_nil, Nat.reduceAdd, Nat.reduceSub, Array.replicate_succ, Array.replicate_zero, List.push_toArray, List.append_toArray, List.nil_append, List.cons_append]
  gi_wp2_with fail
  obtain ⟨W0, hW0⟩ : ∃ W0, W0 = ((((w.alloc (.cells #[.slice A Z.length cap] 22)).alloc (.cells #[.int .i64 stop] 3)).alloc (.cells #[.bool false] 4)).alloc (.cells #[.int .i64 0] 3)) := ⟨_, rfl⟩
  have hk0 : Keep w [(w.heap.size + 1 + 1 + 1, #[.int .i64 0], 3), (w.heap.size, #[.slice A Z.length cap], 22), (w.heap.size + 1, #[.int .i64 stop], 3), (w.heap.size + 1 + 1, #[.bool false], 4)] [] W0 := by
    rw [hW0]
    refine ⟨fun x hx => ?_, (((((Below.refl _ _).alloc (Nat.le_refl _) _).alloc (by simp) _).alloc (by simp; omega) _).alloc (by simp; omega) _), fun D hD => by cases hD⟩
    simp only [List.mem_cons, List.not_mem_nil, or_false] at hx
    rcases hx with rfl | rfl | rfl | rfl
    · exact Blk.new' _ _ _ (by simp)
    · exact (((Blk.new _ _ _).alloc _).alloc _).alloc _
    · exact ((Blk.new' _ _ _ (by simp)).alloc _).alloc _
    · exact (Blk.new' _ _ _ (by simp)).alloc _
  rw [← hW0]
  clear hW0
  obtain ⟨b7, hb7⟩ : ∃ b7, b7 = w.heap.size + 1 + 1 + 1 := ⟨_, rfl⟩
  rw [← hb7] at hk0 ⊢
  have hge7 : w.heap.size + 2 < b7 := by omega
  clear hb7
  refine wpIn_loop_rounds 3 ?_
  rw [roundsIn_succ]
  have d7 := hk0.blk (b7, #[.int .i64 0], 3) (by simp)
  have c7 := d7.cell 0 _ rfl
  have l7 := d7.lt
  have hlt7 : w.heap.size + 2 < W0.heap.size := (hk0.blk (w.heap.size + 1 + 1, #[.bool false], 4) (by simp)).lt
  have hlt0 : ∀ x ∈ ([(b7, #[.int .i64 0], 3), (w.heap.size, #[.slice A Z.length cap], 22), (w.heap.size + 1, #[.int .i64 stop], 3), (w.heap.size + 1 + 1, #[.bool false], 4)] : List (Nat × Array Value × TypeId)), x.1 ≠ W0.heap.size := fun x hx e => by have := (hk0.blk x hx).lt; omega
  gi_wp2_with fail
  clear c7 l7 d7
  have hk1 : Keep w ((W0.heap.size, #[.int .i64 (([] : List Cell).length : Int)], 3) :: [(b7, #[.int .i64 0], 3), (w.heap.size, #[.slice A Z.length cap], 22), (w.heap.size + 1, #[.int .i64 stop], 3), (w.heap.size + 1 + 1, #[.bool false], 4)]) [] (W0.alloc (.cells #[.int .i64 0] 3)) := (hk0.kept ((Below.refl _ _).alloc (Nat.le_refl _) _)).add (Blk.new _ _ _)
  obtain ⟨b8, hb8⟩ : ∃ b8, b8 = W0.heap.size := ⟨_, rfl⟩
  obtain ⟨W1, hW1⟩ : ∃ W1, W1 = W0.alloc (.cells #[.int .i64 0] 3) := ⟨_, rfl⟩
  have hge8 : w.heap.size ≤ b8 := by rw [hb8]; exact hk0.below.size
  rw [← hb8] at hk1 hlt0
  rw [← hW1] at hk1
  rw [← hW1, ← hb8]
  have hgs : w.heap.size + 3 ≤ W1.heap.size := by have := hlt7; rw [hW1, World.size_alloc]; omega
  have hgw : W0.heap.size < W1.heap.size := by rw [hW1, World.size_alloc]; omega
  clear hb8 hW1 hk0 hlt7
  have e8 := hk1.blk (b8, #[.int .i64 (([] : List Cell).length : Int)], 3) (by simp)
  have nsx : ∀ b, Sx (fun k => k = b8) b8 W1 b → b = b8 := by
    rintro b (h | ⟨o, n, c, h⟩)
    · exact h
    · rw [e8.cell 0 _ rfl] at h; cases h
  have hseq := tab_stops 5 (by omega) (X := fun k => k = b8) (pb := b8) (x0.kept hk1.below) (x1.kept hk1.below) (x2.kept hk1.below) (fun h => by have := nsx _ h; have := x1.lt; omega) (fun h => by have := nsx _ h; have := x2.lt; omega) (fun b h => by rw [nsx b h]; exact e8.lt) e8.lt (hT.only (Only.of_below hk1.below))
  rw [← HZ.out] at hseq
  have hown : OwnFrom W1.heap.size (fun (pre : List Cell) W => Keep w ((b8, #[.int .i64 (pre.length : Int)], 3) :: [(b7, #[.int .i64 0], 3), (w.heap.size, #[.slice A Z.length cap], 22), (w.heap.size + 1, #[.int .i64 stop], 3), (w.heap.size + 1 + 1, #[.bool false], 4)]) [] W ∧ W1.heap.size ≤ W.heap.size) :=
    OwnFrom.and (keep_own (fun (pre : List Cell) => (b8, #[.int .i64 (pre.length : Int)], 3) :: [(b7, #[.int .i64 0], 3), (w.heap.size, #[.slice A Z.length cap], 22), (w.heap.size + 1, #[.int .i64 stop], 3), (w.heap.size + 1 + 1, #[.bool false], 4)]) hk1.below.size (fun D hD => (Array.getElem?_eq_some_iff.1 (hk1.marks D hD)).1)) (fun _ _ _ _ h hg _ => Nat.le_trans h hg.size)
  refine range_meet (p := 17) (q := 9) (by omega) rfl hseq e8.lt (fun pre W => Keep w ((b8, #[.int .i64 (pre.length : Int)], 3) :: [(b7, #[.int .i64 0], 3), (w.heap.size, #[.slice A Z.length cap], 22), (w.heap.size + 1, #[.int .i64 stop], 3), (w.heap.size + 1 + 1, #[.bool false], 4)]) [] W ∧ W1.heap.size ≤ W.heap.size)
    (fun c pre W => (c = .ret ∧ ¬ pre <+: Z) ∨ (c = .exit 2 ∧ (0 = 0) ∧ (pre.length : Int) = stop ∧ Keep w ((b8, #[.int .i64 (pre.length : Int)], 3) :: [(b7, #[.int .i64 0], 3), (w.heap.size, #[.slice A Z.length cap], 22), (w.heap.size + 1, #[.int .i64 stop], 3), (w.heap.size + 1 + 1, #[.bool false], 4)]) [] W ∧ W1.heap.size ≤ W.heap.size))
    hown (fun c s A B row hs hg hr => hs.imp id fun ⟨h1, h2, h3, h4⟩ => ⟨h1, h2, h3, hown s A B row h4 hg hr⟩) ⟨hk1, Nat.le_refl _⟩ ?assign ?body
    (fun Dn W => W1.heap.size ≤ Dn ∧ ∃ k : Nat, k ≤ Z.length ∧ (k = Z.length ∨ ((0 = 0) ∧ (k : Int) = stop)) ∧ Keep w ((b8, #[.int .i64 (k : Int)], 3) :: [(b7, #[.int .i64 0], 3), (w.heap.size, #[.slice A Z.length cap], 22), (w.heap.size + 1, #[.int .i64 stop], 3), (w.heap.size + 1 + 1, #[.bool false], 4)]) (Dn :: []) W) 2
    (fun D W hD hi hk => ⟨hD, Z.length, Nat.le_refl _, .inl rfl, hi.1.mark hk⟩)
    (fun D c pre W hD hp hi hk => by
      rcases hi with ⟨_, hn⟩ | ⟨rfl, h2, h3, h4, _⟩
      · exact absurd hp hn
      · exact ⟨rfl, hD, pre.length, hp.length_le, .inr ⟨h2, h3⟩, h4.mark hk⟩) (fun pre W h => h.2) (by intro a w h; simpa [Exit.inBlock] using h) ?meet
  case assign =>
    intro l x W K hK
    unfold cellA at hK ⊢
    simp only [List.setIfInBounds_toArray, List.set_cons_succ, List.set_cons_zero] at hK ⊢
    gi_wp2
    exact hK
  case body =>
    rintro l pre x Bx W ⟨hk, hsz⟩ hB _ hlt
    clear hseq hown e8 nsx hk1
    unfold cellA at hB ⊢
    simp only [List.setIfInBounds_toArray, List.set_cons_succ, List.set_cons_zero]
    obtain ⟨y0, y1, y2, y3⟩ := cell4 hB
    have hBl := hB.lt
    clear hB
    have g8 := hk.blk (b8, #[.int .i64 (pre.length : Int)], 3) (by simp)
    have g7 := hk.blk (b7, #[.int .i64 0], 3) (by simp)
    have gw := hk.blk (w.heap.size, #[.slice A Z.length cap], 22) (by simp)
    have gs := hk.blk (w.heap.size + 1, #[.int .i64 stop], 3) (by simp)
    have g6 := hk.blk (w.heap.size + 1 + 1, #[.bool false], 4) (by simp)
    have a1 := g8.cell 0 _ rfl
    have a2 := g8.lt
    have a3 := g8.frozen 0
    have a4 := g7.cell 0 _ rfl
    have a5 := g7.lt
    have a6 := gw.cell 0 _ rfl
    have a7 := gw.lt
    have a8 := gs.cell 0 _ rfl
    have a9 := gs.lt
    have a10 := g6.cell 0 _ rfl
    have a11 := g6.lt
    have a12 := g6.frozen 0
    have hn7 : b7 ≠ b8 := hlt0 (b7, #[.int .i64 0], 3) (by simp)
    have hns : w.heap.size + 1 ≠ b8 := hlt0 (w.heap.size + 1, #[.int .i64 stop], 3) (by simp)
    obtain ⟨z, hz⟩ : ∃ z, Z[pre.length]? = some z := ⟨_, List.getElem?_eq_getElem hlt⟩
    obtain ⟨b, o, hA, hbl, z0, z1, z2, z3⟩ := (HW.out.kept hk.below).cell_at hz
    subst hA
    have i0 : (0 : Int) ≤ (pre.length : Int) := by omega
    have i1 : (pre.length : Int) < (Z.length : Int) := by omega
    have i3 : ¬ (Z.length ≤ pre.length) := by omega
    have i4 : decide (Z.length ≤ pre.length) = false := by simp; omega
    have i2 : IntKind.i64.wrap ((pre.length : Int) + 1) = (pre.length : Int) + 1 := IntWalk.i64_in _ (by omega)
    have HZz := Lib.hid hz
    have hne := cell_neq x z
    clear hz g8 g7 gw gs g6
    by_cases hxz : x = z
    · have hb : decide (x = z) = true := by simp [hxz]
      rw [hb] at hne
      clear hb hxz
      gi_wp2_with fail
      have he : (((pre ++ [x]).length : Nat) : Int) = (pre.length : Int) + 1 := by simp
      have HE := Lib.hid he
      clear he
      by_cases hst : (pre.length : Int) + 1 = stop
      · have hsb : ((pre.length : Int) + 1 == stop) = true := by simpa using hst
        have HST := Lib.hid hst
        clear hst
        gi_wp2_with fail
        (refine region_quiet_round (F := Fence.wide) rfl (by kernel_rfl) (by kernel_rfl) (by kernel_rfl) ?_; (repeat (gi_big_quiet_step (fail))); refine wpQuietIn_nil ?_; intro _ hw'; obtain ⟨nq, hw''⟩ := hw'; subst hw'')
        have hkq := (hk.kept (below_drewN (Below.refl _ _) nq)).set (fun y hy => hlt0 y hy) hge8 (.int .i64 ((pre.length : Int) + 1))
        gi_wp2_with fail
        exact ⟨(((keeps_drewN W nq).trans (KeepsOthers.setCell _ _ _)).from _), .inr ⟨rfl, by simp, by rw [HE.out]; exact HST.out, by rw [HE.out]; exact hkq, by simpa using hsz⟩⟩
      · have hsb : ((pre.length : Int) + 1 == stop) = false := by simpa using hst
        clear hst
        gi_wp2_with fail
        (refine region_quiet_round (F := Fence.wide) rfl (by kernel_rfl) (by kernel_rfl) (by kernel_rfl) ?_; (repeat (gi_big_quiet_step (fail))); refine wpQuietIn_nil ?_; intro _ hw'; obtain ⟨nq, hw''⟩ := hw'; subst hw'')
        have hkq := (hk.kept (below_drewN (Below.refl _ _) nq)).set (fun y hy => hlt0 y hy) hge8 (.int .i64 ((pre.length : Int) + 1))
        have hkp : KpC (fun k => k = b8) b8 W ((W.drewN nq).setCell ⟨b8, 0, none⟩ (.int .i64 ((pre.length : Int) + 1))) :=
          (KpC.of_below (below_drewN (Below.refl _ _) nq) a2).trans (KpC.setInt (X := fun k => k = b8) (b := b8) rfl _ _ ((hk.blk (b8, #[.int .i64 (pre.length : Int)], 3) (by simp)).kept (below_drewN (Below.refl _ _) nq)))
        gi_wp2_with fail
        exact ⟨(((keeps_drewN W nq).trans (KeepsOthers.setCell _ _ _)).from _), hkp, by rw [HE.out]; exact hkq, by simpa using hsz⟩
    · have hb : decide (x = z) = false := by simp [hxz]
      rw [hb] at hne
      have hnp : ¬ (pre ++ [x]) <+: Z := by
        rintro ⟨t, ht⟩
        have h1 := HZz.out
        rw [← ht] at h1
        simp at h1
        exact hxz h1
      have HNP := Lib.hid hnp
      clear hb hxz hnp
      gi_wp2_with fail
      (refine region_quiet_round (F := Fence.wide) rfl (by kernel_rfl) (by kernel_rfl) (by kernel_rfl) ?_; (repeat (gi_big_quiet_step (fail))); refine wpQuietIn_nil ?_; intro _ hw'; obtain ⟨nq, hw''⟩ := hw'; subst hw'')
      gi_wp2_with fail
      exact ⟨(((keeps_drewN W nq).trans (KeepsOthers.setCell _ _ _)).from _), .inl ⟨rfl, HNP.out⟩⟩
  case meet =>
    rintro D W ⟨hD, k, hkZ, hor, hk⟩
    have hk1s := Nat.le_trans hgs hD
    clear hseq hown e8 nsx hk1
    have g8 := hk.blk (b8, #[.int .i64 (k : Int)], 3) (by simp)
    have g7 := hk.blk (b7, #[.int .i64 0], 3) (by simp)
    have gw := hk.blk (w.heap.size, #[.slice A Z.length cap], 22) (by simp)
    have gs := hk.blk (w.heap.size + 1, #[.int .i64 stop], 3) (by simp)
    have g6 := hk.blk (w.heap.size + 1 + 1, #[.bool false], 4) (by simp)
    have a1 := g8.cell 0 _ rfl
    have a2 := g8.lt
    have a4 := g7.cell 0 _ rfl
    have a5 := g7.lt
    have a6 := gw.cell 0 _ rfl
    have a7 := gw.lt
    have a8 := gs.cell 0 _ rfl
    have a9 := gs.lt
    have a10 := g6.cell 0 _ rfl
    have a11 := g6.lt
    clear g8 g7 gw gs g6
    gi_upto_region 13 with fail
    gi_cut [51] from 39 (fun v wx => wx = W ∧ v = .bool false)
    case first =>
      by_cases hkz : k = Z.length
      · subst hkz
        gi_wp2_with fail
        gi_meet
        exact ⟨rfl, rfl⟩
      · obtain ⟨_, hks⟩ := hor.resolve_left hkz
        have m1 : ((k : Int) != (Z.length : Int)) = true := by simp; omega
        have m2 : ((k : Int) != stop) = false := by simp [hks]
        clear hks hkz
        gi_wp2_with fail
        gi_meet
        exact ⟨rfl, rfl⟩
    case rest =>
      obtain ⟨rfl, rfl⟩ := hcut
      gi_wp2_with fail
      obtain ⟨b7', hb7⟩ : ∃ b7', b7' = wc.heap.size := ⟨_, rfl⟩
      have hk0 : Keep w [(b7', #[.int .i64 1], 3), (w.heap.size, #[.slice A Z.length cap], 22), (w.heap.size + 1, #[.int .i64 stop], 3), (w.heap.size + 1 + 1, #[.bool false], 4)] [D] (wc.alloc (.cells #[.int .i64 1] 3)) := ((hk.kept ((Below.refl _ _).alloc (Nat.le_refl _) _)).less (fun y hy => List.mem_cons_of_mem _ (List.mem_cons_of_mem _ hy))).add (by rw [hb7]; exact Blk.new _ _ _)
      obtain ⟨W2, hW2⟩ : ∃ W2, W2 = wc.alloc (.cells #[.int .i64 1] 3) := ⟨_, rfl⟩
      rw [← hW2] at hk0
      rw [← hW2, ← hb7]
      have hge9 : w.heap.size + 2 < D := by have := hk1s; omega
      have hlD : D < W2.heap.size := (Array.getElem?_eq_some_iff.1 (hk0.marks D (by simp))).1
      clear hb7 hW2 hk hor hkZ a1 a2 a4 a5 a6 a7 a8 a9 a10 a11 hlt0 hge8 hD hgw hgs hk1s
      rw [roundsIn_succ]
      have d7 := hk0.blk (b7', #[.int .i64 1], 3) (by simp)
      have c7 := d7.cell 0 _ rfl
      have l7 := d7.lt
      have hlt7 : w.heap.size + 2 < W2.heap.size := (hk0.blk (w.heap.size + 1 + 1, #[.bool false], 4) (by simp)).lt
      have hlt0 : ∀ x ∈ ([(b7', #[.int .i64 1], 3), (w.heap.size, #[.slice A Z.length cap], 22), (w.heap.size + 1, #[.int .i64 stop], 3), (w.heap.size + 1 + 1, #[.bool false], 4)] : List (Nat × Array Value × TypeId)), x.1 ≠ W2.heap.size := fun x hx e => by have := (hk0.blk x hx).lt; omega
      gi_wp2_with fail
      clear c7 l7 d7
      have hk1 : Keep w ((W2.heap.size, #[.int .i64 (([] : List Cell).length : Int)], 3) :: [(b7', #[.int .i64 1], 3), (w.heap.size, #[.slice A Z.length cap], 22), (w.heap.size + 1, #[.int .i64 stop], 3), (w.heap.size + 1 + 1, #[.bool false], 4)]) [D] (W2.alloc (.cells #[.int .i64 0] 3)) := (hk0.kept ((Below.refl _ _).alloc (Nat.le_refl _) _)).add (Blk.new _ _ _)
      obtain ⟨b8, hb8⟩ : ∃ b8, b8 = W2.heap.size := ⟨_, rfl⟩
      obtain ⟨W1, hW1⟩ : ∃ W1, W1 = W2.alloc (.cells #[.int .i64 0] 3) := ⟨_, rfl⟩
      have hge8 : w.heap.size ≤ b8 := by rw [hb8]; exact hk0.below.size
      rw [← hb8] at hk1 hlt0
      rw [← hW1] at hk1
      rw [← hW1, ← hb8]
      have hgs : w.heap.size + 3 ≤ W1.heap.size := by have := hlt7; rw [hW1, World.size_alloc]; omega
      have hgw : W2.heap.size < W1.heap.size := by rw [hW1, World.size_alloc]; omega
      clear hb8 hW1 hk0 hlt7
      have e8 := hk1.blk (b8, #[.int .i64 (([] : List Cell).length : Int)], 3) (by simp)
      have nsx : ∀ b, Sx (fun k => k = b8) b8 W1 b → b = b8 := by
        rintro b (h | ⟨o, n, c, h⟩)
        · exact h
        · rw [e8.cell 0 _ rfl] at h; cases h
      have hseq := tab_stops 5 (by omega) (X := fun k => k = b8) (pb := b8) (x0.kept hk1.below) (x1.kept hk1.below) (x2.kept hk1.below) (fun h => by have := nsx _ h; have := x1.lt; omega) (fun h => by have := nsx _ h; have := x2.lt; omega) (fun b h => by rw [nsx b h]; exact e8.lt) e8.lt (hT.only (Only.of_below hk1.below))
      rw [← HZ.out] at hseq
      have hown : OwnFrom W1.heap.size (fun (pre : List Cell) W => Keep w ((b8, #[.int .i64 (pre.length : Int)], 3) :: [(b7', #[.int .i64 1], 3), (w.heap.size, #[.slice A Z.length cap], 22), (w.heap.size + 1, #[.int .i64 stop], 3), (w.heap.size + 1 + 1, #[.bool false], 4)]) [D] W ∧ W1.heap.size ≤ W.heap.size) :=
        OwnFrom.and (keep_own (fun (pre : List Cell) => (b8, #[.int .i64 (pre.length : Int)], 3) :: [(b7', #[.int .i64 1], 3), (w.heap.size, #[.slice A Z.length cap], 22), (w.heap.size + 1, #[.int .i64 stop], 3), (w.heap.size + 1 + 1, #[.bool false], 4)]) hk1.below.size (fun D hD => (Array.getElem?_eq_some_iff.1 (hk1.marks D hD)).1)) (fun _ _ _ _ h hg _ => Nat.le_trans h hg.size)
      refine range_meet (p := 17) (q := 9) (by omega) rfl hseq e8.lt (fun pre W => Keep w ((b8, #[.int .i64 (pre.length : Int)], 3) :: [(b7', #[.int .i64 1], 3), (w.heap.size, #[.slice A Z.length cap], 22), (w.heap.size + 1, #[.int .i64 stop], 3), (w.heap.size + 1 + 1, #[.bool false], 4)]) [D] W ∧ W1.heap.size ≤ W.heap.size)
        (fun c pre W => (c = .ret ∧ ¬ pre <+: Z) ∨ (c = .exit 2 ∧ (1 = 0) ∧ (pre.length : Int) = stop ∧ Keep w ((b8, #[.int .i64 (pre.length : Int)], 3) :: [(b7', #[.int .i64 1], 3), (w.heap.size, #[.slice A Z.length cap], 22), (w.heap.size + 1, #[.int .i64 stop], 3), (w.heap.size + 1 + 1, #[.bool false], 4)]) [D] W ∧ W1.heap.size ≤ W.heap.size))
        hown (fun c s A B row hs hg hr => hs.imp id fun ⟨h1, h2, h3, h4⟩ => ⟨h1, h2, h3, hown s A B row h4 hg hr⟩) ⟨hk1, Nat.le_refl _⟩ ?assign ?body
        (fun Dn W => W1.heap.size ≤ Dn ∧ ∃ k : Nat, k ≤ Z.length ∧ (k = Z.length ∨ ((1 = 0) ∧ (k : Int) = stop)) ∧ Keep w ((b8, #[.int .i64 (k : Int)], 3) :: [(b7', #[.int .i64 1], 3), (w.heap.size, #[.slice A Z.length cap], 22), (w.heap.size + 1, #[.int .i64 stop], 3), (w.heap.size + 1 + 1, #[.bool false], 4)]) (Dn :: [D]) W) 2
        (fun D W hD hi hk => ⟨hD, Z.length, Nat.le_refl _, .inl rfl, hi.1.mark hk⟩)
        (fun D c pre W hD hp hi hk => by
          rcases hi with ⟨_, hn⟩ | ⟨rfl, h2, h3, h4, _⟩
          · exact absurd hp hn
          · exact ⟨rfl, hD, pre.length, hp.length_le, .inr ⟨h2, h3⟩, h4.mark hk⟩) (fun pre W h => h.2) (by intro a w h; simpa [Exit.inBlock] using h) ?meet
      case assign =>
        intro l x W K hK
        unfold cellA at hK ⊢
        simp only [List.setIfInBounds_toArray, List.set_cons_succ, List.set_cons_zero] at hK ⊢
        gi_wp2
        exact hK
      case body =>
        rintro l pre x Bx W ⟨hk, hsz⟩ hB _ hlt
        clear hseq hown e8 nsx hk1
        unfold cellA at hB ⊢
        simp only [List.setIfInBounds_toArray, List.set_cons_succ, List.set_cons_zero]
        obtain ⟨y0, y1, y2, y3⟩ := cell4 hB
        have hBl := hB.lt
        clear hB
        have g8 := hk.blk (b8, #[.int .i64 (pre.length : Int)], 3) (by simp)
        have g7 := hk.blk (b7', #[.int .i64 1], 3) (by simp)
        have gw := hk.blk (w.heap.size, #[.slice A Z.length cap], 22) (by simp)
        have gs := hk.blk (w.heap.size + 1, #[.int .i64 stop], 3) (by simp)
        have g6 := hk.blk (w.heap.size + 1 + 1, #[.bool false], 4) (by simp)
        have a1 := g8.cell 0 _ rfl
        have a2 := g8.lt
        have a3 := g8.frozen 0
        have a4 := g7.cell 0 _ rfl
        have a5 := g7.lt
        have a6 := gw.cell 0 _ rfl
        have a7 := gw.lt
        have a8 := gs.cell 0 _ rfl
        have a9 := gs.lt
        have a10 := g6.cell 0 _ rfl
        have a11 := g6.lt
        have a12 := g6.frozen 0
        have hn7 : b7' ≠ b8 := hlt0 (b7', #[.int .i64 1], 3) (by simp)
        have hns : w.heap.size + 1 ≠ b8 := hlt0 (w.heap.size + 1, #[.int .i64 stop], 3) (by simp)
        obtain ⟨z, hz⟩ : ∃ z, Z[pre.length]? = some z := ⟨_, List.getElem?_eq_getElem hlt⟩
        obtain ⟨b, o, hA, hbl, z0, z1, z2, z3⟩ := (HW.out.kept hk.below).cell_at hz
        subst hA
        have i0 : (0 : Int) ≤ (pre.length : Int) := by omega
        have i1 : (pre.length : Int) < (Z.length : Int) := by omega
        have i3 : ¬ (Z.length ≤ pre.length) := by omega
        have i4 : decide (Z.length ≤ pre.length) = false := by simp; omega
        have i2 : IntKind.i64.wrap ((pre.length : Int) + 1) = (pre.length : Int) + 1 := IntWalk.i64_in _ (by omega)
        have HZz := Lib.hid hz
        have hne := cell_neq x z
        clear hz g8 g7 gw gs g6
        by_cases hxz : x = z
        · have hb : decide (x = z) = true := by simp [hxz]
          rw [hb] at hne
          clear hb hxz
          gi_wp2_with fail
          have he : (((pre ++ [x]).length : Nat) : Int) = (pre.length : Int) + 1 := by simp
          have HE := Lib.hid he
          clear he
          gi_wp2_with fail
          (refine region_quiet_round (F := Fence.wide) rfl (by kernel_rfl) (by kernel_rfl) (by kernel_rfl) ?_; (repeat (gi_big_quiet_step (fail))); refine wpQuietIn_nil ?_; intro _ hw'; obtain ⟨nq, hw''⟩ := hw'; subst hw'')
          have hkq := (hk.kept (below_drewN (Below.refl _ _) nq)).set (fun y hy => hlt0 y hy) hge8 (.int .i64 ((pre.length : Int) + 1))
          have hkp : KpC (fun k => k = b8) b8 W ((W.drewN nq).setCell ⟨b8, 0, none⟩ (.int .i64 ((pre.length : Int) + 1))) :=
            (KpC.of_below (below_drewN (Below.refl _ _) nq) a2).trans (KpC.setInt (X := fun k => k = b8) (b := b8) rfl _ _ ((hk.blk (b8, #[.int .i64 (pre.length : Int)], 3) (by simp)).kept (below_drewN (Below.refl _ _) nq)))
          gi_wp2_with fail
          exact ⟨(((keeps_drewN W nq).trans (KeepsOthers.setCell _ _ _)).from _), hkp, by rw [HE.out]; exact hkq, by simpa using hsz⟩
        · have hb : decide (x = z) = false := by simp [hxz]
          rw [hb] at hne
          have hnp : ¬ (pre ++ [x]) <+: Z := by
            rintro ⟨t, ht⟩
            have h1 := HZz.out
            rw [← ht] at h1
            simp at h1
            exact hxz h1
          have HNP := Lib.hid hnp
          clear hb hxz hnp
          gi_wp2_with fail
          (refine region_quiet_round (F := Fence.wide) rfl (by kernel_rfl) (by kernel_rfl) (by kernel_rfl) ?_; (repeat (gi_big_quiet_step (fail))); refine wpQuietIn_nil ?_; intro _ hw'; obtain ⟨nq, hw''⟩ := hw'; subst hw'')
          gi_wp2_with fail
          exact ⟨(((keeps_drewN W nq).trans (KeepsOthers.setCell _ _ _)).from _), .inl ⟨rfl, HNP.out⟩⟩
      case meet =>
        rintro D2 W ⟨hD, k, hkZ, hor, hk⟩
        have hk1s := Nat.le_trans hgs hD
        clear hseq hown e8 nsx hk1
        have g8 := hk.blk (b8, #[.int .i64 (k : Int)], 3) (by simp)
        have g7 := hk.blk (b7', #[.int .i64 1], 3) (by simp)
        have gw := hk.blk (w.heap.size, #[.slice A Z.length cap], 22) (by simp)
        have gs := hk.blk (w.heap.size + 1, #[.int .i64 stop], 3) (by simp)
        have g6 := hk.blk (w.heap.size + 1 + 1, #[.bool false], 4) (by simp)
        have a1 := g8.cell 0 _ rfl
        have a2 := g8.lt
        have a4 := g7.cell 0 _ rfl
        have a5 := g7.lt
        have a6 := gw.cell 0 _ rfl
        have a7 := gw.lt
        have a8 := gs.cell 0 _ rfl
        have a9 := gs.lt
        have a10 := g6.cell 0 _ rfl
        have a11 := g6.lt
        clear g8 g7 gw gs g6
        gi_upto_region 13 with fail
        gi_cut [51] from 39 (fun v wx => wx = W ∧ v = .bool false)
        case first =>
          by_cases hkz : k = Z.length
          · subst hkz
            gi_wp2_with fail
            gi_meet
            exact ⟨rfl, rfl⟩
          · exact absurd (hor.resolve_left hkz).1 (by decide)
        case rest =>
          obtain ⟨rfl, rfl⟩ := hcut
          gi_wp2_with fail
          rw [roundsIn_succ]
          have g7 := (hk.kept ((Below.refl _ _).alloc (Nat.le_refl _) (.cells #[.int .i64 2] 3)))
          have g6 := g7.blk (w.heap.size + 1 + 1, #[.bool false], 4) (by simp)
          have f1 := g6.lt
          have f2 := g6.frozen 0
          have f3 := g6.cell 0 _ rfl
          have hkF := ((hk.less (Bs' := [(w.heap.size + 1 + 1, #[.bool false], 4)]) (by simp)).set (by simp) (by omega) (.bool true)).kept ((Below.refl _ _).alloc (Nat.le_refl _) (.cells #[.int .i64 2] 3))
          gi_wp2_with fail
          refine leaves_marks (B := w.heap.size + 3) [D2, D] _ ?_ ?_ ?_ (fun W' hb => ⟨_, goes_result (b := w.heap.size + 1 + 1) rfl ((hkF.blk (w.heap.size + 1 + 1, #[.bool true], 4) (by simp)).below hb (by omega)), rfl, hkF.below.trans (hb.mono (by omega))⟩)
          · simp; omega
          · intro d hd
            refine ⟨hkF.marks d hd, ?_⟩
            simp at hd
            rcases hd with rfl | rfl <;> omega
          · have := (hkF.blk (w.heap.size + 1 + 1, #[.bool true], 4) (by simp)).lt
            omega

end Go.Proofs.Ytbcaiegglbdonaa

/-
  A table that New did not give.
-/
namespace Go.Proofs.Ytbcaiegglbdonaa
open Go.RowKit Go.Shelf

/-- New did not give p. -/
structure NoMem (p : Value) (F : Nat → Prop) (W : World) : Prop where
  made : ∀ W', Only (fun k => ¬ F k) W W' → Calls Try.prog 73 #[p] W' fun e w' => e = .returned (.bool false) ∧ W' = w'
  ptr : ∃ q, p = .pointer q
theorem NoMem.kept {p : Value} {F : Nat → Prop} {W W' : World} (h : NoMem p F W) (hb : Below W.heap.size W W') : NoMem p F W' := ⟨fun W2 h2 => h.made W2 ((Only.of_below hb).trans h2), h.ptr⟩
theorem NoMem.now {p : Value} {F : Nat → Prop} {W : World} (h : NoMem p F W) : Calls Try.prog 73 #[p] W fun e w' => e = .returned (.bool false) ∧ W = w' := h.made W (Only.refl _ _)
theorem noMem_nil (W : World) : NoMem (.pointer none) (fun _ => False) W := ⟨fun W' _ => made_nil W', ⟨_, rfl⟩⟩
theorem noMem_zero {W : World} {b : Nat} {arr : Array Value} {t : TypeId} (h : Blk W b arr t) (h0 : arr[0]? = some (.pointer none)) : NoMem (.pointer (some ⟨b, 0, none⟩)) (fun k => k = b) W :=
  ⟨fun W' ho => made_zero ((h.only ho (by simp)).cell 0 _ h0), ⟨_, rfl⟩⟩
section
variable {w : World} {p : Value} {F : Nat → Prop}
set_option maxRecDepth 100000 in
theorem no_len (h : NoMem p F w) : Calls Try.prog 30 #[p] w fun e w' => e = .returned (.int .i64 0) ∧ w = w' := by
  obtain ⟨q, rfl⟩ := h.ptr
  have hn := h.now
  go_enter Try.func30, Try.ntmps30
  go_wp2_with fail
  refine hn.mono ?_
  rintro e w' ⟨rfl, rfl⟩
  go_wp2_with fail
  go_ret
  exact ⟨rfl, rfl⟩
set_option maxRecDepth 100000 in
theorem no_size (h : NoMem p F w) : Calls Try.prog 29 #[p] w fun e w' => e = .returned (.int .i64 0) ∧ w = w' := by
  obtain ⟨q, rfl⟩ := h.ptr
  have hn := h.now
  go_enter Try.func29, Try.ntmps29
  go_wp2_with fail
  refine hn.mono ?_
  rintro e w' ⟨rfl, rfl⟩
  go_wp2_with fail
  go_ret
  exact ⟨rfl, rfl⟩
set_option maxRecDepth 100000 in
theorem no_levels (h : NoMem p F w) : Calls Try.prog 28 #[p] w fun e w' => e = .returned (.slice none 0 0) ∧ w = w' := by
  obtain ⟨q, rfl⟩ := h.ptr
  have hn := h.now
  go_enter Try.func28, Try.ntmps28
  go_wp2_with fail
  refine hn.mono ?_
  rintro e w' ⟨rfl, rfl⟩
  go_wp2_with fail
  go_ret
  exact ⟨rfl, rfl⟩
set_option maxRecDepth 100000 in
theorem no_cells (h : NoMem p F w) : Calls Try.prog 24 #[p] w fun e w' => e = .returned (.slice none 0 0) ∧ w = w' := by
  obtain ⟨q, rfl⟩ := h.ptr
  have hn := h.now
  go_enter Try.func24, Try.ntmps24
  go_wp2_with fail
  refine hn.mono ?_
  rintro e w' ⟨rfl, rfl⟩
  go_wp2_with fail
  go_ret
  exact ⟨rfl, rfl⟩
set_option maxRecDepth 100000 in
theorem no_fork (h : NoMem p F w) : Calls Try.prog 31 #[p] w fun e w' => e = .returned (.pointer none) ∧ w = w' := by
  obtain ⟨q, rfl⟩ := h.ptr
  have hn := h.now
  go_enter Try.func31, Try.ntmps31
  go_wp2_with fail
  refine hn.mono ?_
  rintro e w' ⟨rfl, rfl⟩
  go_wp2_with fail
  go_ret
  exact ⟨rfl, rfl⟩
set_option maxRecDepth 100000 in
theorem no_put (h : NoMem p F w) (c : Cell) (n : Int) : Calls Try.prog 22 #[p, .agg #[.string c.key, .int .u64 c.seq, .string c.val, .bool c.gone], .int .i64 n] w fun e w' => e = .returned (.int .i64 6) ∧ Below w.heap.size w w' := by
  obtain ⟨q, rfl⟩ := h.ptr
  have hn := (h.kept ((Below.refl _ _).alloc (Nat.le_refl _) (.cells #[.string c.key, .int .u64 c.seq, .string c.val, .bool c.gone] 25))).now
  go_enter Try.func22, Try.ntmps22
  go_wp2_with fail
  refine hn.mono ?_
  rintro e w' ⟨rfl, rfl⟩
  go_wp2_with fail
  go_ret
  exact ⟨rfl, (Below.refl _ _).alloc (Nat.le_refl _) _⟩
theorem no_tab (h : NoMem p F w) : Tab p F [] w := ⟨fun W' ho => (no_cells ⟨fun W2 h2 => h.made W2 (ho.trans h2), h.ptr⟩).mono fun e w' ⟨he, hw⟩ => ⟨_, he, by subst hw; exact World.ownsRow_nil _ _ _ _, by subst hw; exact Below.refl _ _⟩, by simp, h.ptr⟩
end

end Go.Proofs.Ytbcaiegglbdonaa

/-
  MemNobody: the walk.
-/
namespace Go.Proofs.Ytbcaiegglbdonaa
open Go.RowKit Go.Shelf

set_option maxRecDepth 100000 in
theorem no_get {w : World} {p : Value} {F : Nat → Prop} (h : NoMem p F w) (key : ByteArray) (seq : Int) :
    Calls Try.prog 23 #[p, .string key, .int .u64 seq] w fun e w' => e = .returned (.tuple #[.agg #[.string ⟨#[]⟩, .int .u64 0, .string ⟨#[]⟩, .bool false], .bool false]) ∧ Below w.heap.size w w' := by
  obtain ⟨q, rfl⟩ := h.ptr
  have hn := (h.kept ((Below.refl _ _).alloc (Nat.le_refl _) (.cells #[.string ⟨#[]⟩, .int .u64 0, .string ⟨#[]⟩, .bool false] 25))).now
  have hb := Blk.new w #[.string ⟨#[]⟩, .int .u64 0, .string ⟨#[]⟩, .bool false] 25
  obtain ⟨x0, x1, x2, x3⟩ := cell4 hb
  go_enter Try.func23, Try.ntmps23
  go_wp2_with fail
  refine hn.mono ?_
  rintro e w' ⟨rfl, rfl⟩
  go_wp2_with fail
  refine bodyPost_ret (v := .tuple #[.agg #[.string ⟨#[]⟩, .int .u64 0, .string ⟨#[]⟩, .bool false], .bool false]) ?_ rfl ⟨rfl, ?_⟩
  · simp [results, Try.results23, go_sem]
  · exact (Below.refl _ _).alloc (Nat.le_refl _) _

def NobRel (w : World) (i : Value) (wr : World) : Prop := ∃ k : Nat, k ≤ 2 ∧ i = .int .i64 k ∧ Below w.heap.size w wr
theorem zero_neq (W : World) : (binOp .neq 25 (.agg #[.string ⟨#[]⟩, .int .u64 0, .string ⟨#[]⟩, .bool false]) (.agg #[.string ⟨#[]⟩, .int .u64 0, .string ⟨#[]⟩, .bool false])).run Try.prog W = .ok (.bool false) W := by
  have h := cell_neq ⟨⟨#[]⟩, 0, ⟨#[]⟩, false⟩ ⟨⟨#[]⟩, 0, ⟨#[]⟩, false⟩ W
  rw [decide_eq_true rfl] at h
  exact h
def nobZ : Array Value := #[.pointer none, .int .i64 0, .int .i64 0, .int .i64 0, .int .i64 0, .int .i64 0, .int .i64 0, .int .i64 0, .int .i64 0, .int .i64 0, .int .i64 0, .int .i64 0, .int .i64 0, .int .i64 0]
def opArr (kind : Int) (c : Cell) («to» : ByteArray) (n : Int) : Array Value := #[.int .i64 kind, .string c.key, .int .u64 c.seq, .string c.val, .bool c.gone, .string «to», .int .i64 n]
theorem cell7 {w : World} {b : Nat} {v0 v1 v2 v3 v4 v5 v6 : Value} {t : TypeId} (h : Blk w b #[v0, v1, v2, v3, v4, v5, v6] t) :
    w.cell? ⟨b, 0, none⟩ = some v0 ∧ w.cell? ⟨b, 1, none⟩ = some v1 ∧ w.cell? ⟨b, 2, none⟩ = some v2 ∧ w.cell? ⟨b, 3, none⟩ = some v3 ∧ w.cell? ⟨b, 4, none⟩ = some v4 ∧ w.cell? ⟨b, 5, none⟩ = some v5 ∧ w.cell? ⟨b, 6, none⟩ = some v6 :=
  ⟨h.cell 0 _ rfl, h.cell 1 _ rfl, h.cell 2 _ rfl, h.cell 3 _ rfl, h.cell 4 _ rfl, h.cell 5 _ rfl, h.cell 6 _ rfl⟩
set_option maxRecDepth 100000 in
set_option maxHeartbeats 2000000 in
theorem nobody_walk {w : World} (kind : Int) (c : Cell) («to» : ByteArray) (n : Int) :
    Calls Try.prog 8 #[.agg #[.int .i64 kind, .string c.key, .int .u64 c.seq, .string c.val, .bool c.gone, .string «to», .int .i64 n]] w fun e w' => e = .returned (.bool true) ∧ Below w.heap.size w w' := by
  have fz := zero_neq
  go_enter Try.func8, Try.ntmps8
  go_wp2_with fail
  refine (awake_spec _).mono ?_
  rintro e w1 ⟨rfl, hb1⟩
  have ho1 := (Blk.new w (opArr kind c «to» n) 51).kept hb1
  have hB1 : Below w.heap.size w w1 := ((Below.refl _ _).alloc (Nat.le_refl _) _).trans (hb1.mono (by simp))
  clear hb1
  go_wp2_with fail
  have ho2 := (ho1.alloc (.cells nobZ 60)).alloc (.cells #[.pointer none, .pointer (some ⟨w1.heap.size, 0, none⟩)] 26)
  have hz2 := (Blk.new w1 nobZ 60).alloc (.cells #[.pointer none, .pointer (some ⟨w1.heap.size, 0, none⟩)] 26)
  have ha2 := Blk.new' (w1.alloc (.cells nobZ 60)) #[.pointer none, .pointer (some ⟨w1.heap.size, 0, none⟩)] 26 (n := w1.heap.size + 1) (by simp)
  have hB2 := (hB1.alloc hB1.size (.cells nobZ 60)).alloc (by have := hB1.size; simp; omega) (.cells #[.pointer none, .pointer (some ⟨w1.heap.size, 0, none⟩)] 26)
  obtain ⟨W2, hW2⟩ : ∃ W2, W2 = (w1.alloc (.cells nobZ 60)).alloc (.cells #[.pointer none, .pointer (some ⟨w1.heap.size, 0, none⟩)] 26) := ⟨_, rfl⟩
  rw [← hW2] at ho2 hz2 ha2 hB2
  unfold nobZ at hW2
  rw [← hW2]
  clear hW2
  go_loopw [13] (NobRel W2) (fun i _ => 2 - (intOf i).toNat)
  case atStart => exact ⟨0, by omega, rfl, Below.refl _ _⟩
  case round =>
    obtain ⟨k, hk, rfl, hb⟩ := hrel
    by_cases hlt : k < 2
    · have hp : ∃ q F, wr.cell? ⟨w1.heap.size + 1, k, none⟩ = some (.pointer q) ∧ NoMem (.pointer q) F wr := by
        rcases (by omega : k = 0 ∨ k = 1) with rfl | rfl
        · exact ⟨_, _, (ha2.kept hb).cell 0 _ rfl, noMem_nil _⟩
        · exact ⟨_, _, (ha2.kept hb).cell 1 _ rfl, noMem_zero (hz2.kept hb) rfl⟩
      obtain ⟨q, F, hq, hN⟩ := hp
      have hal := (ha2.kept hb).lt
      have hor := ho2.kept hb
      obtain ⟨o0, o1, o2, o3, o4, o5, o6⟩ := cell7 hor
      have hol := hor.lt
      have i0 : (0 : Int) ≤ (k : Int) := by omega
      have i1 : (k : Int) < 2 := by omega
      go_wp2_with fail
      refine (no_get hN c.key c.seq).mono ?_
      rintro e w4 ⟨rfl, hb4⟩
      have hor4 := (hor.kept hb4).alloc (.cells #[.string ⟨#[]⟩, .int .u64 0, .string ⟨#[]⟩, .bool false] 25)
      have hN4 := (hN.kept hb4).kept ((Below.refl _ _).alloc (Nat.le_refl _) (.cells #[.string ⟨#[]⟩, .int .u64 0, .string ⟨#[]⟩, .bool false] 25))
      obtain ⟨s0, s1, s2, s3, s4, s5, s6⟩ := cell7 (hor.kept hb4)
      have sl := (hor.kept hb4).lt
      clear o0 o1 o2 o3 o4 o5 o6 hq hol hal
      go_wp2_with fail
      refine (no_put hN4 c n).mono ?_
      rintro e w5 ⟨rfl, hb5⟩
      obtain ⟨y0, y1, y2, y3⟩ := cell4 ((Blk.new w4 #[.string ⟨#[]⟩, .int .u64 0, .string ⟨#[]⟩, .bool false] 25).kept hb5)
      have yl := ((Blk.new w4 #[.string ⟨#[]⟩, .int .u64 0, .string ⟨#[]⟩, .bool false] 25).kept hb5).lt
      have hN5 := hN4.kept hb5
      have hB5 : Below wr.heap.size wr w5 := (hb4.alloc hb4.size _).trans (hb5.mono (by have := hb4.size; simp; omega))
      clear s0 s1 s2 s3 s4 s5 s6 sl hN4 hor4 hb4 hb5 hN
      go_wp2_with fail
      refine (no_cells hN5).mono ?_
      rintro e w' ⟨rfl, rfl⟩
      go_wp2_with fail
      refine (no_len hN5).mono ?_
      rintro e w' ⟨rfl, rfl⟩
      go_wp2_with fail
      refine (no_size hN5).mono ?_
      rintro e w' ⟨rfl, rfl⟩
      go_wp2_with fail
      refine (no_levels hN5).mono ?_
      rintro e w' ⟨rfl, rfl⟩
      go_wp2_with fail
      refine (no_fork hN5).mono ?_
      rintro e w' ⟨rfl, rfl⟩
      go_wp2_with fail
      refine (scan_some _ _ _ _ ⟨_, rfl⟩).mono ?_
      rintro e w6 ⟨rfl, x0, x1, x2, hb6⟩
      have hT := no_tab (hN5.kept hb6)
      clear y0 y1 y2 y3 yl
      go_wp2_with fail
      refine (goes_spec (Z := []) 1 x0 x1 x2 hT rfl ⟨rfl, by simp, none, 0, rfl, .inl rfl⟩).mono ?_
      rintro e w7 ⟨rfl, hb7⟩
      have hB7 : Below W2.heap.size W2 w7 := hb.trans ((hB5.trans ((hb6.mono hB5.size).trans (hb7.mono (by have := hB5.size; have := hb6.size; omega)))).mono hb.size)
      go_wp2_with fail
      go_roundw
      case rel => exact ⟨k + 1, by omega, by go_num, hB7⟩
      case measure => simp [intOf]; omega
    · obtain rfl : k = 2 := by omega
      go_wp2_with fail
      go_ret
      exact ⟨rfl, hB2.trans (hb.mono hB2.size)⟩

end Go.Proofs.Ytbcaiegglbdonaa

/-
  A law's own table in memory.
-/
namespace Go.Proofs.Ytbcaiegglbdonaa
open Go.RowKit

/-- A table of the call's own, and what else is the call's own and stays. -/
structure Own (w0 : World) (a : Nat) (M : MM) (G : Nat → Prop) (w : World) : Prop where
  mem : ∃ F, MemIs w a F M ∧ (∀ k, F k → w0.heap.size ≤ k) ∧ ∀ k, G k → ¬ F k ∧ k < w.heap.size
  below : Below w0.heap.size w0 w
theorem Own.only {w0 w w' : World} {a : Nat} {M : MM} {G : Nat → Prop} (h : Own w0 a M G w) (hb : Below w.heap.size w w') : Own w0 a M G w' := by
  obtain ⟨F, h1, h2, h3⟩ := h.mem
  exact ⟨⟨F, h1.kept hb, h2, fun k hk => ⟨(h3 k hk).1, Nat.lt_of_lt_of_le (h3 k hk).2 hb.size⟩⟩, h.below.trans (hb.mono h.below.size)⟩
theorem Own.alloc {w0 w : World} {a : Nat} {M : MM} {G : Nat → Prop} (h : Own w0 a M G w) (o : Obj) : Own w0 a M G (w.alloc o) := h.only ((Below.refl _ _).alloc (Nat.le_refl _) o)
/-- One block more that stays. -/
theorem Own.more {w0 w : World} {a : Nat} {M : MM} {G : Nat → Prop} (h : Own w0 a M G w) (o : Obj) {b : Nat} (hb : b = w.heap.size) : Own w0 a M (fun k => G k ∨ k = b) (w.alloc o) := by
  subst hb
  obtain ⟨F, h1, h2, h3⟩ := (h.alloc o).mem
  obtain ⟨F0, g1, g2, g3⟩ := h.mem
  refine ⟨⟨F0, g1.kept ((Below.refl _ _).alloc (Nat.le_refl _) o), g2, ?_⟩, (h.alloc o).below⟩
  rintro k (hk | rfl)
  · exact ⟨(g3 k hk).1, by have := (g3 k hk).2; simp; omega⟩
  · exact ⟨fun hF => by have := g1.lt _ hF; omega, by simp⟩
theorem Own.put {w0 w : World} {a : Nat} {M : MM} {G : Nat → Prop} (h : Own w0 a M G w) (c : Cell) (hgt : Int) (hl : M.length ≤ 1099511627776000) :
    Calls Try.prog 22 #[.pointer (some ⟨a, 0, none⟩), .agg #[.string c.key, .int .u64 c.seq, .string c.val, .bool c.gone], .int .i64 hgt] w fun e w' => e = .returned (.int .i64 (putRes M c hgt).1) ∧ Own w0 a (putRes M c hgt).2 G w' ∧ ∀ b arr t, G b → Blk w b arr t → Blk w' b arr t := by
  obtain ⟨F, h1, h2, h3⟩ := h.mem
  refine (put_model h1 c hgt hl).mono ?_
  rintro e w' ⟨F', he, hm, hF', ho⟩
  refine ⟨he, ⟨⟨F', hm, fun k hk => (hF' k hk).elim (h2 k) (fun hk => Nat.le_trans h.below.size hk), fun k hk => ⟨fun hFk => ?_, Nat.lt_of_lt_of_le (h3 k hk).2 ho.size⟩⟩, h.below.trans (ho.below h.below.size h2)⟩, fun b arr t hb hB => hB.only ho (h3 b hb).1⟩
  rcases hF' k hFk with h | h
  · exact (h3 k hk).1 h
  · have := (h3 k hk).2; omega
theorem Own.get {w0 w : World} {a : Nat} {M : MM} {G : Nat → Prop} (h : Own w0 a M G w) (key : ByteArray) (seq : Int) :
    Calls Try.prog 23 #[.pointer (some ⟨a, 0, none⟩), .string key, .int .u64 seq] w fun e w' => e = .returned (.tuple #[.agg #[.string (getM M key seq).1.key, .int .u64 (getM M key seq).1.seq, .string (getM M key seq).1.val, .bool (getM M key seq).1.gone], .bool (getM M key seq).2]) ∧ Own w0 a M G w' ∧ Below w.heap.size w w' := by
  obtain ⟨F, h1, h2, h3⟩ := h.mem
  refine (get_model h1 key seq).mono ?_
  rintro e w' ⟨he, hb⟩
  exact ⟨he, h.only hb, hb⟩
theorem Own.new {w0 w : World} {e : Ending} {w' : World} (hb : Below w0.heap.size w0 w) (h : NewPost w e w') : e = .returned (.pointer (some ⟨w.heap.size + 1, 0, none⟩)) ∧ Own w0 (w.heap.size + 1) [] (fun _ => False) w' := by
  obtain ⟨h1, h2, h3, h4⟩ := h.mem
  exact ⟨h1, ⟨_, h2, by rintro k (rfl | rfl) <;> (have := hb.size; omega), fun k hk => hk.elim⟩, hb.trans (h3.mono hb.size)⟩
end Go.Proofs.Ytbcaiegglbdonaa
