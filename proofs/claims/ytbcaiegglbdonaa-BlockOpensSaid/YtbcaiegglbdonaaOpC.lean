/-
  The law BlockOpens is proved: called with any bytes and anything asked of them, it returns true and leaves its argument as it was. Conditions: none of its own.
-/
import Derived.Test.YtbcaiegglbdonaaAwake8
import Derived.Test.YtbcaiegglbdonaaOpA
import Derived.Test.YtbcaiegglbdonaaOpB
import Derived.Test.YtbcaiegglbdonaaSame8
import Derived.Test.YtbcaiegglbdonaaPlan
import Derived.Test.YtbcaiegglbdonaaArgs8
namespace Go.Proofs.Ytbcaiegglbdonaa
open Go Go.RowKit
set_option linter.unusedSimpArgs false

/-- Of a block that stays as it lies Cells tells the same. -/
theorem BlkIs.tab {w : World} {p : Nat} {s : ByteArray} {l : List Cell} {r : Int} {m : Bool} (h : BlkIs w p s l r m) : ∃ F, BTab (.pointer (some ⟨p, 0, none⟩)) F l w := by
  obtain ⟨v, B, hb, ho⟩ := h.ex
  refine ⟨fun k => k = p ∨ v.ownBlock = some k, ⟨fun W' hW => ?_, by have := h.len; omega, ⟨_, rfl⟩⟩⟩
  refine blk_cells (s := s) (r := r) (m := m) ⟨⟨v, B, hb.only hW (by simp), own_only ho hW (fun g hg => .inr hg)⟩, h.len⟩
/-- A pointer to no block that Open made. -/
def NB (a : Option Addr) (W : World) : Prop := a = none ∨ ∃ p, a = some ⟨p, 0, none⟩ ∧ BlkIs W p ⟨#[]⟩ [] 0 false
theorem NB.kept {a : Option Addr} {W W' : World} (h : NB a W) (hb : Below W.heap.size W W') : NB a W' := h.imp id fun ⟨p, e, h⟩ => ⟨p, e, h.kept hb⟩
theorem nb_seek {a : Option Addr} {w : World} (h : NB a w) (k : ByteArray) (q : Int) : Calls Try.prog 45 #[.pointer a, .string k, .int .u64 q] w (CellPost w (Cell.zero, false)) :=
  no_seek a k q w (h.imp id fun ⟨p, e, h⟩ => ⟨p, _, _, _, e, h⟩)
theorem nb_get {a : Option Addr} {w : World} (h : NB a w) (k : ByteArray) (q : Int) : Calls Try.prog 44 #[.pointer a, .string k, .int .u64 q] w (CellPost w (Cell.zero, false)) := by
  have := get_of_seek (w := w) (a := a) (k := k) (q := q) (x := (Cell.zero, false)) fun W hW => nb_seek (h.kept hW) k q
  unfold getS at this
  rwa [if_neg (by simp)] at this
theorem nb_cells {a : Option Addr} {w : World} (h : NB a w) : Calls Try.prog 43 #[.pointer a] w (CellsPost w []) := by
  rcases h with rfl | ⟨p, rfl, h⟩
  · exact blk_cells_nil w
  · exact blk_cells h
theorem nb_len {a : Option Addr} {w : World} (h : NB a w) : Calls Try.prog 49 #[.pointer a] w fun e w' => e = .returned (.int .i64 0) ∧ w = w' := by
  rcases h with rfl | ⟨p, rfl, h⟩
  · exact blk_len_nil w
  · exact blk_len h
theorem nb_bytes {a : Option Addr} {w : World} (h : NB a w) : Calls Try.prog 50 #[.pointer a] w fun e w' => e = .returned (.string ⟨#[]⟩) ∧ w = w' := by
  rcases h with rfl | ⟨p, rfl, h⟩
  · exact blk_bytes_nil w
  · exact blk_bytes h
theorem nb_restarts {a : Option Addr} {w : World} (h : NB a w) : Calls Try.prog 51 #[.pointer a] w fun e w' => e = .returned (.int .i64 0) ∧ w = w' := by
  rcases h with rfl | ⟨p, rfl, h⟩
  · exact blk_restarts_nil w
  · exact blk_restarts_no h
theorem nb_tab {a : Option Addr} {w : World} (h : NB a w) : ∃ F, BTab (.pointer a) F [] w := by
  rcases h with rfl | ⟨p, rfl, h⟩
  · exact ⟨fun _ => False, ⟨fun W' _ => blk_cells_nil W', by simp, ⟨_, rfl⟩⟩⟩
  · exact h.tab
def NoRel (wo : World) (i : Value) (W : World) : Prop := ∃ n : Nat, i = .int .i64 n ∧ n ≤ 2 ∧ Below wo.heap.size wo W
theorem nb_goes {a : Option Addr} {w : World} (h : NB a w) {b0 b1 b2 : Nat} (h0 : Blk w b0 #[.pointer a] 68) (h1 : Blk w b1 #[.string ⟨#[]⟩] 9) (h2 : Blk w b2 #[.string ⟨#[]⟩] 9) :
    Calls Try.prog 35 #[.func (.func 106) #[] #[.pointer (some ⟨b0, 0, none⟩), .pointer (some ⟨b1, 0, none⟩), .pointer (some ⟨b2, 0, none⟩)], .slice none 0 0, .int .i64 1] w fun e w' => e = .returned (.bool true) ∧ Below w.heap.size w w' := by
  obtain ⟨F, hT⟩ := nb_tab h
  exact bgoes_spec (cs := []) (Z := []) 1 h0 h1 h2 hT rfl ⟨rfl, by simp, _, _, rfl, .inl rfl⟩
set_option maxRecDepth 100000 in
set_option maxHeartbeats 4000000 in
theorem nobody8_walk (key : ByteArray) (seq : Int) (w : World) : Calls Try.prog 14 #[.string key, .int .u64 seq] w fun e w' => e = .returned (.bool true) ∧ Below w.heap.size w w' := by
  have hne := cell_neq Cell.zero Cell.zero
  rw [decide_eq_true rfl] at hne
  have hne : ∀ W, (binOp .neq 25 (.agg #[.string ⟨#[]⟩, .int .u64 0, .string ⟨#[]⟩, .bool false]) (.agg #[.string ⟨#[]⟩, .int .u64 0, .string ⟨#[]⟩, .bool false])).run Try.prog W = .ok (.bool false) W := hne
  go_enter Try.func14, Try.ntmps14
  go_wp2_with (go_at_call 36; refine (awake8 _).mono ?_; rintro e w1 ⟨rfl, b1⟩)
  obtain ⟨w3, hw3⟩ : ∃ w3, w3 = ((w1.alloc (.cells #[.string ⟨#[]⟩, .slice none 0 0, .int .i64 0, .bool false] 85)).alloc (.cells #[.pointer none, .pointer (some ⟨w1.heap.size, 0, none⟩)] 68)) := ⟨_, rfl⟩
  have b3 : Below w1.heap.size w1 w3 := by rw [hw3]; exact ((Below.refl _ _).alloc (Nat.le_refl _) _).alloc (by simp) _
  have B3 : BlkIs w3 w1.heap.size ⟨#[]⟩ [] 0 false := by rw [hw3]; exact ⟨⟨_, 0, (Blk.new w1 _ _).alloc _, World.ownsRow_nil _ _ _ _⟩, by simp⟩
  have R3 : Blk w3 (w1.heap.size + 1) #[.pointer none, .pointer (some ⟨w1.heap.size, 0, none⟩)] 68 := by rw [hw3]; exact Blk.new' _ _ _ (by simp)
  rw [← hw3]
  clear hw3
  have c3 := b1.trans (b3.mono b1.size)
  go_loopw [17] (NoRel w3) (fun i _ => 2 - (intOf i).toNat)
  case atStart => exact ⟨0, rfl, by omega, Below.refl _ _⟩
  case round =>
    obtain ⟨n, rfl, hn, hb⟩ := hrel
    have cb := c3.trans (hb.mono c3.size)
    by_cases hlt : n < 2
    · obtain ⟨a, ha, hNB⟩ : ∃ a, wr.cell? ⟨w1.heap.size + 1, n, none⟩ = some (.pointer a) ∧ NB a w3 := by
        have h1 := R3.kept hb
        rcases (by omega : n = 0 ∨ n = 1) with rfl | rfl
        · exact ⟨none, h1.cell 0 _ rfl, .inl rfl⟩
        · exact ⟨_, h1.cell 1 _ rfl, .inr ⟨_, rfl, B3⟩⟩
      have al := (R3.kept hb).lt
      have j0 : (0 : Int) ≤ (n : Int) := by omega
      have j1 : (n : Int) < 2 := by omega
      have HNB := Lib.hid (fun (W : World) (hW : Below w3.heap.size w3 W) => hNB.kept hW)
      clear hNB
      have z25 : True := trivial
      go_wp2_with (first
        | (go_at_call 44; refine (nb_get (HNB.out _ hb) _ _).mono ?_; rintro e w4 ⟨he, hb4⟩; obtain rfl : e = .returned (.tuple #[.agg #[.string ⟨#[]⟩, .int .u64 0, .string ⟨#[]⟩, .bool false], .bool false]) := he
           have e4 := hb.trans (hb4.mono hb.size)
           have f4 := e4.alloc e4.size (.cells #[.string ⟨#[]⟩, .int .u64 0, .string ⟨#[]⟩, .bool false] 25))
        | (go_at_call 45; refine (nb_seek (HNB.out _ f4) _ _).mono ?_; rintro e w5 ⟨he, hb5⟩; obtain rfl : e = .returned (.tuple #[.agg #[.string ⟨#[]⟩, .int .u64 0, .string ⟨#[]⟩, .bool false], .bool false]) := he
           have e5 := f4.trans (hb5.mono f4.size)
           have hbx := (Blk.new w4 #[.string ⟨#[]⟩, .int .u64 0, .string ⟨#[]⟩, .bool false] 25).kept hb5
           obtain ⟨y0, y1, y2, y3⟩ := cell4 hbx
           have yl := hbx.lt
           have f5 := e5.alloc e5.size (.cells #[.string ⟨#[]⟩, .int .u64 0, .string ⟨#[]⟩, .bool false] 25))
        | (go_at_call 43; refine (nb_cells (HNB.out _ f5)).mono ?_; rintro e w6 ⟨v6, rfl, own6, hb6⟩; obtain ⟨A6, k6, rfl⟩ := (Reads.of_own own6).form; have e6 := f5.trans (hb6.mono f5.size); clear own6)
        | (go_at_call 49; refine (nb_len (HNB.out _ e6)).mono ?_; rintro e w7 ⟨rfl, rfl⟩)
        | (go_at_call 51; refine (nb_restarts (HNB.out _ e6)).mono ?_; rintro e w7 ⟨rfl, rfl⟩)
        | (go_at_call 50; refine (nb_bytes (HNB.out _ e6)).mono ?_; rintro e w7 ⟨rfl, rfl⟩)
        | (go_at_call 52; refine (blk_scan _ _ _ _ ⟨_, rfl⟩).mono ?_; rintro e w8 ⟨rfl, s0, s1, s2, hb8⟩; have e8 := e6.trans (hb8.mono e6.size))
        | (go_at_call 35; refine (nb_goes (HNB.out _ e8) s0 s1 s2).mono ?_; rintro e w9 ⟨rfl, hb9⟩; have e9 := e8.trans (hb9.mono e8.size)))
      go_roundw
      case rel => exact ⟨n + 1, by go_num, by omega, e9⟩
      case measure => simp [intOf]; omega
    · obtain rfl : n = 2 := by omega
      go_wp2_with fail
      go_ret
      exact ⟨rfl, cb⟩
end Go.Proofs.Ytbcaiegglbdonaa

namespace Go.Proofs.Ytbcaiegglbdonaa
open Go Go.RowKit
set_option linter.unusedSimpArgs false

theorem cell5 {w : World} {b : Nat} {v0 v1 v2 v3 v4 : Value} {t : TypeId} (h : Blk w b #[v0, v1, v2, v3, v4] t) :
    w.cell? ⟨b, 0, none⟩ = some v0 ∧ w.cell? ⟨b, 1, none⟩ = some v1 ∧ w.cell? ⟨b, 2, none⟩ = some v2 ∧ w.cell? ⟨b, 3, none⟩ = some v3 ∧ w.cell? ⟨b, 4, none⟩ = some v4 :=
  ⟨h.cell 0 _ rfl, h.cell 1 _ rfl, h.cell 2 _ rfl, h.cell 3 _ rfl, h.cell 4 _ rfl⟩
def WpRel (wo : World) (g n : Nat) (i : Value) (W : World) : Prop := ∃ k : Nat, k ≤ n ∧ i = .int .i64 k ∧ (0 < n → ∃ cur, Blk W g cur 25 ∧ n * 4 ≤ cur.size) ∧ Below wo.heap.size wo W
set_option maxRecDepth 100000 in
set_option maxHeartbeats 4000000 in
theorem opens_walk (bs key til : ByteArray) (seq stop : Int) (hs : bs.size ≤ 4611686018427387904) (w : World) :
    Calls Try.prog 13 #[.agg #[.string bs, .string key, .int .u64 seq, .string til, .int .i64 stop]] w fun e w' => e = .returned (.bool true) ∧ Below w.heap.size w w' := by
  have hbox := Blk.new w #[.string bs, .string key, .int .u64 seq, .string til, .int .i64 stop] 77
  have b0 : Below w.heap.size w (w.alloc (.cells #[.string bs, .string key, .int .u64 seq, .string til, .int .i64 stop] 77)) := (Below.refl _ _).alloc (Nat.le_refl _) _
  have hOP := fun W => open_spec bs hs W
  have hRO := fun W => ref_open bs hs W
  rw [refOpen_eq] at hRO
  cases hop : openN bs with
  | none =>
    rw [hop] at hOP hRO
    have HOP := Lib.hid hOP
    have HRO := Lib.hid hRO
    clear hOP hRO hop
    go_enter Try.func13, Try.ntmps13
    go_wp2_with (first
      | (go_at_call 36; refine (awake8 _).mono ?_; rintro e w1 ⟨rfl, b1⟩
         have hb1 := hbox.kept b1
         obtain ⟨x0, x1, x2, x3, x4⟩ := cell5 hb1
         have xl := hb1.lt
         have c1 := b0.trans (b1.mono b0.size))
      | (go_at_call 42; refine (HOP.out _).mono ?_; rintro e w2 ⟨b2, rfl⟩
         have hb2 := hb1.kept b2
         obtain ⟨x0, x1, x2, x3, x4⟩ := cell5 hb2
         have xl := hb2.lt
         have c2 := c1.trans (b2.mono c1.size))
      | (go_at_call 46; refine (HRO.out _).mono ?_; rintro e w3 ⟨b3, rfl⟩; have c3 := c2.trans (b3.mono c2.size)))
    go_ret
    exact ⟨rfl, c3⟩
  | some q =>
    obtain ⟨l, r⟩ := q
    obtain ⟨kr, hkr, hbd, hsq⟩ := openN_some2 hop
    have hbo := buildN_ok hbd
    have hadj := (checkL_both hbo.2.2.1).1
    have hr1 : 1 ≤ r := by rw [hkr]; exact hbo.1
    have hr2 : r ≤ 64 := by rw [hkr]; exact hbo.2.1
    rw [hop] at hOP hRO
    have HOP := Lib.hid hOP
    have HRO := Lib.hid hRO
    have HAD := Lib.hid hadj
    clear hOP hRO hop hkr hbd hsq hbo hadj
    go_enter Try.func13, Try.ntmps13
    go_wp2_with (first
      | (go_at_call 36; refine (awake8 _).mono ?_; rintro e w1 ⟨rfl, b1⟩
         have hb1 := hbox.kept b1
         obtain ⟨x0, x1, x2, x3, x4⟩ := cell5 hb1
         have xl := hb1.lt
         have c1 := b0.trans (b1.mono b0.size))
      | (go_at_call 42; refine (HOP.out _).mono ?_; rintro e w2 ⟨b2, p, rfl, B2, hp2⟩
         have hb2 := hb1.kept b2
         obtain ⟨x0, x1, x2, x3, x4⟩ := cell5 hb2
         have xl := hb2.lt
         have c2 := c1.trans (b2.mono c1.size))
      | (go_at_call 46; refine (HRO.out _).mono ?_; rintro e w3 ⟨b3, v3, rfl, own3⟩
         obtain ⟨A3, k3, rfl⟩ := (Reads.of_own own3).form
         have hb3 := hb2.kept b3
         obtain ⟨x0, x1, x2, x3, x4⟩ := cell5 hb3
         have xl := hb3.lt
         have c3 := c2.trans (b3.mono c2.size)
         have B3 := B2.kept b3
         have HR3 := Lib.hid (Reads.of_own own3)
         clear own3))
    have hne1 := cell_neq (getS key (seekC l key seq)).1 (getS key (seekC l key seq)).1
    rw [decide_eq_true rfl] at hne1
    have hne2 := cell_neq (seekC l key seq).1 (seekC l key seq).1
    rw [decide_eq_true rfl] at hne2
    have HG := Lib.hid (fun (W : World) (hW : Below w3.heap.size w3 W) => blk_get (B3.kept hW) HAD.out key seq)
    have HNW := Lib.hid (fun (W : World) (hW : Below w3.heap.size w3 W) => by
      have := ref_newest (HR3.out.kept hW) key seq
      rw [newest_seek key seq l HAD.out] at this
      exact this)
    have HSK := Lib.hid (fun (W : World) (hW : Below w3.heap.size w3 W) => blk_seek (B3.kept hW) HAD.out key seq)
    have HRS := Lib.hid (fun (W : World) (hW : Below w3.heap.size w3 W) => ref_seek (HR3.out.kept hW) key seq)
    obtain ⟨r1, hr1e⟩ : ∃ r1, getS key (seekC l key seq) = r1 := ⟨_, rfl⟩
    obtain ⟨r2, hr2e⟩ : ∃ r2, seekC l key seq = r2 := ⟨_, rfl⟩
    rw [hr1e] at hne1 HG HNW
    rw [hr2e] at hne2 HSK HRS
    clear hr1e hr2e
    obtain ⟨⟨gk, gs, gv, gg⟩, gb⟩ := r1
    obtain ⟨⟨hk, hs', hv, hg⟩, hbb⟩ := r2
    dsimp only at hne1 hne2
    have e3 := Below.refl w3.heap.size w3
    go_wp2_with (first
      | (go_at_call 44; refine (HG.out _ e3).mono ?_; rintro e w4 ⟨he, b4⟩; obtain rfl : e = .returned (.tuple #[.agg #[.string gk, .int .u64 gs, .string gv, .bool gg], .bool gb]) := he
         have e4 := e3.trans (b4.mono e3.size)
         have f4 := e4.alloc e4.size (.cells #[.string gk, .int .u64 gs, .string gv, .bool gg] 25)
         have hb4 := hb3.kept b4
         obtain ⟨x0, x1, x2, x3, x4⟩ := cell5 hb4
         have xl := hb4.lt)
      | (go_at_call 47; refine (HNW.out _ f4).mono ?_; rintro e w5 ⟨he, b5⟩; obtain rfl : e = .returned (.tuple #[.agg #[.string gk, .int .u64 gs, .string gv, .bool gg], .bool gb]) := he
         have e5 := f4.trans (b5.mono f4.size)
         have f5 := e5.alloc e5.size (.cells #[.string gk, .int .u64 gs, .string gv, .bool gg] 25)
         have hb5 := (hb4.alloc (.cells #[.string gk, .int .u64 gs, .string gv, .bool gg] 25)).kept b5
         have q5 := (Blk.new w4 #[.string gk, .int .u64 gs, .string gv, .bool gg] 25).kept b5
         obtain ⟨x0, x1, x2, x3, x4⟩ := cell5 hb5
         have xl := hb5.lt)
      | (go_at_call 45; refine (HSK.out _ f5).mono ?_; rintro e w6 ⟨he, b6⟩; obtain rfl : e = .returned (.tuple #[.agg #[.string hk, .int .u64 hs', .string hv, .bool hg], .bool hbb]) := he
         have e6 := f5.trans (b6.mono f5.size)
         have f6 := e6.alloc e6.size (.cells #[.string hk, .int .u64 hs', .string hv, .bool hg] 25)
         have hb6 := (hb5.alloc (.cells #[.string gk, .int .u64 gs, .string gv, .bool gg] 25)).kept b6
         have q6 := (q5.alloc (.cells #[.string gk, .int .u64 gs, .string gv, .bool gg] 25)).kept b6
         have p6 := (Blk.new w5 #[.string gk, .int .u64 gs, .string gv, .bool gg] 25).kept b6
         obtain ⟨x0, x1, x2, x3, x4⟩ := cell5 hb6
         have xl := hb6.lt)
      | (go_at_call 48; refine (HRS.out _ f6).mono ?_; rintro e w7 ⟨he, b7⟩; obtain rfl : e = .returned (.tuple #[.agg #[.string hk, .int .u64 hs', .string hv, .bool hg], .bool hbb]) := he
         have e7 := f6.trans (b7.mono f6.size)
         have f7 := e7.alloc e7.size (.cells #[.string hk, .int .u64 hs', .string hv, .bool hg] 25)
         have hb7 := (hb6.alloc (.cells #[.string hk, .int .u64 hs', .string hv, .bool hg] 25)).kept b7
         have q7 := (q6.alloc (.cells #[.string hk, .int .u64 hs', .string hv, .bool hg] 25)).kept b7
         have p7 := (p6.alloc (.cells #[.string hk, .int .u64 hs', .string hv, .bool hg] 25)).kept b7
         have o7 := (Blk.new w6 #[.string hk, .int .u64 hs', .string hv, .bool hg] 25).kept b7
         have n7 := Blk.new w7 #[.string hk, .int .u64 hs', .string hv, .bool hg] 25
         obtain ⟨x0, x1, x2, x3, x4⟩ := cell5 hb7
         have xl := hb7.lt))
    have hb8 := hb7.alloc (.cells #[.string hk, .int .u64 hs', .string hv, .bool hg] 25)
    have q8 := q7.alloc (.cells #[.string hk, .int .u64 hs', .string hv, .bool hg] 25)
    have p8 := p7.alloc (.cells #[.string hk, .int .u64 hs', .string hv, .bool hg] 25)
    have o8 := o7.alloc (.cells #[.string hk, .int .u64 hs', .string hv, .bool hg] 25)
    obtain ⟨w8, hw8⟩ : ∃ w8, w8 = w7.alloc (.cells #[.string hk, .int .u64 hs', .string hv, .bool hg] 25) := ⟨_, rfl⟩
    rw [← hw8] at f7 hb8 q8 p8 o8 n7 ⊢
    have hlen := B3.len
    have hr0 : (r == 0) = false := by simp; omega
    have hrm : (r == -1) = false := by simp; omega
    have hrz : ¬ r = 0 := by omega
    have hlI : (l.length : Int) ≤ 65536 := by omega
    have hw1 : IntKind.i64.wrap (((l.length : Int) + r - 1).tdiv r) = ((l.length : Int) + r - 1).tdiv r := by
      have hq1 : 0 ≤ ((l.length : Int) + r - 1).tdiv r := Int.tdiv_nonneg (by omega) (by omega)
      have hq2 := Int.tdiv_le_self (a := (l.length : Int) + r - 1) r (by omega)
      exact IntWalk.i64_in _ (by omega)
    have hwa : IntKind.i64.wrap ((l.length : Int) + r) = (l.length : Int) + r := IntWalk.i64_in _ (by omega)
    have hwb : IntKind.i64.wrap ((l.length : Int) + r - 1) = (l.length : Int) + r - 1 := IntWalk.i64_in _ (by omega)
    have HLN := Lib.hid (fun (W : World) (hW : Below w3.heap.size w3 W) => blk_len (B3.kept hW))
    have HBY := Lib.hid (fun (W : World) (hW : Below w3.heap.size w3 W) => blk_bytes (B3.kept hW))
    have HRT := Lib.hid (fun (W : World) (hW : Below w3.heap.size w3 W) => blk_restarts (B3.kept hW) hr1 hr2)
    clear hw8 HG HNW HSK HRS b4 b5 b6 b7 hb7 q7 p7 o7
    have hcell : ∀ W, Below w8.heap.size w8 W → (fun W => (W.cell? ⟨w.heap.size, 0, none⟩ = some (.string bs)) ∧ (W.cell? ⟨w4.heap.size, 0, none⟩ = some (.string gk) ∧ W.cell? ⟨w4.heap.size, 1, none⟩ = some (.int .u64 gs) ∧ W.cell? ⟨w4.heap.size, 2, none⟩ = some (.string gv) ∧ W.cell? ⟨w4.heap.size, 3, none⟩ = some (.bool gg)) ∧ (W.cell? ⟨w5.heap.size, 0, none⟩ = some (.string gk) ∧ W.cell? ⟨w5.heap.size, 1, none⟩ = some (.int .u64 gs) ∧ W.cell? ⟨w5.heap.size, 2, none⟩ = some (.string gv) ∧ W.cell? ⟨w5.heap.size, 3, none⟩ = some (.bool gg)) ∧ (W.cell? ⟨w6.heap.size, 0, none⟩ = some (.string hk) ∧ W.cell? ⟨w6.heap.size, 1, none⟩ = some (.int .u64 hs') ∧ W.cell? ⟨w6.heap.size, 2, none⟩ = some (.string hv) ∧ W.cell? ⟨w6.heap.size, 3, none⟩ = some (.bool hg)) ∧ (W.cell? ⟨w7.heap.size, 0, none⟩ = some (.string hk) ∧ W.cell? ⟨w7.heap.size, 1, none⟩ = some (.int .u64 hs') ∧ W.cell? ⟨w7.heap.size, 2, none⟩ = some (.string hv) ∧ W.cell? ⟨w7.heap.size, 3, none⟩ = some (.bool hg))) W := fun W hW => ⟨(hb8.kept hW).cell 0 _ rfl, cell4 (q8.kept hW), cell4 (p8.kept hW), cell4 (o8.kept hW), cell4 (n7.kept hW)⟩
    have HCL := Lib.hid hcell
    clear hcell
    refine region_plan (S := fun W => (W.cell? ⟨w.heap.size, 0, none⟩ = some (.string bs)) ∧ (W.cell? ⟨w4.heap.size, 0, none⟩ = some (.string gk) ∧ W.cell? ⟨w4.heap.size, 1, none⟩ = some (.int .u64 gs) ∧ W.cell? ⟨w4.heap.size, 2, none⟩ = some (.string gv) ∧ W.cell? ⟨w4.heap.size, 3, none⟩ = some (.bool gg)) ∧ (W.cell? ⟨w5.heap.size, 0, none⟩ = some (.string gk) ∧ W.cell? ⟨w5.heap.size, 1, none⟩ = some (.int .u64 gs) ∧ W.cell? ⟨w5.heap.size, 2, none⟩ = some (.string gv) ∧ W.cell? ⟨w5.heap.size, 3, none⟩ = some (.bool gg)) ∧ (W.cell? ⟨w6.heap.size, 0, none⟩ = some (.string hk) ∧ W.cell? ⟨w6.heap.size, 1, none⟩ = some (.int .u64 hs') ∧ W.cell? ⟨w6.heap.size, 2, none⟩ = some (.string hv) ∧ W.cell? ⟨w6.heap.size, 3, none⟩ = some (.bool hg)) ∧ (W.cell? ⟨w7.heap.size, 0, none⟩ = some (.string hk) ∧ W.cell? ⟨w7.heap.size, 1, none⟩ = some (.int .u64 hs') ∧ W.cell? ⟨w7.heap.size, 2, none⟩ = some (.string hv) ∧ W.cell? ⟨w7.heap.size, 3, none⟩ = some (.bool hg)))
      ((0, true) :: (1, true) :: (2, true) :: (3, true) :: (4, true) :: (5, true) :: (6, true) :: (7, true) :: (8, true) :: (9, true) :: (10, true) :: (11, true) :: (12, true) :: (13, true) :: (14, true) :: (15, true) :: (16, true) :: (17, true) :: (18, true) :: (19, true) :: (21, true) :: (22, true) :: (20, false) :: (23, true) :: (24, true) :: (25, true) :: (26, true) :: (28, true) :: (29, true) :: (27, false) :: (30, true) :: (31, true) :: (32, true) :: (33, true) :: (35, true) :: (36, true) :: (37, true) :: (38, true) :: (39, true) :: (40, true) :: (41, true) :: (34, false) :: (42, true) :: (43, true) :: [])
      (by kernel_rfl) (by kernel_rfl) (by kernel_rfl) (by kernel_rfl) (fun _ _ _ dst _ h => by cases dst <;> exact h) (HCL.out _ (Below.refl _ _).drew) (fun hH => ?_)
    (repeat (first | (refine plan_take (v := ?_) (by (simp only [List.getElem?_toArray, List.getElem?_cons_succ, List.getElem?_cons_zero]; exact rfl)) (by rfl) ?_ ?_; rotate_left; (focus (intro wS hS; (try dsimp only at hS); go_split_ands; go_simp; (try with_reducible rfl))); simp only [Act.put, List.setIfInBounds_toArray, List.set_cons_zero, List.set_cons_succ]) | (refine plan_skip (by (simp only [List.getElem?_toArray, List.getElem?_cons_succ, List.getElem?_cons_zero]; exact rfl)) (by rfl) ?_; simp only [Act.put, List.setIfInBounds_toArray, List.set_cons_zero, List.set_cons_succ])))
    (refine plan_solo (by (simp only [List.getElem?_toArray, List.getElem?_cons_succ, List.getElem?_cons_zero]; exact rfl)) (by rfl) ?_; intro K hK; go_simp)
    refine (HLN.out _ f7.drew).mono ?_
    rintro e w9 ⟨rfl, hu⟩
    obtain rfl := hu
    refine hK.out _ _ (HCL.out _ (Below.refl _ _).drew) (fun hH => ?_)
    clear hK K
    try simp only [Act.put, List.setIfInBounds_toArray, List.set_cons_zero, List.set_cons_succ]
    (repeat (first | (refine plan_take (v := ?_) (by (simp only [List.getElem?_toArray, List.getElem?_cons_succ, List.getElem?_cons_zero]; exact rfl)) (by rfl) ?_ ?_; rotate_left; (focus (intro wS hS; (try dsimp only at hS); go_split_ands; go_simp; (try with_reducible rfl))); simp only [Act.put, List.setIfInBounds_toArray, List.set_cons_zero, List.set_cons_succ]) | (refine plan_skip (by (simp only [List.getElem?_toArray, List.getElem?_cons_succ, List.getElem?_cons_zero]; exact rfl)) (by rfl) ?_; simp only [Act.put, List.setIfInBounds_toArray, List.set_cons_zero, List.set_cons_succ])))
    (refine plan_solo (by (simp only [List.getElem?_toArray, List.getElem?_cons_succ, List.getElem?_cons_zero]; exact rfl)) (by rfl) ?_; intro K hK; go_simp)
    refine (HBY.out _ f7.drew).mono ?_
    rintro e w9 ⟨rfl, hu⟩
    obtain rfl := hu
    refine hK.out _ _ (HCL.out _ (Below.refl _ _).drew) (fun hH => ?_)
    clear hK K
    try simp only [Act.put, List.setIfInBounds_toArray, List.set_cons_zero, List.set_cons_succ]
    (repeat (first | (refine plan_take (v := ?_) (by (simp only [List.getElem?_toArray, List.getElem?_cons_succ, List.getElem?_cons_zero]; exact rfl)) (by rfl) ?_ ?_; rotate_left; (focus (intro wS hS; (try dsimp only at hS); go_split_ands; go_simp; (try with_reducible rfl))); simp only [Act.put, List.setIfInBounds_toArray, List.set_cons_zero, List.set_cons_succ]) | (refine plan_skip (by (simp only [List.getElem?_toArray, List.getElem?_cons_succ, List.getElem?_cons_zero]; exact rfl)) (by rfl) ?_; simp only [Act.put, List.setIfInBounds_toArray, List.set_cons_zero, List.set_cons_succ])))
    (refine plan_solo (by (simp only [List.getElem?_toArray, List.getElem?_cons_succ, List.getElem?_cons_zero]; exact rfl)) (by rfl) ?_; intro K hK; go_simp)
    refine (HRT.out _ f7.drew).mono ?_
    rintro e w9 ⟨rfl, b9⟩
    have d9 : Below w8.heap.size w8 w9 := ((Below.refl w8.heap.size w8).drew).trans (b9.mono (Nat.le_refl _))
    have f9 := f7.trans (d9.mono f7.size)
    refine hK.out _ _ (HCL.out _ d9) (fun hH => ?_)
    clear hK K
    try simp only [Act.put, List.setIfInBounds_toArray, List.set_cons_zero, List.set_cons_succ]
    (repeat (first | (refine plan_take (v := ?_) (by (simp only [List.getElem?_toArray, List.getElem?_cons_succ, List.getElem?_cons_zero]; exact rfl)) (by rfl) ?_ ?_; rotate_left; (focus (intro wS hS; (try dsimp only at hS); go_split_ands; go_simp; (try with_reducible rfl))); simp only [Act.put, List.setIfInBounds_toArray, List.set_cons_zero, List.set_cons_succ]) | (refine plan_skip (by (simp only [List.getElem?_toArray, List.getElem?_cons_succ, List.getElem?_cons_zero]; exact rfl)) (by rfl) ?_; simp only [Act.put, List.setIfInBounds_toArray, List.set_cons_zero, List.set_cons_succ])))
    refine plan_nil ?_
    go_wp2_with fail
    refine (blk_cells (B3.kept f9)).mono ?_
    rintro e w10 ⟨v10, rfl, own10, b10⟩
    obtain ⟨A10, k10, rfl⟩ := (Reads.of_own own10).form
    have f10 := f9.trans (b10.mono f9.size)
    have hS := same8_spec (Reads.of_own own10) (HR3.out.kept f10)
    rw [decide_eq_true rfl] at hS
    have HS8 := Lib.hid hS
    have hrow : ∃ g, w9.heap.size ≤ g ∧ (0 < l.length → A10 = some ⟨g, 0, none⟩ ∧ ∃ cur, Blk w10 g cur 25 ∧ l.length * 4 ≤ cur.size) := by
      rcases own10.2 with ⟨h1, h2⟩ | ⟨g, cap', cur, h1, h2, h3, h4, _, h5, _⟩
      · exact ⟨w9.heap.size, Nat.le_refl _, fun h => by omega⟩
      · injection h1 with h1 _ _
        exact ⟨g, h2, fun _ => ⟨h1, cur, h3, by rw [h5]; exact Nat.mul_le_mul_right _ h4⟩⟩
    obtain ⟨g, hg9, hgA⟩ := hrow
    have HGA := Lib.hid hgA
    clear hS hgA own10 HLN HBY HRT
    go_wp2_with (go_at_call 41; refine HS8.out.mono ?_; rintro e w11 ⟨rfl, b11⟩)
    have b911 := b10.trans (b11.mono b10.size)
    go_loopw [133] (WpRel w9 g l.length) (fun i _ => l.length - (intOf i).toNat)
    case atStart =>
      refine ⟨0, Nat.zero_le _, rfl, fun h => ?_, b911⟩
      obtain ⟨_, cur, h2, h3⟩ := HGA.out h
      exact ⟨cur, h2.kept b11, h3⟩
    case round =>
      obtain ⟨k, hk, rfl, hcur, hb⟩ := hrel
      have HCUR := Lib.hid hcur
      clear hcur
      by_cases hlt : k < l.length
      · obtain ⟨cur, hblk, hcz⟩ := HCUR.out (by omega)
        obtain ⟨hA, -⟩ := HGA.out (by omega)
        subst hA
        have j0 : (0 : Int) ≤ (k : Int) := by omega
        have j1 : (k : Int) < (l.length : Int) := by omega
        obtain ⟨u0, hu0⟩ : ∃ u, wr.cell? ⟨g, k * 4, none⟩ = some u := ⟨_, hblk.cell (k * 4) _ (Array.getElem?_eq_getElem (by omega))⟩
        obtain ⟨u1, hu1⟩ : ∃ u, wr.cell? ⟨g, k * 4 + 1, none⟩ = some u := ⟨_, hblk.cell (k * 4 + 1) _ (Array.getElem?_eq_getElem (by omega))⟩
        obtain ⟨u2, hu2⟩ : ∃ u, wr.cell? ⟨g, k * 4 + 2, none⟩ = some u := ⟨_, hblk.cell (k * 4 + 2) _ (Array.getElem?_eq_getElem (by omega))⟩
        obtain ⟨u3, hu3⟩ : ∃ u, wr.cell? ⟨g, k * 4 + 3, none⟩ = some u := ⟨_, hblk.cell (k * 4 + 3) _ (Array.getElem?_eq_getElem (by omega))⟩
        have gf := hblk.frozen
        have gl := hblk.lt
        have HBK := Lib.hid hblk
        clear hblk
        go_wp2_with fail
        go_roundw
        case rel =>
          refine ⟨k + 1, by omega, by go_num, fun _ => ⟨_, (((HBK.out.setCell (k * 4) (.string ⟨#[]⟩)).setCell (k * 4 + 1) (.int .u64 0)).setCell (k * 4 + 2) (.string ⟨#[]⟩)).setCell (k * 4 + 3) (.bool false), by simpa using hcz⟩, ?_⟩
          exact (((hb.setCell hg9 _).setCell hg9 _).setCell hg9 _).setCell hg9 _
        case measure => simp [intOf]; omega
      · obtain rfl : k = l.length := by omega
        have d12 : Below w8.heap.size w8 wr := d9.trans (hb.mono d9.size)
        have f12 := f9.trans (hb.mono f9.size)
        have hbx := Lib.hid (fun (W : World) (hW : Below wr.heap.size wr W) => ((hb8.kept d12).kept hW))
        have hS2 : ∀ W, Below wr.heap.size wr W → (fun W => W.cell? ⟨w.heap.size, 1, none⟩ = some (.string key) ∧ W.cell? ⟨w.heap.size, 3, none⟩ = some (.string til) ∧ W.cell? ⟨w.heap.size, 4, none⟩ = some (.int .i64 stop)) W := fun W hW => ⟨(hbx.out W hW).cell 1 _ rfl, (hbx.out W hW).cell 3 _ rfl, (hbx.out W hW).cell 4 _ rfl⟩
        have HS2 := Lib.hid hS2
        clear hS2
        go_wp2_with fail
        refine region_plan (S := fun W => W.cell? ⟨w.heap.size, 1, none⟩ = some (.string key) ∧ W.cell? ⟨w.heap.size, 3, none⟩ = some (.string til) ∧ W.cell? ⟨w.heap.size, 4, none⟩ = some (.int .i64 stop))
          ((0, true) :: (1, true) :: (2, true) :: (3, true) :: (4, true) :: (5, true) :: (6, true) :: (8, true) :: (9, true) :: (10, true) :: (11, true) :: (12, true) :: (14, true) :: (15, true) :: (7, false) :: (13, false) :: (16, false) :: (17, true) :: (18, true) :: [])
          (by kernel_rfl) (by kernel_rfl) (by kernel_rfl) (by kernel_rfl) (fun _ _ _ dst _ h => by cases dst <;> exact h) (HS2.out _ (Below.refl _ _).drew) (fun hH => ?_)
        (repeat (first | (refine plan_take (v := ?_) (by (simp only [List.getElem?_toArray, List.getElem?_cons_succ, List.getElem?_cons_zero]; exact rfl)) (by rfl) ?_ ?_; rotate_left; (focus (intro wS hS; (try dsimp only at hS); go_split_ands; go_simp; (try with_reducible rfl))); simp only [Act.put, List.setIfInBounds_toArray, List.set_cons_zero, List.set_cons_succ]) | (refine plan_skip (by (simp only [List.getElem?_toArray, List.getElem?_cons_succ, List.getElem?_cons_zero]; exact rfl)) (by rfl) ?_; simp only [Act.put, List.setIfInBounds_toArray, List.set_cons_zero, List.set_cons_succ])))
        (refine plan_solo (by (simp only [List.getElem?_toArray, List.getElem?_cons_succ, List.getElem?_cons_zero]; exact rfl)) (by rfl) ?_; intro K hK; go_simp)
        refine (blk_scan _ _ _ _ ⟨_, rfl⟩).mono ?_
        rintro e w13 ⟨rfl, s0, s1, s2, b13⟩
        have d13 : Below wr.heap.size wr w13 := ((Below.refl wr.heap.size wr).drew).trans (b13.mono (Nat.le_refl _))
        refine hK.out _ _ (HS2.out _ d13) (fun hH => ?_)
        clear hK K
        try simp only [Act.put, List.setIfInBounds_toArray, List.set_cons_zero, List.set_cons_succ]
        (refine plan_solo (by (simp only [List.getElem?_toArray, List.getElem?_cons_succ, List.getElem?_cons_zero]; exact rfl)) (by rfl) ?_; intro K hK; go_simp)
        have f13 := f12.trans (d13.mono f12.size)
        refine (ref_part (HR3.out.kept f13) key til (by omega)).mono ?_
        rintro e w14 ⟨v14, rfl, own14, b14⟩
        have d14 := d13.trans (b14.mono d13.size)
        have f14 := f13.trans (b14.mono f13.size)
        refine hK.out _ _ (HS2.out _ d14) (fun hH => ?_)
        clear hK K
        try simp only [Act.put, List.setIfInBounds_toArray, List.set_cons_zero, List.set_cons_succ]
        (refine plan_solo (by (simp only [List.getElem?_toArray, List.getElem?_cons_succ, List.getElem?_cons_zero]; exact rfl)) (by rfl) ?_; intro K hK; go_simp)
        obtain ⟨F, hT⟩ := (B3.kept f14).tab
        refine (bgoes_spec (cs := l) (Z := l.filter (partP key til)) stop (s0.kept b14) (s1.kept b14) (s2.kept b14) hT rfl (Reads.of_own own14)).mono ?_
        rintro e w15 ⟨rfl, b15⟩
        have d15 := d14.trans (b15.mono d14.size)
        have f15 := f14.trans (b15.mono f14.size)
        refine hK.out _ _ (HS2.out _ d15) (fun hH => ?_)
        clear hK K
        try simp only [Act.put, List.setIfInBounds_toArray, List.set_cons_zero, List.set_cons_succ]
        (repeat (first | (refine plan_take (v := ?_) (by (simp only [List.getElem?_toArray, List.getElem?_cons_succ, List.getElem?_cons_zero]; exact rfl)) (by rfl) ?_ ?_; rotate_left; (focus (intro wS hS; (try dsimp only at hS); go_split_ands; go_simp; (try with_reducible rfl))); simp only [Act.put, List.setIfInBounds_toArray, List.set_cons_zero, List.set_cons_succ]) | (refine plan_skip (by (simp only [List.getElem?_toArray, List.getElem?_cons_succ, List.getElem?_cons_zero]; exact rfl)) (by rfl) ?_; simp only [Act.put, List.setIfInBounds_toArray, List.set_cons_zero, List.set_cons_succ])))
        refine plan_nil ?_
        go_wp2_with fail
        go_ret
        exact ⟨rfl, c3.trans (f15.mono c3.size)⟩
end Go.Proofs.Ytbcaiegglbdonaa

namespace Go.Proofs.Ytbcaiegglbdonaa
open Go.ChangeShapes Go.WideShapes Go.ChangeAt Go.RowKit Go.Deep Go.Joins

theorem five {α : Type} {xs : Array α} (h : xs.size = 5) : ∃ a b c d e, xs = #[a, b, c, d, e] := by
  obtain ⟨l⟩ := xs
  match l, h with
  | [a, b, c, d, e], _ => exact ⟨a, b, c, d, e, rfl⟩
set_option maxRecDepth 100000 in
theorem open_asking {H : Type} {enc : TypeId × Value → H} {W : World} {v : Value} {d : DataW H} {p : List MemPlace} {r : Reach} {b0 : Nat} (hv : Value.okWide Try.prog W r b0 77 v) (h : DataW.Trod enc Try.prog W 0 (fun _ => true) true 77 v d p) :
    ∃ (bs key til : ByteArray) (seq stop : Int) (y1 y2 y3 y4 : DataW H), v = .agg #[.string bs, .string key, .int .u64 seq, .string til, .int .i64 stop] ∧ d = .agg [.lit (.string bs.data.toList), y1, y2, y3, y4] := by
  obtain ⟨cs, rfl, hsz⟩ := okWide_struct Try.underlying77 hv
  rw [show Try.prog.cellsOf 77 = 5 by kernel_rfl] at hsz
  obtain ⟨c0, c1, c2, c3, c4, rfl⟩ := five hsz
  obtain ⟨fuel, hf⟩ := h
  obtain ⟨xs, n, _, hx, hl, hlen, hfl⟩ := DataW.trod_struct Try.underlying77 hf
  match xs, hlen with
  | [y0, y1, y2, y3, y4], _ =>
    have k9 : Try.prog.cellsOf 9 = 1 := by kernel_rfl
    have k23 : Try.prog.cellsOf 23 = 1 := by kernel_rfl
    have k3 : Try.prog.cellsOf 3 = 1 := by kernel_rfl
    have g0 : DataW.trod enc Try.prog W 0 (fun _ => true) true n 9 [c0] = some y0 := by simpa [Value.cells, k9] using hfl 0 _ rfl
    have g1 : DataW.trod enc Try.prog W 0 (fun _ => true) true n 9 [c1] = some y1 := by simpa [Value.cells, k9] using hfl 1 _ rfl
    have g2 : DataW.trod enc Try.prog W 0 (fun _ => true) true n 23 [c2] = some y2 := by simpa [Value.cells, k23] using hfl 2 _ rfl
    have g3 : DataW.trod enc Try.prog W 0 (fun _ => true) true n 9 [c3] = some y3 := by simpa [Value.cells, k9] using hfl 3 _ rfl
    have g4 : DataW.trod enc Try.prog W 0 (fun _ => true) true n 3 [c4] = some y4 := by simpa [Value.cells, k3] using hfl 4 _ rfl
    obtain ⟨s0, e0, z0, _⟩ := DataW.trod_string Try.underlying9 g0
    obtain ⟨s1, e1, _, _⟩ := DataW.trod_string Try.underlying9 g1
    obtain ⟨s2, e2, _, _⟩ := DataW.trod_int Try.underlying23 g2
    obtain ⟨s3, e3, _, _⟩ := DataW.trod_string Try.underlying9 g3
    obtain ⟨s4, e4, _, _⟩ := DataW.trod_int Try.underlying3 g4
    simp only [Prod.mk.injEq] at hx
    simp at e0 e1 e2 e3 e4
    subst e0 e1 e2 e3 e4
    refine ⟨s0, s1, s3, s2, s4, y1.1, y2.1, y3.1, y4.1, rfl, ?_⟩
    rw [hx.1]
    simp [z0]
theorem asking_len {H : Type} {ts : List TypeId} {ds : List (DataW H)} {bs : ByteArray} {y1 y2 y3 y4 : DataW H} (hsz : (DataW.weightsEach Try.prog ts ds).all (· ≤ reachBytes) = true) {j : Nat} (ht : ts[j]? = some 77) (hd : ds[j]? = some (.agg [.lit (.string bs.data.toList), y1, y2, y3, y4])) : bs.size ≤ 4611686018427387904 := by
  have hin : (DataW.weightsEach Try.prog [9, 9, 23, 9, 3] [.lit (.string bs.data.toList), y1, y2, y3, y4]).all (· ≤ reachBytes) = true := by
    refine List.all_eq_true.2 fun n hn => List.all_eq_true.1 hsz n (DataW.weights_mem_each ht hd n ?_)
    simp only [DataW.weights, Try.underlying77]
    exact hn
  have h := sized_string hin (j := 0) (t := 9) rfl rfl
  unfold reachBytes at h
  have e : bs.data.toList.length = bs.size := rfl
  omega
set_option maxRecDepth 100000 in
theorem blockOpens_lifted (os : Os) (started : os.Started) (H : Type) (enc : TypeId × Value → H) :
    ReturnsInHanded {} Try.checked os 13 .any (Rows.blockOpensSpec.pre6 enc Try.prog Try.f13 Rows.blockOpensRow.domain false) (Rows.blockOpensSpec.post enc Try.prog Try.f13 false true false false) := by
  refine returnsInHanded_of_change_sized (C := Try.checked) Try.own started (by kernel_rfl) Try.func13
    (ChangeSpec.witness6 (enc := enc) (C := Try.checked) false ⟨#[], #[.agg #[.string .empty, .string .empty, .int .u64 0, .string .empty, .int .i64 0]], []⟩ 8 (by kernel_rfl) (by kernel_rfl) (by kernel_rfl) (by kernel_rfl)) ?_
  intro W base args ds gs before hval0 hW _ hsz _
  have hval : ∀ (j : Nat) t v, Try.f13.params[j]? = some t → args[j]? = some v → Value.okWide Try.prog W .any base t v := hval0
  have hW' : DataW.Whole enc Try.prog Try.f13.params.toList Rows.blockOpensSpec.vars false W args.toList ds gs before := hW
  obtain ⟨p, q, hA0, hV, rfl, hfz, hnd⟩ := hW
  have hA : DataW.TrodAll enc Try.prog W 0 (fun _ => true) true Try.f13.params.toList args.toList ds p := hA0
  rw [Try.params13] at hA hval hsz
  obtain ⟨v0, d0, rfl, rfl, h0⟩ := trodAll_one hA
  obtain ⟨rfl, rfl⟩ := trodVars_none hV
  obtain ⟨bs, key, til, seq, stop, y1, y2, y3, y4, rfl, rfl⟩ := open_asking (hval 0 77 v0 rfl rfl) h0
  have hl0 := asking_len hsz (j := 0) rfl rfl
  refine (opens_walk bs key til seq stop hl0 W).mono fun e W' ⟨he, hb⟩ => ?_
  subst he
  exact ⟨_, rfl, law_post rfl hW' rfl rfl rfl rfl (by rw [Try.params13]; intro t ht; simp at ht; rcases ht with rfl; exact ⟨by kernel_rfl, of_decide_eq_true (by kernel_rfl)⟩) hb⟩

theorem blockOpens_holds : Rows.BlockOpensSaid :=
  OpenClaim.holds_of_wide 13 Try.f13 rfl rfl rfl rfl rfl rfl rfl ⟨rfl, rfl, rfl, rfl, rfl⟩ rfl rfl rfl rfl rfl (by kernel_rfl) Try.func13 (by kernel_rfl)
    (of_decide_eq_true (by kernel_rfl)) (by unfold Func.isWrapper; rw [if_neg (of_decide_eq_false (by kernel_rfl))]; exact ⟨rfl, rfl⟩)
    (fun os started H enc _ => blockOpens_lifted os started H enc)

end Go.Proofs.Ytbcaiegglbdonaa
