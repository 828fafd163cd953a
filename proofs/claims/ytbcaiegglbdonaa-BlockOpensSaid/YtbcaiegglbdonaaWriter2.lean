/-
  The codec's Writer: Varint, Raw, U8, U16, U32, Len, Done, NewWriter.
-/
import Derived.Test.YtbcaiegglbdonaaWriter
import Derived.Lib.ConvBytes
namespace Go.Proofs.Ytbcaiegglbdonaa
open Go Go.RowKit

theorem own_src {w : World} {B e k n c : Nat} {A : Addr} {xs : List Value} (h : w.ownsRow B e k (.slice (some A) n c) n xs) : ∀ j u, xs[j]? = some u → w.cell? (A.add j) = some u := by
  rcases h.2 with ⟨h1, _⟩ | ⟨g, cap', cur, h1, _⟩
  · cases h1
  · cases h1
    exact h.cells rfl
theorem PutsW.pre {w w1 w' : World} {base p : Nat} {F : Nat → Prop} {st : Option (List UInt8)} {e : Ending} (hb : Below w.heap.size w w1) (h : PutsW w1 base p F st e w') : PutsW w base p F st e w' := by
  obtain ⟨h1, F', h2, h3, h4⟩ := h
  exact ⟨h1, F', h2, fun k hk => (h3 k hk).imp id (fun h => Nat.le_trans hb.size h), (Only.of_below hb).trans h4⟩
set_option maxRecDepth 100000 in
set_option maxHeartbeats 1000000 in
theorem writer_varint {w : World} {base p : Nat} {F : Nat → Prop} {st : Option (List UInt8)} (h : WrIs w base p F st) (hB : base ≤ w.heap.size) (n : Nat) (hn : n < 18446744073709551616) :
    Calls Try.prog 86 #[.pointer (some ⟨p, 0, none⟩), .int .u64 n] w (PutsW w base p F (putW st (varN n))) := by
  have HW := Lib.hid h
  clear h
  go_enter Try.func86, Try.ntmps86
  go_wp2_with fail
  refine (varint_spec n hn w).mono ?_
  rintro e w1 ⟨A, c, rfl, hown, hb1⟩
  have HO := Lib.hid hown
  clear hown
  go_wp2_with fail
  refine (writer_put (HW.out.kept hb1) (Nat.le_trans hB hb1.size) (own_src HO.out)).mono ?_
  rintro e w2 h2
  have h3 := h2.pre hb1
  obtain ⟨rfl, h4⟩ := h3
  clear h2
  go_wp2_with fail
  exact body_none rfl rfl ⟨rfl, h4⟩

theorem bytes_below (w : World) (s : ByteArray) : Below w.heap.size w (Lib.bytesWorld w 5 s) :=
  ⟨rfl, rfl, rfl, by rw [Lib.bytesWorld_size]; omega, fun k hk => Lib.bytesWorld_at_old w 5 s k hk⟩
set_option maxRecDepth 100000 in
set_option maxHeartbeats 1000000 in
theorem writer_raw {w : World} {base p : Nat} {F : Nat → Prop} {st : Option (List UInt8)} (h : WrIs w base p F st) (hB : base ≤ w.heap.size) (s : ByteArray) :
    Calls Try.prog 88 #[.pointer (some ⟨p, 0, none⟩), .string s] w (PutsW w base p F (putW st s.data.toList)) := by
  have HW := Lib.hid h
  clear h
  have hcv : ∀ W, (convert 9 74 (.string s)).run Try.prog W = .ok (.slice (some ⟨W.heap.size, 0, none⟩) s.size (grownCap W s.size 0 5)) (Lib.bytesWorld W 5 s) := fun W => Lib.run_convert_string_bytes W 9 74 5 s Try.underlying9 Try.underlying74 Try.underlying5
  go_enter Try.func88, Try.ntmps88
  go_wp2_with fail
  have hbb := bytes_below w s
  refine (writer_put (d := s.data.toList) (HW.out.kept hbb) (Nat.le_trans hB hbb.size) (ad := ⟨w.heap.size, 0, none⟩) (c := grownCap w s.size 0 5) (fun j u hj => ?_)).mono ?_
  · have hjl := (List.getElem?_eq_some_iff.1 hj).1
    rw [bv_len] at hjl
    rw [add_at rfl]
    show World.cell? _ ⟨w.heap.size, 0 + j, none⟩ = _
    rw [Nat.zero_add, Lib.bytesWorld_cell w 5 s j (by simpa using hjl)]
    unfold bv at hj
    rw [List.getElem?_map, List.getElem?_eq_getElem hjl] at hj
    simp at hj
    subst hj
    simp [List.getD, List.getElem?_eq_getElem hjl]
  rintro e w2 h2
  have h3 := h2.pre hbb
  obtain ⟨rfl, h4⟩ := h3
  clear h2 hcv
  go_wp2_with fail
  exact body_none rfl rfl ⟨rfl, h4⟩

theorem make_bytes (k : Nat) (hk : k ≤ 1000) (w : World) : (Instr.makeSlice 74 (.int .i64 k) (.int .i64 k)).run Try.prog w = .ok (.slice (some ⟨w.heap.size, 0, none⟩) k k) (w.alloc (.cells (madeCells #[.int .u8 0] k) 5)) := by
  obtain ⟨i0, hi, hz0, hz1, hz2⟩ := info_parts Try.infoByte
  have := run_makeSlice (P := Try.prog) w 74 5 i0 _ Try.underlying74 hi hz0 .i64 .i64 k k (by omega) (by omega) (by rw [hz1]; simp; omega) (by rw [hz2]; omega) (by omega)
  rw [this, hz1]
  simp [Value.cells]
/-- The end of a number: its bytes lie in a new block. -/
theorem put_new_bytes {w : World} {base p : Nat} {F : Nat → Prop} {st : Option (List UInt8)} (h : WrIs w base p F st) (hB : base ≤ w.heap.size) (d : List UInt8) (arr : Array Value) (ha : arr = (bv d).toArray) (c : Nat) :
    Calls Try.prog 128 #[.pointer (some ⟨p, 0, none⟩), .slice (some ⟨w.heap.size, 0, none⟩) d.length c] (w.alloc (.cells arr 5)) (PutsW w base p F (putW st d)) := by
  subst ha
  have hb : Below w.heap.size w (w.alloc (.cells (bv d).toArray 5)) := (Below.refl _ _).alloc (Nat.le_refl _) _
  refine (writer_put (h.kept hb) (Nat.le_trans hB hb.size) (fun j u hj => ?_)).mono fun e w' h2 => h2.pre hb
  rw [add_at rfl]
  have := (Blk.new w (bv d).toArray 5).cell j u (by simpa using hj)
  simpa using this
set_option maxRecDepth 100000 in
set_option maxHeartbeats 1000000 in
theorem number_u8 {w : World} {base p : Nat} {F : Nat → Prop} {st : Option (List UInt8)} (h : WrIs w base p F st) (hB : base ≤ w.heap.size) (n : Nat) (hn : n < 256) :
    Calls Try.prog 130 #[.pointer (some ⟨p, 0, none⟩), .int .u8 n, .int .i64 1] w (PutsW w base p F (putW st [UInt8.ofNat n])) := by
  have HW := Lib.hid h
  clear h
  have hmk : ∀ W, (Instr.makeSlice 74 (.int .i64 1) (.int .i64 1)).run Try.prog W = .ok (.slice (some ⟨W.heap.size, 0, none⟩) 1 1) (W.alloc (.cells #[.int .u8 0] 5)) := fun W => by
    have := make_bytes 1 (by decide) W
    rw [show madeCells #[.int .u8 0] 1 = #[.int .u8 0] from by kernel_rfl] at this
    exact this
  go_enter Try.func130, Try.ntmps130
  go_wp2_with fail
  refine wp_loop_rounds 3 ?_
  rw [rounds_succ]
  go_wp2_with fail
  rw [rounds_succ]
  go_wp2_with fail
  refine (put_new_bytes HW.out hB [UInt8.ofNat n] _ ?_ 1).mono ?_
  · simp [bv]; omega
  rintro e w2 ⟨rfl, h4⟩
  go_wp2_with fail
  exact body_none rfl rfl ⟨rfl, h4⟩
def be4 (n : Nat) : List UInt8 := [UInt8.ofNat (n / 16777216), UInt8.ofNat (n / 65536), UInt8.ofNat (n / 256), UInt8.ofNat n]
def be2 (n : Nat) : List UInt8 := [UInt8.ofNat (n / 256), UInt8.ofNat n]
set_option maxRecDepth 100000 in
set_option maxHeartbeats 1000000 in
theorem number_u32 {w : World} {base p : Nat} {F : Nat → Prop} {st : Option (List UInt8)} (h : WrIs w base p F st) (hB : base ≤ w.heap.size) (n : Nat) (hn : n < 4294967296) :
    Calls Try.prog 131 #[.pointer (some ⟨p, 0, none⟩), .int .u32 n, .int .i64 4] w (PutsW w base p F (putW st (be4 n))) := by
  have HW := Lib.hid h
  clear h
  have hmk : ∀ W, (Instr.makeSlice 74 (.int .i64 4) (.int .i64 4)).run Try.prog W = .ok (.slice (some ⟨W.heap.size, 0, none⟩) 4 4) (W.alloc (.cells #[.int .u8 0, .int .u8 0, .int .u8 0, .int .u8 0] 5)) := fun W => by
    have := make_bytes 4 (by decide) W
    rw [show madeCells #[.int .u8 0] 4 = #[.int .u8 0, .int .u8 0, .int .u8 0, .int .u8 0] from by kernel_rfl] at this
    exact this
  go_enter Try.func131, Try.ntmps131
  go_wp2_with fail
  refine wp_loop_rounds 6 ?_
  rw [rounds_succ]
  go_wp2_with fail
  rw [rounds_succ]
  go_wp2_with fail
  rw [rounds_succ]
  go_wp2_with fail
  rw [rounds_succ]
  go_wp2_with fail
  rw [rounds_succ]
  go_wp2_with fail
  refine (put_new_bytes HW.out hB (be4 n) _ ?_ 4).mono ?_
  · simp [bv, be4, UInt8.toNat_ofNat']; omega
  rintro e w2 ⟨rfl, h4⟩
  go_wp2_with fail
  exact body_none rfl rfl ⟨rfl, h4⟩
set_option maxRecDepth 100000 in
set_option maxHeartbeats 1000000 in
theorem number_u16 {w : World} {base p : Nat} {F : Nat → Prop} {st : Option (List UInt8)} (h : WrIs w base p F st) (hB : base ≤ w.heap.size) (n : Nat) (hn : n < 65536) :
    Calls Try.prog 132 #[.pointer (some ⟨p, 0, none⟩), .int .u16 n, .int .i64 2] w (PutsW w base p F (putW st (be2 n))) := by
  have HW := Lib.hid h
  clear h
  have hmk : ∀ W, (Instr.makeSlice 74 (.int .i64 2) (.int .i64 2)).run Try.prog W = .ok (.slice (some ⟨W.heap.size, 0, none⟩) 2 2) (W.alloc (.cells #[.int .u8 0, .int .u8 0] 5)) := fun W => by
    have := make_bytes 2 (by decide) W
    rw [show madeCells #[.int .u8 0] 2 = #[.int .u8 0, .int .u8 0] from by kernel_rfl] at this
    exact this
  go_enter Try.func132, Try.ntmps132
  go_wp2_with fail
  refine wp_loop_rounds 6 ?_
  rw [rounds_succ]
  go_wp2_with fail
  rw [rounds_succ]
  go_wp2_with fail
  rw [rounds_succ]
  go_wp2_with fail
  refine (put_new_bytes HW.out hB (be2 n) _ ?_ 2).mono ?_
  · simp [bv, be2, UInt8.toNat_ofNat']; omega
  rintro e w2 ⟨rfl, h4⟩
  go_wp2_with fail
  exact body_none rfl rfl ⟨rfl, h4⟩
set_option maxRecDepth 100000 in
theorem writer_u8 {w : World} {base p : Nat} {F : Nat → Prop} {st : Option (List UInt8)} (h : WrIs w base p F st) (hB : base ≤ w.heap.size) (n : Nat) (hn : n < 256) :
    Calls Try.prog 87 #[.pointer (some ⟨p, 0, none⟩), .int .u8 n] w (PutsW w base p F (putW st ([UInt8.ofNat n]))) := by
  have HN := Lib.hid (number_u8 h hB n hn)
  clear h
  go_enter Try.func87, Try.ntmps87
  go_wp2_with fail
  refine HN.out.mono ?_
  rintro e w2 ⟨rfl, h4⟩
  go_wp2_with fail
  exact body_none rfl rfl ⟨rfl, h4⟩
set_option maxRecDepth 100000 in
theorem writer_u32 {w : World} {base p : Nat} {F : Nat → Prop} {st : Option (List UInt8)} (h : WrIs w base p F st) (hB : base ≤ w.heap.size) (n : Nat) (hn : n < 4294967296) :
    Calls Try.prog 89 #[.pointer (some ⟨p, 0, none⟩), .int .u32 n] w (PutsW w base p F (putW st (be4 n))) := by
  have HN := Lib.hid (number_u32 h hB n hn)
  clear h
  go_enter Try.func89, Try.ntmps89
  go_wp2_with fail
  refine HN.out.mono ?_
  rintro e w2 ⟨rfl, h4⟩
  go_wp2_with fail
  exact body_none rfl rfl ⟨rfl, h4⟩
set_option maxRecDepth 100000 in
theorem writer_u16 {w : World} {base p : Nat} {F : Nat → Prop} {st : Option (List UInt8)} (h : WrIs w base p F st) (hB : base ≤ w.heap.size) (n : Nat) (hn : n < 65536) :
    Calls Try.prog 90 #[.pointer (some ⟨p, 0, none⟩), .int .u16 n] w (PutsW w base p F (putW st (be2 n))) := by
  have HN := Lib.hid (number_u16 h hB n hn)
  clear h
  go_enter Try.func90, Try.ntmps90
  go_wp2_with fail
  refine HN.out.mono ?_
  rintro e w2 ⟨rfl, h4⟩
  go_wp2_with fail
  exact body_none rfl rfl ⟨rfl, h4⟩

def lenW (st : Option (List UInt8)) : Nat := (st.map List.length).getD 0
set_option maxRecDepth 100000 in
theorem writer_len {w : World} {base p : Nat} {F : Nat → Prop} {st : Option (List UInt8)} (h : WrIs w base p F st) :
    Calls Try.prog 84 #[.pointer (some ⟨p, 0, none⟩)] w fun e w' => e = .returned (.int .i64 (lenW st)) ∧ w = w' := by
  obtain ⟨v, l, h1, h2, h3, h4, h5, h6⟩ := h.ex
  obtain ⟨A, cap, rfl⟩ := (Reads.of_own h2).form
  have c1 : w.cell? ⟨p, 1, none⟩ = some (.slice A l.length cap) := h1.cell 1 _ rfl
  have c2 : w.cell? ⟨p, 2, none⟩ = some (.bool st.isNone) := h1.cell 2 _ rfl
  have pl := h1.lt
  clear h h1 h2 h4
  rcases h3 with rfl | rfl
  · have c2' : w.cell? ⟨p, 2, none⟩ = some (.bool true) := c2
    clear c2
    go_enter Try.func84, Try.ntmps84
    go_wp2_with fail
    go_ret
    exact ⟨rfl, rfl⟩
  · have c2' : w.cell? ⟨p, 2, none⟩ = some (.bool false) := c2
    clear c2
    go_enter Try.func84, Try.ntmps84
    go_wp2_with fail
    go_ret
    exact ⟨rfl, rfl⟩
def strW (st : Option (List UInt8)) : ByteArray := ⟨(st.getD []).toArray⟩
def errW (st : Option (List UInt8)) : Int := if st.isNone then 3 else 0
theorem conv_own {w : World} {B n : Nat} {v : Value} {l : List UInt8} (hown : w.ownsRow B 5 1 v n (bv l)) : (convert 74 9 v).run Try.prog w = .ok (.string ⟨l.toArray⟩) w := by
  have hl : l.length = n := by have := hown.1; rw [bv_len] at this; omega
  obtain ⟨A, cap, rfl⟩ := (Reads.of_own hown).form
  rcases hown.2 with ⟨h1, h2⟩ | ⟨g, cap', cur, h1, _⟩
  · cases h1
    have : l = [] := List.eq_nil_of_length_eq_zero (by omega)
    subst this
    have := run_convert_bytes_nil (P := Try.prog) w 74 5 Try.underlying74 Try.underlying5 0 0 9 Try.underlying9
    exact this
  · cases h1
    have := run_convert_bytes_arg (P := Try.prog) w 74 5 Try.underlying74 Try.underlying5 g 0 n cap (l.map fun b => (b.toNat : Int)) (by simpa using hl) (fun i hi => by
      have := hown.cells rfl i (.int .u8 ((l[i]'(by omega)).toNat : Int)) (by simp [bv, hl, hi])
      rw [add_at rfl] at this
      simpa [hl, hi, List.getD] using this) 9 Try.underlying9
    have hs : strOfNums (l.map fun b => (b.toNat : Int)) = ⟨l.toArray⟩ := by
      unfold strOfNums
      rw [List.map_map]
      have h1 : ((fun n : Int => UInt8.ofNat n.toNat) ∘ fun b : UInt8 => (b.toNat : Int)) = id := by funext b; simp
      rw [h1, List.map_id]
    rw [this, hs]
set_option maxRecDepth 100000 in
theorem writer_done {w : World} {base p : Nat} {F : Nat → Prop} {st : Option (List UInt8)} (h : WrIs w base p F st) :
    Calls Try.prog 91 #[.pointer (some ⟨p, 0, none⟩)] w fun e w' => e = .returned (.tuple #[.string (strW st), .int .i64 (errW st)]) ∧ w = w' := by
  obtain ⟨v, l, h1, h2, h3, h4, h5, h6⟩ := h.ex
  have hcv := conv_own h2
  obtain ⟨A, cap, rfl⟩ := (Reads.of_own h2).form
  have c1 : w.cell? ⟨p, 1, none⟩ = some (.slice A l.length cap) := h1.cell 1 _ rfl
  have c2 : w.cell? ⟨p, 2, none⟩ = some (.bool st.isNone) := h1.cell 2 _ rfl
  have pl := h1.lt
  clear h h1 h2 h4
  rcases h3 with rfl | rfl
  · have c2' : w.cell? ⟨p, 2, none⟩ = some (.bool true) := c2
    clear c2
    go_enter Try.func91, Try.ntmps91
    go_wp2_with fail
    go_ret2
    exact ⟨rfl, rfl⟩
  · have c2' : w.cell? ⟨p, 2, none⟩ = some (.bool false) := c2
    clear c2
    go_enter Try.func91, Try.ntmps91
    go_wp2_with fail
    go_ret2
    exact ⟨rfl, rfl⟩
set_option maxRecDepth 100000 in
theorem writer_new (w : World) : Calls Try.prog 83 #[.int .i64 1099511627776] w fun e w' => e = .returned (.pointer (some ⟨w.heap.size, 0, none⟩)) ∧ WrIs w' w.heap.size w.heap.size (fun k => k = w.heap.size) (some []) ∧ Below w.heap.size w w' ∧ w'.heap.size = w.heap.size + 1 := by
  go_enter Try.func83, Try.ntmps83
  go_wp2_with fail
  go_ret
  exact ⟨rfl, ⟨⟨.slice none 0 0, [], Blk.new _ _ _, World.ownsRow_nil _ _ _ _, .inr rfl, by simp, rfl, fun g hg => by cases hg⟩, fun k hk => by subst hk; simp⟩, (Below.refl _ _).alloc (Nat.le_refl _) _, by simp⟩
end Go.Proofs.Ytbcaiegglbdonaa
