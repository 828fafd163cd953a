import Derived.Test.YtbcaiegglbdonaaLeaf
import Derived.Test.YtbcaiegglbdonaaMemRep
import Derived.Deep.LoopGhost
namespace Go.Proofs.Ytbcaiegglbdonaa
open Go.RowKit

def lessC (c : Cell) (key : ByteArray) (seq : Int) : Int := cellCmp c.key c.seq key seq
def outp (hb : Nat) (A : List Node) (l : Nat) : Value := .pointer (some ⟨lastAt l hb A, 0, none⟩)
def outAgg (hb : Nat) (A : List Node) : Value := .agg (arr12 (outp hb A))
theorem outv_zero (hb : Nat) (A : List Node) : arr12 (outv 0 hb A) = arr12 (outp hb A) := arr12_congr fun i _ => by unfold outv outp; rw [if_pos (by omega)]

def AheadRel (w : World) (hb : Nat) (A : List Node) (res out : Nat) (n lv : Value) (wr : World) : Prop :=
  ∃ k : Nat, k ≤ 12 ∧ lv = .int .i64 ((k : Int) - 1) ∧ n = .pointer (some ⟨lastAt k hb A, 0, none⟩) ∧ Blk wr out (arr12 (outv k hb A)) 103 ∧ Blk wr res (arr12 fun _ => .pointer none) 103 ∧ Below w.heap.size w wr
def AheadIn (wo : World) (l hb : Nat) (A : List Node) (k : Nat) (n : Value) (wi : World) : Prop :=
  ∃ p suf, n = .pointer (some ⟨p, 0, none⟩) ∧ Stands l hb A p suf ∧ suf.length ≤ k ∧ Below wo.heap.size wo wi
theorem nodeArr_cells {w : World} {b : Nat} {c : Cell} {f : Nat → Value} {t : TypeId} (h : Blk w b (nodeArr c f) t) :
    w.cell? ⟨b, 0, none⟩ = some (.string c.key) ∧ w.cell? ⟨b, 1, none⟩ = some (.int .u64 c.seq) ∧ w.cell? ⟨b, 2, none⟩ = some (.string c.val) ∧ w.cell? ⟨b, 3, none⟩ = some (.bool c.gone) :=
  ⟨h.cell 0 _ rfl, h.cell 1 _ rfl, h.cell 2 _ rfl, h.cell 3 _ rfl⟩
theorem bcell {W w1 : World} (hb : Below W.heap.size W w1) : (∀ b o, b < W.heap.size → w1.cell? ⟨b, o, none⟩ = W.cell? ⟨b, o, none⟩) ∧ (∀ b o, b < W.heap.size → w1.frozen? ⟨b, o, none⟩ = W.frozen? ⟨b, o, none⟩) :=
  ⟨fun b o h => hb.cell (p := ⟨b, o, none⟩) h, fun b o h => hb.frozen (p := ⟨b, o, none⟩) h⟩

theorem arr12_cells {w : World} {b : Nat} {f : Nat → Value} {t : TypeId} (h : Blk w b (arr12 f) t) :
    w.cell? ⟨b, 0, none⟩ = some (f 0) ∧ w.cell? ⟨b, 1, none⟩ = some (f 1) ∧ w.cell? ⟨b, 2, none⟩ = some (f 2) ∧ w.cell? ⟨b, 3, none⟩ = some (f 3) ∧ w.cell? ⟨b, 4, none⟩ = some (f 4) ∧ w.cell? ⟨b, 5, none⟩ = some (f 5) ∧
    w.cell? ⟨b, 6, none⟩ = some (f 6) ∧ w.cell? ⟨b, 7, none⟩ = some (f 7) ∧ w.cell? ⟨b, 8, none⟩ = some (f 8) ∧ w.cell? ⟨b, 9, none⟩ = some (f 9) ∧ w.cell? ⟨b, 10, none⟩ = some (f 10) ∧ w.cell? ⟨b, 11, none⟩ = some (f 11) :=
  ⟨h.cell 0 _ rfl, h.cell 1 _ rfl, h.cell 2 _ rfl, h.cell 3 _ rfl, h.cell 4 _ rfl, h.cell 5 _ rfl, h.cell 6 _ rfl, h.cell 7 _ rfl, h.cell 8 _ rfl, h.cell 9 _ rfl, h.cell 10 _ rfl, h.cell 11 _ rfl⟩
theorem outv_top (hb : Nat) (A : List Node) : arr12 (outv 12 hb A) = arr12 fun _ => .pointer none := arr12_congr fun i hi => by unfold outv; rw [if_neg (by omega)]

theorem ahead_close {w wr : World} {hb : Nat} {A : List Node} {l p : Nat} (hp : p = lastAt l hb A) (hl : l < 12) (hout : Blk wr (w.heap.size + 1) (arr12 (outv (l + 1) hb A)) 103)
    (hres : Blk wr w.heap.size (arr12 fun _ => .pointer none) 103) (hbel : Below w.heap.size w wr) (_h : l ≤ 12) :
    AheadRel w hb A w.heap.size (w.heap.size + 1) (.pointer (some ⟨p, 0, none⟩)) (.int .i64 ((l : Int) - 1)) (wr.setCell ⟨w.heap.size + 1, l, none⟩ (.pointer (some ⟨p, 0, none⟩))) := by
  subst hp
  refine ⟨l, by omega, rfl, rfl, ?_, hres.setCell_ne (by omega) _ _, hbel.setCell (by simp) _⟩
  have h := hout.setCell l (.pointer (some ⟨lastAt l hb A, 0, none⟩))
  rw [arr12_set _ hl, outv_step] at h
  exact h

set_option maxRecDepth 100000 in
set_option maxHeartbeats 1000000 in
theorem ahead_spec {w : World} {a hb : Nat} {A B : List Node} {sz : Int} (hs : Skip w a hb (A ++ B) sz) (key : ByteArray) (seq : Int)
    (hA : ∀ n ∈ A, lessC n.c key seq < 0) (hB : ∀ n ∈ B, 0 ≤ lessC n.c key seq) :
    Calls Try.prog 75 #[.pointer (some ⟨a, 0, none⟩), .string key, .int .u64 seq] w fun e w' => e = .returned (outAgg hb A) ∧ Below w.heap.size w w' := by
  have hm0 : w.cell? ⟨a, 0, none⟩ = some (.pointer (some ⟨hb, 0, none⟩)) := hs.mem.cell 0 _ rfl
  have ha : a < w.heap.size := hs.mem.lt
  go_enter Try.func75, Try.ntmps75
  go_wp2
  go_loopw [8, 9] (AheadRel w hb A w.heap.size (w.heap.size + 1)) (fun _ lv _ => (intOf lv + 1).toNat)
  case atStart =>
    have ht : lastAt 12 hb A = hb := lastAt_top fun n hn => hs.hts n (by simp [hn])
    exact ⟨12, by omega, rfl, by rw [ht], by have h := Blk.new (w.alloc (.cells (arr12 fun _ => .pointer none) 103)) (arr12 fun _ => .pointer none) 103; rw [World.size_alloc] at h; rw [outv_top]; exact h, (Blk.new w _ _).alloc _, ((Below.refl _ _).alloc (Nat.le_refl _) _).alloc (by simp) _⟩
  case round =>
    obtain ⟨k, hk, rfl, rfl, hout, hres, hbel⟩ := hrel
    cases k with
    | zero =>
      rw [outv_zero] at hout
      obtain ⟨c0, c1, c2, c3, c4, c5, c6, c7, c8, c9, c10, c11⟩ := arr12_cells hout
      obtain ⟨d0, d1, d2, d3, d4, d5, d6, d7, d8, d9, d10, d11⟩ := arr12_cells hres
      have hf := hres.frozen
      unfold outp at c0 c1 c2 c3 c4 c5 c6 c7 c8 c9 c10 c11
      go_wp2
      refine bodyPost_ret (v := outAgg hb A) ?_ rfl ⟨rfl, ?_⟩
      · simp [results, Try.results75, go_sem, outAgg, arr12, outp, d0, d1, d2, d3, d4, d5, d6, d7, d8, d9, d10, d11]
      · exact (((((((((((((hbel.setCell (by simp) _).setCell (by simp) _).setCell (by simp) _).setCell (by simp) _).setCell (by simp) _).setCell (by simp) _).setCell (by simp) _).setCell (by simp) _).setCell (by simp) _).setCell (by simp) _).setCell (by simp) _).setCell (by simp) _))
    | succ l =>
      obtain ⟨wo, rfl⟩ : ∃ wo : World, wo = wr := ⟨_, rfl⟩
      rw [show ((l + 1 : Nat) : Int) - 1 = (l : Int) by omega]
      have hl : l < 12 := by omega
      obtain ⟨suf0, hst0⟩ := lastAt_stands (k := l + 1) (l := l) (hb := hb) (A := A) (by omega)
      go_wp2
      go_loopg [8] suf0.length (AheadIn wo l hb A)
      case atStart => exact ⟨_, suf0, rfl, hst0, Nat.le_refl _, Below.refl _ _⟩
      case round =>
        obtain ⟨p, suf, rfl, hp, hgk, hbi⟩ := hrel
        have hsk : Skip wr a hb (A ++ B) sz := (hs.kept hbel).kept hbi
        obtain ⟨cp, fp, hbp, hfp⟩ := hp.blk hsk hl
        have hcn := hbp.cell (4 + l) _ (nodeArr_get cp fp hl)
        rw [hfp] at hcn
        have hpl : p < wr.heap.size := hbp.lt
        clear hfp hbp
        rcases nxt_cases l suf B with ⟨pre, n, suf', rfl, hln, _, hnx⟩ | ⟨hno, hnx⟩
        · -- a node of A comes next: on
          rw [hnx] at hcn
          have hcn' : wr.cell? ⟨p, 4 + l, none⟩ = some (.pointer (some ⟨n.b, 0, none⟩)) := hcn
          clear hcn hnx
          have hnA : n ∈ A := hp.mem
          obtain ⟨fn, hbn⟩ := hsk.nodes.mem (n := n) (by simp [hnA])
          have hneg := hA n hnA
          unfold lessC at hneg
          obtain ⟨k0, k1, k2, k3⟩ := nodeArr_cells hbn
          clear hbn
          go_wp2_with (go_at_call 76; refine (mem_compare _ _ _ _ _ _ _).mono ?_; rintro e w' ⟨rfl, hb1⟩; obtain ⟨hc, hf⟩ := bcell hb1)
          go_roundg suf'.length
          case measure => simp at hgk; omega
          case rel => exact ⟨n.b, suf', rfl, hp.step hln, Nat.le_refl _, hbi.trans (hb1.mono hbi.size)⟩
        · have hlast : p = lastAt l hb A := hp.last hno
          have HL := Lib.hid hlast
          clear hlast
          rw [hnx] at hcn
          clear hnx
          have hno' : wr.cell? ⟨w.heap.size + 1, l, none⟩ = some (outv (l + 1) hb A l) := (hout.kept hbi).cell l _ (arr12_get _ hl)
          have hfo : ∀ i, wr.frozen? ⟨w.heap.size + 1, i, none⟩ = false := (hout.kept hbi).frozen
          have hol : w.heap.size + 1 < wr.heap.size := (hout.kept hbi).lt
          rcases nxt_none_or l B with hn0 | ⟨n, hnB, hln, hn0⟩
          · rw [hn0] at hcn
            have hcn' : wr.cell? ⟨p, 4 + l, none⟩ = some (.pointer none) := hcn
            clear hcn hn0
            go_wp2
            go_roundw
            case rel => exact ahead_close HL.out hl ((hout.kept hbi)) (hres.kept hbi) (hbel.trans (hbi.mono hbel.size)) (by omega)
            case measure => simp [intOf]
          · rw [hn0] at hcn
            have hcn' : wr.cell? ⟨p, 4 + l, none⟩ = some (.pointer (some ⟨n.b, 0, none⟩)) := hcn
            clear hcn hn0
            obtain ⟨fn, hbn⟩ := hsk.nodes.mem (n := n) (by simp [hnB])
            have hneg := hB n hnB
            unfold lessC at hneg
            obtain ⟨k0, k1, k2, k3⟩ := nodeArr_cells hbn
            clear hbn
            go_wp2_with (go_at_call 76; refine (mem_compare _ _ _ _ _ _ _).mono ?_; rintro e w' ⟨rfl, hb1⟩; obtain ⟨hc, hf⟩ := bcell hb1)
            go_roundw
            case rel => exact ahead_close HL.out hl (((hout.kept hbi)).kept hb1) ((hres.kept hbi).kept hb1) ((hbel.trans (hbi.mono hbel.size)).trans (hb1.mono (Nat.le_trans hbel.size hbi.size))) (by omega)
            case measure => simp [intOf]

end Go.Proofs.Ytbcaiegglbdonaa
