/-
  Parts of the proof of the law LinModel: LFmt, LClo, MEqs, LEnt, LDis.
-/
import Derived.Test.YtmdgeknnhckgfaaGreatDoorS09
import Derived.Test.YtmdgeknnhckgfaaGreatDoorS12
import Derived.Test.YtmdgeknnhckgfaaGreatDoorS15
import Derived.Test.YtmdgeknnhckgfaaGreatDoorS24
import Derived.Test.YtmdgeknnhckgfaaGreatDoorS28
import Derived.Test.YtmdgeknnhckgfaaGreatDoorS32
import Derived.Lib.ItoaMem
import Derived.Lib.ItoaLen
import Derived.Lib.Hide
import Derived.Laws.Concat
import Derived.Lib.OthersKept
set_option linter.unusedSimpArgs false
set_option linter.unusedVariables false
namespace Go.Proofs.YtmdgeknnhckgfaaGreatDoor
open Go Go.RowKit Go.Sort Go.Lib Go.Shelf
theorem holds_zero0 (w:World) (T:TypeId) (nd:Nat) (hs:nd≤24):Holds (fun (b:UInt8)=>Value.int .u8 (b.toNat:Int)) (w.alloc (.cells zeros24 T)) w.heap.size 0 (Array.replicate nd (0:UInt8)):=fun j hj=>by
  have hj':j<nd:=by simpa using hj
  refine ⟨?_,World.frozen?_alloc_new _ _ _ _⟩
  rw [World.cell?_alloc_new,zeros24_at _ (by omega),getElem!_pos _ j hj]
  simp
set_option maxRecDepth 100000 in
set_option maxHeartbeats 4000000 in
theorem mod_fmt110 (u:Nat) (hu64:u<18446744073709551616) (w:World) (htab:Lib.TabIs Tryz.prog w "internal/strconv.uint64pow10" .u64 Lib.pow10Tab) :
    Calls Tryz.prog 110 #[.int .u64 u,.int .i64 10] w fun e w'=>∃ s:ByteArray,e=.returned (.string s)∧s.size≤100∧Below w.heap.size w w':=by
  by_cases hs:u<100
  · have HS:=Lib.hid (Tryz.internal_strconv_small u hs w)
    have hi:(u:Int)<100:=by omega
    have hsz:(Lib.decDigits u).length≤20:=by rw [Lib.decDigits_length];exact Lib.nDigits_le20 u hu64
    have HZ:=Lib.hid hsz
    clear hsz
    go_enter Tryz.func110,Tryz.ntmps110
    go_wp2_with fail
    refine HS.out.mono ?_
    rintro e w1 ⟨rfl,hw⟩
    obtain rfl:=hw.symm
    clear hw
    go_wp2_with fail
    go_ret
    exact ⟨_,rfl,by show (Lib.decDigits u).toArray.size≤100;rw [List.size_toArray];have:=HZ.out;omega,Below.refl _ _⟩
  · have hu1:1≤u:=by omega
    have hnd20:Lib.nDigits u≤20:=Lib.nDigits_le20 u hu64
    have hal:Tryz.prog.arrayLen 202=24:=by simp [Program.arrayLen,Tryz.underlying202]
    have hsl1:∀ W,(Instr.sliceAt 202 (.pointer (some ⟨w.heap.size,0,none⟩)) none (some (.int .i64 (Lib.nDigits u:Int))) none).run Tryz.prog W=.ok (.slice (some ⟨w.heap.size,0,none⟩) (Lib.nDigits u) 24) W:=fun W=>by
      rw [run_sliceAt_array_h W 202 ⟨w.heap.size,0,none⟩ (by simp [Program.arrayLen,Program.elem,Tryz.underlying202]) .i64 (Lib.nDigits u:Int) (by omega) (by rw [hal];omega)]
      go_simp
    have hH0:=holds_zero0 w 202 (Lib.nDigits u) (by omega)
    have hfmt:=Tryz.internal_strconv_formatBase10 w.heap.size 0 24 u (Array.replicate (Lib.nDigits u) 0) (w.alloc (.cells Lib.zeros24 202)) hH0 (by rw [Array.size_replicate];exact Lib.lt_pow_nDigits u) hu64 (by rw [Array.size_replicate];omega)
    rw [Array.size_replicate] at hfmt
    have HH0:=Lib.hid hH0
    have HFM:=Lib.hid hfmt
    have HND:=Lib.hid (Tryz.internal_strconv_numDigits u hu1 hu64 (w.alloc (.cells Lib.zeros24 202)) (Lib.tabIs_alloc htab _))
    have hb:¬ (u:Int)<100:=by omega
    clear hH0 hal hfmt
    go_enter Tryz.func110,Tryz.ntmps110
    go_wp2_with fail
    refine HND.out.mono ?_
    rintro e w1 ⟨rfl,hw⟩
    obtain rfl:=hw.symm
    clear hw
    go_wp2_with fail
    refine HFM.out.mono ?_
    rintro e w2 ⟨rfl,k,v',dk,rfl,hF⟩
    have hcv:(convert 123 9 (.slice (some ⟨w.heap.size,0,none⟩) (Lib.nDigits u) 24)).run Tryz.prog ((putRow (fun (b:UInt8)=>Value.int .u8 (b.toNat:Int)) (w.alloc (.cells Lib.zeros24 202)) w.heap.size 0 dk).drewN k)=.ok (.string ⟨(Lib.decDigits u).toArray⟩) ((putRow (fun (b:UInt8)=>Value.int .u8 (b.toNat:Int)) (w.alloc (.cells Lib.zeros24 202)) w.heap.size 0 dk).drewN k):=by
      have h:=run_convert_bytes_back (P:=Tryz.prog) ((putRow (fun (b:UInt8)=>Value.int .u8 (b.toNat:Int)) (w.alloc (.cells Lib.zeros24 202)) w.heap.size 0 dk).drewN k) 123 9 5 ⟨w.heap.size,0,none⟩ 24 (Lib.decDigits u) Tryz.underlying123 Tryz.underlying5 Tryz.underlying9 (fun j hj=>by
        rw [Lib.row_is_numeral hF j hj,Lib.add_plain,World.cell?_drewN]
        exact cell?_putRow (fun (b:UInt8)=>Value.int .u8 (b.toNat:Int)) _ w.heap.size 0 _ dk HH0.out (by rw [hF.size,Array.size_replicate]) j (by rw [hF.size];rw [Lib.decDigits_length] at hj;exact hj))
      rw [Lib.decDigits_length] at h
      exact h
    go_wp2_with fail
    go_ret
    refine ⟨_,rfl,by show (Lib.decDigits u).toArray.size≤100;rw [List.size_toArray,Lib.decDigits_length];omega,?_⟩
    obtain ⟨os',_,e⟩:=putRow_grow_new (fun (b:UInt8)=>Value.int .u8 (b.toNat:Int)) w #[.cells Lib.zeros24 202] w.heap.size 0 dk (Nat.le_refl _)
    rw [alloc_eq_grow,e]
    refine ⟨rfl,rfl,rfl,?_,fun j hj=>?_⟩
    · show w.heap.size≤(w.heap++os').size
      rw [Array.size_append]
      omega
    · show (w.heap++os')[j]?=w.heap[j]?
      rw [Array.getElem?_append_left hj]
end Go.Proofs.YtmdgeknnhckgfaaGreatDoor
namespace Go.Proofs.YtmdgeknnhckgfaaGreatDoor
open Go Go.RowKit
structure Tabs (T:Lib.PrintTabs) (w:World):Prop where
  p10:Lib.TabIs Tryz.prog w "internal/strconv.uint64pow10" .u64 Lib.pow10Tab
  pr:Lib.PrintTabsAt 5 6 7 8 T w
  u8:Lib.Utf8Tabs 3 4 w
theorem tab_below {n:String} {g:Nat} {k:IntKind} {zs:List Int} {w w':World} (hg:Tryz.prog.globalNamed n=some g) (h:Lib.TabIs Tryz.prog w n k zs) (hb:Below w.heap.size w w'):Lib.TabIs Tryz.prog w' n k zs:=by
  unfold Lib.TabIs World.var? at h ⊢
  rw [hg] at h ⊢
  simp only [Option.bind_some] at h ⊢
  have hlt:g<w.heap.size:=by
    rcases Nat.lt_or_ge g w.heap.size with h' | h'
    · exact h'
    · rw [Array.getElem?_eq_none h'] at h;cases h
  rw [hb.block g hlt]
  exact h
theorem Tabs.kept {T:Lib.PrintTabs} {w w':World} (h:Tabs T w) (hb:Below w.heap.size w w'):Tabs T w' :=
  ⟨tab_below (g:=0) (by kernel_rfl) h.p10 hb,printTabs_below h.pr hb,Utf8Tabs_below h.u8 hb⟩
def BldIs (B b m:Nat) (w:World):Prop:=∃ l:List UInt8,Lib.IsBuilderF 164 5 B b (Lib.byteCells l) w∧l.length≤m
structure BFr (B b:Nat) (w w':World):Prop where
  below:Below B w w'
  others:Lib.OthersKept 5 (some b) w w'
theorem BFr.of_below {B b:Nat} {w w':World} (h:Below w.heap.size w w') (hB:B≤w.heap.size):BFr B b w w' :=
  ⟨h.mono hB,fun k o hk _ _=>by rw [h.block k (Array.getElem?_eq_some_iff.1 hk).1];exact hk⟩
theorem BFr.trans {B b:Nat} {w1 w2 w3:World} (h:BFr B b w1 w2) (k:BFr B b w2 w3):BFr B b w1 w3 :=
  ⟨h.below.trans k.below,fun j o hj hn hc=>k.others j o (h.others j o hj hn hc) hn hc⟩
theorem builder_below {B b:Nat} {bs:List Value} {w w':World} (h:Lib.IsBuilderF 164 5 B b bs w) (hb:Below w.heap.size w w'):Lib.IsBuilderF 164 5 B b bs w':=by
  have key:∀ p,Lib.BuilderAtF 164 5 B b p bs w→Lib.BuilderAtF 164 5 B b p bs w':=by
    intro p h
    have hlt:=h.lt
    obtain ⟨hB,v,hv,hown,hne⟩:=h
    exact ⟨hB,v,(hb.block b hlt).trans hv,hown.kept (row:=none) ⟨hb.os,hb.tape,hb.output,hb.size,fun k hk _=>hb.block k hk⟩ (Classical.em _),hne⟩
  exact h.elim (fun x=>.inl (key _ x)) (fun x=>.inr (key _ x))
theorem mod_write86 {B b m:Nat} {w:World} (h:BldIs B b m w) (s:ByteArray) (hm:m+s.size≤140737488355328) (hB:B≤w.heap.size) :
    Calls Tryz.prog 86 #[.pointer (some ⟨b,0,none⟩),.string s] w fun e w'=>e=.returned (.tuple #[.int .i64 s.size,.nilIface])∧BldIs B b (m+s.size) w'∧BFr B b w w':=by
  obtain ⟨l,h1,h2⟩:=h
  refine (Tryz.bld_WriteString B b (Lib.byteCells l) s w h1 (by rw [Lib.byteCells_length];omega) hB).mono ?_
  rintro e w' ⟨rfl,h3,h4,h5⟩
  refine ⟨rfl,⟨l++s.data.toList,?_,?_⟩,h4,h5⟩
  · rw [Lib.byteCells_append,←Lib.strCells_eq]
    exact .inr h3
  · rw [List.length_append]
    have:s.data.toList.length=s.size:=Array.length_toList
    omega
set_option maxRecDepth 100000 in
theorem mod_fmt87 (u:Nat) (hu64:u<18446744073709551616) (w:World) (htab:Lib.TabIs Tryz.prog w "internal/strconv.uint64pow10" .u64 Lib.pow10Tab) :
    Calls Tryz.prog 87 #[.int .u64 u,.int .i64 10] w fun e w'=>∃ s:ByteArray,e=.returned (.string s)∧s.size≤100∧Below w.heap.size w w':=by
  have HF:=Lib.hid (mod_fmt110 u hu64 w htab)
  clear htab
  go_enter Tryz.func87,Tryz.ntmps87
  go_wp2_with fail
  refine HF.out.mono ?_
  rintro e w1 ⟨s,rfl,hs,hb⟩
  have HS:=Lib.hid hs
  have HB:=Lib.hid hb
  clear hs hb
  go_wp2_with fail
  go_ret
  exact ⟨s,rfl,HS.out,HB.out⟩
theorem BldIs.mono {B b m m':Nat} {w:World} (h:BldIs B b m w) (hm:m≤m'):BldIs B b m' w:=by
  obtain ⟨l,h1,h2⟩:=h
  exact ⟨l,h1,Nat.le_trans h2 hm⟩
theorem BldIs.below {B b m:Nat} {w w':World} (h:BldIs B b m w) (hb:Below w.heap.size w w'):BldIs B b m w':=by
  obtain ⟨l,h1,h2⟩:=h
  exact ⟨l,builder_below h1 hb,h2⟩
set_option maxRecDepth 100000 in
set_option maxHeartbeats 4000000 in
theorem mod_c85 {B b m:Nat} {w:World} (h:BldIs B b m w) (hm:m≤100000000000) (hB:B≤w.heap.size) (u:Nat) (hu64:u<18446744073709551616) {T:Lib.PrintTabs} (ht:Tabs T w) :
    Calls Tryz.prog 85 #[.int .u64 u,.pointer (some ⟨b,0,none⟩)] w fun e w'=>e=.returned (.tuple #[])∧BldIs B b (m+101) w'∧BFr B b w w':=by
  have HF:=Lib.hid (mod_fmt87 u hu64 w ht.p10)
  have HBL0:=Lib.hid h
  have HBB:=Lib.hid hB
  clear h ht
  go_enter Tryz.func85,Tryz.ntmps85
  go_wp2_with fail
  refine HF.out.mono ?_
  rintro e w1 ⟨s,rfl,hs,hb⟩
  have HS:=Lib.hid hs
  have HB:=Lib.hid hb
  have HBL:=Lib.hid (HBL0.out.below hb)
  clear hs hb HF
  have hcat:∀ W,(Op.stringOp .add s ⟨#[32]⟩).run Tryz.prog W=.ok (.string (s++⟨#[32]⟩)) W:=fun W=>run_string_add_sum (w:=W) s ⟨#[32]⟩ (by have:=HS.out;show s.size+1≤_;omega)
  obtain ⟨z,hz⟩:∃ z,s++(⟨#[32]⟩:ByteArray)=z:=⟨_,rfl⟩
  have hzs:z.size=s.size+1:=by rw [←hz,ByteArray.size_append];rfl
  rw [hz] at hcat
  have HW:=Lib.hid (mod_write86 (s:=z) HBL.out (by have:=HS.out;omega) (Nat.le_trans HBB.out HB.out.size))
  have HZS:=Lib.hid hzs
  clear hz hzs
  go_wp2_with fail
  refine HW.out.mono ?_
  rintro e w2 ⟨rfl,hbl2,hfr2⟩
  have HBL2:=Lib.hid hbl2
  have HFR:=Lib.hid ((BFr.of_below HB.out HBB.out).trans hfr2)
  clear hbl2 hfr2 HW hcat
  go_wp2_with fail
  exact body_none rfl rfl ⟨rfl,HBL2.out.mono (by have:=HZS.out;have:=HS.out;omega),HFR.out⟩
set_option maxRecDepth 100000 in
set_option maxHeartbeats 4000000 in
theorem mod_c88 {B b m:Nat} {w:World} (h:BldIs B b m w) (hm:m≤100000000000) (hB:B≤w.heap.size) (x:ByteArray) (hx:x.size≤1000) {T:Lib.PrintTabs} (ht:Tabs T w) :
    Calls Tryz.prog 88 #[.string x,.pointer (some ⟨b,0,none⟩)] w fun e w'=>e=.returned (.tuple #[])∧BldIs B b (m+10003) w'∧BFr B b w w':=by
  have HF:=Lib.hid (Tryz.strconv_Quote T x w (by omega) ht.pr ht.u8)
  have hsz:(strOfNums (Lib.quoteZ T x)).size≤10002:=by
    rw [strOfNums_size]
    have:=Lib.quoteZ_length_le T x
    omega
  obtain ⟨s,hs⟩:∃ s,strOfNums (Lib.quoteZ T x)=s:=⟨_,rfl⟩
  rw [hs] at HF hsz
  have HS:=Lib.hid hsz
  have HBL0:=Lib.hid h
  have HBB:=Lib.hid hB
  clear h ht hs hsz
  go_enter Tryz.func88,Tryz.ntmps88
  go_wp2_with fail
  refine HF.out.mono ?_
  rintro e w1 ⟨rfl,hb⟩
  have HB:=Lib.hid hb
  have HBL:=Lib.hid (HBL0.out.below hb)
  clear hb HF
  have hcat:∀ W,(Op.stringOp .add s ⟨#[32]⟩).run Tryz.prog W=.ok (.string (s++⟨#[32]⟩)) W:=fun W=>run_string_add_sum (w:=W) s ⟨#[32]⟩ (by have:=HS.out;show s.size+1≤_;omega)
  obtain ⟨z,hz⟩:∃ z,s++(⟨#[32]⟩:ByteArray)=z:=⟨_,rfl⟩
  have hzs:z.size=s.size+1:=by rw [←hz,ByteArray.size_append];rfl
  rw [hz] at hcat
  have HW:=Lib.hid (mod_write86 (s:=z) HBL.out (by have:=HS.out;omega) (Nat.le_trans HBB.out HB.out.size))
  have HZS:=Lib.hid hzs
  clear hz hzs
  go_wp2_with fail
  refine HW.out.mono ?_
  rintro e w2 ⟨rfl,hbl2,hfr2⟩
  have HBL2:=Lib.hid hbl2
  have HFR:=Lib.hid ((BFr.of_below HB.out HBB.out).trans hfr2)
  clear hbl2 hfr2 HW hcat
  go_wp2_with fail
  exact body_none rfl rfl ⟨rfl,HBL2.out.mono (by have:=HZS.out;have:=HS.out;omega),HFR.out⟩
theorem AnM.ag {w:World} {a:An} {v:Value} (h:AnM w a v):AGIs w a.ag v:=by
  obtain ⟨tv,ev,rfl,h1,h2,_⟩:=h
  refine ⟨tv,ev,rfl,h1,?_⟩
  show Reads w ev (a.ents.map Ent.eg).length 4 (egArgs (a.ents.map Ent.eg))
  rw [egArgs_of,List.length_map]
  exact h2
def REq {α:Type} (w:World) (ea eb:List α) (iv:Value) (W:World):Prop :=
  ∃ k:Nat,k≤ea.length∧iv=.int .i64 (k:Nat)∧ea.take k=eb.take k∧Below w.heap.size w W
set_option maxRecDepth 100000 in
set_option maxHeartbeats 8000000 in
theorem mod_EqE (va vb:Value) (ea eb:List EG) (w:World) (ha:Reads w va ea.length 4 (egArgs ea)) (hb:Reads w vb eb.length 4 (egArgs eb)) :
    Calls Tryz.prog 35 #[va,vb] w fun e w'=>e=.returned (.bool (decide (ea=eb)))∧Below w.heap.size w w':=by
  obtain ⟨A,ca,rfl⟩:=ha.form
  obtain ⟨B,cb,rfl⟩:=hb.form
  have la:=ha.2.1
  have lb:=hb.2.1
  have HA:=Lib.hid ha
  have HB:=Lib.hid hb
  clear ha hb
  by_cases hl:ea.length=eb.length
  · rw [←hl] at HB lb ⊢
    have HL:=Lib.hid hl
    clear hl
    go_enter Tryz.func35,Tryz.ntmps35
    go_wp2_with fail
    go_loopw [13] (REq w ea eb) (fun v _=>ea.length - (intOf v).toNat)
    case atStart=>exact ⟨0,Nat.zero_le _,rfl,by simp,Below.refl _ _⟩
    case round =>
      obtain ⟨k,hk,rfl,heq,hbw⟩:=hrel
      by_cases hlt:k<ea.length
      · have kl:(k:Int)<(ea.length:Int):=by omega
        obtain ⟨x,hx⟩:=get_lt hlt
        obtain ⟨y,hy⟩:=get_lt (show k<eb.length by rw [←HL.out];exact hlt)
        have ra:=HA.out.kept hbw
        have rb:=HB.out.kept hbw
        obtain ⟨b1,o1,e,_,c0,c1,c2,c3⟩:=Reads.eg_at ra hx
        cases e
        obtain ⟨b2,o2,e,_,d0,d1,d2,d3⟩:=Reads.eg_at (by rw [HL.out] at rb;exact rb) hy
        cases e
        have HEQ:=Lib.hid heq
        have HBW:=Lib.hid hbw
        clear ra rb heq hbw
        have g1:=Tryz.guard103
        have heq103:∀ W:World,(Op.equalIn 10000 103 (.agg #[.int .i64 x.num,.int .i64 x.kind,.int .u64 (x.tick:Int),.string x.sub]) (.agg #[.int .i64 y.num,.int .i64 y.kind,.int .u64 (y.tick:Int),.string y.sub])).run Tryz.prog W=.ok (decide (x=y)) W:=fun W=>by rw [eq103,EG.beq]
        by_cases hxy:x=y
        · have hd:decide (x=y)=true:=decide_eq_true hxy
          rw [hd] at heq103
          have HXY:=Lib.hid hxy
          clear hxy hd
          go_wp2_with fail
          go_quiet (fail)
          have hbq:Below wr.heap.size wr (wr.drewN nq):=⟨rfl,rfl,rfl,Nat.le_refl _,fun _ _=>rfl⟩
          go_wp2_with fail
          go_roundw
          case rel=>exact ⟨k+1,hlt,rfl,by rw [take_snoc hx,take_snoc hy,HEQ.out,HXY.out],HBW.out.trans (hbq.mono HBW.out.size)⟩
          case measure=>simp [intOf];omega
        · have hd:decide (x=y)=false:=decide_eq_false hxy
          rw [hd] at heq103
          have hF:=Lib.hid (show decide (ea=eb)=false from decide_eq_false (fun h=>hxy (by rw [h] at hx;rw [hx] at hy;injection hy)))
          clear hxy hd
          go_wp2_with fail
          go_quiet (fail)
          have hbq:Below wr.heap.size wr (wr.drewN nq):=⟨rfl,rfl,rfl,Nat.le_refl _,fun _ _=>rfl⟩
          go_wp2_with fail
          go_ret
          exact ⟨by rw [hF.out];rfl,HBW.out.trans (hbq.mono HBW.out.size)⟩
      · have hK:k=ea.length:=by omega
        have hF:=Lib.hid (show decide (ea=eb)=true from decide_eq_true (by
          have h1:ea.take k=ea:=List.take_of_length_le (by omega)
          have h2:eb.take k=eb:=List.take_of_length_le (by have:=HL.out;omega)
          rw [h1,h2] at heq
          exact heq))
        have kl:¬ (k:Int)<(ea.length:Int):=by omega
        have HBW:=Lib.hid hbw
        clear heq hbw hK
        go_wp2_with fail
        go_ret
        exact ⟨by rw [hF.out];rfl,HBW.out⟩
  · have hl1:¬ ((ea.length:Int)=(eb.length:Int)):=by omega
    have hF:=Lib.hid (show decide (ea=eb)=false from decide_eq_false (fun h=>hl (by rw [h])))
    clear HA HB
    go_enter Tryz.func35,Tryz.ntmps35
    go_wp2_with fail
    go_ret
    exact ⟨by rw [hF.out];rfl,Below.refl _ _⟩
set_option maxRecDepth 100000 in
set_option maxHeartbeats 8000000 in
theorem mod_EqT (va vb:Value) (ea eb:List ByteArray) (w:World) (ha:Reads w va ea.length 1 (strArgs ea)) (hb:Reads w vb eb.length 1 (strArgs eb)) :
    Calls Tryz.prog 82 #[va,vb] w fun e w'=>e=.returned (.bool (decide (ea=eb)))∧Below w.heap.size w w':=by
  obtain ⟨A,ca,rfl⟩:=ha.form
  obtain ⟨B,cb,rfl⟩:=hb.form
  have la:=ha.2.1
  have lb:=hb.2.1
  have HA:=Lib.hid ha
  have HB:=Lib.hid hb
  clear ha hb
  by_cases hl:ea.length=eb.length
  · rw [←hl] at HB lb ⊢
    have HL:=Lib.hid hl
    clear hl
    go_enter Tryz.func82,Tryz.ntmps82
    go_wp2_with fail
    go_loopw [13] (REq w ea eb) (fun v _=>ea.length - (intOf v).toNat)
    case atStart=>exact ⟨0,Nat.zero_le _,rfl,by simp,Below.refl _ _⟩
    case round =>
      obtain ⟨k,hk,rfl,heq,hbw⟩:=hrel
      by_cases hlt:k<ea.length
      · have kl:(k:Int)<(ea.length:Int):=by omega
        obtain ⟨x,hx⟩:=get_lt hlt
        obtain ⟨y,hy⟩:=get_lt (show k<eb.length by rw [←HL.out];exact hlt)
        have ra:=HA.out.kept hbw
        have rb:=HB.out.kept hbw
        obtain ⟨b1,o1,e,_,c0⟩:=Reads.str_at ra hx
        cases e
        obtain ⟨b2,o2,e,_,d0⟩:=Reads.str_at (by rw [HL.out] at rb;exact rb) hy
        cases e
        have HEQ:=Lib.hid heq
        have HBW:=Lib.hid hbw
        clear ra rb heq hbw
        by_cases hxy:x=y
        · have hd:(x.toList == y.toList)=true:=str_beq.2 hxy
          have HXY:=Lib.hid hxy
          clear hxy
          go_wp2_with fail
          go_quiet (fail)
          have hbq:Below wr.heap.size wr (wr.drewN nq):=⟨rfl,rfl,rfl,Nat.le_refl _,fun _ _=>rfl⟩
          go_wp2_with fail
          go_roundw
          case rel=>exact ⟨k+1,hlt,rfl,by rw [take_snoc hx,take_snoc hy,HEQ.out,HXY.out],HBW.out.trans (hbq.mono HBW.out.size)⟩
          case measure=>simp [intOf];omega
        · have hd:(x.toList == y.toList)=false:=str_beq_false.2 hxy
          have hF:=Lib.hid (show decide (ea=eb)=false from decide_eq_false (fun h=>hxy (by rw [h] at hx;rw [hx] at hy;injection hy)))
          clear hxy
          go_wp2_with fail
          go_quiet (fail)
          have hbq:Below wr.heap.size wr (wr.drewN nq):=⟨rfl,rfl,rfl,Nat.le_refl _,fun _ _=>rfl⟩
          go_wp2_with fail
          go_ret
          exact ⟨by rw [hF.out];rfl,HBW.out.trans (hbq.mono HBW.out.size)⟩
      · have hK:k=ea.length:=by omega
        have hF:=Lib.hid (show decide (ea=eb)=true from decide_eq_true (by
          have h1:ea.take k=ea:=List.take_of_length_le (by omega)
          have h2:eb.take k=eb:=List.take_of_length_le (by have:=HL.out;omega)
          rw [h1,h2] at heq
          exact heq))
        have kl:¬ (k:Int)<(ea.length:Int):=by omega
        have HBW:=Lib.hid hbw
        clear heq hbw hK
        go_wp2_with fail
        go_ret
        exact ⟨by rw [hF.out];rfl,HBW.out⟩
  · have hl1:¬ ((ea.length:Int)=(eb.length:Int)):=by omega
    have hF:=Lib.hid (show decide (ea=eb)=false from decide_eq_false (fun h=>hl (by rw [h])))
    clear HA HB
    go_enter Tryz.func82,Tryz.ntmps82
    go_wp2_with fail
    go_ret
    exact ⟨by rw [hF.out];rfl,Below.refl _ _⟩
theorem Tryz.struct90:Tryz.prog.underlying 90=some (.struct (Tryz.prog.fieldsOf 90)):=by kernel_rfl
theorem Tryz.stood90:Tryz.prog.stoodInHeld 90=false:=by kernel_rfl
theorem Tryz.guard90:Tryz.prog.eqGuardType Tryz.prog.depth 90=false:=by kernel_rfl
theorem eq90 (a b c:ByteArray) (e:Int) (w:World):(Op.equalIn 10000 90 (.agg #[.string a,.string b,.string c,.int .u64 e]) (.agg #[.string a,.string b,.string c,.int .u64 e])).run Tryz.prog w=.ok true w:=by
  rw [show (10000:Nat)=9999+1 from rfl,run_equalIn_agg w 9999 90 _ _ Tryz.struct90 Tryz.stood90]
  simp only [Program.fieldsOf,Tryz.underlying90]
  go_simp
theorem Reads.ses_at {w:World} {A:Option Addr} {n cap:Nat} {l:List Ses} (h:Reads w (.slice A n cap) n 4 (sesArgs l)) {k:Nat} {s:Ses} (hk:l[k]?=some s) :
    ∃ b o,A=some ⟨b,o,none⟩∧b<w.heap.size∧w.cell? ⟨b,o+k*4,none⟩=some (.string s.tok)∧w.cell? ⟨b,o+k*4+1,none⟩=some (.string s.usr)∧w.cell? ⟨b,o+k*4+2,none⟩=some (.string s.dat)∧w.cell? ⟨b,o+k*4+3,none⟩=some (.int .u64 (s.exp:Nat)):=by
  have hl:=h.1
  have hlen:=sesArgs_len l
  have hlt:=(List.getElem?_eq_some_iff.1 hk).1
  obtain ⟨b,o,rfl,hb,hc⟩:=h.some_at (by omega)
  have hat:=flatMap_at (f:=sesCells) (k:=4) (fun _=>rfl) l k s hk
  unfold sesArgs at hc
  refine ⟨b,o,rfl,hb,?_,?_,?_,?_⟩
  · exact hc (k*4) _ ((hat 0 (by decide)).trans rfl)
  · exact hc (k*4+1) _ ((hat 1 (by decide)).trans rfl)
  · exact hc (k*4+2) _ ((hat 2 (by decide)).trans rfl)
  · exact hc (k*4+3) _ ((hat 3 (by decide)).trans rfl)
def RIdx (w:World) (n:Nat) (iv:Value) (W:World):Prop:=∃ k:Nat,k≤n∧iv=.int .i64 (k:Nat)∧Below w.heap.size w W
set_option maxRecDepth 100000 in
set_option maxHeartbeats 8000000 in
theorem mod_EqS (va vb:Value) (l:List Ses) (w:World) (ha:Reads w va l.length 4 (sesArgs l)) (hb:Reads w vb l.length 4 (sesArgs l)) :
    Calls Tryz.prog 33 #[va,vb] w fun e w'=>e=.returned (.bool true)∧Below w.heap.size w w':=by
  obtain ⟨A,ca,rfl⟩:=ha.form
  obtain ⟨B,cb,rfl⟩:=hb.form
  have la:=ha.2.1
  have HA:=Lib.hid ha
  have HB:=Lib.hid hb
  clear ha hb
  go_enter Tryz.func33,Tryz.ntmps33
  go_wp2_with fail
  go_loopw [13] (RIdx w l.length) (fun v _=>l.length - (intOf v).toNat)
  case atStart=>exact ⟨0,Nat.zero_le _,rfl,Below.refl _ _⟩
  case round =>
    obtain ⟨k,hk,rfl,hbw⟩:=hrel
    by_cases hlt:k<l.length
    · have kl:(k:Int)<(l.length:Int):=by omega
      obtain ⟨x,hx⟩:=get_lt hlt
      have ra:=HA.out.kept hbw
      have rb:=HB.out.kept hbw
      obtain ⟨b1,o1,e,_,c0,c1,c2,c3⟩:=Reads.ses_at ra hx
      cases e
      obtain ⟨b2,o2,e,_,d0,d1,d2,d3⟩:=Reads.ses_at rb hx
      cases e
      have HBW:=Lib.hid hbw
      clear ra rb hbw
      have g1:=Tryz.guard90
      have heq90:∀ W:World,(Op.equalIn 10000 90 (.agg #[.string x.tok,.string x.usr,.string x.dat,.int .u64 (x.exp:Int)]) (.agg #[.string x.tok,.string x.usr,.string x.dat,.int .u64 (x.exp:Int)])).run Tryz.prog W=.ok true W:=fun W=>eq90 _ _ _ _ W
      go_wp2_with fail
      go_quiet (fail)
      have hbq:Below wr.heap.size wr (wr.drewN nq):=⟨rfl,rfl,rfl,Nat.le_refl _,fun _ _=>rfl⟩
      go_wp2_with fail
      go_roundw
      case rel=>exact ⟨k+1,hlt,rfl,HBW.out.trans (hbq.mono HBW.out.size)⟩
      case measure=>simp [intOf];omega
    · have hK:k=l.length:=by omega
      have kl:¬ (k:Int)<(l.length:Int):=by omega
      have HBW:=Lib.hid hbw
      clear hbw hK
      go_wp2_with fail
      go_ret
      exact ⟨rfl,HBW.out⟩
end Go.Proofs.YtmdgeknnhckgfaaGreatDoor
namespace Go.Proofs.YtmdgeknnhckgfaaGreatDoor
open Go Go.RowKit
variable {w w':World} {p N:Nat} {L:List Hs} {d:MD}
set_option maxRecDepth 100000 in
theorem mod_Entries (r:MIs w p N L d) {i:Nat} {h:Hs} (hi:L[i]?=some h) (hl:h.ents.length≤1000000) :
    Calls Tryz.prog 36 #[.pointer (some ⟨p,0,none⟩),.int .i64 (i:Nat)] w fun e w'=>∃ v,e=.returned v∧Reads w' v h.ents.length 4 (entArgs h.ents)∧Below w.heap.size w w':=by
  have hil:=(List.getElem?_eq_some_iff.1 hi).1
  have HH:=Lib.hid (mod_house r (i:Nat))
  have hv:houV L d (i:Nat)=.pointer (some ⟨d.hb i,0,none⟩):=by unfold houV;rw [if_pos ⟨by omega,by omega⟩];rfl
  rw [hv] at HH
  obtain ⟨A,cap,hev⟩:=(r.he i h hi).form
  have KH:=r.hh i h hi
  have hrd:=r.he i h hi
  rw [hev] at KH hrd
  have c3:=KH.cell 3 (.slice A h.ents.length cap) rfl
  have HC:=Lib.hid (mod_cloneE w _ h.ents hl hrd)
  clear r hi hv hev KH hrd
  go_enter Tryz.func36,Tryz.ntmps36
  go_wp2_with fail
  refine HH.out.mono ?_
  rintro e w1 ⟨rfl,hw⟩
  obtain rfl:=hw.symm
  clear hw
  go_wp2_with fail
  refine HC.out.mono ?_
  rintro e w2 ⟨A2,cap2,rfl,hr2,_,_,hb2⟩
  have HR2:=Lib.hid hr2
  have HB2:=Lib.hid hb2
  clear hr2 hb2
  go_wp2_with fail
  go_ret
  exact ⟨_,rfl,HR2.out,HB2.out⟩
theorem ent_eq (a:List Ent):decide (a.map Ent.eg=a.map Ent.eg)=true:=by simp
def REn (w:World) (L:List Hs) (iv:Value) (W:World):Prop:=∃ k:Nat,k≤L.length∧iv=.int .i64 (k:Nat)∧Below w.heap.size w W
set_option maxRecDepth 100000 in
set_option maxHeartbeats 8000000 in
theorem mod_ends (r:MIs w p N L d) {n:Nat} (hok:LOk n L) (hn:n≤255) (hl:L.length≤100) (ta:Option Addr) (tc:Nat) (TA:Option Addr) (TC:Nat) (o:Cf) (EA:Option Addr) (ec:Nat) (E:List (Value×Value)) (sv:Value) (LA:Option Addr) (LC steps:Nat)
    (ht:Reads w (.slice ta 1 tc) 1 5 (svArr sv LA LC steps).toList) (hE:Reads w (.slice EA L.length ec) L.length 2 (endArgs E)) (he:EndOk w L E) :
    Calls Tryz.prog 18 #[.agg (cfArr (.slice TA L.length TC) o),.pointer (some ⟨p,0,none⟩),.agg (toArr (.slice ta 1 tc) (.slice EA L.length ec))] w fun e w'=>e=.returned (.bool true)∧Below w.heap.size w w':=by
  have HR:=Lib.hid r
  have HOK:=Lib.hid hok
  have HE:=Lib.hid hE
  have HEO:=Lib.hid he
  obtain ⟨tb,to',rfl,htl,hc⟩:=ht.some_at (by decide)
  have t4:w.cell? ⟨tb,to'+4,none⟩=some (.int .u64 0):=hc 4 _ rfl
  have hb1:Below w.heap.size w (w.alloc (.cells (cfArr (.slice TA L.length TC) o) 28)):=(Below.refl _ w).alloc (Nat.le_refl _) _
  have hK0:=(Blk.new w (cfArr (.slice TA L.length TC) o) 28).alloc (.cells (toArr (.slice (some ⟨tb,to',none⟩) 1 tc) (.slice EA L.length ec)) 46)
  have hK:=Blk.new (w.alloc (.cells (cfArr (.slice TA L.length TC) o) 28)) (toArr (.slice (some ⟨tb,to',none⟩) 1 tc) (.slice EA L.length ec)) 46
  have hb2:Below w.heap.size w ((w.alloc (.cells (cfArr (.slice TA L.length TC) o) 28)).alloc (.cells (toArr (.slice (some ⟨tb,to',none⟩) 1 tc) (.slice EA L.length ec)) 46)):=hb1.alloc hb1.size _
  rw [World.size_alloc] at hK
  have x0:=hK0.cell 0 (.slice TA L.length TC) rfl
  have x1:=hK.cell 1 (.slice (some ⟨tb,to',none⟩) 1 tc) rfl
  have x2:=hK.cell 2 (.slice EA L.length ec) rfl
  have x4:=cell_keep hb2 t4
  have HB2:=Lib.hid hb2
  clear r hok hE he ht hc hb1 hb2 hK hK0 t4
  go_enter Tryz.func18,Tryz.ntmps18
  go_wp2_with fail
  generalize (w.alloc (.cells (cfArr (.slice TA L.length TC) o) 28)).alloc (.cells (toArr (.slice (some ⟨tb,to',none⟩) 1 tc) (.slice EA L.length ec)) 46)=W0 at x0 x1 x2 x4 HB2 ⊢
  clear x0 x1 x2 x4
  go_loopw [33] (REn w L) (fun v _=>L.length - (intOf v).toNat)
  case atStart=>exact ⟨0,Nat.zero_le _,rfl,HB2.out⟩
  case round =>
    obtain ⟨k,hk,rfl,hb⟩:=hrel
    by_cases hlt:k<L.length
    · obtain ⟨h,hh⟩:=get_lt hlt
      obtain ⟨sv1,ev1,hEk,hs1,he1⟩:=HEO.out.at' k h hh
      obtain ⟨eb,eo,rfl,hebl,hec⟩:=(HE.out.kept hb).some_at (by omega)
      have hat:=flatMap_at (f:=endCells) (k:=2) (fun _=>rfl) E k (sv1,ev1) hEk
      have c0:wr.cell? ⟨eb,eo+k*2,none⟩=some sv1:=hec (k*2) _ ((hat 0 (by decide)).trans rfl)
      have c1:wr.cell? ⟨eb,eo+k*2+1,none⟩=some ev1:=hec (k*2+1) _ ((hat 1 (by decide)).trans rfl)
      obtain ⟨S1,sc1,rfl⟩:=hs1.form
      obtain ⟨S2,sc2,rfl⟩:=he1.form
      have kl:(k:Int)<(L.length:Int):=by omega
      have HB:=Lib.hid hb
      have HS1:=Lib.hid hs1
      have HE1:=Lib.hid he1
      have HHH:=Lib.hid hh
      have HLT:=Lib.hid hlt
      have hokh:=HOK.out h (List.mem_of_getElem? hh)
      have hlv:livesN L (k:Int) 0=liveN h.ses 0:=by unfold livesN houseN;rw [if_pos (by omega),Int.toNat_natCast,hh]
      have HLVN:=Lib.hid hlv
      have HEL:=Lib.hid (show h.ents.length≤1000000 by have:=hokh.ents;omega)
      clear hb hs1 he1 hh hlt hEk hat hec hokh hlv
      go_wp2_with fail
      have HBW:=Lib.hid (HB.out.alloc HB.out.size (.cells #[.slice S1 (liveN h.ses 0).length sc1,.slice S2 h.ents.length sc2] 64))
      have HTB:=Lib.hid (Blk.new wr #[.slice S1 (liveN h.ses 0).length sc1,.slice S2 h.ents.length sc2] 64)
      change Code.wp _ _ _ _ (wr.alloc (.cells #[.slice S1 (liveN h.ses 0).length sc1,.slice S2 h.ents.length sc2] 64))
      generalize wr.alloc (.cells #[.slice S1 (liveN h.ses 0).length sc1,.slice S2 h.ents.length sc2] 64)=W1 at HBW HTB ⊢
      clear c0 c1 hebl
      have q0:=HTB.out.cell 0 (.slice S1 (liveN h.ses 0).length sc1) rfl
      have q1:=HTB.out.cell 1 (.slice S2 h.ents.length sc2) rfl
      have B1:Below W1.heap.size W1 W1.drew:=(Below.refl _ W1).drew
      have hb1:Below w.heap.size w W1.drew:=HBW.out.trans (B1.mono HBW.out.size)
      have HLv:=mod_Live (HR.out.kept hb1) (fun x hx=>⟨(HOK.out x hx).sorted,fun s hs=>by have:=((HOK.out x hx).sizes s hs).tok;unfold maxLen;omega,by have:=(HOK.out x hx).len;omega⟩) (k:Int) 0
      rw [HLVN.out] at HLv
      replace HLv:=Lib.hid HLv
      clear hb1
      refine region_plan (S:=fun w':World=>w'.cell? ⟨wr.heap.size,0,none⟩=some (.slice S1 (liveN h.ses 0).length sc1)∧w'.cell? ⟨wr.heap.size,1,none⟩=some (.slice S2 h.ents.length sc2))
        ((0,true)::(1,true)::(2,true)::(3,true)::(4,true)::(5,false)::(6,false)::(7,true)::(8,true)::(9,true)::(10,true)::(11,true)::(12,true)::(13,false)::(14,false)::(15,true)::(16,true)::[])
        (by kernel_rfl) (by kernel_rfl) (by kernel_rfl) (by kernel_rfl) (fun _ _ _ dst _ h=>by cases dst<;>exact h) ⟨q0,q1⟩ (fun hH=>?_)
      clear hH
      (repeat (first | (refine plan_take (v:=?_) (by (simp only [ga1,ga2,ga3];exact rfl)) (by rfl) ?_ ?_;rotate_left;(focus (intro wS hS;(try dsimp only at hS);go_split_ands;go_simp;(try with_reducible rfl)));simp only [Act.put,pu1,pu2,pu3]) | (refine plan_skip (by (simp only [ga1,ga2,ga3];exact rfl)) (by rfl) ?_;simp only [Act.put,pu1,pu2,pu3])))
      (refine plan_solo (by (simp only [ga1,ga2,ga3];exact rfl)) (by rfl) ?_;intro K hK;go_simp)
      refine HLv.out.mono ?_
      rintro e w4 ⟨v4,rfl,own4,hb4⟩
      have B4:=B1.trans (hb4.mono B1.size)
      have hr4:=Reads.of_own own4
      refine hK.out _ _ ⟨cell_keep B4 q0,cell_keep B4 q1⟩ (fun hH=>?_)
      clear hK K hH hb4 own4
      (try simp only [Act.put,pu1,pu2,pu3])
      (repeat (first | (refine plan_take (v:=?_) (by (simp only [ga1,ga2,ga3];exact rfl)) (by rfl) ?_ ?_;rotate_left;(focus (intro wS hS;(try dsimp only at hS);go_split_ands;go_simp;(try with_reducible rfl)));simp only [Act.put,pu1,pu2,pu3]) | (refine plan_skip (by (simp only [ga1,ga2,ga3];exact rfl)) (by rfl) ?_;simp only [Act.put,pu1,pu2,pu3])))
      (refine plan_solo (by (simp only [ga1,ga2,ga3];exact rfl)) (by rfl) ?_;intro K hK;go_simp)
      have b4w:Below w.heap.size w w4:=HBW.out.trans (B4.mono HBW.out.size)
      refine (mod_EqS _ _ (liveN h.ses 0) w4 (HS1.out.kept b4w) hr4).mono ?_
      rintro e w5 ⟨rfl,hb5⟩
      have B5:=B4.trans (hb5.mono B4.size)
      have b5w:Below w.heap.size w w5:=b4w.trans (hb5.mono b4w.size)
      have HEn:=mod_Entries (HR.out.kept b5w) HHH.out HEL.out
      refine hK.out _ _ ⟨cell_keep B5 q0,cell_keep B5 q1⟩ (fun hH=>?_)
      clear hK K hH hb5 hr4
      (try simp only [Act.put,pu1,pu2,pu3])
      (repeat (first | (refine plan_take (v:=?_) (by (simp only [ga1,ga2,ga3];exact rfl)) (by rfl) ?_ ?_;rotate_left;(focus (intro wS hS;(try dsimp only at hS);go_split_ands;go_simp;(try with_reducible rfl)));simp only [Act.put,pu1,pu2,pu3]) | (refine plan_skip (by (simp only [ga1,ga2,ga3];exact rfl)) (by rfl) ?_;simp only [Act.put,pu1,pu2,pu3])))
      (refine plan_solo (by (simp only [ga1,ga2,ga3];exact rfl)) (by rfl) ?_;intro K hK;go_simp)
      refine HEn.mono ?_
      rintro e w6 ⟨v6,rfl,hr6,hb6⟩
      have B6:=B5.trans (hb6.mono B5.size)
      have b6w:Below w.heap.size w w6:=b5w.trans (hb6.mono b5w.size)
      refine hK.out _ _ ⟨cell_keep B6 q0,cell_keep B6 q1⟩ (fun hH=>?_)
      clear hK K hH hb6 HEn
      (try simp only [Act.put,pu1,pu2,pu3])
      (repeat (first | (refine plan_take (v:=?_) (by (simp only [ga1,ga2,ga3];exact rfl)) (by rfl) ?_ ?_;rotate_left;(focus (intro wS hS;(try dsimp only at hS);go_split_ands;go_simp;(try with_reducible rfl)));simp only [Act.put,pu1,pu2,pu3]) | (refine plan_skip (by (simp only [ga1,ga2,ga3];exact rfl)) (by rfl) ?_;simp only [Act.put,pu1,pu2,pu3])))
      (refine plan_solo (by (simp only [ga1,ga2,ga3];exact rfl)) (by rfl) ?_;intro K hK;go_simp)
      have e1:=HE1.out.kept b6w
      have hEq:=mod_EqE (.slice S2 h.ents.length sc2) v6 (h.ents.map Ent.eg) (h.ents.map Ent.eg) w6 (by rw [egArgs_of,List.length_map];exact e1) (by rw [egArgs_of,List.length_map];exact hr6)
      rw [ent_eq] at hEq
      refine hEq.mono ?_
      rintro e w7 ⟨rfl,hb7⟩
      have B7:=B6.trans (hb7.mono B6.size)
      have HB7:=Lib.hid (b6w.trans (hb7.mono b6w.size))
      refine hK.out _ _ ⟨cell_keep B7 q0,cell_keep B7 q1⟩ (fun hH=>?_)
      clear hK K hH hb7 e1 hEq hr6
      (try simp only [Act.put,pu1,pu2,pu3])
      (repeat (first | (refine plan_take (v:=?_) (by (simp only [ga1,ga2,ga3];exact rfl)) (by rfl) ?_ ?_;rotate_left;(focus (intro wS hS;(try dsimp only at hS);go_split_ands;go_simp;(try with_reducible rfl)));simp only [Act.put,pu1,pu2,pu3]) | (refine plan_skip (by (simp only [ga1,ga2,ga3];exact rfl)) (by rfl) ?_;simp only [Act.put,pu1,pu2,pu3])))
      refine plan_nil ?_
      clear q0 q1 B1 B4 B5 B6 B7 b4w b5w b6w
      go_wp2_with fail
      go_roundw
      case rel=>exact ⟨k+1,HLT.out,rfl,HB7.out⟩
      case measure=>have:=HLT.out;simp [intOf];omega
    · have hK:k=L.length:=by omega
      have kl:¬ (k:Int)<(L.length:Int):=by omega
      have HB:=Lib.hid hb
      clear hb
      go_wp2_with fail
      go_ret
      exact ⟨rfl,HB.out⟩
end Go.Proofs.YtmdgeknnhckgfaaGreatDoor
namespace Go.Proofs.YtmdgeknnhckgfaaGreatDoor
open Go Go.RowKit
theorem Tryz.size28:(Tryz.prog.info? 28).map (·.size)=some 9:=by kernel_rfl
theorem Tryz.info84:(Tryz.prog.info? 84).map (fun i=>(i.zero,i.size,i.bytes))=some (some (.pointer none),1,8):=by kernel_rfl
abbrev KeyOk (w:World) (C:Array Value) (q:Nat):Prop:=∀ W,Below w.heap.size w W→Calls Tryz.prog 70 #[.agg C,.pointer (some ⟨q,0,none⟩)] W fun e w'=>∃ s:ByteArray,e=.returned (.string s)∧s.size≤maxLen∧Below W.heap.size W w'
def RDi (w:World) (C:Array Value) (q mb:Nat) (ov iv:Value) (W:World):Prop :=
  (iv=.int .i64 0∧ov=.slice none 0 0∧GMap Tryz.prog 9 klS elB (plainElem Tryz.prog 4) false W mb 0 (fun _=>false) (fun _=>false)∧Blk W w.heap.size C 28∧Below w.heap.size w W) ∨
  (iv=.int .i64 1∧∃ g cap,ov=.slice (some ⟨g,0,none⟩) 1 cap∧W.cell? ⟨g,0,none⟩=some (.pointer (some ⟨q,0,none⟩))∧g<W.heap.size∧Below w.heap.size w W)
set_option maxRecDepth 100000 in
set_option maxHeartbeats 8000000 in
theorem mod_distinct (w:World) (C:Array Value) (hC:C.size=9) (b o c q:Nat) (hc:w.cell? ⟨b,o,none⟩=some (.pointer (some ⟨q,0,none⟩))) (hbl:b<w.heap.size) (hkey:KeyOk w C q) :
    Calls Tryz.prog 51 #[.agg C,.slice (some ⟨b,o,none⟩) 1 c] w fun e w'=>∃ g cap,e=.returned (.slice (some ⟨g,0,none⟩) 1 cap)∧w'.cell? ⟨g,0,none⟩=some (.pointer (some ⟨q,0,none⟩))∧g<w'.heap.size∧Below w.heap.size w w':=by
  obtain ⟨i0,ii,iz0,iz1,iz2⟩:=info_parts Tryz.info84
  have HKEY:=Lib.hid hkey
  have HCS:=Lib.hid hC
  have HC0:=Lib.hid hc
  have b1:Below w.heap.size w (w.alloc (.cells C 28)):=(Below.refl _ w).alloc (Nat.le_refl _) _
  have HB1:=Lib.hid (b1.alloc b1.size (.map #[] 0))
  have HK1:=Lib.hid ((Blk.new w C 28).alloc (.map #[] 0))
  have gm:GMap Tryz.prog 9 klS elB (plainElem Tryz.prog 4) false ((w.alloc (.cells C 28)).alloc (.map #[] 0)) (w.alloc (.cells C 28)).heap.size 0 (fun _:ByteArray=>false) (fun _=>false):=GMap.made (w.alloc (.cells C 28))
  rw [World.size_alloc] at gm
  have HG:=Lib.hid gm
  have hmm:=@run_makeMap Tryz.prog
  clear b1 gm hkey hC hc
  go_enter Tryz.func51,Tryz.ntmps51
  go_wp2_with fail
  clear hmm
  go_loopw [6,13] (RDi w C q (w.heap.size+1)) (fun _ v _=>1 - (intOf v).toNat)
  case atStart=>exact .inl ⟨rfl,rfl,HG.out,HK1.out,HB1.out⟩
  case round =>
    rcases hrel with ⟨rfl,rfl,hg,hk,hb⟩ | ⟨rfl,g,cap,rfl,hcg,hgl,hb⟩
    · have c0:=cell_keep hb HC0.out
      have HGR:=Lib.hid hg
      have HKR:=Lib.hid hk
      have HBR:=Lib.hid hb
      clear hg hk hb
      go_wp2_with (refine wpList_load_blk rfl 28 (Operand.tmp 2) rfl w.heap.size rfl 28 _ _ HKR.out Tryz.underlying28 rfl (by rw [HCS.out];exact Tryz.size28) ?_)
      refine (HKEY.out wr HBR.out).mono ?_
      rintro e w5 ⟨s,rfl,hs,hb5⟩
      have g5:=HGR.out.kept hb5
      have hlook:=g5.look Tryz.mapSB s hs
      unfold kvS evB at hlook
      have HG5:=Lib.hid g5
      have HS:=Lib.hid hs
      have HB5:=Lib.hid (HBR.out.trans (hb5.mono HBR.out.size))
      have q3:=Lib.hid (Nat.le_trans HB5.out.size (Nat.le_succ _))
      clear c0 hb5 g5 hs
      go_wp2_with (at_builtin;refine wpList_append_row rfl _ _ 80 rfl w.heap.size 84 i0 _ 1 8 Tryz.underlying80 ii iz0 iz1 iz2 rfl (by decide) _ _ _ rfl (World.ownsRow_nil _ _ _ _) ⟨w5.heap.size,0,none⟩ 1 1 [.pointer (some ⟨q,0,none⟩)] rfl rfl (cells_new w5 [.pointer (some ⟨q,0,none⟩)] 84) (by simp [Value.oneCell']) (by unfold maxLen;omega) (by omega) (by rw [World.size_alloc];exact q3.out) ?_)
      intro v' w6 own6 hgr hfr
      rcases own6.2 with ⟨_,h2⟩ | ⟨g,cap,cur,h1,hg0,hg1,hg2,hg3,hg4,hg5⟩
      · omega
      · subst h1
        have g6:GMap Tryz.prog 9 klS elB (plainElem Tryz.prog 4) false w6 (w.heap.size+1) 0 (fun _=>false) (fun _=>false) :=
          (HG5.out.alloc (.cells #[.pointer (some ⟨q,0,none⟩)] 84)).block (hgr.block _ (HG5.out.alloc (.cells #[.pointer (some ⟨q,0,none⟩)] 84)).lt (by simp [Value.ownBlock]))
        have hb6:Below w.heap.size w w6:=(HB5.out.alloc HB5.out.size _).grown hgr (by rw [World.size_alloc];exact q3.out) (fun j hj=>by simp [Value.ownBlock] at hj)
        have HG6:=Lib.hid g6
        have HB6:=Lib.hid hb6
        have HO6:=Lib.hid own6
        clear hlook hgr hfr g6 hb6 own6 hg0 hg2 hg3 hg4 hg5
        go_wp2_with (at_mapUpdate;refine wpList_mapUpdate_G Tryz.mapSB rfl _ _ _ rfl rfl HG6.out (by unfold maxLen;omega) s HS.out true rfl rfl ?_)
        intro w7 g7 t7
        have o7:=turned_only t7
        have hgm:¬ g=w.heap.size+1:=by
          rintro rfl
          obtain ⟨D,⟨es,clk,hm,_⟩,_⟩:=HG6.out
          rw [hg1] at hm
          cases hm
        have hgl6:=(HO6.out.lt g rfl).2
        have e7:w7.heap[g]?=w6.heap[g]?:=o7.block g hgl6 hgm
        have c6:w6.cell? ⟨g,0,none⟩=some (.pointer (some ⟨q,0,none⟩)):=by
          have:=HO6.out.cells (g:=g) rfl 0 _ rfl
          rw [add_at rfl] at this
          exact this
        have HFIN:=Lib.hid (And.intro ((World.cell?_of_block (a:=⟨g,0,none⟩) e7).trans c6) (And.intro (Nat.lt_of_lt_of_le hgl6 o7.size) (HB6.out.trans (turned_below t7 (B:=w.heap.size) (by omega)))))
        clear g7 t7 o7 hgm hgl6 e7 c6 hg1
        go_wp2_with fail
        go_roundw
        case rel =>
          obtain ⟨h1,h2,h3⟩:=HFIN.out
          exact .inr ⟨rfl,g,cap,rfl,h1,h2,h3⟩
        case measure=>simp [intOf]
    · have HB:=Lib.hid hb
      have HCG:=Lib.hid hcg
      have HGL:=Lib.hid hgl
      clear hb hcg hgl
      go_wp2_with fail
      go_ret
      exact ⟨g,cap,rfl,HCG.out,HGL.out,HB.out⟩
set_option maxRecDepth 100000 in
set_option maxHeartbeats 8000000 in
theorem mod_distinct0 (w:World) (C:Array Value) :
    Calls Tryz.prog 51 #[.agg C,.slice none 0 0] w fun e w'=>e=.returned (.slice none 0 0)∧Below w.heap.size w w':=by
  have b1:Below w.heap.size w (w.alloc (.cells C 28)):=(Below.refl _ w).alloc (Nat.le_refl _) _
  have HB1:=Lib.hid (b1.alloc b1.size (.map #[] 0))
  have hmm:=@run_makeMap Tryz.prog
  clear b1
  go_enter Tryz.func51,Tryz.ntmps51
  go_wp2_with fail
  clear hmm
  go_loopw [6,13] (fun (ov iv:Value) (W:World)=>ov=.slice none 0 0∧iv=.int .i64 0∧Below w.heap.size w W) (fun _ _ _=>0)
  case atStart=>exact ⟨rfl,rfl,HB1.out⟩
  case round =>
    obtain ⟨rfl,rfl,hb⟩:=hrel
    have HB:=Lib.hid hb
    clear hb
    go_wp2_with fail
    go_ret
    exact ⟨rfl,HB.out⟩
end Go.Proofs.YtmdgeknnhckgfaaGreatDoor
