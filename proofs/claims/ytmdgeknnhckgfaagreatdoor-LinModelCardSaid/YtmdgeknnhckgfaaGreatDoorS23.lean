/-
  Parts of the proof of the law LinModel: LArgs, LRec, LEnd, LArg.
-/
import Derived.Test.YtmdgeknnhckgfaaGreatDoorS21
import Derived.Test.YtmdgeknnhckgfaaGreatDoorS22
import Derived.ProofKit
import Derived.OpenShut
import Derived.JoinedCond
import Derived.SizedLaws
import Derived.Deep.Slices
import Derived.Deep.Fields
import Derived.ChangeSame
import Derived.Lib.SmallJoins
set_option linter.unusedSimpArgs false
set_option linter.unusedVariables false
namespace Go.Proofs.YtmdgeknnhckgfaaGreatDoor
open Go Go.ChangeShapes Go.WideShapes Go.ChangeAt Go.RowKit Go.Deep Go.Joins
def clArgs (l:List Cl):List Value:=l.flatMap clCells
def tickArgs (l:List Nat):List Value:=l.map fun t=>.int .u64 (t:Nat)
theorem Tryz.info287:(Tryz.prog.info? 287).map (fun i=>(i.zero,i.size,i.bytes))=some (some (.agg #[.string ⟨#[]⟩,.bool false]),2,24):=by kernel_rfl
theorem lv_lines (W:World):∃ A W',(Instr.makeSlice 47 (.int .i64 8) (.int .i64 8)).run Tryz.prog W=.ok (.slice A 8 8) W'∧Below W.heap.size W W':=by
  obtain ⟨i0,hi,hz0,hz1,hz2⟩:=info_parts Tryz.info287
  have:=run_makeSlice (P:=Tryz.prog) W 47 287 i0 _ Tryz.underlying47 hi hz0 .i64 .i64 8 8 (by omega) (by omega) (by rw [hz1];decide) (by rw [hz2];decide) (by omega)
  exact ⟨_,_,this,(Below.refl _ _).alloc (Nat.le_refl _) _⟩
theorem lines_make:∃ f:World→World,(∀ W,(Instr.makeSlice 47 (.int .i64 8) (.int .i64 8)).run Tryz.prog W=.ok (.slice (some ⟨W.heap.size,0,none⟩) 8 8) (f W))∧∀ W,Below W.heap.size W (f W):=by
  obtain ⟨i0,hi,hz0,hz1,hz2⟩:=info_parts Tryz.info287
  exact ⟨_,fun W=>run_makeSlice (P:=Tryz.prog) W 47 287 i0 _ Tryz.underlying47 hi hz0 .i64 .i64 8 8 (by omega) (by omega) (by rw [hz1];decide) (by rw [hz2];decide) (by omega),fun W=>(Below.refl _ _).alloc (Nat.le_refl _) _⟩
def row1 (b:Nat):Value:=.slice (some ⟨b,0,none⟩) 1 1
theorem blk_reads {w:World} {b:Nat} {arr:Array Value} {t:TypeId} {n:Nat} (h:Blk w b arr t) (hn:arr.size=n):Reads w (row1 b) 1 n arr.toList :=
  ⟨by simp [hn],by decide,_,_,rfl,.inr ⟨b,0,rfl,h.lt,fun j u hj=>by rw [Nat.zero_add];exact h.cell j u (by simpa using hj)⟩⟩
theorem Tryz.info78:(Tryz.prog.info? 78).map (fun i=>(i.zero,i.size,i.bytes))=some (some (.agg #[.slice none 0 0,.slice none 0 0,.slice none 0 0,.slice none 0 0,.slice none 0 0,.int .i64 0,.int .i64 0,.int .i64 0,.slice none 0 0]),9,168):=by kernel_rfl
theorem term_make:∃ f:World→World,(∀ W,(Instr.makeSlice 65 (.int .i64 1) (.int .i64 1)).run Tryz.prog W=.ok (.slice (some ⟨W.heap.size,0,none⟩) 1 1) (f W))∧∀ W,Below W.heap.size W (f W):=by
  obtain ⟨i0,hi,hz0,hz1,hz2⟩:=info_parts Tryz.info78
  exact ⟨_,fun W=>run_makeSlice (P:=Tryz.prog) W 65 78 i0 _ Tryz.underlying65 hi hz0 .i64 .i64 1 1 (by omega) (by omega) (by rw [hz1];decide) (by rw [hz2];decide) (by omega),fun W=>(Below.refl _ _).alloc (Nat.le_refl _) _⟩
theorem Tryz.own:ownKnob Tryz.prog.godebug=none:=by kernel_rfl
theorem Tryz.laidOut:laidOutB Tryz.prog=true:=by kernel_rfl
section
variable {H:Type} {enc:TypeId×Value→H} {W:World}
theorem fld {t:TypeId} {fs:Array Field} {n:Nat} {cs:List Value} {x:DataW H×List MemPlace} (ht:Tryz.prog.underlying t=some (.struct fs)) (h:DataW.trod enc Tryz.prog W 0 (fun _=>true) true n t cs=some x) (i:Nat) (f:Field) (hi:fs[i]?=some f) (k:Nat) (hk:Tryz.prog.cellsOf f.type=k) :
    ∃ m y,DataW.trod enc Tryz.prog W 0 (fun _=>true) true m f.type ((cs.drop f.offset).take k)=some y:=by
  obtain ⟨xs,m,_,_,_,hl,hf⟩:=DataW.trod_struct ht h
  have hil:i<xs.length:=by rw [hl];exact (Array.getElem?_eq_some_iff.1 hi).1
  have:=hf i f hi
  rw [hk,List.getElem?_eq_getElem hil] at this
  exact ⟨m,_,this⟩
theorem open_row {t e:TypeId} {α:Type} [Inhabited α] {f:α→List Value} {k:Nat} (ok:α→Prop) (ht:Tryz.prog.underlying t=some (.slice e)) (hc:Tryz.prog.cellsOf e=k) (hk:0<k) (hf:∀ x,(f x).length=k)
    (hel:∀ n cs' y,cs'.length=k→DataW.trod enc Tryz.prog W 0 (fun _=>true) true n e cs'=some y→∃ a,ok a∧cs'=f a) {fuel:Nat} {cs:List Value} {x:DataW H×List MemPlace} (h:DataW.trod enc Tryz.prog W 0 (fun _=>true) true fuel t cs=some x) :
    ∃ (l:List α) (A:Option Addr) (cap:Nat),cs=[.slice A l.length cap]∧Reads W (.slice A l.length cap) l.length k (l.flatMap f)∧∀ a∈l,ok a:=by
  rcases open_slice ht h with ⟨hcs,_⟩ | ⟨a,len,cap,m,n,D,Pl,hcs,_,hl,hm,hmm,_,hcell⟩
  · exact ⟨[],none,0,hcs,⟨by simp,by simp,none,0,rfl,.inl rfl⟩,by simp⟩
  · simp only [if_true] at hmm
    subst hmm
    rw [hc] at hcell
    obtain ⟨C,hC⟩:=choose_lt (α:=α) (p:=fun i o=>ok o∧∀ j u,(f o)[j]?=some u→W.cell? (a.add (i*k+j))=some u) (fun i (hi:i<m)=>by
      obtain ⟨cs',hcc,htr⟩:=hcell i hi
      obtain ⟨_,hcl,hat⟩:=World.cells?_some hcc
      obtain ⟨o,ho,rfl⟩:=hel _ _ _ (by simpa using hcl) htr
      refine ⟨o,ho,fun j u hj=>?_⟩
      have hjk:j<k:=by have:=(List.getElem?_eq_some_iff.1 hj).1;rw [hf] at this;exact this
      rw [←Go.Deep.add_add,hat j hjk]
      exact hj)
    have hlen:((List.range len).map C).length=len:=by simp
    refine ⟨(List.range len).map C,some a,m,by rw [hlen];exact hcs,?_,fun o ho=>?_⟩
    · rw [hlen]
      exact reads_of hk hf (by simp only [maxLen] at hm;omega) fun i hi j u hj=>(hC i (by omega)).2 j u hj
    · obtain ⟨i,hi,rfl⟩:=List.mem_map.1 ho
      have:=List.mem_range.1 hi
      exact (hC i (by omega)).1
theorem open_i64c {n:Nat} {cs:List Value} {y:DataW H×List MemPlace} (h:DataW.trod enc Tryz.prog W 0 (fun _=>true) true n 3 cs=some y):∃ k:Int,cs=[.int .i64 k] ∧ -9223372036854775808≤k∧k<9223372036854775808:=by
  obtain ⟨k,e0,_,w0⟩:=DataW.trod_int Tryz.underlying3 h
  have hw:-9223372036854775808≤k∧k≤9223372036854775807:=by simpa [Lit.wf,IntKind.min,IntKind.max,IntKind.signed,IntKind.bits] using w0
  exact ⟨k,e0,hw.1,by omega⟩
theorem open_u64c {n:Nat} {cs:List Value} {y:DataW H×List MemPlace} (h:DataW.trod enc Tryz.prog W 0 (fun _=>true) true n 31 cs=some y):∃ k:Nat,cs=[.int .u64 (k:Nat)]∧k<18446744073709551616:=by
  obtain ⟨k,e0,_,w0⟩:=DataW.trod_int Tryz.underlying31 h
  have hw:0≤k∧k≤18446744073709551615:=by simpa [Lit.wf,IntKind.min,IntKind.max,IntKind.signed,IntKind.bits] using w0
  exact ⟨k.toNat,by rw [Int.toNat_of_nonneg hw.1];exact e0,by omega⟩
theorem open_strc {n:Nat} {cs:List Value} {y:DataW H×List MemPlace} (h:DataW.trod enc Tryz.prog W 0 (fun _=>true) true n 9 cs=some y):∃ s:ByteArray,cs=[.string s]∧s.size≤maxLen:=by
  obtain ⟨s,e0,_,w0⟩:=DataW.trod_string Tryz.underlying9 h
  exact ⟨s,e0,w0⟩
set_option maxRecDepth 100000 in
theorem open_tens {n:Nat} {cs:List Value} {y:DataW H×List MemPlace} (h:DataW.trod enc Tryz.prog W 0 (fun _=>true) true n 22 cs=some y) :
    ∃ (l:List Ten) (A:Option Addr) (cap:Nat),cs=[.slice A l.length cap]∧Reads W (.slice A l.length cap) l.length 3 (tenArgs l)∧∀ t∈l,t.name.size≤maxLen:=by
  haveI:Inhabited Ten:=⟨⟨⟨#[]⟩,⟨#[]⟩,0⟩⟩
  refine open_row (f:=tenCells) (k:=3) (fun t=>t.name.size≤maxLen) Tryz.underlying22 (by kernel_rfl) (by decide) (fun _=>rfl) (fun n cs' y hl h=>?_) h
  match cs',hl with
  | [c0,c1,c2],_ =>
    obtain ⟨_,_,h0⟩:=fld Tryz.underlying94 h 0 _ rfl 1 (by kernel_rfl)
    obtain ⟨_,_,h1⟩:=fld Tryz.underlying94 h 1 _ rfl 1 (by kernel_rfl)
    obtain ⟨_,_,h2⟩:=fld Tryz.underlying94 h 2 _ rfl 1 (by kernel_rfl)
    obtain ⟨s0,e0,z0⟩:=open_strc h0
    obtain ⟨s1,e1,z1⟩:=open_strc h1
    obtain ⟨s2,e2,_⟩:=open_i64c h2
    simp at e0 e1 e2
    exact ⟨⟨s0,s1,s2⟩,z0,by rw [e0,e1,e2];rfl⟩
set_option maxRecDepth 100000 in
theorem open_calls {n:Nat} {cs:List Value} {y:DataW H×List MemPlace} (h:DataW.trod enc Tryz.prog W 0 (fun _=>true) true n 29 cs=some y) :
    ∃ (l:List Cl) (A:Option Addr) (cap:Nat),cs=[.slice A l.length cap]∧Reads W (.slice A l.length cap) l.length 8 (clArgs l)∧∀ c∈l,c.Ok:=by
  haveI:Inhabited Cl:=⟨⟨0,0,⟨#[]⟩,⟨#[]⟩,⟨#[]⟩,0,0,0⟩⟩
  refine open_row (f:=clCells) (k:=8) Cl.Ok Tryz.underlying29 (by kernel_rfl) (by decide) (fun _=>rfl) (fun n cs' y hl h=>?_) h
  match cs',hl with
  | [c0,c1,c2,c3,c4,c5,c6,c7],_ =>
    obtain ⟨_,_,h0⟩:=fld Tryz.underlying53 h 0 _ rfl 1 (by kernel_rfl)
    obtain ⟨_,_,h1⟩:=fld Tryz.underlying53 h 1 _ rfl 1 (by kernel_rfl)
    obtain ⟨_,_,h2⟩:=fld Tryz.underlying53 h 2 _ rfl 1 (by kernel_rfl)
    obtain ⟨_,_,h3⟩:=fld Tryz.underlying53 h 3 _ rfl 1 (by kernel_rfl)
    obtain ⟨_,_,h4⟩:=fld Tryz.underlying53 h 4 _ rfl 1 (by kernel_rfl)
    obtain ⟨_,_,h5⟩:=fld Tryz.underlying53 h 5 _ rfl 1 (by kernel_rfl)
    obtain ⟨_,_,h6⟩:=fld Tryz.underlying53 h 6 _ rfl 1 (by kernel_rfl)
    obtain ⟨_,_,h7⟩:=fld Tryz.underlying53 h 7 _ rfl 1 (by kernel_rfl)
    obtain ⟨s0,e0,z0⟩:=open_i64c h0
    obtain ⟨s1,e1,z1⟩:=open_i64c h1
    obtain ⟨s2,e2,z2⟩:=open_strc h2
    obtain ⟨s3,e3,z3⟩:=open_strc h3
    obtain ⟨s4,e4,z4⟩:=open_strc h4
    obtain ⟨s5,e5,z5⟩:=open_i64c h5
    obtain ⟨s6,e6,z6⟩:=open_i64c h6
    obtain ⟨s7,e7,z7⟩:=open_u64c h7
    simp at e0 e1 e2 e3 e4 e5 e6 e7
    exact ⟨⟨s0,s1,s2,s3,s4,s5,s6,s7⟩,⟨z0,z1,z2,z3,z4,z5,z6,z7⟩,by rw [e0,e1,e2,e3,e4,e5,e6,e7];rfl⟩
theorem open_ticks {n:Nat} {cs:List Value} {y:DataW H×List MemPlace} (h:DataW.trod enc Tryz.prog W 0 (fun _=>true) true n 30 cs=some y) :
    ∃ (l:List Nat) (A:Option Addr) (cap:Nat),cs=[.slice A l.length cap]∧Reads W (.slice A l.length cap) l.length 1 (tickArgs l)∧∀ t∈l,t<18446744073709551616:=by
  have:=open_row (f:=fun t:Nat=>[Value.int .u64 (t:Nat)]) (k:=1) (fun t=>t<18446744073709551616) Tryz.underlying30 (by kernel_rfl) (by decide) (fun _=>rfl) (fun n cs' y hl h=>by
    obtain ⟨k,e,hk⟩:=open_u64c h
    exact ⟨k,hk,e⟩) h
  obtain ⟨l,A,cap,h1,h2,h3⟩:=this
  refine ⟨l,A,cap,h1,?_,h3⟩
  unfold tickArgs
  rw [List.map_eq_flatMap]
  exact h2
theorem open_strs {n:Nat} {cs:List Value} {y:DataW H×List MemPlace} (h:DataW.trod enc Tryz.prog W 0 (fun _=>true) true n 32 cs=some y) :
    ∃ (l:List ByteArray) (v:Value),cs=[v]∧Reads W v l.length 1 (strArgs l):=by
  have:=open_row (f:=fun t:ByteArray=>[Value.string t]) (k:=1) (fun t=>True) Tryz.underlying32 (by kernel_rfl) (by decide) (fun _=>rfl) (fun n cs' y hl h=>by
    obtain ⟨k,e,hk⟩:=open_strc h
    exact ⟨k,trivial,e⟩) h
  obtain ⟨l,A,cap,h1,h2,_⟩:=this
  refine ⟨l,_,h1,?_⟩
  unfold strArgs
  rw [List.map_eq_flatMap]
  exact h2
set_option maxRecDepth 100000 in
theorem open_ents {n:Nat} {cs:List Value} {y:DataW H×List MemPlace} (h:DataW.trod enc Tryz.prog W 0 (fun _=>true) true n 33 cs=some y) :
    ∃ (l:List EG) (v:Value),cs=[v]∧Reads W v l.length 4 (egArgs l):=by
  haveI:Inhabited EG:=⟨⟨0,0,0,⟨#[]⟩⟩⟩
  have:=open_row (f:=egCells) (k:=4) (fun _=>True) Tryz.underlying33 (by kernel_rfl) (by decide) (fun _=>rfl) (fun n cs' y hl h=>by
    match cs',hl with
    | [c0,c1,c2,c3],_ =>
      obtain ⟨_,_,h0⟩:=fld Tryz.underlying103 h 0 _ rfl 1 (by kernel_rfl)
      obtain ⟨_,_,h1⟩:=fld Tryz.underlying103 h 1 _ rfl 1 (by kernel_rfl)
      obtain ⟨_,_,h2⟩:=fld Tryz.underlying103 h 2 _ rfl 1 (by kernel_rfl)
      obtain ⟨_,_,h3⟩:=fld Tryz.underlying103 h 3 _ rfl 1 (by kernel_rfl)
      obtain ⟨s0,e0,_⟩:=open_i64c h0
      obtain ⟨s1,e1,_⟩:=open_i64c h1
      obtain ⟨s2,e2,_⟩:=open_u64c h2
      obtain ⟨s3,e3,_⟩:=open_strc h3
      simp at e0 e1 e2 e3
      exact ⟨⟨s0,s1,s2,s3⟩,trivial,by rw [e0,e1,e2,e3];rfl⟩) h
  obtain ⟨l,A,cap,h1,h2,_⟩:=this
  exact ⟨l,_,h1,h2⟩
theorem list9 {α:Type} {xs:Array α} (h:xs.size=9):∃ a b c d e f g i j,xs=#[a,b,c,d,e,f,g,i,j]:=by
  obtain ⟨l⟩:=xs
  match l,h with
  | [a,b,c,d,e,f,g,i,j],_=>exact ⟨a,b,c,d,e,f,g,i,j,rfl⟩
theorem list14 {α:Type} {xs:Array α} (h:xs.size=14):∃ a b c d e f g i j k l m n o,xs=#[a,b,c,d,e,f,g,i,j,k,l,m,n,o]:=by
  obtain ⟨q⟩:=xs
  match q,h with
  | [a,b,c,d,e,f,g,i,j,k,l,m,n,o],_=>exact ⟨a,b,c,d,e,f,g,i,j,k,l,m,n,o,rfl⟩
set_option maxRecDepth 100000 in
theorem open_cfg {v:Value} {d:DataW H} {p:List MemPlace} {r:Reach} {b0:Nat} (hv:Value.okWide Tryz.prog W r b0 28 v) (h:DataW.Trod enc Tryz.prog W 0 (fun _=>true) true 28 v d p) :
    ∃ (l:List Ten) (A:Option Addr) (cap:Nat) (o:Cf),v=.agg (cfArr (.slice A l.length cap) o)∧Reads W (.slice A l.length cap) l.length 3 (tenArgs l)∧∀ t∈l,t.name.size≤maxLen:=by
  obtain ⟨cs,rfl,hsz⟩:=okWide_struct Tryz.underlying28 hv
  rw [show Tryz.prog.cellsOf 28=9 by kernel_rfl] at hsz
  obtain ⟨c0,c1,c2,c3,c4,c5,c6,c7,c8,rfl⟩:=list9 hsz
  obtain ⟨fuel,hf⟩:=h
  simp only [Value.cells] at hf
  obtain ⟨_,_,h0⟩:=fld Tryz.underlying28 hf 0 _ rfl 1 (by kernel_rfl)
  obtain ⟨_,_,h1⟩:=fld Tryz.underlying28 hf 1 _ rfl 7 (by kernel_rfl)
  obtain ⟨_,_,h2⟩:=fld Tryz.underlying28 hf 2 _ rfl 1 (by kernel_rfl)
  obtain ⟨_,_,h3⟩:=fld Tryz.underlying26 h1 0 _ rfl 3 (by kernel_rfl)
  obtain ⟨_,_,h4⟩:=fld Tryz.underlying26 h1 1 _ rfl 1 (by kernel_rfl)
  obtain ⟨_,_,h5⟩:=fld Tryz.underlying26 h1 2 _ rfl 1 (by kernel_rfl)
  obtain ⟨_,_,h6⟩:=fld Tryz.underlying26 h1 3 _ rfl 1 (by kernel_rfl)
  obtain ⟨_,_,h7⟩:=fld Tryz.underlying26 h1 4 _ rfl 1 (by kernel_rfl)
  obtain ⟨_,_,g0⟩:=fld Tryz.underlying24 h3 0 _ rfl 1 (by kernel_rfl)
  obtain ⟨_,_,g1⟩:=fld Tryz.underlying24 h3 1 _ rfl 1 (by kernel_rfl)
  obtain ⟨_,_,g2⟩:=fld Tryz.underlying24 h3 2 _ rfl 1 (by kernel_rfl)
  obtain ⟨l,A,cap,e0,hr,hn⟩:=open_tens h0
  obtain ⟨z1,e1,_⟩:=open_i64c g0
  obtain ⟨z2,e2,_⟩:=open_i64c g1
  obtain ⟨z3,e3,_⟩:=open_i64c g2
  obtain ⟨z4,e4,_⟩:=open_i64c h4
  obtain ⟨z5,e5,_⟩:=open_i64c h5
  obtain ⟨z6,e6,_⟩:=open_i64c h6
  obtain ⟨z7,e7,_⟩:=open_i64c h7
  obtain ⟨z8,e8,_⟩:=open_i64c h2
  simp at e0 e1 e2 e3 e4 e5 e6 e7 e8
  exact ⟨l,A,cap,⟨z1,z2,z3,z4,z5,z6,z7,z8⟩,by rw [e0,e1,e2,e3,e4,e5,e6,e7,e8];rfl,hr,hn⟩
set_option maxRecDepth 100000 in
theorem open_other {v:Value} {d:DataW H} {p:List MemPlace} {r:Reach} {b0:Nat} (hv:Value.okWide Tryz.prog W r b0 35 v) (h:DataW.Trod enc Tryz.prog W 0 (fun _=>true) true 35 v d p) :
    ∃ (a:AG) (tv ev:Value),v=.agg (agArr a tv ev)∧Reads W tv a.toks.length 1 (strArgs a.toks)∧Reads W ev a.ents.length 4 (egArgs a.ents):=by
  obtain ⟨cs,rfl,hsz⟩:=okWide_struct Tryz.underlying35 hv
  rw [show Tryz.prog.cellsOf 35=14 by kernel_rfl] at hsz
  obtain ⟨c0,c1,c2,c3,c4,c5,c6,c7,c8,c9,c10,c11,c12,c13,rfl⟩:=list14 hsz
  obtain ⟨fuel,hf⟩:=h
  simp only [Value.cells] at hf
  obtain ⟨_,_,h0⟩:=fld Tryz.underlying35 hf 0 _ rfl 1 (by kernel_rfl)
  obtain ⟨_,_,h1⟩:=fld Tryz.underlying35 hf 1 _ rfl 1 (by kernel_rfl)
  obtain ⟨_,_,h2⟩:=fld Tryz.underlying35 hf 2 _ rfl 1 (by kernel_rfl)
  obtain ⟨_,_,h3⟩:=fld Tryz.underlying35 hf 3 _ rfl 1 (by kernel_rfl)
  obtain ⟨_,_,h4⟩:=fld Tryz.underlying35 hf 4 _ rfl 1 (by kernel_rfl)
  obtain ⟨_,_,h5⟩:=fld Tryz.underlying35 hf 5 _ rfl 1 (by kernel_rfl)
  obtain ⟨_,_,h6⟩:=fld Tryz.underlying35 hf 6 _ rfl 1 (by kernel_rfl)
  obtain ⟨_,_,h7⟩:=fld Tryz.underlying35 hf 7 _ rfl 1 (by kernel_rfl)
  obtain ⟨_,_,h8⟩:=fld Tryz.underlying35 hf 8 _ rfl 1 (by kernel_rfl)
  obtain ⟨_,_,h9⟩:=fld Tryz.underlying35 hf 9 _ rfl 1 (by kernel_rfl)
  obtain ⟨_,_,h10⟩:=fld Tryz.underlying35 hf 10 _ rfl 1 (by kernel_rfl)
  obtain ⟨_,_,h11⟩:=fld Tryz.underlying35 hf 11 _ rfl 1 (by kernel_rfl)
  obtain ⟨_,_,h12⟩:=fld Tryz.underlying35 hf 12 _ rfl 1 (by kernel_rfl)
  obtain ⟨_,_,h13⟩:=fld Tryz.underlying35 hf 13 _ rfl 1 (by kernel_rfl)
  obtain ⟨z0,e0,_⟩:=open_i64c h0
  obtain ⟨z1,e1,_⟩:=open_strc h1
  obtain ⟨z2,e2,_⟩:=open_strc h2
  obtain ⟨z3,e3,_⟩:=open_strc h3
  obtain ⟨z4,e4,_⟩:=open_strc h4
  obtain ⟨z5,e5,_⟩:=open_u64c h5
  obtain ⟨z6,e6,_⟩:=open_i64c h6
  obtain ⟨z7,v7,e7,r7⟩:=open_strs h7
  obtain ⟨z8,v8,e8,r8⟩:=open_ents h8
  obtain ⟨z9,e9,_⟩:=open_strc h9
  obtain ⟨z10,e10,_⟩:=open_i64c h10
  obtain ⟨z11,e11,_⟩:=open_i64c h11
  obtain ⟨z12,e12,_⟩:=open_i64c h12
  obtain ⟨z13,e13,_⟩:=open_i64c h13
  simp at e0 e1 e2 e3 e4 e5 e6 e7 e8 e9 e10 e11 e12 e13
  exact ⟨⟨z0,z1,z2,z3,z4,z5,z6,z7,z8,z9,z10,z11,z12,z13⟩,v7,v8,by rw [e0,e1,e2,e3,e4,e5,e6,e7,e8,e9,e10,e11,e12,e13];rfl,r7,r8⟩
end
end Go.Proofs.YtmdgeknnhckgfaaGreatDoor
namespace Go.Proofs.YtmdgeknnhckgfaaGreatDoor
open Go Go.RowKit
def RecOwn (d:RD) (n:Nat) (v:Value) (sb j:Nat):Prop:=d.own n j∨v.ownBlock=some j∨j=sb
structure LRec (w:World) (p:Nat) (T:List Ten) (A:Option Addr) (LC steps sb k:Nat) (W:World) (L:List Hs) (d:RD) (l:List Ask) (v:Value):Prop where
  r:RIs W p T L d
  ok:LOk k L
  thr:thrN (newN T) l=some L
  len:l.length=k
  own:∀ j,d.own L.length j→w.heap.size≤j
  row:W.ownsRow w.heap.size 55 31 v k (askArgs l)
  box:Blk W sb (svArr v A LC steps) 50
  asks:∀ x∈l,x.call.Ok∧x.tick<18446744073709551616∧ReadsP W (RecOwn d L.length v sb) x.tv x.ans.toks.length 1 (strArgs x.ans.toks)∧ReadsP W (RecOwn d L.length v sb) x.ev x.ans.ents.length 4 (egArgs x.ans.ents)
  nums:∀ (i:Nat) x,l[i]?=some x→x.nth=i∧x.pt=i
  hb:Below w.heap.size w W
  sbb:w.heap.size≤sb
theorem LRec.ask {w:World} {p:Nat} {T:List Ten} {A:Option Addr} {LC steps sb k:Nat} {W:World} {L:List Hs} {d:RD} {l:List Ask} {v:Value} (R:LRec w p T A LC steps sb k W L d l v) (hk:k≤1000):∀ x∈l,AskOk W x:=by
  intro x hx
  obtain ⟨h1,h2,h3,h4⟩:=R.asks x hx
  obtain ⟨i,hi⟩:=List.mem_iff_getElem?.1 hx
  have hil:=(List.getElem?_eq_some_iff.1 hi).1
  have hn:=R.nums i x hi
  have hl:=R.len
  exact ⟨h1,h2,by omega,by omega,h3.1,h4.1⟩
theorem LRec.recok {w:World} {p:Nat} {T:List Ten} {A:Option Addr} {LC steps sb k:Nat} {W:World} {L:List Hs} {d:RD} {l:List Ask} {v:Value} (R:LRec w p T A LC steps sb k W L d l v) (hk:k≤1000) (hs:k≤steps) (hst:steps≤9223372036854775807):RecOk l steps where
  len:=by rw [R.len];exact hk
  nth:=fun i x hx=>(R.nums i x hx).1
  rise:=fun i j x y hx hy hij=>by rw [(R.nums i x hx).2,(R.nums j y hy).2];exact hij
  top:=fun x hx=>by
    obtain ⟨i,hi⟩:=List.mem_iff_getElem?.1 hx
    have hil:=(List.getElem?_eq_some_iff.1 hi).1
    rw [(R.nums i x hi).2]
    have:=R.len
    omega
  st:=hst
theorem LRec.kept {w:World} {p:Nat} {T:List Ten} {A:Option Addr} {LC steps sb k:Nat} {W W':World} {L:List Hs} {d:RD} {l:List Ask} {v:Value} (R:LRec w p T A LC steps sb k W L d l v) (hb:Below W.heap.size W W'):LRec w p T A LC steps sb k W' L d l v where
  r:=R.r.kept hb
  ok:=R.ok
  thr:=R.thr
  len:=R.len
  own:=R.own
  row:=own_below R.row hb
  box:=R.box.kept hb
  asks:=fun x hx=>by
    obtain ⟨h1,h2,h3,h4⟩:=R.asks x hx
    exact ⟨h1,h2,⟨h3.1.kept hb,h3.2⟩,⟨h4.1.kept hb,h4.2⟩⟩
  nums:=R.nums
  hb:=R.hb.trans (hb.mono R.hb.size)
  sbb:=R.sbb
theorem reads_lt {w:World} {v:Value} {n k b:Nat} {xs:List Value} (h:Reads w v n k xs) (hn:n≠0) (hb:v.ownBlock=some b):b<w.heap.size:=by
  obtain ⟨_,_,A,cap,rfl,h3⟩:=h
  rcases h3 with h3 | ⟨b',o,rfl,hb',_⟩
  · exact absurd h3 hn
  · simp [Value.ownBlock] at hb
    omega
theorem LRec.only {w:World} {p:Nat} {T:List Ten} {A:Option Addr} {LC steps sb k:Nat} {W:World} {L:List Hs} {d:RD} {l:List Ask} {v:Value} (R:LRec w p T A LC steps sb k W L d l v)
    {W1 Wz W4:World} {v':Value} (o1:Only (d.own L.length) W W1) (bz:Below W1.heap.size W1 Wz) (gr:Wz.grownBy W4 v.ownBlock):Only (RecOwn d L.length v sb) W (W4.setCell ⟨sb,1,none⟩ v'):=by
  have ogr:Only (fun j=>v.ownBlock=some j) Wz W4:=⟨gr.os,gr.tape,gr.output,gr.size,fun j hj hn=>gr.block j hj (fun e=>hn e.symm)⟩
  have o2:Only (fun j=>v.ownBlock=some j∨j=sb) W1 (W4.setCell ⟨sb,1,none⟩ v'):=((Only.of_below bz).trans (ogr.mono (fun j _ h=>.inl h))).setCell (.inl (.inr rfl)) 1 v'
  exact (o1.mono (fun j _ h=>.inl h)).trans (o2.mono (fun j _ h=>.inr h))
theorem LRec.not_own {w:World} {p:Nat} {T:List Ten} {A:Option Addr} {LC steps sb k:Nat} {W:World} {L:List Hs} {d:RD} {l:List Ask} {v:Value} (R:LRec w p T A LC steps sb k W L d l v) {b:Nat} {t:TypeId} (h:Of W b t)
    (h1:t≠59) (h2:t≠90) (h3:t≠103) (h4:t≠55) (h5:t≠50):¬ RecOwn d L.length v sb b:=by
  rintro (e | e | rfl)
  · exact R.r.not_own h h1 h2 h3 e
  · obtain ⟨cur,hcur⟩:=own_typed R.row e
    exact h.ne (⟨cur,_,hcur⟩:Of W b 55) h4 rfl
  · exact h.ne (⟨_,_,R.box⟩:Of W b 50) h5 rfl
theorem LRec.step {w:World} {p:Nat} {T:List Ten} {A:Option Addr} {LC steps sb k:Nat} {W:World} {L:List Hs} {d:RD} {l:List Ask} {v:Value} (R:LRec w p T A LC steps sb k W L d l v) (c:Cl) (hc:c.Ok) (now:Nat) (hnow:now<18446744073709551616) (hk:k≤200)
    {W1 Wz W4:World} {d1:RD} {tv ev v':Value} (r1:RIs W1 p T (doN L c now).2 d1) (o1:Only (d.own L.length) W W1) (l1:(doN L c now).2.length=L.length) (g1:∀ j,d1.own L.length j→d.own L.length j∨W.heap.size≤j)
    (t1:ReadsP W1 (fun j=>d1.own L.length j∨j<W.heap.size) tv (doN L c now).1.toks.length 1 (strArgs (doN L c now).1.toks)) (e1:ReadsP W1 (fun j=>d1.own L.length j∨j<W.heap.size) ev (doN L c now).1.ents.length 4 (entArgs (doN L c now).1.ents))
    (bz:Below W1.heap.size W1 Wz) (x:Ask) (hx:x=⟨k,k,now,c,(doN L c now).1.ag,tv,ev,(doN L c now).1.status⟩)
    (row4:W4.ownsRow w.heap.size 55 31 v' (k+1) (askArgs l++askCells x)) (gr:Wz.grownBy W4 v.ownBlock) (fr:∀ g,v'.ownBlock=some g→v.ownBlock=some g∨Wz.heap.size≤g) :
    LRec w p T A LC steps sb (k+1) (W4.setCell ⟨sb,1,none⟩ v') (doN L c now).2 d1 (l++[x]) v':=by
  have vlt:∀ j,v.ownBlock=some j→j<W.heap.size:=fun j hj=>(R.row.lt j hj).2
  have slt:sb<W.heap.size:=R.box.lt
  have v55:∀ j,v.ownBlock=some j→Of W1 j 55:=by
    intro j hj
    obtain ⟨cur,hcur⟩:=own_typed R.row hj
    exact ⟨cur,_,(o1.block j (vlt j hj) (R.r.not_own (⟨cur,_,hcur⟩:Of W j 55) (by decide) (by decide) (by decide))).trans hcur⟩
  have bx1:Blk W1 sb (svArr v A LC steps) 50:=(o1.block sb slt (R.r.not_own (⟨_,_,R.box⟩:Of W sb 50) (by decide) (by decide) (by decide))).trans R.box
  have s50:Of W1 sb 50:=⟨_,_,bx1⟩
  have bx4:Blk W4 sb (svArr v A LC steps) 50 :=
    ((gr.block sb (Nat.lt_of_lt_of_le bx1.lt bz.size) (fun e=>s50.ne (v55 sb e.symm) (by decide) rfl)).trans (bz.block sb bx1.lt)).trans bx1
  have key:∀ j t,Of W1 j t→t≠55→t≠50→(W4.setCell ⟨sb,1,none⟩ v').heap[j]?=W1.heap[j]?:=by
    intro j t ho h1 h2
    have hlt:j<W1.heap.size:=by obtain ⟨c,f,h⟩:=ho;exact (Array.getElem?_eq_some_iff.1 h).1
    rw [Below.heap_setCell _ _ _ _ (ho.ne s50 h2)]
    exact (gr.block j (Nat.lt_of_lt_of_le hlt bz.size) (fun e=>ho.ne (v55 j e.symm) h1 rfl)).trans (bz.block j hlt)
  have ogr:Only (fun j=>v.ownBlock=some j) Wz W4:=⟨gr.os,gr.tape,gr.output,gr.size,fun j hj hn=>gr.block j hj (fun e=>hn e.symm)⟩
  have o2:Only (fun j=>v.ownBlock=some j∨j=sb) W1 (W4.setCell ⟨sb,1,none⟩ v'):=by
    refine ((Only.of_below bz).trans (ogr.mono (fun j _ h=>.inl h))).setCell (.inl (.inr rfl)) 1 v'
  have hO:Only (RecOwn d L.length v sb) W (W4.setCell ⟨sb,1,none⟩ v') :=
    (o1.mono (fun j _ h=>.inl h)).trans (o2.mono (fun j _ h=>.inr h))
  have oldP:∀ {u:Value} {n m:Nat} {xs:List Value},ReadsP W (RecOwn d L.length v sb) u n m xs→ReadsP (W4.setCell ⟨sb,1,none⟩ v') (RecOwn d1 (doN L c now).2.length v' sb) u n m xs:=by
    intro u n m xs h
    refine ⟨h.only hO (fun _ h=>h),fun b hb hn hs=>?_⟩
    have hbl:=reads_lt h.1 hn hb
    have hno:=h.2 b hb hn
    rw [l1] at hs
    rcases hs with hs | hs | hs
    · rcases g1 b hs with h' | h'
      · exact hno (.inl h')
      · omega
    · rcases fr b hs with h' | h'
      · exact hno (.inr (.inl h'))
      · have:=o1.size;have:=bz.size;omega
    · exact hno (.inr (.inr hs))
  have newP:∀ {u:Value} {n m:Nat} {xs:List Value},ReadsP W1 (fun j=>d1.own L.length j∨j<W.heap.size) u n m xs→ReadsP (W4.setCell ⟨sb,1,none⟩ v') (RecOwn d1 (doN L c now).2.length v' sb) u n m xs:=by
    intro u n m xs h
    refine ⟨h.only o2 (fun b hb=>.inr (by rcases hb with hb | hb;exact vlt b hb;omega)),fun b hb hn hs=>?_⟩
    have hbl:=reads_lt h.1 hn hb
    have hno:=h.2 b hb hn
    rw [l1] at hs
    rcases hs with hs | hs | hs
    · exact hno (.inl hs)
    · rcases fr b hs with h' | h'
      · exact hno (.inr (vlt b h'))
      · have:=bz.size;omega
    · exact hno (.inr (by omega))
  refine
    { r:=r1.keep (fun j hj=>?_)
      ok:=R.ok.doN (by omega) hc hnow
      thr:=?_
      len:=by rw [List.length_append,R.len];rfl
      own:=fun j hj=>?_
      row:=?_
      box:=?_
      asks:=?_
      nums:=?_
      hb:=R.hb.trans (hO.below R.hb.size (fun j hj=>?_))
      sbb:=R.sbb }
  · rcases hj with rfl | hj | hj
    · exact key _ 62 ⟨_,_,r1.hp⟩ (by decide) (by decide)
    · obtain ⟨cur,hcur⟩:=own_typed r1.ht hj
      exact key _ 94 ⟨cur,_,hcur⟩ (by decide) (by decide)
    · rcases r1.own_of hj with h | h | h
      · exact key _ 59 h (by decide) (by decide)
      · exact key _ 90 h (by decide) (by decide)
      · exact key _ 103 h (by decide) (by decide)
  · rw [thrN_append,R.thr]
    show thrN L [x]=_
    subst hx
    unfold thrN
    rw [if_pos rfl]
    rfl
  · rw [l1] at hj
    rcases g1 j hj with h | h
    · exact R.own j h
    · have:=R.hb.size;omega
  · rw [askArgs_snoc]
    exact own_set row4 bx4 (by decide) 1 v'
  · exact bx4.setCell 1 v'
  · intro y hy
    rcases List.mem_append.1 hy with hy | hy
    · obtain ⟨h1,h2,h3,h4⟩:=R.asks y hy
      exact ⟨h1,h2,oldP h3,oldP h4⟩
    · simp only [List.mem_singleton] at hy
      subst hy
      subst hx
      refine ⟨hc,hnow,newP t1,?_⟩
      show ReadsP _ _ ev ((doN L c now).1.ents.map Ent.eg).length 4 (egArgs ((doN L c now).1.ents.map Ent.eg))
      rw [egArgs_of,List.length_map]
      exact newP e1
  · intro i y hy
    rcases Nat.lt_or_ge i l.length with h | h
    · rw [List.getElem?_append_left h] at hy
      exact R.nums i y hy
    · rw [List.getElem?_append_right h] at hy
      have h0:i - l.length=0:=by have:=(List.getElem?_eq_some_iff.1 hy).1;simp at this;omega
      rw [h0] at hy
      simp at hy
      subst hy
      subst hx
      have:=R.len
      exact ⟨by show k=i;omega,by show k=i;omega⟩
  · rcases hj with h | h | rfl
    · exact R.own j h
    · exact (R.row.lt j h).1
    · exact R.sbb
def EndOwn (B:Nat) (ev:Value) (tb b:Nat):Prop:=ev.ownBlock=some b∨b=tb∨b<B
theorem endArgs_snoc (E:List (Value×Value)) (y:Value×Value):endArgs (E++[y])=endArgs E++[y.1,y.2]:=by unfold endArgs;rw [List.flatMap_append];simp [endCells]
def EndW (ev:Value) (tb b:Nat):Prop:=ev.ownBlock=some b∨b=tb
theorem EndW.own {B:Nat} {ev:Value} {tb b:Nat} (h:EndW ev tb b):EndOwn B ev tb b:=h.elim .inl (fun h=>.inr (.inl h))
structure LEnd (W0:World) (L:List Hs) (tb tg:Nat) (tv:Value) (S:Array Value) (j:Nat) (W:World) (ev:Value) (E:List (Value×Value)):Prop where
  hb:Below W0.heap.size W0 W
  tb0:W0.heap.size≤tb
  box:Blk W tb (toArr tv ev) 46
  term:Blk W tg S 50
  row:W.ownsRow W0.heap.size 64 2 ev j (endArgs E)
  len:E.length=j
  at':∀ (i:Nat) h,i<j→L[i]?=some h→∃ sv e',E[i]?=some (sv,e')∧ReadsP W (EndOwn W0.heap.size ev tb) sv (liveN h.ses 0).length 4 (sesArgs (liveN h.ses 0))∧ReadsP W (EndOwn W0.heap.size ev tb) e' h.ents.length 4 (entArgs h.ents)
theorem LEnd.step {W0:World} {L:List Hs} {tb tg:Nat} {tv:Value} {S:Array Value} {j:Nat} {W:World} {ev:Value} {E:List (Value×Value)} (R:LEnd W0 L tb tg tv S j W ev E) {h:Hs} (hj:L[j]?=some h) {Wz W4:World} {sv e' ev':Value} (bz:Below W.heap.size W Wz)
    (s:Reads Wz sv (liveN h.ses 0).length 4 (sesArgs (liveN h.ses 0))) (sB:∀ b,sv.ownBlock=some b→W.heap.size≤b) (e:Reads Wz e' h.ents.length 4 (entArgs h.ents)) (eB:∀ b,e'.ownBlock=some b→W.heap.size≤b)
    (row4:W4.ownsRow W0.heap.size 64 2 ev' (j+1) (endArgs E++[sv,e'])) (gr:Wz.grownBy W4 ev.ownBlock) (fr:∀ g,ev'.ownBlock=some g→ev.ownBlock=some g∨Wz.heap.size≤g) :
    LEnd W0 L tb tg tv S (j+1) (W4.setCell ⟨tb,2,none⟩ ev') ev' (E++[(sv,e')]):=by
  have vlt:∀ b,ev.ownBlock=some b→b<W.heap.size:=fun b hb=>(R.row.lt b hb).2
  have tlt:tb<W.heap.size:=R.box.lt
  have v64:∀ b,ev.ownBlock=some b→Of W b 64:=by
    intro b hb
    obtain ⟨cur,hcur⟩:=own_typed R.row hb
    exact ⟨cur,_,hcur⟩
  have t46:Of W tb 46:=⟨_,_,R.box⟩
  have blk4:∀ {b t arr},Blk W b arr t→t≠64→Blk W4 b arr t:=by
    intro b t arr hb hn
    exact ((gr.block b (Nat.lt_of_lt_of_le hb.lt bz.size) (fun e=>(show Of W b t from ⟨_,_,hb⟩).ne (v64 b e.symm) hn rfl)).trans (bz.block b hb.lt)).trans hb
  have bx4:=blk4 R.box (by decide)
  have ogr:Only (fun b=>ev.ownBlock=some b) Wz W4:=⟨gr.os,gr.tape,gr.output,gr.size,fun b hb hn=>gr.block b hb (fun e=>hn e.symm)⟩
  have o2:Only (EndW ev tb) Wz (W4.setCell ⟨tb,2,none⟩ ev'):=(ogr.mono (fun b _ h=>.inl h)).setCell (.inl (.inr rfl)) 2 ev'
  have hO:Only (EndW ev tb) W (W4.setCell ⟨tb,2,none⟩ ev'):=(Only.of_below bz).trans o2
  have oldP:∀ {u:Value} {n m:Nat} {xs:List Value},ReadsP W (EndOwn W0.heap.size ev tb) u n m xs→ReadsP (W4.setCell ⟨tb,2,none⟩ ev') (EndOwn W0.heap.size ev' tb) u n m xs:=by
    intro u n m xs h
    refine ⟨h.only hO (fun _ h=>h.own),fun b hb hn hs=>?_⟩
    have hbl:=reads_lt h.1 hn hb
    have hno:=h.2 b hb hn
    rcases hs with hs | hs
    · rcases fr b hs with h' | h'
      · exact hno (.inl h')
      · have:=bz.size;omega
    · exact hno (.inr hs)
  have newP:∀ {u:Value} {n m:Nat} {xs:List Value},Reads Wz u n m xs→(∀ b,u.ownBlock=some b→W.heap.size≤b)→ReadsP (W4.setCell ⟨tb,2,none⟩ ev') (EndOwn W0.heap.size ev' tb) u n m xs:=by
    intro u n m xs h hB
    have hP:ReadsP Wz (EndOwn W0.heap.size ev tb) u n m xs:=⟨h,fun b hb hn hs=>by
      have:=hB b hb
      have:=R.hb.size
      rcases hs with hs | hs | hs
      · have:=vlt b hs;omega
      · omega
      · omega⟩
    refine ⟨hP.only o2 (fun _ h=>h.own),fun b hb hn hs=>?_⟩
    have hbl:=reads_lt h hn hb
    have:=hB b hb
    have:=R.hb.size
    rcases hs with hs | hs | hs
    · rcases fr b hs with h' | h'
      · have:=vlt b h';omega
      · omega
    · omega
    · omega
  refine
    { hb:=R.hb.trans (hO.below R.hb.size (fun b hb=>?_))
      tb0:=R.tb0
      box:=?_
      term:=?_
      row:=?_
      len:=by rw [List.length_append,R.len];rfl
      at':=?_ }
  · rcases hb with hb | rfl
    · exact (R.row.lt b hb).1
    · exact R.tb0
  · exact bx4.setCell 2 ev'
  · exact (blk4 R.term (by decide)).setCell_ne (by intro e;exact t46.ne (show Of W tb 50 by rw [←e];exact ⟨_,_,R.term⟩) (by decide) rfl) 2 ev'
  · rw [endArgs_snoc]
    exact own_set row4 bx4 (by decide) 2 ev'
  · intro i x hi hx
    by_cases hij:i<j
    · obtain ⟨sv0,e0,h1,h2,h3⟩:=R.at' i x hij hx
      exact ⟨sv0,e0,by rw [List.getElem?_append_left (by rw [R.len];exact hij)];exact h1,oldP h2,oldP h3⟩
    · obtain rfl:i=j:=by omega
      rw [hj] at hx
      cases hx
      refine ⟨sv,e',?_,newP s sB,newP e eB⟩
      rw [List.getElem?_append_right (by rw [R.len];exact Nat.le_refl _),R.len,Nat.sub_self]
      rfl
theorem LEnd.kept {W0:World} {L:List Hs} {tb tg:Nat} {tv:Value} {S:Array Value} {j:Nat} {W W':World} {ev:Value} {E:List (Value×Value)} (R:LEnd W0 L tb tg tv S j W ev E) (hb:Below W.heap.size W W'):LEnd W0 L tb tg tv S j W' ev E where
  hb:=R.hb.trans (hb.mono R.hb.size)
  tb0:=R.tb0
  box:=R.box.kept hb
  term:=R.term.kept hb
  row:=own_below R.row hb
  len:=R.len
  at':=fun i h hi hx=>by
    obtain ⟨sv,e',h1,h2,h3⟩:=R.at' i h hi hx
    exact ⟨sv,e',h1,⟨h2.1.kept hb,h2.2⟩,⟨h3.1.kept hb,h3.2⟩⟩
theorem LEnd.endok {W0:World} {L:List Hs} {tb tg:Nat} {tv:Value} {S:Array Value} {W:World} {ev:Value} {E:List (Value×Value)} (R:LEnd W0 L tb tg tv S L.length W ev E):EndOk W L E :=
  ⟨R.len,fun i h hi=>by
    obtain ⟨sv,e',h1,h2,h3⟩:=R.at' i h (List.getElem?_eq_some_iff.1 hi).1 hi
    exact ⟨sv,e',h1,h2.1,h3.1⟩⟩
theorem check01 {T:List Ten} (h:checkN T≠0):checkN T=1:=by
  unfold checkN at *
  split at h
  · exact absurd rfl h
  · rw [if_neg (by assumption)]
structure LArg (w:World) (Ts:List Ten) (TA:Option Addr) (TC:Nat) (CA:Option Addr) (CC:Nat) (cls:List Cl) (KA:Option Addr) (KC:Nat) (tks:List Nat) (wh:Int) (oth:AG) (otv oev:Value):Prop where
  tn:∀ t∈Ts,t.name.size≤maxLen
  tr:Reads w (.slice TA Ts.length TC) Ts.length 3 (tenArgs Ts)
  cr:Reads w (.slice CA cls.length CC) cls.length 8 (clArgs cls)
  cok:∀ c∈cls,c.Ok
  kr:Reads w (.slice KA tks.length KC) tks.length 1 (tickArgs tks)
  kok:∀ t∈tks,t<18446744073709551616
  wh:-9223372036854775808≤wh∧wh≤9223372036854775807
  otv:Reads w otv oth.toks.length 1 (strArgs oth.toks)
  oev:Reads w oev oth.ents.length 4 (egArgs oth.ents)
theorem LArg.kept {w w':World} {Ts:List Ten} {TA:Option Addr} {TC:Nat} {CA:Option Addr} {CC:Nat} {cls:List Cl} {KA:Option Addr} {KC:Nat} {tks:List Nat} {wh:Int} {oth:AG} {otv oev:Value} (h:LArg w Ts TA TC CA CC cls KA KC tks wh oth otv oev) (hb:Below w.heap.size w w'):LArg w' Ts TA TC CA CC cls KA KC tks wh oth otv oev :=
  ⟨h.tn,h.tr.kept hb,h.cr.kept hb,h.cok,h.kr.kept hb,h.kok,h.wh,h.otv.kept hb,h.oev.kept hb⟩
theorem clArgs_len (l:List Cl):(clArgs l).length=l.length*8:=flatMap_len (f:=clCells) (fun _=>rfl) l
theorem Reads.cl_at {w:World} {A:Option Addr} {n cap:Nat} {l:List Cl} (h:Reads w (.slice A n cap) n 8 (clArgs l)) {k:Nat} {x:Cl} (hk:l[k]?=some x) :
    ∃ b o,A=some ⟨b,o,none⟩∧b<w.heap.size∧w.rangeAt b (o+k*8) (clCells x):=by
  have hl:=h.1
  have hlen:=clArgs_len l
  have hlt:=(List.getElem?_eq_some_iff.1 hk).1
  obtain ⟨b,o,rfl,hb,hc⟩:=h.some_at (by omega)
  refine ⟨b,o,rfl,hb,fun j v hj=>?_⟩
  have hj8:j<8:=by have:=(List.getElem?_eq_some_iff.1 hj).1;simpa [clCells] using this
  have:=hc (k*8+j) v ((flatMap_at (f:=clCells) (k:=8) (fun _=>rfl) l k x hk j hj8).trans hj)
  rw [←Nat.add_assoc] at this
  exact this
end Go.Proofs.YtmdgeknnhckgfaaGreatDoor
