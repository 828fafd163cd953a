/-
  Parts of the proof of the law LinModel: AppF, MClp, HashS.
-/
import Derived.Test.YtmdgeknnhckgfaaGreatDoorS08
import Derived.Test.YtmdgeknnhckgfaaGreatDoorS09
import Derived.Test.YtmdgeknnhckgfaaGreatDoorS11
import Derived.Test.YtmdgeknnhckgfaaGreatDoorS12
import Derived.Test.YtmdgeknnhckgfaaGreatDoorS14
import Derived.Test.YtmdgeknnhckgfaaGreatDoorS26
set_option linter.unusedSimpArgs false
set_option linter.unusedVariables false
namespace Go.Proofs.YtmdgeknnhckgfaaGreatDoor
open Go Go.RowKit
theorem run_append_full {P:Program} (w:World) (t ty e:TypeId) (i:TypeInfo) (z:Value) (size bytes:Nat) (ht:P.underlying t=some (.slice e)) (hi:P.info? e=some i) (hz:i.zero=some z)
    (hsize:i.size=size) (hby:i.bytes=bytes) (hzs:z.cells.size=size) (hsz:0<size)
    (A:Option Addr) (n:Nat) (xs:List Value) (hr:Reads w (.slice A n n) n size xs)
    (a:Addr) (m c:Nat) (news:List Value) (hl:news.length=m*size) (hnews:∀ j u,news[j]?=some u→w.cell? (a.add j)=some u) (hm:0<m)
    (h63:n+m≤maxLen) (hbytes:(n+m)*bytes≤140737488355328) :
    ∃ v' w',(Builtin.append_ #[t,t] ty #[.slice A n n,.slice (some a) m c]).run P w=.ok v' w'∧w'.ownsRow w.heap.size e size v' (n+m) (xs++news)∧Below w.heap.size w w':=by
  subst hsize
  subst hby
  have hsmall:n+m≤9223372036854775807:=by simp only [maxLen] at h63;omega
  have hxl:=hr.1
  have hlen:(xs++news).length=(n+m)*i.size:=by rw [List.length_append,hxl,hl,Nat.add_mul]
  have grown:∀ (old:Nat),old<n+m →
      (w.drew.alloc (.cells (xs.toArray++news.toArray++Builtin.zeroCells z.cells (grownCap w (n+m) old e - (n+m))) e)).ownsRow w.heap.size e i.size
        (.slice (some ⟨w.heap.size,0,none⟩) (n+m) (grownCap w (n+m) old e)) (n+m) (xs++news) ∧
      Below w.heap.size w (w.drew.alloc (.cells (xs.toArray++news.toArray++Builtin.zeroCells z.cells (grownCap w (n+m) old e - (n+m))) e)):=by
    intro old ho
    have hge:=grownCap_ge w (n+m) old e
    have hcm:grownCap w (n+m) old e≤maxLen:=grownCap_le_maxLen w (n+m) old e h63
    refine ⟨⟨hlen,.inr ⟨w.heap.size,_,_,rfl,Nat.le_refl _,heap_alloc_new w.drew _,hge,hcm,?_,?_⟩⟩,(Below.refl _ w).drew.alloc (Nat.le_refl _) _⟩
    · simp only [Array.size_append,List.size_toArray,size_zeroCells,hzs,hxl,hl,←Nat.add_mul]
      congr 1
      omega
    · simp only [Array.toList_append,List.append_assoc]
      rw [←List.append_assoc,←hlen]
      exact List.take_left
  cases A with
  | none =>
    have hn:n=0:=by
      obtain ⟨_,_,A',cap',e',h3⟩:=hr
      rcases h3 with h3 | ⟨b,o,rfl,_⟩
      · exact h3
      · cases e'
    subst hn
    have hx:xs=[]:=List.eq_nil_of_length_eq_zero (by simpa using hxl)
    subst hx
    have hr':=run_append_nil (P:=P) w t ty e i z ht hi hz a m c news hl hnews hm (by omega) (by simp only [Nat.zero_add] at hbytes;omega)
    have hgr:=grown 0 (by omega)
    simp only [Nat.zero_add,List.nil_append,Array.empty_append] at hgr ⊢
    exact ⟨_,_,hr',hgr.1,hgr.2⟩
  | some b =>
    have holds:∀ j u,xs[j]?=some u→w.cell? (b.add j)=some u:=by
      intro j u hj
      have hn:n≠0:=by
        rintro rfl
        have hx:xs=[]:=List.eq_nil_of_length_eq_zero (by simpa using hxl)
        subst hx
        simp at hj
      obtain ⟨b',o,e1,_,hc⟩:=hr.some_at hn
      injection e1 with e1
      subst e1
      rw [add_at rfl]
      exact hc j u hj
    have hr':=run_append_grow (P:=P) w t ty e i z ht hi hz b n n xs hxl holds a m c news hl hnews (by omega) (by omega) (growslice_fits (by omega) hbytes)
    have hgr:=grown n (by omega)
    exact ⟨_,_,hr',hgr.1,hgr.2⟩
theorem oper_append_full {P:Program} {w:World} {o:Oper} {a:Act} {K:Act→World→Prop} {Q:Exit→Act→World→Prop} (s x:Operand) (t:TypeId)
    (ho:o.op=.call { callee:=.builtin .append,args:=#[s,x],argTypes:=#[t,t] })
    (e:TypeId) (i:TypeInfo) (z:Value) (size bytes:Nat) (ht:P.underlying t=some (.slice e)) (hi:P.info? e=some i) (hz:i.zero=some z)
    (hsize:i.size=size) (hby:i.bytes=bytes) (hzs:z.cells.size=size) (hsz:0<size)
    (A:Option Addr) (n:Nat) (xs:List Value) (hs:a.eval s=.slice A n n) (hr:Reads w (.slice A n n) n size xs)
    (ad:Addr) (m c:Nat) (news:List Value) (hx:a.eval x=.slice (some ad) m c) (hl:news.length=m*size) (hnews:∀ j u,news[j]?=some u→w.cell? (ad.add j)=some u) (hm:0<m)
    (h63:n+m≤maxLen) (hbytes:(n+m)*bytes≤140737488355328)
    (h:∀ v' w',w'.ownsRow w.heap.size e size v' (n+m) (xs++news)→Below w.heap.size w w'→K (a.put o.dst v') w'):Oper.wp P o a w K Q:=by
  obtain ⟨v',w',hrun,r1,r2⟩:=run_append_full (P:=P) w t o.type e i z size bytes ht hi hz hsize hby hzs hsz A n xs hr ad m c news hl hnews hm h63 hbytes
  unfold Oper.wp execOp
  simp only [ho,resolve,invoke,builtin,Sem.run_bind,Sem.run_pure,Result.andThen_ok,List.map_toArray,List.map_cons,List.map_nil,hs,hx,hrun]
  exact h v' w' r1 r2
theorem mod_clip (A:Option Addr) (n cap:Nat) (hn:n≤cap) (hz:A=none→n=0) (w:World) :
    Calls Tryz.prog 148 #[.slice A n cap] w fun e w'=>e=.returned (.slice A n n)∧w'=w:=by
  have hc:(n:Int)≤(cap:Int):=by omega
  go_enter Tryz.func148,Tryz.ntmps148
  go_wp2_with fail
  go_ret
  exact ⟨rfl,rfl⟩
theorem Reads.clip {w:World} {A:Option Addr} {n cap c k:Nat} {xs:List Value} (h:Reads w (.slice A n cap) n k xs):Reads w (.slice A n c) n k xs:=by
  obtain ⟨h1,h2,A',cap',e,h3⟩:=h
  cases e
  exact ⟨h1,h2,_,c,rfl,h3⟩
theorem bldF_kept {T e:TypeId} {B b:Nat} {bs:List Value} {w w':World} (h:Lib.IsBuilderF T e B b bs w) (hb:Below w.heap.size w w'):Lib.IsBuilderF T e B b bs w':=by
  have key:∀ p,Lib.BuilderAtF T e B b p bs w→Lib.BuilderAtF T e B b p bs w':=by
    rintro p ⟨hB,v,hbk,hown,hne⟩
    refine ⟨hB,v,(hb.block b (lt_of_block hbk)).trans hbk,?_,hne⟩
    exact hown.kept (row:=none) ⟨hb.os,hb.tape,hb.output,hb.size,fun i hi _=>hb.block i hi⟩ (by cases hv:v.ownBlock<;>simp)
  exact h.elim (fun x=>.inl (key _ x)) (fun x=>.inr (key _ x))
theorem index259 (F:Nat→Int) (k:Nat) (hk:k<8) (W:World):(Instr.index 259 (.agg #[.int .u32 (F 0),.int .u32 (F 1),.int .u32 (F 2),.int .u32 (F 3),.int .u32 (F 4),.int .u32 (F 5),.int .u32 (F 6),.int .u32 (F 7)]) (.int .i64 (k:Int))).run Tryz.prog W=.ok (.int .u32 (F k)) W:=by
  have key:∀ x0 x1 x2 x3 x4 x5 x6 x7:Int,((Instr.index 259 (.agg #[.int .u32 x0,.int .u32 x1,.int .u32 x2,.int .u32 x3,.int .u32 x4,.int .u32 x5,.int .u32 x6,.int .u32 x7]) (.int .i64 0)).run Tryz.prog W=.ok (.int .u32 x0) W)∧((Instr.index 259 (.agg #[.int .u32 x0,.int .u32 x1,.int .u32 x2,.int .u32 x3,.int .u32 x4,.int .u32 x5,.int .u32 x6,.int .u32 x7]) (.int .i64 1)).run Tryz.prog W=.ok (.int .u32 x1) W)∧((Instr.index 259 (.agg #[.int .u32 x0,.int .u32 x1,.int .u32 x2,.int .u32 x3,.int .u32 x4,.int .u32 x5,.int .u32 x6,.int .u32 x7]) (.int .i64 2)).run Tryz.prog W=.ok (.int .u32 x2) W)∧((Instr.index 259 (.agg #[.int .u32 x0,.int .u32 x1,.int .u32 x2,.int .u32 x3,.int .u32 x4,.int .u32 x5,.int .u32 x6,.int .u32 x7]) (.int .i64 3)).run Tryz.prog W=.ok (.int .u32 x3) W)∧((Instr.index 259 (.agg #[.int .u32 x0,.int .u32 x1,.int .u32 x2,.int .u32 x3,.int .u32 x4,.int .u32 x5,.int .u32 x6,.int .u32 x7]) (.int .i64 4)).run Tryz.prog W=.ok (.int .u32 x4) W)∧((Instr.index 259 (.agg #[.int .u32 x0,.int .u32 x1,.int .u32 x2,.int .u32 x3,.int .u32 x4,.int .u32 x5,.int .u32 x6,.int .u32 x7]) (.int .i64 5)).run Tryz.prog W=.ok (.int .u32 x5) W)∧((Instr.index 259 (.agg #[.int .u32 x0,.int .u32 x1,.int .u32 x2,.int .u32 x3,.int .u32 x4,.int .u32 x5,.int .u32 x6,.int .u32 x7]) (.int .i64 6)).run Tryz.prog W=.ok (.int .u32 x6) W)∧((Instr.index 259 (.agg #[.int .u32 x0,.int .u32 x1,.int .u32 x2,.int .u32 x3,.int .u32 x4,.int .u32 x5,.int .u32 x6,.int .u32 x7]) (.int .i64 7)).run Tryz.prog W=.ok (.int .u32 x7) W):=by
    intro x0 x1 x2 x3 x4 x5 x6 x7
    refine ⟨?_,?_,?_,?_,?_,?_,?_,?_⟩<;>kernel_rfl
  obtain ⟨a0,a1,a2,a3,a4,a5,a6,a7⟩:=key (F 0) (F 1) (F 2) (F 3) (F 4) (F 5) (F 6) (F 7)
  have hc:k=0∨k=1∨k=2∨k=3∨k=4∨k=5∨k=6∨k=7:=by omega
  rcases hc with rfl | rfl | rfl | rfl | rfl | rfl | rfl | rfl
  · exact a0
  · exact a1
  · exact a2
  · exact a3
  · exact a4
  · exact a5
  · exact a6
  · exact a7
def outK (st:Nat→Int):Nat→List UInt8
  | 0=>[]
  | k+1=>outK st k++wordB (st k)
theorem outK_8 (st:Nat→Int):outK st 8=outN st:=by
  unfold outN
  simp only [outK,List.nil_append]
theorem outK_len (st:Nat→Int):∀ k,(outK st k).length=4*k
  | 0=>rfl
  | k+1=>by rw [outK,List.length_append,outK_len];rfl
theorem word_tail (n:Nat) (h:n<4294967296):(⟨(be8 n).toArray⟩:ByteArray).extract 4 (be8 n).length=⟨(wordB (n:Int)).toArray⟩:=by
  have:(be8 n).drop 4=wordB (n:Int):=by
    unfold be8 wordB
    simp only [List.drop_succ_cons,List.drop_zero,List.cons.injEq,and_true]
    refine ⟨?_,?_,?_,?_⟩<;>(apply ofNat_eq;omega)
  apply ByteArray.ext
  show ((be8 n).toArray).extract 4 8=_
  rw [←this]
  simp [List.extract_eq_take_drop]
  rfl
theorem repeat_zero:∀ n,Lib.repeatL [0] n=List.replicate n (0:UInt8)
  | 0=>rfl
  | n+1=>by rw [Lib.repeatL,repeat_zero n];rfl
def RHS (w:World) (F:Nat→Int) (bb:Nat) (iv:Value) (W:World):Prop:=∃ k:Nat,k≤8∧iv=.int .i64 (k:Nat)∧Lib.IsBuilderF 164 5 bb bb (bv (outK F k)) W∧Below w.heap.size w W∧bb<W.heap.size
theorem Tryz.size262:(Tryz.prog.info? 262).map (·.size)=some 75:=by kernel_rfl
theorem Tryz.zero262:Tryz.zeroCells262.size=75:=by kernel_rfl
theorem hash_size (st:Nat→Int) {rest:List UInt8} {n all:Nat} (h:rest.length=64):(arrN 8 st++hashR rest n all).size=75:=by rw [Array.size_append,arrN_size,hashR_size _ _ _ h]
theorem hash_one (st:Nat→Int) (rest:List UInt8) (n all:Nat):(arrN 8 st++hashR rest n all).all (·.oneCell')=true:=by
  rw [Array.all_append,arrN_one]
  unfold hashR
  simp [bv,Value.oneCell']
set_option maxRecDepth 100000 in
set_option maxHeartbeats 4000000 in
theorem mod_HSum (hb:Nat) (T:List UInt8) (hT:T.length≤1073741824) (w:World) (hh:HashAt w hb T T.length) :
    Calls Tryz.prog 190 #[.pointer (some ⟨hb,0,none⟩)] w fun e w'=>e=.returned (.string ⟨(sumN T).toArray⟩)∧Below w.heap.size w w':=by
  obtain ⟨rest,h1,h2,h3⟩:=hh
  obtain ⟨q,hq⟩:∃ q,T.length % 64=q:=⟨_,rfl⟩
  obtain ⟨N,hN⟩:∃ q,T.length=q:=⟨_,rfl⟩
  obtain ⟨M,hM⟩:∃ q,8*N=q:=⟨_,rfl⟩
  rw [hq,hN] at h3
  have HHX:∀ w3,Blk w3 w.heap.size (arrN 8 (foldB T (N / 64))++hashR rest q N) 262→HashAt w3 w.heap.size T N:=fun w3 hk=>⟨rest,h1,h2,by rw [hq,hN];exact hk⟩
  have HX:=Lib.hid HHX
  clear HHX
  have hst:=mod_start h3 h1
  obtain ⟨c72,c73,c74,cR⟩:=hash_cell h3 h1
  obtain ⟨z,hz⟩:∃ z,padZ T.length=z:=⟨_,rfl⟩
  have q64:q<64:=by omega
  have zI:(119 - (q:Int)).tmod 64=(z:Int):=by
    rw [Int.tmod_eq_emod_of_nonneg (by omega)]
    unfold padZ at hz
    omega
  have zI2:(119 - (q:Int)) % 64=(z:Int):=by
    unfold padZ at hz
    omega
  have wz:IntKind.i64.wrap (119 - (q:Int))=119 - (q:Int):=IntWalk.i64_in _ (by omega)
  have w64:IntKind.u64.wrap (N:Int)=(N:Int):=by rw [IntKind.wrap_u64];omega
  have w8:IntKind.u64.wrap (8*(N:Int))=(M:Int):=by rw [IntKind.wrap_u64];omega
  have w8':8*(N:Int)=(M:Int):=by omega
  have wM:IntKind.u64.wrap (M:Int)=(M:Int):=by rw [IntKind.wrap_u64];omega
  have N0:N≤1073741824:=by omega
  have zl:z<64:=by rw [←hz];unfold padZ;omega
  have hrp:=Tryz.strings_Repeat ⟨#[0]⟩ z
  rw [show (⟨#[0]⟩:ByteArray).data.toList=[0] from rfl,repeat_zero] at hrp
  obtain ⟨RZ,hRZ⟩:∃ x,List.replicate z (0:UInt8)=x:=⟨_,rfl⟩
  rw [hRZ] at hrp
  have lRZ:RZ.length=z:=by rw [←hRZ,List.length_replicate]
  have HRep:=Lib.hid (fun W=>hrp W (by omega) (by show 1*z≤_;omega))
  clear hrp
  have hnum:=mac_number M
  obtain ⟨B8,hB8⟩:∃ x,be8 M=x:=⟨_,rfl⟩
  rw [hB8] at hnum
  have lB8:B8.length=8:=by rw [←hB8];rfl
  have HNum:=Lib.hid hnum
  obtain ⟨C,hC⟩:∃ x,128::RZ=x:=⟨_,rfl⟩
  have lC:C.length=z+1:=by rw [←hC,List.length_cons,lRZ]
  obtain ⟨D,hD⟩:∃ x,C++B8=x:=⟨_,rfl⟩
  have lD:D.length=z+9:=by rw [←hD,List.length_append,lC,lB8]
  have e1:∀ W,(Op.stringOp .add ⟨#[128]⟩ ⟨RZ.toArray⟩).run Tryz.prog W=.ok (.string ⟨C.toArray⟩) W:=fun W=>by
    have:=str_add [128] RZ (by rw [lRZ];simp;omega) W
    rw [←hC];exact this
  have e2:∀ W,(Op.stringOp .add ⟨C.toArray⟩ ⟨B8.toArray⟩).run Tryz.prog W=.ok (.string ⟨D.toArray⟩) W:=fun W=>by rw [←hD];exact str_add _ _ (by omega) W
  have hall:T++D=allN T:=by
    unfold allN padN
    rw [hz,hRZ,hN,hM,hB8,←hD,←hC,List.append_assoc]
  have HALL:=Lib.hid hall
  have HLD:=Lib.hid lD
  clear hnum hB8 lB8 hC lC hD lD hall hRZ lRZ
  have H3:=Lib.hid h3
  have H1:=Lib.hid h1
  have H2:=Lib.hid h2
  have HZ:=Lib.hid hz
  have HTN:=Lib.hid hN
  clear cR c74 h3 h1 h2 hz hq hN hM hT
  go_enter Tryz.func190,Tryz.ntmps190
  go_wp2_with fail
  refine hst.mono ?_
  rintro e w2 ⟨rfl,hu⟩
  obtain rfl:=hu.symm
  clear hst hu
  go_wp2_with (first | (refine wpList_load_blk rfl 262 (Operand.tmp 13) rfl hb rfl 262 _ _ H3.out Tryz.underlying262 rfl (by rw [hash_size _ H1.out];exact Tryz.size262) ?_) | (refine wpList_store_new rfl 262 (Operand.tmp 3) (Operand.tmp 14) rfl rfl (arrN 8 (foldB T (N / 64))++hashR rest q N) rfl (by rw [hash_size _ H1.out];exact Tryz.size262) (by rw [hash_size _ H1.out];exact Tryz.zero262) (hash_one _ _ _ _) ?_;intro w3 hk3 hb3 hs3;have dB:=hash_cell (H3.out.kept hb3) H1.out;have d72:=dB.1;have d73:=dB.2.1;clear dB c72 c73))
  have hH3:HashAt w3 w.heap.size T N:=HX.out w3 hk3
  have HH3:=Lib.hid hH3
  have HS3:=Lib.hid hs3.out
  clear hs3 d72 hk3 hH3
  refine region_plan (S:=fun w':World=>w'.cell? ⟨hb,73,none⟩=some (.int .i64 (N:Nat))) ((0,true)::(3,true)::(4,true)::(5,true)::(6,true)::(7,true)::(8,true)::(1,false)::(2,true)::(9,false)::(10,true)::(11,false)::[])
    (by kernel_rfl) (by kernel_rfl) (by kernel_rfl) (by kernel_rfl) (fun _ _ _ dst _ h=>by cases dst<;>exact h) d73 (fun hH=>?_)
  clear hH
  (repeat (first | (refine plan_take (v:=?_) (by (simp only [ga1,ga2,ga3];exact rfl)) (by rfl) ?_ ?_;rotate_left;(focus (intro wS hS;(try dsimp only at hS);go_split_ands;go_simp;(try with_reducible rfl)));simp only [Act.put,pu1,pu2,pu3]) | (refine plan_skip (by (simp only [ga1,ga2,ga3];exact rfl)) (by rfl) ?_;simp only [Act.put,pu1,pu2,pu3])))
  (refine plan_solo (by (simp only [ga1,ga2,ga3];exact rfl)) (by rfl) ?_;intro K hK;go_simp)
  refine (HRep.out _).mono ?_
  rintro e w4 ⟨rfl,hb4⟩
  have hb4':Below w3.heap.size w3 w4:=(Below.refl _ w3).drew.trans hb4
  have d74:w4.cell? ⟨hb,73,none⟩=some (.int .i64 (N:Nat)):=cell_keep hb4' d73
  refine hK.out _ _ d74 (fun hH=>?_)
  clear hK K hH hb4 HRep
  (try simp only [Act.put,pu1,pu2,pu3])
  (repeat (first | (refine plan_take (v:=?_) (by (simp only [ga1,ga2,ga3];exact rfl)) (by rfl) ?_ ?_;rotate_left;(focus (intro wS hS;(try dsimp only at hS);go_split_ands;go_simp;(try with_reducible rfl)));simp only [Act.put,pu1,pu2,pu3]) | (refine plan_skip (by (simp only [ga1,ga2,ga3];exact rfl)) (by rfl) ?_;simp only [Act.put,pu1,pu2,pu3])))
  (refine plan_solo (by (simp only [ga1,ga2,ga3];exact rfl)) (by rfl) ?_;intro K hK;go_simp)
  refine (HNum.out _).mono ?_
  rintro e w5 ⟨rfl,hb5⟩
  have hb5':Below w3.heap.size w3 w5:=hb4'.trans (hb5.mono hb4'.size)
  refine hK.out _ _ (cell_keep hb5' d73) (fun hH=>?_)
  clear hK K hH hb5 HNum hb4' d74
  (try simp only [Act.put,pu1,pu2,pu3])
  (repeat (first | (refine plan_take (v:=?_) (by (simp only [ga1,ga2,ga3];exact rfl)) (by rfl) ?_ ?_;rotate_left;(focus (intro wS hS;(try dsimp only at hS);go_split_ands;go_simp;(try with_reducible rfl)));simp only [Act.put,pu1,pu2,pu3]) | (refine plan_skip (by (simp only [ga1,ga2,ga3];exact rfl)) (by rfl) ?_;simp only [Act.put,pu1,pu2,pu3])))
  (refine plan_solo (by (simp only [ga1,ga2,ga3];exact rfl)) (by rfl) ?_;intro K hK;go_simp)
  have hH5:HashAt w5 w.heap.size T N:=by
    obtain ⟨r',q1,q2,q3⟩:=HH3.out
    exact ⟨r',q1,q2,q3.kept hb5'⟩
  refine (mod_write w.heap.size T D N (by have:=HLD.out;have:=HTN.out;omega) (by have:=HLD.out;omega) w5 hH5).mono ?_
  rintro e w6 ⟨rfl,hH6,ho6⟩
  rw [HALL.out] at hH6
  have hlt:hb<w.heap.size:=H3.out.lt
  refine hK.out _ _ ((ho6.below (B:=w.heap.size) (Nat.le_trans hb3.size hb5'.size) (fun k hk=>by rw [hk];exact Nat.le_refl _)).cell (p:=⟨hb,73,none⟩) hlt |>.trans (cell_keep hb5' d73)) (fun hH=>?_)
  clear hK K hH
  (try simp only [Act.put,pu1,pu2,pu3])
  (repeat (first | (refine plan_take (v:=?_) (by (simp only [ga1,ga2,ga3];exact rfl)) (by rfl) ?_ ?_;rotate_left;(focus (intro wS hS;(try dsimp only at hS);go_split_ands;go_simp;(try with_reducible rfl)));simp only [Act.put,pu1,pu2,pu3]) | (refine plan_skip (by (simp only [ga1,ga2,ga3];exact rfl)) (by rfl) ?_;simp only [Act.put,pu1,pu2,pu3])))
  refine plan_nil ?_
  have hb6:Below w.heap.size w w6:=(hb3.trans (hb5'.mono hb3.size)).trans (ho6.below (Nat.le_trans hb3.size hb5'.size) (fun k hk=>by rw [hk];exact Nat.le_refl _))
  have HB6:=Lib.hid hb6
  obtain ⟨r6,q1,q2,q3⟩:=hH6
  obtain ⟨F,hF⟩:∃ F,foldB (allN T) ((allN T).length / 64)=F:=⟨_,rfl⟩
  have HU:=Lib.hid (show ∀ i,U32 (F i) by rw [←hF];exact foldB_U32 _ _)
  have HOUT:=Lib.hid (show sumN T=outN F by unfold sumN;rw [hF])
  rw [hF] at q3
  have c0:=q3.cell 0 (.int .u32 (F 0)) (by rw [Array.getElem?_append_left (by rw [arrN_size];decide)];exact arrN_get 8 F (by decide))
  have c1:=q3.cell 1 (.int .u32 (F 1)) (by rw [Array.getElem?_append_left (by rw [arrN_size];decide)];exact arrN_get 8 F (by decide))
  have c2:=q3.cell 2 (.int .u32 (F 2)) (by rw [Array.getElem?_append_left (by rw [arrN_size];decide)];exact arrN_get 8 F (by decide))
  have c3:=q3.cell 3 (.int .u32 (F 3)) (by rw [Array.getElem?_append_left (by rw [arrN_size];decide)];exact arrN_get 8 F (by decide))
  have c4:=q3.cell 4 (.int .u32 (F 4)) (by rw [Array.getElem?_append_left (by rw [arrN_size];decide)];exact arrN_get 8 F (by decide))
  have c5:=q3.cell 5 (.int .u32 (F 5)) (by rw [Array.getElem?_append_left (by rw [arrN_size];decide)];exact arrN_get 8 F (by decide))
  have c6:=q3.cell 6 (.int .u32 (F 6)) (by rw [Array.getElem?_append_left (by rw [arrN_size];decide)];exact arrN_get 8 F (by decide))
  have c7:=q3.cell 7 (.int .u32 (F 7)) (by rw [Array.getElem?_append_left (by rw [arrN_size];decide)];exact arrN_get 8 F (by decide))
  have hlw:w.heap.size<w6.heap.size:=q3.lt
  clear hF q1 q2 q3 hb6 ho6 hH5 hb5' d73 hb3 e1 e2 zI zI2 wz w64 w8 w8' wM hlt HH3 HS3 HALL HLD H1 H2 H3 HZ zl HX
  go_wp2_with fail
  have hbld:=Lib.IsBuilderF.of (Lib.fresh_isBuilder 164 5 w6)
  go_loopw [35] (RHS w F w6.heap.size) (fun i _=>8 - (intOf i).toNat)
  case atStart=>exact ⟨0,Nat.zero_le _,rfl,hbld,HB6.out.alloc HB6.out.size _,by rw [World.size_alloc];omega⟩
  case round =>
    clear hbld c0 c1 c2 c3 c4 c5 c6 c7
    obtain ⟨k,hk,rfl,hI,hb,hbl⟩:=hrel
    by_cases hlt:k<8
    · have hidx:=index259 F k hlt
      have hu:=HU.out k
      obtain ⟨n,hn⟩:∃ n:Nat,F k=(n:Int):=⟨(F k).toNat,by have:=hu.1;omega⟩
      have hnl:n<4294967296:=by have:=hu.2;omega
      rw [hn] at hidx
      have HN:=Lib.hid hn
      have HW:=Lib.hid (word_tail n hnl)
      have HNm:=Lib.hid (mac_number n)
      have HI:=Lib.hid hI
      have h8:((⟨(be8 n).toArray⟩:ByteArray).size:Int)=8:=rfl
      clear hu hn hI
      go_wp2_with fail
      refine (HNm.out _).mono ?_
      rintro e w7 ⟨rfl,hb7⟩
      have hI7:=bldF_kept HI.out hb7
      have hb8:Below w.heap.size w w7:=hb.trans (hb7.mono hb.size)
      have hl7:w6.heap.size<w7.heap.size:=Nat.lt_of_lt_of_le hbl hb7.size
      clear HI hb7 HNm hidx
      go_wp2_with fail
      rw [HW.out]
      refine (Tryz.bld_WriteString w6.heap.size w6.heap.size (bv (outK F k)) ⟨(wordB (n:Int)).toArray⟩ w7 hI7 (by rw [bv_len,outK_len];show 4*k+(wordB (n:Int)).toArray.size≤_;rw [List.size_toArray,show (wordB (n:Int)).length=4 from rfl];omega) (Nat.le_of_lt hl7)).mono ?_
      rintro e w8 ⟨rfl,hI8,hb9,hk9⟩
      have hb10:Below w.heap.size w w8:=hb8.trans (hb9.mono (Nat.le_of_lt hlw))
      have HI8:=Lib.hid hI8
      have hl8:w6.heap.size<w8.heap.size:=Nat.lt_of_lt_of_le hl7 hb9.size
      clear hI8 hb9 hk9 hI7
      go_wp2_with fail
      go_roundw
      case rel =>
        refine ⟨k+1,hlt,by go_num,?_,hb10,hl8⟩
        have e1:bv (outK F (k+1))=bv (outK F k)++Lib.strCells ⟨(wordB (n:Int)).toArray⟩:=by
          rw [outK,bv_append,HN.out];rfl
        rw [e1]
        exact .inr HI8.out
      case measure=>simp [intOf];omega
    · have hK:k=8:=by omega
      subst hK
      rw [outK_8] at hI
      have HO:=HOUT.out
      rw [←HO] at hI
      have HI:=Lib.hid hI
      clear hI HO
      go_wp2_with fail
      refine (Tryz.Builder_String_any_k w6.heap.size w6.heap.size (sumN T) wr HI.out (Nat.le_of_lt hbl)).mono ?_
      rintro e w8 ⟨rfl,hI8,hb9,hk9⟩
      have hb10:Below w.heap.size w w8:=hb.trans (hb9.mono (Nat.le_of_lt hlw))
      clear hI8 hb9 hk9
      go_wp2_with fail
      go_ret
      exact ⟨rfl,hb10⟩
set_option maxRecDepth 100000 in
set_option maxHeartbeats 2000000 in
theorem mod_sum (T:List UInt8) (hT:T.length≤1073741824) (w:World):Calls Tryz.prog 171 #[.string ⟨T.toArray⟩] w fun e w'=>e=.returned (.string ⟨(sumN T).toArray⟩)∧Below w.heap.size w w':=by
  go_enter Tryz.func171,Tryz.ntmps171
  go_wp2_with fail
  refine (mod_New w).mono ?_
  rintro e w1 ⟨rfl,hh,hb1,hg⟩
  obtain ⟨hb,hhb⟩:∃ x,w1.heap.size - 1=x:=⟨_,rfl⟩
  rw [hhb] at hh hg ⊢
  clear hhb
  have HW:=Lib.hid (mod_write hb [] T 0 (by simp;omega) (by omega) w1 hh)
  clear hh
  go_wp2_with fail
  refine HW.out.mono ?_
  rintro e w2 ⟨rfl,hh2,ho2⟩
  rw [List.nil_append,Nat.zero_add] at hh2
  have hb2:Below w.heap.size w w2:=hb1.trans (ho2.below hb1.size (fun k hk=>by rw [hk];exact hg))
  have HS:=Lib.hid (mod_HSum hb T hT w2 hh2)
  clear hh2 ho2 HW hb1
  go_wp2_with fail
  refine HS.out.mono ?_
  rintro e w3 ⟨rfl,hb3⟩
  have hb4:Below w.heap.size w w3:=hb2.trans (hb3.mono hb2.size)
  clear hb3 hb2 HS
  go_wp2_with fail
  go_ret
  exact ⟨rfl,hb4⟩
set_option maxRecDepth 100000 in
set_option maxHeartbeats 2000000 in
theorem mod_chain (head entry:List UInt8) (h1:head.length+8+entry.length≤1073741824) (w:World) :
    Calls Tryz.prog 149 #[.string ⟨head.toArray⟩,.string ⟨entry.toArray⟩] w fun e w'=>e=.returned (.string ⟨(chainN head entry).toArray⟩)∧Below w.heap.size w w':=by
  have hsz:((⟨entry.toArray⟩:ByteArray).size:Int)=(entry.length:Int):=by show ((entry.toArray.size:Nat):Int)=_;simp
  have hw:IntKind.u64.wrap (entry.length:Int)=(entry.length:Int):=by rw [IntKind.wrap_u64];omega
  have hnum:=Lib.hid (mac_number entry.length)
  obtain ⟨b,hb⟩:∃ b,be8 entry.length=b:=⟨_,rfl⟩
  rw [hb] at hnum
  have lb:b.length=8:=by rw [←hb];rfl
  obtain ⟨c,hc⟩:∃ c,head++b=c:=⟨_,rfl⟩
  have lc:c.length=head.length+8:=by rw [←hc,List.length_append,lb]
  obtain ⟨d,hd⟩:∃ d,c++entry=d:=⟨_,rfl⟩
  have ld:d.length=head.length+8+entry.length:=by rw [←hd,List.length_append,lc]
  have e1:∀ W,(Op.stringOp .add ⟨head.toArray⟩ ⟨b.toArray⟩).run Tryz.prog W=.ok (.string ⟨c.toArray⟩) W:=fun W=>by rw [←hc];exact str_add _ _ (by omega) W
  have e2:∀ W,(Op.stringOp .add ⟨c.toArray⟩ ⟨entry.toArray⟩).run Tryz.prog W=.ok (.string ⟨d.toArray⟩) W:=fun W=>by rw [←hd];exact str_add _ _ (by omega) W
  have hE:chainN head entry=sumN d:=by unfold chainN;rw [hb,hc,hd]
  have hsum:=Lib.hid (mod_sum d (by omega))
  rw [hE]
  clear hb hc hd lb lc ld hE h1
  go_enter Tryz.func149,Tryz.ntmps149
  go_wp2_with fail
  refine (hnum.out _).mono ?_
  rintro e w1 ⟨rfl,hb1⟩
  go_wp2_with fail
  refine (hsum.out _).mono ?_
  rintro e w2 ⟨rfl,hb2⟩
  have b2:Below w.heap.size w w2:=hb1.trans (hb2.mono hb1.size)
  clear hnum hsum hb1 hb2
  go_wp2_with fail
  go_ret
  exact ⟨rfl,b2⟩
end Go.Proofs.YtmdgeknnhckgfaaGreatDoor
