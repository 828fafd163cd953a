/-
  Parts of the proof of the law LinModel: Sum, Chain, Head.
-/
import Derived.Test.YtmdgeknnhckgfaaGreatDoorS00
import Derived.Test.YtmdgeknnhckgfaaGreatDoorS01
import Derived.Test.YtmdgeknnhckgfaaGreatDoorS02
import Derived.Test.YtmdgeknnhckgfaaGreatDoorS04
set_option linter.unusedSimpArgs false
set_option linter.unusedVariables false
namespace Go.Proofs.YtmdgeknnhckgfaaGreatDoor
open Go Go.RowKit
theorem conv_own_b (s:ByteArray) (hs:s.size≤1099511627776) (w:World) :
    (convert 9 123 (.string s)).run Tryz.prog w=.ok (.slice (some ⟨w.heap.size,0,none⟩) s.size (grownCap w s.size 0 5)) (Lib.bytesWorld w 5 s) ∧
    OwnB (Lib.bytesWorld w 5 s) w.heap.size (.slice (some ⟨w.heap.size,0,none⟩) s.size (grownCap w s.size 0 5)) s.data.toList:=by
  refine ⟨Lib.run_convert_string_bytes w 9 123 5 s Tryz.underlying9 Tryz.underlying123 Tryz.underlying5,?_⟩
  have hge:=grownCap_ge w s.size 0 5
  have hle:=grownCap_le_maxLen w s.size 0 5 (by unfold maxLen;omega)
  refine OwnB.conv s hle hge ?_ ?_
  · unfold Lib.bytesCells
    simp [size_zeroCells,Value.cells]
    have:s.data.size=s.size:=rfl
    omega
  · unfold Lib.bytesCells
    have:s.data.size=s.size:=rfl
    rw [Array.toList_append,List.take_left' (by simp [this])]
    simp [bv]
theorem be8_len' (n:Nat):(be8 n).length=8:=rfl
def padZ (n:Nat):Nat:=(119 - n % 64) % 64
theorem padZ_iff {n j:Nat} (h:j≤padZ n):(n+1+j) % 64=56↔j=padZ n:=by
  unfold padZ at *
  omega
def padN (l:List UInt8) (j:Nat):List UInt8:=l++128::List.replicate j 0
theorem padN_succ (l:List UInt8) (j:Nat):padN l (j+1)=padN l j++[0]:=by
  unfold padN
  rw [List.replicate_succ']
  simp
theorem padN_len (l:List UInt8) (j:Nat):(padN l j).length=l.length+1+j:=by
  unfold padN;simp;omega
def allN (l:List UInt8):List UInt8:=padN l (padZ l.length)++be8 (8*l.length)
theorem allN_len (l:List UInt8):(allN l).length % 64=0:=by
  unfold allN
  rw [List.length_append,padN_len,be8_len']
  unfold padZ
  omega
def initL:List Int:=[1779033703,3144134277,1013904242,2773480762,1359893119,2600822924,528734635,1541459225]
def initN (i:Nat):Int:=initL.getD i 0
def foldB (l:List UInt8):Nat→Nat→Int
  | 0=>initN
  | k+1=>blockN (foldB l k) ⟨((l.drop (64*k)).take 64).toArray⟩
theorem initN_U32 (i:Nat):U32 (initN i):=by
  have h:∀ j:Fin 9,U32 (initN j.val):=by
    unfold U32
    decide
  by_cases hi:i<9
  · exact h ⟨i,hi⟩
  · have:initN i=0:=by
      unfold initN initL
      have h9:¬ i<8:=by omega
      simp [List.getD,List.getElem?_eq_none (show [1779033703,3144134277,1013904242,2773480762,1359893119,2600822924,528734635,(1541459225:Int)].length≤i from by simp;omega)]
    rw [this];exact ⟨by decide,by decide⟩
theorem addN_U32 {h V:Nat→Int} (hh:∀ i,U32 (h i)):∀ j i,U32 (addN h V j i)
  | 0=>hh
  | j+1=>put1_U32 (addN_U32 hh j) j (wrap_U32 _)
theorem foldB_U32 (l:List UInt8):∀ k i,U32 (foldB l k i)
  | 0=>initN_U32
  | k+1=>addN_U32 (foldB_U32 l k) 8
def wordB (x:Int):List UInt8:=[UInt8.ofNat (x / 16777216).toNat,UInt8.ofNat (x / 65536).toNat,UInt8.ofNat (x / 256).toNat,UInt8.ofNat x.toNat]
def outN (st:Nat→Int):List UInt8:=wordB (st 0)++wordB (st 1)++wordB (st 2)++wordB (st 3)++wordB (st 4)++wordB (st 5)++wordB (st 6)++wordB (st 7)
def sumN (l:List UInt8):List UInt8:=outN (foldB (allN l) ((allN l).length / 64))
theorem OwnB.kept {w w':World} {base:Nat} {v:Value} {l:List UInt8} (h:OwnB w base v l) (hb:Below w.heap.size w w'):OwnB w' base v l:=by
  obtain ⟨g,cap,cur,fz,h1,h2,h3,h4⟩:=h
  exact ⟨g,cap,cur,fz,h1,h2,(hb.block g (lt_of_block h3)).trans h3,h4⟩
theorem wpList_append_b {w:World} {ops:Array Oper} {rest:List Oper} {o:Oper} {a:Act} {Q:Exit→Act→World→Prop} (hgd:o.guard=none) (s x:Operand)
    (ho:o.op=.call { callee:=.builtin .append,args:=#[s,x],argTypes:=#[123,123] }) (base:Nat) (v:Value) (l:List UInt8) (hs:a.eval s=v) (hown:OwnB w base v l) (hb:base≤w.heap.size) (hl:l.length+1≤140737488355328)
    (ad:Addr) (c:Nat) (b:UInt8) (hx:a.eval x=.slice (some ad) 1 c) (hc:w.cell? (ad.add 0)=some (.int .u8 (b.toNat:Int)))
    (h:∀ v' w',OwnB w' base v' (l++[b])→Below base w w'→wpList Tryz.prog ops Q rest (a.put o.dst v') w'):wpList Tryz.prog ops Q (o::rest) a w:=by
  refine wpList_plain hgd fun K hK'=>?_
  obtain ⟨v',w',hrun,r1,r2⟩:=hown.app hb hl ad c b hc o.type
  unfold Oper.wp execOp
  simp only [ho,resolve,invoke,builtin,Sem.run_bind,Sem.run_pure,Result.andThen_ok,List.map_toArray,List.map_cons,List.map_nil,hs,hx,hrun]
  exact hK' _ _ (h v' w' r1 r2)
theorem OwnB.conv_str {w:World} {base:Nat} {v:Value} {l:List UInt8} (hown:OwnB w base v l):(convert 123 9 v).run Tryz.prog w=.ok (.string ⟨l.toArray⟩) w:=by
  have hc:=hown
  obtain ⟨g,cap,cur,fz,rfl,_⟩:=hown
  have:=run_convert_bytes_arg (P:=Tryz.prog) w 123 5 Tryz.underlying123 Tryz.underlying5 g 0 l.length cap (l.map fun b=>(b.toNat:Int)) (by simp) (fun i hi=>by
    have:=hc.cells i (.int .u8 ((l[i]'hi).toNat:Int)) (by simp [bv,hi])
    rw [add_at rfl] at this
    simpa [hi,List.getD] using this) 9 Tryz.underlying9
  have hs:strOfNums (l.map fun b=>(b.toNat:Int))=⟨l.toArray⟩:=by
    unfold strOfNums
    rw [List.map_map]
    have h1:((fun n:Int=>UInt8.ofNat n.toNat) ∘ fun b:UInt8=>(b.toNat:Int))=id:=by funext b;simp
    rw [h1,List.map_id]
  rw [this,hs]
theorem oper_store_blk {P:Program} {o:Oper} {a:Act} {w:World} {K:Act→World→Prop} {Q:Exit→Act→World→Prop} (ty:TypeId) (p x:Operand) (ho:o.op=.store ty p x)
    (g:Nat) (hp:a.eval p=.pointer (some ⟨g,0,none⟩)) (c c':Array Value) (t:TypeId) (hx:a.eval x=.agg c') (hg:Blk w g c t) (hi:(P.info? ty).map (·.size)=some c'.size) (hs:c.size=c'.size) (h1:c'.all (·.oneCell')=true)
    (h:∀ w',Blk w' g c' t→Only (fun k=>k=g) w w'→w'.heap.size=w.heap.size→K (a.put o.dst undef) w'):Oper.wp P o a w K Q:=by
  obtain ⟨w',hr,h1',h2',h3'⟩:=run_store_blk (P:=P) hg ty c' hi hs h1
  unfold Oper.wp execOp
  simp only [ho,hp,hx,Sem.run_bind,hr,Result.andThen_ok,Sem.run_pure]
  exact h w' h1' h2' h3'
theorem word_bv {x:Int} (h:U32 x):bv (wordB x)=[.int .u8 (x / 16777216),.int .u8 (x / 65536 % 256),.int .u8 (x / 256 % 256),.int .u8 (x % 256)]:=by
  obtain ⟨h0,h1⟩:=h
  obtain ⟨n,rfl⟩:=Int.eq_ofNat_of_zero_le h0
  simp [bv,wordB,UInt8.toNat_ofNat']
  try omega
theorem cells_four_new (w:World) (a b c d:Value) (t:TypeId):∀ j u,[a,b,c,d][j]?=some u→(w.alloc (.cells #[a,b,c,d] t)).cell? ((⟨w.heap.size,0,none⟩:Addr).add j)=some u:=by
  intro j u hj
  rw [add_at rfl]
  have:=(Blk.new w #[a,b,c,d] t).cell (0+j) u (by rw [Nat.zero_add];simpa using hj)
  exact this
theorem index177 (x0 x1 x2 x3 x4 x5 x6 x7:Int) (W:World):(Instr.index 177 (.agg #[.int .u32 x0,.int .u32 x1,.int .u32 x2,.int .u32 x3,.int .u32 x4,.int .u32 x5,.int .u32 x6,.int .u32 x7]) (.int .i64 0)).run Tryz.prog W=.ok (.int .u32 x0) W∧(Instr.index 177 (.agg #[.int .u32 x0,.int .u32 x1,.int .u32 x2,.int .u32 x3,.int .u32 x4,.int .u32 x5,.int .u32 x6,.int .u32 x7]) (.int .i64 1)).run Tryz.prog W=.ok (.int .u32 x1) W∧(Instr.index 177 (.agg #[.int .u32 x0,.int .u32 x1,.int .u32 x2,.int .u32 x3,.int .u32 x4,.int .u32 x5,.int .u32 x6,.int .u32 x7]) (.int .i64 2)).run Tryz.prog W=.ok (.int .u32 x2) W∧(Instr.index 177 (.agg #[.int .u32 x0,.int .u32 x1,.int .u32 x2,.int .u32 x3,.int .u32 x4,.int .u32 x5,.int .u32 x6,.int .u32 x7]) (.int .i64 3)).run Tryz.prog W=.ok (.int .u32 x3) W∧(Instr.index 177 (.agg #[.int .u32 x0,.int .u32 x1,.int .u32 x2,.int .u32 x3,.int .u32 x4,.int .u32 x5,.int .u32 x6,.int .u32 x7]) (.int .i64 4)).run Tryz.prog W=.ok (.int .u32 x4) W∧(Instr.index 177 (.agg #[.int .u32 x0,.int .u32 x1,.int .u32 x2,.int .u32 x3,.int .u32 x4,.int .u32 x5,.int .u32 x6,.int .u32 x7]) (.int .i64 5)).run Tryz.prog W=.ok (.int .u32 x5) W∧(Instr.index 177 (.agg #[.int .u32 x0,.int .u32 x1,.int .u32 x2,.int .u32 x3,.int .u32 x4,.int .u32 x5,.int .u32 x6,.int .u32 x7]) (.int .i64 6)).run Tryz.prog W=.ok (.int .u32 x6) W∧(Instr.index 177 (.agg #[.int .u32 x0,.int .u32 x1,.int .u32 x2,.int .u32 x3,.int .u32 x4,.int .u32 x5,.int .u32 x6,.int .u32 x7]) (.int .i64 7)).run Tryz.prog W=.ok (.int .u32 x7) W:=by
  refine ⟨?_,?_,?_,?_,?_,?_,?_,?_⟩<;>kernel_rfl
def lenOf:Value→Nat
  | .slice _ n _=>n
  | _=>0
def RA (w:World) (l:List UInt8) (base q:Nat) (v:Value) (W:World):Prop :=
  ∃ j,j≤padZ l.length∧OwnB W base v (padN l j)∧Blk W q (arrN 8 initN) 177∧Below w.heap.size w W∧base≤W.heap.size
def RBk (w:World) (L:List UInt8) (q:Nat) (i:Value) (W:World):Prop:=∃ k:Nat,64*k≤L.length∧i=.int .i64 (64*(k:Int))∧Blk W q (arrN 8 (foldB L k)) 177∧Below w.heap.size w W
set_option maxRecDepth 100000 in
set_option maxHeartbeats 8000000 in
theorem ref_sum (s:ByteArray) (hs:s.size≤1048576) (w:World) :
    Calls Tryz.prog 78 #[.string s] w fun e w'=>e=.returned (.string ⟨(sumN s.data.toList).toArray⟩)∧Below w.heap.size w w':=by
  have hcv:∀ W,(convert 9 123 (.string s)).run Tryz.prog W=.ok (.slice (some ⟨W.heap.size,0,none⟩) s.size (grownCap W s.size 0 5)) (Lib.bytesWorld W 5 s):=fun W=>(conv_own_b s (by omega) W).1
  obtain ⟨l,hl⟩:∃ l,s.data.toList=l:=⟨_,rfl⟩
  have hll:l.length=s.size:=by rw [←hl];rfl
  have HO:=Lib.hid (fun W=>(conv_own_b s (by omega) W).2)
  rw [hl] at HO ⊢
  have HLL:=Lib.hid hll
  have HL:=Lib.hid hl
  clear hll hl
  go_enter Tryz.func78,Tryz.ntmps78
  go_wp2_with (first
    | (refine wpList_store_new rfl 177 (Operand.tmp 3) (Operand.tmp 10) rfl rfl (arrN 8 initN) rfl (by rw [arrN_size];exact Tryz.size177) (by rw [arrN_size];rfl) (arrN_one _ _) ?_
       intro w2 hk2 hb2 hs2)
    | (at_builtin
       refine wpList_append_b rfl _ _ rfl w2.heap.size _ l rfl ((HO.out w2).kept ((Below.refl _ _).alloc (Nat.le_refl _) _)) (by rw [World.size_alloc,Lib.bytesWorld_size];omega) (by have:=HLL.out;omega) ⟨(Lib.bytesWorld w2 5 s).heap.size,0,none⟩ 1 128 rfl (cell_one_new _ _ _ 0 _ rfl) ?_
       intro v3 w3 own3 hb3))
  have hql:w.heap.size<w2.heap.size:=hk2.lt
  have bA:Below w2.heap.size w2 ((Lib.bytesWorld w2 5 s).alloc (.cells #[.int .u8 128] 5)):=(bytes_below w2 s).alloc (bytes_below w2 s).size _
  have bB:Below w2.heap.size w2 w3:=bA.trans hb3
  have hB3:Below w.heap.size w w3:=hb2.trans (bB.mono (Nat.le_of_lt hql))
  have hk3:=hk2.kept bB
  have hsz3:=bB.size
  obtain ⟨base,hbase⟩:∃ b,b=w2.heap.size:=⟨_,rfl⟩
  obtain ⟨q,hq⟩:∃ b,b=w.heap.size:=⟨_,rfl⟩
  rw [←hbase] at own3 hsz3 hql
  rw [←hq] at hk3 hql
  rw [←hq]
  simp only [←hbase]
  have HQ:=Lib.hid hq
  have HBS:=Lib.hid hql
  clear hbase hq hb3 bA bB hb2 hs2 hk2 hql
  go_loopw [4] (RA w l base q) (fun v _=>l.length+1+padZ l.length - (lenOf v))
  case atStart=>exact ⟨0,Nat.zero_le _,own3,hk3,hB3,hsz3⟩
  case round =>
    clear own3 hk3 hB3 hsz3
    obtain ⟨j,hj,hown,hk,hb,hsz⟩:=hrel
    obtain ⟨g,cap,cur,fz,rfl,hrest⟩:=hown
    have hown:OwnB wr base (.slice (some ⟨g,0,none⟩) (padN l j).length cap) (padN l j):=⟨g,cap,cur,fz,rfl,hrest⟩
    have HOW:=Lib.hid hown
    have hplen:=padN_len l j
    obtain ⟨N,hN⟩:∃ N,(padN l j).length=N:=⟨_,rfl⟩
    rw [hN] at hown hplen HOW ⊢
    have hpz:padZ l.length≤63:=by unfold padZ;omega
    have hNl:N≤1048640:=by have:=HLL.out;omega
    have hmod:(N:Int).tmod 64=((N % 64:Nat):Int):=by rw [Int.tmod_eq_emod_of_nonneg (by omega)];norm_cast
    by_cases hlt:j=padZ l.length
    · have h56:N % 64=56:=by rw [hplen];exact (padZ_iff hj).2 hlt
      rw [h56] at hmod
      clear hown hplen hpz
      have hcs:∀ W,Below wr.heap.size wr W→(convert 123 9 (.slice (some ⟨g,0,none⟩) N cap)).run Tryz.prog W=.ok (.string ⟨(padN l j).toArray⟩) W:=fun W hW=>(HOW.out.kept hW).conv_str
      have wlen:IntKind.u64.wrap (s.size:Int)=(s.size:Int):=by rw [IntKind.wrap_u64];omega
      obtain ⟨M8,hM8⟩:∃ m,m=8*l.length:=⟨_,rfl⟩
      have w8:IntKind.u64.wrap ((s.size:Int)*8)=(M8:Int):=by rw [IntKind.wrap_u64];have:=HLL.out;omega
      have hAl:(padN l j).length=N:=hN
      obtain ⟨A,hA⟩:∃ A,padN l j=A:=⟨_,rfl⟩
      obtain ⟨B,hB⟩:∃ B,be8 M8=B:=⟨_,rfl⟩
      have hall:allN l=A++B:=by unfold allN;rw [←hlt,hA,←hM8,hB]
      have e1:∀ W,(Op.stringOp .add ⟨A.toArray⟩ ⟨B.toArray⟩).run Tryz.prog W=.ok (.string ⟨(allN l).toArray⟩) W:=fun W=>by
        rw [hall];exact str_add _ _ (by rw [←hA,←hB,hAl,be8_len'];omega) W
      have hnum:=Lib.hid (mac_refnumber M8)
      rw [hB] at hnum
      rw [hA] at hcs
      have HALL:=Lib.hid hall
      obtain ⟨L,hL⟩:∃ L,allN l=L:=⟨_,rfl⟩
      have HLE:=Lib.hid hL
      simp only [hL] at e1
      have hLlen:L.length % 64=0∧L.length≤1048800:=by
        rw [←hL]
        refine ⟨allN_len l,?_⟩
        rw [hall,List.length_append,←hA,hAl,←hB,be8_len']
        omega
      have HLEN:=Lib.hid hLlen
      clear hall hA hB hAl hL h56 hlt hNl hsz hM8 hLlen
      go_wp2_with fail
      refine region_plan (S:=fun w':World=>(convert 123 9 (.slice (some ⟨g,0,none⟩) N cap)).run Tryz.prog w'=.ok (.string ⟨A.toArray⟩) w')
        ((0,true)::(1,true)::(2,true)::(3,true)::(4,true)::(5,true)::(6,false)::(7,true)::(8,true)::[])
        (by kernel_rfl) (by kernel_rfl) (by kernel_rfl) (by kernel_rfl) (fun _ _ _ dst _ h=>by cases dst<;>exact h) (hcs _ (Below.refl _ _).drew) (fun hH=>?_)
      clear hH
      (repeat (first | (refine plan_take (v:=?_) (by (simp only [ga1,ga2,ga3];exact rfl)) (by rfl) ?_ ?_;rotate_left;(focus (intro wS hS;(try dsimp only at hS);go_split_ands;go_simp;(try with_reducible rfl)));simp only [Act.put,pu1,pu2,pu3]) | (refine plan_skip (by (simp only [ga1,ga2,ga3];exact rfl)) (by rfl) ?_;simp only [Act.put,pu1,pu2,pu3])))
      (refine plan_solo (by (simp only [ga1,ga2,ga3];exact rfl)) (by rfl) ?_;intro K hK;go_simp)
      refine (hnum.out _).mono ?_
      rintro e w4 ⟨rfl,hb4⟩
      have b4:Below wr.heap.size wr w4:=(Below.refl _ wr).drew.trans hb4
      refine hK.out _ _ (hcs _ b4) (fun hH=>?_)
      clear hK K hH
      (try simp only [Act.put,pu1,pu2,pu3])
      (repeat (first | (refine plan_take (v:=?_) (by (simp only [ga1,ga2,ga3];exact rfl)) (by rfl) ?_ ?_;rotate_left;(focus (intro wS hS;(try dsimp only at hS);go_split_ands;go_simp;(try with_reducible rfl)));simp only [Act.put,pu1,pu2,pu3]) | (refine plan_skip (by (simp only [ga1,ga2,ga3];exact rfl)) (by rfl) ?_;simp only [Act.put,pu1,pu2,pu3])))
      refine plan_nil ?_
      have hk4:=hk.kept b4
      have hb5:Below w.heap.size w w4:=hb.trans (b4.mono hb.size)
      have HO2:=Lib.hid (And.intro hk4 hb5)
      clear hcs wlen w8 e1 hnum hb4 b4 hk hb hmod hj hk4 hb5
      obtain ⟨hk4,hb5⟩:=HO2.out
      go_wp2_with fail
      go_loopw [6] (RBk w L q) (fun i _=>L.length - (intOf i).toNat)
      case atStart=>exact ⟨0,Nat.zero_le _,rfl,hk4,hb5⟩
      case round =>
        clear hk4 hb5
        obtain ⟨k,hk,rfl,hblk,hb⟩:=hrel
        by_cases hlt:64*k<L.length
        · have hk1:64*(k+1)≤L.length:=by have:=HLEN.out.1;omega
          have hkb:64*k+64≤1048800:=by have:=HLEN.out.2;omega
          obtain ⟨J,hJ⟩:∃ J,J=64*k:=⟨_,rfl⟩
          have hJI:(64*(k:Int))=(J:Int):=by omega
          obtain ⟨PC,hPC⟩:∃ PC:ByteArray,PC=⟨((L.drop (64*k)).take 64).toArray⟩:=⟨_,rfl⟩
          have hpl:PC.size=64:=by
            rw [hPC]
            show ((L.drop (64*k)).take 64).toArray.size=64
            simp
            omega
          have wj:IntKind.i64.wrap ((J:Int)+64)=((J+64:Nat):Int):=(IntWalk.i64_in _ (by omega)).trans (by omega)
          have hex:(⟨L.toArray⟩:ByteArray).extract J (J+64)=PC:=by
            rw [hPC,hJ]
            apply ByteArray.ext
            simp [ByteArray.data_extract]
          have t64:((J:Int)+64).toNat=J+64:=by omega
          have j0:(0:Int)≤(J:Int):=by omega
          have jl:(J:Int)<(L.length:Int):=by omega
          have jl2:(J:Int)+64≤(L.length:Int):=by omega
          have jl3:(J:Int)+64≤((⟨L.toArray⟩:ByteArray).size:Int):=by show _≤((L.toArray.size:Nat):Int);simp;omega
          have jl4:(J:Int)≤(J:Int)+64:=by omega
          have HU:=Lib.hid (foldB_U32 L k)
          have HPC:=Lib.hid hPC
          have HJ:=Lib.hid hJ
          have c0:=hblk.cell 0 (.int .u32 (foldB L k 0)) rfl
          have c1:=hblk.cell 1 (.int .u32 (foldB L k 1)) rfl
          have c2:=hblk.cell 2 (.int .u32 (foldB L k 2)) rfl
          have c3:=hblk.cell 3 (.int .u32 (foldB L k 3)) rfl
          have c4:=hblk.cell 4 (.int .u32 (foldB L k 4)) rfl
          have c5:=hblk.cell 5 (.int .u32 (foldB L k 5)) rfl
          have c6:=hblk.cell 6 (.int .u32 (foldB L k 6)) rfl
          have c7:=hblk.cell 7 (.int .u32 (foldB L k 7)) rfl
          rw [hJI]
          clear hPC hJ hJI hkb hk
          go_wp2_with fail
          refine region_plan (S:=fun _:World=>True)
            ((1,true)::(2,true)::(3,true)::(4,true)::(5,true)::(0,false)::(6,false)::(7,false)::[])
            (by kernel_rfl) (by kernel_rfl) (by kernel_rfl) (by kernel_rfl) (fun _ _ _ dst _ h=>by cases dst<;>exact h) trivial (fun hH=>?_)
          clear hH
          (repeat (first | (refine plan_take (v:=?_) (by (simp only [ga1,ga2,ga3];exact rfl)) (by rfl) ?_ ?_;rotate_left;(focus (intro wS hS;(try dsimp only at hS);go_split_ands;go_simp;(try with_reducible rfl)));simp only [Act.put,pu1,pu2,pu3]) | (refine plan_skip (by (simp only [ga1,ga2,ga3];exact rfl)) (by rfl) ?_;simp only [Act.put,pu1,pu2,pu3])))
          (refine plan_solo (by (simp only [ga1,ga2,ga3];exact rfl)) (by rfl) ?_;intro K hK;go_simp)
          refine hK.out _ _ trivial (fun hH=>?_)
          clear hK K hH
          (try simp only [Act.put,pu1,pu2,pu3])
          (refine plan_solo (by (simp only [ga1,ga2,ga3];exact rfl)) (by rfl) ?_;intro K hK;go_simp)
          have e8:(#[.int .u32 (foldB L k 0),.int .u32 (foldB L k 1),.int .u32 (foldB L k 2),.int .u32 (foldB L k 3),.int .u32 (foldB L k 4),.int .u32 (foldB L k 5),.int .u32 (foldB L k 6),.int .u32 (foldB L k 7)]:Array Value)=arrN 8 (foldB L k):=rfl
          rw [e8]
          refine (ref_block (foldB L k) HU.out PC hpl _).mono ?_
          rintro e w5 ⟨rfl,hb5⟩
          have b5:Below wr.heap.size wr w5:=(Below.refl _ wr).drew.trans hb5
          have k5:=hblk.kept b5
          refine hK.out _ _ trivial (fun hH=>?_)
          clear hK K hH c0 c1 c2 c3 c4 c5 c6 c7
          (try simp only [Act.put,pu1,pu2,pu3])
          (refine plan_solo (by (simp only [ga1,ga2,ga3];exact rfl)) (by rfl) ?_;intro K hK)
          refine oper_store_blk 177 (Operand.tmp 3) (Operand.tmp 42) rfl q rfl (arrN 8 (foldB L k)) (arrN 8 (blockN (foldB L k) PC)) 177 rfl k5 (by rw [arrN_size];exact Tryz.size177) (by rw [arrN_size,arrN_size]) (arrN_one _ _) ?_
          intro w6 hk6 ho6 hs6
          refine hK.out _ _ trivial (fun hH=>?_)
          clear hK K hH
          (try simp only [Act.put,pu1,pu2,pu3])
          refine plan_nil ?_
          have hbw:Below w.heap.size w w6:=(hb.trans (b5.mono hb.size)).trans (ho6.below (Nat.le_trans hb.size b5.size) (fun x hx=>by rw [hx,HQ.out];exact Nat.le_refl _))
          have hjn:IntKind.i64.wrap ((J:Int)+64)=(J:Int)+64:=by
            have:=HLEN.out.2
            exact IntWalk.i64_in _ (by omega)
          have HS6:=Lib.hid hs6
          clear hs6 hb5 b5 k5 hex e8
          go_wp2_with fail
          go_roundw
          case rel =>
            refine ⟨k+1,hk1,?_,?_,hbw⟩
            · congr 1
              have:=HJ.out
              omega
            · rw [show foldB L (k+1)=blockN (foldB L k) ⟨((L.drop (64*k)).take 64).toArray⟩ from rfl,←HPC.out]
              exact hk6
          case measure =>
            have:=HJ.out
            simp [intOf]<;>omega
        · have hK:k=L.length / 64:=by have:=HLEN.out.1;omega
          have hU:=Lib.hid (foldB_U32 L k)
          obtain ⟨F,hF⟩:∃ F,foldB L k=F:=⟨_,rfl⟩
          have HOUT:=Lib.hid (show sumN l=outN F by unfold sumN;rw [HLE.out,←hK,hF])
          rw [hF] at hblk hU
          obtain ⟨i0,hi,hz0,hz1,hz2⟩:=info_parts Tryz.infoByte
          have hend:¬ (64*(k:Int))<(L.length:Int):=by omega
          have c0:=hblk.cell 0 (.int .u32 (F 0)) rfl
          obtain ⟨x0,hx0⟩:∃ x,F 0=x:=⟨_,rfl⟩
          rw [hx0] at c0
          have u0:U32 x0:=by rw [←hx0];exact hU.out 0
          have n0:(0:Int)≤x0:=u0.1
          have m0:x0<4294967296:=u0.2
          have W0:=Lib.hid (word_bv u0)
          have X0:=Lib.hid hx0
          have c1:=hblk.cell 1 (.int .u32 (F 1)) rfl
          obtain ⟨x1,hx1⟩:∃ x,F 1=x:=⟨_,rfl⟩
          rw [hx1] at c1
          have u1:U32 x1:=by rw [←hx1];exact hU.out 1
          have n1:(0:Int)≤x1:=u1.1
          have m1:x1<4294967296:=u1.2
          have W1:=Lib.hid (word_bv u1)
          have X1:=Lib.hid hx1
          have c2:=hblk.cell 2 (.int .u32 (F 2)) rfl
          obtain ⟨x2,hx2⟩:∃ x,F 2=x:=⟨_,rfl⟩
          rw [hx2] at c2
          have u2:U32 x2:=by rw [←hx2];exact hU.out 2
          have n2:(0:Int)≤x2:=u2.1
          have m2:x2<4294967296:=u2.2
          have W2:=Lib.hid (word_bv u2)
          have X2:=Lib.hid hx2
          have c3:=hblk.cell 3 (.int .u32 (F 3)) rfl
          obtain ⟨x3,hx3⟩:∃ x,F 3=x:=⟨_,rfl⟩
          rw [hx3] at c3
          have u3:U32 x3:=by rw [←hx3];exact hU.out 3
          have n3:(0:Int)≤x3:=u3.1
          have m3:x3<4294967296:=u3.2
          have W3:=Lib.hid (word_bv u3)
          have X3:=Lib.hid hx3
          have c4:=hblk.cell 4 (.int .u32 (F 4)) rfl
          obtain ⟨x4,hx4⟩:∃ x,F 4=x:=⟨_,rfl⟩
          rw [hx4] at c4
          have u4:U32 x4:=by rw [←hx4];exact hU.out 4
          have n4:(0:Int)≤x4:=u4.1
          have m4:x4<4294967296:=u4.2
          have W4:=Lib.hid (word_bv u4)
          have X4:=Lib.hid hx4
          have c5:=hblk.cell 5 (.int .u32 (F 5)) rfl
          obtain ⟨x5,hx5⟩:∃ x,F 5=x:=⟨_,rfl⟩
          rw [hx5] at c5
          have u5:U32 x5:=by rw [←hx5];exact hU.out 5
          have n5:(0:Int)≤x5:=u5.1
          have m5:x5<4294967296:=u5.2
          have W5:=Lib.hid (word_bv u5)
          have X5:=Lib.hid hx5
          have c6:=hblk.cell 6 (.int .u32 (F 6)) rfl
          obtain ⟨x6,hx6⟩:∃ x,F 6=x:=⟨_,rfl⟩
          rw [hx6] at c6
          have u6:U32 x6:=by rw [←hx6];exact hU.out 6
          have n6:(0:Int)≤x6:=u6.1
          have m6:x6<4294967296:=u6.2
          have W6:=Lib.hid (word_bv u6)
          have X6:=Lib.hid hx6
          have c7:=hblk.cell 7 (.int .u32 (F 7)) rfl
          obtain ⟨x7,hx7⟩:∃ x,F 7=x:=⟨_,rfl⟩
          rw [hx7] at c7
          have u7:U32 x7:=by rw [←hx7];exact hU.out 7
          have n7:(0:Int)≤x7:=u7.1
          have m7:x7<4294967296:=u7.2
          have W7:=Lib.hid (word_bv u7)
          have X7:=Lib.hid hx7
          clear hF hlt hk hK hx0 u0 hx1 u1 hx2 u2 hx3 u3 hx4 u4 hx5 u5 hx6 u6 hx7 u7
          have ow0:=World.ownsRow_nil wr w.heap.size 5 1
          have hb0:=hb
          go_wp2_with fail
          have I0:=fun W=>(index177 x0 x1 x2 x3 x4 x5 x6 x7 W).1
          have I1:=fun W=>(index177 x0 x1 x2 x3 x4 x5 x6 x7 W).2.1
          have I2:=fun W=>(index177 x0 x1 x2 x3 x4 x5 x6 x7 W).2.2.1
          have I3:=fun W=>(index177 x0 x1 x2 x3 x4 x5 x6 x7 W).2.2.2.1
          have I4:=fun W=>(index177 x0 x1 x2 x3 x4 x5 x6 x7 W).2.2.2.2.1
          have I5:=fun W=>(index177 x0 x1 x2 x3 x4 x5 x6 x7 W).2.2.2.2.2.1
          have I6:=fun W=>(index177 x0 x1 x2 x3 x4 x5 x6 x7 W).2.2.2.2.2.2.1
          have I7:=fun W=>(index177 x0 x1 x2 x3 x4 x5 x6 x7 W).2.2.2.2.2.2.2
          refine wp_loop_rounds 10 ?_
          rw [rounds_succ]
          go_wp2_with (at_builtin;refine wpList_append_row rfl _ _ 123 rfl w.heap.size 5 i0 (.int .u8 0) 1 1 Tryz.underlying123 hi hz0 hz1 hz2 rfl (by decide) _ 0 _ rfl (ow0.alloc _) ⟨wr.heap.size,0,none⟩ 4 4 [.int .u8 (x0 / 16777216),.int .u8 (x0 / 65536 % 256),.int .u8 (x0 / 256 % 256),.int .u8 (x0 % 256)] rfl rfl (cells_four_new _ _ _ _ _ _) (by simp [Value.oneCell']) (by decide) (by decide) (by rw [World.size_alloc];exact Nat.le_succ_of_le hb0.size) ?_)
          intro v1r w1r ow1 hgr hfr
          have hb1:Below w.heap.size w w1r:=(hb0.alloc hb0.size _).grown hgr (by rw [World.size_alloc];exact Nat.le_succ_of_le hb0.size) (fun j hj=>(ow0.lt j hj).1)
          clear hgr hfr
          go_wp2_with fail
          rw [rounds_succ]
          go_wp2_with (at_builtin;refine wpList_append_row rfl _ _ 123 rfl w.heap.size 5 i0 (.int .u8 0) 1 1 Tryz.underlying123 hi hz0 hz1 hz2 rfl (by decide) _ 4 _ rfl (ow1.alloc _) ⟨w1r.heap.size,0,none⟩ 4 4 [.int .u8 (x1 / 16777216),.int .u8 (x1 / 65536 % 256),.int .u8 (x1 / 256 % 256),.int .u8 (x1 % 256)] rfl rfl (cells_four_new _ _ _ _ _ _) (by simp [Value.oneCell']) (by decide) (by decide) (by rw [World.size_alloc];exact Nat.le_succ_of_le hb1.size) ?_)
          intro v2r w2r ow2 hgr hfr
          have hb2:Below w.heap.size w w2r:=(hb1.alloc hb1.size _).grown hgr (by rw [World.size_alloc];exact Nat.le_succ_of_le hb1.size) (fun j hj=>(ow1.lt j hj).1)
          clear hgr hfr
          go_wp2_with fail
          rw [rounds_succ]
          go_wp2_with (at_builtin;refine wpList_append_row rfl _ _ 123 rfl w.heap.size 5 i0 (.int .u8 0) 1 1 Tryz.underlying123 hi hz0 hz1 hz2 rfl (by decide) _ 8 _ rfl (ow2.alloc _) ⟨w2r.heap.size,0,none⟩ 4 4 [.int .u8 (x2 / 16777216),.int .u8 (x2 / 65536 % 256),.int .u8 (x2 / 256 % 256),.int .u8 (x2 % 256)] rfl rfl (cells_four_new _ _ _ _ _ _) (by simp [Value.oneCell']) (by decide) (by decide) (by rw [World.size_alloc];exact Nat.le_succ_of_le hb2.size) ?_)
          intro v3r w3r ow3 hgr hfr
          have hb3:Below w.heap.size w w3r:=(hb2.alloc hb2.size _).grown hgr (by rw [World.size_alloc];exact Nat.le_succ_of_le hb2.size) (fun j hj=>(ow2.lt j hj).1)
          clear hgr hfr
          go_wp2_with fail
          rw [rounds_succ]
          go_wp2_with (at_builtin;refine wpList_append_row rfl _ _ 123 rfl w.heap.size 5 i0 (.int .u8 0) 1 1 Tryz.underlying123 hi hz0 hz1 hz2 rfl (by decide) _ 12 _ rfl (ow3.alloc _) ⟨w3r.heap.size,0,none⟩ 4 4 [.int .u8 (x3 / 16777216),.int .u8 (x3 / 65536 % 256),.int .u8 (x3 / 256 % 256),.int .u8 (x3 % 256)] rfl rfl (cells_four_new _ _ _ _ _ _) (by simp [Value.oneCell']) (by decide) (by decide) (by rw [World.size_alloc];exact Nat.le_succ_of_le hb3.size) ?_)
          intro v4r w4r ow4 hgr hfr
          have hb4:Below w.heap.size w w4r:=(hb3.alloc hb3.size _).grown hgr (by rw [World.size_alloc];exact Nat.le_succ_of_le hb3.size) (fun j hj=>(ow3.lt j hj).1)
          clear hgr hfr
          go_wp2_with fail
          rw [rounds_succ]
          go_wp2_with (at_builtin;refine wpList_append_row rfl _ _ 123 rfl w.heap.size 5 i0 (.int .u8 0) 1 1 Tryz.underlying123 hi hz0 hz1 hz2 rfl (by decide) _ 16 _ rfl (ow4.alloc _) ⟨w4r.heap.size,0,none⟩ 4 4 [.int .u8 (x4 / 16777216),.int .u8 (x4 / 65536 % 256),.int .u8 (x4 / 256 % 256),.int .u8 (x4 % 256)] rfl rfl (cells_four_new _ _ _ _ _ _) (by simp [Value.oneCell']) (by decide) (by decide) (by rw [World.size_alloc];exact Nat.le_succ_of_le hb4.size) ?_)
          intro v5r w5r ow5 hgr hfr
          have hb5:Below w.heap.size w w5r:=(hb4.alloc hb4.size _).grown hgr (by rw [World.size_alloc];exact Nat.le_succ_of_le hb4.size) (fun j hj=>(ow4.lt j hj).1)
          clear hgr hfr
          go_wp2_with fail
          rw [rounds_succ]
          go_wp2_with (at_builtin;refine wpList_append_row rfl _ _ 123 rfl w.heap.size 5 i0 (.int .u8 0) 1 1 Tryz.underlying123 hi hz0 hz1 hz2 rfl (by decide) _ 20 _ rfl (ow5.alloc _) ⟨w5r.heap.size,0,none⟩ 4 4 [.int .u8 (x5 / 16777216),.int .u8 (x5 / 65536 % 256),.int .u8 (x5 / 256 % 256),.int .u8 (x5 % 256)] rfl rfl (cells_four_new _ _ _ _ _ _) (by simp [Value.oneCell']) (by decide) (by decide) (by rw [World.size_alloc];exact Nat.le_succ_of_le hb5.size) ?_)
          intro v6r w6r ow6 hgr hfr
          have hb6:Below w.heap.size w w6r:=(hb5.alloc hb5.size _).grown hgr (by rw [World.size_alloc];exact Nat.le_succ_of_le hb5.size) (fun j hj=>(ow5.lt j hj).1)
          clear hgr hfr
          go_wp2_with fail
          rw [rounds_succ]
          go_wp2_with (at_builtin;refine wpList_append_row rfl _ _ 123 rfl w.heap.size 5 i0 (.int .u8 0) 1 1 Tryz.underlying123 hi hz0 hz1 hz2 rfl (by decide) _ 24 _ rfl (ow6.alloc _) ⟨w6r.heap.size,0,none⟩ 4 4 [.int .u8 (x6 / 16777216),.int .u8 (x6 / 65536 % 256),.int .u8 (x6 / 256 % 256),.int .u8 (x6 % 256)] rfl rfl (cells_four_new _ _ _ _ _ _) (by simp [Value.oneCell']) (by decide) (by decide) (by rw [World.size_alloc];exact Nat.le_succ_of_le hb6.size) ?_)
          intro v7r w7r ow7 hgr hfr
          have hb7:Below w.heap.size w w7r:=(hb6.alloc hb6.size _).grown hgr (by rw [World.size_alloc];exact Nat.le_succ_of_le hb6.size) (fun j hj=>(ow6.lt j hj).1)
          clear hgr hfr
          go_wp2_with fail
          rw [rounds_succ]
          go_wp2_with (at_builtin;refine wpList_append_row rfl _ _ 123 rfl w.heap.size 5 i0 (.int .u8 0) 1 1 Tryz.underlying123 hi hz0 hz1 hz2 rfl (by decide) _ 28 _ rfl (ow7.alloc _) ⟨w7r.heap.size,0,none⟩ 4 4 [.int .u8 (x7 / 16777216),.int .u8 (x7 / 65536 % 256),.int .u8 (x7 / 256 % 256),.int .u8 (x7 % 256)] rfl rfl (cells_four_new _ _ _ _ _ _) (by simp [Value.oneCell']) (by decide) (by decide) (by rw [World.size_alloc];exact Nat.le_succ_of_le hb7.size) ?_)
          intro v8r w8r ow8 hgr hfr
          have hb8:Below w.heap.size w w8r:=(hb7.alloc hb7.size _).grown hgr (by rw [World.size_alloc];exact Nat.le_succ_of_le hb7.size) (fun j hj=>(ow7.lt j hj).1)
          clear hgr hfr
          go_wp2_with fail
          have own2:w8r.ownsRow w.heap.size 5 1 v8r 32 (bv (outN F)):=by
            have e:bv (outN F)=[]++bv (wordB x0)++bv (wordB x1)++bv (wordB x2)++bv (wordB x3)++bv (wordB x4)++bv (wordB x5)++bv (wordB x6)++bv (wordB x7):=by
              unfold outN
              rw [X0.out,X1.out,X2.out,X3.out,X4.out,X5.out,X6.out,X7.out]
              simp only [bv_append,List.nil_append]
            rw [e,W0.out,W1.out,W2.out,W3.out,W4.out,W5.out,W6.out,W7.out]
            exact ow8
          have hcv2:=conv_own own2
          clear own2 ow0 ow1 ow2 ow3 ow4 ow5 ow6 ow7 ow8
          rw [rounds_succ]
          go_wp2_with fail
          go_ret
          exact ⟨by rw [HOUT.out];rfl,hb8⟩
    · have h56:¬ N % 64=56:=by rw [hplen];exact fun h=>hlt ((padZ_iff hj).1 h)
      have hne:(((N % 64:Nat):Int) == 56)=false:=by simp;omega
      have HJ:=Lib.hid (show j+1≤padZ l.length by omega)
      have HPL:=Lib.hid hplen
      have HNN:=Lib.hid hN
      have hl1:=Lib.hid (show (padN l j).length+1≤140737488355328 by omega)
      have HZ:=Lib.hid hsz
      clear hplen hpz hlt h56 hNl
      go_wp2_with (at_builtin
                   refine wpList_append_b rfl _ _ rfl base _ (padN l j) rfl (by rw [←HNN.out];exact (show OwnB wr base (.slice (some ⟨g,0,none⟩) (padN l j).length cap) (padN l j) from (by rw [HNN.out];exact HOW.out)).kept ((Below.refl _ _).alloc (Nat.le_refl _) _)) (by rw [World.size_alloc];exact Nat.le_succ_of_le HZ.out) hl1.out ⟨wr.heap.size,0,none⟩ 1 0 rfl (cell_one_new _ _ _ 0 _ rfl) ?_
                   intro v4 w4 own4 hb4)
      have hqw:w.heap.size≤base:=by have:=HBS.out;have:=HQ.out;omega
      have hb5:Below w.heap.size w w4:=(hb.alloc hb.size _).trans (hb4.mono hqw)
      have hk5:Blk w4 q (arrN 8 initN) 177:=(hk.alloc _).below hb4 HBS.out
      have hs5:base≤w4.heap.size:=Nat.le_trans (by rw [World.size_alloc];exact Nat.le_succ_of_le HZ.out) hb4.size
      refine ⟨⟨j+1,HJ.out,by rw [padN_succ];exact own4,hk5,hb5,hs5⟩,?_⟩
      obtain ⟨g',cap',cur',fz',rfl,_⟩:=own4
      have e1:=HPL.out
      have e2:=HJ.out
      have e3:=HNN.out
      simp only [lenOf,List.length_append,List.length_singleton]
      omega
def chainN (head entry:List UInt8):List UInt8:=sumN (head++be8 entry.length++entry)
theorem word_len (x:Int):(wordB x).length=4:=rfl
theorem outN_len (st:Nat→Int):(outN st).length=32:=by
  unfold outN
  simp only [List.length_append,word_len]
theorem chainN_len (h e:List UInt8):(chainN h e).length=32:=outN_len _
set_option maxRecDepth 100000 in
set_option maxHeartbeats 2000000 in
theorem ref_chain (head entry:List UInt8) (h1:head.length≤1000) (h2:entry.length≤1000000) (w:World) :
    Calls Tryz.prog 64 #[.string ⟨head.toArray⟩,.string ⟨entry.toArray⟩] w fun e w'=>e=.returned (.string ⟨(chainN head entry).toArray⟩)∧Below w.heap.size w w':=by
  have hsz:((⟨entry.toArray⟩:ByteArray).size:Int)=(entry.length:Int):=by show ((entry.toArray.size:Nat):Int)=_;simp
  have hw:IntKind.u64.wrap (entry.length:Int)=(entry.length:Int):=by rw [IntKind.wrap_u64];omega
  have hnum:=Lib.hid (mac_refnumber entry.length)
  obtain ⟨b,hb⟩:∃ b,be8 entry.length=b:=⟨_,rfl⟩
  rw [hb] at hnum
  have lb:b.length=8:=by rw [←hb];rfl
  obtain ⟨c,hc⟩:∃ c,head++b=c:=⟨_,rfl⟩
  have lc:c.length=head.length+8:=by rw [←hc,List.length_append,lb]
  obtain ⟨d,hd⟩:∃ d,c++entry=d:=⟨_,rfl⟩
  have ld:d.length=head.length+8+entry.length:=by rw [←hd,List.length_append,lc]
  have e1:∀ W,(Op.stringOp .add ⟨head.toArray⟩ ⟨b.toArray⟩).run Tryz.prog W=.ok (.string ⟨c.toArray⟩) W:=fun W=>by rw [←hc];exact str_add _ _ (by omega) W
  have e2:∀ W,(Op.stringOp .add ⟨c.toArray⟩ ⟨entry.toArray⟩).run Tryz.prog W=.ok (.string ⟨d.toArray⟩) W:=fun W=>by rw [←hd];exact str_add _ _ (by omega) W
  have hE:chainN head entry=sumN d:=by unfold chainN;rw [hb,hc,hd]
  have hsum:=Lib.hid (ref_sum ⟨d.toArray⟩ (by show d.toArray.size≤_;simp;omega))
  rw [hE]
  clear hb hc hd lb lc ld hE h1
  go_enter Tryz.func64,Tryz.ntmps64
  go_wp2_with fail
  refine (hnum.out _).mono ?_
  rintro e w1 ⟨rfl,hb1⟩
  go_wp2_with fail
  refine (hsum.out _).mono ?_
  rintro e w2 ⟨rfl,hb2⟩
  have b2:Below w.heap.size w w2:=hb1.trans (hb2.mono hb1.size)
  clear hnum hsum hb1 hb2
  go_wp2_with fail
  go_ret
  exact ⟨rfl,b2⟩
def zeros32:List UInt8:=List.replicate 32 0
def headN (es:List Ent):List UInt8:=es.foldl (fun h e=>chainN h (entN e)) zeros32
def RHd (w:World) (es:List Ent) (hv iv:Value) (W:World):Prop :=
  ∃ k:Nat,k≤es.length∧iv=.int .i64 (k:Nat)∧hv=.string ⟨(headN (es.take k)).toArray⟩∧Below w.heap.size w W
theorem Reads.ent_at {w:World} {A:Option Addr} {n cap:Nat} {es:List Ent} (h:Reads w (.slice A n cap) n 4 (es.flatMap entCells)) {k:Nat} {e:Ent} (hk:es[k]?=some e) :
    ∃ b o,A=some ⟨b,o,none⟩∧b<w.heap.size∧w.cell? ⟨b,o+k*4,none⟩=some (.int .i64 (e.num:Nat))∧w.cell? ⟨b,o+k*4+1,none⟩=some (.int .i64 (e.kind:Nat))∧w.cell? ⟨b,o+k*4+2,none⟩=some (.int .u64 (e.tick:Nat))∧w.cell? ⟨b,o+k*4+3,none⟩=some (.string e.sub):=by
  have hl:=h.1
  have hlen:(es.flatMap entCells).length=es.length*4:=flatMap_len (f:=entCells) (k:=4) (fun _=>rfl) es
  have hlt:=(List.getElem?_eq_some_iff.1 hk).1
  obtain ⟨b,o,rfl,hb,hc⟩:=h.some_at (by omega)
  have hat:=flatMap_at (f:=entCells) (k:=4) (fun _=>rfl) es k e hk
  refine ⟨b,o,rfl,hb,?_,?_,?_,?_⟩
  · have:=hc (k*4+0) _ (by rw [hat 0 (by decide)];rfl);rw [←Nat.add_assoc] at this;exact this
  · have:=hc (k*4+1) _ (by rw [hat 1 (by decide)];rfl);rw [←Nat.add_assoc] at this;exact this
  · have:=hc (k*4+2) _ (by rw [hat 2 (by decide)];rfl);rw [←Nat.add_assoc] at this;exact this
  · have:=hc (k*4+3) _ (by rw [hat 3 (by decide)];rfl);rw [←Nat.add_assoc] at this;exact this
theorem headN_step {es:List Ent} {k:Nat} {e:Ent} (h:es[k]?=some e):headN (es.take (k+1))=chainN (headN (es.take k)) (entN e):=by
  unfold headN;rw [take_snoc h,List.foldl_append];rfl
theorem headN_len (es:List Ent):(headN es).length=32:=by
  rcases List.eq_nil_or_concat es with rfl | ⟨l,e,rfl⟩
  · rfl
  · have:headN (l.concat e)=chainN (headN l) (entN e):=by unfold headN;rw [List.concat_eq_append,List.foldl_append];rfl
    rw [this];exact chainN_len _ _
theorem entN_len {e:Ent} (h:e.Ok):(entN e).length≤1000000:=by
  unfold entN
  have:=varN_len10 (n:=e.num) (by have:=h.num;omega)
  have:=varN_len10 (n:=e.kind) (by have:=h.kind;omega)
  have:=varN_len10 h.tick
  have:=textN_len (s:=e.sub) (by have:=h.sub;omega)
  have:=h.sub
  simp only [List.length_append]
  omega
theorem make_zeros32 (w:World):(Instr.makeSlice 123 (.int .i64 32) (.int .i64 32)).run Tryz.prog w=.ok (.slice (some ⟨w.heap.size,0,none⟩) 32 32) (w.alloc (.cells (bv zeros32).toArray 5)):=by
  have:=make_bytes 32 (by omega) w
  have e:madeCells #[Value.int .u8 0] 32=(bv zeros32).toArray:=by
    apply Array.toList_inj.1
    rw [toList_madeCells_one]
    rfl
  rw [e] at this
  exact this
theorem conv_zeros32 (w:World):(convert 123 9 (.slice (some ⟨w.heap.size,0,none⟩) 32 32)).run Tryz.prog (w.alloc (.cells (bv zeros32).toArray 5))=.ok (.string ⟨zeros32.toArray⟩) (w.alloc (.cells (bv zeros32).toArray 5)):=by
  have hb:=Blk.new w (bv zeros32).toArray 5
  have e2:∀ i,i<32→(List.replicate 32 (0:Int)).getD i 0=0:=by decide
  have e3:∀ i,i<32→(bv zeros32).toArray[i]?=some (.int .u8 0):=by
    intro i hi
    have e:bv zeros32=List.replicate 32 (Value.int .u8 0):=rfl
    rw [e,ga1,List.getElem?_replicate,if_pos hi]
  have:=run_convert_bytes_arg (P:=Tryz.prog) (w.alloc (.cells (bv zeros32).toArray 5)) 123 5 Tryz.underlying123 Tryz.underlying5 w.heap.size 0 32 32 (List.replicate 32 (0:Int)) rfl (fun i hi=>by
    rw [e2 i hi,Nat.zero_add]
    exact hb.cell _ _ (e3 i hi)) 9 Tryz.underlying9
  exact this
set_option maxRecDepth 100000 in
set_option maxHeartbeats 2000000 in
theorem ref_head (v:Value) (es:List Ent) (hes:∀ e∈es,e.Ok) (w:World) (hr:Reads w v es.length 4 (es.flatMap entCells)) :
    Calls Tryz.prog 47 #[v] w fun e w'=>e=.returned (.string ⟨(headN es).toArray⟩)∧Below w.heap.size w w':=by
  obtain ⟨A,cap,rfl⟩:=hr.form
  have HR:=Lib.hid hr
  have hmk:=make_zeros32
  have hcv:=conv_zeros32
  have h0:headN []=zeros32:=rfl
  clear hr
  go_enter Tryz.func47,Tryz.ntmps47
  go_wp2_with fail
  have hB0:Below w.heap.size w (w.alloc (.cells (bv zeros32).toArray 5)):=(Below.refl _ _).alloc (Nat.le_refl _) _
  clear hmk hcv
  go_loopw [3,4] (RHd w es) (fun _ i _=>es.length - (intOf i).toNat)
  case atStart=>exact ⟨0,Nat.zero_le _,rfl,rfl,hB0⟩
  case round =>
    clear hB0
    obtain ⟨k,hk,rfl,rfl,hb⟩:=hrel
    by_cases hlt:k<es.length
    · obtain ⟨x,hx⟩:∃ x,es[k]?=some x:=⟨_,List.getElem?_eq_getElem hlt⟩
      have hstep:=Lib.hid (headN_step hx)
      have hok:=hes x (List.mem_of_getElem? hx)
      obtain ⟨b,o,rfl,hbl,c0,c1,c2,c3⟩:=(HR.out.kept hb).ent_at hx
      have HT:=Lib.hid (ref_Text x hok)
      have HC:=Lib.hid (ref_chain (headN (es.take k)) (entN x) (by rw [headN_len];omega) (by have:=entN_len hok;omega))
      have hi:=hlt
      have w1:IntKind.i64.wrap ((k:Int)+1)=(((k+1:Nat)):Int):=(IntWalk.i64_in _ (by have:=HR.out.2.1;omega)).trans (by omega)
      clear hok hx
      go_wp2_with fail
      refine (HT.out _).mono ?_
      rintro e w1 ⟨rfl,hb1⟩
      go_wp2_with fail
      refine (HC.out _).mono ?_
      rintro e w2 ⟨rfl,hb2⟩
      have b2:Below w.heap.size w w2:=hb.trans ((hb1.trans (hb2.mono hb1.size)).mono hb.size)
      clear hb1 hb2 HC HT c0 c1 c2 c3
      go_wp2_with fail
      go_roundw
      case rel=>exact ⟨k+1,hlt,rfl,by rw [hstep.out],b2⟩
      case measure=>simp [intOf];omega
    · have hK:k=es.length:=by omega
      have hend:¬ (k:Int)<(es.length:Int):=by omega
      have e1:es.take k=es:=by rw [hK,List.take_length]
      rw [e1]
      clear e1 hlt hk hK
      go_wp2_with fail
      go_ret
      exact ⟨rfl,hb⟩
end Go.Proofs.YtmdgeknnhckgfaaGreatDoor
