/-
  Parts of the proof of the law LinModel: Hash, HashN, TxtM, Rely.
-/
import Derived.Test.YtmdgeknnhckgfaaGreatDoorS00
import Derived.Test.YtmdgeknnhckgfaaGreatDoorS01
import Derived.Test.YtmdgeknnhckgfaaGreatDoorS05
import Derived.Test.YtmdgeknnhckgfaaGreatDoorS09
import Derived.Test.YtmdgeknnhckgfaaGreatDoorS10
import Derived.Laws.CopyRow
import Derived.Lib.OthersKept
set_option linter.unusedSimpArgs false
set_option linter.unusedVariables false
namespace Go.Proofs.YtmdgeknnhckgfaaGreatDoor
open Go Go.RowKit
theorem run_copy_text {w:World} {g o dLen dCap:Nat} {s:List UInt8} {cur:Array Value} {t ty:TypeId} (hg:Blk w g cur t) (hfit:o+dLen≤cur.size) (m:Nat) (hm:m=min s.length dLen) :
    (Builtin.copy_ #[123,9] ty #[.slice (some ⟨g,o,none⟩) dLen dCap,.string ⟨s.toArray⟩]).run Tryz.prog w=.ok (goInt m) (w.setRow g (cur.toList.take o++bv (s.take m)++cur.toList.drop (o+m)).toArray):=by
  obtain ⟨i,hi,hz0,hz1,hz2⟩:=info_parts Tryz.infoByte
  have hl:(bv (s.take m)).length=m:=by rw [bv_len,List.length_take];omega
  have hst:=run_storeCells_at Tryz.prog g o t (bv (s.take m)) 0 cur w hg (by rw [hl];omega) (bv_one _)
  rw [hl] at hst
  simp only [Nat.add_zero] at hst
  have htk:List.take m (List.map (fun b:UInt8=>Value.int IntKind.u8 (b.toNat:Int)) s)=bv (s.take m):=by
    unfold bv;rw [List.map_take]
  have hsz:Nat.min s.length dLen=m:=hm.symm
  have hss:(⟨s.toArray⟩:ByteArray).size=s.length:=by show s.toArray.size=_;simp
  simp [Builtin.copy_,run_underlying Tryz.underlying123,Builtin.lenOf,Builtin.firstCells,sizeOf,typeInfo,hi,hz1,hss,hsz]
  rw [htk,hst]
  simp [Result.andThen]
theorem oper_copy_text {o:Oper} {a:Act} {w:World} {K:Act→World→Prop} {Q:Exit→Act→World→Prop} (d x:Operand)
    (ho:o.op=.call { callee:=.builtin .copy,args:=#[d,x],argTypes:=#[123,9] }) {g off dLen dCap:Nat} (hd:a.eval d=.slice (some ⟨g,off,none⟩) dLen dCap) {s:List UInt8} (hx:a.eval x=.string ⟨s.toArray⟩)
    {cur:Array Value} {t:TypeId} (hg:Blk w g cur t) (hfit:off+dLen≤cur.size) (m:Nat) (hm:m=min s.length dLen)
    (h:∀ w',Blk w' g (cur.toList.take off++bv (s.take m)++cur.toList.drop (off+m)).toArray t→Only (fun k=>k=g) w w'→w'.heap.size=w.heap.size→K (a.put o.dst (.int .i64 (m:Int))) w'):Oper.wp Tryz.prog o a w K Q:=by
  have hrun:=run_copy_text (ty:=o.type) (dCap:=dCap) hg hfit m hm
  unfold Oper.wp execOp
  simp only [ho,resolve,invoke,builtin,Sem.run_bind,Sem.run_pure,Result.andThen_ok,List.map_toArray,List.map_cons,List.map_nil,hd,hx,hrun]
  exact h _ (setRow_heap w g cur _ t (0,0) hg) ⟨rfl,rfl,rfl,by simp,fun k _ hk=>setRow_other w g k _ hk⟩ (by simp)
theorem row_into {A tl:List Value} {rest s:List UInt8} {r m:Nat} (hA:A.length=8) (hr:r+m≤rest.length) :
    (A++(bv rest++tl)).take (8+r)++bv (s.take m)++(A++(bv rest++tl)).drop (8+r+m)=A++(bv (rest.take r++s.take m++rest.drop (r+m))++tl):=by
  have e1:(A++(bv rest++tl)).take (8+r)=A++bv (rest.take r):=by
    rw [←hA,List.take_length_add_append,List.take_append_of_le_length (by rw [bv_len];omega)]
    unfold bv;rw [List.map_take]
  have e2:(A++(bv rest++tl)).drop (8+r+m)=bv (rest.drop (r+m))++tl:=by
    rw [show 8+r+m=A.length+(r+m) by omega,List.drop_length_add_append,List.drop_append_of_le_length (by rw [bv_len];omega)]
    unfold bv;rw [List.map_drop]
  rw [e1,e2]
  simp only [bv_append,List.append_assoc]
theorem foldB_ext (l m:List UInt8):∀ k,64*k≤l.length→foldB (l++m) k=foldB l k
  | 0,_=>rfl
  | k+1,h=>by
    have e:((l++m).drop (64*k)).take 64=(l.drop (64*k)).take 64:=by
      rw [List.drop_append_of_le_length (by omega),List.take_append_of_le_length (by rw [List.length_drop];omega)]
    show blockN (foldB (l++m) k) _=blockN (foldB l k) _
    rw [e,foldB_ext l m k (by omega)]
def hashR (rest:List UInt8) (n all:Nat):Array Value:=(bv rest++[Value.int .i64 (n:Int),Value.int .i64 (all:Int),Value.bool true]).toArray
def HashAt (W:World) (hb:Nat) (T:List UInt8) (all:Nat):Prop :=
  ∃ rest:List UInt8,rest.length=64∧rest.take (T.length % 64)=T.drop (64*(T.length / 64))∧Blk W hb (arrN 8 (foldB T (T.length / 64))++hashR rest (T.length % 64) all) 262
theorem hashR_size (rest:List UInt8) (n all:Nat) (h:rest.length=64):(hashR rest n all).size=67:=by unfold hashR;simp [bv_len,h]
theorem arr8_list (st:Nat→Int):(arrN 8 st).toList.length=8:=by rw [Array.length_toList,arrN_size]
theorem hash_cell {W:World} {hb n all:Nat} {st:Nat→Int} {rest:List UInt8} (h:Blk W hb (arrN 8 st++hashR rest n all) 262) (hr:rest.length=64) :
    W.cell? ⟨hb,72,none⟩=some (.int .i64 (n:Int))∧W.cell? ⟨hb,73,none⟩=some (.int .i64 (all:Int))∧W.cell? ⟨hb,74,none⟩=some (.bool true)∧(∀ i (hi:i<rest.length),W.cell? ⟨hb,8+i,none⟩=some (.int .u8 (rest[i].toNat:Int))):=by
  have hs:=arrN_size 8 st
  have hb':(bv rest).length=64:=by rw [bv_len,hr]
  have g:∀ j,(arrN 8 st++hashR rest n all)[8+j]?=(bv rest++[Value.int .i64 (n:Int),Value.int .i64 (all:Int),Value.bool true])[j]?:=by
    intro j
    rw [Array.getElem?_append_right (by rw [hs];omega),hs,Nat.add_sub_cancel_left]
    unfold hashR
    rw [ga1]
  have t:∀ j,(bv rest++[Value.int .i64 (n:Int),.int .i64 (all:Int),.bool true])[64+j]?=[Value.int .i64 (n:Int),.int .i64 (all:Int),.bool true][j]?:=by
    intro j
    rw [List.getElem?_append_right (by rw [hb'];omega),hb',Nat.add_sub_cancel_left]
  refine ⟨h.cell 72 _ ?_,h.cell 73 _ ?_,h.cell 74 _ ?_,fun i hi=>h.cell _ _ ?_⟩
  · exact (g 64).trans (t 0)
  · exact (g 65).trans (t 1)
  · exact (g 66).trans (t 2)
  · rw [g i,List.getElem?_append_left (by rw [bv_len];exact hi)]
    unfold bv
    simp [hi]
theorem hash_set72 {st:Nat→Int} {rest:List UInt8} {n all m:Nat} (hr:rest.length=64):(arrN 8 st++hashR rest n all).setIfInBounds 72 (.int .i64 (m:Int))=arrN 8 st++hashR rest m all:=by
  have hs:=arrN_size 8 st
  have hb':(bv rest).length=64:=by rw [bv_len,hr]
  rw [Array.setIfInBounds_append_right (by rw [hs];decide),hs]
  unfold hashR
  rw [pu1,List.set_append_right _ _ (by rw [hb'];decide),hb']
  rfl
theorem hash_into {st:Nat→Int} {rest s:List UInt8} {n all r m:Nat} (hr:r+m≤rest.length) :
    ((arrN 8 st++hashR rest n all).toList.take (8+r)++bv (s.take m)++(arrN 8 st++hashR rest n all).toList.drop (8+r+m)).toArray=arrN 8 st++hashR (rest.take r++s.take m++rest.drop (r+m)) n all:=by
  apply Array.toList_inj.1
  rw [Array.toList_append,Array.toList_append]
  exact row_into (A:=(arrN 8 st).toList) (arr8_list st) hr
theorem hash_set73 {st:Nat→Int} {rest:List UInt8} {n all m:Nat} (hr:rest.length=64):(arrN 8 st++hashR rest n all).setIfInBounds 73 (.int .i64 (m:Int))=arrN 8 st++hashR rest n m:=by
  have hs:=arrN_size 8 st
  have hb':(bv rest).length=64:=by rw [bv_len,hr]
  rw [Array.setIfInBounds_append_right (by rw [hs];decide),hs]
  unfold hashR
  rw [pu1,List.set_append_right _ _ (by rw [hb'];decide),hb']
  rfl
theorem mod_start {W:World} {hb n all:Nat} {st:Nat→Int} {rest:List UInt8} (h:Blk W hb (arrN 8 st++hashR rest n all) 262) (hr:rest.length=64) :
    Calls Tryz.prog 196 #[.pointer (some ⟨hb,0,none⟩)] W fun e w'=>e=.returned (.tuple #[])∧w'=W:=by
  have c:=(hash_cell h hr).2.2.1
  go_enter Tryz.func196,Tryz.ntmps196
  go_wp2_with fail
  exact body_none rfl rfl ⟨rfl,rfl⟩
theorem hash_conv {W:World} {hb n all:Nat} {st:Nat→Int} {rest:List UInt8} (h:Blk W hb (arrN 8 st++hashR rest n all) 262) (hr:rest.length=64) :
    (convert 123 9 (.slice (some ⟨hb,8,none⟩) 64 64)).run Tryz.prog W=.ok (.string ⟨rest.toArray⟩) W:=by
  have hc:=(hash_cell h hr).2.2.2
  have:=run_convert_bytes_arg (P:=Tryz.prog) W 123 5 Tryz.underlying123 Tryz.underlying5 hb 8 64 64 (rest.map fun b=>(b.toNat:Int)) (by simp [hr]) (fun i hi=>by
    rw [hc i (by omega)]
    simp [hr,hi,List.getD]) 9 Tryz.underlying9
  have hs:strOfNums (rest.map fun b=>(b.toNat:Int))=⟨rest.toArray⟩:=by
    unfold strOfNums
    rw [List.map_map]
    have h1:((fun n:Int=>UInt8.ofNat n.toNat) ∘ fun b:UInt8=>(b.toNat:Int))=id:=by funext b;simp
    rw [h1,List.map_id]
  rw [this,hs]
theorem hash_next {T L s S rest rest':List UInt8} {j r q m:Nat} (hL:T++s.take j=L) (hS:s.drop j=S) (hr:L.length % 64=r) (hq:L.length / 64=q) (hm:m≤S.length) (hj:j+m≤s.length)
    (h1:rest.length=64) (h2:rest.take r=L.drop (64*q)) (h3:rest.take r++S.take m++rest.drop (r+m)=rest') (hrm:r+m≤64) :
    T++s.take (j+m)=L++S.take m∧rest'.take (r+m)=(L++S.take m).drop (64*q):=by
  constructor
  · rw [←hL,←hS,List.take_add,List.append_assoc]
  · have hl:(rest.take r++S.take m).length=r+m:=by rw [List.length_append,List.length_take,List.length_take];omega
    rw [←h3,List.take_left' hl,h2,List.drop_append_of_le_length (by omega)]
def RHs (w:World) (hb:Nat) (T s:List UInt8) (all:Nat) (sv:Value) (W:World):Prop :=
  ∃ j:Nat,j≤s.length∧sv=.string ⟨(s.drop j).toArray⟩∧HashAt W hb (T++s.take j) all∧Only (fun k=>k=hb) w W
def strLen:Value→Nat
  | .string s=>s.size
  | _=>0
set_option maxRecDepth 100000 in
set_option maxHeartbeats 4000000 in
theorem mod_write (hb:Nat) (T s:List UInt8) (all:Nat) (hT:T.length+s.length≤1099511627776) (ha:all+s.length≤1099511627776) (w:World) (hh:HashAt w hb T all) :
    Calls Tryz.prog 189 #[.pointer (some ⟨hb,0,none⟩),.string ⟨s.toArray⟩] w fun e w'=>e=.returned (.tuple #[])∧HashAt w' hb (T++s) (all+s.length)∧Only (fun k=>k=hb) w w':=by
  have hsz:((⟨s.toArray⟩:ByteArray).size:Int)=(s.length:Int):=by show ((s.toArray.size:Nat):Int)=_;simp
  have w1:IntKind.i64.wrap ((all:Int)+(s.length:Int))=((all+s.length:Nat):Int):=(IntWalk.i64_in _ (by omega)).trans (by omega)
  obtain ⟨rest,h1,h2,h3⟩:=hh
  have hst:=mod_start h3 h1
  obtain ⟨c72,c73,c74,cR⟩:=hash_cell h3 h1
  have f73:=h3.frozen 73
  have k4:=h3.setCell 73 (.int .i64 ((all+s.length:Nat):Int))
  rw [hash_set73 h1] at k4
  have hT0:HashAt (w.setCell ⟨hb,73,none⟩ (.int .i64 ((all+s.length:Nat):Int))) hb (T++s.take 0) (all+s.length):=by
    rw [List.take_zero,List.append_nil]
    exact ⟨rest,h1,h2,k4⟩
  have hO0:Only (fun k=>k=hb) w (w.setCell ⟨hb,73,none⟩ (.int .i64 ((all+s.length:Nat):Int))):=(Only.refl (fun k=>k=hb) w).setCell (.inl rfl) _ _
  clear h2 h3 cR c74 k4
  go_enter Tryz.func189,Tryz.ntmps189
  go_wp2_with fail
  refine hst.mono ?_
  rintro e w2 ⟨rfl,hu⟩
  obtain rfl:=hu.symm
  clear hst hu
  go_wp2_with fail
  go_loopw [1,4] (fun v _ W=>RHs w hb T s (all+s.length) v W) (fun v _ _=>strLen v)
  case atStart=>exact ⟨0,Nat.zero_le _,rfl,hT0,hO0⟩
  case round =>
    clear hT0 hO0 c72 c73 f73
    obtain ⟨j,hj,rfl,hat,hon⟩:=hrel
    by_cases hlt:j<s.length
    · obtain ⟨S,hS⟩:∃ S,s.drop j=S:=⟨_,rfl⟩
      have hSl:0<S.length:=by rw [←hS,List.length_drop];omega
      have hne:S.isEmpty=false:=by
        cases S with
        | nil=>simp at hSl
        | cons a l=>rfl
      rw [hS]
      obtain ⟨L,hL⟩:∃ L,T++s.take j=L:=⟨_,rfl⟩
      have hLl:L.length+S.length≤1099511627776:=by rw [←hL,←hS,List.length_append,List.length_take,List.length_drop];omega
      rw [hL] at hat
      obtain ⟨rest,h1,h2,h3⟩:=hat
      obtain ⟨r,hr⟩:∃ r,L.length % 64=r:=⟨_,rfl⟩
      obtain ⟨q,hq⟩:∃ q,L.length / 64=q:=⟨_,rfl⟩
      rw [hr,hq] at h2 h3
      have hr64:r<64:=by omega
      obtain ⟨c72,c73,c74,cR⟩:=hash_cell h3 h1
      obtain ⟨m,hm⟩:∃ m,m=min S.length (64 - r):=⟨_,rfl⟩
      have hm1:m≤S.length:=by omega
      have hm2:r+m≤64:=by omega
      have hm3:0<m:=by omega
      have wr1:IntKind.i64.wrap ((r:Int)+(m:Int))=((r+m:Nat):Int):=(IntWalk.i64_in _ (by omega)).trans (by omega)
      have h64:¬ 64=r:=by omega
      have r0:(0:Int)≤(r:Int):=by omega
      have r1:(r:Int)≤64:=by omega
      have hN:=Lib.hid (And.intro hL (And.intro hS (And.intro hr (And.intro hq (And.intro hm (And.intro hLl hj))))))
      have hH2:=Lib.hid h2
      have h1':=Lib.hid h1
      have HR:=Lib.hid cR
      have h3h:=Lib.hid h3
      clear hL hS hr hq hm hLl h2 hj cR h1 h3 c73 c74
      go_wp2_with fail
      refine region_plan (S:=fun _:World=>True)
        ((0,true)::(1,true)::(2,true)::(3,true)::(4,true)::(5,true)::(8,true)::(6,false)::(7,true)::(9,false)::(10,true)::[])
        (by kernel_rfl) (by kernel_rfl) (by kernel_rfl) (by kernel_rfl) (fun _ _ _ dst _ h=>by cases dst<;>exact h) trivial (fun hH=>?_)
      clear hH
      (repeat (first | (refine plan_take (v:=?_) (by (simp only [ga1,ga2,ga3];exact rfl)) (by rfl) ?_ ?_;rotate_left;(focus (intro wS hS;(try dsimp only at hS);go_split_ands;go_simp;(try with_reducible rfl)));simp only [Act.put,pu1,pu2,pu3]) | (refine plan_skip (by (simp only [ga1,ga2,ga3];exact rfl)) (by rfl) ?_;simp only [Act.put,pu1,pu2,pu3])))
      (refine plan_solo (by (simp only [ga1,ga2,ga3];exact rfl)) (by rfl) ?_;intro K hK;go_simp)
      refine hK.out _ _ trivial (fun hH=>?_)
      clear hK K hH
      (try simp only [Act.put,pu1,pu2,pu3])
      (repeat (first | (refine plan_take (v:=?_) (by (simp only [ga1,ga2,ga3];exact rfl)) (by rfl) ?_ ?_;rotate_left;(focus (intro wS hS;(try dsimp only at hS);go_split_ands;go_simp;(try with_reducible rfl)));simp only [Act.put,pu1,pu2,pu3]) | (refine plan_skip (by (simp only [ga1,ga2,ga3];exact rfl)) (by rfl) ?_;simp only [Act.put,pu1,pu2,pu3])))
      (refine plan_solo (by (simp only [ga1,ga2,ga3];exact rfl)) (by rfl) ?_;intro K hK)
      refine oper_copy_text (Operand.tmp 27) (Operand.tmp 28) rfl (g:=hb) (off:=8+r) (dLen:=64 - r) (dCap:=64 - r) ?_ (s:=S) rfl (show Blk wr.drew hb _ 262 from h3h.out) (by rw [Array.size_append,arrN_size,hashR_size _ _ _ h1'.out];omega) m (hN.out.2.2.2.2.1) ?_
      · rfl
      intro w4 k4 o4 s4
      rw [hash_into (by rw [h1'.out];exact hm2)] at k4
      refine hK.out _ _ trivial (fun hH=>?_)
      clear hK K hH
      (try simp only [Act.put,pu1,pu2,pu3])
      (repeat (first | (refine plan_take (v:=?_) (by (simp only [ga1,ga2,ga3];exact rfl)) (by rfl) ?_ ?_;rotate_left;(focus (intro wS hS;(try dsimp only at hS);go_split_ands;go_simp;(try with_reducible rfl)));simp only [Act.put,pu1,pu2,pu3]) | (refine plan_skip (by (simp only [ga1,ga2,ga3];exact rfl)) (by rfl) ?_;simp only [Act.put,pu1,pu2,pu3])))
      refine plan_nil ?_
      have hrl:(rest.take r++S.take m++rest.drop (r+m)).length=64:=by
        have:=h1'.out
        simp only [List.length_append,List.length_take,List.length_drop]
        omega
      obtain ⟨rest',hrest'⟩:∃ x,rest.take r++S.take m++rest.drop (r+m)=x:=⟨_,rfl⟩
      rw [hrest'] at k4 hrl
      have on4:Only (fun k=>k=hb) w w4:=hon.trans ((Only.refl _ wr).drew.trans o4)
      have HRE:=Lib.hid hrest'
      have HON:=Lib.hid on4
      obtain ⟨d72,d73,d74,dR⟩:=hash_cell k4 hrl
      have df:=k4.frozen 72
      have HDR:=Lib.hid dR
      have HRL:=Lib.hid hrl
      have HK4:=Lib.hid k4
      clear hrest' on4 hon dR hrl s4 o4 c72 d73 d74 k4 HR h3h
      have hsl:((⟨S.toArray⟩:ByteArray).size:Int)=(S.length:Int):=by show ((S.toArray.size:Nat):Int)=_;simp
      have m0:(0:Int)≤(m:Int):=by omega
      have ml:(m:Int)≤(S.length:Int):=by omega
      by_cases hfull:r+m=64
      · have hfi:(r:Int)+(m:Int)=64:=by omega
        rw [hfull] at wr1
        go_wp2_with fail
        have k5:=HK4.out.setCell 72 (.int .i64 ((64:Nat):Int))
        rw [hash_set72 HRL.out] at k5
        have hcs:=hash_conv k5.drew HRL.out
        refine region_plan (S:=fun w':World=>(convert 123 9 (.slice (some ⟨hb,8,none⟩) 64 64)).run Tryz.prog w'=.ok (.string ⟨rest'.toArray⟩) w')
          ((0,true)::(1,true)::(2,true)::(3,true)::(4,true)::(5,true)::(6,true)::(7,true)::(8,false)::[])
          (by kernel_rfl) (by kernel_rfl) (by kernel_rfl) (by kernel_rfl) (fun _ _ _ dst _ h=>by cases dst<;>exact h) hcs (fun hH=>?_)
        clear hH
        (repeat (first | (refine plan_take (v:=?_) (by (simp only [ga1,ga2,ga3];exact rfl)) (by rfl) ?_ ?_;rotate_left;(focus (intro wS hS;(try dsimp only at hS);go_split_ands;go_simp;(try with_reducible rfl)));simp only [Act.put,pu1,pu2,pu3]) | (refine plan_skip (by (simp only [ga1,ga2,ga3];exact rfl)) (by rfl) ?_;simp only [Act.put,pu1,pu2,pu3])))
        (refine plan_solo (by (simp only [ga1,ga2,ga3];exact rfl)) (by rfl) ?_;intro K hK;go_simp)
        refine (mod_block (foldB L q) (foldB_U32 L q) ⟨rest'.toArray⟩ (by show rest'.toArray.size=64;simp [HRL.out]) _ hb (hashR rest' 64 (all+s.length)) 262 k5.drew).mono ?_
        rintro e w6 ⟨rfl,k6,o6⟩
        refine hK.out _ _ (hash_conv k6 HRL.out) (fun hH=>?_)
        clear hK K hH hcs
        (try simp only [Act.put,pu1,pu2,pu3])
        refine plan_nil ?_
        obtain ⟨e72,_⟩:=hash_cell k6 HRL.out
        have ef:=k6.frozen 72
        have HK6:=Lib.hid k6
        have HON6:=Lib.hid ((HON.out.setCell (.inl rfl) 72 (.int .i64 ((64:Nat):Int))).drew.trans o6)
        clear k5 k6 o6 d72 df
        go_wp2_with fail
        go_roundw
        case rel =>
          obtain ⟨g1,g2,g3,g4,g5,g6,g7⟩:=hN.out
          have hjm:j+m≤s.length:=by rw [←g2,List.length_drop] at hm1;omega
          obtain ⟨n1,n2⟩:=hash_next g1 g2 g3 g4 hm1 hjm h1'.out hH2.out HRE.out hm2
          refine ⟨j+m,hjm,?_,?_,(HON6.out.setCell (.inl rfl) _ _)⟩
          · rw [show s.drop (j+m)=S.drop m from by rw [←g2,List.drop_drop]]
            congr 1
            apply ByteArray.ext
            simp only [ByteArray.data_extract,List.extract_toArray,List.extract_eq_take_drop]
            rw [List.take_of_length_le (by rw [List.length_drop];omega)]
          · rw [n1]
            have hl:(L++S.take m).length=L.length+m:=by rw [List.length_append,List.length_take];omega
            have e1:(L++S.take m).length % 64=0:=by rw [hl];omega
            have e2:(L++S.take m).length / 64=q+1:=by rw [hl];omega
            refine ⟨rest',HRL.out,by rw [e1,e2,List.take_zero,List.drop_eq_nil_of_le (by rw [hl];omega)],?_⟩
            rw [e1,e2]
            have e3:foldB (L++S.take m) (q+1)=blockN (foldB L q) ⟨rest'.toArray⟩:=by
              show blockN (foldB (L++S.take m) q) _=_
              rw [foldB_ext L _ q (by omega),←n2,hfull,List.take_take,Nat.min_self,List.take_of_length_le (by rw [HRL.out];omega)]
            rw [e3]
            have:=HK6.out.setCell 72 (.int .i64 ((0:Nat):Int))
            rw [hash_set72 HRL.out] at this
            exact this
        case measure =>
          show (ByteArray.extract _ _ _).size<(⟨S.toArray⟩:ByteArray).size
          simp
          omega
      · have hfi:¬ (r:Int)+(m:Int)=64:=by omega
        go_wp2_with fail
        go_roundw
        case rel =>
          obtain ⟨g1,g2,g3,g4,g5,g6,g7⟩:=hN.out
          have hjm:j+m≤s.length:=by rw [←g2,List.length_drop] at hm1;omega
          obtain ⟨n1,n2⟩:=hash_next g1 g2 g3 g4 hm1 hjm h1'.out hH2.out HRE.out hm2
          refine ⟨j+m,hjm,?_,?_,(HON.out.setCell (.inl rfl) _ _)⟩
          · rw [show s.drop (j+m)=S.drop m from by rw [←g2,List.drop_drop]]
            congr 1
            apply ByteArray.ext
            simp only [ByteArray.data_extract,List.extract_toArray,List.extract_eq_take_drop]
            rw [List.take_of_length_le (by rw [List.length_drop];omega)]
          · rw [n1]
            have hl:(L++S.take m).length=L.length+m:=by rw [List.length_append,List.length_take];omega
            have e1:(L++S.take m).length % 64=r+m:=by rw [hl];omega
            have e2:(L++S.take m).length / 64=q:=by rw [hl];omega
            refine ⟨rest',HRL.out,by rw [e1,e2];exact n2,?_⟩
            rw [e1,e2,foldB_ext L _ q (by omega)]
            have:=HK4.out.setCell 72 (.int .i64 ((r+m:Nat):Int))
            rw [hash_set72 HRL.out] at this
            exact this
        case measure =>
          show (ByteArray.extract _ _ _).size<(⟨S.toArray⟩:ByteArray).size
          simp
          omega
    · have hjs:j=s.length:=by omega
      subst hjs
      rw [List.take_length] at hat
      rw [List.drop_length]
      go_wp2_with fail
      exact body_none rfl rfl ⟨rfl,hat,hon⟩
theorem arr_init:arrN 8 initN=#[Value.int .u32 1779033703,.int .u32 3144134277,.int .u32 1013904242,.int .u32 2773480762,.int .u32 1359893119,.int .u32 2600822924,.int .u32 528734635,.int .u32 1541459225]:=by rfl
set_option maxRecDepth 100000 in
set_option maxHeartbeats 1000000 in
theorem mod_first (w:World):Calls Tryz.prog 195 #[] w fun e w'=>e=.returned (.agg (arrN 8 initN))∧Below w.heap.size w w':=by
  go_enter Tryz.func195,Tryz.ntmps195
  go_wp2_with fail
  rw [arr_init]
  refine body_cell rfl rfl rfl (Blk.new w _ 259) Tryz.underlying259 rfl (by exact Tryz.size259) ?_
  exact ⟨rfl,(Below.refl _ _).alloc (Nat.le_refl _) _⟩
theorem new_cells:(Array.foldl (fun cs (x:Value×Nat)=>cs.setIfInBounds x.snd x.fst) Tryz.zeroCells262 (arrN 8 initN).zipIdx 0 (arrN 8 initN).size).setIfInBounds 74 (Value.bool true)=arrN 8 initN++hashR (List.replicate 64 0) 0 0:=by kernel_rfl
set_option maxRecDepth 100000 in
set_option maxHeartbeats 1000000 in
theorem mod_New (w:World):Calls Tryz.prog 188 #[] w fun e w'=>e=.returned (.pointer (some ⟨w'.heap.size - 1,0,none⟩))∧HashAt w' (w'.heap.size - 1) [] 0∧Below w.heap.size w w'∧w.heap.size≤w'.heap.size - 1:=by
  go_enter Tryz.func188,Tryz.ntmps188
  go_wp2_with fail
  refine (mod_first _).mono ?_
  rintro e w1 ⟨rfl,hb1⟩
  go_wp2_with fail
  rw [new_cells]
  go_ret
  have hz:(w1.alloc (.cells (arrN 8 initN++hashR (List.replicate 64 0) 0 0) 262)).heap.size - 1=w1.heap.size:=by rw [World.size_alloc];rfl
  refine ⟨by rw [hz];rfl,?_,hb1.alloc hb1.size _,by rw [hz];exact hb1.size⟩
  rw [hz]
  exact ⟨List.replicate 64 0,by rw [List.length_replicate],rfl,Blk.new w1 _ 262⟩
theorem only_set (w:World) (b i:Nat) (v:Value):Only (fun j=>j=b) w (w.setCell ⟨b,i,none⟩ v):=(Only.refl (fun j=>j=b) w).setCell (.inl rfl) _ _
theorem mod_vclos (r n:Int) (ok:Bool) (b:Nat) (w:World) (hb:Blk w b #[.bool ok] 4) :
    Calls Tryz.prog 145 #[.int .i32 r,.int .i64 n,.pointer (some ⟨b,0,none⟩)] w fun e w'=>e=.returned (.tuple #[])∧Blk w' b #[.bool (ok && (!(r == 65533) || decide (1<n)))] 4∧Only (fun j=>j=b) w w'∧w'.heap.size=w.heap.size:=by
  have hc:=hb.cell 0 _ rfl
  have hf:=hb.frozen 0
  have hs:=fun v=>hb.setCell 0 v
  cases ok with
  | false =>
    clear hb
    go_enter Tryz.func145,Tryz.ntmps145
    go_wp2_with fail
    exact body_none rfl rfl ⟨rfl,hs _,only_set _ _ _ _,by simp [World.setCell]⟩
  | true =>
    clear hb
    by_cases h1:r=65533
    · subst h1
      by_cases h2:1<n
      · go_enter Tryz.func145,Tryz.ntmps145
        go_wp2_with fail
        refine body_none rfl rfl ⟨rfl,?_,only_set _ _ _ _,by simp [World.setCell]⟩
        rw [decide_eq_true h2]
        exact hs _
      · go_enter Tryz.func145,Tryz.ntmps145
        go_wp2_with fail
        refine body_none rfl rfl ⟨rfl,?_,only_set _ _ _ _,by simp [World.setCell]⟩
        rw [decide_eq_false (show ¬ 1<n by omega)]
        exact hs _
    · have h3:(r == 65533)=false:=by simpa using h1
      have h4:(r != 65533)=true:=by simpa using h1
      go_enter Tryz.func145,Tryz.ntmps145
      go_wp2_with fail
      refine body_none rfl rfl ⟨rfl,?_,only_set _ _ _ _,by simp [World.setCell]⟩
      rw [h3]
      exact hs _
def REach (w:World) (b:Nat) (s:ByteArray) (lv av:Value) (W:World):Prop :=
  ∃ (pos:Nat) (ok:Bool),W.heap[w.heap.size]?=some (.stringIter s pos)∧pos≤s.size∧Blk W b #[.bool ok] 4∧Only (fun j=>j=b) w W∧W.heap.size=w.heap.size+1 ∧
  ((av=.int .i64 (-1)∧pos=0∧ok=true∧lv=.int .i32 0)∨∃ p:Nat,p<s.size∧av=.int .i64 (p:Nat)∧lv=.int .i32 ((Utf8.decode s p).1:Nat)∧pos=p+(Utf8.decode s p).2∧validN s=(ok && validFrom s s.size p))
theorem valid_ok {s:ByteArray} {p:Nat} {ok:Bool} (hp:p<s.size) (h:validN s=(ok && validFrom s s.size p)) :
    validN s=((ok && (!(((Utf8.decode s p).1:Int) == 65533) || decide (1<((Utf8.decode s p).2:Int)))) && validFrom s s.size (p+(Utf8.decode s p).2)):=by
  rw [h,validFrom_step s hp]
  have hd:=dec_pos s p
  unfold badR
  generalize (Utf8.decode s p).1=r at *
  generalize (Utf8.decode s p).2=n at *
  by_cases h1:r=65533
  · subst h1
    by_cases h2:n=1
    · subst h2;simp
    · have h3:(n == 1)=false:=by simpa using h2
      have h4:(1:Int)<(n:Int):=by omega
      simp [h3,h4]
  · have h3:(r == 65533)=false:=by simpa using h1
    have h4:((r:Int) == 65533)=false:=by simp;omega
    simp [h3,h4]
set_option maxRecDepth 100000 in
set_option maxHeartbeats 4000000 in
theorem mod_each (s:ByteArray) (hs:s.size≤maxLen) (b:Nat) (w:World) (hbk:Blk w b #[.bool true] 4) :
    Calls Tryz.prog 144 #[.string s,.func (.func 145) #[] #[.pointer (some ⟨b,0,none⟩)]] w fun e w'=>e=.returned (.tuple #[])∧Blk w' b #[.bool (validN s)] 4∧Only (fun j=>j=b) w w':=by
  unfold maxLen at hs
  have hbl:=hbk.lt
  go_enter Tryz.func144,Tryz.ntmps144
  go_wp2_with fail
  go_loopw [4,5] (REach w b s) (fun _ _ W=>s.size - W.iterPos w.heap.size)
  case atStart =>
    refine ⟨0,true,?_,Nat.zero_le _,?_,?_,?_,.inl ⟨rfl,rfl,rfl,rfl⟩⟩
    · have:=World.iter_heap w s 0
      simpa using this
    · exact hbk.alloc _
    · exact (Only.refl _ w).alloc _
    · simp [World.iter]
  case round =>
    obtain ⟨pos,ok,hit,hpl,hB,hO,hsz,hcase⟩:=hrel
    have hit0:w.heap.size≠b:=by omega
    by_cases hp:pos<s.size
    · have hnx:∀ ty,(Instr.next (.pointer (some ⟨w.heap.size,0,none⟩)) true ty).run Tryz.prog wr=_:=fun ty=>Lib.run_next_any_at wr w.heap.size s pos ty hit hp
      obtain ⟨W2,hW2⟩:∃ x,wr.iterAt w.heap.size s (pos+(Utf8.decode s pos).2)=x:=⟨_,rfl⟩
      have hit2:=Lib.iterAt_heap wr w.heap.size s pos (pos+(Utf8.decode s pos).2) hit
      have hB2:Blk (wr.iterAt w.heap.size s (pos+(Utf8.decode s pos).2)) b #[.bool ok] 4:=(Lib.iterAt_other wr w.heap.size b s _ (by omega)).trans hB
      have hO2:Only (fun j=>j=b) w (wr.iterAt w.heap.size s (pos+(Utf8.decode s pos).2)):=⟨hO.os,hO.tape,hO.output,by rw [Lib.iterAt_size];exact hO.size,fun k hk hn=>(Lib.iterAt_other wr w.heap.size k s _ (by omega)).trans (hO.block k hk hn)⟩
      have hz2:=Lib.iterAt_size wr w.heap.size s (pos+(Utf8.decode s pos).2)
      rw [hW2] at hit2 hB2 hO2 hz2
      have hd:=dec_pos s pos
      have hdl:=dec_le s pos hp
      have hnx':∀ ty,(Instr.next (.pointer (some ⟨w.heap.size,0,none⟩)) true ty).run Tryz.prog wr=.ok (.tuple #[.bool true,.int .i64 pos,.int .i32 (Utf8.decode s pos).1]) W2:=by rw [←hW2];exact hnx
      have HI2:=Lib.hid hit2
      have HI:=Lib.hid hit
      have HZ2:=Lib.hid (hz2.trans hsz)
      have HO2:=Lib.hid hO2
      have HO:=Lib.hid hO
      have HB2:=Lib.hid hB2
      clear hnx hW2 hit hit2 hsz hz2 hO2 hO hB2 hB hbk
      rcases hcase with ⟨rfl,rfl,rfl,rfl⟩ | ⟨p,hpl',rfl,rfl,hpos,hv⟩
      · go_wp2_with fail
        go_roundw
        case rel=>exact ⟨_,true,HI2.out,hdl,HB2.out,HO2.out,HZ2.out,.inr ⟨0,hp,rfl,rfl,rfl,by unfold validN;rfl⟩⟩
        case measure =>
          simp only [World.iterPos,HI2.out,HI.out]
          omega
      · have hv2:=Lib.hid (valid_ok hpl' hv)
        have e1:(pos:Int) - (p:Int)=((Utf8.decode s p).2:Int):=by omega
        have wr1:IntKind.i64.wrap ((pos:Int) - (p:Int))=((Utf8.decode s p).2:Int):=by rw [e1];exact IntWalk.i64_in _ (by have:=dec_le s p hpl';omega)
        have HV:=Lib.hid (mod_vclos ((Utf8.decode s p).1:Nat) ((Utf8.decode s p).2:Nat) ok b W2 HB2.out)
        have HP:=Lib.hid hpos
        clear hv e1 hpos
        go_wp2_with fail
        refine HV.out.mono ?_
        rintro e w3 ⟨rfl,hB3,hO3,hz3⟩
        have hit3:=Lib.hid (show w3.heap[w.heap.size]?=some (.stringIter s (pos+(Utf8.decode s pos).2)) from (hO3.block w.heap.size (by rw [HZ2.out];omega) hit0).trans HI2.out)
        have HB3:=Lib.hid hB3
        have HO3:=Lib.hid (HO2.out.trans hO3)
        have HZ3:=Lib.hid (hz3.trans HZ2.out)
        clear hB3 hO3 hz3 HV wr1
        go_wp2_with fail
        go_roundw
        case rel=>exact ⟨_,_,hit3.out,hdl,HB3.out,HO3.out,HZ3.out,.inr ⟨pos,hp,rfl,rfl,rfl,by have:=hv2.out;rw [←HP.out] at this;exact this⟩⟩
        case measure =>
          simp only [World.iterPos,hit3.out,HI.out]
          omega
    · have hpe:pos=s.size:=by omega
      have hnx:∀ ty,(Instr.next (.pointer (some ⟨w.heap.size,0,none⟩)) true ty).run Tryz.prog wr=.ok (.tuple #[.bool false]) wr:=fun ty=>Lib.run_next_end_at wr w.heap.size s pos ty hit hp
      have HB:=Lib.hid hB
      have HO:=Lib.hid hO
      clear hit hB hO hbk hsz
      rcases hcase with ⟨rfl,rfl,rfl,rfl⟩ | ⟨p,hpl',rfl,rfl,hpos,hv⟩
      · have hve:validN s=true:=validFrom_end s (by omega) _
        have HVE:=Lib.hid hve
        clear hve hpe
        go_wp2_with fail
        exact body_none rfl rfl ⟨rfl,by rw [HVE.out];exact HB.out,HO.out⟩
      · have hv2:=valid_ok hpl' hv
        rw [←hpos,validFrom_end s (by omega),Bool.and_true] at hv2
        have hd:=dec_le s p hpl'
        have e1:(s.size:Int) - (p:Int)=((Utf8.decode s p).2:Int):=by omega
        have wr1:IntKind.i64.wrap ((s.size:Int) - (p:Int))=((Utf8.decode s p).2:Int):=by rw [e1];exact IntWalk.i64_in _ (by omega)
        have HV:=Lib.hid (mod_vclos ((Utf8.decode s p).1:Nat) ((Utf8.decode s p).2:Nat) ok b wr HB.out)
        rw [←hv2] at HV
        clear hv e1 hpos hpe hv2
        go_wp2_with fail
        refine HV.out.mono ?_
        rintro e w3 ⟨rfl,hB3,hO3,hz3⟩
        clear wr1
        go_wp2_with fail
        exact body_none rfl rfl ⟨rfl,hB3,HO.out.trans hO3⟩
set_option maxRecDepth 100000 in
set_option maxHeartbeats 4000000 in
theorem mod_Valid (s:ByteArray) (hs:s.size≤maxLen) (w:World) :
    Calls Tryz.prog 117 #[.string s] w fun e w'=>e=.returned (.bool (validN s))∧Below w.heap.size w w':=by
  have hB:=Blk.new w #[.bool true] 4
  have HE:=Lib.hid (mod_each s hs w.heap.size _ hB)
  have hO:Only (fun j=>j=w.heap.size) w (w.alloc (.cells #[.bool true] 4)):=(Only.refl _ w).alloc _
  have HO:=Lib.hid hO
  clear hB hO
  go_enter Tryz.func117,Tryz.ntmps117
  go_wp2_with fail
  refine HE.out.mono ?_
  rintro e w2 ⟨rfl,hB2,hO2⟩
  have hc:=hB2.cell 0 _ rfl
  have hbb:Below w.heap.size w w2:=(HO.out.trans hO2).below (Nat.le_refl _) (fun k hk=>by subst hk;exact Nat.le_refl _)
  clear hB2 hO2
  go_wp2_with fail
  go_ret
  exact ⟨rfl,hbb⟩
theorem mod_hidden (r:Nat) (hr:r≤1114111) (w:World):Calls Tryz.prog 143 #[.int .i32 (r:Int)] w fun e w'=>e=.returned (.bool (hidN r))∧w'=w:=by
  rcases hid_cases r with ⟨hh,hcs⟩ | ⟨hh,hcs,n1,n2,n3⟩
  · rw [hh]
    clear hh
    rcases hcs with hcs | ⟨c1,c2⟩ | rfl | rfl | rfl
    · go_enter Tryz.func143,Tryz.ntmps143
      go_wp2_with fail
      go_ret
      exact ⟨rfl,rfl⟩
    · have c3:¬ (r:Int)<32:=by omega
      go_enter Tryz.func143,Tryz.ntmps143
      go_wp2_with fail
      go_ret
      exact ⟨rfl,rfl⟩
    all_goals
      go_enter Tryz.func143,Tryz.ntmps143
      go_wp2_with fail
      go_ret
      exact ⟨rfl,rfl⟩
  · rw [hh]
    clear hh
    rcases hcs with ⟨c1,c2⟩ | c1
    · have c3:¬ (r:Int)<32:=by omega
      have c4:¬ (127:Int)≤(r:Int):=by omega
      go_enter Tryz.func143,Tryz.ntmps143
      go_wp2_with fail
      go_ret
      exact ⟨rfl,rfl⟩
    · have c3:¬ (r:Int)<32:=by omega
      have c4:¬ (r:Int)≤159:=by omega
      go_enter Tryz.func143,Tryz.ntmps143
      go_wp2_with fail
      go_ret
      exact ⟨rfl,rfl⟩
end Go.Proofs.YtmdgeknnhckgfaaGreatDoor
namespace Go.Proofs.YtmdgeknnhckgfaaGreatDoor
open Go Go.RowKit
theorem count_set:∀ (l:List Bool) (i:Nat),l[i]?=some false→(l.set i true).count false+1=l.count false
  | [],i,h=>by simp at h
  | x::l,0,h=>by simp at h;subst h;simp
  | x::l,i+1,h=>by
    have:=count_set l i (by simpa using h)
    simp only [pu3,List.count_cons]
    omega
def beforeB (ops:Array Oper) (i k:Nat):Bool:=(ops[i]?.map fun o=>o.after.toList.any fun e=>Region.binds .any e && e.on == k).getD false
def lastB (ops:Array Oper) (m:Nat):Bool:=(List.range m).all fun k=>beforeB ops m k
def ordB (ops:Array Oper):Bool:=(List.range ops.size).all fun i=>(ops[i]?.map fun o=>o.after.all fun e=>decide (e.on<i)).getD true
def updV (f:Nat→Value) (i:Nat) (v:Value):Nat→Value:=fun k=>if k=i then v else f k
def putFrom:List Nat→Nat→(Nat→Value)→Act→Act
  | [],_,_,a=>a
  | d::ds,i,f,a=>putFrom ds (i+1) f (a.put (some d) (f i))
section
variable {P:Program} {ops:Array Oper} {Q:Exit→Act→World→Prop}
theorem ready_all {listed:Array Bool} (hord:ordB ops=true) (hr:Region.ready .any ops listed=[]):∀ k,k<ops.size→listed.getD k true=true:=by
  intro k
  induction k using Nat.strongRecOn with
  | _ k ih =>
    intro hk
    rcases hb:listed.getD k true with _ | _
    · exfalso
      have hm:k∈Region.ready .any ops listed:=by
        refine mem_ready.2 ⟨hb,ops[k],Array.getElem?_eq_getElem hk,fun e he hbi=>?_⟩
        have h1:=List.all_eq_true.1 hord k (List.mem_range.2 hk)
        rw [Array.getElem?_eq_getElem hk] at h1
        have h2:=Array.all_eq_true_iff_forall_mem.1 h1 e he
        have h3:e.on<k:=by simpa using h2
        have h4:=ih e.on h3 (by omega)
        by_cases hs:e.on<listed.size
        · simpa [Array.getD,hs] using h4
        · have hks:¬ k<listed.size:=by omega
          simp [Array.getD,hks] at hb
      rw [hr] at hm
      cases hm
    · rfl
theorem wpAny_end:∀ (fuel:Nat) {listed:Array Bool} {a:Act} {w:World},Region.ready .any ops listed=[]→Q .normal a w→wpAny P .any ops Q fuel listed a w
  | 0,_,_,_,hr,h=>⟨hr,h⟩
  | fuel+1,_,_,_,hr,h=>⟨fun _=>h,fun i hi=>by rw [hr] at hi;cases hi⟩
theorem rely_sound {mk:(Nat→Value)→Act} {F:Nat→Value→World→Prop} {m:Nat} {w0:World} (hsz:ops.size=m+1) (hlast:lastB ops m=true) (hord:ordB ops=true)
    (hF:∀ i v w w',Below w.heap.size w w'→F i v w→F i v w')
    (hstep:∀ i,i<m→∀ vals w,Below w0.heap.size w0 w→(∀ k,beforeB ops i k=true→F k (vals k) w)→wpOp P ops Q i (fun a' w'=>∃ v,a'=mk (updV vals i v)∧Below w.heap.size w w'∧F i v w') (mk vals) w)
    (hend:∀ vals w,Below w0.heap.size w0 w→(∀ k,k<m→F k (vals k) w)→wpOp P ops Q m (fun a' w'=>Q .normal a' w') (mk vals) w) :
    ∀ (fuel:Nat) (listed:Array Bool) (vals:Nat→Value) (w:World),listed.size=m+1→listed.toList.count false≤fuel→listed.getD m true=false→Below w0.heap.size w0 w→(∀ k,k<m→listed.getD k false=true→F k (vals k) w) →
      wpAny P .any ops Q fuel listed (mk vals) w:=by
  have hlm:∀ k,k<m→beforeB ops m k=true:=fun k hk=>List.all_eq_true.1 hlast k (List.mem_range.2 hk)
  intro fuel
  induction fuel with
  | zero =>
    intro listed vals w hs hc hmu _ _
    exfalso
    have hmem:false∈listed.toList:=by
      have:m<listed.size:=by omega
      simp [Array.getD,this] at hmu
      rw [←hmu]
      simp
    have:=List.count_pos_iff.2 hmem
    omega
  | succ fuel ih =>
    intro listed vals w hs hc hmu hb hf
    refine ⟨fun hr=>?_,fun i hi=>?_⟩
    · have:=ready_all hord hr m (by omega)
      rw [hmu] at this
      cases this
    · obtain ⟨hun,o,ho,hall⟩:=mem_ready.1 hi
      have hil:i<ops.size:=(Array.getElem?_eq_some_iff.1 ho).1
      have hbef:∀ k,beforeB ops i k=true→listed.getD k false=true:=by
        intro k hk
        unfold beforeB at hk
        rw [ho] at hk
        simp only [Option.map_some,Option.getD_some,List.any_eq_true] at hk
        obtain ⟨e,he,hk⟩:=hk
        simp only [Bool.and_eq_true,beq_iff_eq] at hk
        have:=hall e (by simpa using he) hk.1
        rw [hk.2] at this
        exact this
      have hget:listed.toList[i]?=some false:=by
        have h1:i<listed.size:=by omega
        simp [Array.getD,h1] at hun
        simp [h1,hun]
      have hcs:=count_set _ i hget
      by_cases him:i=m
      · subst him
        refine wpOp_mono (fun a' w' h=>wpAny_end fuel ?_ h) (hend vals w hb (fun k hk=>hf k hk (hbef k (hlm k hk))))
        cases hr:Region.ready .any ops (listed.setIfInBounds i true) with
        | nil=>rfl
        | cons j js =>
          exfalso
          have hj:j∈Region.ready .any ops (listed.setIfInBounds i true):=by rw [hr];exact List.mem_cons_self
          obtain ⟨hju,oj,hoj,_⟩:=mem_ready.1 hj
          have hjl:j<ops.size:=(Array.getElem?_eq_some_iff.1 hoj).1
          by_cases hji:i=j
          · subst hji
            have h1:i<listed.size:=by omega
            simp [Array.getD,h1] at hju
          · rw [getD_set_ne true hji] at hju
            have h2:=hbef j (hlm j (by omega))
            have h1:j<listed.size:=by omega
            simp [Array.getD,h1] at hju h2
            rw [hju] at h2
            cases h2
      · have hilm:i<m:=by omega
        refine wpOp_mono (fun a' w' h=>?_) (hstep i hilm vals w hb (fun k hk=>hf k (by
          have h1:=hbef k hk
          have h2:k≠m:=by
            rintro rfl
            by_cases hs':k<listed.size
            · simp [Array.getD,hs'] at h1 hmu
              rw [h1] at hmu
              cases hmu
            · simp [Array.getD,hs'] at h1
          have h3:k<listed.size:=by
            by_cases hs':k<listed.size
            · exact hs'
            · simp [Array.getD,hs'] at h1
          omega) (hbef k hk)))
        obtain ⟨v,rfl,hb',hfi⟩:=h
        refine ih _ _ _ (by simpa using hs) (by rw [Array.toList_setIfInBounds];omega) (by rw [getD_set_ne true him];exact hmu) (hb.trans (hb'.mono hb.size)) (fun k hk hl=>?_)
        by_cases hki:i=k
        · subst hki
          simpa [updV] using hfi
        · rw [getD_set_ne false hki] at hl
          have:updV vals i v k=vals k:=by unfold updV;rw [if_neg (fun h=>hki h.symm)]
          rw [this]
          exact hF _ _ _ _ hb' (hf k hk hl)
theorem region_rely {id:Nat} {a:Act} {w:World} (mk:(Nat→Value)→Act) (F:Nat→Value→World→Prop) (m:Nat) (v0:Nat→Value) (hm:P.follows .mixedOrders=true) (hsz:ops.size=m+1) (hlast:lastB ops m=true) (hord:ordB ops=true) (ha:a=mk v0)
    (hF:∀ i v w w',Below w.heap.size w w'→F i v w→F i v w')
    (hstep:∀ i,i<m→∀ vals w',Below w.drew.heap.size w.drew w'→(∀ k,beforeB ops i k=true→F k (vals k) w')→wpOp P ops Q i (fun a' w''=>∃ v,a'=mk (updV vals i v)∧Below w'.heap.size w' w''∧F i v w'') (mk vals) w')
    (hend:∀ vals w',Below w.drew.heap.size w.drew w'→(∀ k,k<m→F k (vals k) w')→wpOp P ops Q m (fun a' w''=>Q .normal a' w'') (mk vals) w'):(Code.region id ops true).wp P Q a w:=by
  subst ha
  refine wp_region_any hm (rely_sound (F:=F) (w0:=w.drew) hsz hlast hord hF hstep hend _ _ v0 _ (by simpa using hsz) ?_ ?_ (Below.refl _ _) ?_)
  · simp
  · simp [Array.getD,hsz]
  · intro k hk h
    have:k<ops.size:=by omega
    simp [Array.getD,this] at h
theorem region_rely_at {id:Nat} {a:Act} {w:World} (ds:List Nat) (F:Nat→Value→World→Prop) (m:Nat) (hm:P.follows .mixedOrders=true) (hsz:ops.size=m+1) (hlast:lastB ops m=true) (hord:ordB ops=true) (ha:putFrom ds 0 (fun _=>undef) a=a)
    (hF:∀ i v w w',Below w.heap.size w w'→F i v w→F i v w')
    (hstep:∀ i,i<m→∀ vals w',Below w.drew.heap.size w.drew w'→(∀ k,beforeB ops i k=true→F k (vals k) w')→wpOp P ops Q i (fun a' w''=>∃ v,a'=putFrom ds 0 (updV vals i v) a∧Below w'.heap.size w' w''∧F i v w'') (putFrom ds 0 vals a) w')
    (hend:∀ vals w',Below w.drew.heap.size w.drew w'→(∀ k,k<m→F k (vals k) w')→wpOp P ops Q m (fun a' w''=>Q .normal a' w'') (putFrom ds 0 vals a) w'):(Code.region id ops true).wp P Q a w :=
  region_rely (fun f=>putFrom ds 0 f a) F m (fun _=>undef) hm hsz hlast hord ha.symm hF hstep hend
theorem rely_op {i:Nat} {a:Act} {w:World} {o:Oper} {G:Act→World→Prop} (ho:ops[i]?=some o) (hw:Region.wanted o (yielded ops a.tmps)=true)
    (h:∀ K:Act→World→Prop,Shut (∀ a' w',G a' w'→K a' w')→Oper.wp P o a w K Q):wpOp P ops Q i G a w:=by
  have h1:=h G (fun a' w' h1=>h1)
  unfold Go.wpOp
  simp only [ho,hw,if_true]
  exact .inl h1
end
end Go.Proofs.YtmdgeknnhckgfaaGreatDoor
