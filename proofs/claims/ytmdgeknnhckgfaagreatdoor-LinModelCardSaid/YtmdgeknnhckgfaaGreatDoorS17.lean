/-
  Parts of the proof of the law LinModel: RCre.
-/
import Derived.Test.YtmdgeknnhckgfaaGreatDoorS03
import Derived.Test.YtmdgeknnhckgfaaGreatDoorS05
import Derived.Test.YtmdgeknnhckgfaaGreatDoorS09
import Derived.Test.YtmdgeknnhckgfaaGreatDoorS14
import Derived.Test.YtmdgeknnhckgfaaGreatDoorS16
import Derived.Deep.CutRange
set_option linter.unusedSimpArgs false
set_option linter.unusedVariables false
namespace Go.Proofs.YtmdgeknnhckgfaaGreatDoor
open Go Go.RowKit
def zero14:Array Value:=ansArr Ans.zero
theorem two_blocks (w:World) (kind ten:Int) (tok usr dat:ByteArray) (ttl frm:Int) (draw:Nat):Blk ((w.alloc (.cells #[.int .i64 kind,.int .i64 ten,.string tok,.string usr,.string dat,.int .i64 ttl,.int .i64 frm,.int .u64 (draw:Int)] 53)).alloc (.cells zero14 35)) w.heap.size #[.int .i64 kind,.int .i64 ten,.string tok,.string usr,.string dat,.int .i64 ttl,.int .i64 frm,.int .u64 (draw:Int)] 53 ∧
    Blk ((w.alloc (.cells #[.int .i64 kind,.int .i64 ten,.string tok,.string usr,.string dat,.int .i64 ttl,.int .i64 frm,.int .u64 (draw:Int)] 53)).alloc (.cells zero14 35)) (w.heap.size+1) zero14 35∧Below w.heap.size w ((w.alloc (.cells #[.int .i64 kind,.int .i64 ten,.string tok,.string usr,.string dat,.int .i64 ttl,.int .i64 frm,.int .u64 (draw:Int)] 53)).alloc (.cells zero14 35)):=by
  refine ⟨(Blk.new w _ 53).alloc _,?_,((Below.refl _ _).alloc (Nat.le_refl _) _).alloc (by simp) _⟩
  have:=Blk.new (w.alloc (.cells #[.int .i64 kind,.int .i64 ten,.string tok,.string usr,.string dat,.int .i64 ttl,.int .i64 frm,.int .u64 (draw:Int)] 53)) zero14 35
  rw [World.size_alloc] at this
  exact this
structure Box (w W:World) (kind ten:Int) (tok usr dat:ByteArray) (ttl frm:Int) (draw:Nat):Prop where
  box:Blk W w.heap.size #[.int .i64 kind,.int .i64 ten,.string tok,.string usr,.string dat,.int .i64 ttl,.int .i64 frm,.int .u64 (draw:Int)] 53
  ans:Blk W (w.heap.size+1) zero14 35
  below:Below w.heap.size w W
theorem Box.kept {w W W':World} {kind ten:Int} {tok usr dat:ByteArray} {ttl frm:Int} {draw:Nat} (b:Box w W kind ten tok usr dat ttl frm draw) (h:Below W.heap.size W W'):Box w W' kind ten tok usr dat ttl frm draw :=
  ⟨b.box.kept h,b.ans.kept h,b.below.trans (h.mono b.below.size)⟩
variable {w:World} {p:Nat} {T:List Ten} {L:List Hs} {d:RD}
theorem Tryz.size90:(Tryz.prog.info? 90).map (·.size)=some 4:=by kernel_rfl
def zero4:Array Value:=#[.string ⟨#[]⟩,.string ⟨#[]⟩,.string ⟨#[]⟩,.int .u64 0]
def RNew (w:World) (i:Nat) (c:Cl) (s:Ses) (v:Value) (W:World):Prop :=
  ∃ sb,v=.pointer (some ⟨sb,0,none⟩)∧Blk W sb (sesCells s).toArray 90∧Box w W 1 (i:Int) c.tok c.usr c.dat c.ttl c.frm c.draw∧w.heap.size+1<sb
theorem sesArgs_take:∀ (S:List Ses) (j:Nat),(sesArgs S).take (j*4)=sesArgs (S.take j)
  | [],j=>by simp [sesArgs]
  | x::S,0=>by simp [sesArgs]
  | x::S,j+1=>by
    show (sesCells x++sesArgs S).take ((j+1)*4)=sesCells x++sesArgs (S.take j)
    rw [←sesArgs_take S j,show (j+1)*4=(sesCells x).length+j*4 by simp [sesCells];omega,List.take_length_add_append]
theorem sesArgs_drop:∀ (S:List Ses) (j:Nat),(sesArgs S).drop (j*4)=sesArgs (S.drop j)
  | [],j=>by simp [sesArgs]
  | x::S,0=>by simp
  | x::S,j+1=>by
    show (sesCells x++sesArgs S).drop ((j+1)*4)=sesArgs (S.drop j)
    rw [←sesArgs_drop S j,show (j+1)*4=(sesCells x).length+j*4 by simp [sesCells];omega,List.drop_length_add_append]
theorem less_true {a b:ByteArray} (h:SLt a b):Op.bytesLess a.toList b.toList=true:=by rw [Lib.toList_data,Lib.toList_data];exact h
theorem less_false {a b:ByteArray} (h:¬ SLt a b):Op.bytesLess a.toList b.toList=false:=by
  rw [Lib.toList_data,Lib.toList_data,←Bool.not_eq_true];exact h
theorem insN_at {s:Ses}:∀ {S:List Ses} {j:Nat},j≤S.length→(∀ x∈S.take j,SLt x.tok s.tok)→(∀ x,S[j]?=some x→¬ SLt x.tok s.tok)→insN s S=S.take j++s::S.drop j
  | [],j,hj,_,_=>by
    have:j=0:=by simpa using hj
    subst this;rfl
  | y::l,0,_,_,h=>by
    unfold insN
    rw [if_neg (h y rfl)]
    rfl
  | y::l,j+1,hj,h1,h2=>by
    unfold insN
    rw [if_pos (h1 y (by simp))]
    rw [insN_at (j:=j) (by simpa using hj) (fun x hx=>h1 x (by simp [hx])) (fun x hx=>h2 x (by simpa using hx))]
    rfl
def RPos (w:World) (S:List Ses) (tk:ByteArray) (v:Value) (W:World):Prop:=∃ j:Nat,j≤S.length∧v=.int .i64 (j:Nat)∧(∀ x∈S.take j,SLt x.tok tk)∧Below w.heap.size w W
theorem Box.turn {w W W':World} {kind ten:Int} {tok usr dat:ByteArray} {ttl frm:Int} {draw:Nat} (b:Box w W kind ten tok usr dat ttl frm draw) {S:Nat→Prop} (h:Only S W W') (hw:∀ k,w.heap.size≤k→k≤w.heap.size+1→¬ S k) :
    Blk W' w.heap.size #[.int .i64 kind,.int .i64 ten,.string tok,.string usr,.string dat,.int .i64 ttl,.int .i64 frm,.int .u64 (draw:Int)] 53∧Blk W' (w.heap.size+1) zero14 35 :=
  ⟨(h.block _ b.box.lt (hw _ (Nat.le_refl _) (by omega))).trans b.box,(h.block _ b.ans.lt (hw _ (by omega) (Nat.le_refl _))).trans b.ans⟩
set_option maxRecDepth 100000 in
set_option maxHeartbeats 8000000 in
theorem ref_create (r:RIs w p T L d) {i:Nat} {h:Hs} (hi:L[i]?=some h) {n:Nat} (hok:HsOk n h) (hn:n≤1000) (c:Cl) (hc:c.ten=(i:Int)) (hcok:c.Ok) (now:Nat) (hnow:now<18446744073709551616) (hkd:c.kind=1) :
    Calls Tryz.prog 21 #[.pointer (some ⟨p,0,none⟩),clV c,.int .u64 (now:Nat)] w (RDo w p T L d ((createN h c now).1,L.set i (createN h c now).2)):=by
  have HR:=Lib.hid r
  have HI:=Lib.hid hi
  have t1:=two_blocks w 1 (i:Int) c.tok c.usr c.dat c.ttl c.frm c.draw
  have B0:=Lib.hid (fun W hb=>Box.kept (W':=W) ⟨t1.1,t1.2.1,t1.2.2⟩ hb)
  have HNm:=Lib.hid (ref_Name c.usr hcok.usr)
  have HVl:=Lib.hid (ref_Valid c.dat hcok.dat)
  have HTl:=Lib.hid (ref_ttl c.ttl)
  have HOK:=Lib.hid hok
  have HCK:=Lib.hid hcok
  obtain ⟨post,hpost⟩:∃ x,x=(createN h c now):=⟨_,rfl⟩
  rw [←hpost]
  unfold clV
  rw [hc,hkd]
  clear t1 r hi hok hcok hc hkd
  by_cases hcb:createB c=false
  · have hF:=Lib.hid (show (post.1,L.set i post.2)=(badA 400,L) by rw [hpost];unfold createN;rw [if_pos hcb];simp only;rw [set_self HI.out])
    unfold createB at hcb
    clear hpost
    by_cases b1:nameN c.usr=true
    · rw [b1] at HNm
      by_cases b2:c.dat.size≤512
      · have n2:(c.dat.size:Int)≤512:=by omega
        by_cases b3:validN c.dat=true
        · have b4:ttlN c.ttl=false:=by
            rw [b1,b3,decide_eq_true b2] at hcb
            simpa using hcb
          rw [b3] at HVl
          rw [b4] at HTl
          clear hcb b1 b2 b3 b4
          go_enter Tryz.func21,Tryz.ntmps21
          go_wp2_with fail
          refine (HNm.out _).mono ?_
          rintro e w1 ⟨rfl,hb1⟩
          have BX1:=B0.out w1 hb1
          have x4:=BX1.box.cell 4 _ rfl
          go_wp2_with fail
          refine (HVl.out _).mono ?_
          rintro e w2 ⟨rfl,hb2⟩
          have BX:=BX1.kept hb2
          have x5:=BX.box.cell 5 _ rfl
          clear BX1 x4 hb1 hb2
          go_wp2_with fail
          refine (HTl.out _).mono ?_
          rintro e w3 ⟨rfl,hw3⟩
          obtain rfl:=hw3.symm
          clear hw3
          go_wp2_with fail
          refine (ref_bad 400 (⟨#[98,97,100]⟩) _).mono ?_
          rintro e w9 ⟨rfl,hb9⟩
          have bx9:=BX.kept hb9
          go_wp2_with (refine wpList_store_blk rfl 35 (Operand.tmp 6) (Operand.tmp 32) rfl (w.heap.size+1) rfl zero14 _ 35 rfl bx9.ans (by exact Tryz.size35) rfl (by simp [ansArr,Ans.zero,Value.oneCell']) ?_;intro w10 hk10 ho10 hs10)
          refine body_cell rfl rfl rfl hk10 Tryz.underlying35 rfl (by exact Tryz.size35) ?_
          have hbx:Below w.heap.size w w10:=bx9.below.trans (ho10.below bx9.below.size (fun k hk=>by rw [hk];exact Nat.le_succ _))
          rw [anV_bad 400 (⟨#[98,97,100]⟩) rfl,hF.out]
          exact RDo.of (RTo.refl HR.out hbx) rfl rfl
        · rw [Bool.not_eq_true] at b3
          rw [b3] at HVl
          clear hcb b1 b3
          have d2:decide ((512:Int)<(c.dat.size:Int))=false:=decide_eq_false (by omega)
          clear b2
          go_enter Tryz.func21,Tryz.ntmps21
          go_wp2_with fail
          refine (HNm.out _).mono ?_
          rintro e w1 ⟨rfl,hb1⟩
          have BX1:=B0.out w1 hb1
          have x4:=BX1.box.cell 4 _ rfl
          go_wp2_with fail
          refine (HVl.out _).mono ?_
          rintro e w2 ⟨rfl,hb2⟩
          have BX:=BX1.kept hb2
          clear BX1 x4 hb1 hb2
          go_wp2_with fail
          refine (ref_bad 400 (⟨#[98,97,100]⟩) _).mono ?_
          rintro e w9 ⟨rfl,hb9⟩
          have bx9:=BX.kept hb9
          go_wp2_with (refine wpList_store_blk rfl 35 (Operand.tmp 6) (Operand.tmp 32) rfl (w.heap.size+1) rfl zero14 _ 35 rfl bx9.ans (by exact Tryz.size35) rfl (by simp [ansArr,Ans.zero,Value.oneCell']) ?_;intro w10 hk10 ho10 hs10)
          refine body_cell rfl rfl rfl hk10 Tryz.underlying35 rfl (by exact Tryz.size35) ?_
          have hbx:Below w.heap.size w w10:=bx9.below.trans (ho10.below bx9.below.size (fun k hk=>by rw [hk];exact Nat.le_succ _))
          rw [anV_bad 400 (⟨#[98,97,100]⟩) rfl,hF.out]
          exact RDo.of (RTo.refl HR.out hbx) rfl rfl
      · have n2:(512:Int)<(c.dat.size:Int):=by omega
        clear hcb b1 b2
        go_enter Tryz.func21,Tryz.ntmps21
        go_wp2_with fail
        refine (HNm.out _).mono ?_
        rintro e w1 ⟨rfl,hb1⟩
        have BX:=B0.out w1 hb1
        have x4:=BX.box.cell 4 _ rfl
        clear hb1
        go_wp2_with fail
        refine (ref_bad 400 (⟨#[98,97,100]⟩) _).mono ?_
        rintro e w9 ⟨rfl,hb9⟩
        have bx9:=BX.kept hb9
        go_wp2_with (refine wpList_store_blk rfl 35 (Operand.tmp 6) (Operand.tmp 32) rfl (w.heap.size+1) rfl zero14 _ 35 rfl bx9.ans (by exact Tryz.size35) rfl (by simp [ansArr,Ans.zero,Value.oneCell']) ?_;intro w10 hk10 ho10 hs10)
        refine body_cell rfl rfl rfl hk10 Tryz.underlying35 rfl (by exact Tryz.size35) ?_
        have hbx:Below w.heap.size w w10:=bx9.below.trans (ho10.below bx9.below.size (fun k hk=>by rw [hk];exact Nat.le_succ _))
        rw [anV_bad 400 (⟨#[98,97,100]⟩) rfl,hF.out]
        exact RDo.of (RTo.refl HR.out hbx) rfl rfl
    · rw [Bool.not_eq_true] at b1
      rw [b1] at HNm
      clear hcb b1
      go_enter Tryz.func21,Tryz.ntmps21
      go_wp2_with fail
      refine (HNm.out _).mono ?_
      rintro e w1 ⟨rfl,hb1⟩
      have BX:=B0.out w1 hb1
      clear hb1
      go_wp2_with fail
      refine (ref_bad 400 (⟨#[98,97,100]⟩) _).mono ?_
      rintro e w9 ⟨rfl,hb9⟩
      have bx9:=BX.kept hb9
      go_wp2_with (refine wpList_store_blk rfl 35 (Operand.tmp 6) (Operand.tmp 32) rfl (w.heap.size+1) rfl zero14 _ 35 rfl bx9.ans (by exact Tryz.size35) rfl (by simp [ansArr,Ans.zero,Value.oneCell']) ?_;intro w10 hk10 ho10 hs10)
      refine body_cell rfl rfl rfl hk10 Tryz.underlying35 rfl (by exact Tryz.size35) ?_
      have hbx:Below w.heap.size w w10:=bx9.below.trans (ho10.below bx9.below.size (fun k hk=>by rw [hk];exact Nat.le_succ _))
      rw [anV_bad 400 (⟨#[98,97,100]⟩) rfl,hF.out]
      exact RDo.of (RTo.refl HR.out hbx) rfl rfl
  · obtain ⟨b1,b2,b3,b4⟩:=createB_of hcb
    rw [b1] at HNm
    rw [b3] at HVl
    rw [b4] at HTl
    have tl:=ttlN_of b4
    obtain ⟨tl1,tl2⟩:=tl
    have d2:decide ((512:Int)<(c.dat.size:Int))=false:=decide_eq_false (by omega)
    have HCB:=Lib.hid hcb
    have HPO:=Lib.hid hpost
    clear hcb b1 b2 b3 b4 hpost
    go_enter Tryz.func21,Tryz.ntmps21
    go_wp2_with fail
    refine (HNm.out _).mono ?_
    rintro e w1 ⟨rfl,hb1⟩
    have BX1:=B0.out w1 hb1
    have x4:=BX1.box.cell 4 _ rfl
    go_wp2_with fail
    refine (HVl.out _).mono ?_
    rintro e w2 ⟨rfl,hb2⟩
    have BX:=BX1.kept hb2
    have x5:=BX.box.cell 5 _ rfl
    clear BX1 x4 hb1 hb2 d2
    go_wp2_with fail
    refine (HTl.out _).mono ?_
    rintro e w3 ⟨rfl,hw3⟩
    obtain rfl:=hw3.symm
    clear hw3 HNm HVl HTl x5
    have HBX:=Lib.hid BX
    go_upto_region 3 with fail
    go_cut [48] from 33 to 134 (fun v W=>v=.bool (decide (h.quota≤((liveN h.ses now).length:Int)))∧Box w W 1 (i:Int) c.tok c.usr c.dat c.ttl c.frm c.draw)
    case first =>
      have r2:=HR.out.kept HBX.out.below
      have c0:w2.cell? ⟨p,0,none⟩=some d.tv:=r2.hp.cell 0 _ rfl
      have x1:=HBX.out.box.cell 1 (.int .i64 (i:Int)) rfl
      have hil:=(List.getElem?_eq_some_iff.1 HI.out).1
      have htl:=r2.tl
      obtain ⟨t,ht⟩:∃ t,T[i]?=some t:=get_lt (by rw [htl];exact hil)
      have hq:=r2.tq i t h ht HI.out
      have hrd:=Reads.of_own r2.ht
      obtain ⟨A,cap,htv⟩:=hrd.form
      rw [htv] at hrd c0
      obtain ⟨tb,o,rfl,hbl,y0,y1,y2⟩:=hrd.ten_at ht
      rw [hq] at y2
      have il:(i:Int)<(T.length:Int):=by omega
      have HL:=Lib.hid (ref_Live (now:=now) r2.drew HI.out (by have:=HOK.out.len;omega))
      have hBB:=Lib.hid BX
      clear r2 hil htl ht hq hrd htv y0 y1 BX
      refine region_plan (S:=fun w':World=>w'.cell? ⟨p,0,none⟩=some (.slice (some ⟨tb,o,none⟩) T.length cap)∧w'.cell? ⟨w.heap.size,1,none⟩=some (.int .i64 (i:Int))∧w'.cell? ⟨tb,o+i*3+2,none⟩=some (.int .i64 h.quota))
        ((0,true)::(1,true)::(2,true)::(3,true)::(6,true)::(7,true)::(8,true)::(9,true)::(10,true)::(11,true)::(12,true)::(13,true)::(14,true)::(4,false)::(5,true)::(15,true)::[])
        (by kernel_rfl) (by kernel_rfl) (by kernel_rfl) (by kernel_rfl) (fun _ _ _ dst _ h=>by cases dst<;>exact h) ⟨c0,x1,y2⟩ (fun hH=>?_)
      clear hH
      (repeat (first | (refine plan_take (v:=?_) (by (simp only [ga1,ga2,ga3];exact rfl)) (by rfl) ?_ ?_;rotate_left;(focus (intro wS hS;(try dsimp only at hS);go_split_ands;go_simp;(try with_reducible rfl)));simp only [Act.put,pu1,pu2,pu3]) | (refine plan_skip (by (simp only [ga1,ga2,ga3];exact rfl)) (by rfl) ?_;simp only [Act.put,pu1,pu2,pu3])))
      (refine plan_solo (by (simp only [ga1,ga2,ga3];exact rfl)) (by rfl) ?_;intro K hK;go_simp)
      refine HL.out.mono ?_
      rintro e w4 ⟨v,rfl,own4,hb4⟩
      obtain ⟨A',cap',rfl⟩:=own_form own4
      have hb4':Below w2.heap.size w2 w4:=(Below.refl _ w2).drew.trans hb4
      refine hK.out _ _ ⟨cell_keep hb4' c0,cell_keep hb4' x1,cell_keep hb4' y2⟩ (fun hH=>?_)
      clear hK K hH own4 hb4
      (try simp only [Act.put,pu1,pu2,pu3])
      (repeat (first | (refine plan_take (v:=?_) (by (simp only [ga1,ga2,ga3];exact rfl)) (by rfl) ?_ ?_;rotate_left;(focus (intro wS hS;(try dsimp only at hS);go_split_ands;go_simp;(try with_reducible rfl)));simp only [Act.put,pu1,pu2,pu3]) | (refine plan_skip (by (simp only [ga1,ga2,ga3];exact rfl)) (by rfl) ?_;simp only [Act.put,pu1,pu2,pu3])))
      refine plan_nil ?_
      have BX4:=hBB.out.kept hb4'
      clear hb4' c0 x1 y2 hbl HL hBB HBX
      go_wp2_with fail
      go_meet
      case rel=>exact ⟨rfl,BX4⟩
    case rest =>
      obtain ⟨rfl,BX⟩:=hcut
      clear HBX
      by_cases hq:h.quota≤((liveN h.ses now).length:Int)
      · have hF:=Lib.hid (show (post.1,L.set i post.2)=(badA 429,L) by rw [HPO.out];unfold createN;rw [if_neg HCB.out,if_pos hq];simp only;rw [set_self HI.out])
        have d1:decide (h.quota≤((liveN h.ses now).length:Int))=true:=decide_eq_true hq
        rw [d1]
        clear hq d1
        go_wp2_with fail
        refine (ref_bad 429 (⟨#[113,117,111,116,97]⟩) _).mono ?_
        rintro e w9 ⟨rfl,hb9⟩
        have bx9:=BX.kept hb9
        go_wp2_with (refine wpList_store_blk rfl 35 (Operand.tmp 6) (Operand.tmp 49) rfl (w.heap.size+1) rfl zero14 _ 35 rfl bx9.ans (by exact Tryz.size35) rfl (by simp [ansArr,Ans.zero,Value.oneCell']) ?_;intro w10 hk10 ho10 hs10)
        refine body_cell rfl rfl rfl hk10 Tryz.underlying35 rfl (by exact Tryz.size35) ?_
        have hbx:Below w.heap.size w w10:=bx9.below.trans (ho10.below bx9.below.size (fun k hk=>by rw [hk];exact Nat.le_succ _))
        rw [anV_bad 429 (⟨#[113,117,111,116,97]⟩) rfl,hF.out]
        exact RDo.of (RTo.refl HR.out hbx) rfl rfl
      · obtain ⟨tn,htn⟩:∃ tn:Nat,c.ttl=(tn:Int):=⟨c.ttl.toNat,by omega⟩
        have hF:=Lib.hid (show post=({ status:=201,tok:=tokB h.next c.draw,exp:=untilN now tn },{ h with ses:=insN ⟨tokB h.next c.draw,c.usr,c.dat,untilN now tn⟩ h.ses,next:=h.next+1,ents:=noteN h.ents 1 now (tokB h.next c.draw) }) by
          rw [HPO.out];unfold createN;rw [if_neg HCB.out,if_neg hq,htn];rfl)
        have d1:decide (h.quota≤((liveN h.ses now).length:Int))=false:=decide_eq_false hq
        rw [d1]
        clear d1
        have HTok:=ref_token h.next c.draw
        have HUnt:=ref_until now tn (by omega)
        obtain ⟨tk,htk⟩:∃ x,tokB h.next c.draw=x:=⟨_,rfl⟩
        obtain ⟨ex,hex⟩:∃ x,untilN now tn=x:=⟨_,rfl⟩
        have hxl:ex<18446744073709551616:=by rw [←hex];exact untilN_lt (by omega)
        unfold tokB at htk
        rw [htk] at HTok
        rw [hex] at HUnt
        rw [show tokB h.next c.draw=tk from htk,hex] at hF
        replace HTok:=Lib.hid HTok
        replace HUnt:=Lib.hid HUnt
        clear htk hex
        have HTN:=Lib.hid htn
        rw [htn] at tl1 tl2
        have c1:wc.cell? ⟨p,1,none⟩=some (.slice (some ⟨d.g,0,none⟩) L.length d.cap):=(HR.out.kept BX.below).pcell
        have x1:=BX.box.cell 1 (.int .i64 (i:Int)) rfl
        have HBX:=Lib.hid BX
        have il:(i:Int)<(L.length:Int):=by have:=(List.getElem?_eq_some_iff.1 HI.out).1;omega
        have nx:(h.next:Int)≤1001:=by have:=HOK.out.next;omega
        clear hq htn BX
        go_wp2_with fail
        go_quiet (fail)
        clear c1 x1
        go_upto_region 6 with fail
        have hbq:Below wc.heap.size wc (wc.drewN nq):=⟨rfl,rfl,rfl,Nat.le_refl _,fun _ _=>rfl⟩
        replace HBX:=Lib.hid (HBX.out.kept hbq)
        clear hbq
        generalize wc.drewN nq=wc at HBX ⊢
        go_cut [8] from 57 to 134 (RNew w i c ⟨tk,c.usr,c.dat,ex⟩)
        case first =>
          have q1:wc.cell? ⟨d.g,i*3+1,none⟩=some (.int .i64 (h.next:Nat)):=((HR.out.kept HBX.out.below).cells HI.out).2.2.2.1
          have q2:=HBX.out.box.cell 3 (.string c.usr) rfl
          have q3:=HBX.out.box.cell 4 (.string c.dat) rfl
          have q4:wc.cell? ⟨w.heap.size,5,none⟩=some (.int .i64 (tn:Int)):=HBX.out.box.cell 5 _ (by rw [←HTN.out];rfl)
          have q5:=HBX.out.box.cell 7 (.int .u64 (c.draw:Int)) rfl
          have B1:Below wc.heap.size wc wc.drew:=(Below.refl _ wc).drew
          have w1:IntKind.u64.wrap (h.next:Int)=(h.next:Int):=by rw [IntKind.wrap_u64];omega
          refine region_tree (S:=fun w':World=>w'.cell? ⟨d.g,i*3+1,none⟩=some (.int .i64 (h.next:Nat))∧w'.cell? ⟨w.heap.size,3,none⟩=some (.string c.usr)∧w'.cell? ⟨w.heap.size,4,none⟩=some (.string c.dat)∧w'.cell? ⟨w.heap.size,5,none⟩=some (.int .i64 (tn:Int))∧w'.cell? ⟨w.heap.size,7,none⟩=some (.int .u64 (c.draw:Int)))
            (.take 0 (.take 1 (.take 2 (.take 3 (.take 4 (.take 5 (.take 6 (.take 8 (.take 9 (.take 10 (.take 11 (.take 12 (.take 13 (.take 14 (.two 7 (.two 15 (.take 16 (.one 17 (.one 18 .nil))) 17 (.one 15 (.take 16 (.one 18 .nil)))) 17 (.one 7 (.one 15 (.take 16 (.one 18 .nil)))))))))))))))))))
            (by kernel_rfl) (by kernel_rfl) (by kernel_rfl) (fun _ _ _ dst _ h=>by cases dst<;>exact h) ⟨q1,q2,q3,q4,q5⟩ (fun hH=>?_)
          clear hH
          (repeat (refine tree_take (v:=?_) (by (simp only [ga1,ga2,ga3];exact rfl)) (by rfl) ?_ ?_;rotate_left;(focus (intro wS hS;(try dsimp only at hS);go_split_ands;go_simp;(try with_reducible rfl)));simp only [Act.put,pu1,pu2,pu3]))
          clear w1
          refine tree_two (by (simp only [ga1,ga2,ga3];exact rfl)) (by rfl) (by (simp only [ga1,ga2,ga3];exact rfl)) (by rfl) ?_ ?_
          · intro K hK
            go_simp
            refine (HTok.out _).mono ?_
            rintro e w3 ⟨rfl,hbX⟩
            have B2:Below wc.heap.size wc w3:=B1.trans (hbX.mono B1.size)
            refine hK.out _ _ ⟨cell_keep B2 q1,cell_keep B2 q2,cell_keep B2 q3,cell_keep B2 q4,cell_keep B2 q5⟩ (fun hH=>?_)
            clear hK K hH hbX
            (try simp only [Act.put,pu1,pu2,pu3])
            (repeat (refine tree_take (v:=?_) (by (simp only [ga1,ga2,ga3];exact rfl)) (by rfl) ?_ ?_;rotate_left;(focus (intro wS hS;(try dsimp only at hS);go_split_ands;go_simp;(try with_reducible rfl)));simp only [Act.put,pu1,pu2,pu3]))
            refine tree_two (by (simp only [ga1,ga2,ga3];exact rfl)) (by rfl) (by (simp only [ga1,ga2,ga3];exact rfl)) (by rfl) ?_ ?_
            · intro K hK
              go_simp
              refine (HUnt.out _).mono ?_
              rintro e w4 ⟨rfl,hwX⟩
              obtain rfl:=hwX.symm
              clear hwX
              refine hK.out _ _ ⟨cell_keep B2 q1,cell_keep B2 q2,cell_keep B2 q3,cell_keep B2 q4,cell_keep B2 q5⟩ (fun hH=>?_)
              clear hK K hH
              (try simp only [Act.put,pu1,pu2,pu3])
              (repeat (refine tree_take (v:=?_) (by (simp only [ga1,ga2,ga3];exact rfl)) (by rfl) ?_ ?_;rotate_left;(focus (intro wS hS;(try dsimp only at hS);go_split_ands;go_simp;(try with_reducible rfl)));simp only [Act.put,pu1,pu2,pu3]))
              (refine tree_one (by (simp only [ga1,ga2,ga3];exact rfl)) (by rfl) ?_;intro K hK;go_simp)
              have B3:Below wc.heap.size wc (w3.alloc (.cells zero4 90)):=B2.alloc B2.size _
              have K3:=Blk.new w3 zero4 90
              refine hK.out _ _ ⟨cell_keep B3 q1,cell_keep B3 q2,cell_keep B3 q3,cell_keep B3 q4,cell_keep B3 q5⟩ (fun hH=>?_)
              clear hK K hH
              (try simp only [Act.put,pu1,pu2,pu3])
              (repeat (refine tree_take (v:=?_) (by (simp only [ga1,ga2,ga3];exact rfl)) (by rfl) ?_ ?_;rotate_left;(focus (intro wS hS;(try dsimp only at hS);go_split_ands;go_simp;(try with_reducible rfl)));simp only [Act.put,pu1,pu2,pu3]))
              (refine tree_one (by (simp only [ga1,ga2,ga3];exact rfl)) (by rfl) ?_;intro K hK)
              refine oper_store_blk 90 (Operand.tmp 8) (Operand.tmp 73) rfl w3.heap.size rfl zero4 #[.string tk,.string c.usr,.string c.dat,.int .u64 (ex:Int)] 90 rfl K3 (by exact Tryz.size90) rfl (by simp [Value.oneCell']) ?_
              intro w9 hk9 ho9 hs9
              have BF:Below wc.heap.size wc w9:=B3.trans (ho9.below B3.size (fun k hk=>by rw [hk];exact B2.size))
              refine hK.out _ _ ⟨cell_keep BF q1,cell_keep BF q2,cell_keep BF q3,cell_keep BF q4,cell_keep BF q5⟩ (fun hH=>?_)
              clear hK K hH
              (try simp only [Act.put,pu1,pu2,pu3])
              refine tree_nil ?_
              have hsb:w.heap.size+1<w3.heap.size:=Nat.lt_of_lt_of_le HBX.out.ans.lt B2.size
              have BX9:=HBX.out.kept BF
              clear q1 q2 q3 q4 q5 BF
              go_wp2_with fail
              go_meet
              case rel=>exact ⟨_,rfl,hk9,BX9,hsb⟩
            · intro K hK
              go_simp
              have B3:Below wc.heap.size wc (w3.alloc (.cells zero4 90)):=B2.alloc B2.size _
              have K3:=Blk.new w3 zero4 90
              refine hK.out _ _ ⟨cell_keep B3 q1,cell_keep B3 q2,cell_keep B3 q3,cell_keep B3 q4,cell_keep B3 q5⟩ (fun hH=>?_)
              clear hK K hH
              (try simp only [Act.put,pu1,pu2,pu3])
              (repeat (refine tree_take (v:=?_) (by (simp only [ga1,ga2,ga3];exact rfl)) (by rfl) ?_ ?_;rotate_left;(focus (intro wS hS;(try dsimp only at hS);go_split_ands;go_simp;(try with_reducible rfl)));simp only [Act.put,pu1,pu2,pu3]))
              (refine tree_one (by (simp only [ga1,ga2,ga3];exact rfl)) (by rfl) ?_;intro K hK;go_simp)
              refine (HUnt.out _).mono ?_
              rintro e w4 ⟨rfl,hwX⟩
              obtain rfl:=hwX.symm
              clear hwX
              refine hK.out _ _ ⟨cell_keep B3 q1,cell_keep B3 q2,cell_keep B3 q3,cell_keep B3 q4,cell_keep B3 q5⟩ (fun hH=>?_)
              clear hK K hH
              (try simp only [Act.put,pu1,pu2,pu3])
              (repeat (refine tree_take (v:=?_) (by (simp only [ga1,ga2,ga3];exact rfl)) (by rfl) ?_ ?_;rotate_left;(focus (intro wS hS;(try dsimp only at hS);go_split_ands;go_simp;(try with_reducible rfl)));simp only [Act.put,pu1,pu2,pu3]))
              (refine tree_one (by (simp only [ga1,ga2,ga3];exact rfl)) (by rfl) ?_;intro K hK)
              refine oper_store_blk 90 (Operand.tmp 8) (Operand.tmp 73) rfl w3.heap.size rfl zero4 #[.string tk,.string c.usr,.string c.dat,.int .u64 (ex:Int)] 90 rfl K3 (by exact Tryz.size90) rfl (by simp [Value.oneCell']) ?_
              intro w9 hk9 ho9 hs9
              have BF:Below wc.heap.size wc w9:=B3.trans (ho9.below B3.size (fun k hk=>by rw [hk];exact B2.size))
              refine hK.out _ _ ⟨cell_keep BF q1,cell_keep BF q2,cell_keep BF q3,cell_keep BF q4,cell_keep BF q5⟩ (fun hH=>?_)
              clear hK K hH
              (try simp only [Act.put,pu1,pu2,pu3])
              refine tree_nil ?_
              have hsb:w.heap.size+1<w3.heap.size:=Nat.lt_of_lt_of_le HBX.out.ans.lt B2.size
              have BX9:=HBX.out.kept BF
              clear q1 q2 q3 q4 q5 BF
              go_wp2_with fail
              go_meet
              case rel=>exact ⟨_,rfl,hk9,BX9,hsb⟩
          · intro K hK
            go_simp
            have B2:Below wc.heap.size wc (wc.drew.alloc (.cells zero4 90)):=B1.alloc B1.size _
            have K2:=Blk.new wc.drew zero4 90
            refine hK.out _ _ ⟨cell_keep B2 q1,cell_keep B2 q2,cell_keep B2 q3,cell_keep B2 q4,cell_keep B2 q5⟩ (fun hH=>?_)
            clear hK K hH
            (try simp only [Act.put,pu1,pu2,pu3])
            (repeat (refine tree_take (v:=?_) (by (simp only [ga1,ga2,ga3];exact rfl)) (by rfl) ?_ ?_;rotate_left;(focus (intro wS hS;(try dsimp only at hS);go_split_ands;go_simp;(try with_reducible rfl)));simp only [Act.put,pu1,pu2,pu3]))
            (refine tree_one (by (simp only [ga1,ga2,ga3];exact rfl)) (by rfl) ?_;intro K hK;go_simp)
            refine (HTok.out _).mono ?_
            rintro e w3 ⟨rfl,hbX⟩
            have B3:Below wc.heap.size wc w3:=B2.trans (hbX.mono B2.size)
            have K3:=K2.kept hbX
            refine hK.out _ _ ⟨cell_keep B3 q1,cell_keep B3 q2,cell_keep B3 q3,cell_keep B3 q4,cell_keep B3 q5⟩ (fun hH=>?_)
            clear hK K hH hbX
            (try simp only [Act.put,pu1,pu2,pu3])
            (repeat (refine tree_take (v:=?_) (by (simp only [ga1,ga2,ga3];exact rfl)) (by rfl) ?_ ?_;rotate_left;(focus (intro wS hS;(try dsimp only at hS);go_split_ands;go_simp;(try with_reducible rfl)));simp only [Act.put,pu1,pu2,pu3]))
            (refine tree_one (by (simp only [ga1,ga2,ga3];exact rfl)) (by rfl) ?_;intro K hK;go_simp)
            refine (HUnt.out _).mono ?_
            rintro e w4 ⟨rfl,hwX⟩
            obtain rfl:=hwX.symm
            clear hwX
            refine hK.out _ _ ⟨cell_keep B3 q1,cell_keep B3 q2,cell_keep B3 q3,cell_keep B3 q4,cell_keep B3 q5⟩ (fun hH=>?_)
            clear hK K hH
            (try simp only [Act.put,pu1,pu2,pu3])
            (repeat (refine tree_take (v:=?_) (by (simp only [ga1,ga2,ga3];exact rfl)) (by rfl) ?_ ?_;rotate_left;(focus (intro wS hS;(try dsimp only at hS);go_split_ands;go_simp;(try with_reducible rfl)));simp only [Act.put,pu1,pu2,pu3]))
            (refine tree_one (by (simp only [ga1,ga2,ga3];exact rfl)) (by rfl) ?_;intro K hK)
            refine oper_store_blk 90 (Operand.tmp 8) (Operand.tmp 73) rfl wc.drew.heap.size rfl zero4 #[.string tk,.string c.usr,.string c.dat,.int .u64 (ex:Int)] 90 rfl K3 (by exact Tryz.size90) rfl (by simp [Value.oneCell']) ?_
            intro w9 hk9 ho9 hs9
            have BF:Below wc.heap.size wc w9:=B3.trans (ho9.below B3.size (fun k hk=>by rw [hk];exact B1.size))
            refine hK.out _ _ ⟨cell_keep BF q1,cell_keep BF q2,cell_keep BF q3,cell_keep BF q4,cell_keep BF q5⟩ (fun hH=>?_)
            clear hK K hH
            (try simp only [Act.put,pu1,pu2,pu3])
            refine tree_nil ?_
            have hsb:w.heap.size+1<wc.drew.heap.size:=Nat.lt_of_lt_of_le HBX.out.ans.lt B1.size
            have BX9:=HBX.out.kept BF
            clear q1 q2 q3 q4 q5 BF
            go_wp2_with fail
            go_meet
            case rel=>exact ⟨_,rfl,hk9,BX9,hsb⟩
        case rest =>
          obtain ⟨sb,rfl,hsb,BX,hlt⟩:=hcut
          have q1:wc.cell? ⟨d.g,i*3+1,none⟩=some (.int .i64 (h.next:Nat)):=((HR.out.kept BX.below).cells HI.out).2.2.2.1
          have f1:wc.frozen? ⟨d.g,i*3+1,none⟩=false:=by
            obtain ⟨cur,hb,_⟩:=(HR.out.kept BX.below).hg
            exact hb.frozen _
          have hgl:d.g<w.heap.size:=(HR.out.cells HI.out).2.2.2.2.2
          have hST:=HR.out.set_next HI.out (h.next+1) BX.below
          have hO7:=(Only.refl (fun j=>j=d.g) wc).setCell (b:=d.g) (.inl rfl) (i*3+1) (.int .i64 (((h.next+1:Nat)):Int))
          have hbx7:=BX.turn hO7 (fun k hk _=>by omega)
          have hsb7:=hsb.only hO7 (by omega)
          have e1:(((h.next+1:Nat)):Int)=(h.next:Int)+1:=by omega
          rw [e1] at hST hbx7 hsb7
          clear hO7 e1
          have ST:=Lib.hid hST
          have HBX7:=Lib.hid hbx7
          have HSB7:=Lib.hid hsb7
          have BXB:=Lib.hid BX.below
          clear hST hbx7 hsb7 hsb BX HTok HUnt HBX
          go_upto_block 0 with fail
          clear q1 f1
          generalize wc.setCell ⟨d.g,i*3+1,none⟩ (.int .i64 ((h.next:Int)+1))=W7 at ST HBX7 HSB7 ⊢
          obtain ⟨r1,o1⟩:=ST.out
          have HI1:=Lib.hid (show (L.set i { h with next:=h.next+1 })[i]?=some { h with next:=h.next+1 } by rw [List.getElem?_set_self (List.getElem?_eq_some_iff.1 HI.out).1])
          have HR1:=Lib.hid r1
          have hrow:=r1.hs i _ HI1.out
          simp only at hrow
          obtain ⟨A,cap,hsv⟩:=own_form hrow
          rw [hsv] at hrow
          have HSV:=Lib.hid hsv
          have HROW:=Lib.hid hrow
          have HO1:=Lib.hid o1
          clear r1 hrow hsv o1 ST
          have hcap:h.ses.length≤cap:=own_cap HROW.out
          have hlen:=HOK.out.len
          go_cut [9] from 81 to 134 (fun v W=>∃ j:Nat,j≤h.ses.length∧v=.int .i64 (j:Nat)∧insN ⟨tk,c.usr,c.dat,ex⟩ h.ses=h.ses.take j++⟨tk,c.usr,c.dat,ex⟩::h.ses.drop j∧Below W7.heap.size W7 W)
          case first =>
            go_wp2_with fail
            go_loopw [9] (RPos W7 h.ses tk) (fun v _=>h.ses.length - (intOf v).toNat)
            case atStart=>exact ⟨0,Nat.zero_le _,rfl,by simp,Below.refl _ _⟩
            case round =>
              obtain ⟨j,hj,rfl,hall,hb⟩:=hrel
              have rr:=HR1.out.kept hb
              have c2:wr.cell? ⟨d.g,i*3,none⟩=some (.slice A h.ses.length cap):=by
                rw [←HSV.out];exact (rr.cells HI1.out).2.2.1
              have cs0:wr.cell? ⟨sb,0,none⟩=some (.string tk):=(HSB7.out.kept hb).cell 0 _ rfl
              have w1:IntKind.i64.wrap ((j:Int)+1)=(((j+1:Nat)):Int):=(IntWalk.i64_in _ (by omega)).trans (by omega)
              by_cases hlt2:j<h.ses.length
              · obtain ⟨x,hx⟩:=get_lt hlt2
                obtain ⟨g,cap',e,hgl2,_,y0,y1,y2,y3⟩:=ses_at (own_below HROW.out hb) hx
                cases e
                clear y1 y2 y3 rr
                have jl:(j:Int)<(h.ses.length:Int):=by omega
                by_cases hless:SLt x.tok tk
                · have hq:=less_true hless
                  have HA:=Lib.hid (show ∀ y∈h.ses.take (j+1),SLt y.tok tk from by
                    intro y hy
                    rw [take_snoc hx] at hy
                    rcases List.mem_append.1 hy with hy | hy
                    · exact hall y hy
                    · simp at hy;subst hy;exact hless)
                  clear hless hx hall
                  go_wp2_with fail
                  go_quiet (fail)
                  go_wp2_with fail
                  go_roundw
                  case rel=>exact ⟨j+1,hlt2,rfl,HA.out,⟨hb.os,hb.tape,hb.output,hb.size,hb.block⟩⟩
                  case measure=>simp [intOf];omega
                · have hq:=less_false hless
                  have HINS:=Lib.hid (insN_at (s:=⟨tk,c.usr,c.dat,ex⟩) hj hall (fun y hy=>by rw [hx] at hy;cases hy;exact hless))
                  clear hless hx hall
                  go_wp2_with fail
                  go_quiet (fail)
                  go_wp2_with fail
                  go_meet
                  case rel=>exact ⟨j,hj,rfl,HINS.out,⟨hb.os,hb.tape,hb.output,hb.size,hb.block⟩⟩
              · have hK:j=h.ses.length:=by omega
                have HINS:=Lib.hid (insN_at (s:=⟨tk,c.usr,c.dat,ex⟩) hj hall (fun y hy=>by rw [List.getElem?_eq_none (by omega)] at hy;cases hy))
                have jl:¬ (j:Int)<(h.ses.length:Int):=by omega
                clear hall hK
                go_wp2_with fail
                go_quiet (fail)
                go_wp2_with fail
                go_meet
                case rel=>exact ⟨j,hj,rfl,HINS.out,⟨hb.os,hb.tape,hb.output,hb.size,hb.block⟩⟩
          case rest =>
            obtain ⟨j,hj,rfl,hins,hb8⟩:=hcut
            have HINS:=Lib.hid hins
            clear hins
            go_upto_region 11 with fail
            go_cut [] from 103 to 134 (fun W=>RTo W7 p T (L.set i { h with next:=h.next+1 }) d ((L.set i { h with next:=h.next+1 }).set i { h with next:=h.next+1,ses:=insN ⟨tk,c.usr,c.dat,ex⟩ h.ses }) W ∧
              Blk W w.heap.size #[.int .i64 1,.int .i64 (i:Int),.string c.tok,.string c.usr,.string c.dat,.int .i64 c.ttl,.int .i64 c.frm,.int .u64 (c.draw:Int)] 53∧Blk W (w.heap.size+1) zero14 35∧Blk W sb (sesCells ⟨tk,c.usr,c.dat,ex⟩).toArray 90∧sb<W7.heap.size)
            case first =>
              have q1:wc.cell? ⟨d.g,i*3,none⟩=some (.slice A h.ses.length cap):=by
                rw [←HSV.out];exact ((HR1.out.kept hb8).cells HI1.out).2.2.1
              have kb8:=HSB7.out.kept hb8
              have ow8:=own_below HROW.out hb8
              have q2:=kb8.cell 0 (.string tk) rfl
              have q3:=kb8.cell 1 (.string c.usr) rfl
              have q4:=kb8.cell 2 (.string c.dat) rfl
              have q5:=kb8.cell 3 (.int .u64 (ex:Int)) rfl
              have hct:=cut_to (t:=56) A h.ses.length cap j 4 (by kernel_rfl) (fun w=>by go_simp) (by omega)
              have hcf:=cut_from (t:=56) A h.ses.length cap j 4 (by kernel_rfl) (fun w=>by go_simp) hj
              obtain ⟨i0,ii,iz0,iz1,iz2⟩:=info_parts Tryz.info90
              have l1:((sesArgs h.ses).take (j*4)).length=j*4:=by rw [List.length_take,sesArgs_len];omega
              have l2:((sesArgs h.ses).drop (j*4)).length=(h.ses.length - j)*4:=by rw [List.length_drop,sesArgs_len];omega
              have o1:∀ u∈sesArgs h.ses,u.oneCell'=true:=by
                intro u hu
                unfold sesArgs at hu
                rw [List.mem_flatMap] at hu
                obtain ⟨x,_,hx⟩:=hu
                unfold sesCells at hx
                simp at hx
                rcases hx with rfl | rfl | rfl | rfl<;>rfl
              obtain ⟨N1,hN1⟩:∃ x,(sesArgs h.ses).take (j*4)=x:=⟨_,rfl⟩
              obtain ⟨N2,hN2⟩:∃ x,(sesArgs h.ses).drop (j*4)=x:=⟨_,rfl⟩
              have hx1:∀ W,Below wc.heap.size wc W→(cutOf A 0 j cap 4=.slice none 0 0∧j=0)∨∃ ad c,cutOf A 0 j cap 4=.slice (some ad) j c∧∀ (k:Nat) (u:Value),N1[k]?=some u→W.cell? (ad.add k)=some u:=fun W hb=>by
                rw [←hN1];exact src_to (own_below ow8 hb) hj
              have hx3:∀ W,Below wc.heap.size wc W→(cutOf A j h.ses.length cap 4=.slice none 0 0∧h.ses.length - j=0)∨∃ ad c,cutOf A j h.ses.length cap 4=.slice (some ad) (h.ses.length - j) c∧∀ (k:Nat) (u:Value),N2[k]?=some u→W.cell? (ad.add k)=some u:=fun W hb=>by
                rw [←hN2];exact src_from (own_below ow8 hb) hj
              have hx2:∀ W y,Blk W y #[.string tk,.string c.usr,.string c.dat,.int .u64 (ex:Int)] 90→(Value.slice (some ⟨y,0,none⟩) 1 1=.slice none 0 0∧1=0)∨∃ ad cc,Value.slice (some ⟨y,0,none⟩) 1 1=.slice (some ad) 1 cc∧∀ (k:Nat) (u:Value),(sesCells ⟨tk,c.usr,c.dat,ex⟩)[k]?=some u→W.cell? (ad.add k)=some u:=fun W y hb=>by
                refine .inr ⟨⟨y,0,none⟩,1,rfl,fun k u hk=>?_⟩
                rw [add_at rfl]
                show W.cell? ⟨y,0+k,none⟩=_
                rw [Nat.zero_add]
                exact hb.cell k u (by simpa [sesCells] using hk)
              have n1:∀ u∈N1,u.oneCell'=true:=fun u hu=>o1 u (List.mem_of_mem_take (by rw [hN1];exact hu))
              have n3:∀ u∈N2,u.oneCell'=true:=fun u hu=>o1 u (List.mem_of_mem_drop (by rw [hN2];exact hu))
              have n2:∀ u∈sesCells ⟨tk,c.usr,c.dat,ex⟩,u.oneCell'=true:=by intro u hu;unfold sesCells at hu;simp at hu;rcases hu with rfl | rfl | rfl | rfl<;>rfl
              rw [hN1] at l1
              rw [hN2] at l2
              have B1:Below wc.heap.size wc wc.drew:=(Below.refl _ wc).drew
              refine region_cut (S:=fun w':World=>w'.cell? ⟨d.g,i*3,none⟩=some (.slice A h.ses.length cap)∧w'.cell? ⟨sb,0,none⟩=some (.string tk)∧w'.cell? ⟨sb,1,none⟩=some (.string c.usr)∧w'.cell? ⟨sb,2,none⟩=some (.string c.dat)∧w'.cell? ⟨sb,3,none⟩=some (.int .u64 (ex:Int))) 21
                (.take 0 (.take 2 (.take 3 (.take 4 (.take 5 (.take 6 (.take 7 (.take 9 (.take 12 (.take 13 (.take 14 (.take 15 (.take 16 (.take 17 (.two 1 (.two 8 (.one 10 (.one 11 (.one 18 (.take 19 (.take 20 (.one 21 .nil)))))) 10 (.one 8 (.one 11 (.one 18 (.take 19 (.take 20 (.one 21 .nil))))))) 10 (.one 1 (.one 8 (.one 11 (.one 18 (.take 19 (.take 20 (.one 21 .nil))))))))))))))))))))))
                (by kernel_rfl) (by kernel_rfl) (by kernel_rfl) (fun _ _ _ dst _ h=>by cases dst<;>exact h) ⟨q1,q2,q3,q4,q5⟩ (fun hH=>?_)
              clear hH
              generalize wc.drew=V0 at B1 ⊢
              (repeat (first | (refine cut_free (v:=?_) (by (simp only [ga1,ga2,ga3];exact rfl)) (by rfl) ?_ ?_;rotate_left;(focus (intro wS;go_simp;(try with_reducible rfl);done));simp only [Act.put,pu1,pu2,pu3]) | (refine cut_take (v:=?_) (by kernel_rfl) (by (simp only [ga1,ga2,ga3];exact rfl)) (by rfl) ?_ ?_;rotate_left;(focus (intro wS hS;(try dsimp only at hS);go_split_ands;go_simp;(try with_reducible rfl);done));simp only [Act.put,pu1,pu2,pu3])))
              clear hct hcf
              refine cut_two (by (simp only [ga1,ga2,ga3];exact rfl)) (by rfl) (by (simp only [ga1,ga2,ga3];exact rfl)) (by rfl) ?_ ?_
              · intro K hK
                go_simp
                have B2:Below wc.heap.size wc (V0.alloc (.cells #[] 90)):=B1.alloc B1.size _
                have ow1:(V0.alloc (.cells #[] 90)).ownsRow wc.heap.size 90 4 (.slice (some ⟨V0.heap.size,0,none⟩) 0 0) 0 []:=World.ownsRow_made V0 #[] 0 B1.size (by unfold maxLen;omega) rfl
                refine hK.out _ _ ⟨cell_keep B2 q1,cell_keep B2 q2,cell_keep B2 q3,cell_keep B2 q4,cell_keep B2 q5⟩ (fun hH=>?_)
                clear hK K hH
                (try simp only [Act.put,pu1,pu2,pu3])
                generalize V0.alloc (.cells #[] 90)=V1 at B2 ow1 ⊢
                (repeat (first | (refine cut_free (v:=?_) (by (simp only [ga1,ga2,ga3];exact rfl)) (by rfl) ?_ ?_;rotate_left;(focus (intro wS;go_simp;(try with_reducible rfl);done));simp only [Act.put,pu1,pu2,pu3]) | (refine cut_take (v:=?_) (by kernel_rfl) (by (simp only [ga1,ga2,ga3];exact rfl)) (by rfl) ?_ ?_;rotate_left;(focus (intro wS hS;(try dsimp only at hS);go_split_ands;go_simp;(try with_reducible rfl);done));simp only [Act.put,pu1,pu2,pu3])))
                refine cut_two (by (simp only [ga1,ga2,ga3];exact rfl)) (by rfl) (by (simp only [ga1,ga2,ga3];exact rfl)) (by rfl) ?_ ?_
                · intro K hK
                  refine oper_append_any _ _ 56 rfl wc.heap.size 90 i0 _ 4 56 Tryz.underlying56 ii iz0 iz1 iz2 rfl (by decide) _ _ _ _ rfl ow1 j N1 l1 (hx1 _ B2) n1 (by unfold maxLen;omega) (by omega) B2.size ?_
                  intro g1 cap1 w81 ow2 hgr1 hf1
                  have B3:Below wc.heap.size wc w81:=B2.grown hgr1 B2.size (fun k hk=>(ow1.lt k hk).1)
                  refine hK.out _ _ ⟨cell_keep B3 q1,cell_keep B3 q2,cell_keep B3 q3,cell_keep B3 q4,cell_keep B3 q5⟩ (fun hH=>?_)
                  clear hK K hH
                  (try simp only [Act.put,pu1,pu2,pu3])
                  simp only [Nat.zero_add,List.nil_append] at ow2 ⊢
                  (repeat (first | (refine cut_free (v:=?_) (by (simp only [ga1,ga2,ga3];exact rfl)) (by rfl) ?_ ?_;rotate_left;(focus (intro wS;go_simp;(try with_reducible rfl);done));simp only [Act.put,pu1,pu2,pu3]) | (refine cut_take (v:=?_) (by kernel_rfl) (by (simp only [ga1,ga2,ga3];exact rfl)) (by rfl) ?_ ?_;rotate_left;(focus (intro wS hS;(try dsimp only at hS);go_split_ands;go_simp;(try with_reducible rfl);done));simp only [Act.put,pu1,pu2,pu3])))
                  (refine cut_one (by decide) (by (simp only [ga1,ga2,ga3];exact rfl)) (by rfl) ?_;intro K hK;go_simp)
                  have B4:Below wc.heap.size wc (w81.alloc (.cells #[.string tk,.string c.usr,.string c.dat,.int .u64 (ex:Int)] 90)):=B3.alloc B3.size _
                  have ky:=Blk.new w81 #[.string tk,.string c.usr,.string c.dat,.int .u64 (ex:Int)] 90
                  have hy:wc.heap.size≤w81.heap.size:=B3.size
                  have ow2a:=ow2.alloc (.cells #[.string tk,.string c.usr,.string c.dat,.int .u64 (ex:Int)] 90)
                  refine hK.out _ _ ⟨cell_keep B4 q1,cell_keep B4 q2,cell_keep B4 q3,cell_keep B4 q4,cell_keep B4 q5⟩ (fun hH=>?_)
                  clear hK K hH
                  (try simp only [Act.put,pu1,pu2,pu3])
                  generalize w81.alloc (.cells #[.string tk,.string c.usr,.string c.dat,.int .u64 (ex:Int)] 90)=V2 at B4 ky ow2a ⊢
                  (repeat (first | (refine cut_free (v:=?_) (by (simp only [ga1,ga2,ga3];exact rfl)) (by rfl) ?_ ?_;rotate_left;(focus (intro wS;go_simp;(try with_reducible rfl);done));simp only [Act.put,pu1,pu2,pu3]) | (refine cut_take (v:=?_) (by kernel_rfl) (by (simp only [ga1,ga2,ga3];exact rfl)) (by rfl) ?_ ?_;rotate_left;(focus (intro wS hS;(try dsimp only at hS);go_split_ands;go_simp;(try with_reducible rfl);done));simp only [Act.put,pu1,pu2,pu3])))
                  (refine cut_one (by decide) (by (simp only [ga1,ga2,ga3];exact rfl)) (by rfl) ?_;intro K hK)
                  refine oper_append_any _ _ 56 rfl wc.heap.size 90 i0 _ 4 56 Tryz.underlying56 ii iz0 iz1 iz2 rfl (by decide) _ _ _ _ rfl ow2a 1 (sesCells ⟨tk,c.usr,c.dat,ex⟩) rfl (hx2 _ _ ky) n2 (by unfold maxLen;omega) (by omega) B4.size ?_
                  intro g2 cap2 w82 ow3 hgr2 hf2
                  have B5:Below wc.heap.size wc w82:=B4.grown hgr2 B4.size (fun k hk=>(ow2a.lt k hk).1)
                  refine hK.out _ _ ⟨cell_keep B5 q1,cell_keep B5 q2,cell_keep B5 q3,cell_keep B5 q4,cell_keep B5 q5⟩ (fun hH=>?_)
                  clear hK K hH
                  (try simp only [Act.put,pu1,pu2,pu3])
                  (repeat (first | (refine cut_free (v:=?_) (by (simp only [ga1,ga2,ga3];exact rfl)) (by rfl) ?_ ?_;rotate_left;(focus (intro wS;go_simp;(try with_reducible rfl);done));simp only [Act.put,pu1,pu2,pu3]) | (refine cut_take (v:=?_) (by kernel_rfl) (by (simp only [ga1,ga2,ga3];exact rfl)) (by rfl) ?_ ?_;rotate_left;(focus (intro wS hS;(try dsimp only at hS);go_split_ands;go_simp;(try with_reducible rfl);done));simp only [Act.put,pu1,pu2,pu3])))
                  (refine cut_one (by decide) (by (simp only [ga1,ga2,ga3];exact rfl)) (by rfl) ?_;intro K hK)
                  refine oper_append_any _ _ 56 rfl wc.heap.size 90 i0 _ 4 56 Tryz.underlying56 ii iz0 iz1 iz2 rfl (by decide) _ _ _ _ rfl ow3 (h.ses.length - j) N2 l2 (hx3 _ B5) n3 (by unfold maxLen;omega) (by omega) B5.size ?_
                  intro g3 cap3 w83 ow4 hgr3 hf3
                  have B6:Below wc.heap.size wc w83:=B5.grown hgr3 B5.size (fun k hk=>(ow3.lt k hk).1)
                  refine hK.out _ _ ⟨cell_keep B6 q1,cell_keep B6 q2,cell_keep B6 q3,cell_keep B6 q4,cell_keep B6 q5⟩ (fun hH=>?_)
                  clear hK K hH
                  (try simp only [Act.put,pu1,pu2,pu3])
                  (repeat (first | (refine cut_free (v:=?_) (by (simp only [ga1,ga2,ga3];exact rfl)) (by rfl) ?_ ?_;rotate_left;(focus (intro wS;go_simp;(try with_reducible rfl);done));simp only [Act.put,pu1,pu2,pu3]) | (refine cut_take (v:=?_) (by kernel_rfl) (by (simp only [ga1,ga2,ga3];exact rfl)) (by rfl) ?_ ?_;rotate_left;(focus (intro wS hS;(try dsimp only at hS);go_split_ands;go_simp;(try with_reducible rfl);done));simp only [Act.put,pu1,pu2,pu3])))
                  have f9:w83.frozen? ⟨d.g,i*3,none⟩=false:=by
                    obtain ⟨cur,hbb,_⟩:=((HR1.out.kept hb8).kept B6).hg
                    exact hbb.frozen _
                  have q9:w83.cell? ⟨d.g,i*3,none⟩=some (.slice A h.ses.length cap):=cell_keep B6 q1
                  (refine cut_here (by (simp only [ga1,ga2,ga3];exact rfl)) (by rfl) ?_;intro K hK;go_simp)
                  refine hK.out _ _ ?_
                  refine tree_nil ?_
                  have hlen9:(insN ⟨tk,c.usr,c.dat,ex⟩ h.ses).length=j+1+(h.ses.length - j):=by rw [insN_len];omega
                  have hargs9:sesArgs (insN ⟨tk,c.usr,c.dat,ex⟩ h.ses)=N1++sesCells ⟨tk,c.usr,c.dat,ex⟩++N2:=by
                    rw [HINS.out,←hN1,←hN2,sesArgs_take,sesArgs_drop]
                    unfold sesArgs
                    rw [List.flatMap_append,List.flatMap_cons,List.append_assoc]
                  have B76:Below W7.heap.size W7 w83:=hb8.trans (B6.mono hb8.size)
                  have T9:=HR1.out.set_sv HI1.out (w2:=w83) (S':=insN ⟨tk,c.usr,c.dat,ex⟩ h.ses) B76 (by rw [hlen9,hargs9];exact own_base ow4 (Nat.zero_le _)) (fun k hk=>Nat.le_trans hb8.size (ow4.lt k hk).1)
                  rw [Nat.add_zero] at T9
                  have hsbl:sb<W7.heap.size:=HSB7.out.lt
                  have anl:w.heap.size+1<W7.heap.size:=by omega
                  have KX:Blk (w83.setCell ⟨d.g,i*3,none⟩ (.slice (some ⟨g3,0,none⟩) (j+1+(h.ses.length - j)) cap3)) w.heap.size #[.int .i64 1,.int .i64 (i:Int),.string c.tok,.string c.usr,.string c.dat,.int .i64 c.ttl,.int .i64 c.frm,.int .u64 (c.draw:Int)] 53:=(HBX7.out.1.kept B76).setCell_ne (by omega) _ _
                  have KA:Blk (w83.setCell ⟨d.g,i*3,none⟩ (.slice (some ⟨g3,0,none⟩) (j+1+(h.ses.length - j)) cap3)) (w.heap.size+1) zero14 35:=(HBX7.out.2.kept B76).setCell_ne (by omega) _ _
                  have KS:Blk (w83.setCell ⟨d.g,i*3,none⟩ (.slice (some ⟨g3,0,none⟩) (j+1+(h.ses.length - j)) cap3)) sb (sesCells ⟨tk,c.usr,c.dat,ex⟩).toArray 90:=(HSB7.out.kept B76).setCell_ne (by omega) _ _
                  generalize w83.setCell ⟨d.g,i*3,none⟩ (.slice (some ⟨g3,0,none⟩) (j+1+(h.ses.length - j)) cap3)=W9 at T9 KX KA KS ⊢
                  have HT9:=Lib.hid T9
                  have HKX:=Lib.hid KX
                  have HKA:=Lib.hid KA
                  have HKS:=Lib.hid KS
                  clear T9 KX KA KS hlen9 hargs9 f9 q9 B6 hx1 hx2 hx3 n1 n2 n3 l1 l2 o1 hN1 hN2 q1 q2 q3 q4 q5 iz0 iz1 iz2 ii
                  go_wp2_with fail
                  go_meet
                  case rel=>exact ⟨HT9.out,HKX.out,HKA.out,HKS.out,hsbl⟩
                · intro K hK
                  go_simp
                  have B3:Below wc.heap.size wc (V1.alloc (.cells #[.string tk,.string c.usr,.string c.dat,.int .u64 (ex:Int)] 90)):=B2.alloc B2.size _
                  have ky:=Blk.new V1 #[.string tk,.string c.usr,.string c.dat,.int .u64 (ex:Int)] 90
                  have hy:wc.heap.size≤V1.heap.size:=B2.size
                  have ow1z:=ow1
                  have ow1a:=ow1.alloc (.cells #[.string tk,.string c.usr,.string c.dat,.int .u64 (ex:Int)] 90)
                  refine hK.out _ _ ⟨cell_keep B3 q1,cell_keep B3 q2,cell_keep B3 q3,cell_keep B3 q4,cell_keep B3 q5⟩ (fun hH=>?_)
                  clear hK K hH
                  (try simp only [Act.put,pu1,pu2,pu3])
                  generalize V1.alloc (.cells #[.string tk,.string c.usr,.string c.dat,.int .u64 (ex:Int)] 90)=V2 at B3 ky ow1a ⊢
                  (repeat (first | (refine cut_free (v:=?_) (by (simp only [ga1,ga2,ga3];exact rfl)) (by rfl) ?_ ?_;rotate_left;(focus (intro wS;go_simp;(try with_reducible rfl);done));simp only [Act.put,pu1,pu2,pu3]) | (refine cut_take (v:=?_) (by kernel_rfl) (by (simp only [ga1,ga2,ga3];exact rfl)) (by rfl) ?_ ?_;rotate_left;(focus (intro wS hS;(try dsimp only at hS);go_split_ands;go_simp;(try with_reducible rfl);done));simp only [Act.put,pu1,pu2,pu3])))
                  (refine cut_one (by decide) (by (simp only [ga1,ga2,ga3];exact rfl)) (by rfl) ?_;intro K hK)
                  refine oper_append_any _ _ 56 rfl wc.heap.size 90 i0 _ 4 56 Tryz.underlying56 ii iz0 iz1 iz2 rfl (by decide) _ _ _ _ rfl ow1a j N1 l1 (hx1 _ B3) n1 (by unfold maxLen;omega) (by omega) B3.size ?_
                  intro g1 cap1 w81 ow2 hgr1 hf1
                  have B4:Below wc.heap.size wc w81:=B3.grown hgr1 B3.size (fun k hk=>(ow1a.lt k hk).1)
                  refine hK.out _ _ ⟨cell_keep B4 q1,cell_keep B4 q2,cell_keep B4 q3,cell_keep B4 q4,cell_keep B4 q5⟩ (fun hH=>?_)
                  clear hK K hH
                  (try simp only [Act.put,pu1,pu2,pu3])
                  simp only [Nat.zero_add,List.nil_append] at ow2 ⊢
                  have ky2:Blk w81 V1.heap.size #[.string tk,.string c.usr,.string c.dat,.int .u64 (ex:Int)] 90:=(hgr1.block V1.heap.size ky.lt (fun e=>by have e':=Option.some.inj e;have:=(ow1z.lt V0.heap.size rfl).2;omega)).trans ky
                  (repeat (first | (refine cut_free (v:=?_) (by (simp only [ga1,ga2,ga3];exact rfl)) (by rfl) ?_ ?_;rotate_left;(focus (intro wS;go_simp;(try with_reducible rfl);done));simp only [Act.put,pu1,pu2,pu3]) | (refine cut_take (v:=?_) (by kernel_rfl) (by (simp only [ga1,ga2,ga3];exact rfl)) (by rfl) ?_ ?_;rotate_left;(focus (intro wS hS;(try dsimp only at hS);go_split_ands;go_simp;(try with_reducible rfl);done));simp only [Act.put,pu1,pu2,pu3])))
                  (refine cut_one (by decide) (by (simp only [ga1,ga2,ga3];exact rfl)) (by rfl) ?_;intro K hK)
                  refine oper_append_any _ _ 56 rfl wc.heap.size 90 i0 _ 4 56 Tryz.underlying56 ii iz0 iz1 iz2 rfl (by decide) _ _ _ _ rfl ow2 1 (sesCells ⟨tk,c.usr,c.dat,ex⟩) rfl (hx2 _ _ ky2) n2 (by unfold maxLen;omega) (by omega) B4.size ?_
                  intro g2 cap2 w82 ow3 hgr2 hf2
                  have B5:Below wc.heap.size wc w82:=B4.grown hgr2 B4.size (fun k hk=>(ow2.lt k hk).1)
                  refine hK.out _ _ ⟨cell_keep B5 q1,cell_keep B5 q2,cell_keep B5 q3,cell_keep B5 q4,cell_keep B5 q5⟩ (fun hH=>?_)
                  clear hK K hH
                  (try simp only [Act.put,pu1,pu2,pu3])
                  (repeat (first | (refine cut_free (v:=?_) (by (simp only [ga1,ga2,ga3];exact rfl)) (by rfl) ?_ ?_;rotate_left;(focus (intro wS;go_simp;(try with_reducible rfl);done));simp only [Act.put,pu1,pu2,pu3]) | (refine cut_take (v:=?_) (by kernel_rfl) (by (simp only [ga1,ga2,ga3];exact rfl)) (by rfl) ?_ ?_;rotate_left;(focus (intro wS hS;(try dsimp only at hS);go_split_ands;go_simp;(try with_reducible rfl);done));simp only [Act.put,pu1,pu2,pu3])))
                  (refine cut_one (by decide) (by (simp only [ga1,ga2,ga3];exact rfl)) (by rfl) ?_;intro K hK)
                  refine oper_append_any _ _ 56 rfl wc.heap.size 90 i0 _ 4 56 Tryz.underlying56 ii iz0 iz1 iz2 rfl (by decide) _ _ _ _ rfl ow3 (h.ses.length - j) N2 l2 (hx3 _ B5) n3 (by unfold maxLen;omega) (by omega) B5.size ?_
                  intro g3 cap3 w83 ow4 hgr3 hf3
                  have B6:Below wc.heap.size wc w83:=B5.grown hgr3 B5.size (fun k hk=>(ow3.lt k hk).1)
                  refine hK.out _ _ ⟨cell_keep B6 q1,cell_keep B6 q2,cell_keep B6 q3,cell_keep B6 q4,cell_keep B6 q5⟩ (fun hH=>?_)
                  clear hK K hH
                  (try simp only [Act.put,pu1,pu2,pu3])
                  (repeat (first | (refine cut_free (v:=?_) (by (simp only [ga1,ga2,ga3];exact rfl)) (by rfl) ?_ ?_;rotate_left;(focus (intro wS;go_simp;(try with_reducible rfl);done));simp only [Act.put,pu1,pu2,pu3]) | (refine cut_take (v:=?_) (by kernel_rfl) (by (simp only [ga1,ga2,ga3];exact rfl)) (by rfl) ?_ ?_;rotate_left;(focus (intro wS hS;(try dsimp only at hS);go_split_ands;go_simp;(try with_reducible rfl);done));simp only [Act.put,pu1,pu2,pu3])))
                  have f9:w83.frozen? ⟨d.g,i*3,none⟩=false:=by
                    obtain ⟨cur,hbb,_⟩:=((HR1.out.kept hb8).kept B6).hg
                    exact hbb.frozen _
                  have q9:w83.cell? ⟨d.g,i*3,none⟩=some (.slice A h.ses.length cap):=cell_keep B6 q1
                  (refine cut_here (by (simp only [ga1,ga2,ga3];exact rfl)) (by rfl) ?_;intro K hK;go_simp)
                  refine hK.out _ _ ?_
                  refine tree_nil ?_
                  have hlen9:(insN ⟨tk,c.usr,c.dat,ex⟩ h.ses).length=j+1+(h.ses.length - j):=by rw [insN_len];omega
                  have hargs9:sesArgs (insN ⟨tk,c.usr,c.dat,ex⟩ h.ses)=N1++sesCells ⟨tk,c.usr,c.dat,ex⟩++N2:=by
                    rw [HINS.out,←hN1,←hN2,sesArgs_take,sesArgs_drop]
                    unfold sesArgs
                    rw [List.flatMap_append,List.flatMap_cons,List.append_assoc]
                  have B76:Below W7.heap.size W7 w83:=hb8.trans (B6.mono hb8.size)
                  have T9:=HR1.out.set_sv HI1.out (w2:=w83) (S':=insN ⟨tk,c.usr,c.dat,ex⟩ h.ses) B76 (by rw [hlen9,hargs9];exact own_base ow4 (Nat.zero_le _)) (fun k hk=>Nat.le_trans hb8.size (ow4.lt k hk).1)
                  rw [Nat.add_zero] at T9
                  have hsbl:sb<W7.heap.size:=HSB7.out.lt
                  have anl:w.heap.size+1<W7.heap.size:=by omega
                  have KX:Blk (w83.setCell ⟨d.g,i*3,none⟩ (.slice (some ⟨g3,0,none⟩) (j+1+(h.ses.length - j)) cap3)) w.heap.size #[.int .i64 1,.int .i64 (i:Int),.string c.tok,.string c.usr,.string c.dat,.int .i64 c.ttl,.int .i64 c.frm,.int .u64 (c.draw:Int)] 53:=(HBX7.out.1.kept B76).setCell_ne (by omega) _ _
                  have KA:Blk (w83.setCell ⟨d.g,i*3,none⟩ (.slice (some ⟨g3,0,none⟩) (j+1+(h.ses.length - j)) cap3)) (w.heap.size+1) zero14 35:=(HBX7.out.2.kept B76).setCell_ne (by omega) _ _
                  have KS:Blk (w83.setCell ⟨d.g,i*3,none⟩ (.slice (some ⟨g3,0,none⟩) (j+1+(h.ses.length - j)) cap3)) sb (sesCells ⟨tk,c.usr,c.dat,ex⟩).toArray 90:=(HSB7.out.kept B76).setCell_ne (by omega) _ _
                  generalize w83.setCell ⟨d.g,i*3,none⟩ (.slice (some ⟨g3,0,none⟩) (j+1+(h.ses.length - j)) cap3)=W9 at T9 KX KA KS ⊢
                  have HT9:=Lib.hid T9
                  have HKX:=Lib.hid KX
                  have HKA:=Lib.hid KA
                  have HKS:=Lib.hid KS
                  clear T9 KX KA KS hlen9 hargs9 f9 q9 B6 hx1 hx2 hx3 n1 n2 n3 l1 l2 o1 hN1 hN2 q1 q2 q3 q4 q5 iz0 iz1 iz2 ii
                  go_wp2_with fail
                  go_meet
                  case rel=>exact ⟨HT9.out,HKX.out,HKA.out,HKS.out,hsbl⟩
              · intro K hK
                go_simp
                have B2:Below wc.heap.size wc (V0.alloc (.cells #[.string tk,.string c.usr,.string c.dat,.int .u64 (ex:Int)] 90)):=B1.alloc B1.size _
                have ky:=Blk.new V0 #[.string tk,.string c.usr,.string c.dat,.int .u64 (ex:Int)] 90
                have hy:wc.heap.size≤V0.heap.size:=B1.size
                have hz:V0.heap.size<V0.heap.size+1:=by omega
                refine hK.out _ _ ⟨cell_keep B2 q1,cell_keep B2 q2,cell_keep B2 q3,cell_keep B2 q4,cell_keep B2 q5⟩ (fun hH=>?_)
                clear hK K hH
                (try simp only [Act.put,pu1,pu2,pu3])
                generalize V0.alloc (.cells #[.string tk,.string c.usr,.string c.dat,.int .u64 (ex:Int)] 90)=V1 at B2 ky hz ⊢
                have kyl:=ky.lt
                (repeat (first | (refine cut_free (v:=?_) (by (simp only [ga1,ga2,ga3];exact rfl)) (by rfl) ?_ ?_;rotate_left;(focus (intro wS;go_simp;(try with_reducible rfl);done));simp only [Act.put,pu1,pu2,pu3]) | (refine cut_take (v:=?_) (by kernel_rfl) (by (simp only [ga1,ga2,ga3];exact rfl)) (by rfl) ?_ ?_;rotate_left;(focus (intro wS hS;(try dsimp only at hS);go_split_ands;go_simp;(try with_reducible rfl);done));simp only [Act.put,pu1,pu2,pu3])))
                (refine cut_one (by decide) (by (simp only [ga1,ga2,ga3];exact rfl)) (by rfl) ?_;intro K hK;go_simp)
                have ky1:=ky.alloc (.cells #[] 90)
                have B3:Below wc.heap.size wc (V1.alloc (.cells #[] 90)):=B2.alloc B2.size _
                have ow1:(V1.alloc (.cells #[] 90)).ownsRow wc.heap.size 90 4 (.slice (some ⟨V1.heap.size,0,none⟩) 0 0) 0 []:=World.ownsRow_made V1 #[] 0 B2.size (by unfold maxLen;omega) rfl
                refine hK.out _ _ ⟨cell_keep B3 q1,cell_keep B3 q2,cell_keep B3 q3,cell_keep B3 q4,cell_keep B3 q5⟩ (fun hH=>?_)
                clear hK K hH
                (try simp only [Act.put,pu1,pu2,pu3])
                generalize V1.alloc (.cells #[] 90)=V2 at B3 ow1 ky1 ⊢
                (repeat (first | (refine cut_free (v:=?_) (by (simp only [ga1,ga2,ga3];exact rfl)) (by rfl) ?_ ?_;rotate_left;(focus (intro wS;go_simp;(try with_reducible rfl);done));simp only [Act.put,pu1,pu2,pu3]) | (refine cut_take (v:=?_) (by kernel_rfl) (by (simp only [ga1,ga2,ga3];exact rfl)) (by rfl) ?_ ?_;rotate_left;(focus (intro wS hS;(try dsimp only at hS);go_split_ands;go_simp;(try with_reducible rfl);done));simp only [Act.put,pu1,pu2,pu3])))
                (refine cut_one (by decide) (by (simp only [ga1,ga2,ga3];exact rfl)) (by rfl) ?_;intro K hK)
                refine oper_append_any _ _ 56 rfl wc.heap.size 90 i0 _ 4 56 Tryz.underlying56 ii iz0 iz1 iz2 rfl (by decide) _ _ _ _ rfl ow1 j N1 l1 (hx1 _ B3) n1 (by unfold maxLen;omega) (by omega) B3.size ?_
                intro g1 cap1 w81 ow2 hgr1 hf1
                have B4:Below wc.heap.size wc w81:=B3.grown hgr1 B3.size (fun k hk=>(ow1.lt k hk).1)
                refine hK.out _ _ ⟨cell_keep B4 q1,cell_keep B4 q2,cell_keep B4 q3,cell_keep B4 q4,cell_keep B4 q5⟩ (fun hH=>?_)
                clear hK K hH
                (try simp only [Act.put,pu1,pu2,pu3])
                simp only [Nat.zero_add,List.nil_append] at ow2 ⊢
                have ky2:Blk w81 V0.heap.size #[.string tk,.string c.usr,.string c.dat,.int .u64 (ex:Int)] 90:=(hgr1.block V0.heap.size ky1.lt (fun e=>by have e':=Option.some.inj e;omega)).trans ky1
                (repeat (first | (refine cut_free (v:=?_) (by (simp only [ga1,ga2,ga3];exact rfl)) (by rfl) ?_ ?_;rotate_left;(focus (intro wS;go_simp;(try with_reducible rfl);done));simp only [Act.put,pu1,pu2,pu3]) | (refine cut_take (v:=?_) (by kernel_rfl) (by (simp only [ga1,ga2,ga3];exact rfl)) (by rfl) ?_ ?_;rotate_left;(focus (intro wS hS;(try dsimp only at hS);go_split_ands;go_simp;(try with_reducible rfl);done));simp only [Act.put,pu1,pu2,pu3])))
                (refine cut_one (by decide) (by (simp only [ga1,ga2,ga3];exact rfl)) (by rfl) ?_;intro K hK)
                refine oper_append_any _ _ 56 rfl wc.heap.size 90 i0 _ 4 56 Tryz.underlying56 ii iz0 iz1 iz2 rfl (by decide) _ _ _ _ rfl ow2 1 (sesCells ⟨tk,c.usr,c.dat,ex⟩) rfl (hx2 _ _ ky2) n2 (by unfold maxLen;omega) (by omega) B4.size ?_
                intro g2 cap2 w82 ow3 hgr2 hf2
                have B5:Below wc.heap.size wc w82:=B4.grown hgr2 B4.size (fun k hk=>(ow2.lt k hk).1)
                refine hK.out _ _ ⟨cell_keep B5 q1,cell_keep B5 q2,cell_keep B5 q3,cell_keep B5 q4,cell_keep B5 q5⟩ (fun hH=>?_)
                clear hK K hH
                (try simp only [Act.put,pu1,pu2,pu3])
                (repeat (first | (refine cut_free (v:=?_) (by (simp only [ga1,ga2,ga3];exact rfl)) (by rfl) ?_ ?_;rotate_left;(focus (intro wS;go_simp;(try with_reducible rfl);done));simp only [Act.put,pu1,pu2,pu3]) | (refine cut_take (v:=?_) (by kernel_rfl) (by (simp only [ga1,ga2,ga3];exact rfl)) (by rfl) ?_ ?_;rotate_left;(focus (intro wS hS;(try dsimp only at hS);go_split_ands;go_simp;(try with_reducible rfl);done));simp only [Act.put,pu1,pu2,pu3])))
                (refine cut_one (by decide) (by (simp only [ga1,ga2,ga3];exact rfl)) (by rfl) ?_;intro K hK)
                refine oper_append_any _ _ 56 rfl wc.heap.size 90 i0 _ 4 56 Tryz.underlying56 ii iz0 iz1 iz2 rfl (by decide) _ _ _ _ rfl ow3 (h.ses.length - j) N2 l2 (hx3 _ B5) n3 (by unfold maxLen;omega) (by omega) B5.size ?_
                intro g3 cap3 w83 ow4 hgr3 hf3
                have B6:Below wc.heap.size wc w83:=B5.grown hgr3 B5.size (fun k hk=>(ow3.lt k hk).1)
                refine hK.out _ _ ⟨cell_keep B6 q1,cell_keep B6 q2,cell_keep B6 q3,cell_keep B6 q4,cell_keep B6 q5⟩ (fun hH=>?_)
                clear hK K hH
                (try simp only [Act.put,pu1,pu2,pu3])
                (repeat (first | (refine cut_free (v:=?_) (by (simp only [ga1,ga2,ga3];exact rfl)) (by rfl) ?_ ?_;rotate_left;(focus (intro wS;go_simp;(try with_reducible rfl);done));simp only [Act.put,pu1,pu2,pu3]) | (refine cut_take (v:=?_) (by kernel_rfl) (by (simp only [ga1,ga2,ga3];exact rfl)) (by rfl) ?_ ?_;rotate_left;(focus (intro wS hS;(try dsimp only at hS);go_split_ands;go_simp;(try with_reducible rfl);done));simp only [Act.put,pu1,pu2,pu3])))
                have f9:w83.frozen? ⟨d.g,i*3,none⟩=false:=by
                  obtain ⟨cur,hbb,_⟩:=((HR1.out.kept hb8).kept B6).hg
                  exact hbb.frozen _
                have q9:w83.cell? ⟨d.g,i*3,none⟩=some (.slice A h.ses.length cap):=cell_keep B6 q1
                (refine cut_here (by (simp only [ga1,ga2,ga3];exact rfl)) (by rfl) ?_;intro K hK;go_simp)
                refine hK.out _ _ ?_
                refine tree_nil ?_
                have hlen9:(insN ⟨tk,c.usr,c.dat,ex⟩ h.ses).length=j+1+(h.ses.length - j):=by rw [insN_len];omega
                have hargs9:sesArgs (insN ⟨tk,c.usr,c.dat,ex⟩ h.ses)=N1++sesCells ⟨tk,c.usr,c.dat,ex⟩++N2:=by
                  rw [HINS.out,←hN1,←hN2,sesArgs_take,sesArgs_drop]
                  unfold sesArgs
                  rw [List.flatMap_append,List.flatMap_cons,List.append_assoc]
                have B76:Below W7.heap.size W7 w83:=hb8.trans (B6.mono hb8.size)
                have T9:=HR1.out.set_sv HI1.out (w2:=w83) (S':=insN ⟨tk,c.usr,c.dat,ex⟩ h.ses) B76 (by rw [hlen9,hargs9];exact own_base ow4 (Nat.zero_le _)) (fun k hk=>Nat.le_trans hb8.size (ow4.lt k hk).1)
                rw [Nat.add_zero] at T9
                have hsbl:sb<W7.heap.size:=HSB7.out.lt
                have anl:w.heap.size+1<W7.heap.size:=by omega
                have KX:Blk (w83.setCell ⟨d.g,i*3,none⟩ (.slice (some ⟨g3,0,none⟩) (j+1+(h.ses.length - j)) cap3)) w.heap.size #[.int .i64 1,.int .i64 (i:Int),.string c.tok,.string c.usr,.string c.dat,.int .i64 c.ttl,.int .i64 c.frm,.int .u64 (c.draw:Int)] 53:=(HBX7.out.1.kept B76).setCell_ne (by omega) _ _
                have KA:Blk (w83.setCell ⟨d.g,i*3,none⟩ (.slice (some ⟨g3,0,none⟩) (j+1+(h.ses.length - j)) cap3)) (w.heap.size+1) zero14 35:=(HBX7.out.2.kept B76).setCell_ne (by omega) _ _
                have KS:Blk (w83.setCell ⟨d.g,i*3,none⟩ (.slice (some ⟨g3,0,none⟩) (j+1+(h.ses.length - j)) cap3)) sb (sesCells ⟨tk,c.usr,c.dat,ex⟩).toArray 90:=(HSB7.out.kept B76).setCell_ne (by omega) _ _
                generalize w83.setCell ⟨d.g,i*3,none⟩ (.slice (some ⟨g3,0,none⟩) (j+1+(h.ses.length - j)) cap3)=W9 at T9 KX KA KS ⊢
                have HT9:=Lib.hid T9
                have HKX:=Lib.hid KX
                have HKA:=Lib.hid KA
                have HKS:=Lib.hid KS
                clear T9 KX KA KS hlen9 hargs9 f9 q9 B6 hx1 hx2 hx3 n1 n2 n3 l1 l2 o1 hN1 hN2 q1 q2 q3 q4 q5 iz0 iz1 iz2 ii
                go_wp2_with fail
                go_meet
                case rel=>exact ⟨HT9.out,HKX.out,HKA.out,HKS.out,hsbl⟩
            case rest =>
              obtain ⟨HT,KX,KA,KS,hsbl⟩:=hcut
              have x0:=KX.cell 0 _ rfl
              have x1:=KX.cell 1 _ rfl
              have x2:=KX.cell 2 _ rfl
              have x3:=KX.cell 3 _ rfl
              have x4:=KX.cell 4 _ rfl
              have x5:=KX.cell 5 _ rfl
              have x6:=KX.cell 6 _ rfl
              have x7:=KX.cell 7 _ rfl
              have y0:=KS.cell 0 (.string tk) rfl
              obtain ⟨d2,hg2,r2,o2,l2,k2⟩:=HT
              have hL1:(L.set i { h with next:=h.next+1 }).length=L.length:=by rw [List.length_set]
              rw [hL1] at o2 l2 k2
              have hno:∀ k,w.heap.size≤k→k<W7.heap.size→¬ d2.own L.length k:=by
                intro k hk1 hk2 ho
                rcases k2 k ho with h' | h'
                · have:=HR.out.own_lt h';omega
                · omega
              have HT2:=Lib.hid (show RTo w p T L d ((L.set i { h with next:=h.next+1 }).set i { h with next:=h.next+1,ses:=insN ⟨tk,c.usr,c.dat,ex⟩ h.ses }) wc from
                RTo.trans rfl HO1.out hL1 (fun k hk=>.inl hk) ⟨d2,hg2,r2,by rw [hL1];exact o2,by rw [hL1];exact l2,by rw [hL1];exact k2⟩)
              have hi2:((L.set i { h with next:=h.next+1 }).set i { h with next:=h.next+1,ses:=insN ⟨tk,c.usr,c.dat,ex⟩ h.ses })[i]?=some { h with next:=h.next+1,ses:=insN ⟨tk,c.usr,c.dat,ex⟩ h.ses }:=by
                rw [List.getElem?_set_self (by rw [hL1];exact (List.getElem?_eq_some_iff.1 HI.out).1)]
              have HA:=Lib.hid (ref_audit r2 hi2 (by have:=HOK.out.ents;show h.ents.length≤_;omega) ⟨1,(i:Int),c.tok,c.usr,c.dat,c.ttl,c.frm,c.draw⟩ rfl 1 rfl now tk)
              have HKA:=Lib.hid KA
              have HKS:=Lib.hid KS
              have HNO:=Lib.hid hno
              have HL2:=Lib.hid l2
              have K2:=Lib.hid (And.intro k2 (And.intro hg2 o2))
              clear KX KA KS hno r2 o2 l2 k2 hg2 hL1 hi2
              go_wp2_with fail
              refine HA.out.mono ?_
              rintro e w10 ⟨rfl,HT3,_⟩
              obtain ⟨d3,hg3,r3,o3,l3,k3⟩:=HT3
              rw [HL2.out] at o3 l3 k3
              have anl:w.heap.size+1<W7.heap.size:=by omega
              have KA3:=HKA.out.only o3 (HNO.out _ (by omega) anl)
              have KS3:=HKS.out.only o3 (HNO.out _ (by omega) hsbl)
              have z0:=KS3.cell 0 (.string tk) rfl
              have z3:=KS3.cell 3 (.int .u64 (ex:Int)) rfl
              have HT4:=Lib.hid (And.intro hg3 (And.intro r3 (And.intro o3 (And.intro l3 k3))))
              have HKA3:=Lib.hid KA3
              clear x0 x1 x2 x3 x4 x5 x6 x7 y0 KS3 KA3 hg3 r3 o3 l3 k3 HA
              go_wp2_with (refine wpList_store_blk rfl 35 (Operand.tmp 6) (Operand.tmp 134) rfl (w.heap.size+1) rfl zero14 (ansArr ⟨201,⟨#[]⟩,tk,⟨#[]⟩,⟨#[]⟩,(ex:Int),0,.slice none 0 0,.slice none 0 0,⟨#[]⟩,0,0,0,0⟩) 35 rfl HKA3.out (by exact Tryz.size35) rfl (by simp [ansArr,Value.oneCell']) ?_;intro w11 hk11 ho11 hs11)
              refine body_cell rfl rfl rfl hk11 Tryz.underlying35 rfl (by exact Tryz.size35) ?_
              obtain ⟨hg3,r3,o3,l3,k3⟩:=HT4.out
              obtain ⟨hk2,hg2,ho2⟩:=K2.out
              have hT3:RTo w p T L d (((L.set i { h with next:=h.next+1 }).set i { h with next:=h.next+1,ses:=insN ⟨tk,c.usr,c.dat,ex⟩ h.ses }).set i { h with next:=h.next+1,ses:=insN ⟨tk,c.usr,c.dat,ex⟩ h.ses,ents:=noteN h.ents 1 now tk }) w10:=by
                have hW7:=HO1.out.size
                refine RTo.trans (L1:=((L.set i { h with next:=h.next+1 }).set i { h with next:=h.next+1,ses:=insN ⟨tk,c.usr,c.dat,ex⟩ h.ses })) (d1:=d2) hg2 ?_ HL2.out ?_ ⟨d3,hg3,r3,by rw [HL2.out];exact o3,by rw [HL2.out];exact l3,by rw [HL2.out];exact k3⟩
                · exact ⟨ho2.os.trans HO1.out.os,ho2.tape.trans HO1.out.tape,ho2.output.trans HO1.out.output,Nat.le_trans HO1.out.size ho2.size,fun k hk hn=>(ho2.block k (Nat.lt_of_lt_of_le hk HO1.out.size) hn).trans (HO1.out.block k hk hn)⟩
                · intro k hk
                  rcases hk2 k hk with h' | h'
                  · exact .inl h'
                  · exact .inr (by omega)
              rw [List.set_set,List.set_set] at hT3
              have hfin:=RDo.of (a:={ status:=201,tok:=tk,exp:=ex }) (hT3.store (ab:=w.heap.size+1) (by omega) ⟨_,_,HKA3.out⟩ ho11) rfl rfl
              rw [hF.out]
              exact hfin
end Go.Proofs.YtmdgeknnhckgfaaGreatDoor
