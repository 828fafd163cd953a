/-
  Parts of the proof of the law LinModel: MTch, MRvk, MTak.
-/
import Derived.Test.YtmdgeknnhckgfaaGreatDoorS19
import Derived.Test.YtmdgeknnhckgfaaGreatDoorS28
set_option linter.unusedSimpArgs false
set_option linter.unusedVariables false
namespace Go.Proofs.YtmdgeknnhckgfaaGreatDoor
open Go Go.RowKit
variable {w w':World} {p N:Nat} {L:List Hs} {d:MD}
set_option maxRecDepth 100000 in
set_option maxHeartbeats 4000000 in
theorem mod_touch (r:MIs w p N L d) {i:Nat} {h:Hs} (hi:L[i]?=some h) (hs:Sorted h.ses) (hsm:h.ents.length≤1000) (hN:N<1000) (c:Cl) (hc:c.Ok) (hz:∀ s∈h.ses,s.tok.size≤900000) (hkd:c.kind=3) (now:Nat) (hnow:now<18446744073709551616) :
    Calls Tryz.prog 96 #[.pointer (some ⟨d.hb i,0,none⟩),clV c,.int .u64 (now:Nat)] w (MDo w p N L d i ((touchN h c now).1,L.set i (touchN h c now).2)):=by
  have HR:=Lib.hid r
  have HI:=Lib.hid hi
  have t1:=two_blocks w 3 c.ten c.tok c.usr c.dat c.ttl c.frm c.draw
  have bx0:Box w _ 3 c.ten c.tok c.usr c.dat c.ttl c.frm c.draw:=⟨t1.1,t1.2.1,t1.2.2⟩
  have B0:=Lib.hid bx0
  have hset:L.set i h=L:=set_self hi
  have HTl:=Lib.hid (mod_ttl c.ttl)
  unfold clV
  rw [hkd]
  cases htt:ttlN c.ttl with
  | false =>
    have hF:=Lib.hid (show ((touchN h c now).1,L.set i (touchN h c now).2)=(badA 400,L) by unfold touchN;rw [if_pos htt];simp only;rw [hset])
    rw [htt] at HTl
    have BX2:=Lib.hid bx0
    clear t1 bx0 r hi hs hset htt hz
    go_enter Tryz.func96,Tryz.ntmps96
    go_wp2_with fail
    refine (HTl.out _).mono ?_
    rintro e w1 ⟨rfl,hu⟩
    obtain rfl:=hu.symm
    clear hu
    go_wp2_with fail
    refine (mod_refuse 400 _).mono ?_
    rintro e w9 ⟨rfl,hb9⟩
    have bx9:=BX2.out.kept hb9
    go_wp2_with (refine wpList_store_blk rfl 35 (Operand.tmp 6) (Operand.tmp 13) rfl (w.heap.size+1) rfl zero14 _ 35 rfl bx9.ans (by exact Tryz.size35) rfl (by simp [ansArr,Ans.zero,Value.oneCell']) ?_;intro w10 hk10 ho10 hs10)
    refine body_cell rfl rfl rfl hk10 Tryz.underlying35 rfl (by exact Tryz.size35) ?_
    have hbx:Below w.heap.size w w10:=bx9.below.trans (ho10.below bx9.below.size (fun k hk=>by rw [hk];exact Nat.le_succ _))
    rw [anV_bad 400 (refN 400) rfl,hF.out]
    exact MDo.same HR.out i hbx (AnM.plain _ _ rfl rfl)
  | true =>
    rw [htt] at HTl
    have HFd:=Lib.hid (mod_find (r.kept bx0.below) hi c.tok hc.tok now)
    have hfp:=find_plain hs c.tok now
    obtain ⟨s,hgs⟩:∃ s,getS h.ses c.tok=s:=⟨_,rfl⟩
    rcases hfp with ⟨h1,h2⟩ | ⟨h1,h2⟩
    · have hF:=Lib.hid (show ((touchN h c now).1,L.set i (touchN h c now).2)=(badA 404,L) by unfold touchN;rw [if_neg (by rw [htt];simp),h1];simp only;rw [hset])
      rw [h2,hgs] at HFd
      clear h1 h2 hgs hset t1 bx0 r hi hs htt hz
      go_enter Tryz.func96,Tryz.ntmps96
      go_wp2_with fail
      refine (HTl.out _).mono ?_
      rintro e w0 ⟨rfl,hu⟩
      obtain rfl:=hu.symm
      clear hu
      go_wp2_with fail
      refine HFd.out.mono ?_
      rintro e w1 ⟨rfl,hb1⟩
      have BX:=Lib.hid (B0.out.kept hb1)
      clear hb1 B0 HFd
      unfold sesV
      go_wp2_with (refine wpList_store_new rfl 90 (Operand.tmp 7) (Operand.tmp 20) rfl rfl (sesArr s) rfl (by exact Tryz.size90) rfl (by simp [sesArr,Value.oneCell']) ?_;intro w2 hk2 hb2 hs2;have BX2:=Lib.hid (BX.out.kept hb2);clear hk2 hb2 hs2 BX)
      refine (mod_refuse 404 _).mono ?_
      rintro e w9 ⟨rfl,hb9⟩
      have bx9:=BX2.out.kept hb9
      go_wp2_with (refine wpList_store_blk rfl 35 (Operand.tmp 6) (Operand.tmp 24) rfl (w.heap.size+1) rfl zero14 _ 35 rfl bx9.ans (by exact Tryz.size35) rfl (by simp [ansArr,Ans.zero,Value.oneCell']) ?_;intro w10 hk10 ho10 hs10)
      refine body_cell rfl rfl rfl hk10 Tryz.underlying35 rfl (by exact Tryz.size35) ?_
      have hbx:Below w.heap.size w w10:=bx9.below.trans (ho10.below bx9.below.size (fun k hk=>by rw [hk];exact Nat.le_succ _))
      rw [anV_bad 404 (refN 404) rfl,hF.out]
      exact MDo.same HR.out i hbx (AnM.plain _ _ rfl rfl)
    · obtain ⟨tn,htn⟩:∃ tn:Nat,c.ttl=(tn:Int)∧tn≤2147483647:=by
        unfold ttlN at htt
        simp at htt
        exact ⟨c.ttl.toNat,by omega,by omega⟩
      obtain ⟨htn,htn2⟩:=htn
      obtain ⟨ex,hex⟩:∃ ex,untilN now tn=ex:=⟨_,rfl⟩
      have hmu:=mod_until now tn htn2
      rw [hex] at hmu
      have HU:=Lib.hid hmu
      rw [hgs] at h1
      have hst:s.tok=c.tok:=by
        unfold findN at h1
        have:=List.find?_some h1
        rw [hitB_tok] at this
        simp at this
        exact this.1
      have hct:c.tok.size≤900000:=by rw [←hst];exact hz s (findN_mem h1).1
      have hhas:hasS h.ses c.tok=true:=by rw [Bool.and_eq_true] at h2;exact h2.1
      have hpl:=set_plain (e:=ex) hs hhas
      rw [hgs] at hpl
      have hF:=Lib.hid (show ((touchN h c now).1,L.set i (touchN h c now).2)=({ status:=200,exp:=ex },L.set i { h with ses:=h.ses.map (setExp c.tok ex),ents:=noteN h.ents 3 now c.tok }) by unfold touchN;rw [if_neg (by rw [htt];simp),h1];simp only;rw [htn,Int.toNat_natCast,hex])
      rw [h2,hgs] at HFd
      have HST:=Lib.hid hst
      have HPL:=Lib.hid hpl
      have HTN:=Lib.hid htn
      clear hz h1 h2 hgs hset t1 bx0 r hi hs htt hex hmu hst hhas hpl htn
      go_enter Tryz.func96,Tryz.ntmps96
      go_wp2_with fail
      refine (HTl.out _).mono ?_
      rintro e w0 ⟨rfl,hu⟩
      obtain rfl:=hu.symm
      clear hu
      go_wp2_with fail
      refine HFd.out.mono ?_
      rintro e w1 ⟨rfl,hb1⟩
      have BX:=Lib.hid (B0.out.kept hb1)
      clear hb1 B0 HFd
      unfold sesV
      go_wp2_with (refine wpList_store_new rfl 90 (Operand.tmp 7) (Operand.tmp 20) rfl rfl (sesArr s) rfl (by exact Tryz.size90) rfl (by simp [sesArr,Value.oneCell']) ?_;intro w2 hk2 hb2 hs2;have BX2:=Lib.hid (BX.out.kept hb2);have HK2:=Lib.hid hk2;have x5:=BX2.out.box.cell 5 (.int .i64 (tn:Int)) (by rw [←HTN.out];rfl);have x6:=hk2.cell 3 (.int .u64 (s.exp:Nat)) rfl;have f6:=hk2.frozen 3;clear hk2 hb2 hs2)
      refine (HU.out _).mono ?_
      rintro e w3 ⟨rfl,hu⟩
      obtain rfl:=hu.symm
      clear hu
      go_wp2_with fail
      have KS:=HK2.out.setCell 3 (.int .u64 (ex:Nat))
      have KS2:Blk (w2.setCell ⟨w1.heap.size,3,none⟩ (.int .u64 (ex:Nat))) w1.heap.size #[.string s.tok,.string s.usr,.string s.dat,.int .u64 (ex:Nat)] 90:=KS
      have hsb:w.heap.size+1<w1.heap.size:=BX.out.ans.lt
      have BX3:Box w (w2.setCell ⟨w1.heap.size,3,none⟩ (.int .u64 (ex:Nat))) 3 c.ten c.tok c.usr c.dat c.ttl c.frm c.draw :=
        ⟨Blk.setCell_ne BX2.out.box (by omega) _ _,Blk.setCell_ne BX2.out.ans (by omega) _ _,BX2.out.below.setCell (show w.heap.size≤(⟨w1.heap.size,3,none⟩:Addr).block from by show w.heap.size≤w1.heap.size;omega) _⟩
      obtain ⟨sb,hsbe⟩:∃ x,w1.heap.size=x:=⟨_,rfl⟩
      rw [hsbe] at KS2 BX3 hsb ⊢
      generalize w2.setCell ⟨sb,3,none⟩ (.int .u64 (ex:Nat))=W7 at KS2 BX3 ⊢
      have r7:=HR.out.kept BX3.below
      have q1:=(r7.hh i h HI.out).cell 1 (.map (some (d.mb i))) rfl
      obtain ⟨n7,hn7,hm7⟩:=r7.hm i h HI.out
      have z0:=KS2.cell 0 (.string s.tok) rfl
      have z1:=KS2.cell 1 (.string s.usr) rfl
      have z2:=KS2.cell 2 (.string s.dat) rfl
      have z3:=KS2.cell 3 (.int .u64 (ex:Nat)) rfl
      have HM7:=Lib.hid hm7
      have HN7:=Lib.hid hn7
      have HKS:=Lib.hid KS2
      have HB3:=Lib.hid BX3
      have HR7:=Lib.hid r7
      have HSB:=Lib.hid hsb
      clear KS KS2 hsb BX3 hsbe r7 hm7 hn7 x5 x6 f6 HK2 BX2 BX
      refine region_plan (S:=fun w':World=>w'.cell? ⟨d.hb i,1,none⟩=some (.map (some (d.mb i)))∧w'.cell? ⟨sb,0,none⟩=some (.string s.tok)∧w'.cell? ⟨sb,1,none⟩=some (.string s.usr)∧w'.cell? ⟨sb,2,none⟩=some (.string s.dat)∧w'.cell? ⟨sb,3,none⟩=some (.int .u64 (ex:Nat)))
        ((0,true)::(1,true)::(2,true)::(3,true)::(4,true)::(5,true)::(6,true)::(7,false)::[])
        (by kernel_rfl) (by kernel_rfl) (by kernel_rfl) (by kernel_rfl) (fun _ _ _ dst _ h=>by cases dst<;>exact h) ⟨q1,z0,z1,z2,z3⟩ (fun hH=>?_)
      clear hH
      (repeat (first | (refine plan_take (v:=?_) (by (simp only [ga1,ga2,ga3];exact rfl)) (by rfl) ?_ ?_;rotate_left;(focus (intro wS hS;(try dsimp only at hS);go_split_ands;go_simp;(try with_reducible rfl)));simp only [Act.put,pu1,pu2,pu3]) | (refine plan_skip (by (simp only [ga1,ga2,ga3];exact rfl)) (by rfl) ?_;simp only [Act.put,pu1,pu2,pu3])))
      (refine plan_solo (by (simp only [ga1,ga2,ga3];exact rfl)) (by rfl) ?_;intro K hK)
      refine oper_put_S (Operand.tmp 33) (Operand.tmp 35) (Operand.tmp 36) rfl rfl (HM7.out.block (w':=W7.drew) rfl) (by have:=HN7.out;unfold maxLen;omega) ⟨s.tok,s.usr,s.dat,ex⟩ (by show s.tok.size≤maxLen;rw [HST.out];unfold maxLen;omega) rfl rfl ?_
      intro w8 g8 m8
      have o8:=turned_only m8
      have km:∀ k t,Of W7 k t→w8.heap[k]?=W7.heap[k]?:=fun k t hk=>o8.block k hk.lt (hk.map_ne HM7.out)
      have ohb:Of W7 (d.hb i) 125:=⟨_,_,HR7.out.hh i h HI.out⟩
      have osb:Of W7 sb 90:=⟨_,_,HKS.out⟩
      have KS8:Blk w8 sb #[.string s.tok,.string s.usr,.string s.dat,.int .u64 (ex:Nat)] 90:=(km _ _ osb).trans HKS.out
      have q8:w8.cell? ⟨d.hb i,1,none⟩=some (.map (some (d.mb i))):=(World.cell?_of_block (a:=⟨d.hb i,1,none⟩) (km _ _ ohb)).trans q1
      have y0:=KS8.cell 0 (.string s.tok) rfl
      have y1:=KS8.cell 1 (.string s.usr) rfl
      have y2:=KS8.cell 2 (.string s.dat) rfl
      have y3:=KS8.cell 3 (.int .u64 (ex:Nat)) rfl
      refine hK.out _ _ ⟨q8,y0,y1,y2,y3⟩ (fun hH=>?_)
      clear hK K hH
      (try simp only [Act.put,pu1,pu2,pu3])
      (repeat (first | (refine plan_take (v:=?_) (by (simp only [ga1,ga2,ga3];exact rfl)) (by rfl) ?_ ?_;rotate_left;(focus (intro wS hS;(try dsimp only at hS);go_split_ands;go_simp;(try with_reducible rfl)));simp only [Act.put,pu1,pu2,pu3]) | (refine plan_skip (by (simp only [ga1,ga2,ga3];exact rfl)) (by rfl) ?_;simp only [Act.put,pu1,pu2,pu3])))
      refine plan_nil ?_
      have r7d:MIs W7.drew p N L d:=HR7.out.keep (Nat.le_refl _) (fun _ _=>rfl)
      have hpl8:=HPL.out
      rw [HST.out] at hpl8
      simp only [HST.out] at g8
      rw [hpl8] at g8
      have r8:=r7d.turn HI.out (Nat.le_succ N) m8 ⟨n7+1,by have:=HN7.out;omega,g8⟩
      have hi8:(L.set i { h with ses:=h.ses.map (setExp c.tok ex) })[i]?=some { h with ses:=h.ses.map (setExp c.tok ex) }:=List.getElem?_set_self (List.getElem?_eq_some_iff.1 HI.out).1
      have HNt:=Lib.hid (mod_note r8 hi8 hsm 3 now c.tok ⟨by show h.ents.length+1<_;omega,by show (3:Nat)<_;decide,hnow,hct⟩)
      have KB8:=(km _ _ ⟨_,_,HB3.out.box⟩).trans HB3.out.box
      have KA8:Blk w8 (w.heap.size+1) zero14 35:=(km _ _ ⟨_,_,HB3.out.ans⟩).trans HB3.out.ans
      have b0:w8.cell? ⟨w.heap.size,0,none⟩=some (.int .i64 3):=Blk.cell KB8 0 (.int .i64 3) rfl
      have y0':w8.cell? ⟨sb,0,none⟩=some (.string c.tok):=by rw [←HST.out];exact y0
      have O8:Only (fun k=>k=d.hb i∨k=d.mb i) w w8:=(Only.of_below HB3.out.below).trans ((Only.refl _ _).drew.trans (o8.mono (fun k _ hk=>.inr hk)))
      have HO8:=Lib.hid O8
      have HKS8:=Lib.hid KS8
      have HKA8:=Lib.hid KA8
      clear KB8 KA8 O8 KS8 y0 km o8 ohb osb hpl8 r8 r7d g8 m8 q8 hi8 z0 z1 z2 z3 q1
      go_wp2_with fail
      refine HNt.out.mono ?_
      rintro e w9 ⟨rfl,ev9,r9,o9⟩
      have hhb:=HR.out.lt (.inr (.inr (.inl ⟨i,(List.getElem?_eq_some_iff.1 HI.out).1,.inl rfl⟩)))
      have hsb:=HSB.out
      have KS9:Blk w9 sb #[.string s.tok,.string s.usr,.string s.dat,.int .u64 (ex:Nat)] 90:=(o9.block sb HKS8.out.lt (by omega)).trans HKS8.out
      have KA9:Blk w9 (w.heap.size+1) zero14 35:=(o9.block _ HKA8.out.lt (by omega)).trans HKA8.out
      have v3:=KS9.cell 3 (.int .u64 (ex:Nat)) rfl
      rw [List.set_set] at r9
      have HKA9:=Lib.hid KA9
      have HR9:=Lib.hid r9
      have HO9:=Lib.hid (HO8.out.trans (o9.mono (fun k _ hk=>.inl hk)))
      clear KS9 KA9 r9 o9 hhb hsb y0' y1 y2 y3 b0
      go_wp2_with (refine wpList_store_blk rfl 35 (Operand.tmp 6) (Operand.tmp 46) rfl (w.heap.size+1) rfl zero14 (ansArr { Ans.zero with status:=200,expires:=(ex:Nat) }) 35 rfl HKA9.out (by exact Tryz.size35) rfl (by simp [ansArr,Ans.zero,Value.oneCell']) ?_;intro w10 hk10 ho10 hs10)
      refine body_cell rfl rfl rfl hk10 Tryz.underlying35 rfl (by exact Tryz.size35) ?_
      rw [hF.out]
      refine ⟨_,ev9,rfl,HR9.out.only ho10 ⟨_,_,HKA9.out⟩ (by decide) (by decide) (by decide) (by decide),?_,AnM.plain _ { status:=200,exp:=ex } rfl rfl⟩
      exact Only.trans2 HO9.out ho10 (fun k hk=>.inr (by rw [hk];omega))
end Go.Proofs.YtmdgeknnhckgfaaGreatDoor
namespace Go.Proofs.YtmdgeknnhckgfaaGreatDoor
open Go Go.RowKit
theorem tok_beq (s:Ses) (t:ByteArray):(s.tok.toList == t.toList)=decide (s.tok=t):=by
  by_cases h:s.tok=t
  · rw [str_beq.2 h];simp [h]
  · rw [str_beq_false.2 h];simp [h]
theorem oper_drop_S {w:World} {o:Oper} {a:Act} {K:Act→World→Prop} {Q:Exit→Act→World→Prop} {b n:Nat} {l:List Ses} (m x:Operand)
    (hop:o.op=.call { callee:=.builtin .delete,args:=#[m,x],argTypes:=#[122,9] }) (hm:a.eval m=.map (some b)) (g:SMap w b n l) (t:ByteArray) (ht:t.size≤maxLen) (hx:a.eval x=.string t)
    (h:∀ w',SMap w' b n (l.filter fun x=>!decide (x.tok=t))→w.mapTurned w' b→K (a.put o.dst (.tuple #[])) w'):Oper.wp Tryz.prog o a w K Q:=by
  obtain ⟨w',hrun,r1,r2⟩:=g.drop t ht o.type
  unfold Oper.wp execOp
  simp only [hop,resolve,invoke,builtin,Sem.run_bind,Sem.run_pure,Result.andThen_ok,List.map_toArray,List.map_cons,List.map_nil,hm,hx,hrun]
  exact h w' r1 r2
variable {w w':World} {p N:Nat} {L:List Hs} {d:MD}
set_option maxRecDepth 100000 in
set_option maxHeartbeats 4000000 in
theorem mod_revoke (r:MIs w p N L d) {i:Nat} {h:Hs} (hi:L[i]?=some h) (hs:Sorted h.ses) (hsm:h.ents.length≤1000) (c:Cl) (hc:c.Ok) (hz:∀ s∈h.ses,s.tok.size≤900000) (hkd:c.kind=4) (now:Nat) (hnow:now<18446744073709551616) :
    Calls Tryz.prog 97 #[.pointer (some ⟨d.hb i,0,none⟩),clV c,.int .u64 (now:Nat)] w (MDo w p N L d i ((revokeN h c now).1,L.set i (revokeN h c now).2)):=by
  have HR:=Lib.hid r
  have HI:=Lib.hid hi
  have t1:=two_blocks w 4 c.ten c.tok c.usr c.dat c.ttl c.frm c.draw
  have bx0:Box w _ 4 c.ten c.tok c.usr c.dat c.ttl c.frm c.draw:=⟨t1.1,t1.2.1,t1.2.2⟩
  have B0:=Lib.hid bx0
  have hset:L.set i h=L:=set_self hi
  unfold clV
  rw [hkd]
  have HFd:=Lib.hid (mod_find (r.kept bx0.below) hi c.tok hc.tok now)
  have hfp:=find_plain hs c.tok now
  obtain ⟨s,hgs⟩:∃ s,getS h.ses c.tok=s:=⟨_,rfl⟩
  rcases hfp with ⟨h1,h2⟩ | ⟨h1,h2⟩
  · have hF:=Lib.hid (show ((revokeN h c now).1,L.set i (revokeN h c now).2)=(badA 404,L) by unfold revokeN;rw [h1];simp only;rw [hset])
    rw [h2,hgs] at HFd
    clear h1 h2 hgs hset t1 bx0 r hi hs hz
    go_enter Tryz.func97,Tryz.ntmps97
    go_wp2_with fail
    refine HFd.out.mono ?_
    rintro e w1 ⟨rfl,hb1⟩
    have BX:=Lib.hid (B0.out.kept hb1)
    clear hb1 B0 HFd
    unfold sesV
    go_wp2_with (refine wpList_store_new rfl 90 (Operand.tmp 7) (Operand.tmp 15) rfl rfl (sesArr s) rfl (by exact Tryz.size90) rfl (by simp [sesArr,Value.oneCell']) ?_;intro w2 hk2 hb2 hs2;have BX2:=Lib.hid (BX.out.kept hb2);clear hk2 hb2 hs2 BX)
    refine (mod_refuse 404 _).mono ?_
    rintro e w9 ⟨rfl,hb9⟩
    have bx9:=BX2.out.kept hb9
    go_wp2_with (refine wpList_store_blk rfl 35 (Operand.tmp 6) (Operand.tmp 19) rfl (w.heap.size+1) rfl zero14 _ 35 rfl bx9.ans (by exact Tryz.size35) rfl (by simp [ansArr,Ans.zero,Value.oneCell']) ?_;intro w10 hk10 ho10 hs10)
    refine body_cell rfl rfl rfl hk10 Tryz.underlying35 rfl (by exact Tryz.size35) ?_
    have hbx:Below w.heap.size w w10:=bx9.below.trans (ho10.below bx9.below.size (fun k hk=>by rw [hk];exact Nat.le_succ _))
    rw [anV_bad 404 (refN 404) rfl,hF.out]
    exact MDo.same HR.out i hbx (AnM.plain _ _ rfl rfl)
  · rw [hgs] at h1
    have hst:s.tok=c.tok:=(findN_mem h1).2.1
    have hct:c.tok.size≤900000:=by rw [←hst];exact hz s (findN_mem h1).1
    have hF:=Lib.hid (show ((revokeN h c now).1,L.set i (revokeN h c now).2)=({ status:=204 },L.set i { h with ses:=h.ses.filter (fun s=>!decide (s.tok=c.tok)),ents:=noteN h.ents 4 now c.tok }) by unfold revokeN;rw [h1];simp only [tok_beq])
    rw [h2,hgs] at HFd
    have HST:=Lib.hid hst
    clear h1 h2 hgs hset t1 bx0 r hi hs hst hz
    go_enter Tryz.func97,Tryz.ntmps97
    go_wp2_with fail
    refine HFd.out.mono ?_
    rintro e w1 ⟨rfl,hb1⟩
    have BX:=Lib.hid (B0.out.kept hb1)
    clear hb1 B0 HFd
    unfold sesV
    go_wp2_with (refine wpList_store_new rfl 90 (Operand.tmp 7) (Operand.tmp 15) rfl rfl (sesArr s) rfl (by exact Tryz.size90) rfl (by simp [sesArr,Value.oneCell']) ?_;intro w2 hk2 hb2 hs2;have BX2:=Lib.hid (BX.out.kept hb2);have HK2:=Lib.hid hk2;clear hk2 hb2 hs2)
    have hsb:w.heap.size+1<w1.heap.size:=BX.out.ans.lt
    have KS2:Blk w2 w1.heap.size #[.string s.tok,.string s.usr,.string s.dat,.int .u64 (s.exp:Nat)] 90:=HK2.out
    have BX3:=BX2.out
    obtain ⟨sb,hsbe⟩:∃ x,w1.heap.size=x:=⟨_,rfl⟩
    rw [hsbe] at KS2 hsb ⊢
    have r7:=HR.out.kept BX3.below
    have q1:=(r7.hh i h HI.out).cell 1 (.map (some (d.mb i))) rfl
    obtain ⟨n7,hn7,hm7⟩:=r7.hm i h HI.out
    have z0:=KS2.cell 0 (.string s.tok) rfl
    have HM7:=Lib.hid hm7
    have HN7:=Lib.hid hn7
    have HKS:=Lib.hid KS2
    have HB3:=Lib.hid BX3
    have HR7:=Lib.hid r7
    have HSB:=Lib.hid hsb
    clear KS2 hsb BX3 hsbe r7 hm7 hn7 HK2 BX2 BX
    refine region_plan (S:=fun w':World=>w'.cell? ⟨d.hb i,1,none⟩=some (.map (some (d.mb i)))∧w'.cell? ⟨sb,0,none⟩=some (.string s.tok))
      ((0,true)::(1,true)::(2,true)::(3,true)::(4,true)::(5,true)::(6,false)::[])
      (by kernel_rfl) (by kernel_rfl) (by kernel_rfl) (by kernel_rfl) (fun _ _ _ dst _ h=>by cases dst<;>exact h) ⟨q1,z0⟩ (fun hH=>?_)
    clear hH
    (repeat (first | (refine plan_take (v:=?_) (by (simp only [ga1,ga2,ga3];exact rfl)) (by rfl) ?_ ?_;rotate_left;(focus (intro wS hS;(try dsimp only at hS);go_split_ands;go_simp;(try with_reducible rfl)));simp only [Act.put,pu1,pu2,pu3]) | (refine plan_skip (by (simp only [ga1,ga2,ga3];exact rfl)) (by rfl) ?_;simp only [Act.put,pu1,pu2,pu3])))
    (refine plan_solo (by (simp only [ga1,ga2,ga3];exact rfl)) (by rfl) ?_;intro K hK)
    refine oper_drop_S (Operand.tmp 23) (Operand.tmp 25) rfl rfl (HM7.out.block (w':=w2.drew) rfl) s.tok (by rw [HST.out];unfold maxLen;omega) rfl ?_
    intro w8 g8 m8
    have o8:=turned_only m8
    have km:∀ k t,Of w2 k t→w8.heap[k]?=w2.heap[k]?:=fun k t hk=>o8.block k hk.lt (hk.map_ne HM7.out)
    have ohb:Of w2 (d.hb i) 125:=⟨_,_,HR7.out.hh i h HI.out⟩
    have osb:Of w2 sb 90:=⟨_,_,HKS.out⟩
    have KS8:Blk w8 sb #[.string s.tok,.string s.usr,.string s.dat,.int .u64 (s.exp:Nat)] 90:=(km _ _ osb).trans HKS.out
    have q8:w8.cell? ⟨d.hb i,1,none⟩=some (.map (some (d.mb i))):=(World.cell?_of_block (a:=⟨d.hb i,1,none⟩) (km _ _ ohb)).trans q1
    have y0:=KS8.cell 0 (.string s.tok) rfl
    refine hK.out _ _ ⟨q8,y0⟩ (fun hH=>?_)
    clear hK K hH
    (try simp only [Act.put,pu1,pu2,pu3])
    refine plan_nil ?_
    have r7d:MIs w2.drew p N L d:=HR7.out.keep (Nat.le_refl _) (fun _ _=>rfl)
    rw [HST.out] at g8
    have r8:=r7d.turn HI.out (Nat.le_succ N) m8 ⟨n7,by have:=HN7.out;omega,g8⟩
    have hi8:(L.set i { h with ses:=h.ses.filter (fun x=>!decide (x.tok=c.tok)) })[i]?=some { h with ses:=h.ses.filter (fun x=>!decide (x.tok=c.tok)) }:=List.getElem?_set_self (List.getElem?_eq_some_iff.1 HI.out).1
    have HNt:=Lib.hid (mod_note r8 hi8 hsm 4 now c.tok ⟨by show h.ents.length+1<_;omega,by show (4:Nat)<_;decide,hnow,hct⟩)
    have KB8:=(km _ _ ⟨_,_,HB3.out.box⟩).trans HB3.out.box
    have KA8:Blk w8 (w.heap.size+1) zero14 35:=(km _ _ ⟨_,_,HB3.out.ans⟩).trans HB3.out.ans
    have b0:w8.cell? ⟨w.heap.size,0,none⟩=some (.int .i64 4):=Blk.cell KB8 0 (.int .i64 4) rfl
    have y0':w8.cell? ⟨sb,0,none⟩=some (.string c.tok):=by rw [←HST.out];exact y0
    have O8:Only (fun k=>k=d.hb i∨k=d.mb i) w w8:=(Only.of_below HB3.out.below).trans ((Only.refl _ _).drew.trans (o8.mono (fun k _ hk=>.inr hk)))
    have HO8:=Lib.hid O8
    have HKA8:=Lib.hid KA8
    clear KB8 KA8 O8 KS8 y0 km o8 ohb osb r8 r7d g8 m8 q8 hi8 z0 q1
    go_wp2_with fail
    refine HNt.out.mono ?_
    rintro e w9 ⟨rfl,ev9,r9,o9⟩
    have hhb:=HR.out.lt (.inr (.inr (.inl ⟨i,(List.getElem?_eq_some_iff.1 HI.out).1,.inl rfl⟩)))
    have hsb:=HSB.out
    have KA9:Blk w9 (w.heap.size+1) zero14 35:=(o9.block _ HKA8.out.lt (by omega)).trans HKA8.out
    rw [List.set_set] at r9
    have HKA9:=Lib.hid KA9
    have HR9:=Lib.hid r9
    have HO9:=Lib.hid (HO8.out.trans (o9.mono (fun k _ hk=>.inl hk)))
    clear KA9 r9 o9 hhb hsb y0' b0
    go_wp2_with (refine wpList_store_blk rfl 35 (Operand.tmp 6) (Operand.tmp 33) rfl (w.heap.size+1) rfl zero14 (ansArr { Ans.zero with status:=204 }) 35 rfl HKA9.out (by exact Tryz.size35) rfl (by simp [ansArr,Ans.zero,Value.oneCell']) ?_;intro w10 hk10 ho10 hs10)
    refine body_cell rfl rfl rfl hk10 Tryz.underlying35 rfl (by exact Tryz.size35) ?_
    rw [hF.out]
    refine ⟨_,ev9,rfl,HR9.out.only ho10 ⟨_,_,HKA9.out⟩ (by decide) (by decide) (by decide) (by decide),?_,AnM.plain _ { status:=204 } rfl rfl⟩
    exact Only.trans2 HO9.out ho10 (fun k hk=>.inr (by rw [hk];omega))
end Go.Proofs.YtmdgeknnhckgfaaGreatDoor
namespace Go.Proofs.YtmdgeknnhckgfaaGreatDoor
open Go Go.RowKit
theorem mod_c124 (s:Ses) (cb:Nat) (kind ten:Int) (tok usr dat:ByteArray) (ttl frm:Int) (draw:Nat) (W:World) (hb:Blk W cb #[.int .i64 kind,.int .i64 ten,.string tok,.string usr,.string dat,.int .i64 ttl,.int .i64 frm,.int .u64 (draw:Int)] 53) :
    Calls Tryz.prog 124 #[sesV s,.pointer (some ⟨cb,0,none⟩)] W fun e w'=>e=.returned (.bool (s.usr.toList == usr.toList))∧Below W.heap.size W w':=by
  have c3:=hb.cell 3 (.string usr) rfl
  have hcl:=hb.lt
  unfold sesV
  clear hb
  cases hq:(s.usr.toList == usr.toList) with
  | true =>
    go_enter Tryz.func124,Tryz.ntmps124
    go_wp2_with fail
    go_ret
    exact ⟨rfl,(Below.refl _ W).alloc (Nat.le_refl _) _⟩
  | false =>
    go_enter Tryz.func124,Tryz.ntmps124
    go_wp2_with fail
    go_ret
    exact ⟨rfl,(Below.refl _ W).alloc (Nat.le_refl _) _⟩
theorem mod_c125 (s:Ses) (W:World) :
    Calls Tryz.prog 125 #[sesV s] W fun e w'=>e=.returned (.bool true)∧Below W.heap.size W w':=by
  unfold sesV
  go_enter Tryz.func125,Tryz.ntmps125
  go_wp2_with fail
  go_ret
  exact ⟨rfl,(Below.refl _ W).alloc (Nat.le_refl _) _⟩
def leftN (S T:List Ses):List Ses:=S.filter fun x=>!(T.any fun y=>decide (x.tok=y.tok))
theorem leftN_nil (S:List Ses):leftN S []=S:=by
  unfold leftN
  exact List.filter_eq_self.2 (fun x _=>rfl)
theorem leftN_snoc (S T:List Ses) (s:Ses):leftN S (T++[s])=(leftN S T).filter fun x=>!decide (x.tok=s.tok):=by
  unfold leftN
  rw [List.filter_filter]
  congr 1
  funext x
  rw [List.any_append]
  simp [Bool.and_comm]
def tkN (q:Ses→Bool) (l:List Ses) (k:Nat):List Ses:=(l.take k).filter q
theorem tk_all (S:List Ses) (now:Nat) (q:Ses→Bool):tkN q (liveN S now) (liveN S now).length=S.filter (fun s=>q s && decide (now<s.exp)):=by
  unfold tkN liveN
  rw [List.take_length,List.filter_filter]
theorem left_all {S:List Ses} (hs:Sorted S) (now:Nat) (q:Ses→Bool):leftN S (tkN q (liveN S now) (liveN S now).length)=S.filter (fun s=>!(q s && decide (now<s.exp))):=by
  rw [tk_all]
  unfold leftN
  refine List.filter_congr (fun x hx=>?_)
  congr 1
  rw [Bool.eq_iff_iff,List.any_eq_true]
  constructor
  · rintro ⟨y,hy,e⟩
    rw [List.mem_filter] at hy
    have e':x.tok=y.tok:=by simpa using e
    have:=hs.uniq hx hy.1 e'
    subst this
    exact hy.2
  · intro h
    exact ⟨x,List.mem_filter.2 ⟨hx,h⟩,by simp⟩
theorem tk_step {l:List Ses} {k:Nat} {s:Ses} (h:l[k]?=some s) (q:Ses→Bool):tkN q l (k+1)=if q s=true then tkN q l k++[s] else tkN q l k:=by
  unfold tkN
  rw [filt_step' h]
theorem tk_len (q:Ses→Bool) (l:List Ses) (k:Nat):(tkN q l k).length≤k:=by
  unfold tkN
  have:=List.length_filter_le q (l.take k)
  rw [List.length_take] at this
  omega
variable {w w':World} {p N:Nat} {L:List Hs} {d:MD}
def RTk (w:World) (i N:Nat) (h:Hs) (d:MD) (q:Ses→Bool) (l:List Ses) (A:Option Addr) (cap:Nat) (nv iv:Value) (W:World):Prop :=
  ∃ k m:Nat,k≤l.length∧(tkN q l k).length=m∧nv=.int .i64 (m:Nat)∧iv=.int .i64 (k:Nat)∧(∃ n,n≤N∧SMap W (d.mb i) n (leftN h.ses (tkN q l k)))∧Only (fun k=>k=d.mb i) w W∧W.ownsRow 0 90 4 (.slice A l.length cap) l.length (sesArgs l)
theorem row_turned {w w':World} {b B n:Nat} {v:Value} {S:List Ses} {m:Nat} {l:List Ses} (h:w.ownsRow B 90 4 v n (sesArgs S)) (hm:SMap w b m l) (ho:Only (fun k=>k=b) w w'):w'.ownsRow B 90 4 v n (sesArgs S) :=
  own_block h (fun j hj=>by
    obtain ⟨cc,hcc⟩:=own_typed h hj
    exact ho.block j (lt_of_block hcc) ((show Of w j 90 from ⟨cc,_,hcc⟩).map_ne hm))
set_option maxRecDepth 100000 in
set_option maxHeartbeats 4000000 in
theorem mod_take124 (r:MIs w p N L d) {i:Nat} {h:Hs} (hi:L[i]?=some h) (hs:Sorted h.ses) (hz:∀ s∈h.ses,s.tok.size≤maxLen) (hsm:h.ses.length≤256) (now:Nat) (cb:Nat) (q:Ses→Bool)
    (hof:∀ W s,Only (fun k=>k=d.mb i) w W→Calls Tryz.prog 124 #[sesV s,.pointer (some ⟨cb,0,none⟩)] W (fun e w'=>e=.returned (.bool (q s))∧Below W.heap.size W w')) :
    Calls Tryz.prog 123 #[.pointer (some ⟨d.hb i,0,none⟩),.int .u64 (now:Nat),.func (.func 124) #[] #[.pointer (some ⟨cb,0,none⟩)]] w fun e w'=>e=.returned (.int .i64 (h.ses.filter (fun s=>q s && decide (now<s.exp))).length)∧(∃ n,n≤N∧SMap w' (d.mb i) n (h.ses.filter (fun s=>!(q s && decide (now<s.exp)))))∧Only (fun k=>k=d.mb i) w w':=by
  have HR:=Lib.hid r
  have HI:=Lib.hid hi
  have HL:=mod_live r hi hs hz (by omega) now
  have HZ:=Lib.hid hz
  have HOF:=Lib.hid hof
  have hll:=liveN_len h.ses now
  have hpl:=left_all hs now q
  have hpt:=tk_all h.ses now q
  have hmem:∀ s∈liveN h.ses now,s∈h.ses:=fun s hs=>(List.mem_filter.1 hs).1
  obtain ⟨l,hl⟩:∃ l,liveN h.ses now=l:=⟨_,rfl⟩
  rw [hl] at HL hll hpl hpt hmem
  rw [←hpl,←hpt]
  replace HL:=Lib.hid HL
  have HME:=Lib.hid hmem
  have hcell:∀ W,Only (fun k=>k=d.mb i) w W→W.cell? ⟨d.hb i,1,none⟩=some (.map (some (d.mb i))):=by
    intro W ho
    obtain ⟨n,_,hm⟩:=r.hm i h hi
    have hb:=r.hh i h hi
    have e:W.heap[d.hb i]?=w.heap[d.hb i]?:=ho.block _ hb.lt ((show Of w (d.hb i) 125 from ⟨_,_,hb⟩).map_ne hm)
    exact (World.cell?_of_block (a:=⟨d.hb i,1,none⟩) e).trans (hb.cell 1 _ rfl)
  have HC:=Lib.hid hcell
  clear r hi hs hz hof hl hpl hpt hmem hcell
  go_enter Tryz.func123,Tryz.ntmps123
  go_wp2_with fail
  refine HL.out.mono ?_
  rintro e w3 ⟨v,rfl,hown,hb3⟩
  obtain ⟨A,cap,rfl⟩:=own_form hown
  have HO:=Lib.hid (own_base hown (Nat.zero_le _))
  have HB:=Lib.hid hb3
  clear hown hb3 HL
  go_wp2_with fail
  go_loopw [7,14] (RTk w i N h d q l A cap) (fun _ v _=>l.length - (intOf v).toNat)
  case atStart =>
    obtain ⟨n,hn,hm⟩:=HR.out.hm i h HI.out
    exact ⟨0,0,Nat.zero_le _,rfl,rfl,rfl,⟨n,hn,by show SMap _ _ _ (leftN h.ses []);rw [leftN_nil];exact hm.kept HB.out⟩,Only.of_below HB.out,HO.out⟩
  case round =>
    obtain ⟨k,m,hk,hm,rfl,rfl,⟨n,hn,hmp⟩,ho,hrow⟩:=hrel
    by_cases hlt:k<l.length
    · obtain ⟨s,hsk⟩:=get_lt hlt
      obtain ⟨g,cap',e,hgl,_,d0,d1,d2,d3⟩:=ses_at hrow hsk
      cases e
      have tl:=tk_len q l k
      rw [hm] at tl
      have hst:=tk_step hsk q
      have kl:(k:Int)<(l.length:Int):=by omega
      have ml:(m:Int)<256:=by omega
      have hsz:=HZ.out s (HME.out s (List.mem_of_getElem? hsk))
      have HST:=Lib.hid hst
      have HMM:=Lib.hid hm
      have HNN:=Lib.hid hn
      have HMP:=Lib.hid hmp
      have HOO:=Lib.hid ho
      have HRW:=Lib.hid hrow
      have HSZ:=Lib.hid hsz
      clear hst hm hn hmp ho hrow hsk hsz
      go_wp2_with (refine wpList_store_new rfl 90 (Operand.tmp 9) (Operand.tmp 17) rfl rfl (sesArr s) rfl (by exact Tryz.size90) rfl (by simp [sesArr,Value.oneCell']) ?_;intro w4 hk4 hb4 hs4;have z0:=hk4.cell 0 (.string s.tok) rfl;have z1:=hk4.cell 1 (.string s.usr) rfl;have z2:=hk4.cell 2 (.string s.dat) rfl;have z3:=hk4.cell 3 (.int .u64 (s.exp:Nat)) rfl;have HK4:=Lib.hid hk4;have HB4:=Lib.hid hb4;clear hk4 hb4 hs4 d0 d1 d2 d3)
      refine (HOF.out w4 s (HOO.out.trans (Only.of_below HB4.out))).mono ?_
      rintro e w5 ⟨rfl,hb5⟩
      have HO5:=Lib.hid ((HOO.out.trans (Only.of_below HB4.out)).trans (Only.of_below hb5))
      have HM5:=Lib.hid ((HMP.out.kept HB4.out).kept hb5)
      have HR5:=Lib.hid (own_below (own_below HRW.out HB4.out) hb5)
      have hk5:=HK4.out.kept hb5
      have y0:=hk5.cell 0 (.string s.tok) rfl
      have HK5:=Lib.hid hk5
      clear hb5 HK4 HB4 HRW HMP HOO z0 z1 z2 z3 hk5
      cases hq:q s with
      | true =>
        have HS1:=Lib.hid (show tkN q l (k+1)=tkN q l k++[s] by rw [HST.out,if_pos hq])
        have q1:=HC.out w5 HO5.out
        clear hq
        go_wp2_with fail
        refine region_plan (S:=fun w':World=>w'.cell? ⟨d.hb i,1,none⟩=some (.map (some (d.mb i)))∧w'.cell? ⟨wr.heap.size,0,none⟩=some (.string s.tok))
          ((0,true)::(1,true)::(2,true)::(3,true)::(4,true)::(5,true)::(6,false)::[])
          (by kernel_rfl) (by kernel_rfl) (by kernel_rfl) (by kernel_rfl) (fun _ _ _ dst _ h=>by cases dst<;>exact h) ⟨q1,y0⟩ (fun hH=>?_)
        clear hH
        (repeat (first | (refine plan_take (v:=?_) (by (simp only [ga1,ga2,ga3];exact rfl)) (by rfl) ?_ ?_;rotate_left;(focus (intro wS hS;(try dsimp only at hS);go_split_ands;go_simp;(try with_reducible rfl)));simp only [Act.put,pu1,pu2,pu3]) | (refine plan_skip (by (simp only [ga1,ga2,ga3];exact rfl)) (by rfl) ?_;simp only [Act.put,pu1,pu2,pu3])))
        (refine plan_solo (by (simp only [ga1,ga2,ga3];exact rfl)) (by rfl) ?_;intro K hK)
        refine oper_drop_S (Operand.tmp 28) (Operand.tmp 30) rfl rfl (HM5.out.block (w':=w5.drew) rfl) s.tok HSZ.out rfl ?_
        intro w8 g8 m8
        have o8:Only (fun k=>k=d.mb i) w5 w8:=(Only.refl _ _).drew.trans (turned_only m8)
        have HO8:=Lib.hid (HO5.out.trans o8)
        have HR8:=Lib.hid (row_turned HR5.out HM5.out o8)
        have HG8:=Lib.hid g8
        have q8:=HC.out w8 HO8.out
        have y8:w8.cell? ⟨wr.heap.size,0,none⟩=some (.string s.tok):=(World.cell?_of_block (a:=⟨wr.heap.size,0,none⟩) (o8.block _ HK5.out.lt ((show Of w5 wr.heap.size 90 from ⟨_,_,HK5.out⟩).map_ne HM5.out))).trans y0
        refine hK.out _ _ ⟨q8,y8⟩ (fun hH=>?_)
        clear hK K hH o8 g8 m8
        (try simp only [Act.put,pu1,pu2,pu3])
        refine plan_nil ?_
        clear q1 q8 y0 y8
        go_wp2_with fail
        go_roundw
        case rel=>exact ⟨k+1,m+1,hlt,by rw [HS1.out,List.length_append,HMM.out];rfl,rfl,rfl,⟨n,HNN.out,by rw [HS1.out,leftN_snoc];exact HG8.out⟩,HO8.out,HR8.out⟩
        case measure=>simp [intOf];omega
      | false =>
        have HS1:=Lib.hid (show tkN q l (k+1)=tkN q l k by rw [HST.out,if_neg (by rw [hq];simp)])
        clear hq y0
        go_wp2_with fail
        go_roundw
        case rel=>exact ⟨k+1,m,hlt,by rw [HS1.out,HMM.out],rfl,rfl,⟨n,HNN.out,by rw [HS1.out];exact HM5.out⟩,HO5.out,HR5.out⟩
        case measure=>simp [intOf];omega
    · have hK:k=l.length:=by omega
      rw [hK] at hm hmp
      have HF:=Lib.hid hm
      have HMP:=Lib.hid hmp
      have HOO:=Lib.hid ho
      have HNN:=Lib.hid hn
      have kl:¬ (k:Int)<(l.length:Int):=by omega
      clear hm hmp ho hn hrow hK
      go_wp2_with fail
      go_ret
      exact ⟨by rw [HF.out];rfl,⟨n,HNN.out,HMP.out⟩,HOO.out⟩
set_option maxRecDepth 100000 in
set_option maxHeartbeats 4000000 in
theorem mod_take125 (r:MIs w p N L d) {i:Nat} {h:Hs} (hi:L[i]?=some h) (hs:Sorted h.ses) (hz:∀ s∈h.ses,s.tok.size≤maxLen) (hsm:h.ses.length≤256) (now:Nat) (cb:Nat) (q:Ses→Bool)
    (hof:∀ W s,Only (fun k=>k=d.mb i) w W→Calls Tryz.prog 125 #[sesV s] W (fun e w'=>e=.returned (.bool (q s))∧Below W.heap.size W w')) :
    Calls Tryz.prog 123 #[.pointer (some ⟨d.hb i,0,none⟩),.int .u64 (now:Nat),.func (.func 125) #[] #[]] w fun e w'=>e=.returned (.int .i64 (h.ses.filter (fun s=>q s && decide (now<s.exp))).length)∧(∃ n,n≤N∧SMap w' (d.mb i) n (h.ses.filter (fun s=>!(q s && decide (now<s.exp)))))∧Only (fun k=>k=d.mb i) w w':=by
  have HR:=Lib.hid r
  have HI:=Lib.hid hi
  have HL:=mod_live r hi hs hz (by omega) now
  have HZ:=Lib.hid hz
  have HOF:=Lib.hid hof
  have hll:=liveN_len h.ses now
  have hpl:=left_all hs now q
  have hpt:=tk_all h.ses now q
  have hmem:∀ s∈liveN h.ses now,s∈h.ses:=fun s hs=>(List.mem_filter.1 hs).1
  obtain ⟨l,hl⟩:∃ l,liveN h.ses now=l:=⟨_,rfl⟩
  rw [hl] at HL hll hpl hpt hmem
  rw [←hpl,←hpt]
  replace HL:=Lib.hid HL
  have HME:=Lib.hid hmem
  have hcell:∀ W,Only (fun k=>k=d.mb i) w W→W.cell? ⟨d.hb i,1,none⟩=some (.map (some (d.mb i))):=by
    intro W ho
    obtain ⟨n,_,hm⟩:=r.hm i h hi
    have hb:=r.hh i h hi
    have e:W.heap[d.hb i]?=w.heap[d.hb i]?:=ho.block _ hb.lt ((show Of w (d.hb i) 125 from ⟨_,_,hb⟩).map_ne hm)
    exact (World.cell?_of_block (a:=⟨d.hb i,1,none⟩) e).trans (hb.cell 1 _ rfl)
  have HC:=Lib.hid hcell
  clear r hi hs hz hof hl hpl hpt hmem hcell
  go_enter Tryz.func123,Tryz.ntmps123
  go_wp2_with fail
  refine HL.out.mono ?_
  rintro e w3 ⟨v,rfl,hown,hb3⟩
  obtain ⟨A,cap,rfl⟩:=own_form hown
  have HO:=Lib.hid (own_base hown (Nat.zero_le _))
  have HB:=Lib.hid hb3
  clear hown hb3 HL
  go_wp2_with fail
  go_loopw [7,14] (RTk w i N h d q l A cap) (fun _ v _=>l.length - (intOf v).toNat)
  case atStart =>
    obtain ⟨n,hn,hm⟩:=HR.out.hm i h HI.out
    exact ⟨0,0,Nat.zero_le _,rfl,rfl,rfl,⟨n,hn,by show SMap _ _ _ (leftN h.ses []);rw [leftN_nil];exact hm.kept HB.out⟩,Only.of_below HB.out,HO.out⟩
  case round =>
    obtain ⟨k,m,hk,hm,rfl,rfl,⟨n,hn,hmp⟩,ho,hrow⟩:=hrel
    by_cases hlt:k<l.length
    · obtain ⟨s,hsk⟩:=get_lt hlt
      obtain ⟨g,cap',e,hgl,_,d0,d1,d2,d3⟩:=ses_at hrow hsk
      cases e
      have tl:=tk_len q l k
      rw [hm] at tl
      have hst:=tk_step hsk q
      have kl:(k:Int)<(l.length:Int):=by omega
      have ml:(m:Int)<256:=by omega
      have hsz:=HZ.out s (HME.out s (List.mem_of_getElem? hsk))
      have HST:=Lib.hid hst
      have HMM:=Lib.hid hm
      have HNN:=Lib.hid hn
      have HMP:=Lib.hid hmp
      have HOO:=Lib.hid ho
      have HRW:=Lib.hid hrow
      have HSZ:=Lib.hid hsz
      clear hst hm hn hmp ho hrow hsk hsz
      go_wp2_with (refine wpList_store_new rfl 90 (Operand.tmp 9) (Operand.tmp 17) rfl rfl (sesArr s) rfl (by exact Tryz.size90) rfl (by simp [sesArr,Value.oneCell']) ?_;intro w4 hk4 hb4 hs4;have z0:=hk4.cell 0 (.string s.tok) rfl;have z1:=hk4.cell 1 (.string s.usr) rfl;have z2:=hk4.cell 2 (.string s.dat) rfl;have z3:=hk4.cell 3 (.int .u64 (s.exp:Nat)) rfl;have HK4:=Lib.hid hk4;have HB4:=Lib.hid hb4;clear hk4 hb4 hs4 d0 d1 d2 d3)
      refine (HOF.out w4 s (HOO.out.trans (Only.of_below HB4.out))).mono ?_
      rintro e w5 ⟨rfl,hb5⟩
      have HO5:=Lib.hid ((HOO.out.trans (Only.of_below HB4.out)).trans (Only.of_below hb5))
      have HM5:=Lib.hid ((HMP.out.kept HB4.out).kept hb5)
      have HR5:=Lib.hid (own_below (own_below HRW.out HB4.out) hb5)
      have hk5:=HK4.out.kept hb5
      have y0:=hk5.cell 0 (.string s.tok) rfl
      have HK5:=Lib.hid hk5
      clear hb5 HK4 HB4 HRW HMP HOO z0 z1 z2 z3 hk5
      cases hq:q s with
      | true =>
        have HS1:=Lib.hid (show tkN q l (k+1)=tkN q l k++[s] by rw [HST.out,if_pos hq])
        have q1:=HC.out w5 HO5.out
        clear hq
        go_wp2_with fail
        refine region_plan (S:=fun w':World=>w'.cell? ⟨d.hb i,1,none⟩=some (.map (some (d.mb i)))∧w'.cell? ⟨wr.heap.size,0,none⟩=some (.string s.tok))
          ((0,true)::(1,true)::(2,true)::(3,true)::(4,true)::(5,true)::(6,false)::[])
          (by kernel_rfl) (by kernel_rfl) (by kernel_rfl) (by kernel_rfl) (fun _ _ _ dst _ h=>by cases dst<;>exact h) ⟨q1,y0⟩ (fun hH=>?_)
        clear hH
        (repeat (first | (refine plan_take (v:=?_) (by (simp only [ga1,ga2,ga3];exact rfl)) (by rfl) ?_ ?_;rotate_left;(focus (intro wS hS;(try dsimp only at hS);go_split_ands;go_simp;(try with_reducible rfl)));simp only [Act.put,pu1,pu2,pu3]) | (refine plan_skip (by (simp only [ga1,ga2,ga3];exact rfl)) (by rfl) ?_;simp only [Act.put,pu1,pu2,pu3])))
        (refine plan_solo (by (simp only [ga1,ga2,ga3];exact rfl)) (by rfl) ?_;intro K hK)
        refine oper_drop_S (Operand.tmp 28) (Operand.tmp 30) rfl rfl (HM5.out.block (w':=w5.drew) rfl) s.tok HSZ.out rfl ?_
        intro w8 g8 m8
        have o8:Only (fun k=>k=d.mb i) w5 w8:=(Only.refl _ _).drew.trans (turned_only m8)
        have HO8:=Lib.hid (HO5.out.trans o8)
        have HR8:=Lib.hid (row_turned HR5.out HM5.out o8)
        have HG8:=Lib.hid g8
        have q8:=HC.out w8 HO8.out
        have y8:w8.cell? ⟨wr.heap.size,0,none⟩=some (.string s.tok):=(World.cell?_of_block (a:=⟨wr.heap.size,0,none⟩) (o8.block _ HK5.out.lt ((show Of w5 wr.heap.size 90 from ⟨_,_,HK5.out⟩).map_ne HM5.out))).trans y0
        refine hK.out _ _ ⟨q8,y8⟩ (fun hH=>?_)
        clear hK K hH o8 g8 m8
        (try simp only [Act.put,pu1,pu2,pu3])
        refine plan_nil ?_
        clear q1 q8 y0 y8
        go_wp2_with fail
        go_roundw
        case rel=>exact ⟨k+1,m+1,hlt,by rw [HS1.out,List.length_append,HMM.out];rfl,rfl,rfl,⟨n,HNN.out,by rw [HS1.out,leftN_snoc];exact HG8.out⟩,HO8.out,HR8.out⟩
        case measure=>simp [intOf];omega
      | false =>
        have HS1:=Lib.hid (show tkN q l (k+1)=tkN q l k by rw [HST.out,if_neg (by rw [hq];simp)])
        clear hq y0
        go_wp2_with fail
        go_roundw
        case rel=>exact ⟨k+1,m,hlt,by rw [HS1.out,HMM.out],rfl,rfl,⟨n,HNN.out,by rw [HS1.out];exact HM5.out⟩,HO5.out,HR5.out⟩
        case measure=>simp [intOf];omega
    · have hK:k=l.length:=by omega
      rw [hK] at hm hmp
      have HF:=Lib.hid hm
      have HMP:=Lib.hid hmp
      have HOO:=Lib.hid ho
      have HNN:=Lib.hid hn
      have kl:¬ (k:Int)<(l.length:Int):=by omega
      clear hm hmp ho hn hrow hK
      go_wp2_with fail
      go_ret
      exact ⟨by rw [HF.out];rfl,⟨n,HNN.out,HMP.out⟩,HOO.out⟩
end Go.Proofs.YtmdgeknnhckgfaaGreatDoor
