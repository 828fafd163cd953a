/-
  Parts of the proof of the law LinModel: RRev, RWor.
-/
import Derived.Test.YtmdgeknnhckgfaaGreatDoorS18
import Derived.Test.YtmdgeknnhckgfaaGreatDoorS19
import Derived.Test.YtmdgeknnhckgfaaGreatDoorS20
set_option linter.unusedSimpArgs false
set_option linter.unusedVariables false
namespace Go.Proofs.YtmdgeknnhckgfaaGreatDoor
open Go Go.RowKit
theorem dropP_4 {c:Cl} (h:c.kind=4) (now:Nat):dropP c now=hitB c.tok now:=by
  funext s;unfold dropP hitP hitB;rw [h];simp
theorem dropP_5 {c:Cl} (h:c.kind=5) (now:Nat):dropP c now=usrB c.usr now:=by
  funext s;unfold dropP hitP usrB;rw [h];simp
theorem dropP_6 {c:Cl} (h:c.kind=6) (now:Nat):dropP c now=liveB now:=by
  funext s;unfold dropP hitP liveB;rw [h];simp
theorem find_none {S:List Ses} {tok:ByteArray} {now:Nat} (h:findN S tok now=none):S.filter (hitB tok now)=[]∧(S.filter fun s=>!hitB tok now s)=S:=by
  unfold findN at h
  rw [List.find?_eq_none] at h
  constructor
  · rw [List.filter_eq_nil_iff];exact h
  · rw [List.filter_eq_self];intro x hx;have:=h x hx;simpa using this
theorem find_some {S:List Ses} {tok:ByteArray} {now:Nat} {s:Ses} (hs:Sorted S) (h:findN S tok now=some s):0<(S.filter (hitB tok now)).length∧(S.filter fun s=>!hitB tok now s)=S.filter fun s=>!(s.tok.toList == tok.toList):=by
  obtain ⟨h1,h2,h3⟩:=findN_mem h
  constructor
  · rw [List.length_pos_iff_exists_mem]
    exact ⟨s,List.mem_filter.2 ⟨h1,by unfold hitB;rw [str_beq.2 h2,decide_eq_true h3];rfl⟩⟩
  · apply List.filter_congr
    intro x hx
    unfold hitB
    cases hq:(x.tok.toList == tok.toList) with
    | false=>rfl
    | true =>
      have hxt:x.tok=tok:=str_beq.1 hq
      have:x=s:=hs.uniq hx h1 (by rw [hxt,h2])
      subst this
      rw [decide_eq_true h3];rfl
theorem RTo.inv {w w1:World} {p:Nat} {T:List Ten} {L L1:List Hs} {d:RD} (r:RIs w p T L d) (h:RTo w p T L d L1 w1):∃ d1,RIs w1 p T L1 d1∧L1.length=L.length∧(∀ k,k<w.heap.size→¬ d.own L.length k→¬ d1.own L1.length k)∧(∀ k,k<w.heap.size→¬ d.own L.length k→w1.heap[k]?=w.heap[k]?) ∧
    ∀ L2 w2,RTo w1 p T L1 d1 L2 w2→RTo w p T L d L2 w2:=by
  obtain ⟨d1,hg,r1,o,hl,hk⟩:=h
  refine ⟨d1,r1,hl,?_,fun k h1 h2=>o.block k h1 h2,fun L2 w2 h2=>RTo.trans hg o hl hk h2⟩
  intro k h1 h2 h3
  rw [hl] at h3
  rcases hk k h3 with h' | h'
  · exact h2 h'
  · omega
variable {w:World} {p:Nat} {T:List Ten} {L:List Hs} {d:RD}
set_option maxRecDepth 100000 in
set_option maxHeartbeats 8000000 in
theorem ref_revoke4 (r:RIs w p T L d) {i:Nat} {h:Hs} (hi:L[i]?=some h) {n:Nat} (hok:HsOk n h) (hn:n≤256) (c:Cl) (hc:c.ten=(i:Int)) (hcok:c.Ok) (now:Nat) (hnow:now<18446744073709551616) (hkd:c.kind=4) :
    Calls Tryz.prog 23 #[.pointer (some ⟨p,0,none⟩),clV c,.int .u64 (now:Nat)] w (RDo w p T L d ((revokeN h c now).1,L.set i (revokeN h c now).2)):=by
  have HR:=Lib.hid r
  have HI:=Lib.hid hi
  have t1:=two_blocks w 4 (i:Int) c.tok c.usr c.dat c.ttl c.frm c.draw
  have bx0:Box w _ 4 (i:Int) c.tok c.usr c.dat c.ttl c.frm c.draw:=⟨t1.1,t1.2.1,t1.2.2⟩
  have B0:=Lib.hid bx0
  have HOK:=Lib.hid hok
  have HD:=fun W (hb:Below w.heap.size w W)=>ref_drops (r.kept hb) hi (by have:=hok.len;omega) c hc now (.inl hkd)
  unfold clV at HD
  rw [hc,hkd,dropP_4 hkd] at HD
  have HDR:=Lib.hid HD
  obtain ⟨post,hpost⟩:∃ x,x=(revokeN h c now):=⟨_,rfl⟩
  rw [←hpost]
  have HPO:=Lib.hid hpost
  unfold clV
  rw [hc,hkd]
  clear bx0 t1 r hi hok hcok hc hkd HD hpost
  go_enter Tryz.func23,Tryz.ntmps23
  go_wp2_with fail
  refine (HDR.out _ B0.out.below).mono ?_
  rintro e w4 ⟨rfl,hT⟩
  obtain ⟨d2,r2,l2,n2,b2,tr2⟩:=hT.inv (HR.out.kept B0.out.below)
  have hab:∀ k,w.heap.size≤k→¬ d.own L.length k:=fun k hk h'=>by have:=HR.out.own_lt h';omega
  have KX:=Lib.hid ((b2 w.heap.size B0.out.box.lt (hab _ (Nat.le_refl _))).trans B0.out.box)
  have KA:Blk w4 (w.heap.size+1) zero14 35:=(b2 _ B0.out.ans.lt (hab _ (by omega))).trans B0.out.ans
  have HKA:=Lib.hid KA
  have HNA:=Lib.hid (n2 _ B0.out.ans.lt (hab (w.heap.size+1) (by omega)))
  have HT:=Lib.hid (RTo.after B0.out.below hT)
  have HTR:=Lib.hid (fun L2 w2 hh=>RTo.after B0.out.below (tr2 L2 w2 hh))
  have HL2:=Lib.hid l2
  have HR2:=Lib.hid r2
  clear hT r2 l2 n2 b2 tr2 KA hab HDR B0
  have x0:=Blk.cell KX.out 0 (.int .i64 4) rfl
  cases hf:findN h.ses c.tok now with
  | none =>
    obtain ⟨f1,f2⟩:=find_none hf
    have hF:=Lib.hid (show (post.1,L.set i post.2)=(badA 404,L) by rw [HPO.out];unfold revokeN;rw [hf];simp only;rw [set_self HI.out])
    have hT2:=HT.out
    rw [f2] at hT2
    rw [show L.set i { h with ses:=h.ses }=L from set_self HI.out] at hT2
    have HT2:=Lib.hid hT2
    rw [f1]
    clear hf f1 f2 hT2 HT
    go_wp2_with fail
    refine (ref_bad 404 (⟨#[109,105,115,115,105,110,103]⟩) _).mono ?_
    rintro e w9 ⟨rfl,hb9⟩
    have KA9:=HKA.out.kept hb9
    go_wp2_with (refine wpList_store_blk rfl 35 (Operand.tmp 6) (Operand.tmp 27) rfl (w.heap.size+1) rfl zero14 _ 35 rfl KA9 (by exact Tryz.size35) rfl (by simp [ansArr,Ans.zero,Value.oneCell']) ?_;intro w11 hk11 ho11 hs11)
    refine body_cell rfl rfl rfl hk11 Tryz.underlying35 rfl (by exact Tryz.size35) ?_
    rw [anV_bad 404 (⟨#[109,105,115,115,105,110,103]⟩) rfl,hF.out]
    exact RDo.of ((HT2.out.then hb9).store (ab:=w.heap.size+1) (by omega) ⟨_,_,KA9⟩ ho11) rfl rfl
  | some s =>
    obtain ⟨f1,f2⟩:=find_some HOK.out.sorted hf
    have hF:=Lib.hid (show post=({ status:=204 },{ h with ses:=h.ses.filter (fun s=>!(s.tok.toList == c.tok.toList)),ents:=noteN h.ents 4 now c.tok }) by rw [HPO.out];unfold revokeN;rw [hf])
    have x1:=Blk.cell KX.out 1 (.int .i64 (i:Int)) rfl
    have x2:=Blk.cell KX.out 2 (.string c.tok) rfl
    have x3:=Blk.cell KX.out 3 (.string c.usr) rfl
    have x4:=Blk.cell KX.out 4 (.string c.dat) rfl
    have x5:=Blk.cell KX.out 5 (.int .i64 c.ttl) rfl
    have x6:=Blk.cell KX.out 6 (.int .i64 c.frm) rfl
    have x7:=Blk.cell KX.out 7 (.int .u64 (c.draw:Int)) rfl
    have hr2:=HR2.out
    have hi2:(L.set i { h with ses:=h.ses.filter fun s=>!hitB c.tok now s })[i]?=some { h with ses:=h.ses.filter fun s=>!hitB c.tok now s }:=by
      rw [List.getElem?_set_self (List.getElem?_eq_some_iff.1 HI.out).1]
    have HA:=Lib.hid (ref_audit hr2 hi2 (by have:=HOK.out.ents;show h.ents.length≤_;omega) ⟨4,(i:Int),c.tok,c.usr,c.dat,c.ttl,c.frm,c.draw⟩ rfl 4 rfl now c.tok)
    obtain ⟨m,hm⟩:∃ m,(h.ses.filter (hitB c.tok now)).length=m:=⟨_,rfl⟩
    rw [hm] at f1 ⊢
    have q1:((m:Int) == 0)=false:=beq_eq_false_iff_ne.2 (by omega)
    clear hm
    have HF2:=Lib.hid f2
    clear hf f1 f2 hr2 hi2
    go_wp2_with fail
    refine HA.out.mono ?_
    rintro e w10 ⟨rfl,HT3,_⟩
    obtain ⟨d3,r3,l3,n3,b3,tr3⟩:=RTo.inv HR2.out HT3
    have KA3:Blk w10 (w.heap.size+1) zero14 35:=(b3 _ HKA.out.lt HNA.out).trans HKA.out
    have HT4:=Lib.hid (HTR.out _ _ HT3)
    have HKA3:=Lib.hid KA3
    clear x0 x1 x2 x3 x4 x5 x6 x7 KA3 r3 l3 n3 b3 tr3 HT3 HA q1
    go_wp2_with (refine wpList_store_blk rfl 35 (Operand.tmp 6) (Operand.tmp 34) rfl (w.heap.size+1) rfl zero14 (ansArr ⟨204,⟨#[]⟩,⟨#[]⟩,⟨#[]⟩,⟨#[]⟩,0,0,.slice none 0 0,.slice none 0 0,⟨#[]⟩,0,0,0,0⟩) 35 rfl HKA3.out (by exact Tryz.size35) rfl (by simp [ansArr,Value.oneCell']) ?_;intro w11 hk11 ho11 hs11)
    refine body_cell rfl rfl rfl hk11 Tryz.underlying35 rfl (by exact Tryz.size35) ?_
    have hT3:=HT4.out
    rw [List.set_set,HF2.out] at hT3
    have hfin:=RDo.of (a:={ status:=204 }) (hT3.store (ab:=w.heap.size+1) (by omega) ⟨_,_,HKA3.out⟩ ho11) rfl rfl
    rw [hF.out]
    exact hfin
set_option maxRecDepth 100000 in
set_option maxHeartbeats 8000000 in
theorem ref_revoke6 (r:RIs w p T L d) {i:Nat} {h:Hs} (hi:L[i]?=some h) {n:Nat} (hok:HsOk n h) (hn:n≤256) (c:Cl) (hc:c.ten=(i:Int)) (now:Nat) (hnow:now<18446744073709551616) (hkd:c.kind=6) :
    Calls Tryz.prog 23 #[.pointer (some ⟨p,0,none⟩),clV c,.int .u64 (now:Nat)] w (RDo w p T L d ((revokeAllN h c now).1,L.set i (revokeAllN h c now).2)):=by
  have HR:=Lib.hid r
  have HI:=Lib.hid hi
  have t1:=two_blocks w 6 (i:Int) c.tok c.usr c.dat c.ttl c.frm c.draw
  have BX:Box w _ 6 (i:Int) c.tok c.usr c.dat c.ttl c.frm c.draw:=⟨t1.1,t1.2.1,t1.2.2⟩
  have HOK:=Lib.hid hok
  have HD:=fun W (hb:Below w.heap.size w W)=>ref_drops (r.kept hb) hi (by have:=hok.len;omega) c hc now (.inr (.inr hkd))
  unfold clV at HD
  rw [hc,hkd,dropP_6 hkd] at HD
  have HDR:=Lib.hid HD
  obtain ⟨post,hpost⟩:∃ x,x=(revokeAllN h c now):=⟨_,rfl⟩
  rw [←hpost]
  unfold revokeAllN at hpost
  have HPO:=Lib.hid hpost
  have HBX:=Lib.hid BX
  unfold clV
  rw [hc,hkd]
  clear BX t1 r hi hok hc hkd HD hpost
  go_enter Tryz.func23,Tryz.ntmps23
  go_wp2_with fail
  refine (HDR.out _ HBX.out.below).mono ?_
  have BX:=HBX.out
  clear HBX
  rintro e w4 ⟨rfl,hT⟩
  obtain ⟨d2,r2,l2,n2,b2,tr2⟩:=hT.inv (HR.out.kept BX.below)
  have hab:∀ k,w.heap.size≤k→¬ d.own L.length k:=fun k hk h'=>by have:=HR.out.own_lt h';omega
  have KX:=Lib.hid ((b2 w.heap.size BX.box.lt (hab _ (Nat.le_refl _))).trans BX.box)
  have KA:Blk w4 (w.heap.size+1) zero14 35:=(b2 _ BX.ans.lt (hab _ (by omega))).trans BX.ans
  have HKA:=Lib.hid KA
  have HNA:=Lib.hid (n2 _ BX.ans.lt (hab (w.heap.size+1) (by omega)))
  have HNX:=Lib.hid (n2 _ BX.box.lt (hab w.heap.size (Nat.le_refl _)))
  have HT:=Lib.hid (RTo.after BX.below hT)
  have HTR:=Lib.hid (fun L2 w2 hh=>RTo.after BX.below (tr2 L2 w2 hh))
  have HL2:=Lib.hid l2
  have HR2:=Lib.hid r2
  clear hT r2 l2 n2 b2 tr2 KA hab HDR
  have x0:=Blk.cell KX.out 0 (.int .i64 6) rfl
  obtain ⟨m,hm⟩:∃ m,(h.ses.filter ((liveB now))).length=m:=⟨_,rfl⟩
  rw [hm]
  have HM:=Lib.hid hm
  clear hm
  by_cases hm0:0<m
  · have hF:=Lib.hid (show post=({ status:=200,rev:=m },{ h with ses:=h.ses.filter (fun s=>!(liveB now) s),ents:=noteN h.ents 6 now (⟨#[]⟩) }) by
      rw [HPO.out];unfold takesN;rw [HM.out,if_pos hm0])
    have x1:=Blk.cell KX.out 1 (.int .i64 (i:Int)) rfl
    have x2:=Blk.cell KX.out 2 (.string c.tok) rfl
    have x3:=Blk.cell KX.out 3 (.string c.usr) rfl
    have x4:=Blk.cell KX.out 4 (.string c.dat) rfl
    have x5:=Blk.cell KX.out 5 (.int .i64 c.ttl) rfl
    have x6:=Blk.cell KX.out 6 (.int .i64 c.frm) rfl
    have x7:=Blk.cell KX.out 7 (.int .u64 (c.draw:Int)) rfl
    have hr2:=HR2.out
    have hi2:(L.set i { h with ses:=h.ses.filter fun s=>!(liveB now) s })[i]?=some { h with ses:=h.ses.filter fun s=>!(liveB now) s }:=by
      rw [List.getElem?_set_self (List.getElem?_eq_some_iff.1 HI.out).1]
    have HA:=Lib.hid (ref_audit hr2 hi2 (by have:=HOK.out.ents;show h.ents.length≤_;omega) ⟨6,(i:Int),c.tok,c.usr,c.dat,c.ttl,c.frm,c.draw⟩ rfl 6 rfl now (⟨#[]⟩))
    have m0:(0:Int)<(m:Int):=by omega
    clear hr2 hi2
    go_wp2_with fail
    refine HA.out.mono ?_
    rintro e w10 ⟨rfl,HT3,_⟩
    obtain ⟨d3,r3,l3,n3,b3,tr3⟩:=RTo.inv HR2.out HT3
    have KA3:Blk w10 (w.heap.size+1) zero14 35:=(b3 _ HKA.out.lt HNA.out).trans HKA.out
    have y0:w10.cell? ⟨w.heap.size,0,none⟩=some (.int .i64 6):=Blk.cell (t:=53) ((b3 _ (lt_of_block KX.out) HNX.out).trans KX.out) 0 _ rfl
    have HT4:=Lib.hid (HTR.out _ _ HT3)
    have HKA3:=Lib.hid KA3
    clear x0 x1 x2 x3 x4 x5 x6 x7 KA3 r3 l3 n3 b3 tr3 HT3 HA
    go_wp2_with (refine wpList_store_blk rfl 35 (Operand.tmp 6) (Operand.tmp 60) rfl (w.heap.size+1) rfl zero14 (ansArr ⟨200,⟨#[]⟩,⟨#[]⟩,⟨#[]⟩,⟨#[]⟩,0,(m:Int),.slice none 0 0,.slice none 0 0,⟨#[]⟩,0,0,0,0⟩) 35 rfl HKA3.out (by exact Tryz.size35) rfl (by simp [ansArr,Value.oneCell']) ?_;intro w11 hk11 ho11 hs11)
    refine body_cell rfl rfl rfl hk11 Tryz.underlying35 rfl (by exact Tryz.size35) ?_
    have hT3:=HT4.out
    rw [List.set_set] at hT3
    have hfin:=RDo.of (a:={ status:=200,rev:=m }) (hT3.store (ab:=w.heap.size+1) (by omega) ⟨_,_,HKA3.out⟩ ho11) rfl rfl
    rw [hF.out]
    exact hfin
  · have hF:=Lib.hid (show post=({ status:=200,rev:=m },{ h with ses:=h.ses.filter (fun s=>!(liveB now) s) }) by
      rw [HPO.out];unfold takesN;rw [HM.out,if_neg hm0])
    go_wp2_with (refine wpList_store_blk rfl 35 (Operand.tmp 6) (Operand.tmp 60) rfl (w.heap.size+1) rfl zero14 (ansArr ⟨200,⟨#[]⟩,⟨#[]⟩,⟨#[]⟩,⟨#[]⟩,0,(m:Int),.slice none 0 0,.slice none 0 0,⟨#[]⟩,0,0,0,0⟩) 35 rfl HKA.out (by exact Tryz.size35) rfl (by simp [ansArr,Value.oneCell']) ?_;intro w11 hk11 ho11 hs11)
    refine body_cell rfl rfl rfl hk11 Tryz.underlying35 rfl (by exact Tryz.size35) ?_
    have hfin:=RDo.of (a:={ status:=200,rev:=m }) (HT.out.store (ab:=w.heap.size+1) (by omega) ⟨_,_,HKA.out⟩ ho11) rfl rfl
    rw [hF.out]
    exact hfin
set_option maxRecDepth 100000 in
set_option maxHeartbeats 8000000 in
theorem ref_revoke5 (r:RIs w p T L d) {i:Nat} {h:Hs} (hi:L[i]?=some h) {n:Nat} (hok:HsOk n h) (hn:n≤256) (c:Cl) (hc:c.ten=(i:Int)) (hcok:c.Ok) (now:Nat) (hnow:now<18446744073709551616) (hkd:c.kind=5) :
    Calls Tryz.prog 23 #[.pointer (some ⟨p,0,none⟩),clV c,.int .u64 (now:Nat)] w (RDo w p T L d ((revokeUserN h c now).1,L.set i (revokeUserN h c now).2)):=by
  have HR:=Lib.hid r
  have HI:=Lib.hid hi
  have t1:=two_blocks w 5 (i:Int) c.tok c.usr c.dat c.ttl c.frm c.draw
  have B0:=Lib.hid (fun W hb=>Box.kept (W':=W) ⟨t1.1,t1.2.1,t1.2.2⟩ hb)
  have HOK:=Lib.hid hok
  have HNm:=Lib.hid (ref_Name c.usr hcok.usr)
  have HD:=fun W (hb:Below w.heap.size w W)=>ref_drops (r.kept hb) hi (by have:=hok.len;omega) c hc now (.inr (.inl hkd))
  unfold clV at HD
  rw [hc,hkd,dropP_5 hkd] at HD
  have HDR:=Lib.hid HD
  obtain ⟨post,hpost⟩:∃ x,x=(revokeUserN h c now):=⟨_,rfl⟩
  rw [←hpost]
  unfold clV
  rw [hc,hkd]
  clear t1 r hi hok hcok hc hkd HD
  unfold revokeUserN at hpost
  cases b1:nameN c.usr with
  | false =>
    rw [b1] at HNm
    have hF:=Lib.hid (show (post.1,L.set i post.2)=(badA 400,L) by rw [hpost,if_pos b1];simp only;rw [set_self HI.out])
    clear hpost b1 HDR
    go_enter Tryz.func23,Tryz.ntmps23
    go_wp2_with fail
    refine (HNm.out _).mono ?_
    rintro e w1 ⟨rfl,hb1⟩
    have BX:=B0.out w1 hb1
    clear hb1
    go_wp2_with fail
    refine (ref_bad 400 (⟨#[98,97,100]⟩) _).mono ?_
    rintro e w9 ⟨rfl,hb9⟩
    have bx9:=BX.kept hb9
    go_wp2_with (refine wpList_store_blk rfl 35 (Operand.tmp 6) (Operand.tmp 17) rfl (w.heap.size+1) rfl zero14 _ 35 rfl bx9.ans (by exact Tryz.size35) rfl (by simp [ansArr,Ans.zero,Value.oneCell']) ?_;intro w10 hk10 ho10 hs10)
    refine body_cell rfl rfl rfl hk10 Tryz.underlying35 rfl (by exact Tryz.size35) ?_
    have hbx:Below w.heap.size w w10:=bx9.below.trans (ho10.below bx9.below.size (fun k hk=>by rw [hk];exact Nat.le_succ _))
    rw [anV_bad 400 (⟨#[98,97,100]⟩) rfl,hF.out]
    exact RDo.of (RTo.refl HR.out hbx) rfl rfl
  | true =>
    rw [b1] at HNm
    rw [if_neg (by rw [b1];simp)] at hpost
    have HPO:=Lib.hid hpost
    clear hpost b1
    go_enter Tryz.func23,Tryz.ntmps23
    go_wp2_with fail
    refine (HNm.out _).mono ?_
    rintro e w1 ⟨rfl,hb1⟩
    have HBX:=Lib.hid (B0.out w1 hb1)
    have x0:=HBX.out.box.cell 0 _ rfl
    have x1:=HBX.out.box.cell 1 _ rfl
    have x2:=HBX.out.box.cell 2 _ rfl
    have x3:=HBX.out.box.cell 3 _ rfl
    have x4:=HBX.out.box.cell 4 _ rfl
    have x5:=HBX.out.box.cell 5 _ rfl
    have x6:=HBX.out.box.cell 6 _ rfl
    have x7:=HBX.out.box.cell 7 _ rfl
    clear hb1 HNm
    go_wp2_with fail
    refine (HDR.out _ HBX.out.below).mono ?_
    have BX:=HBX.out
    clear HBX x0 x1 x2 x3 x4 x5 x6 x7
    rintro e w4 ⟨rfl,hT⟩
    obtain ⟨d2,r2,l2,n2,b2,tr2⟩:=hT.inv (HR.out.kept BX.below)
    have hab:∀ k,w.heap.size≤k→¬ d.own L.length k:=fun k hk h'=>by have:=HR.out.own_lt h';omega
    have KX:=Lib.hid ((b2 w.heap.size BX.box.lt (hab _ (Nat.le_refl _))).trans BX.box)
    have KA:Blk w4 (w.heap.size+1) zero14 35:=(b2 _ BX.ans.lt (hab _ (by omega))).trans BX.ans
    have HKA:=Lib.hid KA
    have HNA:=Lib.hid (n2 _ BX.ans.lt (hab (w.heap.size+1) (by omega)))
    have HNX:=Lib.hid (n2 _ BX.box.lt (hab w.heap.size (Nat.le_refl _)))
    have HT:=Lib.hid (RTo.after BX.below hT)
    have HTR:=Lib.hid (fun L2 w2 hh=>RTo.after BX.below (tr2 L2 w2 hh))
    have HL2:=Lib.hid l2
    have HR2:=Lib.hid r2
    clear hT r2 l2 n2 b2 tr2 KA hab HDR
    have x0:=Blk.cell KX.out 0 (.int .i64 5) rfl
    obtain ⟨m,hm⟩:∃ m,(h.ses.filter ((usrB c.usr now))).length=m:=⟨_,rfl⟩
    rw [hm]
    have HM:=Lib.hid hm
    clear hm
    by_cases hm0:0<m
    · have hF:=Lib.hid (show post=({ status:=200,rev:=m },{ h with ses:=h.ses.filter (fun s=>!(usrB c.usr now) s),ents:=noteN h.ents 5 now c.usr }) by
        rw [HPO.out];unfold takesN;rw [HM.out,if_pos hm0])
      have x1:=Blk.cell KX.out 1 (.int .i64 (i:Int)) rfl
      have x2:=Blk.cell KX.out 2 (.string c.tok) rfl
      have x3:=Blk.cell KX.out 3 (.string c.usr) rfl
      have x4:=Blk.cell KX.out 4 (.string c.dat) rfl
      have x5:=Blk.cell KX.out 5 (.int .i64 c.ttl) rfl
      have x6:=Blk.cell KX.out 6 (.int .i64 c.frm) rfl
      have x7:=Blk.cell KX.out 7 (.int .u64 (c.draw:Int)) rfl
      have hr2:=HR2.out
      have hi2:(L.set i { h with ses:=h.ses.filter fun s=>!(usrB c.usr now) s })[i]?=some { h with ses:=h.ses.filter fun s=>!(usrB c.usr now) s }:=by
        rw [List.getElem?_set_self (List.getElem?_eq_some_iff.1 HI.out).1]
      have HA:=Lib.hid (ref_audit hr2 hi2 (by have:=HOK.out.ents;show h.ents.length≤_;omega) ⟨5,(i:Int),c.tok,c.usr,c.dat,c.ttl,c.frm,c.draw⟩ rfl 5 rfl now c.usr)
      have m0:(0:Int)<(m:Int):=by omega
      clear hr2 hi2
      go_wp2_with fail
      refine HA.out.mono ?_
      rintro e w10 ⟨rfl,HT3,_⟩
      obtain ⟨d3,r3,l3,n3,b3,tr3⟩:=RTo.inv HR2.out HT3
      have KA3:Blk w10 (w.heap.size+1) zero14 35:=(b3 _ HKA.out.lt HNA.out).trans HKA.out
      have y0:w10.cell? ⟨w.heap.size,0,none⟩=some (.int .i64 5):=Blk.cell (t:=53) ((b3 _ (lt_of_block KX.out) HNX.out).trans KX.out) 0 _ rfl
      have HT4:=Lib.hid (HTR.out _ _ HT3)
      have HKA3:=Lib.hid KA3
      clear x0 x1 x2 x3 x4 x5 x6 x7 KA3 r3 l3 n3 b3 tr3 HT3 HA
      go_wp2_with (refine wpList_store_blk rfl 35 (Operand.tmp 6) (Operand.tmp 60) rfl (w.heap.size+1) rfl zero14 (ansArr ⟨200,⟨#[]⟩,⟨#[]⟩,⟨#[]⟩,⟨#[]⟩,0,(m:Int),.slice none 0 0,.slice none 0 0,⟨#[]⟩,0,0,0,0⟩) 35 rfl HKA3.out (by exact Tryz.size35) rfl (by simp [ansArr,Value.oneCell']) ?_;intro w11 hk11 ho11 hs11)
      refine body_cell rfl rfl rfl hk11 Tryz.underlying35 rfl (by exact Tryz.size35) ?_
      have hT3:=HT4.out
      rw [List.set_set] at hT3
      have hfin:=RDo.of (a:={ status:=200,rev:=m }) (hT3.store (ab:=w.heap.size+1) (by omega) ⟨_,_,HKA3.out⟩ ho11) rfl rfl
      rw [hF.out]
      exact hfin
    · have hF:=Lib.hid (show post=({ status:=200,rev:=m },{ h with ses:=h.ses.filter (fun s=>!(usrB c.usr now) s) }) by
        rw [HPO.out];unfold takesN;rw [HM.out,if_neg hm0])
      go_wp2_with (refine wpList_store_blk rfl 35 (Operand.tmp 6) (Operand.tmp 60) rfl (w.heap.size+1) rfl zero14 (ansArr ⟨200,⟨#[]⟩,⟨#[]⟩,⟨#[]⟩,⟨#[]⟩,0,(m:Int),.slice none 0 0,.slice none 0 0,⟨#[]⟩,0,0,0,0⟩) 35 rfl HKA.out (by exact Tryz.size35) rfl (by simp [ansArr,Value.oneCell']) ?_;intro w11 hk11 ho11 hs11)
      refine body_cell rfl rfl rfl hk11 Tryz.underlying35 rfl (by exact Tryz.size35) ?_
      have hfin:=RDo.of (a:={ status:=200,rev:=m }) (HT.out.store (ab:=w.heap.size+1) (by omega) ⟨_,_,HKA.out⟩ ho11) rfl rfl
      rw [hF.out]
      exact hfin
end Go.Proofs.YtmdgeknnhckgfaaGreatDoor
namespace Go.Proofs.YtmdgeknnhckgfaaGreatDoor
open Go Go.RowKit
theorem Tryz.size53:(Tryz.prog.info? 53).map (·.size)=some 8:=by kernel_rfl
variable {w:World} {p:Nat} {T:List Ten} {L:List Hs} {d:RD}
set_option maxRecDepth 100000 in
set_option maxHeartbeats 8000000 in
theorem ref_Do (r:RIs w p T L d) {n:Nat} (hok:LOk n L) (hn:n≤256) (c:Cl) (hcok:c.Ok) (now:Nat) (hnow:now<18446744073709551616) :
    Calls Tryz.prog 7 #[.pointer (some ⟨p,0,none⟩),clV c,.int .u64 (now:Nat)] w (RDo w p T L d (doN L c now)):=by
  have HR:=Lib.hid r
  have t1:=two_blocks w c.kind c.ten c.tok c.usr c.dat c.ttl c.frm c.draw
  have bx0:Box w _ c.kind c.ten c.tok c.usr c.dat c.ttl c.frm c.draw:=⟨t1.1,t1.2.1,t1.2.2⟩
  obtain ⟨w1,hw1⟩:∃ x,x=((w.alloc (.cells #[.int .i64 c.kind,.int .i64 c.ten,.string c.tok,.string c.usr,.string c.dat,.int .i64 c.ttl,.int .i64 c.frm,.int .u64 (c.draw:Int)] 53)).alloc (.cells zero14 35)):=⟨_,rfl⟩
  rw [←hw1] at bx0
  have r1:=r.kept bx0.below
  have his:=ref_is r1 c.ten
  have x0:=bx0.box.cell 0 (.int .i64 c.kind) rfl
  have HX0:=Lib.hid x0
  have HB1:=Lib.hid bx0
  have HIS:=Lib.hid his
  have HW:=Lib.hid hw1
  clear t1 r x0 hw1 bx0 his
  cases hh:houseN L c.ten with
  | none =>
    have hF:=Lib.hid (show doN L c now=(badA 400,L) by unfold doN;rw [hh])
    have hI:(houseN L c.ten).isSome=false:=by rw [hh];rfl
    rw [hI] at HIS
    clear hI hh r1 HX0
    unfold clV
    go_enter Tryz.func7,Tryz.ntmps7
    go_wp2_with fail
    refine (show Calls Tryz.prog 19 _ _ _ from HW.out ▸ HIS.out).mono ?_
    rintro e w2 ⟨rfl,hu⟩
    obtain rfl:w2=w1:=hu.trans HW.out.symm
    have BX:=HB1.out
    clear hu HW
    go_wp2_with fail
    refine (ref_bad 400 ⟨#[98,97,100]⟩ _).mono ?_
    rintro e w9 ⟨rfl,hb9⟩
    have bx9:=BX.kept hb9
    go_wp2_with (refine wpList_store_blk rfl 35 (Operand.tmp 6) (Operand.tmp 12) rfl (w.heap.size+1) rfl zero14 _ 35 rfl bx9.ans (by exact Tryz.size35) rfl (by simp [ansArr,Ans.zero,Value.oneCell']) ?_;intro w10 hk10 ho10 hs10)
    refine body_cell rfl rfl rfl hk10 Tryz.underlying35 rfl (by exact Tryz.size35) ?_
    have hbx:Below w.heap.size w w10:=bx9.below.trans (ho10.below bx9.below.size (fun k hk=>by rw [hk];exact Nat.le_succ _))
    rw [anV_bad 400 ⟨#[98,97,100]⟩ rfl,hF.out]
    exact RDo.of (RTo.refl HR.out hbx) rfl rfl
  | some h =>
    obtain ⟨ckind,cten,ctok,cusr,cdat,cttl,cfrm,cdraw⟩:=c
    obtain ⟨i,hc,hi⟩:∃ i:Nat,cten=(i:Int)∧L[i]?=some h:=by
      obtain ⟨e0,_,e2⟩:=houseN_some hh
      simp only at e0 e2
      exact ⟨cten.toNat,by omega,e2⟩
    have hokh:=hok h (List.mem_of_getElem? hi)
    simp only at hh HIS HX0 HB1 HW
    have hI:(houseN L cten).isSome=true:=by rw [hh];rfl
    rw [hI] at HIS
    subst hc
    have hD:∀ c':Cl,c'.ten=(i:Int)→doN L c' now=((doH h c' now).1,L.set i (doH h c' now).2):=by intro c' hc';unfold doN;rw [hc',hh];rfl
    clear hI hh
    by_cases k1:ckind=1
    · subst k1
      have hF:=Lib.hid (show doN L ⟨1,(i:Int),ctok,cusr,cdat,cttl,cfrm,cdraw⟩ now=((createN h ⟨1,(i:Int),ctok,cusr,cdat,cttl,cfrm,cdraw⟩ now).1,L.set i (createN h ⟨1,(i:Int),ctok,cusr,cdat,cttl,cfrm,cdraw⟩ now).2) by rw [hD _ rfl];unfold doH;simp)
      have HS:=Lib.hid (ref_create r1 hi hokh (by omega) ⟨1,(i:Int),ctok,cusr,cdat,cttl,cfrm,cdraw⟩ rfl hcok now hnow rfl)
      have x1:w1.cell? ⟨w.heap.size,0,none⟩=some (.int .i64 1):=HX0.out
      clear hokh hcok hD hi hok r1 HX0
      unfold clV
      go_enter Tryz.func7,Tryz.ntmps7
      go_wp2_with fail
      refine (show Calls Tryz.prog 19 _ _ _ from HW.out ▸ HIS.out).mono ?_
      rintro e w2 ⟨rfl,hu⟩
      obtain rfl:w2=w1:=hu.trans HW.out.symm
      clear hu HW
      go_wp2_with (refine wpList_load_blk rfl 53 (Operand.tmp 4) rfl w.heap.size rfl 53 _ _ HB1.out.box Tryz.underlying53 rfl (by exact Tryz.size53) ?_)
      refine HS.out.mono ?_
      intro e w4 h4
      obtain ⟨arr,rfl,h1,h2,KA,hfin⟩:=RDo.pass HR.out HB1.out h4
      have HFIN:=Lib.hid hfin
      have HKA:=Lib.hid KA
      clear h4 HS hfin KA
      go_wp2_with (refine wpList_store_blk rfl 35 (Operand.tmp 6) (Operand.tmp 20) rfl (w.heap.size+1) rfl zero14 arr 35 rfl HKA.out (by rw [h1];exact Tryz.size35) (by rw [h1];rfl) h2 ?_;intro w11 hk11 ho11 hs11)
      refine body_cell rfl rfl rfl hk11 Tryz.underlying35 rfl (by rw [h1];exact Tryz.size35) ?_
      rw [hF.out]
      exact HFIN.out _ ho11
    by_cases k2:ckind=2
    · subst k2
      have hF:=Lib.hid (show doN L ⟨2,(i:Int),ctok,cusr,cdat,cttl,cfrm,cdraw⟩ now=((getN h ⟨2,(i:Int),ctok,cusr,cdat,cttl,cfrm,cdraw⟩ now).1,L.set i (getN h ⟨2,(i:Int),ctok,cusr,cdat,cttl,cfrm,cdraw⟩ now).2) by rw [hD _ rfl];unfold doH;simp)
      have HS:=Lib.hid (ref_get r1 hi ⟨2,(i:Int),ctok,cusr,cdat,cttl,cfrm,cdraw⟩ rfl now rfl)
      have x1:w1.cell? ⟨w.heap.size,0,none⟩=some (.int .i64 2):=HX0.out
      clear hokh hcok hD hi hok r1 HX0
      unfold clV
      go_enter Tryz.func7,Tryz.ntmps7
      go_wp2_with fail
      refine (show Calls Tryz.prog 19 _ _ _ from HW.out ▸ HIS.out).mono ?_
      rintro e w2 ⟨rfl,hu⟩
      obtain rfl:w2=w1:=hu.trans HW.out.symm
      clear hu HW
      go_wp2_with (refine wpList_load_blk rfl 53 (Operand.tmp 4) rfl w.heap.size rfl 53 _ _ HB1.out.box Tryz.underlying53 rfl (by exact Tryz.size53) ?_)
      refine HS.out.mono ?_
      intro e w4 h4
      obtain ⟨arr,rfl,h1,h2,KA,hfin⟩:=RDo.pass HR.out HB1.out h4
      have HFIN:=Lib.hid hfin
      have HKA:=Lib.hid KA
      clear h4 HS hfin KA
      go_wp2_with (refine wpList_store_blk rfl 35 (Operand.tmp 6) (Operand.tmp 43) rfl (w.heap.size+1) rfl zero14 arr 35 rfl HKA.out (by rw [h1];exact Tryz.size35) (by rw [h1];rfl) h2 ?_;intro w11 hk11 ho11 hs11)
      refine body_cell rfl rfl rfl hk11 Tryz.underlying35 rfl (by rw [h1];exact Tryz.size35) ?_
      rw [hF.out]
      exact HFIN.out _ ho11
    by_cases k3:ckind=3
    · subst k3
      have hF:=Lib.hid (show doN L ⟨3,(i:Int),ctok,cusr,cdat,cttl,cfrm,cdraw⟩ now=((touchN h ⟨3,(i:Int),ctok,cusr,cdat,cttl,cfrm,cdraw⟩ now).1,L.set i (touchN h ⟨3,(i:Int),ctok,cusr,cdat,cttl,cfrm,cdraw⟩ now).2) by rw [hD _ rfl];unfold doH;simp)
      have HS:=Lib.hid (ref_touch r1 hi hokh (by omega) ⟨3,(i:Int),ctok,cusr,cdat,cttl,cfrm,cdraw⟩ rfl hcok now hnow rfl)
      have x1:w1.cell? ⟨w.heap.size,0,none⟩=some (.int .i64 3):=HX0.out
      clear hokh hcok hD hi hok r1 HX0
      unfold clV
      go_enter Tryz.func7,Tryz.ntmps7
      go_wp2_with fail
      refine (show Calls Tryz.prog 19 _ _ _ from HW.out ▸ HIS.out).mono ?_
      rintro e w2 ⟨rfl,hu⟩
      obtain rfl:w2=w1:=hu.trans HW.out.symm
      clear hu HW
      go_wp2_with (refine wpList_load_blk rfl 53 (Operand.tmp 4) rfl w.heap.size rfl 53 _ _ HB1.out.box Tryz.underlying53 rfl (by exact Tryz.size53) ?_)
      refine HS.out.mono ?_
      intro e w4 h4
      obtain ⟨arr,rfl,h1,h2,KA,hfin⟩:=RDo.pass HR.out HB1.out h4
      have HFIN:=Lib.hid hfin
      have HKA:=Lib.hid KA
      clear h4 HS hfin KA
      go_wp2_with (refine wpList_store_blk rfl 35 (Operand.tmp 6) (Operand.tmp 26) rfl (w.heap.size+1) rfl zero14 arr 35 rfl HKA.out (by rw [h1];exact Tryz.size35) (by rw [h1];rfl) h2 ?_;intro w11 hk11 ho11 hs11)
      refine body_cell rfl rfl rfl hk11 Tryz.underlying35 rfl (by rw [h1];exact Tryz.size35) ?_
      rw [hF.out]
      exact HFIN.out _ ho11
    by_cases k4:ckind=4
    · subst k4
      have hF:=Lib.hid (show doN L ⟨4,(i:Int),ctok,cusr,cdat,cttl,cfrm,cdraw⟩ now=((revokeN h ⟨4,(i:Int),ctok,cusr,cdat,cttl,cfrm,cdraw⟩ now).1,L.set i (revokeN h ⟨4,(i:Int),ctok,cusr,cdat,cttl,cfrm,cdraw⟩ now).2) by rw [hD _ rfl];unfold doH;simp)
      have HS:=Lib.hid (ref_revoke4 r1 hi hokh (by omega) ⟨4,(i:Int),ctok,cusr,cdat,cttl,cfrm,cdraw⟩ rfl hcok now hnow rfl)
      have x1:w1.cell? ⟨w.heap.size,0,none⟩=some (.int .i64 4):=HX0.out
      clear hokh hcok hD hi hok r1 HX0
      unfold clV
      go_enter Tryz.func7,Tryz.ntmps7
      go_wp2_with fail
      refine (show Calls Tryz.prog 19 _ _ _ from HW.out ▸ HIS.out).mono ?_
      rintro e w2 ⟨rfl,hu⟩
      obtain rfl:w2=w1:=hu.trans HW.out.symm
      clear hu HW
      go_wp2_with (refine wpList_load_blk rfl 53 (Operand.tmp 4) rfl w.heap.size rfl 53 _ _ HB1.out.box Tryz.underlying53 rfl (by exact Tryz.size53) ?_)
      refine HS.out.mono ?_
      intro e w4 h4
      obtain ⟨arr,rfl,h1,h2,KA,hfin⟩:=RDo.pass HR.out HB1.out h4
      have HFIN:=Lib.hid hfin
      have HKA:=Lib.hid KA
      clear h4 HS hfin KA
      go_wp2_with (refine wpList_store_blk rfl 35 (Operand.tmp 6) (Operand.tmp 34) rfl (w.heap.size+1) rfl zero14 arr 35 rfl HKA.out (by rw [h1];exact Tryz.size35) (by rw [h1];rfl) h2 ?_;intro w11 hk11 ho11 hs11)
      refine body_cell rfl rfl rfl hk11 Tryz.underlying35 rfl (by rw [h1];exact Tryz.size35) ?_
      rw [hF.out]
      exact HFIN.out _ ho11
    by_cases k5:ckind=5
    · subst k5
      have hF:=Lib.hid (show doN L ⟨5,(i:Int),ctok,cusr,cdat,cttl,cfrm,cdraw⟩ now=((revokeUserN h ⟨5,(i:Int),ctok,cusr,cdat,cttl,cfrm,cdraw⟩ now).1,L.set i (revokeUserN h ⟨5,(i:Int),ctok,cusr,cdat,cttl,cfrm,cdraw⟩ now).2) by rw [hD _ rfl];unfold doH;simp)
      have HS:=Lib.hid (ref_revoke5 r1 hi hokh (by omega) ⟨5,(i:Int),ctok,cusr,cdat,cttl,cfrm,cdraw⟩ rfl hcok now hnow rfl)
      have x1:w1.cell? ⟨w.heap.size,0,none⟩=some (.int .i64 5):=HX0.out
      clear hokh hcok hD hi hok r1 HX0
      unfold clV
      go_enter Tryz.func7,Tryz.ntmps7
      go_wp2_with fail
      refine (show Calls Tryz.prog 19 _ _ _ from HW.out ▸ HIS.out).mono ?_
      rintro e w2 ⟨rfl,hu⟩
      obtain rfl:w2=w1:=hu.trans HW.out.symm
      clear hu HW
      go_wp2_with (refine wpList_load_blk rfl 53 (Operand.tmp 4) rfl w.heap.size rfl 53 _ _ HB1.out.box Tryz.underlying53 rfl (by exact Tryz.size53) ?_)
      refine HS.out.mono ?_
      intro e w4 h4
      obtain ⟨arr,rfl,h1,h2,KA,hfin⟩:=RDo.pass HR.out HB1.out h4
      have HFIN:=Lib.hid hfin
      have HKA:=Lib.hid KA
      clear h4 HS hfin KA
      go_wp2_with (refine wpList_store_blk rfl 35 (Operand.tmp 6) (Operand.tmp 34) rfl (w.heap.size+1) rfl zero14 arr 35 rfl HKA.out (by rw [h1];exact Tryz.size35) (by rw [h1];rfl) h2 ?_;intro w11 hk11 ho11 hs11)
      refine body_cell rfl rfl rfl hk11 Tryz.underlying35 rfl (by rw [h1];exact Tryz.size35) ?_
      rw [hF.out]
      exact HFIN.out _ ho11
    by_cases k6:ckind=6
    · subst k6
      have hF:=Lib.hid (show doN L ⟨6,(i:Int),ctok,cusr,cdat,cttl,cfrm,cdraw⟩ now=((revokeAllN h ⟨6,(i:Int),ctok,cusr,cdat,cttl,cfrm,cdraw⟩ now).1,L.set i (revokeAllN h ⟨6,(i:Int),ctok,cusr,cdat,cttl,cfrm,cdraw⟩ now).2) by rw [hD _ rfl];unfold doH;simp)
      have HS:=Lib.hid (ref_revoke6 r1 hi hokh (by omega) ⟨6,(i:Int),ctok,cusr,cdat,cttl,cfrm,cdraw⟩ rfl now hnow rfl)
      have x1:w1.cell? ⟨w.heap.size,0,none⟩=some (.int .i64 6):=HX0.out
      clear hokh hcok hD hi hok r1 HX0
      unfold clV
      go_enter Tryz.func7,Tryz.ntmps7
      go_wp2_with fail
      refine (show Calls Tryz.prog 19 _ _ _ from HW.out ▸ HIS.out).mono ?_
      rintro e w2 ⟨rfl,hu⟩
      obtain rfl:w2=w1:=hu.trans HW.out.symm
      clear hu HW
      go_wp2_with (refine wpList_load_blk rfl 53 (Operand.tmp 4) rfl w.heap.size rfl 53 _ _ HB1.out.box Tryz.underlying53 rfl (by exact Tryz.size53) ?_)
      refine HS.out.mono ?_
      intro e w4 h4
      obtain ⟨arr,rfl,h1,h2,KA,hfin⟩:=RDo.pass HR.out HB1.out h4
      have HFIN:=Lib.hid hfin
      have HKA:=Lib.hid KA
      clear h4 HS hfin KA
      go_wp2_with (refine wpList_store_blk rfl 35 (Operand.tmp 6) (Operand.tmp 34) rfl (w.heap.size+1) rfl zero14 arr 35 rfl HKA.out (by rw [h1];exact Tryz.size35) (by rw [h1];rfl) h2 ?_;intro w11 hk11 ho11 hs11)
      refine body_cell rfl rfl rfl hk11 Tryz.underlying35 rfl (by rw [h1];exact Tryz.size35) ?_
      rw [hF.out]
      exact HFIN.out _ ho11
    by_cases k7:ckind=7
    · subst k7
      have hF:=Lib.hid (show doN L ⟨7,(i:Int),ctok,cusr,cdat,cttl,cfrm,cdraw⟩ now=((listN h ⟨7,(i:Int),ctok,cusr,cdat,cttl,cfrm,cdraw⟩ now).1,L.set i (listN h ⟨7,(i:Int),ctok,cusr,cdat,cttl,cfrm,cdraw⟩ now).2) by rw [hD _ rfl];unfold doH;simp)
      have HS:=Lib.hid (ref_list r1 hi hokh (by omega) ⟨7,(i:Int),ctok,cusr,cdat,cttl,cfrm,cdraw⟩ rfl hcok now rfl)
      have x1:w1.cell? ⟨w.heap.size,0,none⟩=some (.int .i64 7):=HX0.out
      clear hokh hcok hD hi hok r1 HX0
      unfold clV
      go_enter Tryz.func7,Tryz.ntmps7
      go_wp2_with fail
      refine (show Calls Tryz.prog 19 _ _ _ from HW.out ▸ HIS.out).mono ?_
      rintro e w2 ⟨rfl,hu⟩
      obtain rfl:w2=w1:=hu.trans HW.out.symm
      clear hu HW
      go_wp2_with (refine wpList_load_blk rfl 53 (Operand.tmp 4) rfl w.heap.size rfl 53 _ _ HB1.out.box Tryz.underlying53 rfl (by exact Tryz.size53) ?_)
      refine HS.out.mono ?_
      intro e w4 h4
      obtain ⟨arr,rfl,h1,h2,KA,hfin⟩:=RDo.pass HR.out HB1.out h4
      have HFIN:=Lib.hid hfin
      have HKA:=Lib.hid KA
      clear h4 HS hfin KA
      go_wp2_with (refine wpList_store_blk rfl 35 (Operand.tmp 6) (Operand.tmp 43) rfl (w.heap.size+1) rfl zero14 arr 35 rfl HKA.out (by rw [h1];exact Tryz.size35) (by rw [h1];rfl) h2 ?_;intro w11 hk11 ho11 hs11)
      refine body_cell rfl rfl rfl hk11 Tryz.underlying35 rfl (by rw [h1];exact Tryz.size35) ?_
      rw [hF.out]
      exact HFIN.out _ ho11
    by_cases k8:ckind=8
    · subst k8
      have hF:=Lib.hid (show doN L ⟨8,(i:Int),ctok,cusr,cdat,cttl,cfrm,cdraw⟩ now=((auditN h ⟨8,(i:Int),ctok,cusr,cdat,cttl,cfrm,cdraw⟩).1,L.set i (auditN h ⟨8,(i:Int),ctok,cusr,cdat,cttl,cfrm,cdraw⟩).2) by rw [hD _ rfl];unfold doH;simp)
      have HS:=Lib.hid (ref_look8 r1 hi hokh (by omega) ⟨8,(i:Int),ctok,cusr,cdat,cttl,cfrm,cdraw⟩ rfl hcok now rfl)
      have x1:w1.cell? ⟨w.heap.size,0,none⟩=some (.int .i64 8):=HX0.out
      clear hokh hcok hD hi hok r1 HX0
      unfold clV
      go_enter Tryz.func7,Tryz.ntmps7
      go_wp2_with fail
      refine (show Calls Tryz.prog 19 _ _ _ from HW.out ▸ HIS.out).mono ?_
      rintro e w2 ⟨rfl,hu⟩
      obtain rfl:w2=w1:=hu.trans HW.out.symm
      clear hu HW
      go_wp2_with (refine wpList_load_blk rfl 53 (Operand.tmp 4) rfl w.heap.size rfl 53 _ _ HB1.out.box Tryz.underlying53 rfl (by exact Tryz.size53) ?_)
      refine HS.out.mono ?_
      intro e w4 h4
      obtain ⟨arr,rfl,h1,h2,KA,hfin⟩:=RDo.pass HR.out HB1.out h4
      have HFIN:=Lib.hid hfin
      have HKA:=Lib.hid KA
      clear h4 HS hfin KA
      go_wp2_with (refine wpList_store_blk rfl 35 (Operand.tmp 6) (Operand.tmp 43) rfl (w.heap.size+1) rfl zero14 arr 35 rfl HKA.out (by rw [h1];exact Tryz.size35) (by rw [h1];rfl) h2 ?_;intro w11 hk11 ho11 hs11)
      refine body_cell rfl rfl rfl hk11 Tryz.underlying35 rfl (by rw [h1];exact Tryz.size35) ?_
      rw [hF.out]
      exact HFIN.out _ ho11
    by_cases k9:ckind=9
    · subst k9
      have hF:=Lib.hid (show doN L ⟨9,(i:Int),ctok,cusr,cdat,cttl,cfrm,cdraw⟩ now=((statsN h now).1,L.set i (statsN h now).2) by rw [hD _ rfl];unfold doH;simp)
      have HS:=Lib.hid (ref_look9 r1 hi hokh (by omega) ⟨9,(i:Int),ctok,cusr,cdat,cttl,cfrm,cdraw⟩ rfl now rfl)
      have x1:w1.cell? ⟨w.heap.size,0,none⟩=some (.int .i64 9):=HX0.out
      clear hokh hcok hD hi hok r1 HX0
      unfold clV
      go_enter Tryz.func7,Tryz.ntmps7
      go_wp2_with fail
      refine (show Calls Tryz.prog 19 _ _ _ from HW.out ▸ HIS.out).mono ?_
      rintro e w2 ⟨rfl,hu⟩
      obtain rfl:w2=w1:=hu.trans HW.out.symm
      clear hu HW
      go_wp2_with (refine wpList_load_blk rfl 53 (Operand.tmp 4) rfl w.heap.size rfl 53 _ _ HB1.out.box Tryz.underlying53 rfl (by exact Tryz.size53) ?_)
      refine HS.out.mono ?_
      intro e w4 h4
      obtain ⟨arr,rfl,h1,h2,KA,hfin⟩:=RDo.pass HR.out HB1.out h4
      have HFIN:=Lib.hid hfin
      have HKA:=Lib.hid KA
      clear h4 HS hfin KA
      go_wp2_with (refine wpList_store_blk rfl 35 (Operand.tmp 6) (Operand.tmp 43) rfl (w.heap.size+1) rfl zero14 arr 35 rfl HKA.out (by rw [h1];exact Tryz.size35) (by rw [h1];rfl) h2 ?_;intro w11 hk11 ho11 hs11)
      refine body_cell rfl rfl rfl hk11 Tryz.underlying35 rfl (by rw [h1];exact Tryz.size35) ?_
      rw [hF.out]
      exact HFIN.out _ ho11
    have hF:=Lib.hid (show doN L ⟨ckind,(i:Int),ctok,cusr,cdat,cttl,cfrm,cdraw⟩ now=(badA 400,L) by rw [hD _ rfl];unfold doH;simp only [k1,k2,k3,k4,k5,k6,k7,k8,k9,if_false];rw [set_self hi])
    have x1:w1.cell? ⟨w.heap.size,0,none⟩=some (.int .i64 ckind):=HX0.out
    clear hokh hcok hD hi hok r1 HX0
    unfold clV
    go_enter Tryz.func7,Tryz.ntmps7
    go_wp2_with fail
    refine (show Calls Tryz.prog 19 _ _ _ from HW.out ▸ HIS.out).mono ?_
    rintro e w2 ⟨rfl,hu⟩
    obtain rfl:w2=w1:=hu.trans HW.out.symm
    clear hu HW
    have BX:=HB1.out
    go_wp2_with fail
    refine (ref_bad 400 ⟨#[98,97,100]⟩ _).mono ?_
    rintro e w9 ⟨rfl,hb9⟩
    have bx9:=BX.kept hb9
    go_wp2_with (refine wpList_store_blk rfl 35 (Operand.tmp 6) (Operand.tmp 44) rfl (w.heap.size+1) rfl zero14 _ 35 rfl bx9.ans (by exact Tryz.size35) rfl (by simp [ansArr,Ans.zero,Value.oneCell']) ?_;intro w10 hk10 ho10 hs10)
    refine body_cell rfl rfl rfl hk10 Tryz.underlying35 rfl (by exact Tryz.size35) ?_
    have hbx:Below w.heap.size w w10:=bx9.below.trans (ho10.below bx9.below.size (fun k hk=>by rw [hk];exact Nat.le_succ _))
    rw [anV_bad 400 ⟨#[98,97,100]⟩ rfl,hF.out]
    exact RDo.of (RTo.refl HR.out hbx) rfl rfl
end Go.Proofs.YtmdgeknnhckgfaaGreatDoor
