/-
  Parts of the proof of the law LinModel: RLst, RAdt.
-/
import Derived.Test.YtmdgeknnhckgfaaGreatDoorS14
import Derived.Test.YtmdgeknnhckgfaaGreatDoorS18
set_option linter.unusedSimpArgs false
set_option linter.unusedVariables false
namespace Go.Proofs.YtmdgeknnhckgfaaGreatDoor
open Go Go.RowKit
theorem Tryz.info9:(Tryz.prog.info? 9).map (fun i=>(i.zero,i.size,i.bytes))=some (some (.string ⟨#[]⟩),1,16):=by kernel_rfl
def usrEq (u:ByteArray) (s:Ses):Bool:=s.usr.toList == u.toList
def toksK (l:List Ses) (u:ByteArray) (k:Nat):List ByteArray:=((l.take k).filter (usrEq u)).map (·.tok)
theorem toksK_all (S:List Ses) (u:ByteArray) (now:Nat):toksK (liveN S now) u (liveN S now).length=(S.filter (usrB u now)).map (·.tok):=by
  unfold toksK liveN
  rw [List.take_length,List.filter_filter]
  congr 1
theorem filt_step' {S:List Ses} {k:Nat} {s:Ses} (h:S[k]?=some s) {q:Ses→Bool}:(S.take (k+1)).filter q=if q s=true then (S.take k).filter q++[s] else (S.take k).filter q:=by
  rw [take_snoc h,List.filter_append]
  cases hq:q s<;>simp [hq]
theorem toksK_step {l:List Ses} {k:Nat} {s:Ses} (h:l[k]?=some s) (u:ByteArray):toksK l u (k+1)=if usrEq u s=true then toksK l u k++[s.tok] else toksK l u k:=by
  unfold toksK
  rw [filt_step' h]
  split<;>simp
theorem toksK_len (l:List Ses) (u:ByteArray) (k:Nat):(toksK l u k).length≤k:=by
  unfold toksK
  rw [List.length_map]
  have:=List.length_filter_le (usrEq u) (l.take k)
  rw [List.length_take] at this
  omega
theorem strArgs_snoc (l:List ByteArray) (s:ByteArray):strArgs (l++[s])=strArgs l++[.string s]:=by unfold strArgs;rw [List.map_append];rfl
variable {w:World} {p:Nat} {T:List Ten} {L:List Hs} {d:RD}
def ansT (tv:Value):Ans:=⟨200,⟨#[]⟩,⟨#[]⟩,⟨#[]⟩,⟨#[]⟩,0,0,tv,.slice none 0 0,⟨#[]⟩,0,0,0,0⟩
def RLs (w:World) (i:Nat) (c:Cl) (l:List Ses) (A:Option Addr) (cap lb:Nat) (iv:Value) (W:World):Prop :=
  ∃ (k:Nat) (tv:Value),k≤l.length∧iv=.int .i64 (k:Nat)∧Blk W lb (ansArr (ansT tv)) 35∧W.ownsRow w.heap.size 9 1 tv (toksK l c.usr k).length (strArgs (toksK l c.usr k))∧Box w W 7 (i:Int) c.tok c.usr c.dat c.ttl c.frm c.draw∧W.ownsRow 0 90 4 (.slice A l.length cap) l.length (sesArgs l)∧w.heap.size+1<lb
set_option maxRecDepth 100000 in
set_option maxHeartbeats 8000000 in
theorem ref_list (r:RIs w p T L d) {i:Nat} {h:Hs} (hi:L[i]?=some h) {n:Nat} (hok:HsOk n h) (hn:n≤256) (c:Cl) (hc:c.ten=(i:Int)) (hcok:c.Ok) (now:Nat) (hkd:c.kind=7) :
    Calls Tryz.prog 24 #[.pointer (some ⟨p,0,none⟩),clV c,.int .u64 (now:Nat)] w (RDo w p T L d ((listN h c now).1,L.set i (listN h c now).2)):=by
  obtain ⟨i0,ii,iz0,iz1,iz2⟩:=info_parts Tryz.info9
  have HR:=Lib.hid r
  have HI:=Lib.hid hi
  have t1:=two_blocks w 7 (i:Int) c.tok c.usr c.dat c.ttl c.frm c.draw
  have B0:=Lib.hid (fun W hb=>Box.kept (W':=W) ⟨t1.1,t1.2.1,t1.2.2⟩ hb)
  have HNm:=Lib.hid (ref_Name c.usr hcok.usr)
  have HL:=fun W (hb:Below w.heap.size w W)=>ref_Live (now:=now) (r.kept hb) hi (by have:=hok.len;omega)
  have hll:=liveN_len h.ses now
  have hsl:=hok.len
  obtain ⟨post,hpost⟩:∃ x,x=(listN h c now):=⟨_,rfl⟩
  rw [←hpost]
  unfold listN at hpost
  rw [←toksK_all] at hpost
  obtain ⟨l,hl⟩:∃ l,liveN h.ses now=l:=⟨_,rfl⟩
  rw [hl] at HL hpost hll
  have HLV:=Lib.hid HL
  unfold clV
  rw [hc,hkd]
  clear t1 r hi hok hcok hc hkd HL hl
  cases b1:nameN c.usr with
  | false =>
    rw [b1] at HNm
    have hF:=Lib.hid (show (post.1,L.set i post.2)=(badA 400,L) by rw [hpost,if_pos b1];simp only;rw [set_self HI.out])
    clear hpost b1 HLV
    go_enter Tryz.func24,Tryz.ntmps24
    go_wp2_with fail
    refine (HNm.out _).mono ?_
    rintro e w1 ⟨rfl,hb1⟩
    have BX:=B0.out w1 hb1
    clear hb1
    go_wp2_with fail
    refine (ref_bad 400 (⟨#[98,97,100]⟩) _).mono ?_
    rintro e w9 ⟨rfl,hb9⟩
    have bx9:=BX.kept hb9
    go_wp2_with (refine wpList_store_blk rfl 35 (Operand.tmp 6) (Operand.tmp 54) rfl (w.heap.size+1) rfl zero14 _ 35 rfl bx9.ans (by exact Tryz.size35) rfl (by simp [ansArr,Ans.zero,Value.oneCell']) ?_;intro w10 hk10 ho10 hs10)
    refine body_cell rfl rfl rfl hk10 Tryz.underlying35 rfl (by exact Tryz.size35) ?_
    have hbx:Below w.heap.size w w10:=bx9.below.trans (ho10.below bx9.below.size (fun k hk=>by rw [hk];exact Nat.le_succ _))
    rw [anV_bad 400 (⟨#[98,97,100]⟩) rfl,hF.out]
    exact RDo.of (RTo.refl HR.out hbx) rfl rfl
  | true =>
    rw [b1] at HNm
    rw [if_neg (by rw [b1];simp)] at hpost
    have hF:=Lib.hid (show (post.1,L.set i post.2)=({ status:=200,toks:=toksK l c.usr l.length },L) by rw [hpost];simp only;rw [set_self HI.out])
    clear hpost b1
    go_enter Tryz.func24,Tryz.ntmps24
    go_wp2_with fail
    refine (HNm.out _).mono ?_
    rintro e w1 ⟨rfl,hb1⟩
    have BX:=B0.out w1 hb1
    have x1:=BX.box.cell 1 (.int .i64 (i:Int)) rfl
    have HBX:=Lib.hid BX
    clear hb1 HNm BX
    go_wp2_with (refine wpList_store_new rfl 35 (Operand.tmp 9) (Operand.tmp 55) rfl rfl (ansArr (ansT (.slice none 0 0))) rfl (by exact Tryz.size35) rfl (by simp [ansArr,ansT,Value.oneCell']) ?_;intro w2 hk2 hb2 hs2;have x2:=(HBX.out.kept hb2).box.cell 1 (.int .i64 (i:Int)) rfl;clear x1)
    refine (HLV.out _ ((HBX.out.kept hb2).below)).mono ?_
    rintro e w3 ⟨v,rfl,hown,hb3⟩
    obtain ⟨A,cap,rfl⟩:=own_form hown
    have HBX3:=Lib.hid ((HBX.out.kept hb2).kept hb3)
    have HK3:=Lib.hid (hk2.kept hb3)
    have hlb:w.heap.size+1<w1.heap.size:=HBX.out.ans.lt
    have HO:=Lib.hid (own_base hown (Nat.zero_le _))
    clear hown hb3 hk2 hb2 hs2 x2 HBX HLV
    go_wp2_with fail
    go_loopw [11] (RLs w i c l A cap w1.heap.size) (fun v _=>l.length - (intOf v).toNat)
    case atStart=>exact ⟨0,_,Nat.zero_le _,rfl,HK3.out,by exact World.ownsRow_nil _ _ _ _,HBX3.out,HO.out,hlb⟩
    case round =>
      obtain ⟨k,tv,hk,rfl,hblk,hown,BX,hrow,_⟩:=hrel
      obtain ⟨A2,cap2,rfl⟩:=own_form hown
      have tl:=toksK_len l c.usr k
      by_cases hlt:k<l.length
      · obtain ⟨s,hs⟩:=get_lt hlt
        obtain ⟨g,cap',e,hg,_,d0,d1,d2,d3⟩:=ses_at hrow hs
        cases e
        have b3:=BX.box.cell 3 (.string c.usr) rfl
        have t7:=hblk.cell 7 (.slice A2 (toksK l c.usr k).length cap2) rfl
        have hst:=toksK_step hs c.usr
        have HBX4:=Lib.hid BX
        have HBL:=Lib.hid hblk
        have HOW:=Lib.hid hown
        have HRW:=Lib.hid hrow
        have kl:(k:Int)<(l.length:Int):=by omega
        clear hblk hown BX hrow hs d2 d3
        obtain ⟨m,hm⟩:∃ m,(toksK l c.usr k).length=m:=⟨_,rfl⟩
        rw [hm] at t7 tl HBL
        have HM:=Lib.hid hm
        have ml:(m:Int)<256:=by omega
        clear hm
        cases hq:(s.usr.toList == c.usr.toList) with
        | true =>
          have HST:=Lib.hid (show toksK l c.usr (k+1)=toksK l c.usr k++[s.tok] by rw [hst,if_pos (show usrEq c.usr s=true from hq)])
          clear hst
          go_wp2_with fail
          go_quiet (fail)
          go_wp2_with fail
          have hbq:Below wr.heap.size wr (wr.drewN nq):=⟨rfl,rfl,rfl,Nat.le_refl _,fun _ _=>rfl⟩
          have q1:=cell_keep hbq t7
          have q2:=cell_keep hbq d0
          have kx:=HBX4.out.kept hbq
          have kb:=HBL.out.kept hbq
          have ko:=own_below HOW.out hbq
          have kr:=own_below HRW.out hbq
          clear t7 d0 d1 b3 hbq HBX4 HBL HOW HRW
          generalize wr.drewN nq=W5 at q1 q2 kx kb ko kr ⊢
          have B1:Below W5.heap.size W5 W5.drew:=(Below.refl _ W5).drew
          refine region_cut (S:=fun w':World=>w'.cell? ⟨w1.heap.size,7,none⟩=some (.slice A2 m cap2)∧w'.cell? ⟨g,k*4,none⟩=some (.string s.tok)) 10
            (.take 0 (.take 1 (.take 2 (.take 3 (.take 4 (.take 5 (.take 6 (.one 7 (.one 8 (.take 9 (.one 10 .nil)))))))))))
            (by kernel_rfl) (by kernel_rfl) (by kernel_rfl) (fun _ _ _ dst _ h=>by cases dst<;>exact h) ⟨q1,q2⟩ (fun hH=>?_)
          clear hH
          generalize W5.drew=V0 at B1 ⊢
          (repeat (first | (refine cut_free (v:=?_) (by (simp only [ga1,ga2,ga3];exact rfl)) (by rfl) ?_ ?_;rotate_left;(focus (intro wS;go_simp;(try with_reducible rfl);done));simp only [Act.put,pu1,pu2,pu3]) | (refine cut_take (v:=?_) (by kernel_rfl) (by (simp only [ga1,ga2,ga3];exact rfl)) (by rfl) ?_ ?_;rotate_left;(focus (intro wS hS;(try dsimp only at hS);go_split_ands;go_simp;(try with_reducible rfl);done));simp only [Act.put,pu1,pu2,pu3])))
          (refine cut_one (by decide) (by (simp only [ga1,ga2,ga3];exact rfl)) (by rfl) ?_;intro K hK;go_simp)
          have B2:Below W5.heap.size W5 (V0.alloc (.cells #[.string s.tok] 9)):=B1.alloc B1.size _
          have KN:=cells_new V0 [.string s.tok] 9
          refine hK.out _ _ ⟨cell_keep B2 q1,cell_keep B2 q2⟩ (fun hH=>?_)
          clear hK K hH
          (try simp only [Act.put,pu1,pu2,pu3])
          generalize hV1:V0.alloc (.cells #[.string s.tok] 9)=V1 at B2 ⊢
          have KN1:∀ (j:Nat) (u:Value),[Value.string s.tok][j]?=some u→V1.cell? ((⟨V0.heap.size,0,none⟩:Addr).add j)=some u:=by rw [←hV1];exact KN
          clear hV1 KN
          have ko1:=own_below ko B2
          rw [HM.out] at ko1
          (repeat (first | (refine cut_free (v:=?_) (by (simp only [ga1,ga2,ga3];exact rfl)) (by rfl) ?_ ?_;rotate_left;(focus (intro wS;go_simp;(try with_reducible rfl);done));simp only [Act.put,pu1,pu2,pu3]) | (refine cut_take (v:=?_) (by kernel_rfl) (by (simp only [ga1,ga2,ga3];exact rfl)) (by rfl) ?_ ?_;rotate_left;(focus (intro wS hS;(try dsimp only at hS);go_split_ands;go_simp;(try with_reducible rfl);done));simp only [Act.put,pu1,pu2,pu3])))
          (refine cut_one (by decide) (by (simp only [ga1,ga2,ga3];exact rfl)) (by rfl) ?_;intro K hK)
          refine oper_append_row _ _ 32 rfl w.heap.size 9 i0 _ 1 16 Tryz.underlying32 ii iz0 iz1 iz2 rfl (by decide) _ _ _ rfl ko1 ⟨V0.heap.size,0,none⟩ 1 1 [.string s.tok] rfl rfl KN1 (by simp [Value.oneCell']) (by unfold maxLen;omega) (by omega) (Nat.le_trans kx.below.size B2.size) ?_
          intro v' w6 own6 hgr hfr
          obtain ⟨A3,cap3,rfl⟩:=own_form own6
          have tyn:∀ j t,Of V1 j t→t≠9→some j≠(Value.slice A2 m cap2).ownBlock:=by
            intro j t hj hn e
            obtain ⟨cc,hcc⟩:=own_typed ko1 e.symm
            exact hj.ne (show Of V1 j 9 from ⟨cc,_,hcc⟩) hn rfl
          have kb1:=kb.kept B2
          have kx1:=kx.kept B2
          have kr1:=own_below kr B2
          have kb6:Blk w6 w1.heap.size (ansArr (ansT (.slice A2 m cap2))) 35:=(hgr.block _ kb1.lt (tyn _ 35 ⟨_,_,kb1⟩ (by decide))).trans kb1
          have q6:=kb6.cell 7 (.slice A2 m cap2) rfl
          have f6:=kb6.frozen 7
          have q26:w6.cell? ⟨g,k*4,none⟩=some (.string s.tok):=by
            obtain ⟨cc,hcc⟩:=own_typed kr1 rfl
            exact (World.cell?_of_block (a:=⟨g,k*4,none⟩) (hgr.block g (lt_of_block hcc) (tyn g 90 ⟨_,_,hcc⟩ (by decide)))).trans (cell_keep B2 q2)
          refine hK.out _ _ ⟨q6,q26⟩ (fun hH=>?_)
          clear hK K hH
          (try simp only [Act.put,pu1,pu2,pu3])
          (repeat (first | (refine cut_free (v:=?_) (by (simp only [ga1,ga2,ga3];exact rfl)) (by rfl) ?_ ?_;rotate_left;(focus (intro wS;go_simp;(try with_reducible rfl);done));simp only [Act.put,pu1,pu2,pu3]) | (refine cut_take (v:=?_) (by kernel_rfl) (by (simp only [ga1,ga2,ga3];exact rfl)) (by rfl) ?_ ?_;rotate_left;(focus (intro wS hS;(try dsimp only at hS);go_split_ands;go_simp;(try with_reducible rfl);done));simp only [Act.put,pu1,pu2,pu3])))
          (refine cut_here (by (simp only [ga1,ga2,ga3];exact rfl)) (by rfl) ?_;intro K hK;go_simp)
          refine hK.out _ _ ?_
          refine tree_nil ?_
          have hO6:Only (fun j=>some j=(Value.slice A2 m cap2).ownBlock) V1 w6:=⟨hgr.os,hgr.tape,hgr.output,hgr.size,fun j hj hn=>hgr.block j hj hn⟩
          have kbf:Blk (w6.setCell ⟨w1.heap.size,7,none⟩ (.slice A3 (m+1) cap3)) w1.heap.size (ansArr (ansT (.slice A3 (m+1) cap3))) 35:=kb6.setCell 7 _
          have hbel:Below w.heap.size w (w6.setCell ⟨w1.heap.size,7,none⟩ (.slice A3 (m+1) cap3)):=(kx1.below.grown hgr (by have:=kx1.below.size;omega) (fun j hj=>(ko1.lt j hj).1)).setCell (show w.heap.size≤(⟨w1.heap.size,7,none⟩:Addr).block from by show w.heap.size≤w1.heap.size;omega) _
          have kxf:Box w (w6.setCell ⟨w1.heap.size,7,none⟩ (.slice A3 (m+1) cap3)) 7 (i:Int) c.tok c.usr c.dat c.ttl c.frm c.draw :=
            ⟨Blk.setCell_ne ((hgr.block _ kx1.box.lt (tyn _ 53 ⟨_,_,kx1.box⟩ (by decide))).trans kx1.box) (by omega) _ _,Blk.setCell_ne ((hgr.block _ kx1.ans.lt (tyn _ 35 ⟨_,_,kx1.ans⟩ (by decide))).trans kx1.ans) (by omega) _ _,hbel⟩
          have owf:=own_set own6 kb6 (by decide) 7 (.slice A3 (m+1) cap3)
          have krf:=own_set (own_block kr1 (w':=w6) (fun j hj=>by
            obtain ⟨cc,hcc⟩:=own_typed kr1 hj
            exact hgr.block j (lt_of_block hcc) (tyn j 90 ⟨_,_,hcc⟩ (by decide)))) kb6 (by decide) 7 (.slice A3 (m+1) cap3)
          have HFIN:=Lib.hid (And.intro kbf (And.intro kxf (And.intro owf krf)))
          clear hK K kbf hbel kxf owf krf hO6 q26 f6 q6 kb6 kr1 kx1 kb1 tyn own6 hgr hfr ko1 KN1 B2 B1 q1 q2 kx kb ko kr
          go_wp2_with fail
          go_roundw
          case rel =>
            obtain ⟨h1,h2,h3,h4⟩:=HFIN.out
            exact ⟨k+1,_,hlt,rfl,h1,by rw [HST.out,List.length_append,HM.out,strArgs_snoc];exact h3,h2,h4,hlb⟩
          case measure=>simp [intOf];omega
        | false =>
          have HST:=Lib.hid (show toksK l c.usr (k+1)=toksK l c.usr k by rw [hst,if_neg (by rw [show usrEq c.usr s=false from hq];simp)])
          clear hst
          go_wp2_with fail
          go_quiet (fail)
          have hbq:Below wr.heap.size wr (wr.drewN nq):=⟨rfl,rfl,rfl,Nat.le_refl _,fun _ _=>rfl⟩
          go_wp2_with fail
          go_roundw
          case rel=>exact ⟨k+1,_,hlt,rfl,by have:=HBL.out.drewN nq;rw [←HM.out] at this;exact this,by rw [HST.out];exact own_below HOW.out hbq,HBX4.out.kept hbq,own_below HRW.out hbq,hlb⟩
          case measure=>simp [intOf];omega
      · have hK:k=l.length:=by omega
        subst hK
        have hlt':¬ ((l.length:Nat):Int)<(l.length:Int):=by omega
        have HBL:=Lib.hid hblk
        have HBX4:=Lib.hid BX
        have HOW:=Lib.hid hown
        clear hblk BX hown hrow
        go_wp2_with (first | (refine wpList_load_blk rfl 35 (Operand.tmp 9) rfl w1.heap.size rfl 35 _ _ HBL.out Tryz.underlying35 rfl (by exact Tryz.size35) ?_) | (refine wpList_store_blk rfl 35 (Operand.tmp 6) (Operand.tmp 91) rfl (w.heap.size+1) rfl zero14 (ansArr (ansT (.slice A2 (toksK l c.usr l.length).length cap2))) 35 rfl HBX4.out.ans (by exact Tryz.size35) rfl (by simp [ansArr,ansT,Value.oneCell']) ?_;intro w11 hk11 ho11 hs11))
        refine body_cell rfl rfl rfl hk11 Tryz.underlying35 rfl (by exact Tryz.size35) ?_
        have hb11:Below w.heap.size w w11:=HBX4.out.below.trans (ho11.below HBX4.out.below.size (fun j hj=>by rw [hj];exact Nat.le_succ _))
        have ho12:wr.ownsRow w.heap.size 9 1 (Value.slice A2 (toksK l c.usr l.length).length cap2) (toksK l c.usr l.length).length (strArgs (toksK l c.usr l.length)):=HOW.out
        have ow11:w11.ownsRow w.heap.size 9 1 (Value.slice A2 (toksK l c.usr l.length).length cap2) (toksK l c.usr l.length).length (strArgs (toksK l c.usr l.length)):=own_block ho12 (fun j hj=>ho11.block j (ho12.lt j hj).2 (fun e=>by
          obtain ⟨cc,hcc⟩:=own_typed ho12 hj
          subst e
          exact (show Of wr (w.heap.size+1) 35 from ⟨_,_,HBX4.out.ans⟩).ne (show Of wr (w.heap.size+1) 9 from ⟨_,_,hcc⟩) (by decide) rfl))
        rw [hF.out]
        refine RDo.same HR.out hb11 ⟨_,_,rfl,⟨Reads.of_own ow11,fun b hb _=>?_⟩,ReadsP.nil _ _ 4⟩
        have:=(ow11.lt b hb).1
        omega
end Go.Proofs.YtmdgeknnhckgfaaGreatDoor
namespace Go.Proofs.YtmdgeknnhckgfaaGreatDoor
open Go Go.RowKit
theorem ent_at {w:World} {base n:Nat} {v:Value} {S:List Ent} (h:w.ownsRow base 103 4 v n (entArgs S)) {k:Nat} {s:Ent} (hk:S[k]?=some s) :
    ∃ g cap,v=.slice (some ⟨g,0,none⟩) n cap∧g<w.heap.size∧n=S.length∧w.cell? ⟨g,k*4,none⟩=some (.int .i64 (s.num:Nat))∧w.cell? ⟨g,k*4+1,none⟩=some (.int .i64 (s.kind:Nat))∧w.cell? ⟨g,k*4+2,none⟩=some (.int .u64 (s.tick:Nat))∧w.cell? ⟨g,k*4+3,none⟩=some (.string s.sub):=by
  have hlt:=(List.getElem?_eq_some_iff.1 hk).1
  have hn:n=S.length:=by have:=h.1;rw [entArgs_len] at this;omega
  have hat:=flatMap_at (f:=entCells) (k:=4) (fun _=>rfl) S k s hk
  have hh:=h
  rcases h.2 with ⟨h1,h2⟩ | ⟨g,cap,cur,rfl,h3,h4,_⟩
  · omega
  · have hc:=hh.cells (g:=g) rfl
    refine ⟨g,cap,rfl,lt_of_block h4,hn,?_,?_,?_,?_⟩
    · have:=hc (k*4+0) _ (by unfold entArgs;rw [hat 0 (by decide)];rfl);rw [add_at rfl] at this;simpa using this
    · have:=hc (k*4+1) _ (by unfold entArgs;rw [hat 1 (by decide)];rfl);rw [add_at rfl] at this;simpa using this
    · have:=hc (k*4+2) _ (by unfold entArgs;rw [hat 2 (by decide)];rfl);rw [add_at rfl] at this;simpa using this
    · have:=hc (k*4+3) _ (by unfold entArgs;rw [hat 3 (by decide)];rfl);rw [add_at rfl] at this;simpa using this
theorem entArgs_snoc (S:List Ent) (s:Ent):entArgs (S++[s])=entArgs S++entCells s:=by unfold entArgs;rw [List.flatMap_append];simp
def ansE (hx:ByteArray) (ev:Value):Ans:=⟨200,⟨#[]⟩,⟨#[]⟩,⟨#[]⟩,⟨#[]⟩,0,0,.slice none 0 0,ev,hx,0,0,0,0⟩
variable {w:World} {p:Nat} {T:List Ten} {L:List Hs} {d:RD}
def RAu (w:World) (i:Nat) (c:Cl) (es:List Ent) (q lb:Nat) (hx:ByteArray) (iv:Value) (W:World):Prop :=
  ∃ (j:Nat) (ev:Value),iv=.int .i64 ((q+j:Nat):Int)∧j≤16∧(j=0∨q+j≤es.length)∧Blk W lb (ansArr (ansE hx ev)) 35∧W.ownsRow w.heap.size 103 4 ev j (entArgs ((es.drop q).take j))∧Box w W 8 (i:Int) c.tok c.usr c.dat c.ttl ((q:Int)+1) c.draw∧w.heap.size+1<lb
set_option maxRecDepth 100000 in
set_option maxHeartbeats 8000000 in
theorem ref_look8 (r:RIs w p T L d) {i:Nat} {h:Hs} (hi:L[i]?=some h) {n:Nat} (hok:HsOk n h) (hn:n≤256) (c:Cl) (hc:c.ten=(i:Int)) (hcok:c.Ok) (now:Nat) (hkd:c.kind=8) :
    Calls Tryz.prog 24 #[.pointer (some ⟨p,0,none⟩),clV c,.int .u64 (now:Nat)] w (RDo w p T L d ((auditN h c).1,L.set i (auditN h c).2)):=by
  obtain ⟨i0,ii,iz0,iz1,iz2⟩:=info_parts Tryz.info103
  have HR:=Lib.hid r
  have HI:=Lib.hid hi
  have t1:=two_blocks w 8 (i:Int) c.tok c.usr c.dat c.ttl c.frm c.draw
  have bx0:Box w _ 8 (i:Int) c.tok c.usr c.dat c.ttl c.frm c.draw:=⟨t1.1,t1.2.1,t1.2.2⟩
  have HBX0:=Lib.hid bx0
  have hsl:=hok.ents
  have hes:∀ e∈h.ents,e.Ok:=fun e he=>by
    obtain ⟨j,hj⟩:=List.mem_iff_getElem?.1 he
    exact (hok.nums j e hj).2.1
  have hHd:=fun (W:World) (v:Value) (hr:Reads W v h.ents.length 4 (h.ents.flatMap entCells))=>ref_head v h.ents hes W hr
  have hHx:=ref_hex ⟨(headN h.ents).toArray⟩ (by show (headN h.ents).toArray.size≤_;rw [List.size_toArray,headN_len];omega)
  obtain ⟨hd,hhd⟩:∃ x:ByteArray,⟨(headN h.ents).toArray⟩=x:=⟨_,rfl⟩
  obtain ⟨hx,hhx⟩:∃ x:ByteArray,⟨(hexN hd.data.toList).toArray⟩=x:=⟨_,rfl⟩
  have hxe:hx=⟨(hexN (headN h.ents)).toArray⟩:=by rw [←hhx,←hhd]
  rw [hhd] at hHd hHx
  rw [hhx] at hHx
  have HHd:=Lib.hid hHd
  have HHx:=Lib.hid hHx
  obtain ⟨post,hpost⟩:∃ x,x=(auditN h c):=⟨_,rfl⟩
  rw [←hpost]
  unfold auditN at hpost
  rw [←hxe] at hpost
  have fr:=hcok.frm
  unfold clV
  rw [hc,hkd]
  clear bx0 t1 r hi hok hcok hc hkd hhd hhx hxe hHd hHx hes
  by_cases hf:c.frm<1
  · have hF:=Lib.hid (show (post.1,L.set i post.2)=(badA 400,L) by rw [hpost,if_pos hf];simp only;rw [set_self HI.out])
    clear hpost HHd HHx
    have BX:=HBX0.out
    go_enter Tryz.func24,Tryz.ntmps24
    go_wp2_with fail
    refine (ref_bad 400 (⟨#[98,97,100]⟩) _).mono ?_
    rintro e w9 ⟨rfl,hb9⟩
    have bx9:=BX.kept hb9
    go_wp2_with (refine wpList_store_blk rfl 35 (Operand.tmp 6) (Operand.tmp 102) rfl (w.heap.size+1) rfl zero14 _ 35 rfl bx9.ans (by exact Tryz.size35) rfl (by simp [ansArr,Ans.zero,Value.oneCell']) ?_;intro w10 hk10 ho10 hs10)
    refine body_cell rfl rfl rfl hk10 Tryz.underlying35 rfl (by exact Tryz.size35) ?_
    have hbx:Below w.heap.size w w10:=bx9.below.trans (ho10.below bx9.below.size (fun k hk=>by rw [hk];exact Nat.le_succ _))
    rw [anV_bad 400 (⟨#[98,97,100]⟩) rfl,hF.out]
    exact RDo.of (RTo.refl HR.out hbx) rfl rfl
  · rw [if_neg hf] at hpost
    obtain ⟨q,hq⟩:∃ q:Nat,c.frm.toNat - 1=q:=⟨_,rfl⟩
    have hq1:c.frm=(q:Int)+1:=by omega
    rw [hq] at hpost
    have hF:=Lib.hid (show (post.1,L.set i post.2)=({ status:=200,head:=hx,ents:=(h.ents.drop q).take 16 },L) by rw [hpost];simp only;rw [set_self HI.out])
    have HQ:=Lib.hid hq1
    have c1:=HR.out.pcell
    obtain ⟨_,_,_,_,c4,cl⟩:=HR.out.cells HI.out
    have hrow:=HR.out.he i h HI.out
    obtain ⟨A,cap,hev⟩:=own_form hrow
    rw [hev] at c4
    have HEV:=Lib.hid hev
    have hpl:=HR.out.hp.lt
    have il:(i:Int)<(L.length:Int):=by have:=(List.getElem?_eq_some_iff.1 HI.out).1;omega
    have fq:¬ (c.frm:Int)<1:=hf
    clear hpost hq hrow hev
    go_enter Tryz.func24,Tryz.ntmps24
    go_wp2_with fail
    go_quiet (fail)
    clear c1 c4
    have t2:=two_blocks w 8 (i:Int) c.tok c.usr c.dat c.ttl ((q:Int)+1) c.draw
    have BX1:Box w _ 8 (i:Int) c.tok c.usr c.dat c.ttl ((q:Int)+1) c.draw:=⟨t2.1,t2.2.1,t2.2.2⟩
    have BX2:=BX1.kept ((fun V=>⟨rfl,rfl,rfl,Nat.le_refl _,fun _ _=>rfl⟩:∀ V:World,Below V.heap.size V (World.drewN V nq)) _)
    clear BX1 t2
    change Exit.then _ _ _ _ (World.drewN ((w.alloc (.cells #[.int .i64 8,.int .i64 (i:Int),.string c.tok,.string c.usr,.string c.dat,.int .i64 c.ttl,.int .i64 ((q:Int)+1),.int .u64 (c.draw:Int)] 53)).alloc (.cells zero14 35)) nq)
    generalize World.drewN ((w.alloc (.cells #[.int .i64 8,.int .i64 (i:Int),.string c.tok,.string c.usr,.string c.dat,.int .i64 c.ttl,.int .i64 ((q:Int)+1),.int .u64 (c.draw:Int)] 53)).alloc (.cells zero14 35)) nq=W5 at BX2 ⊢
    have hes5:W5.ownsRow 0 103 4 (.slice A h.ents.length cap) h.ents.length (entArgs h.ents):=by
      have:=own_below (HR.out.he i h HI.out) BX2.below
      rw [HEV.out] at this
      exact own_base this (Nat.zero_le _)
    have HES:=Lib.hid hes5
    have HB2:=Lib.hid BX2
    clear hes5 BX2
    go_wp2_with fail
    refine (HHd.out _ _ (Reads.of_own HES.out)).mono ?_
    rintro e w6 ⟨rfl,hb6⟩
    have HES6:=Lib.hid (own_below HES.out hb6)
    have HB6:=Lib.hid (HB2.out.kept hb6)
    clear HES HB2 hb6
    go_wp2_with fail
    refine (HHx.out _).mono ?_
    rintro e w7 ⟨rfl,hb7⟩
    have HES7:=Lib.hid (own_below HES6.out hb7)
    have BX7:=HB6.out.kept hb7
    have x6:=BX7.box.cell 6 (.int .i64 ((q:Int)+1)) rfl
    have HB7:=Lib.hid BX7
    clear HES6 HB6 hb7 BX7
    go_wp2_with (refine wpList_store_new rfl 35 (Operand.tmp 13) (Operand.tmp 115) rfl rfl (ansArr (ansE hx (.slice none 0 0))) rfl (by exact Tryz.size35) rfl (by simp [ansArr,ansE,Value.oneCell']) ?_;intro w2 hk2 hb2 hs2;have x2:=(HB7.out.kept hb2).box.cell 6 (.int .i64 ((q:Int)+1)) rfl;clear x6)
    have hlb:w.heap.size+1<w7.heap.size:=HB7.out.ans.lt
    have HO:=Lib.hid (own_below HES7.out hb2)
    have HB8:=Lib.hid (HB7.out.kept hb2)
    have HK2:=Lib.hid hk2
    clear hk2 hb2 hs2 x2 HB7 HES7 HHd HHx HBX0
    go_loopw [14] (RAu w i c h.ents q w7.heap.size hx) (fun v _=>18446744073709551616 - (intOf v).toNat)
    case atStart=>exact ⟨0,_,rfl,by omega,.inl rfl,HK2.out,by exact World.ownsRow_nil _ _ _ _,HB8.out,hlb⟩
    case round =>
      obtain ⟨j,ev,rfl,hj16,hjl,hblk,hown,BX,_⟩:=hrel
      have hes:wr.ownsRow 0 103 4 (.slice A h.ents.length cap) h.ents.length (entArgs h.ents):=by
        have:=own_below (HR.out.he i h HI.out) BX.below
        rw [HEV.out] at this
        exact own_base this (Nat.zero_le _)
      obtain ⟨A2,cap2,rfl⟩:=own_form hown
      obtain ⟨m,hm⟩:∃ m,q+j=m:=⟨_,rfl⟩
      rw [hm] at hjl ⊢
      by_cases hgo:m<h.ents.length∧j<16
      · obtain ⟨hml,hj⟩:=hgo
        obtain ⟨s,hs⟩:=get_lt hml
        obtain ⟨g,cap',e,hg,_,d0,d1,d2,d3⟩:=ent_at hes hs
        cases e
        have hgw:g<w.heap.size:=((HR.out.he i h HI.out).lt g (by rw [HEV.out];rfl)).2
        have t8:=hblk.cell 8 (.slice A2 j cap2) rfl
        have hst:(h.ents.drop q).take (j+1)=(h.ents.drop q).take j++[s]:=take_snoc (by rw [List.getElem?_drop,hm];exact hs)
        have HST:=Lib.hid hst
        have HBX4:=Lib.hid BX
        have HBL:=Lib.hid hblk
        have HOW:=Lib.hid hown
        have HRW:=Lib.hid hes
        have kl:(m:Int)<(h.ents.length:Int):=by omega
        have jl:(j:Int)<16:=by omega
        have HMQ:=Lib.hid hm
        clear hblk hown BX hes hs hst hm hjl
        go_wp2_with fail
        have hbq:Below wr.heap.size wr wr:=Below.refl _ wr
        have kx:=HBX4.out
        have kb:=HBL.out
        have ko:=HOW.out
        clear HBX4 HBL HOW HRW HEV HO hbq
        have B1:Below wr.heap.size wr wr.drew:=(Below.refl _ wr).drew
        refine region_cut (S:=fun w':World=>w'.cell? ⟨w7.heap.size,8,none⟩=some (.slice A2 j cap2)∧w'.cell? ⟨g,m*4,none⟩=some (.int .i64 (s.num:Nat))∧w'.cell? ⟨g,m*4+1,none⟩=some (.int .i64 (s.kind:Nat))∧w'.cell? ⟨g,m*4+2,none⟩=some (.int .u64 (s.tick:Nat))∧w'.cell? ⟨g,m*4+3,none⟩=some (.string s.sub)) 9
          (.take 0 (.take 1 (.take 2 (.take 3 (.take 4 (.take 5 (.one 6 (.one 7 (.take 8 (.one 9 .nil))))))))))
          (by kernel_rfl) (by kernel_rfl) (by kernel_rfl) (fun _ _ _ dst _ h=>by cases dst<;>exact h) ⟨t8,d0,d1,d2,d3⟩ (fun hH=>?_)
        clear hH
        generalize wr.drew=V0 at B1 ⊢
        (repeat (first | (refine cut_free (v:=?_) (by (simp only [ga1,ga2,ga3];exact rfl)) (by rfl) ?_ ?_;rotate_left;(focus (intro wS;go_simp;(try with_reducible rfl);done));simp only [Act.put,pu1,pu2,pu3]) | (refine cut_take (v:=?_) (by kernel_rfl) (by (simp only [ga1,ga2,ga3];exact rfl)) (by rfl) ?_ ?_;rotate_left;(focus (intro wS hS;(try dsimp only at hS);go_split_ands;go_simp;(try with_reducible rfl);done));simp only [Act.put,pu1,pu2,pu3])))
        (refine cut_one (by decide) (by (simp only [ga1,ga2,ga3];exact rfl)) (by rfl) ?_;intro K hK;go_simp)
        have B2:Below wr.heap.size wr (V0.alloc (.cells #[.int .i64 (s.num:Nat),.int .i64 (s.kind:Nat),.int .u64 (s.tick:Nat),.string s.sub] 103)):=B1.alloc B1.size _
        have KN:=cells_new V0 [.int .i64 (s.num:Nat),.int .i64 (s.kind:Nat),.int .u64 (s.tick:Nat),.string s.sub] 103
        refine hK.out _ _ ⟨cell_keep B2 t8,cell_keep B2 d0,cell_keep B2 d1,cell_keep B2 d2,cell_keep B2 d3⟩ (fun hH=>?_)
        clear hK K hH
        (try simp only [Act.put,pu1,pu2,pu3])
        generalize hV1:V0.alloc (.cells #[.int .i64 (s.num:Nat),.int .i64 (s.kind:Nat),.int .u64 (s.tick:Nat),.string s.sub] 103)=V1 at B2 ⊢
        have KN1:∀ (j:Nat) (u:Value),[Value.int .i64 (s.num:Nat),.int .i64 (s.kind:Nat),.int .u64 (s.tick:Nat),.string s.sub][j]?=some u→V1.cell? ((⟨V0.heap.size,0,none⟩:Addr).add j)=some u:=by rw [←hV1];exact KN
        clear hV1 KN
        have ko1:=own_below ko B2
        (repeat (first | (refine cut_free (v:=?_) (by (simp only [ga1,ga2,ga3];exact rfl)) (by rfl) ?_ ?_;rotate_left;(focus (intro wS;go_simp;(try with_reducible rfl);done));simp only [Act.put,pu1,pu2,pu3]) | (refine cut_take (v:=?_) (by kernel_rfl) (by (simp only [ga1,ga2,ga3];exact rfl)) (by rfl) ?_ ?_;rotate_left;(focus (intro wS hS;(try dsimp only at hS);go_split_ands;go_simp;(try with_reducible rfl);done));simp only [Act.put,pu1,pu2,pu3])))
        (refine cut_one (by decide) (by (simp only [ga1,ga2,ga3];exact rfl)) (by rfl) ?_;intro K hK)
        refine oper_append_row _ _ 33 rfl w.heap.size 103 i0 _ 4 40 Tryz.underlying33 ii iz0 iz1 iz2 rfl (by decide) _ _ _ rfl ko1 ⟨V0.heap.size,0,none⟩ 1 1 [Value.int .i64 (s.num:Nat),.int .i64 (s.kind:Nat),.int .u64 (s.tick:Nat),.string s.sub] rfl rfl KN1 (by simp [Value.oneCell']) (by unfold maxLen;omega) (by omega) (Nat.le_trans kx.below.size B2.size) ?_
        intro v' w10 own6 hgr hfr
        obtain ⟨A3,cap3,rfl⟩:=own_form own6
        have tyn:∀ j' t,Of V1 j' t→t≠103→some j'≠(Value.slice A2 j cap2).ownBlock:=by
          intro j' t hj hn e
          obtain ⟨cc,hcc⟩:=own_typed ko1 e.symm
          exact hj.ne (show Of V1 j' 103 from ⟨cc,_,hcc⟩) hn rfl
        have kb1:=kb.kept B2
        have kx1:=kx.kept B2
        have gne:some g≠(Value.slice A2 j cap2).ownBlock:=fun e=>by
          have:=(ko1.lt g e.symm).1
          omega
        have kb6:Blk w10 w7.heap.size (ansArr (ansE hx (.slice A2 j cap2))) 35:=(hgr.block _ kb1.lt (tyn _ 35 ⟨_,_,kb1⟩ (by decide))).trans kb1
        have q6:=kb6.cell 8 (.slice A2 j cap2) rfl
        have f6:=kb6.frozen 8
        have e0:=hgr.cell (cell_keep B2 d0) gne
        have e1:=hgr.cell (cell_keep B2 d1) gne
        have e2:=hgr.cell (cell_keep B2 d2) gne
        have e3:=hgr.cell (cell_keep B2 d3) gne
        refine hK.out _ _ ⟨q6,e0,e1,e2,e3⟩ (fun hH=>?_)
        clear hK K hH
        (try simp only [Act.put,pu1,pu2,pu3])
        (repeat (first | (refine cut_free (v:=?_) (by (simp only [ga1,ga2,ga3];exact rfl)) (by rfl) ?_ ?_;rotate_left;(focus (intro wS;go_simp;(try with_reducible rfl);done));simp only [Act.put,pu1,pu2,pu3]) | (refine cut_take (v:=?_) (by kernel_rfl) (by (simp only [ga1,ga2,ga3];exact rfl)) (by rfl) ?_ ?_;rotate_left;(focus (intro wS hS;(try dsimp only at hS);go_split_ands;go_simp;(try with_reducible rfl);done));simp only [Act.put,pu1,pu2,pu3])))
        (refine cut_here (by (simp only [ga1,ga2,ga3];exact rfl)) (by rfl) ?_;intro K hK;go_simp)
        refine hK.out _ _ ?_
        refine tree_nil ?_
        have kbf:Blk (w10.setCell ⟨w7.heap.size,8,none⟩ (.slice A3 (j+1) cap3)) w7.heap.size (ansArr (ansE hx (.slice A3 (j+1) cap3))) 35:=kb6.setCell 8 _
        have hbel:Below w.heap.size w (w10.setCell ⟨w7.heap.size,8,none⟩ (.slice A3 (j+1) cap3)):=(kx1.below.grown hgr (by have:=kx1.below.size;omega) (fun j hj=>(ko1.lt j hj).1)).setCell (show w.heap.size≤(⟨w7.heap.size,8,none⟩:Addr).block from by show w.heap.size≤w7.heap.size;omega) _
        have kxf:Box w (w10.setCell ⟨w7.heap.size,8,none⟩ (.slice A3 (j+1) cap3)) 8 (i:Int) c.tok c.usr c.dat c.ttl ((q:Int)+1) c.draw :=
          ⟨Blk.setCell_ne ((hgr.block _ kx1.box.lt (tyn _ 53 ⟨_,_,kx1.box⟩ (by decide))).trans kx1.box) (by omega) _ _,Blk.setCell_ne ((hgr.block _ kx1.ans.lt (tyn _ 35 ⟨_,_,kx1.ans⟩ (by decide))).trans kx1.ans) (by omega) _ _,hbel⟩
        have owf:=own_set own6 kb6 (by decide) 8 (.slice A3 (j+1) cap3)
        have HFIN:=Lib.hid (And.intro kbf (And.intro kxf owf))
        clear hK K kbf hbel kxf owf e0 e1 e2 e3 f6 q6 kb6 kx1 kb1 tyn gne own6 hgr hfr ko1 KN1 B2 B1 kx kb ko t8 d0 d1 d2 d3
        have hmj:q+(j+1)=m+1:=by have:=HMQ.out;omega
        have HMJ:=Lib.hid hmj
        clear hmj
        go_wp2_with fail
        go_roundw
        case rel =>
          obtain ⟨h1,h2,h4⟩:=HFIN.out
          have hmj:=HMJ.out
          exact ⟨j+1,_,by rw [hmj];rfl,by omega,.inr (by omega),h1,by rw [HST.out,entArgs_snoc];exact h4,h2,hlb⟩
        case measure=>simp [intOf];omega
      · have htk:(h.ents.drop q).take j=(h.ents.drop q).take 16:=by
          by_cases hj:j=16
          · rw [hj]
          · rw [List.take_of_length_le (by rw [List.length_drop];omega),List.take_of_length_le (by rw [List.length_drop];omega)]
        have htl:j=((h.ents.drop q).take 16).length:=by rw [←htk];have:=hown.1;rw [entArgs_len] at this;omega
        rw [htk] at hown
        have HTL:=Lib.hid htl
        have t8:=hblk.cell 8 (.slice A2 j cap2) rfl
        have HBL:=Lib.hid hblk
        have HBX4:=Lib.hid BX
        have HOW:=Lib.hid hown
        clear hblk BX hown hes htk htl HEV HO
        by_cases hml:m<h.ents.length
        · have kl:(m:Int)<(h.ents.length:Int):=by omega
          have jl:¬ (j:Int)<16:=by omega
          clear hm hjl
          go_wp2_with (first | (refine wpList_load_blk rfl 35 (Operand.tmp 13) rfl w7.heap.size rfl 35 _ _ HBL.out Tryz.underlying35 rfl (by exact Tryz.size35) ?_) | (refine wpList_store_blk rfl 35 (Operand.tmp 6) (Operand.tmp 140) rfl (w.heap.size+1) rfl zero14 (ansArr (ansE hx (.slice A2 j cap2))) 35 rfl HBX4.out.ans (by exact Tryz.size35) rfl (by simp [ansArr,ansE,Value.oneCell']) ?_;intro w11 hk11 ho11 hs11))
          refine body_cell rfl rfl rfl hk11 Tryz.underlying35 rfl (by exact Tryz.size35) ?_
          have hb11:Below w.heap.size w w11:=HBX4.out.below.trans (ho11.below HBX4.out.below.size (fun j hj=>by rw [hj];exact Nat.le_succ _))
          have ho12:wr.ownsRow w.heap.size 103 4 (Value.slice A2 j cap2) j (entArgs ((h.ents.drop q).take 16)):=HOW.out
          have ow11:w11.ownsRow w.heap.size 103 4 (Value.slice A2 j cap2) j (entArgs ((h.ents.drop q).take 16)):=own_block ho12 (fun j' hj=>ho11.block j' (ho12.lt j' hj).2 (fun e=>by
            obtain ⟨cc,hcc⟩:=own_typed ho12 hj
            subst e
            exact (show Of wr (w.heap.size+1) 35 from ⟨_,_,HBX4.out.ans⟩).ne (show Of wr (w.heap.size+1) 103 from ⟨_,_,hcc⟩) (by decide) rfl))
          rw [hF.out]
          have HRD:=Reads.of_own ow11
          have htl:=HTL.out
          refine RDo.same HR.out hb11 ⟨_,_,rfl,ReadsP.nil _ _ 1,⟨by rw [←htl];exact HRD,fun b hb _=>?_⟩⟩
          have:=(ow11.lt b hb).1
          omega
        · have kl:¬ (m:Int)<(h.ents.length:Int):=by omega
          clear hm hjl
          go_wp2_with (first | (refine wpList_load_blk rfl 35 (Operand.tmp 13) rfl w7.heap.size rfl 35 _ _ HBL.out Tryz.underlying35 rfl (by exact Tryz.size35) ?_) | (refine wpList_store_blk rfl 35 (Operand.tmp 6) (Operand.tmp 140) rfl (w.heap.size+1) rfl zero14 (ansArr (ansE hx (.slice A2 j cap2))) 35 rfl HBX4.out.ans (by exact Tryz.size35) rfl (by simp [ansArr,ansE,Value.oneCell']) ?_;intro w11 hk11 ho11 hs11))
          refine body_cell rfl rfl rfl hk11 Tryz.underlying35 rfl (by exact Tryz.size35) ?_
          have hb11:Below w.heap.size w w11:=HBX4.out.below.trans (ho11.below HBX4.out.below.size (fun j hj=>by rw [hj];exact Nat.le_succ _))
          have ho12:wr.ownsRow w.heap.size 103 4 (Value.slice A2 j cap2) j (entArgs ((h.ents.drop q).take 16)):=HOW.out
          have ow11:w11.ownsRow w.heap.size 103 4 (Value.slice A2 j cap2) j (entArgs ((h.ents.drop q).take 16)):=own_block ho12 (fun j' hj=>ho11.block j' (ho12.lt j' hj).2 (fun e=>by
            obtain ⟨cc,hcc⟩:=own_typed ho12 hj
            subst e
            exact (show Of wr (w.heap.size+1) 35 from ⟨_,_,HBX4.out.ans⟩).ne (show Of wr (w.heap.size+1) 103 from ⟨_,_,hcc⟩) (by decide) rfl))
          rw [hF.out]
          have HRD:=Reads.of_own ow11
          have htl:=HTL.out
          refine RDo.same HR.out hb11 ⟨_,_,rfl,ReadsP.nil _ _ 1,⟨by rw [←htl];exact HRD,fun b hb _=>?_⟩⟩
          have:=(ow11.lt b hb).1
          omega
end Go.Proofs.YtmdgeknnhckgfaaGreatDoor
