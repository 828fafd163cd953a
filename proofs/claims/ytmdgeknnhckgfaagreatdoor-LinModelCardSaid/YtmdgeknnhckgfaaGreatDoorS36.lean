/-
  Parts of the proof of the law LinModel: MAdt, MUsr, MSta.
-/
import Derived.Test.YtmdgeknnhckgfaaGreatDoorS19
import Derived.Test.YtmdgeknnhckgfaaGreatDoorS22
import Derived.Test.YtmdgeknnhckgfaaGreatDoorS25
import Derived.Test.YtmdgeknnhckgfaaGreatDoorS28
import Derived.Test.YtmdgeknnhckgfaaGreatDoorS35
set_option linter.unusedSimpArgs false
set_option linter.unusedVariables false
namespace Go.Proofs.YtmdgeknnhckgfaaGreatDoor
open Go Go.RowKit
theorem Tryz.size103:(Tryz.prog.info? 103).map (·.size)=some 4:=by kernel_rfl
def eN (es:List Ent) (q k:Nat):List Ent:=((es.take k).drop q).take 16
theorem eN_step {es:List Ent} {q k:Nat} {e:Ent} (h:es[k]?=some e):eN es q (k+1)=if q≤k∧(eN es q k).length<16 then eN es q k++[e] else eN es q k:=by
  have hk:=(List.getElem?_eq_some_iff.1 h).1
  unfold eN
  rw [take_snoc h]
  by_cases hq:q≤k
  · have hl:(es.take k).length=k:=by rw [List.length_take];omega
    rw [List.drop_append_of_le_length (by omega)]
    obtain ⟨l,hl2⟩:∃ l,(es.take k).drop q=l:=⟨_,rfl⟩
    rw [hl2]
    by_cases h16:l.length<16
    · have ht:l.take 16=l:=List.take_of_length_le (by omega)
      rw [if_pos ⟨hq,by rw [ht];exact h16⟩,ht,List.take_of_length_le (by rw [List.length_append];simp;omega)]
    · rw [if_neg (by rw [List.length_take];omega),List.take_append_of_le_length (by omega)]
  · rw [if_neg (by omega),List.drop_of_length_le (by rw [List.length_append,List.length_take];simp;omega),List.drop_of_length_le (by rw [List.length_take];omega)]
theorem eN_len (es:List Ent) (q k:Nat):(eN es q k).length≤16:=by
  unfold eN
  rw [List.length_take]
  omega
variable {w w':World} {p N:Nat} {L:List Hs} {d:MD}
def RAm (w:World) (c:Cl) (es:List Ent) (q lb:Nat) (hx:ByteArray) (iv:Value) (W:World):Prop :=
  ∃ (k:Nat) (ev:Value),k≤es.length∧iv=.int .i64 (k:Nat)∧Blk W lb (ansArr (ansE hx ev)) 35∧W.ownsRow w.heap.size 103 4 ev (eN es q k).length (entArgs (eN es q k))∧Box w W 8 c.ten c.tok c.usr c.dat c.ttl ((q:Int)+1) c.draw∧w.heap.size+1<lb
set_option maxRecDepth 100000 in
set_option maxHeartbeats 4000000 in
theorem mod_audit (r:MIs w p N L d) {i:Nat} {h:Hs} (hi:L[i]?=some h) (hsl:h.ents.length≤1000) (hnum:∀ (j:Nat) e,h.ents[j]?=some e→e.num=j+1) (c:Cl) (hc:c.Ok) (hkd:c.kind=8) (now:Nat) :
    Calls Tryz.prog 101 #[.pointer (some ⟨d.hb i,0,none⟩),clV c,.int .u64 (now:Nat)] w (MDo w p N L d i ((auditN h c).1,L.set i (auditN h c).2)):=by
  obtain ⟨i0,ii,iz0,iz1,iz2⟩:=info_parts Tryz.info103
  have HR:=Lib.hid r
  have HI:=Lib.hid hi
  have HNUM:=Lib.hid hnum
  have t1:=two_blocks w 8 c.ten c.tok c.usr c.dat c.ttl c.frm c.draw
  have bx0:Box w _ 8 c.ten c.tok c.usr c.dat c.ttl c.frm c.draw:=⟨t1.1,t1.2.1,t1.2.2⟩
  have HBX0:=Lib.hid bx0
  have hset:L.set i h=L:=set_self hi
  have hHx:=mod_hex ⟨(headN h.ents).toArray⟩ (by show (headN h.ents).toArray.size≤_;rw [List.size_toArray,headN_len];omega)
  obtain ⟨hd,hhd⟩:∃ x:ByteArray,⟨(headN h.ents).toArray⟩=x:=⟨_,rfl⟩
  obtain ⟨hx,hhx⟩:∃ x:ByteArray,⟨(hexN hd.data.toList).toArray⟩=x:=⟨_,rfl⟩
  have hxe:hx=⟨(hexN (headN h.ents)).toArray⟩:=by rw [←hhx,←hhd]
  rw [hhd] at hHx
  rw [hhx] at hHx
  have HHx:=Lib.hid hHx
  obtain ⟨post,hpost⟩:∃ x,x=(auditN h c):=⟨_,rfl⟩
  rw [←hpost]
  unfold auditN at hpost
  rw [←hxe] at hpost
  have fr:=hc.frm
  obtain ⟨A,cap,hev⟩:=(r.he i h hi).form
  have hcell:∀ W,Below w.heap.size w W→W.cell? ⟨d.hb i,3,none⟩=some (.slice A h.ents.length cap)∧W.cell? ⟨d.hb i,4,none⟩=some (.string hd)∧Reads W (.slice A h.ents.length cap) h.ents.length 4 (entArgs h.ents):=by
    intro W hb
    have k:=(r.kept hb).hh i h hi
    have e:=(r.kept hb).he i h hi
    rw [hev] at e k
    exact ⟨k.cell 3 _ rfl,k.cell 4 _ (by rw [←hhd];rfl),e⟩
  have HC:=Lib.hid hcell
  have hbl:=(r.hh i h hi).lt
  unfold clV
  rw [hkd]
  clear bx0 t1 r hi hc hkd hhd hhx hxe hHx hnum hcell hev
  by_cases hf:c.frm<1
  · have hF:=Lib.hid (show (post.1,L.set i post.2)=(badA 400,L) by rw [hpost,if_pos hf];simp only;rw [hset])
    clear hpost HHx hset
    have BX:=HBX0.out
    go_enter Tryz.func101,Tryz.ntmps101
    go_wp2_with fail
    refine (mod_refuse 400 _).mono ?_
    rintro e w9 ⟨rfl,hb9⟩
    have bx9:=BX.kept hb9
    go_wp2_with (refine wpList_store_blk rfl 35 (Operand.tmp 6) (Operand.tmp 13) rfl (w.heap.size+1) rfl zero14 _ 35 rfl bx9.ans (by exact Tryz.size35) rfl (by simp [ansArr,Ans.zero,Value.oneCell']) ?_;intro w10 hk10 ho10 hs10)
    refine body_cell rfl rfl rfl hk10 Tryz.underlying35 rfl (by exact Tryz.size35) ?_
    have hbx:Below w.heap.size w w10:=bx9.below.trans (ho10.below bx9.below.size (fun k hk=>by rw [hk];exact Nat.le_succ _))
    rw [anV_bad 400 (refN 400) rfl,hF.out]
    exact MDo.same HR.out i hbx (AnM.plain _ _ rfl rfl)
  · rw [if_neg hf] at hpost
    obtain ⟨q,hq⟩:∃ q:Nat,c.frm.toNat - 1=q:=⟨_,rfl⟩
    have hq1:c.frm=(q:Int)+1:=by omega
    rw [hq] at hpost
    have hF:=Lib.hid (show (post.1,L.set i post.2)=({ status:=200,head:=hx,ents:=(h.ents.drop q).take 16 },L) by rw [hpost];simp only;rw [hset])
    have c4:=(HC.out w (Below.refl _ w)).2.1
    rw [hq1] at HBX0 fr ⊢
    have fq:¬ ((q:Int)+1)<1:=by omega
    clear hpost hq hset hf hq1
    go_enter Tryz.func101,Tryz.ntmps101
    go_wp2_with fail
    refine (HHx.out _).mono ?_
    rintro e w7 ⟨rfl,hb7⟩
    have HB7:=Lib.hid (HBX0.out.kept hb7)
    clear hb7 HHx HBX0 c4
    go_wp2_with (refine wpList_store_new rfl 35 (Operand.tmp 7) (Operand.tmp 19) rfl rfl (ansArr (ansE hx (.slice none 0 0))) rfl (by exact Tryz.size35) rfl (by simp [ansArr,ansE,Value.oneCell']) ?_;intro w2 hk2 hb2 hs2;have c3:=(HC.out _ (HB7.out.kept hb2).below).1)
    have hlb:w.heap.size+1<w7.heap.size:=HB7.out.ans.lt
    obtain ⟨lb,hlbe⟩:∃ x,w7.heap.size=x:=⟨_,rfl⟩
    have HK2:=hk2
    rw [hlbe] at HK2 hlb ⊢
    replace HK2:=Lib.hid HK2
    have HB8:=Lib.hid (HB7.out.kept hb2)
    clear hk2 hb2 hs2 HB7 hlbe c3
    go_loopw [25] (RAm w c h.ents q lb hx) (fun v _=>h.ents.length - (intOf v).toNat)
    case atStart=>exact ⟨0,_,Nat.zero_le _,rfl,HK2.out,by rw [show eN h.ents q 0=[] by unfold eN;simp];exact World.ownsRow_nil _ _ _ _,HB8.out,hlb⟩
    case round =>
      obtain ⟨k,ev,hk,rfl,hblk,hown,BX,_⟩:=hrel
      obtain ⟨A2,cap2,rfl⟩:=own_form hown
      by_cases hlt:k<h.ents.length
      · obtain ⟨s,hs⟩:=get_lt hlt
        obtain ⟨eb,eo,rfl,hg,d0,d1,d2,d3⟩:=((HC.out _ BX.below).2.2).ent_at hs
        have hsn:=HNUM.out k s hs
        have hst:=eN_step (q:=q) hs
        have hln:=eN_len h.ents q k
        obtain ⟨m,hm⟩:∃ m,(eN h.ents q k).length=m:=⟨_,rfl⟩
        rw [hm] at hst hln
        have HM:=Lib.hid hm
        have HBX4:=Lib.hid BX
        have HBL:=hblk
        have HOW:=hown
        rw [hm] at HBL HOW
        replace HBL:=Lib.hid HBL
        replace HOW:=Lib.hid HOW
        have kl:(k:Int)<(h.ents.length:Int):=by omega
        have sn:(s.num:Int)=(k:Int)+1:=by omega
        rw [sn] at d0
        have HSN:=Lib.hid (show entCells s=[.int .i64 ((k:Int)+1),.int .i64 (s.kind:Nat),.int .u64 (s.tick:Nat),.string s.sub] by unfold entCells;rw [sn])
        clear sn hblk hown BX hs hm hsn
        by_cases hqk:q≤k
        · have g1:(q:Int)+1≤((k:Int)+1):=by omega
          by_cases hm16:m<16
          · have HST:=Lib.hid (show eN h.ents q (k+1)=eN h.ents q k++[s] by rw [hst,if_pos ⟨hqk,hm16⟩])
            have ml:(m:Int)<16:=by omega
            have p1:=Lib.hid (show m+1≤maxLen by unfold maxLen;omega)
            have p2:=Lib.hid (show (m+1)*40≤140737488355328 by omega)
            clear hst hqk hm16
            go_wp2_with (first
              | (refine wpList_store_new rfl 103 (Operand.tmp 9) (Operand.tmp 28) rfl rfl #[.int .i64 ((k:Int)+1),.int .i64 (s.kind:Nat),.int .u64 (s.tick:Nat),.string s.sub] rfl (by exact Tryz.size103) rfl (by simp [Value.oneCell']) ?_;intro w4 hk4 hb4 hs4;have z0:=hk4.cell 0 (.int .i64 ((k:Int)+1)) rfl;have z1:=hk4.cell 1 (.int .i64 (s.kind:Nat)) rfl;have z2:=hk4.cell 2 (.int .u64 (s.tick:Nat)) rfl;have z3:=hk4.cell 3 (.string s.sub) rfl;have HX4:=Lib.hid (HBX4.out.kept hb4);have HL4:=Lib.hid (HBL.out.kept hb4);have HO4:=Lib.hid (own_below HOW.out hb4);have t8:=HL4.out.cell 8 (.slice A2 m cap2) rfl;have b6:=HX4.out.box.cell 6 (.int .i64 ((q:Int)+1)) rfl;have q2:=Lib.hid (Nat.le_trans HX4.out.below.size (Nat.le_succ _));clear hk4 hb4 hs4 d0 d1 d2 d3)
              | (at_builtin;refine wpList_append_row rfl _ _ 33 rfl w.heap.size 103 i0 _ 4 40 Tryz.underlying33 ii iz0 iz1 iz2 rfl (by decide) _ _ _ rfl (HO4.out.alloc _) ⟨w4.heap.size,0,none⟩ 1 1 [.int .i64 ((k:Int)+1),.int .i64 (s.kind:Nat),.int .u64 (s.tick:Nat),.string s.sub] rfl rfl (cells_new w4 [.int .i64 ((k:Int)+1),.int .i64 (s.kind:Nat),.int .u64 (s.tick:Nat),.string s.sub] 103) (by simp [Value.oneCell']) p1.out p2.out (by rw [World.size_alloc];exact q2.out) ?_))
            intro v' w6 own6 hgr hfr
            obtain ⟨A3,cap3,rfl⟩:=own_form own6
            have B1:Below w4.heap.size w4 (w4.alloc (.cells #[.int .i64 ((k:Int)+1),.int .i64 (s.kind:Nat),.int .u64 (s.tick:Nat),.string s.sub] 103)):=(Below.refl _ w4).alloc (Nat.le_refl _) _
            have ko1:=own_below HO4.out B1
            have kb1:=HL4.out.kept B1
            have kx1:=HX4.out.kept B1
            generalize w4.alloc (.cells #[.int .i64 ((k:Int)+1),.int .i64 (s.kind:Nat),.int .u64 (s.tick:Nat),.string s.sub] 103)=V1 at own6 hgr ko1 kb1 kx1 B1
            have tyn:∀ j t,Of V1 j t→t≠103→some j≠(Value.slice A2 m cap2).ownBlock:=by
              intro j t hj hn e
              obtain ⟨cc,hcc⟩:=own_typed ko1 e.symm
              exact hj.ne (show Of V1 j 103 from ⟨cc,_,hcc⟩) hn rfl
            have kb6:Blk w6 lb (ansArr (ansE hx (.slice A2 m cap2))) 35:=(hgr.block _ kb1.lt (tyn _ 35 ⟨_,_,kb1⟩ (by decide))).trans kb1
            have q6:=kb6.cell 8 (.slice A2 m cap2) rfl
            have f6:=kb6.frozen 8
            have kbf:Blk (w6.setCell ⟨lb,8,none⟩ (.slice A3 (m+1) cap3)) lb (ansArr (ansE hx (.slice A3 (m+1) cap3))) 35:=kb6.setCell 8 _
            have hbel:Below w.heap.size w (w6.setCell ⟨lb,8,none⟩ (.slice A3 (m+1) cap3)):=(kx1.below.grown hgr (by have:=kx1.below.size;omega) (fun j hj=>(ko1.lt j hj).1)).setCell (show w.heap.size≤(⟨lb,8,none⟩:Addr).block from by show w.heap.size≤lb;omega) _
            have kxf:Box w (w6.setCell ⟨lb,8,none⟩ (.slice A3 (m+1) cap3)) 8 c.ten c.tok c.usr c.dat c.ttl ((q:Int)+1) c.draw :=
              ⟨Blk.setCell_ne ((hgr.block _ kx1.box.lt (tyn _ 53 ⟨_,_,kx1.box⟩ (by decide))).trans kx1.box) (by omega) _ _,Blk.setCell_ne ((hgr.block _ kx1.ans.lt (tyn _ 35 ⟨_,_,kx1.ans⟩ (by decide))).trans kx1.ans) (by omega) _ _,hbel⟩
            have owf:=own_set own6 kb6 (by decide) 8 (.slice A3 (m+1) cap3)
            have HFIN:=Lib.hid (And.intro kbf (And.intro kxf owf))
            clear kbf hbel kxf owf kb6 kx1 kb1 tyn own6 hgr hfr ko1 B1 z0 z1 z2 z3 t8 b6
            go_wp2_with fail
            go_roundw
            case rel =>
              obtain ⟨h1,h2,h3⟩:=HFIN.out
              exact ⟨k+1,_,hlt,rfl,h1,by rw [HST.out,List.length_append,HM.out,entArgs_snoc,HSN.out];exact h3,h2,hlb⟩
            case measure=>simp [intOf];omega
          · have HST:=Lib.hid (show eN h.ents q (k+1)=eN h.ents q k by rw [hst,if_neg (fun hh=>hm16 hh.2)])
            have ml:¬ (m:Int)<16:=by omega
            clear hst hqk hm16
            go_wp2_with (refine wpList_store_new rfl 103 (Operand.tmp 9) (Operand.tmp 28) rfl rfl #[.int .i64 ((k:Int)+1),.int .i64 (s.kind:Nat),.int .u64 (s.tick:Nat),.string s.sub] rfl (by exact Tryz.size103) rfl (by simp [Value.oneCell']) ?_;intro w4 hk4 hb4 hs4;have z0:=hk4.cell 0 (.int .i64 ((k:Int)+1)) rfl;have z1:=hk4.cell 1 (.int .i64 (s.kind:Nat)) rfl;have z2:=hk4.cell 2 (.int .u64 (s.tick:Nat)) rfl;have z3:=hk4.cell 3 (.string s.sub) rfl;have HX4:=Lib.hid (HBX4.out.kept hb4);have HL4:=Lib.hid (HBL.out.kept hb4);have HO4:=Lib.hid (own_below HOW.out hb4);have t8:=HL4.out.cell 8 (.slice A2 m cap2) rfl;have b6:=HX4.out.box.cell 6 (.int .i64 ((q:Int)+1)) rfl;have q2:=Lib.hid (Nat.le_trans HX4.out.below.size (Nat.le_succ _));clear hk4 hb4 hs4 d0 d1 d2 d3)
            go_roundw
            case rel=>exact ⟨k+1,_,hlt,rfl,HL4.out,by rw [HST.out,HM.out];exact HO4.out,HX4.out,hlb⟩
            case measure=>simp [intOf];omega
        · have g1:¬ (q:Int)+1≤((k:Int)+1):=by omega
          have HST:=Lib.hid (show eN h.ents q (k+1)=eN h.ents q k by rw [hst,if_neg (fun hh=>hqk hh.1)])
          clear hst hqk
          go_wp2_with (refine wpList_store_new rfl 103 (Operand.tmp 9) (Operand.tmp 28) rfl rfl #[.int .i64 ((k:Int)+1),.int .i64 (s.kind:Nat),.int .u64 (s.tick:Nat),.string s.sub] rfl (by exact Tryz.size103) rfl (by simp [Value.oneCell']) ?_;intro w4 hk4 hb4 hs4;have z0:=hk4.cell 0 (.int .i64 ((k:Int)+1)) rfl;have z1:=hk4.cell 1 (.int .i64 (s.kind:Nat)) rfl;have z2:=hk4.cell 2 (.int .u64 (s.tick:Nat)) rfl;have z3:=hk4.cell 3 (.string s.sub) rfl;have HX4:=Lib.hid (HBX4.out.kept hb4);have HL4:=Lib.hid (HBL.out.kept hb4);have HO4:=Lib.hid (own_below HOW.out hb4);have t8:=HL4.out.cell 8 (.slice A2 m cap2) rfl;have b6:=HX4.out.box.cell 6 (.int .i64 ((q:Int)+1)) rfl;have q2:=Lib.hid (Nat.le_trans HX4.out.below.size (Nat.le_succ _));clear hk4 hb4 hs4 d0 d1 d2 d3)
          go_roundw
          case rel=>exact ⟨k+1,_,hlt,rfl,HL4.out,by rw [HST.out,HM.out];exact HO4.out,HX4.out,hlb⟩
          case measure=>simp [intOf];omega
      · have hK:k=h.ents.length:=by omega
        subst hK
        have hlt':¬ ((h.ents.length:Nat):Int)<(h.ents.length:Int):=by omega
        have hfin:eN h.ents q h.ents.length=(h.ents.drop q).take 16:=by unfold eN;rw [List.take_length]
        rw [hfin] at hown hblk
        have HBL:=Lib.hid hblk
        have HBX4:=Lib.hid BX
        have HOW:=Lib.hid hown
        clear hblk BX hown hfin
        go_wp2_with (first | (refine wpList_load_blk rfl 35 (Operand.tmp 7) rfl lb rfl 35 _ _ HBL.out Tryz.underlying35 rfl (by exact Tryz.size35) ?_) | (refine wpList_store_blk rfl 35 (Operand.tmp 6) (Operand.tmp 47) rfl (w.heap.size+1) rfl zero14 (ansArr (ansE hx (.slice A2 ((h.ents.drop q).take 16).length cap2))) 35 rfl HBX4.out.ans (by exact Tryz.size35) rfl (by simp [ansArr,ansE,Value.oneCell']) ?_;intro w11 hk11 ho11 hs11))
        refine body_cell rfl rfl rfl hk11 Tryz.underlying35 rfl (by exact Tryz.size35) ?_
        have hb11:Below w.heap.size w w11:=HBX4.out.below.trans (ho11.below HBX4.out.below.size (fun j hj=>by rw [hj];exact Nat.le_succ _))
        have ho12:wr.ownsRow w.heap.size 103 4 (Value.slice A2 ((h.ents.drop q).take 16).length cap2) ((h.ents.drop q).take 16).length (entArgs ((h.ents.drop q).take 16)):=HOW.out
        have ow11:w11.ownsRow w.heap.size 103 4 (Value.slice A2 ((h.ents.drop q).take 16).length cap2) ((h.ents.drop q).take 16).length (entArgs ((h.ents.drop q).take 16)):=own_block ho12 (fun j' hj=>ho11.block j' (ho12.lt j' hj).2 (fun e=>by
          obtain ⟨cc,hcc⟩:=own_typed ho12 hj
          subst e
          exact (show Of wr (w.heap.size+1) 35 from ⟨_,_,HBX4.out.ans⟩).ne (show Of wr (w.heap.size+1) 103 from ⟨_,_,hcc⟩) (by decide) rfl))
        rw [hF.out]
        refine MDo.same HR.out i hb11 ⟨_,_,rfl,(ReadsP.nil _ (fun _=>False) 1).1,Reads.of_own ow11,(fun b hb=>by cases hb),fun b hb=>?_⟩
        obtain ⟨cc,hcc⟩:=own_typed ow11 hb
        exact ⟨cc,_,hcc⟩
end Go.Proofs.YtmdgeknnhckgfaaGreatDoor
namespace Go.Proofs.YtmdgeknnhckgfaaGreatDoor
open Go Go.RowKit
def usrP (u:ByteArray):Lit×DataW Unit:=(klS u,elB true)
def usrD (l:List ByteArray):DataW Unit:=.map (l.map usrP)
def insU (u:ByteArray):List ByteArray→List ByteArray
  | []=>[u]
  | x::l=>if SLt x u then x::insU u l else u::x::l
theorem usrD_size (l:List ByteArray):Maps.size (usrD l)=l.length:=by
  unfold usrD
  rw [Maps.size_eq,List.length_map]
theorem usrD_filter (l:List ByteArray) (t:ByteArray):((l.map usrP).filter fun p=>!p.1.sameKey (klS t))=(l.filter fun s=>!decide (s=t)).map usrP:=by
  rw [List.filter_map]
  congr 1
  congr 1
  funext s
  show (!(klS s).sameKey (klS t))=_
  rw [same_klS]
theorem insert_insU {u:ByteArray}:∀ {l:List ByteArray},(∀ x∈l,x≠u)→DataW.insert (usrP u) (l.map usrP)=(insU u l).map usrP
  | [],_=>rfl
  | x::l,h=>by
    have ih:=insert_insU (u:=u) (l:=l) (fun y hy=>h y (List.mem_cons_of_mem _ hy))
    have hx:=h x (List.mem_cons_self ..)
    rw [List.map_cons]
    unfold DataW.insert insU
    by_cases hlt:SLt x u
    · rw [if_pos hlt]
      have hn:¬ (klS u).before (klS x)=true:=fun hb=>SLt.irrefl _ (((before_klS _ _).1 hb).trans hlt)
      rw [if_neg (show ¬ (usrP u).1.before (usrP x).1=true from hn),ih]
      rfl
    · rw [if_neg hlt]
      have hb:(klS u).before (klS x)=true:=(before_klS _ _).2 (by
        rcases SLt.total x u with h1 | h1 | h1
        · exact absurd h1 hlt
        · exact absurd h1 hx
        · exact h1)
      rw [if_pos (show (usrP u).1.before (usrP x).1=true from hb)]
      rfl
theorem usrD_put (l:List ByteArray) (u:ByteArray):(usrD l).put (klS u) (elB true)=usrD (insU u (l.filter fun x=>!decide (x=u))):=by
  unfold usrD DataW.put
  simp only
  rw [usrD_filter]
  congr 1
  exact insert_insU (fun x hx=>by
    rw [List.mem_filter] at hx
    simpa using hx.2)
def UMap (w:World) (b n:Nat) (l:List ByteArray):Prop:=w.ownsMap Tryz.prog 9 (plainElem Tryz.prog 4) b n (usrD l)
section
variable {w:World} {b n:Nat} {l:List ByteArray}
theorem UMap.put (h:UMap w b n l) (hn:n<maxLen) (u:ByteArray) (ht:u.size≤maxLen) :
    ∃ w',(Instr.mapUpdate 96 (.map (some b)) (.string u) (.bool true)).run Tryz.prog w=.ok () w'∧UMap w' b (n+1) (insU u (l.filter fun x=>!decide (x=u)))∧w.mapTurned w' b:=by
  obtain ⟨w',hrun,h1,h2⟩:=World.ownsMap.store h Tryz.mapSB.K Tryz.mapSB.ht hn (Tryz.mapSB.key u ht) (Tryz.mapSB.elem true)
  rw [usrD_put] at h1
  exact ⟨w',hrun,h1,h2⟩
theorem UMap.len (h:UMap w b n l) (ty:TypeId):(Builtin.len_ #[96] ty #[.map (some b)]).run Tryz.prog w=.ok (.int .i64 l.length) w:=by
  have:=World.ownsMap.len h Tryz.mapSB.ht ty
  rw [usrD_size] at this
  exact this
theorem UMap.lt (h:UMap w b n l):b<w.heap.size:=World.ownsMap.lt h
theorem UMap.block {w':World} (h:UMap w b n l) (e:w'.heap[b]?=w.heap[b]?):UMap w' b n l:=by
  obtain ⟨es,clock,hb,r⟩:=h
  exact ⟨es,clock,e.trans hb,r⟩
theorem UMap.kept {w':World} (h:UMap w b n l) (hb:Below w.heap.size w w'):UMap w' b n l:=h.block (hb.block b h.lt)
theorem UMap.made (w:World):UMap (w.alloc (.map #[] 0)) w.heap.size 0 []:=World.ownsMap_made w Tryz.prog 9 (plainElem Tryz.prog 4)
end
theorem wpList_put_U {w:World} {ops:Array Oper} {rest:List Oper} {o:Oper} {a:Act} {Q:Exit→Act→World→Prop} {b n:Nat} {l:List ByteArray} (hg:o.guard=none) (m x v:Operand) (hop:o.op=Op.mapUpdate 96 m x v) (hm:a.eval m=.map (some b)) (g:UMap w b n l) (hn:n<maxLen) (u:ByteArray) (hu:u.size≤maxLen) (hx:a.eval x=.string u) (hv:a.eval v=.bool true)
    (hK:∀ w',UMap w' b (n+1) (insU u (l.filter fun x=>!decide (x=u)))→w.mapTurned w' b→wpList Tryz.prog ops Q rest (a.put o.dst undef) w'):wpList Tryz.prog ops Q (o::rest) a w:=by
  refine wpList_plain hg fun K' hK'=>?_
  obtain ⟨w',hrun,r1,r2⟩:=g.put hn u hu
  unfold Oper.wp
  simp [execOp,hop,hm,hx,hv,hrun,Result.andThen]
  exact hK' _ _ (hK w' r1 r2)
structure UOk (l U:List ByteArray):Prop where
  len:l.length=U.length
  mem:∀ u,u∈l↔u∈U
  nodup:l.Nodup
theorem insU_mem {u x:ByteArray}:∀ {l:List ByteArray},x∈insU u l↔x=u∨x∈l
  | []=>by simp [insU]
  | y::l=>by
    unfold insU
    split
    · rw [List.mem_cons,insU_mem,List.mem_cons]
      constructor
      · rintro (h | h | h)
        · exact .inr (.inl h)
        · exact .inl h
        · exact .inr (.inr h)
      · rintro (h | h | h)
        · exact .inr (.inl h)
        · exact .inl h
        · exact .inr (.inr h)
    · rw [List.mem_cons]
theorem insU_len (u:ByteArray):∀ l:List ByteArray,(insU u l).length=l.length+1
  | []=>rfl
  | y::l=>by
    unfold insU
    split
    · rw [List.length_cons,insU_len,List.length_cons]
    · rfl
theorem insU_nodup {u:ByteArray}:∀ {l:List ByteArray},l.Nodup→u ∉ l→(insU u l).Nodup
  | [],_,_=>by unfold insU;simp
  | y::l,h,hn=>by
    obtain ⟨h1,h2⟩:=List.nodup_cons.1 h
    unfold insU
    split
    · refine List.nodup_cons.2 ⟨fun hy=>?_,insU_nodup h2 (fun hu=>hn (List.mem_cons_of_mem _ hu))⟩
      rcases insU_mem.1 hy with e | e
      · exact hn (by rw [e];exact List.mem_cons_self ..)
      · exact h1 e
    · exact List.nodup_cons.2 ⟨hn,h⟩
theorem filt_len {u:ByteArray}:∀ {l:List ByteArray},l.Nodup→u∈l→(l.filter fun x=>!decide (x=u)).length+1=l.length
  | [],_,h=>by cases h
  | y::l,hd,h=>by
    obtain ⟨h1,h2⟩:=List.nodup_cons.1 hd
    by_cases hy:y=u
    · subst hy
      rw [List.filter_cons,if_neg (by simp)]
      have:l.filter (fun x=>!decide (x=y))=l:=List.filter_eq_self.2 (fun x hx=>by
        have:¬ x=y:=fun e=>h1 (e ▸ hx)
        simp [this])
      rw [this];rfl
    · have hm:u∈l:=by
        rcases List.mem_cons.1 h with e | e
        · exact absurd e.symm hy
        · exact e
      rw [List.filter_cons,if_pos (by simp [hy]),List.length_cons,List.length_cons,filt_len h2 hm]
theorem any_usr (U:List ByteArray) (u:ByteArray):U.any (fun x=>x.toList == u.toList)=true↔u∈U:=by
  rw [List.any_eq_true]
  constructor
  · rintro ⟨x,hx,e⟩
    rw [str_beq] at e
    subst e;exact hx
  · intro h
    exact ⟨u,h,str_beq.2 rfl⟩
theorem UOk.step {l:List ByteArray} {S:List Ses} (h:UOk l (usersN S)) (s:Ses):UOk (insU s.usr (l.filter fun x=>!decide (x=s.usr))) (usersN (s::S)):=by
  have hnm:s.usr ∉ l.filter fun x=>!decide (x=s.usr):=fun hm=>by
    rw [List.mem_filter] at hm
    simp at hm
  have hnd:(insU s.usr (l.filter fun x=>!decide (x=s.usr))).Nodup:=insU_nodup (List.Pairwise.filter _ h.nodup) hnm
  have hmem:∀ u,u∈insU s.usr (l.filter fun x=>!decide (x=s.usr))↔u=s.usr∨u∈l:=by
    intro u
    rw [insU_mem,List.mem_filter]
    by_cases hu:u=s.usr
    · simp [hu]
    · simp [hu]
  unfold usersN
  simp only
  by_cases hu:s.usr∈usersN S
  · rw [if_pos ((any_usr _ _).2 hu)]
    have hl:=(h.mem _).2 hu
    refine ⟨?_,fun u=>?_,hnd⟩
    · rw [insU_len,filt_len h.nodup hl,h.len]
    · rw [hmem,h.mem]
      constructor
      · rintro (e | e)
        · rw [e];exact hu
        · exact e
      · exact .inr
  · rw [if_neg (fun hc=>hu ((any_usr _ _).1 hc))]
    have hl:s.usr ∉ l:=fun hm=>hu ((h.mem _).1 hm)
    have hfl:l.filter (fun x=>!decide (x=s.usr))=l:=List.filter_eq_self.2 (fun x hx=>by
      have:¬ x=s.usr:=fun e=>hl (e ▸ hx)
      simp [this])
    refine ⟨?_,fun u=>?_,hnd⟩
    · rw [insU_len,hfl,h.len];rfl
    · rw [hmem,h.mem,List.mem_cons]
theorem UOk.nil:UOk [] (usersN []):=⟨rfl,fun u=>Iff.rfl,List.nodup_nil⟩
theorem take_rev {S:List Ses} {k:Nat} {s:Ses} (h:S[k]?=some s):(S.take (k+1)).reverse=s::(S.take k).reverse:=by
  rw [take_snoc h,List.reverse_append];rfl
def RUs (w:World) (l:List Ses) (iv:Value) (W:World):Prop :=
  ∃ (k:Nat) (U:List ByteArray),k≤l.length∧iv=.int .i64 (k:Nat)∧UMap W w.heap.size k U∧UOk U (usersN (l.take k).reverse)∧Below w.heap.size w W
set_option maxRecDepth 100000 in
set_option maxHeartbeats 4000000 in
theorem mod_users (w:World) (B:Nat) (A:Option Addr) (cap:Nat) (l:List Ses) (hown:w.ownsRow B 90 4 (.slice A l.length cap) l.length (sesArgs l)) (hz:∀ s∈l,s.usr.size≤maxLen) (hl:l.length≤1000) :
    Calls Tryz.prog 127 #[.slice A l.length cap] w fun e w'=>e=.returned (.int .i64 (usersN l.reverse).length)∧Below w.heap.size w w':=by
  have HO:=Lib.hid hown
  have HZ:=Lib.hid hz
  clear hown hz
  have hmm:=@run_makeMap Tryz.prog
  go_enter Tryz.func127,Tryz.ntmps127
  go_wp2_with fail
  clear hmm
  go_loopw [9] (RUs w l) (fun v _=>l.length - (intOf v).toNat)
  case atStart=>exact ⟨0,[],Nat.zero_le _,rfl,UMap.made w,UOk.nil,(Below.refl _ _).alloc (Nat.le_refl _) _⟩
  case round =>
    obtain ⟨k,U,hk,rfl,hu,hok,hb⟩:=hrel
    by_cases hlt:k<l.length
    · obtain ⟨s,hs⟩:=get_lt hlt
      obtain ⟨g,cap',e,hgl,_,d0,d1,d2,d3⟩:=ses_at (own_below HO.out hb) hs
      cases e
      have hsz:=HZ.out s (List.mem_of_getElem? hs)
      have HU:=Lib.hid hu
      have HST:=Lib.hid (show UOk (insU s.usr (U.filter fun x=>!decide (x=s.usr))) (usersN (l.take (k+1)).reverse) by rw [take_rev hs];exact hok.step s)
      have HSZ:=Lib.hid hsz
      have HB:=Lib.hid hb
      have kl:(k:Int)<(l.length:Int):=by omega
      clear hs hu hok hsz hb
      go_wp2_with (first
        | (refine wpList_store_new rfl 90 (Operand.tmp 5) (Operand.tmp 12) rfl rfl (sesArr s) rfl (by exact Tryz.size90) rfl (by simp [sesArr,Value.oneCell']) ?_;intro w4 hk4 hb4 hs4;have z1:=hk4.cell 1 (.string s.usr) rfl;have HU4:=Lib.hid (HU.out.kept hb4);have HB4:=Lib.hid hb4;clear hk4 hb4 hs4 d0 d1 d2 d3)
        | (refine wpList_put_U rfl (Operand.tmp 13) (Operand.tmp 15) (Operand.const (.bool true)) rfl rfl HU4.out (by unfold maxLen;omega) s.usr HSZ.out rfl rfl ?_;intro w5 g5 m5;have HG5:=Lib.hid g5;have HM5:=Lib.hid m5;clear g5 m5 z1))
      go_roundw
      case rel=>exact ⟨k+1,_,hlt,rfl,HG5.out,HST.out,(HB.out.trans (HB4.out.mono HB.out.size)).trans (turned_below HM5.out (Nat.le_refl _))⟩
      case measure=>simp [intOf];omega
    · have hK:k=l.length:=by omega
      rw [hK,List.take_length] at hok
      have HF:=Lib.hid hok.len
      have HU:=Lib.hid hu
      have HLN:=Lib.hid (fun ty=>hu.len ty)
      have kl:¬ (k:Int)<(l.length:Int):=by omega
      clear hok hu hK
      have hln:=HLN.out
      go_wp2_with fail
      go_ret
      exact ⟨by first | rfl | (rw [←HF.out];rfl),hb⟩
end Go.Proofs.YtmdgeknnhckgfaaGreatDoor
namespace Go.Proofs.YtmdgeknnhckgfaaGreatDoor
open Go Go.RowKit
variable {w w':World} {p N:Nat} {L:List Hs} {d:MD}
set_option maxRecDepth 100000 in
set_option maxHeartbeats 4000000 in
theorem mod_stats (r:MIs w p N L d) {i:Nat} {h:Hs} (hi:L[i]?=some h) (hs:Sorted h.ses) (hsl:h.ses.length≤1000) (c:Cl) (hz:∀ s∈h.ses,s.tok.size≤maxLen∧s.usr.size≤maxLen) (hkd:c.kind=9) (now:Nat) :
    Calls Tryz.prog 102 #[.pointer (some ⟨d.hb i,0,none⟩),clV c,.int .u64 (now:Nat)] w (MDo w p N L d i ((statsN h now).1,L.set i (statsN h now).2)):=by
  have HR:=Lib.hid r
  have HI:=Lib.hid hi
  have t1:=two_blocks w 9 c.ten c.tok c.usr c.dat c.ttl c.frm c.draw
  have bx0:Box w _ 9 c.ten c.tok c.usr c.dat c.ttl c.frm c.draw:=⟨t1.1,t1.2.1,t1.2.2⟩
  have B0:=Lib.hid bx0
  have hset:L.set i h=L:=set_self hi
  have HL:=mod_live (r.kept bx0.below) hi hs (fun s hs=>(hz s hs).1) hsl now
  have hll:=liveN_len h.ses now
  have hmem:∀ s∈liveN h.ses now,s.usr.size≤maxLen:=fun s hs=>(hz s (List.mem_filter.1 hs).1).2
  have hF:((statsN h now).1,L.set i (statsN h now).2)=({ status:=200,live:=(liveN h.ses now).length,users:=(usersN (liveN h.ses now).reverse).length,total:=h.ents.length,next:=h.next },L):=by
    unfold statsN;simp only;rw [hset]
  rw [hF]
  obtain ⟨l,hl⟩:∃ l,liveN h.ses now=l:=⟨_,rfl⟩
  rw [hl] at HL hll hmem ⊢
  have HLV:=Lib.hid HL
  have HME:=Lib.hid hmem
  obtain ⟨un,hun⟩:∃ un,(usersN l.reverse).length=un:=⟨_,rfl⟩
  rw [hun]
  have HUN:=Lib.hid hun
  obtain ⟨A,cap,hev⟩:=(r.he i h hi).form
  have hcell:∀ W,Below w.heap.size w W→W.cell? ⟨d.hb i,3,none⟩=some (.slice A h.ents.length cap)∧W.cell? ⟨d.hb i,2,none⟩=some (.int .i64 (h.next:Nat)):=by
    intro W hb
    have k:=(r.kept hb).hh i h hi
    rw [hev] at k
    exact ⟨k.cell 3 _ rfl,k.cell 2 _ rfl⟩
  have HC:=Lib.hid hcell
  unfold clV
  rw [hkd]
  clear t1 bx0 r hi hs hz HL hl hmem hF hun hset hev hcell
  go_enter Tryz.func102,Tryz.ntmps102
  go_wp2_with fail
  refine HLV.out.mono ?_
  rintro e w3 ⟨v,rfl,hown,hb3⟩
  obtain ⟨A3,cap3,rfl⟩:=own_form hown
  have HBX:=Lib.hid (B0.out.kept hb3)
  have HO:=Lib.hid (own_base hown (Nat.zero_le _))
  obtain ⟨c3,c2⟩:=HC.out _ HBX.out.below
  clear hown hb3 HLV B0
  go_wp2_with fail
  have B1:Below w3.heap.size w3 w3.drew:=(Below.refl _ w3).drew
  have HU:=Lib.hid (mod_users w3.drew 0 A3 cap3 l (own_below HO.out B1) HME.out (by omega))
  rw [HUN.out] at HU
  refine region_plan (S:=fun w':World=>w'.cell? ⟨d.hb i,3,none⟩=some (.slice A h.ents.length cap)∧w'.cell? ⟨d.hb i,2,none⟩=some (.int .i64 (h.next:Nat)))
    ((0,true)::(1,true)::(2,true)::(4,true)::(5,true)::(6,true)::(7,true)::(8,true)::(9,true)::(10,true)::(11,true)::(12,true)::(3,false)::(13,true)::(14,false)::[])
    (by kernel_rfl) (by kernel_rfl) (by kernel_rfl) (by kernel_rfl) (fun _ _ _ dst _ h=>by cases dst<;>exact h) ⟨c3,c2⟩ (fun hH=>?_)
  clear hH
  (repeat (first | (refine plan_take (v:=?_) (by (simp only [ga1,ga2,ga3];exact rfl)) (by rfl) ?_ ?_;rotate_left;(focus (intro wS hS;(try dsimp only at hS);go_split_ands;go_simp;(try with_reducible rfl)));simp only [Act.put,pu1,pu2,pu3]) | (refine plan_skip (by (simp only [ga1,ga2,ga3];exact rfl)) (by rfl) ?_;simp only [Act.put,pu1,pu2,pu3])))
  (refine plan_solo (by (simp only [ga1,ga2,ga3];exact rfl)) (by rfl) ?_;intro K hK;go_simp)
  refine HU.out.mono ?_
  rintro e w4 ⟨rfl,hb4⟩
  have B2:=B1.trans (hb4.mono B1.size)
  refine hK.out _ _ ⟨cell_keep B2 c3,cell_keep B2 c2⟩ (fun hH=>?_)
  clear hK K hH hb4
  (try simp only [Act.put,pu1,pu2,pu3])
  (repeat (first | (refine plan_take (v:=?_) (by (simp only [ga1,ga2,ga3];exact rfl)) (by rfl) ?_ ?_;rotate_left;(focus (intro wS hS;(try dsimp only at hS);go_split_ands;go_simp;(try with_reducible rfl)));simp only [Act.put,pu1,pu2,pu3]) | (refine plan_skip (by (simp only [ga1,ga2,ga3];exact rfl)) (by rfl) ?_;simp only [Act.put,pu1,pu2,pu3])))
  (refine plan_solo (by (simp only [ga1,ga2,ga3];exact rfl)) (by rfl) ?_;intro K hK)
  refine oper_store_blk 35 (Operand.tmp 6) (Operand.tmp 24) rfl (w.heap.size+1) rfl zero14 (ansArr { Ans.zero with status:=200,live:=(l.length:Nat),users:=(un:Nat),total:=(h.ents.length:Nat),next:=(h.next:Nat) }) 35 rfl (HBX.out.kept B2).ans (by exact Tryz.size35) rfl (by simp [ansArr,Ans.zero,Value.oneCell']) ?_
  intro w9 hk9 ho9 hs9
  have KB:=HBX.out.kept B2
  have BF:Below w.heap.size w w9:=KB.below.trans (ho9.below KB.below.size (fun k hk=>by rw [hk];exact Nat.le_succ _))
  obtain ⟨e3,e2⟩:=HC.out w9 BF
  refine hK.out _ _ ⟨e3,e2⟩ (fun hH=>?_)
  clear hK K hH e3 e2 c3 c2 B2 B1
  (try simp only [Act.put,pu1,pu2,pu3])
  refine plan_nil ?_
  go_wp2_with fail
  refine body_cell rfl rfl rfl hk9 Tryz.underlying35 rfl (by exact Tryz.size35) ?_
  exact MDo.same HR.out i BF (AnM.plain _ { status:=200,live:=l.length,users:=un,total:=h.ents.length,next:=h.next } rfl rfl)
end Go.Proofs.YtmdgeknnhckgfaaGreatDoor
