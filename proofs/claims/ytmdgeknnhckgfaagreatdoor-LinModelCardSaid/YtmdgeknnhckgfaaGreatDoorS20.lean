/-
  Parts of the proof of the law LinModel: RDrp.
-/
import Derived.Test.YtmdgeknnhckgfaaGreatDoorS18
set_option linter.unusedSimpArgs false
set_option linter.unusedVariables false
namespace Go.Proofs.YtmdgeknnhckgfaaGreatDoor
open Go Go.RowKit
def hitP (c:Cl) (s:Ses):Bool:=(c.kind == 4 && s.tok.toList == c.tok.toList) || (c.kind == 5 && s.usr.toList == c.usr.toList) || c.kind == 6
def dropP (c:Cl) (now:Nat) (s:Ses):Bool:=hitP c s && decide (now<s.exp)
theorem filt_step {S:List Ses} {k:Nat} {s:Ses} (h:S[k]?=some s) (q:Ses→Bool):(S.take (k+1)).filter q=if q s=true then (S.take k).filter q++[s] else (S.take k).filter q:=by
  rw [take_snoc h,List.filter_append]
  cases hq:q s<;>simp [hq]
def RDr (w:World) (S:List Ses) (q:Ses→Bool) (lv nv iv:Value) (W:World):Prop :=
  ∃ k:Nat,k≤S.length∧iv=.int .i64 (k:Nat)∧nv=.int .i64 (((S.take k).filter q).length:Nat)∧W.ownsRow w.heap.size 90 4 lv ((S.take k).filter fun s=>!q s).length (sesArgs ((S.take k).filter fun s=>!q s))∧Below w.heap.size w W
variable {w:World} {p:Nat} {T:List Ten} {L:List Hs} {d:RD}
theorem cells_new1 (w:World) (o:Obj) (l:List Value) (t:TypeId):∀ (j:Nat) (u:Value),l[j]?=some u→((w.alloc o).alloc (.cells l.toArray t)).cell? ((⟨w.heap.size+1,0,none⟩:Addr).add j)=some u:=by
  have:=cells_new (w.alloc o) l t
  rw [World.size_alloc] at this
  exact this
set_option maxRecDepth 100000 in
set_option maxHeartbeats 8000000 in
theorem ref_drops (r:RIs w p T L d) {i:Nat} {h:Hs} (hi:L[i]?=some h) (hsm:h.ses.length≤256) (c:Cl) (hc:c.ten=(i:Int)) (now:Nat) (hkd:c.kind=4∨c.kind=5∨c.kind=6) :
    Calls Tryz.prog 44 #[.pointer (some ⟨p,0,none⟩),clV c,.int .u64 (now:Nat)] w fun e w'=>e=.returned (.int .i64 ((h.ses.filter (dropP c now)).length:Nat))∧RTo w p T L d (L.set i { h with ses:=h.ses.filter fun s=>!dropP c now s }) w':=by
  obtain ⟨i0,ii,iz0,iz1,iz2⟩:=info_parts Tryz.info90
  have hil:=(List.getElem?_eq_some_iff.1 hi).1
  obtain ⟨c0,c1,c2,c3,c4,cl⟩:=r.cells hi
  have HR:=Lib.hid r
  have HI:=Lib.hid hi
  obtain ⟨A,cap,hsv⟩:=own_form (r.hs i h hi)
  have HSV:=Lib.hid hsv
  have HC:=Lib.hid hc
  have il:(i:Int)<(L.length:Int):=by omega
  have hpl:=r.hp.lt
  have gf:w.frozen? ⟨d.g,i*3,none⟩=false:=by
    obtain ⟨cur,hb,_⟩:=r.hg
    exact hb.frozen _
  have HF0:=Lib.hid gf
  clear r hi c0 c2 c3 c4 hsv gf
  unfold clV
  rw [hc]
  clear hc
  rcases hkd with hkd | hkd | hkd
  · have HKD:=Lib.hid hkd
    rw [hkd]
    clear hkd
    go_enter Tryz.func44,Tryz.ntmps44
    go_wp2_with fail
    go_quiet (fail)
    clear c1
    have hB0:Below w.heap.size w ((w.alloc (.cells #[.int .i64 4,.int .i64 (i:Int),.string c.tok,.string c.usr,.string c.dat,.int .i64 c.ttl,.int .i64 c.frm,.int .u64 (c.draw:Int)] 53)).drewN nq):=by
      have:=(Below.refl w.heap.size w).alloc (Nat.le_refl _) (.cells #[.int .i64 4,.int .i64 (i:Int),.string c.tok,.string c.usr,.string c.dat,.int .i64 c.ttl,.int .i64 c.frm,.int .u64 (c.draw:Int)] 53)
      exact ⟨this.os,this.tape,this.output,this.size,this.block⟩
    have hk0:Blk ((w.alloc (.cells #[.int .i64 4,.int .i64 (i:Int),.string c.tok,.string c.usr,.string c.dat,.int .i64 c.ttl,.int .i64 c.frm,.int .u64 (c.draw:Int)] 53)).drewN nq) w.heap.size #[.int .i64 4,.int .i64 (i:Int),.string c.tok,.string c.usr,.string c.dat,.int .i64 c.ttl,.int .i64 c.frm,.int .u64 (c.draw:Int)] 53:=(Blk.new w _ 53).drewN nq
    generalize ((w.alloc (.cells #[.int .i64 4,.int .i64 (i:Int),.string c.tok,.string c.usr,.string c.dat,.int .i64 c.ttl,.int .i64 c.frm,.int .u64 (c.draw:Int)] 53)).drewN nq)=w5 at hB0 hk0 ⊢
    have HB0:=Lib.hid hB0
    have HK0:=Lib.hid hk0
    clear hB0 hk0
    go_wp2_with fail
    go_loopw [8,9,10] (RDr w5 h.ses (dropP c now)) (fun _ _ v _=>h.ses.length - (intOf v).toNat)
    case atStart=>exact ⟨0,Nat.zero_le _,rfl,rfl,World.ownsRow_nil _ _ _ _,Below.refl _ _⟩
    case round =>
      obtain ⟨k,hk,rfl,rfl,hown,hb⟩:=hrel
      have rr:=(HR.out.kept HB0.out).kept hb
      obtain ⟨_,_,c2,_,_,cl5⟩:=rr.cells HI.out
      rw [HSV.out] at c2
      have kb:=HK0.out.kept hb
      have k0:=kb.cell 0 (.int .i64 4) rfl
      have k2:=kb.cell 2 (.string c.tok) rfl
      have k3:=kb.cell 3 (.string c.usr) rfl
      have kbl:=kb.lt
      have nl:=List.length_filter_le (dropP c now) (h.ses.take k)
      rw [List.length_take,Nat.min_eq_left hk] at nl
      by_cases hlt:k<h.ses.length
      · obtain ⟨s,hs⟩:=get_lt hlt
        have hrow:=rr.hs i h HI.out
        rw [HSV.out] at hrow
        obtain ⟨g,cap',e,hg,_,d0,d1,d2,d3⟩:=ses_at hrow hs
        cases e
        have HO:=Lib.hid hown
        have HS:=Lib.hid hs
        have n256:((((h.ses.take k).filter (dropP c now)).length:Nat):Int)<256:=by omega
        have kl:(k:Int)<(h.ses.length:Int):=by omega
        clear rr kb hrow hs hown nl
        obtain ⟨m,hm⟩:∃ m,((h.ses.take k).filter (dropP c now)).length=m:=⟨_,rfl⟩
        rw [hm] at n256 ⊢
        have HM:=Lib.hid hm
        clear hm
        by_cases he:now<s.exp
        · cases ht:(s.tok.toList == c.tok.toList) with
          | true =>
            have HQ:=Lib.hid (show dropP c now s=true by unfold dropP hitP;rw [HKD.out,ht,decide_eq_true he];rfl)
            have HST1:=Lib.hid (show (h.ses.take (k+1)).filter (dropP c now)=(h.ses.take k).filter (dropP c now)++[s] by rw [filt_step HS.out,if_pos HQ.out])
            have HST2:=Lib.hid (show (h.ses.take (k+1)).filter (fun s=>!dropP c now s)=(h.ses.take k).filter (fun s=>!dropP c now s) by rw [filt_step HS.out,if_neg (by rw [HQ.out];simp)])
            go_wp2_with fail
            go_roundw
            case rel=>exact ⟨k+1,hlt,rfl,by rw [HST1.out,List.length_append,HM.out];rfl,by rw [HST2.out];exact (HO.out.alloc _),hb.alloc hb.size _⟩
            case measure=>simp [intOf];omega
          | false =>
            have HQ:=Lib.hid (show dropP c now s=false by unfold dropP hitP;rw [HKD.out,ht];rfl)
            have HST1:=Lib.hid (show (h.ses.take (k+1)).filter (dropP c now)=(h.ses.take k).filter (dropP c now) by rw [filt_step HS.out,if_neg (by rw [HQ.out];simp)])
            have HST2:=Lib.hid (show (h.ses.take (k+1)).filter (fun s=>!dropP c now s)=(h.ses.take k).filter (fun s=>!dropP c now s)++[s] by rw [filt_step HS.out,if_pos (by rw [HQ.out];rfl)])
            have ll:=List.length_filter_le (fun s=>!dropP c now s) (h.ses.take k)
            rw [List.length_take,Nat.min_eq_left hk] at ll
            have p1:=Lib.hid (show ((h.ses.take k).filter fun s=>!dropP c now s).length+1≤maxLen by unfold maxLen;omega)
            have p2:=Lib.hid (show (((h.ses.take k).filter fun s=>!dropP c now s).length+1)*56≤140737488355328 by omega)
            clear ll
            go_wp2_with (at_builtin;refine wpList_append_row rfl _ _ 56 rfl w5.heap.size 90 i0 _ 4 56 Tryz.underlying56 ii iz0 iz1 iz2 rfl (by decide) _ _ _ rfl ((HO.out.alloc _).alloc _) ⟨wr.heap.size+1,0,none⟩ 1 1 (sesCells s) rfl rfl (cells_new1 wr _ (sesCells s) 90) (by simp [sesCells,Value.oneCell']) p1.out p2.out (by rw [World.size_alloc,World.size_alloc];have:=hb.size;omega) ?_)
            intro v' w2 own2 hgr hfr
            have hb3:Below w5.heap.size w5 w2:=((hb.alloc hb.size _).alloc (by rw [World.size_alloc];exact Nat.le_succ_of_le hb.size) _).grown hgr (by rw [World.size_alloc,World.size_alloc];have:=hb.size;omega) (fun j hj=>(HO.out.lt j hj).1)
            clear hgr hfr HO
            go_wp2_with fail
            go_roundw
            case rel=>exact ⟨k+1,hlt,rfl,by rw [HST1.out,HM.out],by rw [HST2.out,List.length_append,sesArgs_snoc];exact own2,hb3⟩
            case measure=>simp [intOf];omega
        · have he':¬ (now:Int)<(s.exp:Int):=by omega
          have HQ:=Lib.hid (show dropP c now s=false by unfold dropP;rw [decide_eq_false he,Bool.and_false])
          cases ht:(s.tok.toList == c.tok.toList) with
          | true =>
            have HST1:=Lib.hid (show (h.ses.take (k+1)).filter (dropP c now)=(h.ses.take k).filter (dropP c now) by rw [filt_step HS.out,if_neg (by rw [HQ.out];simp)])
            have HST2:=Lib.hid (show (h.ses.take (k+1)).filter (fun s=>!dropP c now s)=(h.ses.take k).filter (fun s=>!dropP c now s)++[s] by rw [filt_step HS.out,if_pos (by rw [HQ.out];rfl)])
            have ll:=List.length_filter_le (fun s=>!dropP c now s) (h.ses.take k)
            rw [List.length_take,Nat.min_eq_left hk] at ll
            have p1:=Lib.hid (show ((h.ses.take k).filter fun s=>!dropP c now s).length+1≤maxLen by unfold maxLen;omega)
            have p2:=Lib.hid (show (((h.ses.take k).filter fun s=>!dropP c now s).length+1)*56≤140737488355328 by omega)
            clear ll
            go_wp2_with (at_builtin;refine wpList_append_row rfl _ _ 56 rfl w5.heap.size 90 i0 _ 4 56 Tryz.underlying56 ii iz0 iz1 iz2 rfl (by decide) _ _ _ rfl ((HO.out.alloc _).alloc _) ⟨wr.heap.size+1,0,none⟩ 1 1 (sesCells s) rfl rfl (cells_new1 wr _ (sesCells s) 90) (by simp [sesCells,Value.oneCell']) p1.out p2.out (by rw [World.size_alloc,World.size_alloc];have:=hb.size;omega) ?_)
            intro v' w2 own2 hgr hfr
            have hb3:Below w5.heap.size w5 w2:=((hb.alloc hb.size _).alloc (by rw [World.size_alloc];exact Nat.le_succ_of_le hb.size) _).grown hgr (by rw [World.size_alloc,World.size_alloc];have:=hb.size;omega) (fun j hj=>(HO.out.lt j hj).1)
            clear hgr hfr HO
            go_wp2_with fail
            go_roundw
            case rel=>exact ⟨k+1,hlt,rfl,by rw [HST1.out,HM.out],by rw [HST2.out,List.length_append,sesArgs_snoc];exact own2,hb3⟩
            case measure=>simp [intOf];omega
          | false =>
            have HST1:=Lib.hid (show (h.ses.take (k+1)).filter (dropP c now)=(h.ses.take k).filter (dropP c now) by rw [filt_step HS.out,if_neg (by rw [HQ.out];simp)])
            have HST2:=Lib.hid (show (h.ses.take (k+1)).filter (fun s=>!dropP c now s)=(h.ses.take k).filter (fun s=>!dropP c now s)++[s] by rw [filt_step HS.out,if_pos (by rw [HQ.out];rfl)])
            have ll:=List.length_filter_le (fun s=>!dropP c now s) (h.ses.take k)
            rw [List.length_take,Nat.min_eq_left hk] at ll
            have p1:=Lib.hid (show ((h.ses.take k).filter fun s=>!dropP c now s).length+1≤maxLen by unfold maxLen;omega)
            have p2:=Lib.hid (show (((h.ses.take k).filter fun s=>!dropP c now s).length+1)*56≤140737488355328 by omega)
            clear ll
            go_wp2_with (at_builtin;refine wpList_append_row rfl _ _ 56 rfl w5.heap.size 90 i0 _ 4 56 Tryz.underlying56 ii iz0 iz1 iz2 rfl (by decide) _ _ _ rfl ((HO.out.alloc _).alloc _) ⟨wr.heap.size+1,0,none⟩ 1 1 (sesCells s) rfl rfl (cells_new1 wr _ (sesCells s) 90) (by simp [sesCells,Value.oneCell']) p1.out p2.out (by rw [World.size_alloc,World.size_alloc];have:=hb.size;omega) ?_)
            intro v' w2 own2 hgr hfr
            have hb3:Below w5.heap.size w5 w2:=((hb.alloc hb.size _).alloc (by rw [World.size_alloc];exact Nat.le_succ_of_le hb.size) _).grown hgr (by rw [World.size_alloc,World.size_alloc];have:=hb.size;omega) (fun j hj=>(HO.out.lt j hj).1)
            clear hgr hfr HO
            go_wp2_with fail
            go_roundw
            case rel=>exact ⟨k+1,hlt,rfl,by rw [HST1.out,HM.out],by rw [HST2.out,List.length_append,sesArgs_snoc];exact own2,hb3⟩
            case measure=>simp [intOf];omega
      · have hK:k=h.ses.length:=by omega
        subst hK
        rw [List.take_length] at hown nl ⊢
        have hlt':¬ ((h.ses.length:Nat):Int)<(h.ses.length:Int):=by omega
        have f9:wr.frozen? ⟨d.g,i*3,none⟩=false:=by
          obtain ⟨cur,hbb,_⟩:=rr.hg
          exact hbb.frozen _
        obtain ⟨A',cap',rfl⟩:=own_form hown
        have hT:=Lib.hid (HR.out.set_sv HI.out (w2:=wr) (S':=h.ses.filter fun s=>!dropP c now s) (HB0.out.trans (hb.mono HB0.out.size)) (own_base hown (Nat.zero_le _)) (fun k hk=>Nat.le_trans HB0.out.size (hown.lt k hk).1))
        clear rr kb hown
        go_wp2_with fail
        go_ret
        exact ⟨rfl,hT.out⟩
  · have HKD:=Lib.hid hkd
    rw [hkd]
    clear hkd
    go_enter Tryz.func44,Tryz.ntmps44
    go_wp2_with fail
    go_quiet (fail)
    clear c1
    have hB0:Below w.heap.size w ((w.alloc (.cells #[.int .i64 5,.int .i64 (i:Int),.string c.tok,.string c.usr,.string c.dat,.int .i64 c.ttl,.int .i64 c.frm,.int .u64 (c.draw:Int)] 53)).drewN nq):=by
      have:=(Below.refl w.heap.size w).alloc (Nat.le_refl _) (.cells #[.int .i64 5,.int .i64 (i:Int),.string c.tok,.string c.usr,.string c.dat,.int .i64 c.ttl,.int .i64 c.frm,.int .u64 (c.draw:Int)] 53)
      exact ⟨this.os,this.tape,this.output,this.size,this.block⟩
    have hk0:Blk ((w.alloc (.cells #[.int .i64 5,.int .i64 (i:Int),.string c.tok,.string c.usr,.string c.dat,.int .i64 c.ttl,.int .i64 c.frm,.int .u64 (c.draw:Int)] 53)).drewN nq) w.heap.size #[.int .i64 5,.int .i64 (i:Int),.string c.tok,.string c.usr,.string c.dat,.int .i64 c.ttl,.int .i64 c.frm,.int .u64 (c.draw:Int)] 53:=(Blk.new w _ 53).drewN nq
    generalize ((w.alloc (.cells #[.int .i64 5,.int .i64 (i:Int),.string c.tok,.string c.usr,.string c.dat,.int .i64 c.ttl,.int .i64 c.frm,.int .u64 (c.draw:Int)] 53)).drewN nq)=w5 at hB0 hk0 ⊢
    have HB0:=Lib.hid hB0
    have HK0:=Lib.hid hk0
    clear hB0 hk0
    go_wp2_with fail
    go_loopw [8,9,10] (RDr w5 h.ses (dropP c now)) (fun _ _ v _=>h.ses.length - (intOf v).toNat)
    case atStart=>exact ⟨0,Nat.zero_le _,rfl,rfl,World.ownsRow_nil _ _ _ _,Below.refl _ _⟩
    case round =>
      obtain ⟨k,hk,rfl,rfl,hown,hb⟩:=hrel
      have rr:=(HR.out.kept HB0.out).kept hb
      obtain ⟨_,_,c2,_,_,cl5⟩:=rr.cells HI.out
      rw [HSV.out] at c2
      have kb:=HK0.out.kept hb
      have k0:=kb.cell 0 (.int .i64 5) rfl
      have k2:=kb.cell 2 (.string c.tok) rfl
      have k3:=kb.cell 3 (.string c.usr) rfl
      have kbl:=kb.lt
      have nl:=List.length_filter_le (dropP c now) (h.ses.take k)
      rw [List.length_take,Nat.min_eq_left hk] at nl
      by_cases hlt:k<h.ses.length
      · obtain ⟨s,hs⟩:=get_lt hlt
        have hrow:=rr.hs i h HI.out
        rw [HSV.out] at hrow
        obtain ⟨g,cap',e,hg,_,d0,d1,d2,d3⟩:=ses_at hrow hs
        cases e
        have HO:=Lib.hid hown
        have HS:=Lib.hid hs
        have n256:((((h.ses.take k).filter (dropP c now)).length:Nat):Int)<256:=by omega
        have kl:(k:Int)<(h.ses.length:Int):=by omega
        clear rr kb hrow hs hown nl
        obtain ⟨m,hm⟩:∃ m,((h.ses.take k).filter (dropP c now)).length=m:=⟨_,rfl⟩
        rw [hm] at n256 ⊢
        have HM:=Lib.hid hm
        clear hm
        by_cases he:now<s.exp
        · cases ht:(s.usr.toList == c.usr.toList) with
          | true =>
            have HQ:=Lib.hid (show dropP c now s=true by unfold dropP hitP;rw [HKD.out,ht,decide_eq_true he];simp)
            have HST1:=Lib.hid (show (h.ses.take (k+1)).filter (dropP c now)=(h.ses.take k).filter (dropP c now)++[s] by rw [filt_step HS.out,if_pos HQ.out])
            have HST2:=Lib.hid (show (h.ses.take (k+1)).filter (fun s=>!dropP c now s)=(h.ses.take k).filter (fun s=>!dropP c now s) by rw [filt_step HS.out,if_neg (by rw [HQ.out];simp)])
            go_wp2_with fail
            go_roundw
            case rel=>exact ⟨k+1,hlt,rfl,by rw [HST1.out,List.length_append,HM.out];rfl,by rw [HST2.out];exact (HO.out.alloc _),hb.alloc hb.size _⟩
            case measure=>simp [intOf];omega
          | false =>
            have HQ:=Lib.hid (show dropP c now s=false by unfold dropP hitP;rw [HKD.out,ht];simp)
            have HST1:=Lib.hid (show (h.ses.take (k+1)).filter (dropP c now)=(h.ses.take k).filter (dropP c now) by rw [filt_step HS.out,if_neg (by rw [HQ.out];simp)])
            have HST2:=Lib.hid (show (h.ses.take (k+1)).filter (fun s=>!dropP c now s)=(h.ses.take k).filter (fun s=>!dropP c now s)++[s] by rw [filt_step HS.out,if_pos (by rw [HQ.out];rfl)])
            have ll:=List.length_filter_le (fun s=>!dropP c now s) (h.ses.take k)
            rw [List.length_take,Nat.min_eq_left hk] at ll
            have p1:=Lib.hid (show ((h.ses.take k).filter fun s=>!dropP c now s).length+1≤maxLen by unfold maxLen;omega)
            have p2:=Lib.hid (show (((h.ses.take k).filter fun s=>!dropP c now s).length+1)*56≤140737488355328 by omega)
            clear ll
            go_wp2_with (at_builtin;refine wpList_append_row rfl _ _ 56 rfl w5.heap.size 90 i0 _ 4 56 Tryz.underlying56 ii iz0 iz1 iz2 rfl (by decide) _ _ _ rfl ((HO.out.alloc _).alloc _) ⟨wr.heap.size+1,0,none⟩ 1 1 (sesCells s) rfl rfl (cells_new1 wr _ (sesCells s) 90) (by simp [sesCells,Value.oneCell']) p1.out p2.out (by rw [World.size_alloc,World.size_alloc];have:=hb.size;omega) ?_)
            intro v' w2 own2 hgr hfr
            have hb3:Below w5.heap.size w5 w2:=((hb.alloc hb.size _).alloc (by rw [World.size_alloc];exact Nat.le_succ_of_le hb.size) _).grown hgr (by rw [World.size_alloc,World.size_alloc];have:=hb.size;omega) (fun j hj=>(HO.out.lt j hj).1)
            clear hgr hfr HO
            go_wp2_with fail
            go_roundw
            case rel=>exact ⟨k+1,hlt,rfl,by rw [HST1.out,HM.out],by rw [HST2.out,List.length_append,sesArgs_snoc];exact own2,hb3⟩
            case measure=>simp [intOf];omega
        · have he':¬ (now:Int)<(s.exp:Int):=by omega
          have HQ:=Lib.hid (show dropP c now s=false by unfold dropP;rw [decide_eq_false he,Bool.and_false])
          cases ht:(s.usr.toList == c.usr.toList) with
          | true =>
            have HST1:=Lib.hid (show (h.ses.take (k+1)).filter (dropP c now)=(h.ses.take k).filter (dropP c now) by rw [filt_step HS.out,if_neg (by rw [HQ.out];simp)])
            have HST2:=Lib.hid (show (h.ses.take (k+1)).filter (fun s=>!dropP c now s)=(h.ses.take k).filter (fun s=>!dropP c now s)++[s] by rw [filt_step HS.out,if_pos (by rw [HQ.out];rfl)])
            have ll:=List.length_filter_le (fun s=>!dropP c now s) (h.ses.take k)
            rw [List.length_take,Nat.min_eq_left hk] at ll
            have p1:=Lib.hid (show ((h.ses.take k).filter fun s=>!dropP c now s).length+1≤maxLen by unfold maxLen;omega)
            have p2:=Lib.hid (show (((h.ses.take k).filter fun s=>!dropP c now s).length+1)*56≤140737488355328 by omega)
            clear ll
            go_wp2_with (at_builtin;refine wpList_append_row rfl _ _ 56 rfl w5.heap.size 90 i0 _ 4 56 Tryz.underlying56 ii iz0 iz1 iz2 rfl (by decide) _ _ _ rfl ((HO.out.alloc _).alloc _) ⟨wr.heap.size+1,0,none⟩ 1 1 (sesCells s) rfl rfl (cells_new1 wr _ (sesCells s) 90) (by simp [sesCells,Value.oneCell']) p1.out p2.out (by rw [World.size_alloc,World.size_alloc];have:=hb.size;omega) ?_)
            intro v' w2 own2 hgr hfr
            have hb3:Below w5.heap.size w5 w2:=((hb.alloc hb.size _).alloc (by rw [World.size_alloc];exact Nat.le_succ_of_le hb.size) _).grown hgr (by rw [World.size_alloc,World.size_alloc];have:=hb.size;omega) (fun j hj=>(HO.out.lt j hj).1)
            clear hgr hfr HO
            go_wp2_with fail
            go_roundw
            case rel=>exact ⟨k+1,hlt,rfl,by rw [HST1.out,HM.out],by rw [HST2.out,List.length_append,sesArgs_snoc];exact own2,hb3⟩
            case measure=>simp [intOf];omega
          | false =>
            have HST1:=Lib.hid (show (h.ses.take (k+1)).filter (dropP c now)=(h.ses.take k).filter (dropP c now) by rw [filt_step HS.out,if_neg (by rw [HQ.out];simp)])
            have HST2:=Lib.hid (show (h.ses.take (k+1)).filter (fun s=>!dropP c now s)=(h.ses.take k).filter (fun s=>!dropP c now s)++[s] by rw [filt_step HS.out,if_pos (by rw [HQ.out];rfl)])
            have ll:=List.length_filter_le (fun s=>!dropP c now s) (h.ses.take k)
            rw [List.length_take,Nat.min_eq_left hk] at ll
            have p1:=Lib.hid (show ((h.ses.take k).filter fun s=>!dropP c now s).length+1≤maxLen by unfold maxLen;omega)
            have p2:=Lib.hid (show (((h.ses.take k).filter fun s=>!dropP c now s).length+1)*56≤140737488355328 by omega)
            clear ll
            go_wp2_with (at_builtin;refine wpList_append_row rfl _ _ 56 rfl w5.heap.size 90 i0 _ 4 56 Tryz.underlying56 ii iz0 iz1 iz2 rfl (by decide) _ _ _ rfl ((HO.out.alloc _).alloc _) ⟨wr.heap.size+1,0,none⟩ 1 1 (sesCells s) rfl rfl (cells_new1 wr _ (sesCells s) 90) (by simp [sesCells,Value.oneCell']) p1.out p2.out (by rw [World.size_alloc,World.size_alloc];have:=hb.size;omega) ?_)
            intro v' w2 own2 hgr hfr
            have hb3:Below w5.heap.size w5 w2:=((hb.alloc hb.size _).alloc (by rw [World.size_alloc];exact Nat.le_succ_of_le hb.size) _).grown hgr (by rw [World.size_alloc,World.size_alloc];have:=hb.size;omega) (fun j hj=>(HO.out.lt j hj).1)
            clear hgr hfr HO
            go_wp2_with fail
            go_roundw
            case rel=>exact ⟨k+1,hlt,rfl,by rw [HST1.out,HM.out],by rw [HST2.out,List.length_append,sesArgs_snoc];exact own2,hb3⟩
            case measure=>simp [intOf];omega
      · have hK:k=h.ses.length:=by omega
        subst hK
        rw [List.take_length] at hown nl ⊢
        have hlt':¬ ((h.ses.length:Nat):Int)<(h.ses.length:Int):=by omega
        have f9:wr.frozen? ⟨d.g,i*3,none⟩=false:=by
          obtain ⟨cur,hbb,_⟩:=rr.hg
          exact hbb.frozen _
        obtain ⟨A',cap',rfl⟩:=own_form hown
        have hT:=Lib.hid (HR.out.set_sv HI.out (w2:=wr) (S':=h.ses.filter fun s=>!dropP c now s) (HB0.out.trans (hb.mono HB0.out.size)) (own_base hown (Nat.zero_le _)) (fun k hk=>Nat.le_trans HB0.out.size (hown.lt k hk).1))
        clear rr kb hown
        go_wp2_with fail
        go_ret
        exact ⟨rfl,hT.out⟩
  · have HKD:=Lib.hid hkd
    rw [hkd]
    clear hkd
    go_enter Tryz.func44,Tryz.ntmps44
    go_wp2_with fail
    go_quiet (fail)
    clear c1
    have hB0:Below w.heap.size w ((w.alloc (.cells #[.int .i64 6,.int .i64 (i:Int),.string c.tok,.string c.usr,.string c.dat,.int .i64 c.ttl,.int .i64 c.frm,.int .u64 (c.draw:Int)] 53)).drewN nq):=by
      have:=(Below.refl w.heap.size w).alloc (Nat.le_refl _) (.cells #[.int .i64 6,.int .i64 (i:Int),.string c.tok,.string c.usr,.string c.dat,.int .i64 c.ttl,.int .i64 c.frm,.int .u64 (c.draw:Int)] 53)
      exact ⟨this.os,this.tape,this.output,this.size,this.block⟩
    have hk0:Blk ((w.alloc (.cells #[.int .i64 6,.int .i64 (i:Int),.string c.tok,.string c.usr,.string c.dat,.int .i64 c.ttl,.int .i64 c.frm,.int .u64 (c.draw:Int)] 53)).drewN nq) w.heap.size #[.int .i64 6,.int .i64 (i:Int),.string c.tok,.string c.usr,.string c.dat,.int .i64 c.ttl,.int .i64 c.frm,.int .u64 (c.draw:Int)] 53:=(Blk.new w _ 53).drewN nq
    generalize ((w.alloc (.cells #[.int .i64 6,.int .i64 (i:Int),.string c.tok,.string c.usr,.string c.dat,.int .i64 c.ttl,.int .i64 c.frm,.int .u64 (c.draw:Int)] 53)).drewN nq)=w5 at hB0 hk0 ⊢
    have HB0:=Lib.hid hB0
    have HK0:=Lib.hid hk0
    clear hB0 hk0
    go_wp2_with fail
    go_loopw [8,9,10] (RDr w5 h.ses (dropP c now)) (fun _ _ v _=>h.ses.length - (intOf v).toNat)
    case atStart=>exact ⟨0,Nat.zero_le _,rfl,rfl,World.ownsRow_nil _ _ _ _,Below.refl _ _⟩
    case round =>
      obtain ⟨k,hk,rfl,rfl,hown,hb⟩:=hrel
      have rr:=(HR.out.kept HB0.out).kept hb
      obtain ⟨_,_,c2,_,_,cl5⟩:=rr.cells HI.out
      rw [HSV.out] at c2
      have kb:=HK0.out.kept hb
      have k0:=kb.cell 0 (.int .i64 6) rfl
      have k2:=kb.cell 2 (.string c.tok) rfl
      have k3:=kb.cell 3 (.string c.usr) rfl
      have kbl:=kb.lt
      have nl:=List.length_filter_le (dropP c now) (h.ses.take k)
      rw [List.length_take,Nat.min_eq_left hk] at nl
      by_cases hlt:k<h.ses.length
      · obtain ⟨s,hs⟩:=get_lt hlt
        have hrow:=rr.hs i h HI.out
        rw [HSV.out] at hrow
        obtain ⟨g,cap',e,hg,_,d0,d1,d2,d3⟩:=ses_at hrow hs
        cases e
        have HO:=Lib.hid hown
        have HS:=Lib.hid hs
        have n256:((((h.ses.take k).filter (dropP c now)).length:Nat):Int)<256:=by omega
        have kl:(k:Int)<(h.ses.length:Int):=by omega
        clear rr kb hrow hs hown nl
        obtain ⟨m,hm⟩:∃ m,((h.ses.take k).filter (dropP c now)).length=m:=⟨_,rfl⟩
        rw [hm] at n256 ⊢
        have HM:=Lib.hid hm
        clear hm
        by_cases he:now<s.exp
        · have HQ:=Lib.hid (show dropP c now s=true by unfold dropP hitP;rw [HKD.out,decide_eq_true he];simp)
          have HST1:=Lib.hid (show (h.ses.take (k+1)).filter (dropP c now)=(h.ses.take k).filter (dropP c now)++[s] by rw [filt_step HS.out,if_pos HQ.out])
          have HST2:=Lib.hid (show (h.ses.take (k+1)).filter (fun s=>!dropP c now s)=(h.ses.take k).filter (fun s=>!dropP c now s) by rw [filt_step HS.out,if_neg (by rw [HQ.out];simp)])
          go_wp2_with fail
          go_roundw
          case rel=>exact ⟨k+1,hlt,rfl,by rw [HST1.out,List.length_append,HM.out];rfl,by rw [HST2.out];exact (HO.out.alloc _),hb.alloc hb.size _⟩
          case measure=>simp [intOf];omega
        · have he':¬ (now:Int)<(s.exp:Int):=by omega
          have HQ:=Lib.hid (show dropP c now s=false by unfold dropP;rw [decide_eq_false he,Bool.and_false])
          have HST1:=Lib.hid (show (h.ses.take (k+1)).filter (dropP c now)=(h.ses.take k).filter (dropP c now) by rw [filt_step HS.out,if_neg (by rw [HQ.out];simp)])
          have HST2:=Lib.hid (show (h.ses.take (k+1)).filter (fun s=>!dropP c now s)=(h.ses.take k).filter (fun s=>!dropP c now s)++[s] by rw [filt_step HS.out,if_pos (by rw [HQ.out];rfl)])
          have ll:=List.length_filter_le (fun s=>!dropP c now s) (h.ses.take k)
          rw [List.length_take,Nat.min_eq_left hk] at ll
          have p1:=Lib.hid (show ((h.ses.take k).filter fun s=>!dropP c now s).length+1≤maxLen by unfold maxLen;omega)
          have p2:=Lib.hid (show (((h.ses.take k).filter fun s=>!dropP c now s).length+1)*56≤140737488355328 by omega)
          clear ll
          go_wp2_with (at_builtin;refine wpList_append_row rfl _ _ 56 rfl w5.heap.size 90 i0 _ 4 56 Tryz.underlying56 ii iz0 iz1 iz2 rfl (by decide) _ _ _ rfl ((HO.out.alloc _).alloc _) ⟨wr.heap.size+1,0,none⟩ 1 1 (sesCells s) rfl rfl (cells_new1 wr _ (sesCells s) 90) (by simp [sesCells,Value.oneCell']) p1.out p2.out (by rw [World.size_alloc,World.size_alloc];have:=hb.size;omega) ?_)
          intro v' w2 own2 hgr hfr
          have hb3:Below w5.heap.size w5 w2:=((hb.alloc hb.size _).alloc (by rw [World.size_alloc];exact Nat.le_succ_of_le hb.size) _).grown hgr (by rw [World.size_alloc,World.size_alloc];have:=hb.size;omega) (fun j hj=>(HO.out.lt j hj).1)
          clear hgr hfr HO
          go_wp2_with fail
          go_roundw
          case rel=>exact ⟨k+1,hlt,rfl,by rw [HST1.out,HM.out],by rw [HST2.out,List.length_append,sesArgs_snoc];exact own2,hb3⟩
          case measure=>simp [intOf];omega
      · have hK:k=h.ses.length:=by omega
        subst hK
        rw [List.take_length] at hown nl ⊢
        have hlt':¬ ((h.ses.length:Nat):Int)<(h.ses.length:Int):=by omega
        have f9:wr.frozen? ⟨d.g,i*3,none⟩=false:=by
          obtain ⟨cur,hbb,_⟩:=rr.hg
          exact hbb.frozen _
        obtain ⟨A',cap',rfl⟩:=own_form hown
        have hT:=Lib.hid (HR.out.set_sv HI.out (w2:=wr) (S':=h.ses.filter fun s=>!dropP c now s) (HB0.out.trans (hb.mono HB0.out.size)) (own_base hown (Nat.zero_le _)) (fun k hk=>Nat.le_trans HB0.out.size (hown.lt k hk).1))
        clear rr kb hown
        go_wp2_with fail
        go_ret
        exact ⟨rfl,hT.out⟩
end Go.Proofs.YtmdgeknnhckgfaaGreatDoor
