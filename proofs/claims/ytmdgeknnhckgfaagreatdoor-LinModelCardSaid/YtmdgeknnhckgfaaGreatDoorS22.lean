/-
  Parts of the proof of the law LinModel: RNew, RSmE, RAg, LAsk, LDef.
-/
import Derived.Test.YtmdgeknnhckgfaaGreatDoorS05
import Derived.Test.YtmdgeknnhckgfaaGreatDoorS08
import Derived.Test.YtmdgeknnhckgfaaGreatDoorS14
import Derived.Test.YtmdgeknnhckgfaaGreatDoorS21
import Derived.Laws.StructEq
import Derived.Deep.MidRow
set_option linter.unusedSimpArgs false
set_option linter.unusedVariables false
namespace Go.Proofs.YtmdgeknnhckgfaaGreatDoor
open Go Go.RowKit
theorem Tryz.info59:(Tryz.prog.info? 59).map (fun i=>(i.zero,i.size,i.bytes))=some (some (.agg #[.slice none 0 0,.int .i64 0,.slice none 0 0]),3,56):=by kernel_rfl
theorem Tryz.info94:(Tryz.prog.info? 94).map (fun i=>(i.zero,i.size,i.bytes))=some (some (.agg #[.string ⟨#[]⟩,.string ⟨#[]⟩,.int .i64 0]),3,40):=by kernel_rfl
def newN (l:List Ten):List Hs:=l.map fun t=>⟨t.quota,[],1,[]⟩
def hsC:List Value:=[.slice none 0 0,.int .i64 1,.slice none 0 0]
def hsV (k:Nat):List Value:=(List.replicate k ()).flatMap fun _=>hsC
theorem hsV_len (k:Nat):(hsV k).length=k*3:=by
  have:=flatMap_len (f:=fun _:Unit=>hsC) (k:=3) (fun _=>rfl) (List.replicate k ())
  rw [List.length_replicate] at this
  exact this
theorem hsV_snoc (k:Nat):hsV (k+1)=hsV k++hsC:=by
  unfold hsV
  rw [List.replicate_succ',List.flatMap_append]
  simp
theorem hsV_at {k i:Nat} (h:i<k):(hsV k)[i*3]?=some (.slice none 0 0)∧(hsV k)[i*3+1]?=some (.int .i64 1)∧(hsV k)[i*3+2]?=some (.slice none 0 0):=by
  have:=flatMap_at (f:=fun _:Unit=>hsC) (k:=3) (fun _=>rfl) (List.replicate k ()) i () (by rw [List.getElem?_replicate,if_pos h])
  refine ⟨(this 0 (by decide)).trans rfl,(this 1 (by decide)).trans rfl,(this 2 (by decide)).trans rfl⟩
def RNw (w:World) (l:List Ten) (p:Nat) (tv:Value) (iv:Value) (W:World):Prop :=
  ∃ (k:Nat) (pv:Value),k≤l.length∧iv=.int .i64 (k:Nat)∧Blk W p #[tv,pv] 62∧W.ownsRow w.heap.size 59 3 pv k (hsV k)∧W.ownsRow w.heap.size 94 3 tv l.length (tenArgs l)∧Below w.heap.size w W
set_option maxRecDepth 100000 in
set_option maxHeartbeats 8000000 in
theorem ref_New (v:Value) (l:List Ten) (w:World) (hr:Reads w v l.length 3 (tenArgs l)) :
    Calls Tryz.prog 4 #[v] w fun e w'=>Below w.heap.size w w'∧((checkN l≠0∧e=.returned (.tuple #[.pointer none,.int .i64 (checkN l)])) ∨
      (checkN l=0∧∃ p d,e=.returned (.tuple #[.pointer (some ⟨p,0,none⟩),.int .i64 0])∧RIs w' p l (newN l) d∧w.heap.size≤p∧(∀ k,d.own l.length k→w.heap.size≤k)∧∀ k,d.tv.ownBlock=some k→w.heap.size≤k)):=by
  obtain ⟨i0,ii,iz0,iz1,iz2⟩:=info_parts Tryz.info59
  obtain ⟨j0,ji,jz0,jz1,jz2⟩:=info_parts Tryz.info94
  have HC:=Lib.hid (ref_Check v l w hr)
  obtain ⟨A,cap,rfl⟩:=hr.form
  have HRR:=Lib.hid hr
  clear hr
  by_cases hck:checkB l=true
  · have h0:checkN l=0:=by unfold checkN;rw [if_pos hck]
    have hll:1≤l.length∧l.length≤16:=by
      unfold checkB at hck
      simp [lenB] at hck
      omega
    have H0:=Lib.hid h0
    rw [h0] at HC
    obtain ⟨b,o,rfl,hblt,hcs⟩:∃ b o,A=some ⟨b,o,none⟩∧b<w.heap.size∧∀ j u,(tenArgs l)[j]?=some u→w.cell? ⟨b,o+j,none⟩=some u:=by
      obtain ⟨_,_,A',cap',e,h3⟩:=HRR.out
      cases e
      rcases h3 with h3 | h3
      · omega
      · exact h3
    have HCS:=Lib.hid hcs
    have htl:(tenArgs l).length=l.length*3:=flatMap_len (f:=tenCells) (k:=3) (fun _=>rfl) l
    have HTL:=Lib.hid htl
    have h1c:∀ u∈tenArgs l,u.oneCell'=true:=by
      intro u hu
      unfold tenArgs at hu
      rw [List.mem_flatMap] at hu
      obtain ⟨t,_,ht⟩:=hu
      simp only [tenCells,List.mem_cons,List.not_mem_nil,or_false] at ht
      rcases ht with rfl | rfl | rfl<;>rfl
    have H1C:=Lib.hid h1c
    clear h0 hck hcs htl h1c
    go_enter Tryz.func4,Tryz.ntmps4
    go_wp2_with fail
    refine HC.out.mono ?_
    rintro e w1 ⟨rfl,hb1⟩
    have ho0:(w1.alloc (.cells #[] 94)).ownsRow w.heap.size 94 3 (.slice (some ⟨w1.heap.size,0,none⟩) 0 0) 0 [] :=
      ⟨rfl,.inr ⟨_,0,#[],rfl,hb1.size,(Blk.new w1 #[] 94),Nat.le_refl _,Nat.zero_le _,rfl,rfl⟩⟩
    have HO0:=Lib.hid ho0
    have hcs1:∀ j u,(tenArgs l)[j]?=some u→(w1.alloc (.cells #[] 94)).cell? ((⟨b,o,none⟩:Addr).add j)=some u:=by
      intro j u hj
      have e1:=HCS.out j u hj
      have hb2:Below w.heap.size w (w1.alloc (.cells #[] 94)):=hb1.alloc hb1.size _
      rw [add_at rfl]
      exact (hb2.cell (p:=⟨b,o+j,none⟩) hblt).trans e1
    have HCS1:=Lib.hid hcs1
    have HB1:=Lib.hid hb1
    have hz1:=Lib.hid (show w.heap.size≤(w1.alloc (.cells #[] 94)).heap.size by rw [World.size_alloc];have:=hb1.size;omega)
    have hz2:=Lib.hid (show 0+l.length≤maxLen by unfold maxLen;omega)
    have hz3:=Lib.hid (show (0+l.length)*40≤140737488355328 by omega)
    clear HC hb1 ho0 hcs1
    go_wp2_with (at_builtin;refine wpList_append_row rfl _ _ 22 rfl w.heap.size 94 j0 _ 3 40 Tryz.underlying22 ji jz0 jz1 jz2 rfl (by decide) _ _ _ rfl HO0.out ⟨b,o,none⟩ l.length cap (tenArgs l) rfl HTL.out HCS1.out H1C.out hz2.out hz3.out hz1.out ?_)
    intro v' w2 own2 hgr hfr
    obtain ⟨A1,cap1,rfl⟩:=own_form own2
    have ha:Below w.heap.size w (w1.alloc (.cells #[] 94)):=HB1.out.alloc HB1.out.size _
    have hb2:Below w.heap.size w w2:=ha.grown hgr hz1.out (fun j hj=>by injection hj with hj;rw [←hj];exact HB1.out.size)
    have hbx:=Blk.new w2 #[(.slice A1 l.length cap1),.slice none 0 0] 62
    have hb3:Below w.heap.size w (w2.alloc (.cells #[(.slice A1 l.length cap1),.slice none 0 0] 62)):=hb2.alloc hb2.size _
    have own3:(w2.alloc (.cells #[(.slice A1 l.length cap1),.slice none 0 0] 62)).ownsRow w.heap.size 94 3 (.slice A1 l.length cap1) l.length (tenArgs l):=by
      have:=own_below own2 ((Below.refl w2.heap.size w2).alloc (Nat.le_refl _) (.cells #[(.slice A1 l.length cap1),.slice none 0 0] 62))
      exact this
    have hs2:=hb2.size
    have HBX:=Lib.hid hbx
    have HB3:=Lib.hid hb3
    have HO3:=Lib.hid own3
    clear hbx hb3 own3 hgr hfr own2 hb2 ha HO0 HCS1 hz1 hz2 hz3 HB1 H1C HTL HCS HRR
    go_wp2_with fail
    go_loopw [6] (RNw w l w2.heap.size (.slice A1 l.length cap1)) (fun v _=>l.length - (intOf v).toNat)
    case atStart=>exact ⟨0,_,Nat.zero_le _,rfl,HBX.out,World.ownsRow_nil _ _ _ _,HO3.out,HB3.out⟩
    case round =>
      obtain ⟨k,pv,hk,rfl,hblk,hown,htv,hb⟩:=hrel
      obtain ⟨A2,cap2,rfl⟩:=own_form hown
      have x1:=hblk.cell 1 (.slice A2 k cap2) rfl
      by_cases hlt:k<l.length
      · have kl:(k:Int)<(l.length:Int):=by omega
        have HBK:=Lib.hid hblk
        have HOW:=Lib.hid hown
        have HTV:=Lib.hid htv
        have HBB:=Lib.hid hb
        have q1:=Lib.hid (show k+1≤maxLen by unfold maxLen;omega)
        have q2:=Lib.hid (show (k+1)*56≤140737488355328 by omega)
        have q3:=Lib.hid (show w.heap.size≤wr.heap.size+1 by have:=hb.size;omega)
        have q4:(k:Int)<100:=by omega
        clear hblk hown htv hb
        go_wp2_with (at_builtin;refine wpList_append_row rfl _ _ 60 rfl w.heap.size 59 i0 _ 3 56 Tryz.underlying60 ii iz0 iz1 iz2 rfl (by decide) _ _ _ rfl (HOW.out.alloc _) ⟨wr.heap.size,0,none⟩ 1 1 hsC rfl rfl (cells_new wr hsC 59) (by simp [hsC,Value.oneCell']) q1.out q2.out (by rw [World.size_alloc];exact q3.out) ?_)
        intro v' w5 own5 hgr hfr
        obtain ⟨A3,cap3,rfl⟩:=own_form own5
        have ko1:=HOW.out.alloc (.cells #[.slice none 0 0,.int .i64 1,.slice none 0 0] 59)
        have tyn:∀ j' t,Of (wr.alloc (.cells #[.slice none 0 0,.int .i64 1,.slice none 0 0] 59)) j' t→t≠59→some j'≠(Value.slice A2 k cap2).ownBlock:=by
          intro j' t hj hn e
          obtain ⟨cc,hcc⟩:=own_typed ko1 e.symm
          exact hj.ne (show Of _ j' 59 from ⟨cc,_,hcc⟩) hn rfl
        have kb1:=HBK.out.alloc (.cells #[.slice none 0 0,.int .i64 1,.slice none 0 0] 59)
        have kb5:Blk w5 w2.heap.size #[.slice A1 l.length cap1,.slice A2 k cap2] 62:=(hgr.block _ kb1.lt (tyn _ 62 ⟨_,_,kb1⟩ (by decide))).trans kb1
        have ht1:=HTV.out.alloc (.cells #[.slice none 0 0,.int .i64 1,.slice none 0 0] 59)
        have ht5:=own_block ht1 (w':=w5) (fun j hj=>by
          obtain ⟨cc,hcc⟩:=own_typed ht1 hj
          exact hgr.block j (lt_of_block hcc) (tyn j 94 ⟨_,_,hcc⟩ (by decide)))
        have hb5:Below w.heap.size w w5:=(HBB.out.alloc HBB.out.size _).grown hgr (by rw [World.size_alloc];exact q3.out) (fun j hj=>(HOW.out.lt j hj).1)
        have c5:=kb5.cell 1 (.slice A2 k cap2) rfl
        have f5:=kb5.frozen 1
        have HFIN:=Lib.hid (And.intro (kb5.setCell 1 (.slice A3 (k+1) cap3)) (And.intro (own_set own5 kb5 (by decide) 1 (.slice A3 (k+1) cap3)) (And.intro (own_set ht5 kb5 (by decide) 1 (.slice A3 (k+1) cap3)) (hb5.setCell (show w.heap.size≤(⟨w2.heap.size,1,none⟩:Addr).block from hs2) (.slice A3 (k+1) cap3)))))
        clear HOW HBK HTV HBB hgr hfr own5 ko1 tyn kb1 kb5 ht1 ht5 hb5 q1 q2 q3 x1
        go_wp2_with fail
        go_roundw
        case rel =>
          obtain ⟨h1,h2,h3,h4⟩:=HFIN.out
          exact ⟨k+1,_,hlt,rfl,h1,by rw [hsV_snoc];exact h2,h3,h4⟩
        case measure=>simp [intOf];omega
      · have hK:k=l.length:=by omega
        have kl:¬ (k:Int)<(l.length:Int):=by omega
        have HK:=Lib.hid hK
        have HBK:=Lib.hid hblk
        have HOW:=Lib.hid hown
        have HTV:=Lib.hid htv
        have HBB:=Lib.hid hb
        clear hblk hown htv hb hK x1
        go_wp2_with fail
        refine bodyPost_ret (results_tmp2 rfl _ _ _) rfl ?_
        have hK:=HK.out
        refine ⟨HBB.out,.inr ⟨H0.out,?_⟩⟩
        have hln:(newN l).length=k:=by unfold newN;rw [List.length_map,hK]
        have hown:=HOW.out
        rcases hown.2 with ⟨_,h2⟩ | ⟨g,cap,cur,h1,hg0,hg1,hg2,hg3,hg4,hg5⟩
        · omega
        · cases h1
          refine ⟨w2.heap.size,rfl,⟨g,cap2,fun _=>.slice none 0 0,fun _=>.slice none 0 0,.slice A1 l.length cap1⟩,?_,hs2,?_,fun j hj=>(HTV.out.lt j hj).1⟩
          · have hat:∀ i h,(newN l)[i]?=some h→h.ses=[]∧h.ents=[]∧h.next=1∧i<k:=by
              intro i h hi
              have hlt:=(List.getElem?_eq_some_iff.1 hi).1
              unfold newN at hi
              rw [List.getElem?_map] at hi
              cases ht:l[i]? with
              | none=>rw [ht] at hi;cases hi
              | some t=>rw [ht] at hi;injection hi with hi;subst hi;exact ⟨rfl,rfl,rfl,by omega⟩
            refine ⟨?_,⟨cur,hg1,?_⟩,?_,?_,?_,?_,own_base HTV.out (Nat.zero_le _),by rw [hln,hK],?_⟩
            · rw [hln];exact HBK.out
            · intro i h hi
              obtain ⟨_,_,hn,hik⟩:=hat i h hi
              obtain ⟨a0,a1,a2⟩:=hsV_at hik
              have hl3:=hsV_len k
              rw [hn]
              have cv:∀ (j:Nat) (v:Value),(hsV k)[j]?=some v→cur[j]?=some v:=by
                intro j v hj
                rw [←hg5,List.getElem?_take] at hj
                split at hj
                · rw [←Array.getElem?_toList];exact hj
                · cases hj
              exact ⟨cv _ _ a0,cv _ _ a1,cv _ _ a2⟩
            · intro i h hi
              obtain ⟨e1,_⟩:=hat i h hi
              rw [e1];exact World.ownsRow_nil _ _ _ _
            · intro i h hi
              obtain ⟨_,e1,_⟩:=hat i h hi
              rw [e1];exact World.ownsRow_nil _ _ _ _
            · intro i j k' _ _ _ h;cases h
            · intro i j k' _ _ _ h;cases h
            · intro i t h ht hh
              unfold newN at hh
              rw [List.getElem?_map,ht] at hh
              injection hh with hh
              rw [←hh]
          · intro k' hk'
            rcases hk' with rfl | ⟨i,_,h | h⟩
            · exact hg0
            · cases h
            · cases h
  · have h0:checkN l=1:=by unfold checkN;rw [if_neg hck]
    have H0:=Lib.hid h0
    rw [h0] at HC
    clear h0 hck
    go_enter Tryz.func4,Tryz.ntmps4
    go_wp2_with fail
    refine HC.out.mono ?_
    rintro e w1 ⟨rfl,hb1⟩
    have HB1:=Lib.hid hb1
    clear HC hb1 HRR
    go_wp2_with fail
    refine bodyPost_ret (results_tmp2 rfl _ _ _) rfl ?_
    exact ⟨HB1.out,.inl ⟨by rw [H0.out];decide,by rw [H0.out];rfl⟩⟩
theorem Tryz.struct103:Tryz.prog.underlying 103=some (.struct (Tryz.prog.fieldsOf 103)):=by kernel_rfl
theorem Tryz.stood103:Tryz.prog.stoodInHeld 103=false:=by kernel_rfl
theorem Tryz.guard103:Tryz.prog.eqGuardType Tryz.prog.depth 103=false:=by kernel_rfl
theorem eq103 (n1 k1 t1 n2 k2 t2:Int) (s1 s2:ByteArray) (w:World):(Op.equalIn 10000 103 (.agg #[.int .i64 n1,.int .i64 k1,.int .u64 t1,.string s1]) (.agg #[.int .i64 n2,.int .i64 k2,.int .u64 t2,.string s2])).run Tryz.prog w=.ok (n1 == n2 && k1 == k2 && t1 == t2 && s1.toList == s2.toList) w:=by
  rw [show (10000:Nat)=9999+1 from rfl,run_equalIn_agg w 9999 103 _ _ Tryz.struct103 Tryz.stood103]
  simp only [Program.fieldsOf,Tryz.underlying103]
  go_simp
  by_cases h1:n1=n2<;>by_cases h2:k1=k2<;>by_cases h3:t1=t2<;>by_cases h4:s1.toList=s2.toList<;>simp [h1,h2,h3,h4]
structure EG where
  num:Int
  kind:Int
  tick:Nat
  sub:ByteArray
  deriving DecidableEq
def egCells (e:EG):List Value:=[.int .i64 e.num,.int .i64 e.kind,.int .u64 (e.tick:Nat),.string e.sub]
def egArgs (l:List EG):List Value:=l.flatMap egCells
def Ent.eg (e:Ent):EG:=⟨e.num,e.kind,e.tick,e.sub⟩
theorem egArgs_of (l:List Ent):egArgs (l.map Ent.eg)=entArgs l:=by
  unfold egArgs entArgs
  rw [List.flatMap_map]
  rfl
theorem Reads.eg_at {w:World} {A:Option Addr} {n cap:Nat} {es:List EG} (h:Reads w (.slice A n cap) n 4 (egArgs es)) {k:Nat} {e:EG} (hk:es[k]?=some e) :
    ∃ b o,A=some ⟨b,o,none⟩∧b<w.heap.size∧w.cell? ⟨b,o+k*4,none⟩=some (.int .i64 e.num)∧w.cell? ⟨b,o+k*4+1,none⟩=some (.int .i64 e.kind)∧w.cell? ⟨b,o+k*4+2,none⟩=some (.int .u64 (e.tick:Nat))∧w.cell? ⟨b,o+k*4+3,none⟩=some (.string e.sub):=by
  have hl:=h.1
  have hlen:(egArgs es).length=es.length*4:=flatMap_len (f:=egCells) (k:=4) (fun _=>rfl) es
  have hlt:=(List.getElem?_eq_some_iff.1 hk).1
  obtain ⟨b,o,rfl,hb,hc⟩:=h.some_at (by omega)
  have hat:=flatMap_at (f:=egCells) (k:=4) (fun _=>rfl) es k e hk
  refine ⟨b,o,rfl,hb,?_,?_,?_,?_⟩
  · exact hc (k*4) _ ((hat 0 (by decide)).trans rfl)
  · exact hc (k*4+1) _ ((hat 1 (by decide)).trans rfl)
  · exact hc (k*4+2) _ ((hat 2 (by decide)).trans rfl)
  · exact hc (k*4+3) _ ((hat 3 (by decide)).trans rfl)
theorem EG.beq (x y:EG):(x.num == y.num && x.kind == y.kind && (x.tick:Int) == (y.tick:Int) && x.sub.toList == y.sub.toList)=decide (x=y):=by
  obtain ⟨a,b,c,d⟩:=x
  obtain ⟨a',b',c',d'⟩:=y
  have hd:(d.toList == d'.toList)=decide (d=d'):=by
    by_cases h:d=d'
    · rw [str_beq.2 h];simp [h]
    · rw [str_beq_false.2 h];simp [h]
  have hc:((c:Int) == (c':Int))=decide (c=c'):=by
    by_cases h:c=c'
    · subst h;simp
    · have h2:¬ (c:Int)=(c':Int):=by omega
      simp [h,h2]
  simp only [EG.mk.injEq,Bool.decide_and,hd,hc]
  by_cases h1:a=a'<;>by_cases h2:b=b'<;>simp [h1,h2]
def RSE (w:World) (ea eb:List EG) (iv:Value) (W:World):Prop :=
  ∃ k:Nat,k≤ea.length∧iv=.int .i64 (k:Nat)∧ea.take k=eb.take k∧Below w.heap.size w W
set_option maxRecDepth 100000 in
set_option maxHeartbeats 8000000 in
theorem ref_SameE (va vb:Value) (ea eb:List EG) (w:World) (ha:Reads w va ea.length 4 (egArgs ea)) (hb:Reads w vb eb.length 4 (egArgs eb)) :
    Calls Tryz.prog 25 #[va,vb] w fun e w'=>e=.returned (.bool (decide (ea=eb)))∧Below w.heap.size w w':=by
  obtain ⟨A,ca,rfl⟩:=ha.form
  obtain ⟨B,cb,rfl⟩:=hb.form
  have la:=ha.2.1
  have lb:=hb.2.1
  have HA:=Lib.hid ha
  have HB:=Lib.hid hb
  clear ha hb
  by_cases hl:ea.length=eb.length
  · have hl1:¬ ((ea.length:Int)≠(eb.length:Int)):=by omega
    rw [←hl] at HB lb ⊢
    clear hl1
    have HL:=Lib.hid hl
    clear hl
    go_enter Tryz.func25,Tryz.ntmps25
    go_wp2_with fail
    go_loopw [5] (RSE w ea eb) (fun v _=>ea.length - (intOf v).toNat)
    case atStart=>exact ⟨0,Nat.zero_le _,rfl,by simp,Below.refl _ _⟩
    case round =>
      obtain ⟨k,hk,rfl,heq,hbw⟩:=hrel
      by_cases hlt:k<ea.length
      · have kl:(k:Int)<(ea.length:Int):=by omega
        obtain ⟨x,hx⟩:=get_lt hlt
        obtain ⟨y,hy⟩:=get_lt (show k<eb.length by rw [←HL.out];exact hlt)
        have ra:=HA.out.kept hbw
        have rb:=HB.out.kept hbw
        obtain ⟨b1,o1,e,_,c0,c1,c2,c3⟩:=Reads.eg_at ra hx
        cases e
        obtain ⟨b2,o2,e,_,d0,d1,d2,d3⟩:=Reads.eg_at (by rw [HL.out] at rb;exact rb) hy
        cases e
        have HEQ:=Lib.hid heq
        have HBW:=Lib.hid hbw
        clear ra rb heq hbw
        have g1:=Tryz.guard103
        have heq103:∀ W:World,(Op.equalIn 10000 103 (.agg #[.int .i64 x.num,.int .i64 x.kind,.int .u64 (x.tick:Int),.string x.sub]) (.agg #[.int .i64 y.num,.int .i64 y.kind,.int .u64 (y.tick:Int),.string y.sub])).run Tryz.prog W=.ok (decide (x=y)) W:=fun W=>by rw [eq103,EG.beq]
        by_cases hxy:x=y
        · have hd:decide (x=y)=true:=decide_eq_true hxy
          rw [hd] at heq103
          have HXY:=Lib.hid hxy
          clear hxy hd
          go_wp2_with fail
          go_quiet (fail)
          have hbq:Below wr.heap.size wr (wr.drewN nq):=⟨rfl,rfl,rfl,Nat.le_refl _,fun _ _=>rfl⟩
          go_wp2_with fail
          go_roundw
          case rel=>exact ⟨k+1,hlt,rfl,by rw [take_snoc hx,take_snoc hy,HEQ.out,HXY.out],HBW.out.trans (hbq.mono HBW.out.size)⟩
          case measure=>simp [intOf];omega
        · have hd:decide (x=y)=false:=decide_eq_false hxy
          rw [hd] at heq103
          have hF:=Lib.hid (show decide (ea=eb)=false from decide_eq_false (fun h=>hxy (by rw [h] at hx;rw [hx] at hy;injection hy)))
          clear hxy hd
          go_wp2_with fail
          go_quiet (fail)
          have hbq:Below wr.heap.size wr (wr.drewN nq):=⟨rfl,rfl,rfl,Nat.le_refl _,fun _ _=>rfl⟩
          go_wp2_with fail
          go_ret
          exact ⟨by rw [hF.out];rfl,HBW.out.trans (hbq.mono HBW.out.size)⟩
      · have hK:k=ea.length:=by omega
        have hF:=Lib.hid (show decide (ea=eb)=true from decide_eq_true (by
          have h1:ea.take k=ea:=List.take_of_length_le (by omega)
          have h2:eb.take k=eb:=List.take_of_length_le (by have:=HL.out;omega)
          rw [h1,h2] at heq
          exact heq))
        have kl:¬ (k:Int)<(ea.length:Int):=by omega
        have HBW:=Lib.hid hbw
        clear heq hbw hK
        go_wp2_with fail
        go_ret
        exact ⟨by rw [hF.out];rfl,HBW.out⟩
  · have hl1:¬ ((ea.length:Int)=(eb.length:Int)):=by omega
    have hF:=Lib.hid (show decide (ea=eb)=false from decide_eq_false (fun h=>hl (by rw [h])))
    clear HA HB
    go_enter Tryz.func25,Tryz.ntmps25
    go_wp2_with fail
    go_ret
    exact ⟨by rw [hF.out];rfl,Below.refl _ _⟩
structure AG where
  status:Int
  word:ByteArray
  tok:ByteArray
  usr:ByteArray
  dat:ByteArray
  exp:Nat
  rev:Int
  toks:List ByteArray
  ents:List EG
  head:ByteArray
  live:Int
  users:Int
  total:Int
  next:Int
  deriving DecidableEq
def agArr (a:AG) (tv ev:Value):Array Value:=#[.int .i64 a.status,.string a.word,.string a.tok,.string a.usr,.string a.dat,.int .u64 (a.exp:Nat),.int .i64 a.rev,tv,ev,.string a.head,.int .i64 a.live,.int .i64 a.users,.int .i64 a.total,.int .i64 a.next]
def AGIs (w:World) (a:AG) (v:Value):Prop:=∃ tv ev,v=.agg (agArr a tv ev)∧Reads w tv a.toks.length 1 (strArgs a.toks)∧Reads w ev a.ents.length 4 (egArgs a.ents)
def An.ag (a:An):AG:=⟨a.status,a.word,a.tok,a.usr,a.dat,a.exp,(a.rev:Nat),a.toks,a.ents.map Ent.eg,a.head,(a.live:Nat),(a.users:Nat),(a.total:Nat),(a.next:Nat)⟩
theorem AnsIs.ag {w:World} {S:Nat→Prop} {a:An} {v:Value} (h:AnsIs w S a v):AGIs w a.ag v:=by
  obtain ⟨tv,ev,rfl,h1,h2⟩:=h
  refine ⟨tv,ev,rfl,h1.1,?_⟩
  show Reads w ev (a.ents.map Ent.eg).length 4 (egArgs (a.ents.map Ent.eg))
  rw [egArgs_of,List.length_map]
  exact h2.1
def sameH (a b:AG):Bool:=decide (a.status=b.status) && decide (a.word=b.word) && decide (a.tok=b.tok) && decide (a.usr=b.usr) && decide (a.dat=b.dat) && decide (a.exp=b.exp) && decide (a.rev=b.rev) && decide (a.head=b.head) && decide (a.live=b.live) && decide (a.users=b.users) && decide (a.total=b.total) && decide (a.next=b.next) && decide (a.toks.length=b.toks.length)
theorem Reads.str_at {w:World} {A:Option Addr} {n cap:Nat} {l:List ByteArray} (h:Reads w (.slice A n cap) n 1 (strArgs l)) {k:Nat} {x:ByteArray} (hk:l[k]?=some x) :
    ∃ b o,A=some ⟨b,o,none⟩∧b<w.heap.size∧w.cell? ⟨b,o+k,none⟩=some (.string x):=by
  have hlt:=(List.getElem?_eq_some_iff.1 hk).1
  have hl:=h.1
  unfold strArgs at hl
  rw [List.length_map] at hl
  obtain ⟨b,o,rfl,hb,hc⟩:=h.some_at (by omega)
  exact ⟨b,o,rfl,hb,hc k _ (by simp [strArgs,hk])⟩
def RSm (w W0:World) (a b:AG) (iv:Value) (W:World):Prop :=
  ∃ k:Nat,k≤a.toks.length∧iv=.int .i64 (k:Nat)∧a.toks.take k=b.toks.take k∧Below W0.heap.size W0 W
theorem two35 (w:World) (X Y:Array Value):Blk ((w.alloc (.cells X 35)).alloc (.cells Y 35)) w.heap.size X 35∧Blk ((w.alloc (.cells X 35)).alloc (.cells Y 35)) (w.heap.size+1) Y 35∧Below w.heap.size w ((w.alloc (.cells X 35)).alloc (.cells Y 35)):=by
  refine ⟨(Blk.new w _ 35).alloc _,?_,((Below.refl _ _).alloc (Nat.le_refl _) _).alloc (by simp) _⟩
  have:=Blk.new (w.alloc (.cells X 35)) Y 35
  rw [World.size_alloc] at this
  exact this
end Go.Proofs.YtmdgeknnhckgfaaGreatDoor
namespace Go.Proofs.YtmdgeknnhckgfaaGreatDoor
open Go Go.RowKit
theorem Tryz.size55:(Tryz.prog.info? 55).map (·.size)=some 31:=by kernel_rfl
theorem Tryz.size50:(Tryz.prog.info? 50).map (·.size)=some 5:=by kernel_rfl
structure Ask where
  nth:Nat
  pt:Nat
  tick:Nat
  call:Cl
  ans:AG
  tv:Value
  ev:Value
  st:Int
def askArr (x:Ask):Array Value:=#[.int .i64 0,.int .i64 (x.nth:Nat),.int .i64 0,.int .i64 (x.pt:Nat),.int .i64 (-1),.int .u64 (x.tick:Nat),.bool true,
  .int .i64 x.call.kind,.int .i64 x.call.ten,.string x.call.tok,.string x.call.usr,.string x.call.dat,.int .i64 x.call.ttl,.int .i64 x.call.frm,.int .u64 (x.call.draw:Nat),
  .int .i64 x.ans.status,.string x.ans.word,.string x.ans.tok,.string x.ans.usr,.string x.ans.dat,.int .u64 (x.ans.exp:Nat),.int .i64 x.ans.rev,x.tv,x.ev,.string x.ans.head,.int .i64 x.ans.live,.int .i64 x.ans.users,.int .i64 x.ans.total,.int .i64 x.ans.next,
  .int .i64 x.st,.int .i64 1]
def askCells (x:Ask):List Value:=(askArr x).toList
theorem askCells_len (x:Ask):(askCells x).length=31:=rfl
theorem askArr_size (x:Ask):(askArr x).size=31:=rfl
def askArgs (l:List Ask):List Value:=l.flatMap askCells
theorem askArgs_len (l:List Ask):(askArgs l).length=l.length*31:=flatMap_len askCells_len l
theorem askArgs_snoc (l:List Ask) (x:Ask):askArgs (l++[x])=askArgs l++askCells x:=by unfold askArgs;rw [List.flatMap_append];simp
structure AskOk (w:World) (x:Ask):Prop where
  call:x.call.Ok
  tick:x.tick<18446744073709551616
  nth:x.nth<1000
  pt:x.pt<1000
  tv:Reads w x.tv x.ans.toks.length 1 (strArgs x.ans.toks)
  ev:Reads w x.ev x.ans.ents.length 4 (egArgs x.ans.ents)
section
variable {w w':World} {x:Ask}
theorem AskOk.kept (h:AskOk w x) (hb:Below w.heap.size w w'):AskOk w' x:=⟨h.call,h.tick,h.nth,h.pt,h.tv.kept hb,h.ev.kept hb⟩
theorem AskOk.one (h:AskOk w x):(askArr x).all (·.oneCell')=true:=by
  obtain ⟨A1,c1,e1⟩:=h.tv.form
  obtain ⟨A2,c2,e2⟩:=h.ev.form
  unfold askArr
  rw [e1,e2]
  simp [Value.oneCell']
theorem AskOk.cells1 (h:AskOk w x):∀ u∈askCells x,u.oneCell'=true:=by
  have:=h.one
  rw [Array.all_eq_true_iff_forall_mem] at this
  intro u hu
  exact this u (by unfold askCells at hu;simpa using hu)
theorem Reads.ask_at {A:Option Addr} {n cap:Nat} {l:List Ask} (h:Reads w (.slice A n cap) n 31 (askArgs l)) {k:Nat} (hk:l[k]?=some x) :
    ∃ b o,A=some ⟨b,o,none⟩∧b<w.heap.size∧w.rangeAt b (o+k*31) (askCells x):=by
  have hl:=h.1
  have hlen:=askArgs_len l
  have hlt:=(List.getElem?_eq_some_iff.1 hk).1
  obtain ⟨b,o,rfl,hb,hc⟩:=h.some_at (by omega)
  refine ⟨b,o,rfl,hb,fun j v hj=>?_⟩
  have hj31:j<31:=by have:=(List.getElem?_eq_some_iff.1 hj).1;rw [askCells_len] at this;exact this
  have:=hc (k*31+j) v ((flatMap_at (f:=askCells) (k:=31) askCells_len l k x hk j hj31).trans hj)
  rw [←Nat.add_assoc] at this
  exact this
end
def svArr (asked:Value) (LA:Option Addr) (LC:Nat) (steps:Nat):Array Value:=#[.int .i64 0,asked,.slice LA 8 LC,.int .i64 (steps:Nat),.int .u64 0]
def RIdx0 (w:World) (n:Nat) (iv:Value) (W:World):Prop:=∃ k:Nat,k≤n∧iv=.int .i64 (k:Nat)∧Below w.heap.size w W
def RDb (w:World) (n:Nat) (nv iv:Value) (W:World):Prop:=∃ k:Nat,k≤n∧nv=.int .i64 0∧iv=.int .i64 (k:Nat)∧Below w.heap.size w W
set_option maxRecDepth 100000 in
set_option maxHeartbeats 8000000 in
theorem mod_doubtful (w:World) (v:Value) (l:List Ask) (LA:Option Addr) (LC steps:Nat) (hl:l.length≤1000) (hr:Reads w v l.length 31 (askArgs l)) (hok:∀ x∈l,AskOk w x) :
    Calls Tryz.prog 28 #[.agg (svArr v LA LC steps)] w fun e w'=>e=.returned (.bool false)∧Below w.heap.size w w':=by
  obtain ⟨A,cap,rfl⟩:=hr.form
  have HR:=Lib.hid hr
  have HOK:=Lib.hid hok
  unfold svArr
  clear hr hok
  go_enter Tryz.func28,Tryz.ntmps28
  go_wp2_with fail
  go_loopw [3,9] (RDb w l.length) (fun _ v _=>l.length - (intOf v).toNat)
  case atStart=>exact ⟨0,Nat.zero_le _,rfl,rfl,(Below.refl _ w).alloc (Nat.le_refl _) _⟩
  case round =>
    obtain ⟨k,hk,rfl,rfl,hb⟩:=hrel
    by_cases hlt:k<l.length
    · obtain ⟨x,hx⟩:=get_lt hlt
      obtain ⟨b,o,rfl,hbl,hrg⟩:=(HR.out.kept hb).ask_at hx
      have HRG:=Lib.hid hrg
      have HX:=Lib.hid ((HOK.out x (List.mem_of_getElem? hx)).kept hb)
      have HB:=Lib.hid hb
      have kl:(k:Int)<(l.length:Int):=by omega
      clear hx hrg hb
      go_wp2_with (first
        | (refine wpList_load_mid rfl 55 (Operand.tmp 11) rfl b (o+k*31) rfl (askCells x) _ HRG.out Tryz.underlying55 rfl (by exact Tryz.size55) ?_)
        | (refine wpList_store_new rfl 55 (Operand.tmp 5) (Operand.tmp 12) rfl rfl (askArr x) rfl (by exact Tryz.size55) rfl HX.out.one ?_;intro w4 hk4 hb4 hs4;have z10:=hk4.cell 30 (.int .i64 1) rfl;have HB4:=Lib.hid hb4;clear hk4 hb4 hs4))
      go_roundw
      case rel=>exact ⟨k+1,hlt,rfl,rfl,HB.out.trans (HB4.out.mono HB.out.size)⟩
      case measure=>simp [intOf];omega
    · have hK:k=l.length:=by omega
      have kl:¬ (k:Int)<(l.length:Int):=by omega
      clear hK
      go_wp2_with fail
      go_ret
      exact ⟨rfl,hb⟩
set_option maxRecDepth 100000 in
set_option maxHeartbeats 8000000 in
theorem mod_unsure (w:World) (v:Value) (l:List Ask) (LA:Option Addr) (LC steps:Nat) (hl:l.length≤1000) (hr:Reads w v l.length 31 (askArgs l)) (hok:∀ x∈l,AskOk w x) :
    Calls Tryz.prog 52 #[.agg (svArr v LA LC steps)] w fun e w'=>e=.returned (.slice none 0 0)∧Below w.heap.size w w':=by
  obtain ⟨A,cap,rfl⟩:=hr.form
  have HR:=Lib.hid hr
  have HOK:=Lib.hid hok
  unfold svArr
  clear hr hok
  go_enter Tryz.func52,Tryz.ntmps52
  go_wp2_with fail
  go_loopw [3,9] (fun (nv iv:Value) (W:World)=>nv=.slice none 0 0∧RIdx0 w l.length iv W) (fun _ v _=>l.length - (intOf v).toNat)
  case atStart=>exact ⟨rfl,0,Nat.zero_le _,rfl,(Below.refl _ w).alloc (Nat.le_refl _) _⟩
  case round =>
    obtain ⟨rfl,k,hk,rfl,hb⟩:=hrel
    by_cases hlt:k<l.length
    · obtain ⟨x,hx⟩:=get_lt hlt
      obtain ⟨b,o,rfl,hbl,hrg⟩:=(HR.out.kept hb).ask_at hx
      have HRG:=Lib.hid hrg
      have HX:=Lib.hid ((HOK.out x (List.mem_of_getElem? hx)).kept hb)
      have HB:=Lib.hid hb
      have kl:(k:Int)<(l.length:Int):=by omega
      clear hx hrg hb
      go_wp2_with (first
        | (refine wpList_load_mid rfl 55 (Operand.tmp 11) rfl b (o+k*31) rfl (askCells x) _ HRG.out Tryz.underlying55 rfl (by exact Tryz.size55) ?_)
        | (refine wpList_store_new rfl 55 (Operand.tmp 5) (Operand.tmp 12) rfl rfl (askArr x) rfl (by exact Tryz.size55) rfl HX.out.one ?_;intro w4 hk4 hb4 hs4;have z6:=hk4.cell 6 (.bool true) rfl;have z10:=hk4.cell 30 (.int .i64 1) rfl;have HB4:=Lib.hid hb4;clear hk4 hb4 hs4))
      go_roundw
      case rel=>exact ⟨rfl,k+1,hlt,rfl,HB.out.trans (HB4.out.mono HB.out.size)⟩
      case measure=>simp [intOf];omega
    · have hK:k=l.length:=by omega
      have kl:¬ (k:Int)<(l.length:Int):=by omega
      clear hK
      go_wp2_with fail
      go_ret
      exact ⟨rfl,hb⟩
end Go.Proofs.YtmdgeknnhckgfaaGreatDoor
namespace Go.Proofs.YtmdgeknnhckgfaaGreatDoor
open Go Go.RowKit
section
variable {w w':World} {L:List Hs}
theorem Blk.range {w:World} {b:Nat} {c:Array Value} {t:TypeId} (h:Blk w b c t) (o n:Nat):w.rangeAt b o ((c.toList.drop o).take n):=by
  intro j v hj
  rw [List.getElem?_take] at hj
  split at hj
  · rw [List.getElem?_drop] at hj
    exact h.cell (o+j) v (by simpa using hj)
  · cases hj
def thrN:List Hs→List Ask→Option (List Hs)
  | L,[]=>some L
  | L,x::l=>if (doN L x.call x.tick).1.ag=x.ans then thrN (doN L x.call x.tick).2 l else none
theorem thrN_append:∀ (l m:List Ask) (L:List Hs),thrN L (l++m)=(thrN L l).bind fun L'=>thrN L' m
  | [],m,L=>rfl
  | x::l,m,L=>by
    have ih:=thrN_append l m (doN L x.call x.tick).2
    by_cases hs:(doN L x.call x.tick).1.ag=x.ans
    · simp only [List.cons_append,thrN,if_pos hs]
      exact ih
    · simp only [List.cons_append,thrN,if_neg hs]
      rfl
theorem thrN_snoc {L Lk:List Hs} {l:List Ask} {k:Nat} {x:Ask} (hx:l[k]?=some x) (h:thrN L (l.take k)=some Lk) (hs:(doN Lk x.call x.tick).1.ag=x.ans):thrN L (l.take (k+1))=some (doN Lk x.call x.tick).2:=by
  rw [take_snoc hx,thrN_append,h]
  show thrN Lk [x]=_
  unfold thrN
  rw [if_pos hs]
  rfl
theorem thrN_stop {L Lk:List Hs} {l:List Ask} {k:Nat} {x:Ask} (hx:l[k]?=some x) (h:thrN L (l.take k)=some Lk) (hs:¬ (doN Lk x.call x.tick).1.ag=x.ans):thrN L l=none:=by
  have hk:=(List.getElem?_eq_some_iff.1 hx).1
  have e:l=l.take k++l.drop k:=(List.take_append_drop k l).symm
  have e2:l.drop k=x::l.drop (k+1):=by
    rw [List.drop_eq_getElem_cons hk]
    have:=(List.getElem?_eq_some_iff.1 hx).2
    rw [this]
  rw [e,thrN_append,h,e2]
  show thrN Lk (x::_)=_
  unfold thrN
  rw [if_neg hs]
structure RecOk (l:List Ask) (steps:Nat):Prop where
  len:l.length≤1000
  nth:∀ (i:Nat) x,l[i]?=some x→x.nth=i
  rise:∀ (i j:Nat) x y,l[i]?=some x→l[j]?=some y→i<j→x.pt<y.pt
  top:∀ x∈l,x.pt<steps
  st:steps≤9223372036854775807
def toArr (terms ends:Value):Array Value:=#[.int .i64 0,terms,ends]
structure Cf where
  a:Int
  b:Int
  c:Int
  d:Int
  e:Int
  f:Int
  g:Int
  h:Int
def cfArr (tv:Value) (o:Cf):Array Value:=#[tv,.int .i64 o.a,.int .i64 o.b,.int .i64 o.c,.int .i64 o.d,.int .i64 o.e,.int .i64 o.f,.int .i64 o.g,.int .i64 o.h]
def endCells (y:Value×Value):List Value:=[y.1,y.2]
def endArgs (E:List (Value×Value)):List Value:=E.flatMap endCells
structure EndOk (w:World) (L:List Hs) (E:List (Value×Value)):Prop where
  len:E.length=L.length
  at':∀ (i:Nat) h,L[i]?=some h→∃ sv ev,E[i]?=some (sv,ev)∧Reads w sv (liveN h.ses 0).length 4 (sesArgs (liveN h.ses 0))∧Reads w ev h.ents.length 4 (entArgs h.ents)
theorem EndOk.kept {E:List (Value×Value)} (h:EndOk w L E) (hb:Below w.heap.size w w'):EndOk w' L E :=
  ⟨h.len,fun i x hx=>by obtain ⟨sv,ev,e,h1,h2⟩:=h.at' i x hx;exact ⟨sv,ev,e,h1.kept hb,h2.kept hb⟩⟩
structure TolIs (w:World) (ta:Option Addr) (tc:Nat) (v:Value) (l:List Ask) (LA:Option Addr) (LC steps:Nat):Prop where
  good:RecOk l steps
  small:l.length≤250
  terms:Reads w (.slice ta 1 tc) 1 5 (svArr v LA LC steps).toList
  asked:Reads w v l.length 31 (askArgs l)
  ok:∀ x∈l,AskOk w x
theorem TolIs.kept {w w':World} {ta:Option Addr} {tc:Nat} {v:Value} {l:List Ask} {LA:Option Addr} {LC steps:Nat} (h:TolIs w ta tc v l LA LC steps) (hb:Below w.heap.size w w'):TolIs w' ta tc v l LA LC steps :=
  ⟨h.good,h.small,h.terms.kept hb,h.asked.kept hb,fun x hx=>(h.ok x hx).kept hb⟩
def ExpP (T:List Ten) (l:List Ask) (e:Ending):Prop :=
  (thrN (newN T) l=none∧e=.returned (.tuple #[.bool false,.int .i64 0]))∨∃ L',thrN (newN T) l=some L'∧e=.returned (.tuple #[.bool true,.int .i64 0])
end
end Go.Proofs.YtmdgeknnhckgfaaGreatDoor
