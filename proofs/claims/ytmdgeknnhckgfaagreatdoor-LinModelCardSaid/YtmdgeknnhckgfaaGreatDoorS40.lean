/-
  Parts of the proof of the law LinModel: LThr, LBeh, LKeyR, LKey, LKeyA, LNew0.
-/
import Derived.Test.YtmdgeknnhckgfaaGreatDoorS22
import Derived.Test.YtmdgeknnhckgfaaGreatDoorS28
import Derived.Test.YtmdgeknnhckgfaaGreatDoorS31
import Derived.Test.YtmdgeknnhckgfaaGreatDoorS34
import Derived.Test.YtmdgeknnhckgfaaGreatDoorS35
import Derived.Test.YtmdgeknnhckgfaaGreatDoorS38
import Derived.Test.YtmdgeknnhckgfaaGreatDoorS39
set_option linter.unusedSimpArgs false
set_option linter.unusedVariables false
namespace Go.Proofs.YtmdgeknnhckgfaaGreatDoor
open Go Go.RowKit
theorem MIs.own_ne {w:World} {p N:Nat} {L:List Hs} {d:MD} (r:MIs w p N L d) {k:Nat} {t:TypeId} (h:Of w k t) (ht:t≠125):¬ d.own L.length k:=by
  rintro ⟨i,hi,rfl | rfl⟩
  · obtain ⟨x,hx⟩:=get_lt hi
    exact h.ne (show Of w (d.hb i) 125 from ⟨_,_,r.hh i x hx⟩) ht rfl
  · obtain ⟨x,hx⟩:=get_lt hi
    obtain ⟨n,_,hm⟩:=r.hm i x hx
    exact h.map_ne hm rfl
def ThrP (L:List Hs) (l:List Ask) (N n:Nat) (e:Ending) (w':World):Prop :=
  (thrN L l=none∧e=.returned (.pointer none))∨∃ L' p' d',thrN L l=some L'∧e=.returned (.pointer (some ⟨p',0,none⟩))∧MIs w' p' (N+l.length) L' d'∧L'.length=L.length∧LOk (n+l.length) L'
def RTh (w:World) (q N n:Nat) (L:List Hs) (l:List Ask) (iv:Value) (W:World):Prop :=
  ∃ (k:Nat) (Lk:List Hs) (d:MD),k≤l.length∧iv=.int .i64 (k:Nat)∧thrN L (l.take k)=some Lk∧MIs W q (N+k) Lk d∧(∀ j,d.own Lk.length j→w.heap.size≤j)∧LOk (n+k) Lk∧Lk.length=L.length∧Below w.heap.size w W
set_option maxRecDepth 100000 in
set_option maxHeartbeats 8000000 in
theorem mod_through {w:World} {p N:Nat} {L:List Hs} {d:MD} (r:MIs w p N L d) (h0:0<L.length) (hl:L.length≤100) {n:Nat} (hok:LOk n L) (v:Value) (l:List Ask) (hr:Reads w v l.length 31 (askArgs l)) (hax:∀ x∈l,AskOk w x) (hn:n+l.length≤255) (hN:N+l.length≤900) :
    Calls Tryz.prog 49 #[.pointer (some ⟨p,0,none⟩),v] w fun e w'=>Below w.heap.size w w'∧ThrP L l N n e w':=by
  obtain ⟨A,cap,rfl⟩:=hr.form
  have HR:=Lib.hid hr
  have HAX:=Lib.hid hax
  have HFk:=Lib.hid (mod_Fork r h0 hl (fun i h hi=>by have:=(hok h (List.mem_of_getElem? hi)).ents;omega))
  have HOK:=Lib.hid hok
  clear r hok hr hax
  go_enter Tryz.func49,Tryz.ntmps49
  go_wp2_with fail
  refine HFk.out.mono ?_
  rintro e w1 ⟨q,d1,rfl,r1,hq1,hown1,hb1⟩
  have HR1:=Lib.hid r1
  have HO1:=Lib.hid hown1
  have HB1:=Lib.hid hb1
  clear r1 hown1 hb1 HFk
  go_wp2_with fail
  go_loopw [11] (RTh w q N n L l) (fun v _=>l.length - (intOf v).toNat)
  case atStart=>exact ⟨0,L,d1,Nat.zero_le _,rfl,rfl,HR1.out,HO1.out,HOK.out,rfl,HB1.out⟩
  case round =>
    obtain ⟨k,Lk,dk,hk,rfl,hth,rk,hown,hokk,hlk,hb⟩:=hrel
    by_cases hlt:k<l.length
    · obtain ⟨x,hx⟩:=get_lt hlt
      obtain ⟨b,o,rfl,hbl,hrg⟩:=(HR.out.kept hb).ask_at hx
      have hxk:=(HAX.out x (List.mem_of_getElem? hx)).kept hb
      have HRG:=Lib.hid hrg
      have HX:=Lib.hid hxk
      have HXX:=Lib.hid hx
      have HTH:=Lib.hid hth
      have HRK:=Lib.hid rk
      have HOW:=Lib.hid hown
      have HOKK:=Lib.hid hokk
      have HB:=Lib.hid hb
      have kl:(k:Int)<(l.length:Int):=by omega
      have HLT:=Lib.hid hlt
      clear hx hrg hxk hth rk hown hokk hb hlt
      go_upto_region 5 with (first
        | (refine wpList_load_mid rfl 55 (Operand.tmp 13) rfl b (o+k*31) rfl (askCells x) _ HRG.out Tryz.underlying55 rfl (by exact Tryz.size55) ?_)
        | (refine wpList_store_new rfl 55 (Operand.tmp 6) (Operand.tmp 14) rfl rfl (askArr x) rfl (by exact Tryz.size55) rfl HX.out.one ?_;intro w4 hk4 hb4 hs4;have HK4:=Lib.hid hk4;have HB4:=Lib.hid hb4;clear hk4 hb4 hs4))
      obtain ⟨xb,hxb⟩:∃ y,wr.heap.size=y:=⟨_,rfl⟩
      have K4:=HK4.out
      rw [hxb] at K4 ⊢
      have Q1:w4.rangeAt xb 7 (clCells x.call):=K4.range 7 8
      have Q2:w4.rangeAt xb 15 (agArr x.ans x.tv x.ev).toList:=K4.range 15 14
      have q5:=K4.cell 5 (.int .u64 (x.tick:Nat)) rfl
      have HK:=Lib.hid K4
      have HXB:=Lib.hid hxb
      have hnn:n+k≤254:=by omega
      have HDo:=Lib.hid (mod_Do (((HRK.out.kept HB4.out).keep (w':=w4.drew) (Nat.le_refl _) (fun _ _=>rfl))) (n:=n+k) (fun i h hi=>HOKK.out h (List.mem_of_getElem? hi)) (by omega) (by omega) x.call HX.out.call x.tick HX.out.tick)
      clear K4 hxb HK4
      refine region_plan (S:=fun w':World=>w'.rangeAt xb 7 (clCells x.call)∧w'.rangeAt xb 15 (agArr x.ans x.tv x.ev).toList∧w'.cell? ⟨xb,5,none⟩=some (.int .u64 (x.tick:Nat)))
        ((0,true)::(1,true)::(2,true)::(3,true)::(4,true)::(6,true)::(7,true)::(5,false)::(8,false)::(9,true)::[])
        (by kernel_rfl) (by kernel_rfl) (by kernel_rfl) (by kernel_rfl) (fun _ _ _ dst _ h=>by cases dst<;>exact h) ⟨Q1,Q2,q5⟩ (fun hH=>?_)
      clear hH
      iterate 2 (refine plan_take (v:=?_) (by (simp only [ga1,ga2,ga3];exact rfl)) (by rfl) ?_ ?_;rotate_left;(focus (intro wS hS;(try dsimp only at hS);go_split_ands;go_simp;(try with_reducible rfl)));simp only [Act.put,pu1,pu2,pu3])
      refine plan_take (v:=clV x.call) (by (simp only [ga1,ga2,ga3];exact rfl)) (by rfl) (fun wS hS=>exec_load_mid 53 (Operand.tmp 16) rfl xb 7 rfl (clCells x.call) _ hS.1 Tryz.underlying53 rfl (by exact Tryz.size53)) ?_
      (try simp only [Act.put,pu1,pu2,pu3])
      iterate 3 (refine plan_take (v:=?_) (by (simp only [ga1,ga2,ga3];exact rfl)) (by rfl) ?_ ?_;rotate_left;(focus (intro wS hS;(try dsimp only at hS);go_split_ands;go_simp;(try with_reducible rfl)));simp only [Act.put,pu1,pu2,pu3])
      refine plan_take (v:=.agg (agArr x.ans x.tv x.ev)) (by (simp only [ga1,ga2,ga3];exact rfl)) (by rfl) (fun wS hS=>exec_load_mid 35 (Operand.tmp 21) rfl xb 15 rfl (agArr x.ans x.tv x.ev).toList _ hS.2.1 Tryz.underlying35 rfl (by exact Tryz.size35)) ?_
      (try simp only [Act.put,pu1,pu2,pu3])
      (refine plan_solo (by (simp only [ga1,ga2,ga3];exact rfl)) (by rfl) ?_;intro K hK;go_simp)
      refine HDo.out.mono ?_
      rintro e w5 ⟨v5,d5,rfl,r5,ehb,emb,o5,am5⟩
      have r4:=HRK.out.kept HB4.out
      have no4:¬ dk.own Lk.length xb:=r4.own_ne (show Of w4 xb 55 from ⟨_,_,HK.out⟩) (by decide)
      have O5:Only (dk.own Lk.length) w4 w5:=(Only.refl _ w4).drew.trans o5
      have K5:Blk w5 xb (askArr x) 55:=(O5.block xb HK.out.lt no4).trans HK.out
      have B4:Below w.heap.size w w4:=HB.out.trans (HB4.out.mono HB.out.size)
      have B5:Below w.heap.size w w5:=B4.trans (O5.below B4.size (fun j hj=>HOW.out j hj))
      have HK5:=Lib.hid K5
      refine hK.out _ _ ⟨K5.range 7 8,K5.range 15 14,K5.cell 5 (.int .u64 (x.tick:Nat)) rfl⟩ (fun hH=>?_)
      clear hK K hH
      (try simp only [Act.put,pu1,pu2,pu3])
      (refine plan_solo (by (simp only [ga1,ga2,ga3];exact rfl)) (by rfl) ?_;intro K hK;go_simp)
      have hax5:=HAX.out x (List.mem_of_getElem? HXX.out)
      have hax5':AskOk w5 x:=hax5.kept B5
      have HSm:=mod_Same v5 (.agg (agArr x.ans x.tv x.ev)) (doN Lk x.call x.tick).1.ag x.ans w5 am5.ag ⟨x.tv,x.ev,rfl,hax5'.tv,hax5'.ev⟩
      have HR5:=Lib.hid r5
      have HB5:=Lib.hid B5
      have HE5:=Lib.hid (And.intro ehb emb)
      clear r5 B5 ehb emb o5 am5 r4 no4 O5 K5 B4 hax5 hax5' Q1 Q2 q5
      by_cases hs:(doN Lk x.call x.tick).1.ag=x.ans
      · rw [decide_eq_true hs] at HSm
        refine HSm.mono ?_
        rintro e w6 ⟨rfl,hb6⟩
        have K6:=HK5.out.kept hb6
        refine hK.out _ _ ⟨K6.range 7 8,K6.range 15 14,K6.cell 5 (.int .u64 (x.tick:Nat)) rfl⟩ (fun hH=>?_)
        clear hK K hH
        (try simp only [Act.put,pu1,pu2,pu3])
        (repeat (first | (refine plan_take (v:=?_) (by (simp only [ga1,ga2,ga3];exact rfl)) (by rfl) ?_ ?_;rotate_left;(focus (intro wS hS;(try dsimp only at hS);go_split_ands;go_simp;(try with_reducible rfl)));simp only [Act.put,pu1,pu2,pu3]) | (refine plan_skip (by (simp only [ga1,ga2,ga3];exact rfl)) (by rfl) ?_;simp only [Act.put,pu1,pu2,pu3])))
        refine plan_nil ?_
        have HB6:=Lib.hid (HB5.out.trans (hb6.mono HB5.out.size))
        have HR6:=Lib.hid (HR5.out.kept hb6)
        have HS:=Lib.hid hs
        clear K6 hb6 HSm hs
        go_wp2_with fail
        go_roundw
        case rel =>
          refine ⟨k+1,_,d5,HLT.out,rfl,thrN_snoc HXX.out HTH.out HS.out,HR6.out,?_,?_,?_,HB6.out⟩
          · rintro j ⟨i,hi,hj⟩
            obtain ⟨e1,e2⟩:=HE5.out
            rw [e1,e2] at hj
            rw [doN_len] at hi
            exact HOW.out j ⟨i,hi,hj⟩
          · exact HOKK.out.doN (by omega) HX.out.call HX.out.tick
          · rw [doN_len];exact hlk
        case measure=>have:=HLT.out;simp [intOf];omega
      · rw [decide_eq_false hs] at HSm
        refine HSm.mono ?_
        rintro e w6 ⟨rfl,hb6⟩
        have K6:=HK5.out.kept hb6
        refine hK.out _ _ ⟨K6.range 7 8,K6.range 15 14,K6.cell 5 (.int .u64 (x.tick:Nat)) rfl⟩ (fun hH=>?_)
        clear hK K hH
        (try simp only [Act.put,pu1,pu2,pu3])
        (repeat (first | (refine plan_take (v:=?_) (by (simp only [ga1,ga2,ga3];exact rfl)) (by rfl) ?_ ?_;rotate_left;(focus (intro wS hS;(try dsimp only at hS);go_split_ands;go_simp;(try with_reducible rfl)));simp only [Act.put,pu1,pu2,pu3]) | (refine plan_skip (by (simp only [ga1,ga2,ga3];exact rfl)) (by rfl) ?_;simp only [Act.put,pu1,pu2,pu3])))
        refine plan_nil ?_
        have HB6:=Lib.hid (HB5.out.trans (hb6.mono HB5.out.size))
        have HS:=Lib.hid (thrN_stop HXX.out HTH.out hs)
        clear K6 hb6 HSm hs
        go_wp2_with fail
        go_ret
        exact ⟨HB6.out,Or.inl ⟨HS.out,rfl⟩⟩
    · have hK:k=l.length:=by omega
      subst hK
      have kl:¬ ((l.length:Nat):Int)<(l.length:Int):=by omega
      rw [List.take_length] at hth
      have HTH:=Lib.hid hth
      have HRK:=Lib.hid rk
      have HOKK:=Lib.hid hokk
      have HB:=Lib.hid hb
      clear hth rk hown hokk hb
      go_wp2_with fail
      go_ret
      exact ⟨HB.out,Or.inr ⟨Lk,q,dk,HTH.out,rfl,HRK.out,hlk,HOKK.out⟩⟩
def KeyAll (w:World) (C:Array Value) (nT:Nat):Prop:=∀ (W:World) (q N:Nat) (L:List Hs) (d:MD),Below w.heap.size w W→MIs W q N L d→LOk 255 L→L.length=nT→KeyOk W C q
theorem KeyAll.kept {w w':World} {C:Array Value} {nT:Nat} (h:KeyAll w C nT) (hb:Below w.heap.size w w'):KeyAll w' C nT:=fun W q N L d hW=>h W q N L d (hb.trans (hW.mono hb.size))
theorem LOk.mono {n m:Nat} {L:List Hs} (h:LOk n L) (hm:n≤m):LOk m L:=fun x hx=>(h x hx).mono hm
def BehP (L:List Hs) (l:List Ask) (N n:Nat) (e:Ending) (w':World):Prop :=
  (thrN L l=none∧e=.returned (.slice none 0 0))∨∃ L' p' d' g cap,thrN L l=some L'∧e=.returned (.slice (some ⟨g,0,none⟩) 1 cap)∧w'.cell? ⟨g,0,none⟩=some (.pointer (some ⟨p',0,none⟩))∧g<w'.heap.size∧MIs w' p' (N+l.length) L' d'∧L'.length=L.length∧LOk (n+l.length) L'
def RBh (w:World) (C sv:Array Value) (L:List Hs) (l:List Ask) (N n:Nat) (ov iv:Value) (W:World):Prop :=
  Blk W w.heap.size C 28∧Blk W (w.heap.size+1) sv 50∧Below w.heap.size w W∧((iv=.int .i64 0∧ov=.slice none 0 0)∨(iv=.int .i64 1∧BehP L l N n (.returned ov) W))
set_option maxRecDepth 100000 in
set_option maxHeartbeats 8000000 in
theorem mod_behind {w:World} {p N:Nat} {L:List Hs} {d:MD} (r:MIs w p N L d) (h0:0<L.length) (hl:L.length≤100) {n:Nat} (hok:LOk n L) (C:Array Value) (hC:C.size=9) (hkey:KeyAll w C L.length)
    (b o c:Nat) (hc:w.cell? ⟨b,o,none⟩=some (.pointer (some ⟨p,0,none⟩))) (hbl:b<w.heap.size)
    (v:Value) (l:List Ask) (LA:Option Addr) (LC steps:Nat) (hrec:RecOk l steps) (hr:Reads w v l.length 31 (askArgs l)) (hax:∀ x∈l,AskOk w x) (hn:n+l.length≤255) (hN:N+l.length≤900) :
    Calls Tryz.prog 31 #[.agg C,.slice (some ⟨b,o,none⟩) 1 c,.agg (svArr v LA LC steps)] w fun e w'=>Below w.heap.size w w'∧BehP L l N n e w':=by
  obtain ⟨i0,ii,iz0,iz1,iz2⟩:=info_parts Tryz.info84
  obtain ⟨A,cap,rfl⟩:=hr.form
  have HR:=Lib.hid r
  have HOK:=Lib.hid hok
  have HRD:=Lib.hid hr
  have HAX:=Lib.hid hax
  have HRC:=Lib.hid hrec
  have HKEY:=Lib.hid hkey
  have HCS:=Lib.hid hC
  have HC0:=Lib.hid hc
  have hlen:=hrec.len
  have b1:Below w.heap.size w (w.alloc (.cells C 28)):=(Below.refl _ w).alloc (Nat.le_refl _) _
  have HB1:=Lib.hid (b1.alloc b1.size (.cells (svArr (.slice A l.length cap) LA LC steps) 50))
  have HK1:=Lib.hid ((Blk.new w C 28).alloc (.cells (svArr (.slice A l.length cap) LA LC steps) 50))
  have hk2:=Blk.new (w.alloc (.cells C 28)) (svArr (.slice A l.length cap) LA LC steps) 50
  rw [World.size_alloc] at hk2
  have HK2:=Lib.hid hk2
  have x0:=hk2.cell 0 (.int .i64 0) rfl
  clear r hok hr hax hrec hkey hC hc b1 hk2
  go_enter Tryz.func31,Tryz.ntmps31
  go_wp2_with fail
  generalize (w.alloc (.cells C 28)).alloc (.cells (svArr (.slice A l.length cap) LA LC steps) 50)=W0 at HB1 HK1 HK2 x0 ⊢
  clear x0
  go_loopw [7,23] (RBh w C (svArr (.slice A l.length cap) LA LC steps) L l N n) (fun _ v _=>1 - (intOf v).toNat)
  case atStart=>exact ⟨HK1.out,HK2.out,HB1.out,.inl ⟨rfl,rfl⟩⟩
  case round =>
    obtain ⟨kc,ks,hb,⟨rfl,rfl⟩ | ⟨rfl,hbeh⟩⟩:=hrel
    · have c0:=cell_keep hb HC0.out
      have HKC:=Lib.hid kc
      have HKS:=Lib.hid ks
      have HB:=Lib.hid hb
      clear kc ks hb
      go_wp2_with (refine wpList_load_blk rfl 50 (Operand.tmp 5) rfl (w.heap.size+1) rfl 50 _ _ HKS.out Tryz.underlying50 rfl (by exact Tryz.size50) ?_)
      refine (mod_done wr (.slice A l.length cap) l LA LC steps HRC.out (HRD.out.kept HB.out) (fun x hx=>(HAX.out x hx).kept HB.out)).mono ?_
      rintro e w5 ⟨v5,rfl,own5,hb5⟩
      have hb5w:Below w.heap.size w w5:=HB.out.trans (hb5.mono HB.out.size)
      have hT:=Lib.hid (mod_through (HR.out.kept hb5w) h0 hl HOK.out v5 l (Reads.of_own own5) (fun x hx=>(HAX.out x hx).kept hb5w) hn hN)
      have HKC5:=Lib.hid (HKC.out.kept hb5)
      have HKS5:=Lib.hid (HKS.out.kept hb5)
      have HB5:=Lib.hid hb5w
      clear hb5 hb5w own5 c0 HKC HKS HB
      go_wp2_with fail
      refine hT.out.mono ?_
      rintro e w6 ⟨hb6,hth⟩
      have HKC6:=Lib.hid (HKC5.out.kept hb6)
      have HKS6:=Lib.hid (HKS5.out.kept hb6)
      have HB6:=Lib.hid (HB5.out.trans (hb6.mono HB5.out.size))
      clear hb6 hT HKC5 HKS5 HB5
      rcases hth with ⟨hno,rfl⟩ | ⟨L',p',d',hyes,rfl,r6,hlen6,hok6⟩
      · have HNO:=Lib.hid hno
        clear hno
        go_wp2_with fail
        go_roundw
        case rel=>exact ⟨HKC6.out,HKS6.out,HB6.out,.inr ⟨rfl,Or.inl ⟨HNO.out,rfl⟩⟩⟩
        case measure=>simp [intOf]
      · have HYES:=Lib.hid hyes
        have HR6:=Lib.hid r6
        have HL6:=Lib.hid hlen6
        have HOK6:=Lib.hid hok6
        have q3:=Lib.hid (Nat.le_trans HB6.out.size (Nat.le_succ _))
        clear hyes r6 hlen6 hok6
        go_wp2_with (at_builtin;refine wpList_append_row rfl _ _ 80 rfl w.heap.size 84 i0 _ 1 8 Tryz.underlying80 ii iz0 iz1 iz2 rfl (by decide) _ _ _ rfl (World.ownsRow_nil _ _ _ _) ⟨w6.heap.size,0,none⟩ 1 1 [.pointer (some ⟨p',0,none⟩)] rfl rfl (cells_new w6 [.pointer (some ⟨p',0,none⟩)] 84) (by simp [Value.oneCell']) (by unfold maxLen;omega) (by omega) (by rw [World.size_alloc];exact q3.out) ?_)
        intro v' w7 own7 hgr hfr
        rcases own7.2 with ⟨_,h2⟩ | ⟨g,cap',cur,h1,hg0,hg1,hg2,hg3,hg4,hg5⟩
        · omega
        · subst h1
          have hv7:Below w6.heap.size w6 w7:=((Below.refl _ w6).alloc (Nat.le_refl _) (.cells #[.pointer (some ⟨p',0,none⟩)] 84)).grown hgr (by rw [World.size_alloc];omega) (fun j hj=>by simp [Value.ownBlock] at hj)
          have c7:w7.cell? ⟨g,0,none⟩=some (.pointer (some ⟨p',0,none⟩)):=by
            have:=own7.cells (g:=g) rfl 0 _ rfl
            rw [add_at rfl] at this
            exact this
          have HFIN:=Lib.hid (And.intro (HKC6.out.kept hv7) (And.intro (HKS6.out.kept hv7) (And.intro (HB6.out.trans (hv7.mono HB6.out.size)) (And.intro c7 (And.intro (own7.lt g rfl).2 (HR6.out.kept hv7))))))
          clear hgr hfr own7 hg0 hg1 hg2 hg3 hg4 hg5 hv7 c7
          go_wp2_with fail
          go_roundw
          case rel =>
            obtain ⟨h1,h2,h3,h4,h5,h6⟩:=HFIN.out
            exact ⟨h1,h2,h3,.inr ⟨rfl,Or.inr ⟨L',p',d',g,cap',HYES.out,rfl,h4,h5,h6,HL6.out,HOK6.out⟩⟩⟩
          case measure=>simp [intOf]
    · have HKS:=Lib.hid ks
      have HKC:=Lib.hid kc
      have HB:=Lib.hid hb
      clear ks kc hb
      rcases hbeh with ⟨hno,e⟩ | ⟨L',p',d',g,cap',hyes,e,c7,hgl,r7,hlen7,hok7⟩
      · injection e with e
        subst e
        have HNO:=Lib.hid hno
        clear hno
        go_wp2_with (refine wpList_load_blk rfl 28 (Operand.tmp 3) rfl w.heap.size rfl 28 _ _ HKC.out Tryz.underlying28 rfl (by rw [HCS.out];exact Tryz.size28) ?_)
        refine (mod_distinct0 wr C).mono ?_
        rintro e w8 ⟨rfl,hb8⟩
        have HKS8:=Lib.hid (HKS.out.kept hb8)
        have HB8:=Lib.hid (HB.out.trans (hb8.mono HB.out.size))
        clear hb8
        go_wp2_with (refine wpList_load_blk rfl 50 (Operand.tmp 5) rfl (w.heap.size+1) rfl 50 _ _ HKS8.out Tryz.underlying50 rfl (by exact Tryz.size50) ?_)
        refine (mod_unsure w8 (.slice A l.length cap) l LA LC steps hlen (HRD.out.kept HB8.out) (fun x hx=>(HAX.out x hx).kept HB8.out)).mono ?_
        rintro e w9 ⟨rfl,hb9⟩
        have HB9:=Lib.hid (HB8.out.trans (hb9.mono HB8.out.size))
        clear hb9
        go_wp2_with fail
        go_loopw [7,44] (fun (ov iv:Value) (W:World)=>ov=.slice none 0 0∧iv=.int .i64 0∧Below w.heap.size w W) (fun _ _ _=>0)
        case atStart=>exact ⟨rfl,rfl,HB9.out⟩
        case round =>
          obtain ⟨rfl,rfl,hb⟩:=hrel
          have HBE:=Lib.hid hb
          clear hb
          go_wp2_with fail
          go_ret
          exact ⟨HBE.out,Or.inl ⟨HNO.out,rfl⟩⟩
      · injection e with e
        subst e
        have HYES:=Lib.hid hyes
        have HR7:=Lib.hid r7
        have HL7:=Lib.hid hlen7
        have HOK7:=Lib.hid hok7
        have HD:=Lib.hid (mod_distinct wr C HCS.out g 0 cap' p' c7 hgl (HKEY.out wr p' _ L' d' HB.out r7 (hok7.mono hn) hlen7))
        clear hyes r7 hlen7 hok7 c7 hgl
        go_wp2_with (refine wpList_load_blk rfl 28 (Operand.tmp 3) rfl w.heap.size rfl 28 _ _ HKC.out Tryz.underlying28 rfl (by rw [HCS.out];exact Tryz.size28) ?_)
        refine HD.out.mono ?_
        rintro e w8 ⟨g8,cap8,rfl,c8,hgl8,hb8⟩
        have HKS8:=Lib.hid (HKS.out.kept hb8)
        have HB8:=Lib.hid (HB.out.trans (hb8.mono HB.out.size))
        have HR8:=Lib.hid (HR7.out.kept hb8)
        have HC8:=Lib.hid c8
        have HGL8:=Lib.hid hgl8
        clear hb8 c8 hgl8 HD
        go_wp2_with (refine wpList_load_blk rfl 50 (Operand.tmp 5) rfl (w.heap.size+1) rfl 50 _ _ HKS8.out Tryz.underlying50 rfl (by exact Tryz.size50) ?_)
        refine (mod_unsure w8 (.slice A l.length cap) l LA LC steps hlen (HRD.out.kept HB8.out) (fun x hx=>(HAX.out x hx).kept HB8.out)).mono ?_
        rintro e w9 ⟨rfl,hb9⟩
        have HB9:=Lib.hid (HB8.out.trans (hb9.mono HB8.out.size))
        have HR9:=Lib.hid (HR8.out.kept hb9)
        have HC9:=Lib.hid ((hb9.cell (p:=⟨g8,0,none⟩) HGL8.out).trans HC8.out)
        have HGL9:=Lib.hid (Nat.lt_of_lt_of_le HGL8.out hb9.size)
        clear hb9
        go_wp2_with fail
        go_loopw [7,44] (fun (ov iv:Value) (W:World)=>ov=.slice (some ⟨g8,0,none⟩) 1 cap8∧iv=.int .i64 0∧W=w9) (fun _ _ _=>0)
        case atStart=>exact ⟨rfl,rfl,rfl⟩
        case round =>
          obtain ⟨rfl,rfl,hw⟩:=hrel
          obtain rfl:=hw.symm
          clear hw
          go_wp2_with fail
          go_ret
          exact ⟨HB9.out,Or.inr ⟨L',p',d',g8,cap8,HYES.out,rfl,HC9.out,HGL9.out,HR9.out,HL7.out,HOK7.out⟩⟩
end Go.Proofs.YtmdgeknnhckgfaaGreatDoor
namespace Go.Proofs.YtmdgeknnhckgfaaGreatDoor
open Go Go.RowKit
structure RowT (w:World) (t:TypeId) (v:Value) (n k:Nat) (xs:List Value):Prop where
  row:Reads w v n k xs
  ty:∀ b,v.ownBlock=some b→Of w b t
theorem Of.wrote {B b k:Nat} {t:TypeId} {w w':World} (h:Of w k t) (ht:t≠5) (hk:k≠b) (f:BFr B b w w'):Of w' k t∧w'.heap[k]?=w.heap[k]?:=by
  obtain ⟨c,z,h⟩:=h
  have:=f.others k _ h (fun e=>hk (Option.some.inj e)) (fun c' z' e=>ht (Obj.cells.inj e).2.1)
  exact ⟨⟨c,z,this⟩,this.trans h.symm⟩
theorem RowT.wrote {B b:Nat} {w w':World} {t:TypeId} {v:Value} {n k:Nat} {xs:List Value} (h:RowT w t v n k xs) (ht:t≠5) (hb:∀ c,v.ownBlock=some c→c≠b) (hs:w.heap.size≤w'.heap.size) (f:BFr B b w w'):RowT w' t v n k xs :=
  ⟨h.row.block hs (fun c hc=>((h.ty c hc).wrote ht (hb c hc) f).2),fun c hc=>((h.ty c hc).wrote ht (hb c hc) f).1⟩
theorem RowT.kept {w w':World} {t:TypeId} {v:Value} {n k:Nat} {xs:List Value} (h:RowT w t v n k xs) (hb:Below w.heap.size w w'):RowT w' t v n k xs :=
  ⟨h.row.kept hb,fun c hc=>(h.ty c hc).block (hb.block c (h.ty c hc).lt)⟩
theorem Blk.wrote {B b k:Nat} {t:TypeId} {a:Array Value} {w w':World} (h:Blk w k a t) (ht:t≠5) (hk:k≠b) (f:BFr B b w w'):Blk w' k a t :=
  f.others k _ h (fun e=>hk (Option.some.inj e)) (fun c' z' e=>ht (Obj.cells.inj e).2.1)
theorem RowT.of_own {w:World} {base n k:Nat} {t:TypeId} {v:Value} {xs:List Value} (h:w.ownsRow base t k v n xs) (hr:Reads w v n k xs):RowT w t v n k xs :=
  ⟨hr,fun c hc=>by obtain ⟨cur,e⟩:=own_typed h hc;exact ⟨cur,_,e⟩⟩
theorem builder_of {B b m:Nat} {w:World} (h:BldIs B b m w):Of w b 164∧B≤b:=by
  obtain ⟨l,h,_⟩:=h
  have key:∀ p bs,Lib.BuilderAtF 164 5 B b p bs w→Of w b 164∧B≤b:=by
    rintro p bs ⟨h1,v,h2,_⟩
    exact ⟨⟨_,_,h2⟩,h1⟩
  exact h.elim (key _ _) (key _ _)
theorem RowT.write {B b m:Nat} {w w':World} {t:TypeId} {v:Value} {n k:Nat} {xs:List Value} (h:RowT w t v n k xs) (ht:t≠5) (ht':t≠164) (hb:BldIs B b m w) (hs:w.heap.size≤w'.heap.size) (f:BFr B b w w'):RowT w' t v n k xs :=
  h.wrote ht (fun c hc=>(h.ty c hc).ne (builder_of hb).1 ht') hs f
theorem Blk.write {B b m k:Nat} {t:TypeId} {a:Array Value} {w w':World} (h:Blk w k a t) (ht:t≠5) (ht':t≠164) (hb:BldIs B b m w) (f:BFr B b w w'):Blk w' k a t :=
  h.wrote ht (Of.ne (t:=t) ⟨_,_,h⟩ (builder_of hb).1 ht') f
theorem bld_new (w:World) (B:Nat) (hB:B≤w.heap.size):BldIs B w.heap.size 0 (w.alloc (.cells #[.pointer none,.slice none 0 0] 164)):=by
  refine ⟨[],.inl ⟨hB,.slice none 0 0,?_,?_,?_⟩,Nat.le_refl _⟩
  · exact Blk.new w _ _
  · exact ⟨rfl,.inl ⟨rfl,rfl⟩⟩
  · intro e;cases e
variable {w w':World} {p N:Nat} {L:List Hs} {d:MD}
set_option maxRecDepth 100000 in
theorem mod_EntriesT (r:MIs w p N L d) {i:Nat} {h:Hs} (hi:L[i]?=some h) (hl:h.ents.length≤1000000) :
    Calls Tryz.prog 36 #[.pointer (some ⟨p,0,none⟩),.int .i64 (i:Nat)] w fun e w'=>∃ A cap,e=.returned (.slice A h.ents.length cap)∧RowT w' 103 (.slice A h.ents.length cap) h.ents.length 4 (entArgs h.ents)∧Below w.heap.size w w':=by
  have hil:=(List.getElem?_eq_some_iff.1 hi).1
  have HH:=Lib.hid (mod_house r (i:Nat))
  have hv:houV L d (i:Nat)=.pointer (some ⟨d.hb i,0,none⟩):=by unfold houV;rw [if_pos ⟨by omega,by omega⟩];rfl
  rw [hv] at HH
  obtain ⟨A,cap,hev⟩:=(r.he i h hi).form
  have KH:=r.hh i h hi
  have hrd:=r.he i h hi
  rw [hev] at KH hrd
  have c3:=KH.cell 3 (.slice A h.ents.length cap) rfl
  have HC:=Lib.hid (mod_cloneE w _ h.ents hl hrd)
  clear r hi hv hev KH hrd
  go_enter Tryz.func36,Tryz.ntmps36
  go_wp2_with fail
  refine HH.out.mono ?_
  rintro e w1 ⟨rfl,hw⟩
  obtain rfl:=hw.symm
  clear hw
  go_wp2_with fail
  refine HC.out.mono ?_
  rintro e w2 ⟨A2,cap2,rfl,hr2,hof,_,hb2⟩
  have HR2:=Lib.hid hr2
  have HB2:=Lib.hid hb2
  have HOF:=Lib.hid hof
  clear hr2 hb2 hof
  go_wp2_with fail
  go_ret
  exact ⟨_,_,rfl,⟨HR2.out,HOF.out⟩,HB2.out⟩
end Go.Proofs.YtmdgeknnhckgfaaGreatDoor
namespace Go.Proofs.YtmdgeknnhckgfaaGreatDoor
open Go Go.RowKit
variable {w w':World} {p N:Nat} {L:List Hs} {d:MD}
theorem key_b1 {k:Nat} (h:k≤100):k*10300000+7678151+(⟨#[59,32]⟩:ByteArray).size≤140737488355328:=by
  have e:(⟨#[59,32]⟩:ByteArray).size=2:=rfl
  omega
theorem key_b2 {k:Nat} (h:k≤100):k*10300000+10299000+(⟨#[124,32]⟩:ByteArray).size≤140737488355328:=by
  have e:(⟨#[124,32]⟩:ByteArray).size=2:=rfl
  omega
theorem key_max {bs:List UInt8} (h:bs.length≤10000000000):(⟨bs.toArray⟩:ByteArray).size≤maxLen:=by
  have e:(⟨bs.toArray⟩:ByteArray).size=bs.length:=rfl
  rw [e]
  unfold maxLen
  omega
def RKo (w:World) (b n:Nat) (v:Value) (W:World):Prop:=∃ k,k≤n∧v=.int .i64 (k:Nat)∧BldIs w.heap.size b (k*10300000) W∧Below w.heap.size w W
def RKi (w:World) (b:Nat) (t:TypeId) (rv:Value) (n m s:Nat) (xs:List Value) (v:Value) (W:World):Prop:=∃ j,j≤n∧v=.int .i64 (j:Nat)∧RowT W t rv n 4 xs∧BldIs w.heap.size b (m+j*s) W∧Below w.heap.size w W
set_option maxRecDepth 100000 in
set_option maxHeartbeats 8000000 in
theorem mod_key {T:Lib.PrintTabs} (ht:Tabs T w) (r:MIs w p N L d) (hok:LOk 255 L) (h16:L.length≤100) (TA:Option Addr) (TC:Nat) (o:Cf) :
    Calls Tryz.prog 70 #[.agg (cfArr (.slice TA L.length TC) o),.pointer (some ⟨p,0,none⟩)] w fun e w'=>∃ s:ByteArray,e=.returned (.string s)∧s.size≤maxLen∧Below w.heap.size w w':=by
  have HR:=Lib.hid r
  have HT:=Lib.hid ht
  have HOK:=Lib.hid hok
  have HL:=Lib.hid h16
  have x0:=((Blk.new w (cfArr (.slice TA L.length TC) o) 28).alloc (.cells #[.pointer none,.slice none 0 0] 164)).cell 0 (.slice TA L.length TC) rfl
  have hb0:Below w.heap.size w ((w.alloc (.cells (cfArr (.slice TA L.length TC) o) 28)).alloc (.cells #[.pointer none,.slice none 0 0] 164)):=((Below.refl _ w).alloc (Nat.le_refl _) _).alloc (by rw [World.size_alloc];omega) _
  have hn0:=bld_new (w.alloc (.cells (cfArr (.slice TA L.length TC) o) 28)) w.heap.size (by rw [World.size_alloc];omega)
  rw [World.size_alloc] at hn0
  have HB0:=Lib.hid hb0
  have HN0:=Lib.hid hn0
  clear r ht hok h16 hb0 hn0
  go_enter Tryz.func70,Tryz.ntmps70
  go_wp2_with fail
  generalize (w.alloc (.cells (cfArr (.slice TA L.length TC) o) 28)).alloc (.cells #[.pointer none,.slice none 0 0] 164)=W0 at x0 HB0 HN0 ⊢
  clear x0
  generalize hbb:w.heap.size+1=b at HN0 ⊢
  clear hbb
  go_loopw [18] (RKo w b L.length) (fun v _=>L.length - (intOf v).toNat)
  case atStart=>exact ⟨0,Nat.zero_le _,rfl,HN0.out,HB0.out⟩
  case round =>
    obtain ⟨k,hk,rfl,hbl,hb⟩:=hrel
    have HBL:=Lib.hid hbl
    have HB:=Lib.hid hb
    have HK:=Lib.hid hk
    clear hbl hb hk
    by_cases hlt:k<L.length
    · obtain ⟨h,hh⟩:=get_lt hlt
      have kl:(k:Int)<(L.length:Int):=by omega
      have kl0:(L.length:Int)≤100:=by have:=HL.out;omega
      have HHH:=Lib.hid hh
      have HLT:=Lib.hid hlt
      have HHO:=Lib.hid (HOK.out h (List.mem_of_getElem? hh))
      have HLV:=Lib.hid (show livesN L (k:Int) 0=liveN h.ses 0 by unfold livesN houseN;rw [if_pos (by omega),Int.toNat_natCast,hh])
      have hnx:nextN L (k:Int)=h.next:=by unfold nextN houseN;rw [if_pos (by omega),Int.toNat_natCast,hh]
      have HNx:=mod_Next (HR.out.kept HB.out) (k:Int)
      rw [hnx] at HNx
      have hw:IntKind.u64.wrap (h.next:Int)=(h.next:Int):=by rw [IntKind.wrap_u64];have:=HHO.out.next;omega
      obtain ⟨nx,hnn⟩:∃ nx,h.next=nx:=⟨_,rfl⟩
      have HNB:=Lib.hid (show nx≤256 by have:=HHO.out.next;omega)
      rw [hnn] at HNx hw
      replace HNx:=Lib.hid HNx
      clear hh hlt hnx hnn
      go_wp2_with fail
      refine HNx.out.mono ?_
      rintro e w1 ⟨rfl,hw1⟩
      obtain rfl:=hw1.symm
      clear hw1
      go_wp2_with fail
      refine (mod_c85 HBL.out (by have:=HK.out;have:=HL.out;omega) HB.out.size nx (by have:=HNB.out;omega) (HT.out.kept HB.out)).mono ?_
      rintro e w2 ⟨rfl,hbl2,hf2⟩
      have HBL2:=Lib.hid hbl2
      have HB2:=Lib.hid (HB.out.trans hf2.below)
      clear hbl2 hf2
      have HLv:=mod_Live (HR.out.kept HB2.out) (fun x hx=>⟨(HOK.out x hx).sorted,fun s hs=>by have:=((HOK.out x hx).sizes s hs).tok;unfold maxLen;omega,by have:=(HOK.out x hx).len;omega⟩) (k:Int) 0
      rw [HLV.out] at HLv
      obtain ⟨l,hll⟩:∃ l,liveN h.ses 0=l:=⟨_,rfl⟩
      have HLE:=Lib.hid (show l.length≤255 by
        have h1:=liveN_len h.ses 0
        have:=HHO.out.len
        rw [hll] at h1
        omega)
      have HSO:=Lib.hid (show ∀ s∈l,SesOk s by
        intro s hs
        rw [←hll] at hs
        exact HHO.out.sizes s ((List.mem_filter.1 hs).1))
      rw [hll] at HLv
      replace HLv:=Lib.hid HLv
      clear hll
      go_wp2_with fail
      refine HLv.out.mono ?_
      rintro e w3 ⟨v3,rfl,own3,hb3⟩
      have hrt:=RowT.of_own own3 (Reads.of_own own3)
      obtain ⟨SA,sc,rfl⟩:=hrt.row.form
      have HRT:=Lib.hid hrt
      have HBL3:=Lib.hid (HBL2.out.below hb3)
      have HB3:=Lib.hid (HB2.out.trans (hb3.mono HB2.out.size))
      clear own3 hb3 hrt
      go_wp2_with fail
      go_loopw [31] (RKi w b 90 (.slice SA l.length sc) l.length (k*10300000+101) 30110 (sesArgs l)) (fun v _=>l.length - (intOf v).toNat)
      case atStart=>exact ⟨0,Nat.zero_le _,rfl,HRT.out,HBL3.out,HB3.out⟩
      case round =>
        obtain ⟨j,hj,rfl,hrt,hbl,hb⟩:=hrel
        by_cases hjl:j<l.length
        · obtain ⟨s,hs⟩:=get_lt hjl
          obtain ⟨tb,to',rfl,htl,hc⟩:=hrt.row.some_at (by omega)
          have hat:=flatMap_at (f:=sesCells) (k:=4) (fun _=>rfl) l j s hs
          have c0:wr.cell? ⟨tb,to'+j*4,none⟩=some (.string s.tok):=hc (j*4) _ ((hat 0 (by decide)).trans rfl)
          have c1:wr.cell? ⟨tb,to'+j*4+1,none⟩=some (.string s.usr):=hc (j*4+1) _ ((hat 1 (by decide)).trans rfl)
          have c2:wr.cell? ⟨tb,to'+j*4+2,none⟩=some (.string s.dat):=hc (j*4+2) _ ((hat 2 (by decide)).trans rfl)
          have c3:wr.cell? ⟨tb,to'+j*4+3,none⟩=some (.int .u64 (s.exp:Nat)):=hc (j*4+3) _ ((hat 3 (by decide)).trans rfl)
          have kl2:(j:Int)<(l.length:Int):=by omega
          have kl3:(l.length:Int)≤255:=by have:=HLE.out;omega
          have HSK:=Lib.hid (HSO.out s (List.mem_of_getElem? hs))
          have HJ:=Lib.hid hjl
          have HRTJ:=Lib.hid hrt
          have HBLJ:=Lib.hid hbl
          have HBJ:=Lib.hid hb
          have HM:=Lib.hid (show k*10300000+101+j*30110≤10000000000 by have:=HK.out;have:=HL.out;have:=HLE.out;omega)
          obtain ⟨M,hM⟩:∃ M,k*10300000+101+j*30110=M:=⟨_,rfl⟩
          rw [hM] at HBLJ HM
          have HMM:=Lib.hid hM
          obtain ⟨tok,usr,dat,exp⟩:=s
          simp only at c0 c1 c2 c3
          clear hs hat hjl hrt hbl hb hc hj hM
          go_wp2_with fail
          have hal:Below wr.heap.size wr (wr.alloc (.cells #[.string tok,.string usr,.string dat,.int .u64 (exp:Nat)] 90)):=(Below.refl _ wr).alloc (Nat.le_refl _) _
          have HB4:=Lib.hid (HBJ.out.alloc HBJ.out.size (.cells #[.string tok,.string usr,.string dat,.int .u64 (exp:Nat)] 90))
          have HK4:=Lib.hid (Blk.new wr #[.string tok,.string usr,.string dat,.int .u64 (exp:Nat)] 90)
          have HR4:=Lib.hid (HRTJ.out.kept hal)
          have HL4:=Lib.hid (HBLJ.out.below hal)
          clear hal c0 c1 c2 c3
          change Calls _ _ _ (wr.alloc (.cells #[.string tok,.string usr,.string dat,.int .u64 (exp:Nat)] 90)) _
          generalize wr.alloc (.cells #[.string tok,.string usr,.string dat,.int .u64 (exp:Nat)] 90)=w4 at HB4 HK4 HR4 HL4 ⊢
          refine (mod_c88 HL4.out (by have:=HM.out;omega) HB4.out.size tok (by have:=HSK.out.tok;simp only at this;omega) (HT.out.kept HB4.out)).mono ?_
          rintro e w5 ⟨rfl,hbl,hf⟩
          have HB5:=Lib.hid (HB4.out.trans hf.below)
          have hk:=HK4.out.write (by decide) (by decide) HL4.out hf
          have HR5:=Lib.hid (HR4.out.write (by decide) (by decide) HL4.out hf.below.size hf)
          have HL5:=Lib.hid hbl
          have q:=hk.cell 1 _ rfl
          have HK5:=Lib.hid hk
          clear hbl hf hk
          go_wp2_with fail
          clear q
          refine (mod_c88 HL5.out (by have:=HM.out;omega) HB5.out.size usr (by have:=HSK.out.usr;simp only at this;omega) (HT.out.kept HB5.out)).mono ?_
          rintro e w6 ⟨rfl,hbl,hf⟩
          have HB6:=Lib.hid (HB5.out.trans hf.below)
          have hk:=HK5.out.write (by decide) (by decide) HL5.out hf
          have HR6:=Lib.hid (HR5.out.write (by decide) (by decide) HL5.out hf.below.size hf)
          have HL6:=Lib.hid hbl
          have q:=hk.cell 2 _ rfl
          have HK6:=Lib.hid hk
          clear hbl hf hk
          go_wp2_with fail
          clear q
          refine (mod_c88 HL6.out (by have:=HM.out;omega) HB6.out.size dat (by have:=HSK.out.dat;simp only at this;omega) (HT.out.kept HB6.out)).mono ?_
          rintro e w7 ⟨rfl,hbl,hf⟩
          have HB7:=Lib.hid (HB6.out.trans hf.below)
          have hk:=HK6.out.write (by decide) (by decide) HL6.out hf
          have HR7:=Lib.hid (HR6.out.write (by decide) (by decide) HL6.out hf.below.size hf)
          have HL7:=Lib.hid hbl
          have q:=hk.cell 3 _ rfl
          have HK7:=Lib.hid hk
          clear hbl hf hk
          go_wp2_with fail
          clear q
          refine (mod_c85 HL7.out (by have:=HM.out;omega) HB7.out.size exp (by have:=HSK.out.exp;simp only at this;omega) (HT.out.kept HB7.out)).mono ?_
          rintro e w8 ⟨rfl,hbl,hf⟩
          have HB8:=Lib.hid (HB7.out.trans hf.below)
          have HR8:=Lib.hid (HR7.out.write (by decide) (by decide) HL7.out hf.below.size hf)
          have HL8:=Lib.hid hbl
          clear hbl hf
          go_wp2_with fail
          refine ⟨⟨j+1,by have:=HJ.out;omega,rfl,HR8.out,HL8.out.mono (by have:=HMM.out;omega),HB8.out⟩,?_⟩
          show l.length - (intOf (.int .i64 ((j:Int)+1))).toNat<l.length - (intOf (.int .i64 (j:Int))).toNat
          simp only [intOf]
          have:=HJ.out
          omega
        · have hje:j=l.length:=by omega
          have kl2:¬ (j:Int)<(l.length:Int):=by omega
          have HB4:=Lib.hid hb
          have HL4:=Lib.hid (hbl.mono (show k*10300000+101+j*30110≤k*10300000+7678151 by have:=HLE.out;omega))
          clear hb hbl hrt hje hjl hj
          go_wp2_with fail
          refine (mod_write86 HL4.out ⟨#[59,32]⟩ (key_b1 (by have:=HK.out;have:=HL.out;omega)) HB4.out.size).mono ?_
          rintro e w5 ⟨rfl,hbl,hf⟩
          have HB5:=Lib.hid (HB4.out.trans hf.below)
          have HL5:=Lib.hid (hbl.mono (m':=k*10300000+7678153) (by have e:(⟨#[59,32]⟩:ByteArray).size=2:=rfl;omega))
          clear hbl hf
          have HEn:=mod_EntriesT (HR.out.kept HB5.out) HHH.out (by have:=HHO.out.ents;omega)
          obtain ⟨es,hes⟩:∃ es,h.ents=es:=⟨_,rfl⟩
          have HEE:=Lib.hid (show es.length≤255 by have:=HHO.out.ents;rw [hes] at this;omega)
          have HEO:=Lib.hid (show ∀ (i:Nat) e,es[i]?=some e→e.num=i+1∧e.Ok∧e.sub.size≤64 by have:=HHO.out.nums;rw [hes] at this;exact this)
          rw [hes] at HEn
          replace HEn:=Lib.hid HEn
          clear hes
          go_wp2_with fail
          refine HEn.out.mono ?_
          rintro e w6 ⟨EA,ec,rfl,hrt6,hb6⟩
          have HRT6:=Lib.hid hrt6
          have HL6:=Lib.hid (HL5.out.below hb6)
          have HB6:=Lib.hid (HB5.out.trans (hb6.mono HB5.out.size))
          clear hrt6 hb6
          go_wp2_with fail
          go_loopw [57] (RKi w b 103 (.slice EA es.length ec) es.length (k*10300000+7678153) 10003 (entArgs es)) (fun v _=>es.length - (intOf v).toNat)
          case atStart=>exact ⟨0,Nat.zero_le _,rfl,HRT6.out,HL6.out,HB6.out⟩
          case round =>
            obtain ⟨i,hi,rfl,hrt,hbl,hb⟩:=hrel
            by_cases hil:i<es.length
            · obtain ⟨x,hx⟩:=get_lt hil
              obtain ⟨tb,to',rfl,htl,hc⟩:=hrt.row.some_at (by omega)
              have hat:=flatMap_at (f:=entCells) (k:=4) (fun _=>rfl) es i x hx
              have c0:wr.cell? ⟨tb,to'+i*4,none⟩=some (.int .i64 (x.num:Nat)):=hc (i*4) _ ((hat 0 (by decide)).trans rfl)
              have c1:wr.cell? ⟨tb,to'+i*4+1,none⟩=some (.int .i64 (x.kind:Nat)):=hc (i*4+1) _ ((hat 1 (by decide)).trans rfl)
              have c2:wr.cell? ⟨tb,to'+i*4+2,none⟩=some (.int .u64 (x.tick:Nat)):=hc (i*4+2) _ ((hat 2 (by decide)).trans rfl)
              have c3:wr.cell? ⟨tb,to'+i*4+3,none⟩=some (.string x.sub):=hc (i*4+3) _ ((hat 3 (by decide)).trans rfl)
              have kl4:(i:Int)<(es.length:Int):=by omega
              have kl5:(es.length:Int)≤255:=by have:=HEE.out;omega
              have hxo:=HEO.out i x hx
              have htx:=entN_le hxo.2.1
              have HTX:=Lib.hid htx
              have HXO:=Lib.hid hxo
              have HI:=Lib.hid hil
              have HRTI:=Lib.hid hrt
              have HBLI:=Lib.hid hbl
              have HBI:=Lib.hid hb
              clear hx hat hil hrt hbl hb hc hi hxo htx
              go_wp2_with fail
              have hal:Below wr.heap.size wr (wr.alloc (.cells #[.int .i64 (x.num:Nat),.int .i64 (x.kind:Nat),.int .u64 (x.tick:Nat),.string x.sub] 103)):=(Below.refl _ wr).alloc (Nat.le_refl _) _
              have HB7:=Lib.hid (HBI.out.alloc HBI.out.size (.cells #[.int .i64 (x.num:Nat),.int .i64 (x.kind:Nat),.int .u64 (x.tick:Nat),.string x.sub] 103))
              have HR7:=Lib.hid (HRTI.out.kept hal)
              have HL7:=Lib.hid (HBLI.out.below hal)
              clear hal c0 c1 c2 c3
              change Calls _ _ _ (wr.alloc (.cells #[.int .i64 (x.num:Nat),.int .i64 (x.kind:Nat),.int .u64 (x.tick:Nat),.string x.sub] 103)) _
              generalize wr.alloc (.cells #[.int .i64 (x.num:Nat),.int .i64 (x.kind:Nat),.int .u64 (x.tick:Nat),.string x.sub] 103)=w7 at HB7 HR7 HL7 ⊢
              refine (mod_Text x HXO.out.2.1 HTX.out w7).mono ?_
              rintro e w8 ⟨rfl,hb8⟩
              have HB8:=Lib.hid (HB7.out.trans (hb8.mono HB7.out.size))
              have HR8:=Lib.hid (HR7.out.kept hb8)
              have HL8:=Lib.hid (HL7.out.below hb8)
              clear hb8
              go_wp2_with fail
              refine (mod_c88 HL8.out (by have:=HK.out;have:=HL.out;have:=HI.out;have:=HEE.out;omega) HB8.out.size ⟨(entN x).toArray⟩ (by have:=HTX.out;have:=HXO.out.2.2;show (entN x).length≤1000;omega) (HT.out.kept HB8.out)).mono ?_
              rintro e w9 ⟨rfl,hbl,hf⟩
              have HB9:=Lib.hid (HB8.out.trans hf.below)
              have HR9:=Lib.hid (HR8.out.write (by decide) (by decide) HL8.out hf.below.size hf)
              have HL9:=Lib.hid hbl
              clear hbl hf
              go_wp2_with fail
              refine ⟨⟨i+1,by have:=HI.out;omega,rfl,HR9.out,HL9.out.mono (by omega),HB9.out⟩,?_⟩
              show es.length - (intOf (.int .i64 ((i:Int)+1))).toNat<es.length - (intOf (.int .i64 (i:Int))).toNat
              simp only [intOf]
              have:=HI.out
              omega
            · have kl4:¬ (i:Int)<(es.length:Int):=by omega
              have HB7:=Lib.hid hb
              have HL7:=Lib.hid (hbl.mono (show k*10300000+7678153+i*10003≤k*10300000+10299000 by have:=HEE.out;omega))
              clear hb hbl hrt hil hi
              go_wp2_with fail
              refine (mod_write86 HL7.out ⟨#[124,32]⟩ (key_b2 (by have:=HK.out;have:=HL.out;omega)) HB7.out.size).mono ?_
              rintro e w8 ⟨rfl,hbl,hf⟩
              have HB8:=Lib.hid (HB7.out.trans hf.below)
              have HL8:=Lib.hid (hbl.mono (m':=(k+1)*10300000) (by have e:(⟨#[124,32]⟩:ByteArray).size=2:=rfl;omega))
              clear hbl hf
              go_wp2_with fail
              refine ⟨⟨k+1,by have:=HLT.out;omega,rfl,HL8.out,HB8.out⟩,?_⟩
              show L.length - (intOf (.int .i64 ((k:Int)+1))).toNat<L.length - (intOf (.int .i64 (k:Int))).toNat
              simp only [intOf]
              have:=HLT.out
              omega
    · have kl:¬ (k:Int)<(L.length:Int):=by omega
      clear hlt
      go_wp2_with fail
      obtain ⟨bs,hbs,hbn⟩:=HBL.out
      have HBS:=Lib.hid hbs
      have HSZ:=Lib.hid (key_max (bs:=bs) (by have:=HK.out;have:=HL.out;omega))
      clear hbs hbn
      refine (Tryz.Builder_String_any_f w.heap.size b bs wr HBS.out HB.out.size).mono ?_
      rintro e w3 ⟨rfl,_,hb3⟩
      have HB3:=Lib.hid (HB.out.trans hb3)
      clear hb3
      go_wp2_with fail
      go_ret
      exact ⟨_,rfl,HSZ.out,HB3.out⟩
end Go.Proofs.YtmdgeknnhckgfaaGreatDoor
namespace Go.Proofs.YtmdgeknnhckgfaaGreatDoor
open Go Go.RowKit
theorem key_all {T:Lib.PrintTabs} {w:World} (ht:Tabs T w) (nT:Nat) (h:nT≤100) (TA:Option Addr) (TC:Nat) (o:Cf):KeyAll w (cfArr (.slice TA nT TC) o) nT:=by
  intro W q N L d hb hm hok hl W' hb'
  subst hl
  exact mod_key ((ht.kept hb).kept hb') (hm.kept hb') hok h TA TC o
theorem check_parts {T:List Ten} (h:checkN T=0):(1≤T.length∧T.length≤16)∧∀ t∈T,t.name.size≤32∧t.key.size≤64∧0≤t.quota∧t.quota≤1048576:=by
  unfold checkN at h
  split at h
  · rename_i hc
    simp only [checkB,lenB,firstB,Bool.and_eq_true,decide_eq_true_eq,List.all_eq_true] at hc
    refine ⟨hc.1,fun t ht=>?_⟩
    have hm:=hc.2.1 t ht
    simp only [mayN,sizesB,Bool.and_eq_true,decide_eq_true_eq] at hm
    omega
  · cases h
theorem lok_new {T:List Ten} (h:checkN T=0):LOk 0 (newN T):=by
  intro x hx
  obtain ⟨t,ht,rfl⟩:=List.mem_map.1 hx
  have hq:=(check_parts h).2 t ht
  exact
    { q0:=hq.2.2.1
      q1:=hq.2.2.2
      sorted:=by simp [Sorted]
      toks:=by intro s hs;cases hs
      sizes:=by intro s hs;cases hs
      len:=Nat.le_refl _
      next0:=Nat.le_refl _
      next:=Nat.le_refl _
      ents:=Nat.le_refl _
      nums:=by intro i e he;simp at he }
end Go.Proofs.YtmdgeknnhckgfaaGreatDoor
