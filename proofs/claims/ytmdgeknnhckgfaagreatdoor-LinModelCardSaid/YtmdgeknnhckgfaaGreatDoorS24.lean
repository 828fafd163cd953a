/-
  Parts of the proof of the law LinModel: LOrd.
-/
import Derived.Test.YtmdgeknnhckgfaaGreatDoorS09
import Derived.Test.YtmdgeknnhckgfaaGreatDoorS22
import Derived.Carry
set_option linter.unusedSimpArgs false
set_option linter.unusedVariables false
namespace Go.Proofs.YtmdgeknnhckgfaaGreatDoor
open Go Go.RowKit
theorem Tryz.size46:(Tryz.prog.info? 46).map (·.size)=some 3:=by kernel_rfl
def ptsL (l:List Ask):List (Int×Value):=l.map fun x=>((x.pt:Nat),.bool true)
theorem ptsL_none {l:List Ask} {steps:Nat} (h:RecOk l steps) {k:Nat} {x:Ask} (hx:l[k]?=some x):findL (x.pt:Nat) (ptsL (l.take k)) 0=none:=by
  refine findL_none (fun y hy=>?_)
  unfold ptsL at hy
  rw [List.mem_map] at hy
  obtain ⟨z,hz,rfl⟩:=hy
  obtain ⟨j,hj⟩:=List.mem_iff_getElem?.1 hz
  rw [List.getElem?_take] at hj
  split at hj
  · rename_i hjk
    have:=h.rise j k z x hj hx hjk
    show ((z.pt:Nat):Int)≠(x.pt:Nat)
    omega
  · cases hj
theorem ptsL_snoc {l:List Ask} {k:Nat} {x:Ask} (hx:l[k]?=some x):ptsL (l.take (k+1))=ptsL (l.take k)++[(((x.pt:Nat):Int),Value.bool true)]:=by
  unfold ptsL
  rw [take_snoc hx,List.map_append]
  rfl
theorem Of.imap_ne {w:World} {k b:Nat} {t:TypeId} {l:List (Int×Value)} (h:Of w k t) (h':IMap w b l):k≠b:=by
  rintro rfl
  obtain ⟨c,f,h⟩:=h
  obtain ⟨es,cl,h2,_⟩:=h'
  rw [h] at h2
  cases h2
def ROr (w:World) (l:List Ask) (nb pb:Nat) (sv:Array Value) (iv:Value) (W:World):Prop :=
  ∃ k:Nat,k≤l.length∧iv=.int .i64 (k:Nat)∧IMap W nb (nextL 0 k)∧IMap W pb (ptsL (l.take k))∧Blk W w.heap.size sv 50∧Below w.heap.size w W
theorem ord_step {w4:World} {nb sb xb k:Nat} {pts:List (Int×Value)} {S X:Array Value} {pv:Int} (im1:IMap w4 nb (nextL 0 k)) (im2:IMap w4 (nb+1) pts) (hsv:Blk w4 sb S 50) (hx:Blk w4 xb X 55) (hn:findL pv pts 0=none) :
    ∃ w5 w6,(Instr.mapUpdate 116 (.map (some nb)) (.int .i64 0) (.int .i64 ((k:Int)+1))).run Tryz.prog w4=.ok () w5∧Blk w5 xb X 55∧Blk w5 sb S 50∧(Instr.lookup 117 (.map (some (nb+1))) (.int .i64 pv) false).run Tryz.prog w5=.ok (.bool false) w5 ∧
      (Instr.mapUpdate 117 (.map (some (nb+1))) (.int .i64 pv) (.bool true)).run Tryz.prog w5=.ok () w6∧IMap w6 nb (nextL 0 (k+1))∧IMap w6 (nb+1) (pts++[(pv,.bool true)])∧Blk w6 sb S 50∧w4.mapTurned w5 nb∧w5.mapTurned w6 (nb+1):=by
  obtain ⟨w5,hrun5,im5,tu5⟩:=next_step im1 Tryz.underlying116 Tryz.underlying3
  have o5:=turned_only tu5
  have k5:Blk w5 xb X 55:=(o5.block _ hx.lt ((show Of w4 xb 55 from ⟨_,_,hx⟩).imap_ne im1)).trans hx
  have hm25:IMap w5 (nb+1) pts:=im2.block (o5.block _ im2.lt (by omega))
  have hl2:=hm25.look Tryz.underlying117 Tryz.underlying3 (z:=.bool false) (fun w=>Tryz.zeroValue4 w) pv
  rw [hn] at hl2
  have s5:Blk w5 sb S 50:=(o5.block _ hsv.lt ((show Of w4 sb 50 from ⟨_,_,hsv⟩).imap_ne im1)).trans hsv
  obtain ⟨w6,hrun6,im6,tu6⟩:=hm25.put Tryz.underlying117 Tryz.underlying3 pv (.bool true) hn
  have o6:=turned_only tu6
  have s6:=(o6.block _ s5.lt ((show Of w5 sb 50 from ⟨_,_,s5⟩).imap_ne hm25)).trans s5
  exact ⟨w5,w6,hrun5,k5,s5,hl2,hrun6,im5.block (o6.block _ im5.lt (by omega)),im6,s6,tu5,tu6⟩
set_option maxRecDepth 100000 in
set_option maxHeartbeats 8000000 in
theorem mod_termOrdered (w:World) (v:Value) (l:List Ask) (LA:Option Addr) (LC steps:Nat) (hrec:RecOk l steps) (hr:Reads w v l.length 31 (askArgs l)) (hok:∀ x∈l,AskOk w x) :
    Calls Tryz.prog 27 #[.agg (svArr v LA LC steps)] w fun e w'=>e=.returned (.bool true)∧Below w.heap.size w w':=by
  obtain ⟨A,cap,rfl⟩:=hr.form
  have HR:=Lib.hid hr
  have HOK:=Lib.hid hok
  have HRC:=Lib.hid hrec
  have hlen:=hrec.len
  have hst:=Lib.hid hrec.st
  have b0:Below w.heap.size w (w.alloc (.cells (svArr (.slice A l.length cap) LA LC steps) 50)):=(Below.refl _ w).alloc (Nat.le_refl _) _
  have HD:=Lib.hid (mod_doubtful _ (.slice A l.length cap) l LA LC steps hlen (hr.kept b0) (fun x hx=>(hok x hx).kept b0))
  have HB0:=Lib.hid b0
  have HK0:=Lib.hid (Blk.new w (svArr (.slice A l.length cap) LA LC steps) 50)
  unfold svArr at HD HB0 HK0 ⊢
  clear hr hok hrec b0
  have hmm:=@run_makeMap Tryz.prog
  go_enter Tryz.func27,Tryz.ntmps27
  go_wp2_with fail
  refine HD.out.mono ?_
  rintro e w1 ⟨rfl,hb1⟩
  have HB1:=Lib.hid (HB0.out.trans (hb1.mono HB0.out.size))
  have HK1:=Lib.hid (HK0.out.kept hb1)
  have x1:=HK1.out.cell 1 (.slice A l.length cap) rfl
  clear hb1 HD HB0
  have i1:=(IMap.made w1).kept ((Below.refl _ _).alloc (Nat.le_refl _) (.map #[] 0))
  have i2:=IMap.made (w1.alloc (.map #[] 0))
  rw [World.size_alloc] at i2
  have hb2:Below w1.heap.size w1 ((w1.alloc (.map #[] 0)).alloc (.map #[] 0)):=((Below.refl _ _).alloc (Nat.le_refl _) (.map #[] 0)).alloc (by rw [World.size_alloc];omega) (.map #[] 0)
  have HK2:=Lib.hid (HK1.out.kept hb2)
  have HI1:=Lib.hid i1
  have HI2:=Lib.hid i2
  have HB2:=Lib.hid (HB1.out.trans (hb2.mono HB1.out.size))
  have hwz:=HB1.out.size
  obtain ⟨nb,hnb⟩:∃ x,w1.heap.size=x:=⟨_,rfl⟩
  rw [hnb] at HI1 HI2 hwz
  have hkl:=HK1.out.lt
  rw [hnb] at hkl
  have y1:=HK2.out.cell 1 (.slice A l.length cap) rfl
  clear i1 i2 hb2 HK1 HB1 x1
  go_wp2_with fail
  clear y1 hmm hnb
  go_loopw [21] (ROr w l nb (nb+1) #[.int .i64 0,.slice A l.length cap,.slice LA 8 LC,.int .i64 (steps:Nat),.int .u64 0]) (fun v _=>l.length - (intOf v).toNat)
  case atStart=>exact ⟨0,Nat.zero_le _,rfl,HI1.out,HI2.out,HK2.out,HB2.out⟩
  case round =>
    obtain ⟨k,hk,rfl,im1,im2,hsv,hb⟩:=hrel
    by_cases hlt:k<l.length
    · obtain ⟨x,hx⟩:=get_lt hlt
      obtain ⟨b,o,rfl,hbl,hrg⟩:=(HR.out.kept hb).ask_at hx
      have HRG:=Lib.hid hrg
      have hax:=(HOK.out x (List.mem_of_getElem? hx)).kept hb
      have HX:=Lib.hid hax
      have HB:=Lib.hid hb
      have HM1:=Lib.hid im1
      have HM2:=Lib.hid im2
      have HSV:=Lib.hid hsv
      have kl:(k:Int)<(l.length:Int):=by omega
      have pl:(x.pt:Int)<(steps:Int):=by have:=HRC.out.top x (List.mem_of_getElem? hx);omega
      have pb:=hax.pt
      have HN:=Lib.hid (HRC.out.nth k x hx)
      have HPN:=Lib.hid (ptsL_none HRC.out hx)
      have HPS:=Lib.hid (ptsL_snoc hx)
      obtain ⟨pv,hpv⟩:∃ pv,(x.pt:Nat)=pv:=⟨_,rfl⟩
      have HPV:=Lib.hid hpv
      rw [hpv] at pl pb HPN HPS
      clear hx hrg hb im1 im2 hsv hax hpv
      go_upto_region 12 with (first
        | (refine wpList_load_mid rfl 55 (Operand.tmp 23) rfl b (o+k*31) rfl (askCells x) _ HRG.out Tryz.underlying55 rfl (by exact Tryz.size55) ?_)
        | (refine wpList_store_new rfl 55 (Operand.tmp 6) (Operand.tmp 24) rfl rfl (askArr x) rfl (by exact Tryz.size55) rfl HX.out.one ?_;intro w4 hk4 hb4 hs4;have z0:=hk4.cell 0 (.int .i64 0) rfl;have z1:=hk4.cell 1 (.int .i64 (k:Nat)) (by rw [←HN.out];rfl);have HK4:=Lib.hid hk4;have HB4:=Lib.hid hb4;have hl1:=next_look (HM1.out.kept hb4) Tryz.underlying116 Tryz.underlying3 (fun w=>Tryz.zeroValue3 w);obtain ⟨w5,w6,hrun5,k5,s5,hl2,hrun6,im16,im26,s6,tu5,tu6⟩:=ord_step (HM1.out.kept hb4) (HM2.out.kept hb4) (HSV.out.kept hb4) hk4 HPN.out;have s3:=s5.cell 3 (.int .i64 (steps:Nat)) rfl;have y2:=k5.cell 2 (.int .i64 0) rfl;have y3:=k5.cell 3 (.int .i64 (pv:Nat)) (by rw [←HPV.out];rfl);have y4:=k5.cell 4 (.int .i64 (-1)) rfl;have HFIN:=Lib.hid (And.intro im16 (And.intro im26 (And.intro s6 (((HB.out.trans (HB4.out.mono HB.out.size)).trans (turned_below tu5 (B:=w.heap.size) (by omega))).trans (turned_below tu6 (B:=w.heap.size) (by omega))))));clear hk4 hb4 hs4 im16 im26 s6 tu5 tu6 k5 s5))
      go_wp2_with fail
      go_roundw
      case rel =>
        obtain ⟨h1,h2,h3,h4⟩:=HFIN.out
        exact ⟨k+1,hlt,rfl,h1,by rw [HPS.out];exact h2,h3,h4⟩
      case measure=>simp [intOf];omega
    · have hK:k=l.length:=by omega
      have kl:¬ (k:Int)<(l.length:Int):=by omega
      clear hK im1 im2 hsv
      go_wp2_with fail
      go_ret
      exact ⟨rfl,hb⟩
set_option maxRecDepth 100000 in
set_option maxHeartbeats 8000000 in
theorem mod_Order (w:World) (C:Array Value) (LB:Option Addr) (lc:Nat) (ta:Option Addr) (tc:Nat) (ev v:Value) (l:List Ask) (LA:Option Addr) (LC steps:Nat) (hrec:RecOk l steps)
    (ht:Reads w (.slice ta 1 tc) 1 5 (svArr v LA LC steps).toList) (hr:Reads w v l.length 31 (askArgs l)) (hok:∀ x∈l,AskOk w x) :
    Calls Tryz.prog 12 #[.agg C,.slice LB 1 lc,.agg (toArr (.slice ta 1 tc) ev)] w fun e w'=>e=.returned (.tuple #[.bool true,.int .i64 0])∧Below w.heap.size w w':=by
  obtain ⟨A,cap,rfl⟩:=hr.form
  have HT:=Lib.hid ht
  have HR:=Lib.hid hr
  have HOK:=Lib.hid hok
  have HRC:=Lib.hid hrec
  obtain ⟨tb,o,rfl,htl,hc⟩:=ht.some_at (by decide)
  have hb1:Below w.heap.size w (w.alloc (.cells C 28)):=(Below.refl _ w).alloc (Nat.le_refl _) _
  have hK:=Blk.new (w.alloc (.cells C 28)) (toArr (.slice (some ⟨tb,o,none⟩) 1 tc) ev) 46
  have hb2:Below w.heap.size w ((w.alloc (.cells C 28)).alloc (.cells (toArr (.slice (some ⟨tb,o,none⟩) 1 tc) ev) 46)):=hb1.alloc hb1.size _
  have t1:=hK.cell 1 (.slice (some ⟨tb,o,none⟩) 1 tc) rfl
  rw [World.size_alloc] at t1
  have HB2:=Lib.hid hb2
  clear ht hr hok hrec hb1 hK hb2 hc
  go_enter Tryz.func12,Tryz.ntmps12
  go_wp2_with fail
  generalize (w.alloc (.cells C 28)).alloc (.cells (toArr (.slice (some ⟨tb,o,none⟩) 1 tc) ev) 46)=W0 at t1 HB2 ⊢
  clear t1
  go_loopw [19] (RIdx0 w 1) (fun v _=>1 - (intOf v).toNat)
  case atStart=>exact ⟨0,Nat.zero_le _,rfl,HB2.out⟩
  case round =>
    obtain ⟨k,hk,rfl,hb⟩:=hrel
    by_cases hlt:k<1
    · have hk0:k=0:=by omega
      subst hk0
      have hrg:wr.rangeAt tb o (svArr (.slice A l.length cap) LA LC steps).toList:=by
        obtain ⟨b',o',e,_,h⟩:=(HT.out.kept hb).some_at (by decide)
        cases e
        exact h
      have HRG:=Lib.hid hrg
      have HB:=Lib.hid hb
      clear hrg hb
      go_wp2_with (first
        | (refine wpList_load_mid rfl 50 (Operand.tmp 22) rfl tb o rfl (svArr (.slice A l.length cap) LA LC steps).toList _ HRG.out Tryz.underlying50 rfl (by exact Tryz.size50) ?_)
        | (refine wpList_store_new rfl 50 (Operand.tmp 9) (Operand.tmp 23) rfl rfl (svArr (.slice A l.length cap) LA LC steps) rfl (by exact Tryz.size50) rfl (by simp [svArr,Value.oneCell']) ?_;intro w4 hk4 hb4 hs4;have HK4:=Lib.hid hk4;have HB4:=Lib.hid hb4;clear hk4 hb4 hs4)
        | (refine wpList_load_blk rfl 50 (Operand.tmp 9) rfl wr.heap.size rfl 50 _ _ HK4.out Tryz.underlying50 rfl (by exact Tryz.size50) ?_))
      have hb4:Below w.heap.size w w4:=HB.out.trans (HB4.out.mono HB.out.size)
      refine (mod_termOrdered w4 _ l LA LC steps HRC.out (HR.out.kept hb4) (fun x hx=>(HOK.out x hx).kept hb4)).mono ?_
      rintro e w5 ⟨rfl,hb5⟩
      have HB5:=Lib.hid (hb4.trans (hb5.mono hb4.size))
      clear hb4 hb5
      go_wp2_with fail
      go_roundw
      case rel=>exact ⟨1,Nat.le_refl _,rfl,HB5.out⟩
      case measure=>simp [intOf]
    · have hk1:k=1:=by omega
      subst hk1
      have HB:=Lib.hid hb
      clear hb
      go_wp2_with fail
      refine bodyPost_ret (results_tmp2 rfl _ _ _) rfl ?_
      exact ⟨rfl,HB.out⟩
set_option maxRecDepth 100000 in
set_option maxHeartbeats 8000000 in
theorem mod_Order0 (w:World) (C:Array Value) :
    Calls Tryz.prog 12 #[.agg C,.slice none 0 0,.agg (toArr (.slice none 0 0) (.slice none 0 0))] w fun e w'=>e=.returned (.tuple #[.bool true,.int .i64 0])∧Below w.heap.size w w':=by
  have hb1:Below w.heap.size w (w.alloc (.cells C 28)):=(Below.refl _ w).alloc (Nat.le_refl _) _
  have hK:=Blk.new (w.alloc (.cells C 28)) (toArr (.slice none 0 0) (.slice none 0 0)) 46
  have hb2:Below w.heap.size w ((w.alloc (.cells C 28)).alloc (.cells (toArr (.slice none 0 0) (.slice none 0 0)) 46)):=hb1.alloc hb1.size _
  have t1:=hK.cell 1 (.slice none 0 0) rfl
  rw [World.size_alloc] at t1
  have HB2:=Lib.hid hb2
  clear hb1 hK hb2
  go_enter Tryz.func12,Tryz.ntmps12
  go_wp2_with fail
  generalize (w.alloc (.cells C 28)).alloc (.cells (toArr (.slice none 0 0) (.slice none 0 0)) 46)=W0 at t1 HB2 ⊢
  clear t1
  go_loopw [19] (RIdx0 w 0) (fun v _=>0 - (intOf v).toNat)
  case atStart=>exact ⟨0,Nat.zero_le _,rfl,HB2.out⟩
  case round =>
    obtain ⟨k,hk,rfl,hb⟩:=hrel
    have hk0:k=0:=by omega
    subst hk0
    have HB:=Lib.hid hb
    clear hb
    go_wp2_with fail
    refine bodyPost_ret (results_tmp2 rfl _ _ _) rfl ?_
    exact ⟨rfl,HB.out⟩
end Go.Proofs.YtmdgeknnhckgfaaGreatDoor
