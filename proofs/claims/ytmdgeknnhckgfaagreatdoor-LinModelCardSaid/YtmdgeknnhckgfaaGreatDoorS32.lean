/-
  Parts of the proof of the law LinModel: MFrk, LSet.
-/
import Derived.Test.YtmdgeknnhckgfaaGreatDoorS00
import Derived.Test.YtmdgeknnhckgfaaGreatDoorS23
import Derived.Test.YtmdgeknnhckgfaaGreatDoorS26
import Derived.Test.YtmdgeknnhckgfaaGreatDoorS31
import Derived.Lib.LazyBuf
set_option linter.unusedSimpArgs false
set_option linter.unusedVariables false
namespace Go.Proofs.YtmdgeknnhckgfaaGreatDoor
open Go Go.RowKit
theorem Tryz.size125:(Tryz.prog.info? 125).map (·.size)=some 5:=by kernel_rfl
theorem entArgs_one (es:List Ent):∀ u∈entArgs es,u.oneCell'=true:=by
  intro u hu
  unfold entArgs at hu
  rw [List.mem_flatMap] at hu
  obtain ⟨x,_,hx⟩:=hu
  unfold entCells at hx
  simp at hx
  rcases hx with rfl | rfl | rfl | rfl<;>rfl
set_option maxRecDepth 100000 in
set_option maxHeartbeats 4000000 in
theorem mod_cloneE (w:World) (v:Value) (es:List Ent) (hl:es.length≤1000000) (hr:Reads w v es.length 4 (entArgs es)) :
    Calls Tryz.prog 59 #[v] w fun e w'=>∃ A' cap',e=.returned (.slice A' es.length cap')∧Reads w' (.slice A' es.length cap') es.length 4 (entArgs es)∧(∀ k,(Value.slice A' es.length cap').ownBlock=some k→Of w' k 103)∧es.length≤cap'∧Below w.heap.size w w':=by
  obtain ⟨i0,ii,iz0,iz1,iz2⟩:=info_parts Tryz.info103
  obtain ⟨A,cap,rfl⟩:=hr.form
  cases A with
  | none =>
    have h0:es.length=0:=by
      obtain ⟨_,_,A',cap',e',h3⟩:=hr
      rcases h3 with h3 | ⟨b,o,rfl,_⟩
      · exact h3
      · cases e'
    have hF:=Lib.hid hr
    have H0:=Lib.hid h0
    have heq0:=run_eql_slice_nil (P:=Tryz.prog) w 33 103 none es.length cap Tryz.underlying33
    clear hr h0
    go_enter Tryz.func59,Tryz.ntmps59
    go_wp2_with fail
    go_ret
    have h0:=H0.out
    refine ⟨none,0,by simp [h0],?_,(fun k hk=>by cases hk),by omega,Below.refl _ _⟩
    have:=(ReadsP.nil w (fun _=>False) 4).1
    have he:es=[]:=List.eq_nil_of_length_eq_zero h0
    subst he
    exact this
  | some ad =>
    have hx:(Value.slice (some ad) es.length cap=.slice none 0 0∧es.length=0)∨∃ ad' c,Value.slice (some ad) es.length cap=.slice (some ad') es.length c∧∀ j u,(entArgs es)[j]?=some u→(w.alloc (.cells #[] 103)).cell? (ad'.add j)=some u:=by
      refine .inr ⟨ad,cap,rfl,fun j u hj=>?_⟩
      have hb1:Below w.heap.size w (w.alloc (.cells #[] 103)):=(Below.refl _ w).alloc (Nat.le_refl _) _
      obtain ⟨b',o,e1,hlt,hc⟩:=(hr.kept hb1).some_at (by
        intro h0
        have he:es=[]:=List.eq_nil_of_length_eq_zero h0
        subst he
        simp [entArgs] at hj)
      injection e1 with e1
      subst e1
      rw [add_at rfl]
      exact hc j u hj
    have HX:=Lib.hid hx
    have OW:(w.alloc (.cells #[] 103)).ownsRow w.heap.size 103 4 (.slice (some ⟨w.heap.size,0,none⟩) 0 0) 0 []:=World.ownsRow_made w #[] 0 (Nat.le_refl _) (by unfold maxLen;omega) rfl
    have HOW:=Lib.hid OW
    have HL:=Lib.hid (entArgs_len es)
    have p1:=Lib.hid (show 0+es.length≤maxLen by unfold maxLen;omega)
    have p2:=Lib.hid (show (0+es.length)*40≤140737488355328 by omega)
    have p3:=Lib.hid (show w.heap.size≤(w.alloc (.cells #[] 103)).heap.size by rw [World.size_alloc];omega)
    have H1:=Lib.hid (entArgs_one es)
    have HB0:=Lib.hid ((Below.refl _ w).alloc (Nat.le_refl _) (.cells #[] 103))
    have heq0:=run_eql_slice_nil (P:=Tryz.prog) w 33 103 (some ad) es.length cap Tryz.underlying33
    clear hr hx OW
    go_enter Tryz.func59,Tryz.ntmps59
    go_wp2_with (at_builtin;refine wpList_append_any rfl _ _ 33 rfl w.heap.size 103 i0 _ 4 40 Tryz.underlying33 ii iz0 iz1 iz2 rfl (by decide) _ _ _ _ rfl HOW.out es.length (entArgs es) HL.out HX.out H1.out p1.out p2.out p3.out ?_)
    intro g' cap' w2 own2 hgr hfr
    have HO2:=Lib.hid own2
    have hb2:=Lib.hid (HB0.out.grown hgr p3.out (fun j hj=>(HOW.out.lt j hj).1))
    clear own2 hgr hfr
    go_wp2_with fail
    go_ret
    refine ⟨some ⟨g',0,none⟩,cap',rfl,Reads.of_own HO2.out,?_,own_cap HO2.out,hb2.out⟩
    intro k hk
    obtain ⟨cc,hcc⟩:=own_typed HO2.out hk
    exact ⟨cc,_,hcc⟩
variable {w w':World} {p N:Nat} {L:List Hs} {d:MD}
def RFk (w:World) (q N:Nat) (L:List Hs) (iv:Value) (W:World):Prop :=
  ∃ (k:Nat) (hb mb:Nat→Nat) (ev:Nat→Value) (pv:Value),k≤L.length∧iv=.int .i64 (k:Nat)∧PIs W w.heap.size q N (L.take k) hb mb ev pv∧Below w.heap.size w W
set_option maxRecDepth 100000 in
set_option maxHeartbeats 4000000 in
theorem mod_Fork (r:MIs w p N L d) (h0:0<L.length) (hl:L.length≤100) (hents:∀ (i:Nat) h,L[i]?=some h→h.ents.length≤1000000) :
    Calls Tryz.prog 54 #[.pointer (some ⟨p,0,none⟩)] w fun e w'=>∃ p' d',e=.returned (.pointer (some ⟨p',0,none⟩))∧MIs w' p' N L d'∧w.heap.size≤p'∧(∀ k,d'.own L.length k→w.heap.size≤k)∧Below w.heap.size w w':=by
  obtain ⟨i0,ii,iz0,iz1,iz2⟩:=info_parts Tryz.info121
  have HR:=Lib.hid r
  have HE:=Lib.hid hents
  have c0:(w.alloc (.cells #[.slice none 0 0] 120)).cell? ⟨p,0,none⟩=some (.slice (some ⟨d.g,0,none⟩) L.length d.cap):=(r.alloc _).hp.cell 0 _ rfl
  have HBX:=Lib.hid (Blk.new w #[.slice none 0 0] 120)
  have HB0:=Lib.hid ((Below.refl _ w).alloc (Nat.le_refl _) (.cells #[.slice none 0 0] 120))
  obtain ⟨q,hq⟩:∃ x,w.heap.size=x:=⟨_,rfl⟩
  have HQ:=Lib.hid hq
  clear r hents hq
  go_enter Tryz.func54,Tryz.ntmps54
  go_wp2_with fail
  clear c0
  go_loopw [16] (RFk w w.heap.size N L) (fun v _=>L.length - (intOf v).toNat)
  case atStart=>exact ⟨0,fun _=>0,fun _=>0,fun _=>.slice none 0 0,_,Nat.zero_le _,rfl,PIs.none HBX.out,HB0.out⟩
  case round =>
    obtain ⟨k,hb,mb,ev,pv,hk,rfl,hp,hbw⟩:=hrel
    by_cases hlt:k<L.length
    · have kl:(k:Int)<(L.length:Int):=by omega
      obtain ⟨h,hh⟩:=get_lt hlt
      have rr:=HR.out.kept hbw
      obtain ⟨cur,hgb,hgc⟩:=rr.hg
      have cg:=hgb.cell k _ (hgc k hlt)
      have KH:=rr.hh k h hh
      obtain ⟨n0,hn0,hm0⟩:=rr.hm k h hh
      have hev:=rr.he k h hh
      obtain ⟨A,cap,hevf⟩:=hev.form
      rw [hevf] at KH
      have c1:=KH.cell 1 (.map (some (d.mb k))) rfl
      have hkl:(L.take k).length=k:=by rw [List.length_take];omega
      obtain ⟨A2,cap2,rfl⟩:=own_form hp.hrow
      rw [hkl] at hp
      have HH:=Lib.hid hh
      have HPP:=Lib.hid hp
      have HBB:=Lib.hid hbw
      have HKH:=Lib.hid KH
      have HM0:=Lib.hid hm0
      have HN0:=Lib.hid hn0
      have HRR:=Lib.hid rr
      have HEV:=Lib.hid hevf
      have HKL:=Lib.hid hkl
      have HHN:=Lib.hid (HE.out k h hh)
      clear hh hp hbw KH hm0 hn0 rr hgb hgc hev hevf hkl
      go_wp2_with (first
        | (refine wpList_load_blk rfl 125 (Operand.tmp 21) rfl (d.hb k) rfl 125 _ _ HKH.out Tryz.underlying125 rfl (by exact Tryz.size125) ?_)
        | (refine wpList_store_new rfl 125 (Operand.tmp 6) (Operand.tmp 22) rfl rfl (hsArr h (d.mb k) (.slice A h.ents.length cap)) rfl (by exact Tryz.size125) rfl (by simp [hsArr,Value.oneCell']) ?_;intro w4 hk4 hb4 hs4;have HK4:=Lib.hid hk4;have HB4:=Lib.hid hb4;have c1':=cell_keep hb4 c1;clear hk4 hb4 hs4 c1 cg))
      have hM4:=HM0.out.kept HB4.out
      refine (Tryz.maps_Clone_71 RSes (d.mb k) n0 (sesD h.ses) w4 hM4).mono ?_
      rintro e w5 ⟨rfl,sn,so,hb5⟩
      obtain ⟨nb,hnb⟩:∃ x,wr.heap.size=x:=⟨_,rfl⟩
      obtain ⟨mn,hmn⟩:∃ x,w4.heap.size=x:=⟨_,rfl⟩
      have hnm:nb<mn:=by rw [←hnb,←hmn];exact HK4.out.lt
      have hK5:=HK4.out.kept hb5
      have SN:SMap w5 mn n0 h.ses:=by rw [←hmn];exact sn
      have hB5:Below wr.heap.size wr w5:=HB4.out.trans (hb5.mono HB4.out.size)
      have hhk:d.hb k<wr.heap.size:=HKH.out.lt
      rw [hnb] at hK5 hhk
      have y1:=hK5.cell 1 (.map (some (d.mb k))) rfl
      have f1:=hK5.frozen 1
      have hK6:Blk (w5.setCell ⟨nb,1,none⟩ (.map (some mn))) nb #[.int .i64 h.quota,.map (some mn),.int .i64 (h.next:Nat),.slice A h.ents.length cap,.string ⟨(headN h.ents).toArray⟩] 125:=hK5.setCell 1 _
      have SN6:SMap (w5.setCell ⟨nb,1,none⟩ (.map (some mn))) mn n0 h.ses:=SN.block ((only_set w5 nb 1 _).block mn SN.lt (by omega))
      have hB6:Below wr.heap.size wr (w5.setCell ⟨nb,1,none⟩ (.map (some mn))):=hB5.setCell (show wr.heap.size≤(⟨nb,1,none⟩:Addr).block from by show wr.heap.size≤nb;omega) _
      have v3:(w5.setCell ⟨nb,1,none⟩ (.map (some mn))).cell? ⟨d.hb k,3,none⟩=some (.slice A h.ents.length cap):=cell_keep hB6 (HKH.out.cell 3 _ rfl)
      have v3':=cell_keep hB5 (HKH.out.cell 3 (.slice A h.ents.length cap) rfl)
      rw [hnb,hmn]
      have HK6:=Lib.hid hK6
      have HSN6:=Lib.hid SN6
      have HB6:=Lib.hid hB6
      have hnbv:=Lib.hid hnb
      have HHK:=Lib.hid hhk
      clear sn so hb5 hK5 SN hB5 hK6 SN6 hB6 hM4 HK4 HB4 c1' hmn hnb hhk
      go_wp2_with fail
      clear v3' y1 f1
      generalize w5.setCell ⟨nb,1,none⟩ (.map (some mn))=W6 at HK6 HSN6 HB6 v3 ⊢
      have hR6:Reads W6 (.slice A h.ents.length cap) h.ents.length 4 (entArgs h.ents):=by
        have:=((HRR.out.kept HB6.out).he k h HH.out)
        rw [HEV.out] at this
        exact this
      refine (mod_cloneE W6 _ h.ents HHN.out hR6).mono ?_
      rintro e w7 ⟨A7,cap7,rfl,hr7,ht7,hc7,hb7⟩
      have hK7:=HK6.out.kept hb7
      have y3:=hK7.cell 3 (.slice A h.ents.length cap) rfl
      have f3:=hK7.frozen 3
      have hK8:Blk (w7.setCell ⟨nb,3,none⟩ (.slice A7 h.ents.length cap7)) nb (hsArr h mn (.slice A7 h.ents.length cap7)) 125:=hK7.setCell 3 _
      have o8:=only_set w7 nb 3 (.slice A7 h.ents.length cap7)
      have hSN7:=HSN6.out.kept hb7
      have onb:Of w7 nb 125:=⟨_,_,hK7⟩
      have hSN8:SMap (w7.setCell ⟨nb,3,none⟩ (.slice A7 h.ents.length cap7)) mn n0 h.ses:=hSN7.block (o8.block mn hSN7.lt (by omega))
      have hr8:Reads (w7.setCell ⟨nb,3,none⟩ (.slice A7 h.ents.length cap7)) (.slice A7 h.ents.length cap7) h.ents.length 4 (entArgs h.ents):=Reads.block hr7 o8.size (fun b hb=>o8.block b (ht7 b hb).lt (fun e=>by subst e;exact (ht7 _ hb).ne onb (by decide) rfl))
      have ht8:∀ k',(Value.slice A7 h.ents.length cap7).ownBlock=some k'→Of (w7.setCell ⟨nb,3,none⟩ (.slice A7 h.ents.length cap7)) k' 103:=fun b hb=>(ht7 b hb).block (o8.block b (ht7 b hb).lt (fun e=>by subst e;exact (ht7 _ hb).ne onb (by decide) rfl))
      have hB7:Below wr.heap.size wr w7:=HB6.out.trans (hb7.mono HB6.out.size)
      have hB8:Below wr.heap.size wr (w7.setCell ⟨nb,3,none⟩ (.slice A7 h.ents.length cap7)):=hB7.setCell (show wr.heap.size≤(⟨nb,3,none⟩:Addr).block from by show wr.heap.size≤nb;have:=hnbv.out;omega) _
      have P8:=HPP.out.kept hB8
      have u0:=P8.hp.cell 0 (.slice A2 k cap2) rfl
      have u0':=(HPP.out.kept hB7).hp.cell 0 (.slice A2 k cap2) rfl
      have hqn:w.heap.size≤wr.heap.size:=HBB.out.size
      have HK8:=Lib.hid hK8
      have HSN8:=Lib.hid hSN8
      have HR8:=Lib.hid hr8
      have HT8:=Lib.hid ht8
      have HB8:=Lib.hid hB8
      have HP8:=Lib.hid P8
      have q1:=Lib.hid (show k+1≤maxLen by unfold maxLen;omega)
      have q2:=Lib.hid (show (k+1)*8≤140737488355328 by omega)
      have HRW8:=P8.hrow
      rw [HKL.out] at HRW8
      replace HRW8:=Lib.hid HRW8
      have hsz8:=hB8.size
      have hpn:=Lib.hid (show ¬ w.heap.size=nb by have:=hnbv.out;have:=HPP.out.hp.lt;omega)
      clear hK7 hK8 o8 hSN7 onb hSN8 hr7 hr8 ht7 ht8 hB7 hB8 P8 hb7 HK6 HSN6 HB6 v3 hR6
      have u00:(w7.setCell ⟨nb,3,none⟩ (.slice A7 h.ents.length cap7)).cell? ⟨w.heap.size,0,none⟩=some (.slice A2 k cap2):=u0
      go_upto_region 10 with fail
      clear y3 f3 u0'
      generalize w7.setCell ⟨nb,3,none⟩ (.slice A7 h.ents.length cap7)=W8 at HK8 HSN8 HR8 HT8 HB8 HP8 HRW8 u0 u00 hsz8 ⊢
      have q3:=Lib.hid (show w.heap.size≤W8.heap.size+1 by omega)
      clear hsz8 hqn
      go_wp2_with (at_builtin;refine wpList_append_row rfl _ _ 118 rfl w.heap.size 121 i0 _ 1 8 Tryz.underlying118 ii iz0 iz1 iz2 rfl (by decide) _ _ _ rfl (HRW8.out.alloc _) ⟨W8.heap.size,0,none⟩ 1 1 [.pointer (some ⟨nb,0,none⟩)] rfl rfl (cells_new W8 [.pointer (some ⟨nb,0,none⟩)] 121) (by simp [Value.oneCell']) q1.out q2.out (by rw [World.size_alloc];exact q3.out) ?_)
      intro v' w9 own9 hgr hfr
      obtain ⟨A3,cap3,rfl⟩:=own_form own9
      have B1:Below W8.heap.size W8 (W8.alloc (.cells #[.pointer (some ⟨nb,0,none⟩)] 121)):=(Below.refl _ W8).alloc (Nat.le_refl _) _
      have P9:=HP8.out.kept B1
      have PR9:=P9.hrow
      rw [HKL.out] at PR9
      have KN9:=HK8.out.kept B1
      have SN9:=HSN8.out.kept B1
      have R9:=HR8.out.kept B1
      have T9:∀ k',(Value.slice A7 h.ents.length cap7).ownBlock=some k'→Of (W8.alloc (.cells #[.pointer (some ⟨nb,0,none⟩)] 121)) k' 103:=fun b hb=>(HT8.out b hb).block (B1.block b (HT8.out b hb).lt)
      have hz9:W8.heap.size≤(W8.alloc (.cells #[.pointer (some ⟨nb,0,none⟩)] 121)).heap.size:=B1.size
      have hb9:Below w.heap.size w (W8.alloc (.cells #[.pointer (some ⟨nb,0,none⟩)] 121)):=(HBB.out.trans (HB8.out.mono HBB.out.size)).trans (B1.mono (by have:=HB8.out.size;have:=HBB.out.size;omega))
      have hz9':w.heap.size≤(W8.alloc (.cells #[.pointer (some ⟨nb,0,none⟩)] 121)).heap.size:=hb9.size
      generalize W8.alloc (.cells #[.pointer (some ⟨nb,0,none⟩)] 121)=V at own9 hgr P9 PR9 KN9 SN9 R9 T9 hz9 hb9 hz9'
      have tyn:∀ j t,Of V j t→t≠121→some j≠(Value.slice A2 k cap2).ownBlock:=by
        intro j t hj hn e
        obtain ⟨cc,hcc⟩:=own_typed PR9 e.symm
        exact hj.ne (show Of V j 121 from ⟨cc,_,hcc⟩) hn rfl
      have kp:Blk w9 w.heap.size #[.slice A2 k cap2] 120:=(hgr.block _ P9.hp.lt (tyn _ 120 ⟨_,_,P9.hp⟩ (by decide))).trans P9.hp
      have g1:=kp.cell 0 (.slice A2 k cap2) rfl
      have f6:=kp.frozen 0
      have hrow7:=own_set own9 kp (by decide) 0 (.slice A3 (k+1) cap3)
      have hp7:Blk (w9.setCell ⟨w.heap.size,0,none⟩ (.slice A3 (k+1) cap3)) w.heap.size #[.slice A3 (k+1) cap3] 120:=kp.setCell 0 _
      have hsame:∀ k',k'<V.heap.size→¬ Of V k' 121→¬ k'=w.heap.size→(w9.setCell ⟨w.heap.size,0,none⟩ (.slice A3 (k+1) cap3)).heap[k']?=V.heap[k']?:=by
        intro k' hk' hno hne
        rw [(only_set w9 w.heap.size 0 _).block k' (Nat.lt_of_lt_of_le hk' hgr.size) hne]
        exact hgr.block k' hk' (fun e=>by
          obtain ⟨cc,hcc⟩:=own_typed PR9 e.symm
          exact hno ⟨cc,_,hcc⟩)
      have hsz:V.heap.size≤(w9.setCell ⟨w.heap.size,0,none⟩ (.slice A3 (k+1) cap3)).heap.size:=Nat.le_trans hgr.size (only_set w9 w.heap.size 0 _).size
      have b7:Below w.heap.size w (w9.setCell ⟨w.heap.size,0,none⟩ (.slice A3 (k+1) cap3)) :=
        (hb9.grown hgr hz9' (fun j hj=>(PR9.lt j hj).1)).setCell (show w.heap.size≤(⟨w.heap.size,0,none⟩:Addr).block from Nat.le_refl _) _
      have P7:=P9.push (h:=h) (nb:=nb) (mn:=mn) (en:=.slice A7 h.ents.length cap7) (pv':=.slice A3 (k+1) cap3) hsz hsame hp7 (by rw [HKL.out];exact hrow7) KN9 ⟨n0,HN0.out,SN9⟩ R9 T9 (fun A n c e=>by cases e;exact hc7)
        (fun i hi=>by have:=(HPP.out.lt hi).1;have:=hnbv.out;omega) (fun i hi=>by have:=(HPP.out.lt hi).2;have:=hnbv.out;omega) (by have:=hnbv.out;have:=HBB.out.size;omega) (by have:=hnbv.out;have:=HBB.out.size;omega)
      have HP7:=Lib.hid P7
      have HB7:=Lib.hid b7
      clear P7 b7 hsz hsame hp7 hrow7 kp tyn own9 hgr hfr P9 PR9 KN9 SN9 R9 T9 hz9 hb9 hz9' B1 u0 u00
      go_wp2_with fail
      go_roundw
      case rel=>exact ⟨k+1,_,_,_,_,hlt,rfl,by rw [take_snoc HH.out];exact HP7.out,HB7.out⟩
      case measure=>simp [intOf];omega
    · have hK:k=L.length:=by omega
      have kl:¬ (k:Int)<(L.length:Int):=by omega
      rw [hK,List.take_length] at hp
      have HPP:=Lib.hid hp
      have HBB:=Lib.hid hbw
      clear hp hbw hK
      go_wp2_with fail
      go_ret
      obtain ⟨d',hd,hdB⟩:=HPP.out.whole h0
      exact ⟨w.heap.size,rfl,d',hd,Nat.le_refl _,hdB,HBB.out⟩
end Go.Proofs.YtmdgeknnhckgfaaGreatDoor
namespace Go.Proofs.YtmdgeknnhckgfaaGreatDoor
open Go Go.RowKit
theorem thr_set:∀ (l:List Ask) (L0 L:List Hs) (kk:Nat) (x x':Ask),thrN L0 l=some L→l[kk]?=some x→x'.call=x.call→x'.tick=x.tick→thrN L0 (l.set kk x')=if x.ans=x'.ans then some L else none
  | [],_,_,_,_,_,_,h,_,_=>by simp at h
  | y::l,L0,L,0,x,x',h,hx,hc,ht=>by
    simp at hx
    subst hx
    unfold thrN at h
    split at h
    · rename_i he
      show (if (doN L0 x'.call x'.tick).1.ag=x'.ans then thrN (doN L0 x'.call x'.tick).2 l else none)=_
      rw [hc,ht,he,h]
    · cases h
  | y::l,L0,L,kk+1,x,x',h,hx,hc,ht=>by
    unfold thrN at h
    split at h
    · rename_i he
      rw [pu3]
      unfold thrN
      rw [if_pos he]
      exact thr_set l _ L kk x x' h (by simpa using hx) hc ht
    · cases h
theorem only_setCells (b:Nat):∀ (vs:List Value) (o:Nat) (w:World),Only (fun k=>k=b) w (w.setCells b o vs)
  | [],_,w=>Only.refl _ w
  | v::r,o,w=>by
    rw [World.setCells]
    exact (Only.setCell (S:=fun k=>k=b) (Only.refl _ w) (.inl rfl) o v).trans (only_setCells b r (o+1) _)
def Ask.told (x:Ask) (a:AG) (tv ev:Value):Ask:={ x with ans:=a,tv:=tv,ev:=ev }
theorem ask_set {w:World} {b o0 k cap kk:Nat} {l:List Ask} {x:Ask} {a:AG} {tv ev:Value} (h:Reads w (.slice (some ⟨b,o0,none⟩) k cap) k 31 (askArgs l)) (hx:l[kk]?=some x) :
    Reads (w.setCells b (o0+kk*31+15) (agArr a tv ev).toList) (.slice (some ⟨b,o0,none⟩) k cap) k 31 (askArgs (l.set kk (x.told a tv ev))):=by
  have hl:=h.1
  rw [askArgs_len] at hl
  have hkl:=(List.getElem?_eq_some_iff.1 hx).1
  obtain ⟨b',o',e,hb,hc⟩:=h.some_at (by omega)
  cases e
  refine ⟨by rw [askArgs_len,List.length_set];exact hl,h.2.1,_,_,rfl,.inr ⟨b,o0,rfl,Nat.lt_of_lt_of_le hb (only_setCells b _ _ w).size,fun j u hj=>?_⟩⟩
  obtain ⟨y,h1,h2⟩:=flatMap_get (k:=31) (by decide) askCells_len _ _ _ hj
  have hj31:j % 31<31:=Nat.mod_lt _ (by decide)
  have hdm:=Nat.div_add_mod j 31
  have hold:∀ z,l[j / 31]?=some z→∀ v,(askCells z)[j % 31]?=some v→w.cell? ⟨b,o0+j,none⟩=some v:=by
    intro z hz v hv
    refine hc j v ?_
    have:=flatMap_at (f:=askCells) (k:=31) askCells_len l (j / 31) z hz (j % 31) hj31
    rw [show j / 31*31+j % 31=j by omega] at this
    exact this.trans hv
  by_cases he:j / 31=kk
  · rw [he,List.getElem?_set_self hkl] at h1
    obtain rfl:=Option.some.inj h1
    by_cases hm:15≤j % 31∧j % 31<29
    · have e1:(askCells (x.told a tv ev))[j % 31]?=(agArr a tv ev).toList[j % 31 - 15]?:=by
        have:((askCells (x.told a tv ev)).drop 15).take 14=(agArr a tv ev).toList:=rfl
        rw [←this,List.getElem?_take_of_lt (by omega),List.getElem?_drop,show 15+(j % 31 - 15)=j % 31 by omega]
      rw [e1] at h2
      have hlt:j % 31 - 15<(agArr a tv ev).toList.length:=by show _<14;omega
      rw [show o0+j=o0+kk*31+15+(j % 31 - 15) by omega,World.cell?_setCells_in b _ _ w ?_ _ hlt,←h2,List.getElem?_eq_getElem hlt]
      intro i hi
      have hi14:i<14:=hi
      have hx31:15+i<(askCells x).length:=by rw [askCells_len];omega
      have:=hc (kk*31+(15+i)) _ ((flatMap_at (f:=askCells) (k:=31) askCells_len l kk x hx (15+i) (by omega)).trans (List.getElem?_eq_getElem hx31))
      rw [show o0+kk*31+15+i=o0+(kk*31+(15+i)) by omega,this]
      rfl
    · rw [World.cell?_setCells_out b _ _ w ⟨b,o0+j,none⟩ (fun _ _=>by
        show o0+j<o0+kk*31+15∨o0+kk*31+15+14≤o0+j
        omega)]
      refine hold x (by rw [he];exact hx) u ?_
      by_cases h15:j % 31<15
      · have:(askCells (x.told a tv ev)).take 15=(askCells x).take 15:=rfl
        rw [←List.getElem?_take_of_lt h15,←this,List.getElem?_take_of_lt h15]
        exact h2
      · have:(askCells (x.told a tv ev)).drop 29=(askCells x).drop 29:=rfl
        rw [show j % 31=29+(j % 31 - 29) by omega,←List.getElem?_drop,←this,List.getElem?_drop,show 29+(j % 31 - 29)=j % 31 by omega]
        exact h2
  · rw [List.getElem?_set_ne (fun e=>he e.symm)] at h1
    rw [World.cell?_setCells_out b _ _ w ⟨b,o0+j,none⟩ (fun _ _=>by
      show o0+j<o0+kk*31+15∨o0+kk*31+15+14≤o0+j
      omega)]
    exact hold y h1 u h2
theorem recok_of {l:List Ask} {steps:Nat} (nums:∀ (i:Nat) x,l[i]?=some x→x.nth=i∧x.pt=i) (hk:l.length≤1000) (hs:l.length≤steps) (hst:steps≤9223372036854775807):RecOk l steps where
  len:=hk
  nth:=fun i x hx=>(nums i x hx).1
  rise:=fun i j x y hx hy hij=>by rw [(nums i x hx).2,(nums j y hy).2];exact hij
  top:=fun x hx=>by
    obtain ⟨i,hi⟩:=List.mem_iff_getElem?.1 hx
    have hil:=(List.getElem?_eq_some_iff.1 hi).1
    rw [(nums i x hi).2]
    omega
  st:=hst
theorem nums_set {l:List Ask} {kk:Nat} {x:Ask} {a:AG} {tv ev:Value} (nums:∀ (i:Nat) x,l[i]?=some x→x.nth=i∧x.pt=i) (hx:l[kk]?=some x):∀ (i:Nat) y,(l.set kk (x.told a tv ev))[i]?=some y→y.nth=i∧y.pt=i:=by
  intro i y hy
  by_cases h:kk=i
  · subst h
    rw [List.getElem?_set_self (List.getElem?_eq_some_iff.1 hx).1] at hy
    obtain rfl:=Option.some.inj hy
    exact nums kk x hx
  · rw [List.getElem?_set_ne h] at hy
    exact nums i y hy
end Go.Proofs.YtmdgeknnhckgfaaGreatDoor
