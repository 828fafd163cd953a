/-
  Parts of the proof of the law LinModel: MNew.
-/
import Derived.Test.YtmdgeknnhckgfaaGreatDoorS09
import Derived.Test.YtmdgeknnhckgfaaGreatDoorS30
set_option linter.unusedSimpArgs false
set_option linter.unusedVariables false
namespace Go.Proofs.YtmdgeknnhckgfaaGreatDoor
open Go Go.RowKit
theorem conv32 (W:World) (b:Nat) (hb:Blk W b (bv zeros32).toArray 5):(convert 123 9 (.slice (some ⟨b,0,none⟩) 32 32)).run Tryz.prog W=.ok (.string ⟨zeros32.toArray⟩) W:=by
  have e2:∀ i,i<32→(List.replicate 32 (0:Int)).getD i 0=0:=by decide
  have e3:∀ i,i<32→(bv zeros32).toArray[i]?=some (.int .u8 0):=by
    intro i hi
    have e:bv zeros32=List.replicate 32 (Value.int .u8 0):=rfl
    rw [e,ga1,List.getElem?_replicate,if_pos hi]
  have:=run_convert_bytes_arg (P:=Tryz.prog) W 123 5 Tryz.underlying123 Tryz.underlying5 b 0 32 32 (List.replicate 32 (0:Int)) rfl (fun i hi=>by
    rw [e2 i hi,Nat.zero_add]
    exact hb.cell _ _ (e3 i hi)) 9 Tryz.underlying9
  exact this
def RNw2 (w:World) (l:List Ten) (p:Nat) (iv:Value) (W:World):Prop :=
  ∃ (k:Nat) (hb mb:Nat→Nat) (ev:Nat→Value) (pv:Value),k≤l.length∧iv=.int .i64 (k:Nat)∧PIs W w.heap.size p 0 (newN (l.take k)) hb mb ev pv∧Below w.heap.size w W
theorem newN_len (l:List Ten):(newN l).length=l.length:=by unfold newN;rw [List.length_map]
theorem newN_snoc {l:List Ten} {k:Nat} {t:Ten} (h:l[k]?=some t):newN (l.take (k+1))=newN (l.take k)++[⟨t.quota,[],1,[]⟩]:=by
  unfold newN
  rw [take_snoc h,List.map_append]
  rfl
set_option maxRecDepth 100000 in
set_option maxHeartbeats 4000000 in
theorem mod_NewW (v:Value) (l:List Ten) (hs:∀ t∈l,t.name.size≤maxLen) (w:World) (hr:Reads w v l.length 3 (tenArgs l)) :
    Calls Tryz.prog 30 #[v] w fun e w'=>Below w.heap.size w w'∧((checkN l≠0∧e=.returned (.tuple #[.pointer none,.int .i64 (checkN l)])) ∨
      (checkN l=0∧∃ p d,e=.returned (.tuple #[.pointer (some ⟨p,0,none⟩),.int .i64 0])∧MIs w' p 0 (newN l) d∧w.heap.size≤p∧(∀ k,d.own l.length k→w.heap.size≤k))):=by
  obtain ⟨i0,ii,iz0,iz1,iz2⟩:=info_parts Tryz.info121
  have HC:=Lib.hid (mod_Check v l hs w hr)
  obtain ⟨A,cap,rfl⟩:=hr.form
  have HRR:=Lib.hid hr
  clear hr hs
  by_cases hck:checkB l=true
  · have h0:checkN l=0:=by unfold checkN;rw [if_pos hck]
    have hll:1≤l.length∧l.length≤16:=by
      unfold checkB at hck
      simp [lenB] at hck
      omega
    have H0:=Lib.hid h0
    rw [h0] at HC
    clear h0 hck
    go_enter Tryz.func30,Tryz.ntmps30
    go_wp2_with fail
    refine HC.out.mono ?_
    rintro e w1 ⟨rfl,hb1⟩
    have hbx:=Blk.new w1 #[.slice none 0 0] 120
    have hb2:Below w.heap.size w (w1.alloc (.cells #[.slice none 0 0] 120)):=hb1.alloc hb1.size _
    have HBX:=Lib.hid hbx
    have HB2:=Lib.hid hb2
    have HPB:=Lib.hid hb1.size
    clear hbx hb2 hb1 HC
    go_wp2_with fail
    obtain ⟨p,hpe⟩:∃ x,w1.heap.size=x:=⟨_,rfl⟩
    rw [hpe] at HBX HPB ⊢
    go_loopw [17] (RNw2 w l p) (fun v _=>l.length - (intOf v).toNat)
    case atStart=>exact ⟨0,fun _=>0,fun _=>0,fun _=>.slice none 0 0,_,Nat.zero_le _,rfl,PIs.none HBX.out,HB2.out⟩
    case round =>
      obtain ⟨k,hb,mb,ev,pv,hk,rfl,hp,hbw⟩:=hrel
      by_cases hlt:k<l.length
      · have kl:(k:Int)<(l.length:Int):=by omega
        obtain ⟨t,ht⟩:=get_lt hlt
        obtain ⟨tb,o,rfl,hbl,c0,c1,c2⟩:=(HRR.out.kept hbw).ten_at ht
        obtain ⟨A2,cap2,rfl⟩:=own_form hp.hrow
        have HT:=Lib.hid ht
        have HPP:=Lib.hid hp
        have HBB:=Lib.hid hbw
        have hkl:(newN (l.take k)).length=k:=by rw [newN_len,List.length_take];omega
        have HKL:=Lib.hid hkl
        clear ht hp hbw hkl
        go_wp2_with fail
        have q4:(k:Int)<100:=by omega
        have HTB:=Lib.hid (Blk.new wr #[.string t.name,.string t.key,.int .i64 t.quota] 94)
        have HP1:=Lib.hid (HPP.out.kept ((Below.refl _ wr).alloc (Nat.le_refl _) (.cells #[.string t.name,.string t.key,.int .i64 t.quota] 94)))
        have HBW:=Lib.hid (HBB.out.alloc HBB.out.size (.cells #[.string t.name,.string t.key,.int .i64 t.quota] 94))
        have HW1:=Lib.hid (HBW.out.size)
        change Code.wp _ _ _ _ (wr.alloc (.cells #[.string t.name,.string t.key,.int .i64 t.quota] 94))
        generalize wr.alloc (.cells #[.string t.name,.string t.key,.int .i64 t.quota] 94)=W1 at HTB HP1 HBW HW1 ⊢
        clear c0 c1 c2 hbl HPP HBB
        have q1:=HP1.out.hp.cell 0 (.slice A2 (newN (l.take k)).length cap2) rfl
        have q2:=HTB.out.cell 2 (.int .i64 t.quota) rfl
        have B1:Below W1.heap.size W1 W1.drew:=(Below.refl _ W1).drew
        have hmk:=make_zeros32
        refine region_cut (S:=fun w':World=>w'.cell? ⟨p,0,none⟩=some (.slice A2 (newN (l.take k)).length cap2)∧w'.cell? ⟨wr.heap.size,2,none⟩=some (.int .i64 t.quota)) 16
          (.take 0 (.take 1 (.take 2 (.take 3 (.take 4 (.take 5 (.take 6 (.two 7 (.one 8 (.one 9 (.take 10 (.one 11 (.one 12 (.one 13 (.take 14 (.take 15 (.one 16 .nil))))))))) 8 (.two 7 (.one 9 (.take 10 (.one 11 (.one 12 (.one 13 (.take 14 (.take 15 (.one 16 .nil)))))))) 9 (.one 7 (.take 10 (.one 11 (.one 12 (.one 13 (.take 14 (.take 15 (.one 16 .nil)))))))))))))))))
          (by kernel_rfl) (by kernel_rfl) (by kernel_rfl) (fun _ _ _ dst _ h=>by cases dst<;>exact h) ⟨q1,q2⟩ (fun hH=>?_)
        clear hH
        generalize W1.drew=V0 at B1 ⊢
        (repeat (first | (refine cut_free (v:=?_) (by (simp only [ga1,ga2,ga3];exact rfl)) (by rfl) ?_ ?_;rotate_left;(focus (intro wS;go_simp;(try with_reducible rfl);done));simp only [Act.put,pu1,pu2,pu3]) | (refine cut_take (v:=?_) (by kernel_rfl) (by (simp only [ga1,ga2,ga3];exact rfl)) (by rfl) ?_ ?_;rotate_left;(focus (intro wS hS;(try dsimp only at hS);go_split_ands;go_simp;(try with_reducible rfl);done));simp only [Act.put,pu1,pu2,pu3])))
        have hmm:=@run_makeMap Tryz.prog
        refine cut_two (by (simp only [ga1,ga2,ga3];exact rfl)) (by rfl) (by (simp only [ga1,ga2,ga3];exact rfl)) (by rfl) ?_ ?_
        · intro K hK
          go_simp
          have B2:Below W1.heap.size W1 (V0.alloc (.map #[] 0)):=B1.alloc B1.size _
          have SMa:=SMap.made V0
          have FMa:W1.heap.size≤V0.heap.size:=B1.size
          refine hK.out _ _ ⟨cell_keep B2 q1,cell_keep B2 q2⟩ (fun hH=>?_)
          clear hK K hH
          (try simp only [Act.put,pu1,pu2,pu3])
          generalize V0.alloc (.map #[] 0)=V1 at B2 SMa ⊢
          (repeat (first | (refine cut_free (v:=?_) (by (simp only [ga1,ga2,ga3];exact rfl)) (by rfl) ?_ ?_;rotate_left;(focus (intro wS;go_simp;(try with_reducible rfl);done));simp only [Act.put,pu1,pu2,pu3]) | (refine cut_take (v:=?_) (by kernel_rfl) (by (simp only [ga1,ga2,ga3];exact rfl)) (by rfl) ?_ ?_;rotate_left;(focus (intro wS hS;(try dsimp only at hS);go_split_ands;go_simp;(try with_reducible rfl);done));simp only [Act.put,pu1,pu2,pu3])))
          (refine cut_one (by decide) (by (simp only [ga1,ga2,ga3];exact rfl)) (by rfl) ?_;intro K hK;go_simp)
          have B3:Below W1.heap.size W1 (V1.alloc (.cells (bv zeros32).toArray 5)):=B2.alloc B2.size _
          have KZ:=Blk.new V1 (bv zeros32).toArray 5
          refine hK.out _ _ ⟨cell_keep B3 q1,cell_keep B3 q2⟩ (fun hH=>?_)
          clear hK K hH
          (try simp only [Act.put,pu1,pu2,pu3])
          have SMb:=SMa.kept ((Below.refl _ _).alloc (Nat.le_refl _) (.cells (bv zeros32).toArray 5))
          generalize V1.alloc (.cells (bv zeros32).toArray 5)=V2 at B3 KZ SMb ⊢
          have hcv:=conv32 _ _ KZ
          (repeat (first | (refine cut_free (v:=?_) (by (simp only [ga1,ga2,ga3];exact rfl)) (by rfl) ?_ ?_;rotate_left;(focus (intro wS;go_simp;(try with_reducible rfl);done));simp only [Act.put,pu1,pu2,pu3]) | (refine cut_take (v:=?_) (by kernel_rfl) (by (simp only [ga1,ga2,ga3];exact rfl)) (by rfl) ?_ ?_;rotate_left;(focus (intro wS hS;(try dsimp only at hS);go_split_ands;go_simp;(try with_reducible rfl);done));simp only [Act.put,pu1,pu2,pu3])))
          (refine cut_one (by decide) (by (simp only [ga1,ga2,ga3];exact rfl)) (by rfl) ?_;intro K hK;go_simp)
          refine hK.out _ _ ⟨cell_keep B3 q1,cell_keep B3 q2⟩ (fun hH=>?_)
          clear hK K hH
          (try simp only [Act.put,pu1,pu2,pu3])
          clear hcv hmk hmm KZ SMa B2
          have hmnl:=SMb.lt
          obtain ⟨mn,hmn⟩:∃ x,V0.heap.size=x:=⟨_,rfl⟩
          rw [hmn] at SMb FMa hmnl ⊢
          clear hmn
          (repeat (first | (refine cut_free (v:=?_) (by (simp only [ga1,ga2,ga3];exact rfl)) (by rfl) ?_ ?_;rotate_left;(focus (intro wS;go_simp;(try with_reducible rfl);done));simp only [Act.put,pu1,pu2,pu3]) | (refine cut_take (v:=?_) (by kernel_rfl) (by (simp only [ga1,ga2,ga3];exact rfl)) (by rfl) ?_ ?_;rotate_left;(focus (intro wS hS;(try dsimp only at hS);go_split_ands;go_simp;(try with_reducible rfl);done));simp only [Act.put,pu1,pu2,pu3])))
          (refine cut_one (by decide) (by (simp only [ga1,ga2,ga3];exact rfl)) (by rfl) ?_;intro K hK;go_simp)
          have hzz:(⟨zeros32.toArray⟩:ByteArray)=⟨(headN []).toArray⟩:=rfl
          have BU:Below W1.heap.size W1 (V2.alloc (.cells #[.int .i64 t.quota,.map (some mn),.int .i64 1,.slice none 0 0,.string ⟨zeros32.toArray⟩] 125)):=B3.alloc B3.size _
          have KN:=Blk.new V2 #[.int .i64 t.quota,.map (some mn),.int .i64 1,.slice none 0 0,.string ⟨zeros32.toArray⟩] 125
          have SM3:=SMb.kept ((Below.refl _ V2).alloc (Nat.le_refl _) (.cells #[.int .i64 t.quota,.map (some mn),.int .i64 1,.slice none 0 0,.string ⟨zeros32.toArray⟩] 125))
          have hnl:W1.heap.size≤V2.heap.size:=B3.size
          refine hK.out _ _ ⟨cell_keep BU q1,cell_keep BU q2⟩ (fun hH=>?_)
          clear hK K hH
          (try simp only [Act.put,pu1,pu2,pu3])
          generalize V2.alloc (.cells #[.int .i64 t.quota,.map (some mn),.int .i64 1,.slice none 0 0,.string ⟨zeros32.toArray⟩] 125)=V3 at BU KN SM3 ⊢
          obtain ⟨nb,hnb⟩:∃ x,V2.heap.size=x:=⟨_,rfl⟩
          rw [hnb] at KN hnl hmnl ⊢
          clear hnb SMb B3
          (repeat (first | (refine cut_free (v:=?_) (by (simp only [ga1,ga2,ga3];exact rfl)) (by rfl) ?_ ?_;rotate_left;(focus (intro wS;go_simp;(try with_reducible rfl);done));simp only [Act.put,pu1,pu2,pu3]) | (refine cut_take (v:=?_) (by kernel_rfl) (by (simp only [ga1,ga2,ga3];exact rfl)) (by rfl) ?_ ?_;rotate_left;(focus (intro wS hS;(try dsimp only at hS);go_split_ands;go_simp;(try with_reducible rfl);done));simp only [Act.put,pu1,pu2,pu3])))
          (refine cut_one (by decide) (by (simp only [ga1,ga2,ga3];exact rfl)) (by rfl) ?_;intro K hK;go_simp)
          have BV:Below W1.heap.size W1 (V3.alloc (.cells #[.pointer (some ⟨nb,0,none⟩)] 121)):=BU.alloc BU.size _
          have KC:=cells_new V3 [.pointer (some ⟨nb,0,none⟩)] 121
          have KN4:=KN.alloc (.cells #[.pointer (some ⟨nb,0,none⟩)] 121)
          have SM4:=SM3.kept ((Below.refl _ V3).alloc (Nat.le_refl _) (.cells #[.pointer (some ⟨nb,0,none⟩)] 121))
          refine hK.out _ _ ⟨cell_keep BV q1,cell_keep BV q2⟩ (fun hH=>?_)
          clear hK K hH
          (try simp only [Act.put,pu1,pu2,pu3])
          generalize hV4:V3.alloc (.cells #[.pointer (some ⟨nb,0,none⟩)] 121)=V4 at BV KN4 SM4 ⊢
          have KC4:∀ (j:Nat) (u:Value),[Value.pointer (some ⟨nb,0,none⟩)][j]?=some u→V4.cell? ((⟨V3.heap.size,0,none⟩:Addr).add j)=some u:=by rw [←hV4];exact KC
          clear hV4 KC KN SM3
          have P4:=HP1.out.kept BV
          (repeat (first | (refine cut_free (v:=?_) (by (simp only [ga1,ga2,ga3];exact rfl)) (by rfl) ?_ ?_;rotate_left;(focus (intro wS;go_simp;(try with_reducible rfl);done));simp only [Act.put,pu1,pu2,pu3]) | (refine cut_take (v:=?_) (by kernel_rfl) (by (simp only [ga1,ga2,ga3];exact rfl)) (by rfl) ?_ ?_;rotate_left;(focus (intro wS hS;(try dsimp only at hS);go_split_ands;go_simp;(try with_reducible rfl);done));simp only [Act.put,pu1,pu2,pu3])))
          (refine cut_one (by decide) (by (simp only [ga1,ga2,ga3];exact rfl)) (by rfl) ?_;intro K hK)
          refine oper_append_row _ _ 118 rfl w.heap.size 121 i0 _ 1 8 Tryz.underlying118 ii iz0 iz1 iz2 rfl (by decide) _ _ _ rfl P4.hrow ⟨V3.heap.size,0,none⟩ 1 1 [.pointer (some ⟨nb,0,none⟩)] rfl rfl KC4 (by simp [Value.oneCell']) (by rw [HKL.out];unfold maxLen;omega) (by rw [HKL.out];omega) (Nat.le_trans HW1.out BV.size) ?_
          intro v' w6 own6 hgr hfr
          obtain ⟨A3,cap3,rfl⟩:=own_form own6
          have tyn:∀ j t,Of V4 j t→t≠121→some j≠(Value.slice A2 (newN (l.take k)).length cap2).ownBlock:=by
            intro j t hj hn e
            obtain ⟨cc,hcc⟩:=own_typed P4.hrow e.symm
            exact hj.ne (show Of V4 j 121 from ⟨cc,_,hcc⟩) hn rfl
          have kp6:Blk w6 p #[.slice A2 (newN (l.take k)).length cap2] 120:=(hgr.block _ P4.hp.lt (tyn _ 120 ⟨_,_,P4.hp⟩ (by decide))).trans P4.hp
          have g1:=kp6.cell 0 (.slice A2 (newN (l.take k)).length cap2) rfl
          have g2:w6.cell? ⟨wr.heap.size,2,none⟩=some (.int .i64 t.quota):=(World.cell?_of_block (a:=⟨wr.heap.size,2,none⟩) (hgr.block _ (HTB.out.kept BV).lt (tyn _ 94 ⟨_,_,HTB.out.kept BV⟩ (by decide)))).trans (cell_keep BV q2)
          have f6:=kp6.frozen 0
          refine hK.out _ _ ⟨g1,g2⟩ (fun hH=>?_)
          clear hK K hH
          (try simp only [Act.put,pu1,pu2,pu3])
          (repeat (first | (refine cut_free (v:=?_) (by (simp only [ga1,ga2,ga3];exact rfl)) (by rfl) ?_ ?_;rotate_left;(focus (intro wS;go_simp;(try with_reducible rfl);done));simp only [Act.put,pu1,pu2,pu3]) | (refine cut_take (v:=?_) (by kernel_rfl) (by (simp only [ga1,ga2,ga3];exact rfl)) (by rfl) ?_ ?_;rotate_left;(focus (intro wS hS;(try dsimp only at hS);go_split_ands;go_simp;(try with_reducible rfl);done));simp only [Act.put,pu1,pu2,pu3])))
          (refine cut_here (by (simp only [ga1,ga2,ga3];exact rfl)) (by rfl) ?_;intro K hK;go_simp)
          refine hK.out _ _ ?_
          refine tree_nil ?_
          have hrow7:=own_set own6 kp6 (by decide) 0 (.slice A3 ((newN (l.take k)).length+1) cap3)
          have hp7:Blk (w6.setCell ⟨p,0,none⟩ (.slice A3 ((newN (l.take k)).length+1) cap3)) p #[.slice A3 ((newN (l.take k)).length+1) cap3] 120:=kp6.setCell 0 _
          have hsame:∀ k',k'<V4.heap.size→¬ Of V4 k' 121→¬ k'=p→(w6.setCell ⟨p,0,none⟩ (.slice A3 ((newN (l.take k)).length+1) cap3)).heap[k']?=V4.heap[k']?:=by
            intro k' hk' hno hne
            rw [(only_set w6 p 0 _).block k' (Nat.lt_of_lt_of_le hk' hgr.size) hne]
            exact hgr.block k' hk' (fun e=>by
              obtain ⟨cc,hcc⟩:=own_typed P4.hrow e.symm
              exact hno ⟨cc,_,hcc⟩)
          have hsz:V4.heap.size≤(w6.setCell ⟨p,0,none⟩ (.slice A3 ((newN (l.take k)).length+1) cap3)).heap.size:=Nat.le_trans hgr.size (only_set w6 p 0 _).size
          have b7:Below w.heap.size w (w6.setCell ⟨p,0,none⟩ (.slice A3 ((newN (l.take k)).length+1) cap3)) :=
            ((HBW.out.trans (BV.mono HW1.out)).grown hgr (Nat.le_trans HW1.out BV.size) (fun j hj=>(P4.hrow.lt j hj).1)).setCell (show w.heap.size≤(⟨p,0,none⟩:Addr).block from HPB.out) _
          have P7:=P4.push (h:=⟨t.quota,[],1,[]⟩) (nb:=nb) (mn:=mn) (en:=.slice none 0 0) (pv':=.slice A3 ((newN (l.take k)).length+1) cap3) hsz hsame hp7 hrow7 KN4 ⟨0,Nat.le_refl _,SM4⟩ (ReadsP.nil V4 (fun _=>False) 4).1 (fun k hk=>by cases hk) (fun A n c e=>by cases e;exact Nat.le_refl _)
            (fun i hi=>by have:=(HP1.out.lt hi).1;omega) (fun i hi=>by have:=(HP1.out.lt hi).2;omega) (by have:=HW1.out;omega) (by have:=HW1.out;omega)
          have HP7:=Lib.hid P7
          have HB7:=Lib.hid b7
          clear hK K P7 b7 hsz hsame hp7 hrow7 g1 g2 f6 kp6 tyn own6 hgr hfr P4 KC4 KN4 SM4 BV BU q1 q2
          go_wp2_with fail
          go_roundw
          case rel=>exact ⟨k+1,_,_,_,_,hlt,rfl,by rw [newN_snoc HT.out];exact HP7.out,HB7.out⟩
          case measure=>simp [intOf];omega
        · intro K hK
          go_simp
          have B2:Below W1.heap.size W1 (V0.alloc (.cells (bv zeros32).toArray 5)):=B1.alloc B1.size _
          have KZ:=Blk.new V0 (bv zeros32).toArray 5
          refine hK.out _ _ ⟨cell_keep B2 q1,cell_keep B2 q2⟩ (fun hH=>?_)
          clear hK K hH
          (try simp only [Act.put,pu1,pu2,pu3])
          generalize V0.alloc (.cells (bv zeros32).toArray 5)=V1 at B2 KZ ⊢
          have hcv:=conv32 _ _ KZ
          (repeat (first | (refine cut_free (v:=?_) (by (simp only [ga1,ga2,ga3];exact rfl)) (by rfl) ?_ ?_;rotate_left;(focus (intro wS;go_simp;(try with_reducible rfl);done));simp only [Act.put,pu1,pu2,pu3]) | (refine cut_take (v:=?_) (by kernel_rfl) (by (simp only [ga1,ga2,ga3];exact rfl)) (by rfl) ?_ ?_;rotate_left;(focus (intro wS hS;(try dsimp only at hS);go_split_ands;go_simp;(try with_reducible rfl);done));simp only [Act.put,pu1,pu2,pu3])))
          refine cut_two (by (simp only [ga1,ga2,ga3];exact rfl)) (by rfl) (by (simp only [ga1,ga2,ga3];exact rfl)) (by rfl) ?_ ?_
          · intro K hK
            go_simp
            have B3:Below W1.heap.size W1 (V1.alloc (.map #[] 0)):=B2.alloc B2.size _
            have SMb:=SMap.made V1
            have FMb:W1.heap.size≤V1.heap.size:=B2.size
            refine hK.out _ _ ⟨cell_keep B3 q1,cell_keep B3 q2⟩ (fun hH=>?_)
            clear hK K hH
            (try simp only [Act.put,pu1,pu2,pu3])
            have KZ2:=KZ.alloc (.map #[] 0)
            generalize V1.alloc (.map #[] 0)=V2 at B3 SMb KZ2 ⊢
            clear hcv
            have hcv:=conv32 _ _ KZ2
            (repeat (first | (refine cut_free (v:=?_) (by (simp only [ga1,ga2,ga3];exact rfl)) (by rfl) ?_ ?_;rotate_left;(focus (intro wS;go_simp;(try with_reducible rfl);done));simp only [Act.put,pu1,pu2,pu3]) | (refine cut_take (v:=?_) (by kernel_rfl) (by (simp only [ga1,ga2,ga3];exact rfl)) (by rfl) ?_ ?_;rotate_left;(focus (intro wS hS;(try dsimp only at hS);go_split_ands;go_simp;(try with_reducible rfl);done));simp only [Act.put,pu1,pu2,pu3])))
            (refine cut_one (by decide) (by (simp only [ga1,ga2,ga3];exact rfl)) (by rfl) ?_;intro K hK;go_simp)
            refine hK.out _ _ ⟨cell_keep B3 q1,cell_keep B3 q2⟩ (fun hH=>?_)
            clear hK K hH
            (try simp only [Act.put,pu1,pu2,pu3])
            clear hcv hmk hmm KZ KZ2 B2
            have hmnl:=SMb.lt
            obtain ⟨mn,hmn⟩:∃ x,V1.heap.size=x:=⟨_,rfl⟩
            rw [hmn] at SMb FMb hmnl ⊢
            clear hmn
            (repeat (first | (refine cut_free (v:=?_) (by (simp only [ga1,ga2,ga3];exact rfl)) (by rfl) ?_ ?_;rotate_left;(focus (intro wS;go_simp;(try with_reducible rfl);done));simp only [Act.put,pu1,pu2,pu3]) | (refine cut_take (v:=?_) (by kernel_rfl) (by (simp only [ga1,ga2,ga3];exact rfl)) (by rfl) ?_ ?_;rotate_left;(focus (intro wS hS;(try dsimp only at hS);go_split_ands;go_simp;(try with_reducible rfl);done));simp only [Act.put,pu1,pu2,pu3])))
            (refine cut_one (by decide) (by (simp only [ga1,ga2,ga3];exact rfl)) (by rfl) ?_;intro K hK;go_simp)
            have hzz:(⟨zeros32.toArray⟩:ByteArray)=⟨(headN []).toArray⟩:=rfl
            have BU:Below W1.heap.size W1 (V2.alloc (.cells #[.int .i64 t.quota,.map (some mn),.int .i64 1,.slice none 0 0,.string ⟨zeros32.toArray⟩] 125)):=B3.alloc B3.size _
            have KN:=Blk.new V2 #[.int .i64 t.quota,.map (some mn),.int .i64 1,.slice none 0 0,.string ⟨zeros32.toArray⟩] 125
            have SM3:=SMb.kept ((Below.refl _ V2).alloc (Nat.le_refl _) (.cells #[.int .i64 t.quota,.map (some mn),.int .i64 1,.slice none 0 0,.string ⟨zeros32.toArray⟩] 125))
            have hnl:W1.heap.size≤V2.heap.size:=B3.size
            refine hK.out _ _ ⟨cell_keep BU q1,cell_keep BU q2⟩ (fun hH=>?_)
            clear hK K hH
            (try simp only [Act.put,pu1,pu2,pu3])
            generalize V2.alloc (.cells #[.int .i64 t.quota,.map (some mn),.int .i64 1,.slice none 0 0,.string ⟨zeros32.toArray⟩] 125)=V3 at BU KN SM3 ⊢
            obtain ⟨nb,hnb⟩:∃ x,V2.heap.size=x:=⟨_,rfl⟩
            rw [hnb] at KN hnl hmnl ⊢
            clear hnb SMb B3
            (repeat (first | (refine cut_free (v:=?_) (by (simp only [ga1,ga2,ga3];exact rfl)) (by rfl) ?_ ?_;rotate_left;(focus (intro wS;go_simp;(try with_reducible rfl);done));simp only [Act.put,pu1,pu2,pu3]) | (refine cut_take (v:=?_) (by kernel_rfl) (by (simp only [ga1,ga2,ga3];exact rfl)) (by rfl) ?_ ?_;rotate_left;(focus (intro wS hS;(try dsimp only at hS);go_split_ands;go_simp;(try with_reducible rfl);done));simp only [Act.put,pu1,pu2,pu3])))
            (refine cut_one (by decide) (by (simp only [ga1,ga2,ga3];exact rfl)) (by rfl) ?_;intro K hK;go_simp)
            have BV:Below W1.heap.size W1 (V3.alloc (.cells #[.pointer (some ⟨nb,0,none⟩)] 121)):=BU.alloc BU.size _
            have KC:=cells_new V3 [.pointer (some ⟨nb,0,none⟩)] 121
            have KN4:=KN.alloc (.cells #[.pointer (some ⟨nb,0,none⟩)] 121)
            have SM4:=SM3.kept ((Below.refl _ V3).alloc (Nat.le_refl _) (.cells #[.pointer (some ⟨nb,0,none⟩)] 121))
            refine hK.out _ _ ⟨cell_keep BV q1,cell_keep BV q2⟩ (fun hH=>?_)
            clear hK K hH
            (try simp only [Act.put,pu1,pu2,pu3])
            generalize hV4:V3.alloc (.cells #[.pointer (some ⟨nb,0,none⟩)] 121)=V4 at BV KN4 SM4 ⊢
            have KC4:∀ (j:Nat) (u:Value),[Value.pointer (some ⟨nb,0,none⟩)][j]?=some u→V4.cell? ((⟨V3.heap.size,0,none⟩:Addr).add j)=some u:=by rw [←hV4];exact KC
            clear hV4 KC KN SM3
            have P4:=HP1.out.kept BV
            (repeat (first | (refine cut_free (v:=?_) (by (simp only [ga1,ga2,ga3];exact rfl)) (by rfl) ?_ ?_;rotate_left;(focus (intro wS;go_simp;(try with_reducible rfl);done));simp only [Act.put,pu1,pu2,pu3]) | (refine cut_take (v:=?_) (by kernel_rfl) (by (simp only [ga1,ga2,ga3];exact rfl)) (by rfl) ?_ ?_;rotate_left;(focus (intro wS hS;(try dsimp only at hS);go_split_ands;go_simp;(try with_reducible rfl);done));simp only [Act.put,pu1,pu2,pu3])))
            (refine cut_one (by decide) (by (simp only [ga1,ga2,ga3];exact rfl)) (by rfl) ?_;intro K hK)
            refine oper_append_row _ _ 118 rfl w.heap.size 121 i0 _ 1 8 Tryz.underlying118 ii iz0 iz1 iz2 rfl (by decide) _ _ _ rfl P4.hrow ⟨V3.heap.size,0,none⟩ 1 1 [.pointer (some ⟨nb,0,none⟩)] rfl rfl KC4 (by simp [Value.oneCell']) (by rw [HKL.out];unfold maxLen;omega) (by rw [HKL.out];omega) (Nat.le_trans HW1.out BV.size) ?_
            intro v' w6 own6 hgr hfr
            obtain ⟨A3,cap3,rfl⟩:=own_form own6
            have tyn:∀ j t,Of V4 j t→t≠121→some j≠(Value.slice A2 (newN (l.take k)).length cap2).ownBlock:=by
              intro j t hj hn e
              obtain ⟨cc,hcc⟩:=own_typed P4.hrow e.symm
              exact hj.ne (show Of V4 j 121 from ⟨cc,_,hcc⟩) hn rfl
            have kp6:Blk w6 p #[.slice A2 (newN (l.take k)).length cap2] 120:=(hgr.block _ P4.hp.lt (tyn _ 120 ⟨_,_,P4.hp⟩ (by decide))).trans P4.hp
            have g1:=kp6.cell 0 (.slice A2 (newN (l.take k)).length cap2) rfl
            have g2:w6.cell? ⟨wr.heap.size,2,none⟩=some (.int .i64 t.quota):=(World.cell?_of_block (a:=⟨wr.heap.size,2,none⟩) (hgr.block _ (HTB.out.kept BV).lt (tyn _ 94 ⟨_,_,HTB.out.kept BV⟩ (by decide)))).trans (cell_keep BV q2)
            have f6:=kp6.frozen 0
            refine hK.out _ _ ⟨g1,g2⟩ (fun hH=>?_)
            clear hK K hH
            (try simp only [Act.put,pu1,pu2,pu3])
            (repeat (first | (refine cut_free (v:=?_) (by (simp only [ga1,ga2,ga3];exact rfl)) (by rfl) ?_ ?_;rotate_left;(focus (intro wS;go_simp;(try with_reducible rfl);done));simp only [Act.put,pu1,pu2,pu3]) | (refine cut_take (v:=?_) (by kernel_rfl) (by (simp only [ga1,ga2,ga3];exact rfl)) (by rfl) ?_ ?_;rotate_left;(focus (intro wS hS;(try dsimp only at hS);go_split_ands;go_simp;(try with_reducible rfl);done));simp only [Act.put,pu1,pu2,pu3])))
            (refine cut_here (by (simp only [ga1,ga2,ga3];exact rfl)) (by rfl) ?_;intro K hK;go_simp)
            refine hK.out _ _ ?_
            refine tree_nil ?_
            have hrow7:=own_set own6 kp6 (by decide) 0 (.slice A3 ((newN (l.take k)).length+1) cap3)
            have hp7:Blk (w6.setCell ⟨p,0,none⟩ (.slice A3 ((newN (l.take k)).length+1) cap3)) p #[.slice A3 ((newN (l.take k)).length+1) cap3] 120:=kp6.setCell 0 _
            have hsame:∀ k',k'<V4.heap.size→¬ Of V4 k' 121→¬ k'=p→(w6.setCell ⟨p,0,none⟩ (.slice A3 ((newN (l.take k)).length+1) cap3)).heap[k']?=V4.heap[k']?:=by
              intro k' hk' hno hne
              rw [(only_set w6 p 0 _).block k' (Nat.lt_of_lt_of_le hk' hgr.size) hne]
              exact hgr.block k' hk' (fun e=>by
                obtain ⟨cc,hcc⟩:=own_typed P4.hrow e.symm
                exact hno ⟨cc,_,hcc⟩)
            have hsz:V4.heap.size≤(w6.setCell ⟨p,0,none⟩ (.slice A3 ((newN (l.take k)).length+1) cap3)).heap.size:=Nat.le_trans hgr.size (only_set w6 p 0 _).size
            have b7:Below w.heap.size w (w6.setCell ⟨p,0,none⟩ (.slice A3 ((newN (l.take k)).length+1) cap3)) :=
              ((HBW.out.trans (BV.mono HW1.out)).grown hgr (Nat.le_trans HW1.out BV.size) (fun j hj=>(P4.hrow.lt j hj).1)).setCell (show w.heap.size≤(⟨p,0,none⟩:Addr).block from HPB.out) _
            have P7:=P4.push (h:=⟨t.quota,[],1,[]⟩) (nb:=nb) (mn:=mn) (en:=.slice none 0 0) (pv':=.slice A3 ((newN (l.take k)).length+1) cap3) hsz hsame hp7 hrow7 KN4 ⟨0,Nat.le_refl _,SM4⟩ (ReadsP.nil V4 (fun _=>False) 4).1 (fun k hk=>by cases hk) (fun A n c e=>by cases e;exact Nat.le_refl _)
              (fun i hi=>by have:=(HP1.out.lt hi).1;omega) (fun i hi=>by have:=(HP1.out.lt hi).2;omega) (by have:=HW1.out;omega) (by have:=HW1.out;omega)
            have HP7:=Lib.hid P7
            have HB7:=Lib.hid b7
            clear hK K P7 b7 hsz hsame hp7 hrow7 g1 g2 f6 kp6 tyn own6 hgr hfr P4 KC4 KN4 SM4 BV BU q1 q2
            go_wp2_with fail
            go_roundw
            case rel=>exact ⟨k+1,_,_,_,_,hlt,rfl,by rw [newN_snoc HT.out];exact HP7.out,HB7.out⟩
            case measure=>simp [intOf];omega
          · intro K hK
            go_simp
            refine hK.out _ _ ⟨cell_keep B2 q1,cell_keep B2 q2⟩ (fun hH=>?_)
            clear hK K hH
            (try simp only [Act.put,pu1,pu2,pu3])
            (repeat (first | (refine cut_free (v:=?_) (by (simp only [ga1,ga2,ga3];exact rfl)) (by rfl) ?_ ?_;rotate_left;(focus (intro wS;go_simp;(try with_reducible rfl);done));simp only [Act.put,pu1,pu2,pu3]) | (refine cut_take (v:=?_) (by kernel_rfl) (by (simp only [ga1,ga2,ga3];exact rfl)) (by rfl) ?_ ?_;rotate_left;(focus (intro wS hS;(try dsimp only at hS);go_split_ands;go_simp;(try with_reducible rfl);done));simp only [Act.put,pu1,pu2,pu3])))
            (refine cut_one (by decide) (by (simp only [ga1,ga2,ga3];exact rfl)) (by rfl) ?_;intro K hK;go_simp)
            have B3:Below W1.heap.size W1 (V1.alloc (.map #[] 0)):=B2.alloc B2.size _
            have SMb:=SMap.made V1
            have FMb:W1.heap.size≤V1.heap.size:=B2.size
            refine hK.out _ _ ⟨cell_keep B3 q1,cell_keep B3 q2⟩ (fun hH=>?_)
            clear hK K hH
            (try simp only [Act.put,pu1,pu2,pu3])
            generalize V1.alloc (.map #[] 0)=V2 at B3 SMb ⊢
            clear hcv hmk hmm KZ B2
            have hmnl:=SMb.lt
            obtain ⟨mn,hmn⟩:∃ x,V1.heap.size=x:=⟨_,rfl⟩
            rw [hmn] at SMb FMb hmnl ⊢
            clear hmn
            (repeat (first | (refine cut_free (v:=?_) (by (simp only [ga1,ga2,ga3];exact rfl)) (by rfl) ?_ ?_;rotate_left;(focus (intro wS;go_simp;(try with_reducible rfl);done));simp only [Act.put,pu1,pu2,pu3]) | (refine cut_take (v:=?_) (by kernel_rfl) (by (simp only [ga1,ga2,ga3];exact rfl)) (by rfl) ?_ ?_;rotate_left;(focus (intro wS hS;(try dsimp only at hS);go_split_ands;go_simp;(try with_reducible rfl);done));simp only [Act.put,pu1,pu2,pu3])))
            (refine cut_one (by decide) (by (simp only [ga1,ga2,ga3];exact rfl)) (by rfl) ?_;intro K hK;go_simp)
            have hzz:(⟨zeros32.toArray⟩:ByteArray)=⟨(headN []).toArray⟩:=rfl
            have BU:Below W1.heap.size W1 (V2.alloc (.cells #[.int .i64 t.quota,.map (some mn),.int .i64 1,.slice none 0 0,.string ⟨zeros32.toArray⟩] 125)):=B3.alloc B3.size _
            have KN:=Blk.new V2 #[.int .i64 t.quota,.map (some mn),.int .i64 1,.slice none 0 0,.string ⟨zeros32.toArray⟩] 125
            have SM3:=SMb.kept ((Below.refl _ V2).alloc (Nat.le_refl _) (.cells #[.int .i64 t.quota,.map (some mn),.int .i64 1,.slice none 0 0,.string ⟨zeros32.toArray⟩] 125))
            have hnl:W1.heap.size≤V2.heap.size:=B3.size
            refine hK.out _ _ ⟨cell_keep BU q1,cell_keep BU q2⟩ (fun hH=>?_)
            clear hK K hH
            (try simp only [Act.put,pu1,pu2,pu3])
            generalize V2.alloc (.cells #[.int .i64 t.quota,.map (some mn),.int .i64 1,.slice none 0 0,.string ⟨zeros32.toArray⟩] 125)=V3 at BU KN SM3 ⊢
            obtain ⟨nb,hnb⟩:∃ x,V2.heap.size=x:=⟨_,rfl⟩
            rw [hnb] at KN hnl hmnl ⊢
            clear hnb SMb B3
            (repeat (first | (refine cut_free (v:=?_) (by (simp only [ga1,ga2,ga3];exact rfl)) (by rfl) ?_ ?_;rotate_left;(focus (intro wS;go_simp;(try with_reducible rfl);done));simp only [Act.put,pu1,pu2,pu3]) | (refine cut_take (v:=?_) (by kernel_rfl) (by (simp only [ga1,ga2,ga3];exact rfl)) (by rfl) ?_ ?_;rotate_left;(focus (intro wS hS;(try dsimp only at hS);go_split_ands;go_simp;(try with_reducible rfl);done));simp only [Act.put,pu1,pu2,pu3])))
            (refine cut_one (by decide) (by (simp only [ga1,ga2,ga3];exact rfl)) (by rfl) ?_;intro K hK;go_simp)
            have BV:Below W1.heap.size W1 (V3.alloc (.cells #[.pointer (some ⟨nb,0,none⟩)] 121)):=BU.alloc BU.size _
            have KC:=cells_new V3 [.pointer (some ⟨nb,0,none⟩)] 121
            have KN4:=KN.alloc (.cells #[.pointer (some ⟨nb,0,none⟩)] 121)
            have SM4:=SM3.kept ((Below.refl _ V3).alloc (Nat.le_refl _) (.cells #[.pointer (some ⟨nb,0,none⟩)] 121))
            refine hK.out _ _ ⟨cell_keep BV q1,cell_keep BV q2⟩ (fun hH=>?_)
            clear hK K hH
            (try simp only [Act.put,pu1,pu2,pu3])
            generalize hV4:V3.alloc (.cells #[.pointer (some ⟨nb,0,none⟩)] 121)=V4 at BV KN4 SM4 ⊢
            have KC4:∀ (j:Nat) (u:Value),[Value.pointer (some ⟨nb,0,none⟩)][j]?=some u→V4.cell? ((⟨V3.heap.size,0,none⟩:Addr).add j)=some u:=by rw [←hV4];exact KC
            clear hV4 KC KN SM3
            have P4:=HP1.out.kept BV
            (repeat (first | (refine cut_free (v:=?_) (by (simp only [ga1,ga2,ga3];exact rfl)) (by rfl) ?_ ?_;rotate_left;(focus (intro wS;go_simp;(try with_reducible rfl);done));simp only [Act.put,pu1,pu2,pu3]) | (refine cut_take (v:=?_) (by kernel_rfl) (by (simp only [ga1,ga2,ga3];exact rfl)) (by rfl) ?_ ?_;rotate_left;(focus (intro wS hS;(try dsimp only at hS);go_split_ands;go_simp;(try with_reducible rfl);done));simp only [Act.put,pu1,pu2,pu3])))
            (refine cut_one (by decide) (by (simp only [ga1,ga2,ga3];exact rfl)) (by rfl) ?_;intro K hK)
            refine oper_append_row _ _ 118 rfl w.heap.size 121 i0 _ 1 8 Tryz.underlying118 ii iz0 iz1 iz2 rfl (by decide) _ _ _ rfl P4.hrow ⟨V3.heap.size,0,none⟩ 1 1 [.pointer (some ⟨nb,0,none⟩)] rfl rfl KC4 (by simp [Value.oneCell']) (by rw [HKL.out];unfold maxLen;omega) (by rw [HKL.out];omega) (Nat.le_trans HW1.out BV.size) ?_
            intro v' w6 own6 hgr hfr
            obtain ⟨A3,cap3,rfl⟩:=own_form own6
            have tyn:∀ j t,Of V4 j t→t≠121→some j≠(Value.slice A2 (newN (l.take k)).length cap2).ownBlock:=by
              intro j t hj hn e
              obtain ⟨cc,hcc⟩:=own_typed P4.hrow e.symm
              exact hj.ne (show Of V4 j 121 from ⟨cc,_,hcc⟩) hn rfl
            have kp6:Blk w6 p #[.slice A2 (newN (l.take k)).length cap2] 120:=(hgr.block _ P4.hp.lt (tyn _ 120 ⟨_,_,P4.hp⟩ (by decide))).trans P4.hp
            have g1:=kp6.cell 0 (.slice A2 (newN (l.take k)).length cap2) rfl
            have g2:w6.cell? ⟨wr.heap.size,2,none⟩=some (.int .i64 t.quota):=(World.cell?_of_block (a:=⟨wr.heap.size,2,none⟩) (hgr.block _ (HTB.out.kept BV).lt (tyn _ 94 ⟨_,_,HTB.out.kept BV⟩ (by decide)))).trans (cell_keep BV q2)
            have f6:=kp6.frozen 0
            refine hK.out _ _ ⟨g1,g2⟩ (fun hH=>?_)
            clear hK K hH
            (try simp only [Act.put,pu1,pu2,pu3])
            (repeat (first | (refine cut_free (v:=?_) (by (simp only [ga1,ga2,ga3];exact rfl)) (by rfl) ?_ ?_;rotate_left;(focus (intro wS;go_simp;(try with_reducible rfl);done));simp only [Act.put,pu1,pu2,pu3]) | (refine cut_take (v:=?_) (by kernel_rfl) (by (simp only [ga1,ga2,ga3];exact rfl)) (by rfl) ?_ ?_;rotate_left;(focus (intro wS hS;(try dsimp only at hS);go_split_ands;go_simp;(try with_reducible rfl);done));simp only [Act.put,pu1,pu2,pu3])))
            (refine cut_here (by (simp only [ga1,ga2,ga3];exact rfl)) (by rfl) ?_;intro K hK;go_simp)
            refine hK.out _ _ ?_
            refine tree_nil ?_
            have hrow7:=own_set own6 kp6 (by decide) 0 (.slice A3 ((newN (l.take k)).length+1) cap3)
            have hp7:Blk (w6.setCell ⟨p,0,none⟩ (.slice A3 ((newN (l.take k)).length+1) cap3)) p #[.slice A3 ((newN (l.take k)).length+1) cap3] 120:=kp6.setCell 0 _
            have hsame:∀ k',k'<V4.heap.size→¬ Of V4 k' 121→¬ k'=p→(w6.setCell ⟨p,0,none⟩ (.slice A3 ((newN (l.take k)).length+1) cap3)).heap[k']?=V4.heap[k']?:=by
              intro k' hk' hno hne
              rw [(only_set w6 p 0 _).block k' (Nat.lt_of_lt_of_le hk' hgr.size) hne]
              exact hgr.block k' hk' (fun e=>by
                obtain ⟨cc,hcc⟩:=own_typed P4.hrow e.symm
                exact hno ⟨cc,_,hcc⟩)
            have hsz:V4.heap.size≤(w6.setCell ⟨p,0,none⟩ (.slice A3 ((newN (l.take k)).length+1) cap3)).heap.size:=Nat.le_trans hgr.size (only_set w6 p 0 _).size
            have b7:Below w.heap.size w (w6.setCell ⟨p,0,none⟩ (.slice A3 ((newN (l.take k)).length+1) cap3)) :=
              ((HBW.out.trans (BV.mono HW1.out)).grown hgr (Nat.le_trans HW1.out BV.size) (fun j hj=>(P4.hrow.lt j hj).1)).setCell (show w.heap.size≤(⟨p,0,none⟩:Addr).block from HPB.out) _
            have P7:=P4.push (h:=⟨t.quota,[],1,[]⟩) (nb:=nb) (mn:=mn) (en:=.slice none 0 0) (pv':=.slice A3 ((newN (l.take k)).length+1) cap3) hsz hsame hp7 hrow7 KN4 ⟨0,Nat.le_refl _,SM4⟩ (ReadsP.nil V4 (fun _=>False) 4).1 (fun k hk=>by cases hk) (fun A n c e=>by cases e;exact Nat.le_refl _)
              (fun i hi=>by have:=(HP1.out.lt hi).1;omega) (fun i hi=>by have:=(HP1.out.lt hi).2;omega) (by have:=HW1.out;omega) (by have:=HW1.out;omega)
            have HP7:=Lib.hid P7
            have HB7:=Lib.hid b7
            clear hK K P7 b7 hsz hsame hp7 hrow7 g1 g2 f6 kp6 tyn own6 hgr hfr P4 KC4 KN4 SM4 BV BU q1 q2
            go_wp2_with fail
            go_roundw
            case rel=>exact ⟨k+1,_,_,_,_,hlt,rfl,by rw [newN_snoc HT.out];exact HP7.out,HB7.out⟩
            case measure=>simp [intOf];omega
      · have hK:k=l.length:=by omega
        have kl:¬ (k:Int)<(l.length:Int):=by omega
        rw [hK,List.take_length] at hp
        have HPP:=Lib.hid hp
        have HBB:=Lib.hid hbw
        clear hp hbw hK
        go_wp2_with fail
        refine bodyPost_ret (results_tmp2 rfl _ _ _) rfl ?_
        have hln:(newN l).length=l.length:=newN_len l
        obtain ⟨d,hd,hdB⟩:=HPP.out.whole (by omega)
        rw [hln] at hdB
        exact ⟨HBB.out,.inr ⟨H0.out,p,rfl,d,hd,HPB.out,hdB⟩⟩
  · have h0:checkN l=1:=by unfold checkN;rw [if_neg hck]
    have H0:=Lib.hid h0
    rw [h0] at HC
    clear h0 hck
    go_enter Tryz.func30,Tryz.ntmps30
    go_wp2_with fail
    refine HC.out.mono ?_
    rintro e w1 ⟨rfl,hb1⟩
    have HB1:=Lib.hid hb1
    clear HC hb1 HRR
    go_wp2_with fail
    refine bodyPost_ret (results_tmp2 rfl _ _ _) rfl ?_
    exact ⟨HB1.out,.inl ⟨by rw [H0.out];decide,by rw [H0.out];rfl⟩⟩
end Go.Proofs.YtmdgeknnhckgfaaGreatDoor
