/-
  Parts of the proof of the law LinModel: MNot, MLiv, MLve, MNxt, MSet, MApt.
-/
import Derived.Test.YtmdgeknnhckgfaaGreatDoorS15
import Derived.Test.YtmdgeknnhckgfaaGreatDoorS22
import Derived.Test.YtmdgeknnhckgfaaGreatDoorS26
import Derived.Test.YtmdgeknnhckgfaaGreatDoorS27
set_option linter.unusedSimpArgs false
set_option linter.unusedVariables false
namespace Go.Proofs.YtmdgeknnhckgfaaGreatDoor
open Go Go.RowKit
theorem entN_le {x:Ent} (h:x.Ok):(entN x).length≤x.sub.size+64:=by
  unfold entN
  have:=varN_len10 (n:=x.num) (by have:=h.num;omega)
  have:=varN_len10 (n:=x.kind) (by have:=h.kind;omega)
  have:=varN_len10 h.tick
  have:=textN_len (s:=x.sub) (by have:=h.sub;omega)
  have:=h.sub
  simp only [List.length_append]
  omega
variable {w w':World} {p N:Nat} {L:List Hs} {d:MD}
set_option maxRecDepth 100000 in
set_option maxHeartbeats 4000000 in
theorem mod_note (r:MIs w p N L d) {i:Nat} {h:Hs} (hi:L[i]?=some h) (hsm:h.ents.length≤1000) (kind now:Nat) (sub:ByteArray) (hent:(⟨h.ents.length+1,kind,now,sub⟩:Ent).Ok) :
    Calls Tryz.prog 121 #[.pointer (some ⟨d.hb i,0,none⟩),.int .i64 (kind:Nat),.int .u64 (now:Nat),.string sub] w fun e w'=>e=.returned (.tuple #[])∧∃ ev',MIs w' p N (L.set i { h with ents:=noteN h.ents kind now sub }) { d with ev:=setAt d.ev i ev' }∧Only (fun k=>k=d.hb i) w w':=by
  obtain ⟨i0,ii,iz0,iz1,iz2⟩:=info_parts Tryz.info103
  have hil:=(List.getElem?_eq_some_iff.1 hi).1
  have KH:=r.hh i h hi
  have hrd:=r.he i h hi
  obtain ⟨A,cap,hev⟩:=hrd.form
  have hcap:=r.hc i A _ cap hil hev
  have c3:=KH.cell 3 (.slice A h.ents.length cap) (by rw [←hev];rfl)
  have c4:=KH.cell 4 (.string ⟨(headN h.ents).toArray⟩) rfl
  have hbl:=KH.lt
  have HR:=Lib.hid r
  have HI:=Lib.hid hi
  have HEV:=Lib.hid hev
  have HRD:=Lib.hid hrd
  have HKH:=Lib.hid KH
  have wn:IntKind.i64.wrap ((h.ents.length:Int)+1)=(((h.ents.length+1:Nat)):Int):=(IntWalk.i64_in _ (by omega)).trans (by omega)
  have HTx:=Lib.hid (mod_Text ⟨h.ents.length+1,kind,now,sub⟩ hent (entN_le hent))
  have hlen0:=headN_len h.ents
  have hlen1:=entN_len hent
  have HCh:=Lib.hid (mod_chain (headN h.ents) (entN ⟨h.ents.length+1,kind,now,sub⟩) (by omega))
  have hchain:chainN (headN h.ents) (entN ⟨h.ents.length+1,kind,now,sub⟩)=headN (noteN h.ents kind now sub):=by
    unfold headN noteN;rw [List.foldl_append];rfl
  rw [hchain] at HCh
  obtain ⟨ex,hex⟩:∃ x,(⟨(entN ⟨h.ents.length+1,kind,now,sub⟩).toArray⟩:ByteArray)=x:=⟨_,rfl⟩
  obtain ⟨hx,hhx⟩:∃ x,(⟨(headN (noteN h.ents kind now sub)).toArray⟩:ByteArray)=x:=⟨_,rfl⟩
  obtain ⟨h0,hh0⟩:∃ x,(⟨(headN h.ents).toArray⟩:ByteArray)=x:=⟨_,rfl⟩
  rw [hex] at HTx HCh
  rw [hhx,hh0] at HCh
  rw [hh0] at c4
  have HH0:=Lib.hid hh0
  have HHX:=Lib.hid hhx
  unfold entV at HTx
  simp only at HTx
  rw [show (((h.ents.length+1:Nat)):Int)=(h.ents.length:Int)+1 by omega] at HTx
  clear hchain hex hhx hh0 hlen0 hlen1
  clear r hi hev hrd KH hent
  go_enter Tryz.func121,Tryz.ntmps121
  go_wp2_with fail
  have kE:Blk (w.alloc (.cells #[.int .i64 ((h.ents.length:Int)+1),.int .i64 (kind:Int),.int .u64 (now:Int),.string sub] 103)) w.heap.size #[.int .i64 ((h.ents.length:Int)+1),.int .i64 (kind:Int),.int .u64 (now:Int),.string sub] 103:=Blk.new w _ 103
  have b0:Below w.heap.size w (w.alloc (.cells #[.int .i64 ((h.ents.length:Int)+1),.int .i64 (kind:Int),.int .u64 (now:Int),.string sub] 103)):=(Below.refl _ w).alloc (Nat.le_refl _) _
  change Code.wp _ _ _ _ (w.alloc (.cells #[.int .i64 ((h.ents.length:Int)+1),.int .i64 (kind:Int),.int .u64 (now:Int),.string sub] 103))
  generalize w.alloc (.cells #[.int .i64 ((h.ents.length:Int)+1),.int .i64 (kind:Int),.int .u64 (now:Int),.string sub] 103)=W0 at kE b0 ⊢
  have q3:=cell_keep b0 c3
  have q4:=cell_keep b0 c4
  have e0:=kE.cell 0 _ rfl
  have e1:=kE.cell 1 _ rfl
  have e2:=kE.cell 2 _ rfl
  have e3:=kE.cell 3 _ rfl
  have KE:=Lib.hid kE
  have B0:=Lib.hid b0
  have hnz:A=none→h.ents.length=0:=by
    rintro rfl
    have:=HRD.out
    rw [HEV.out] at this
    obtain ⟨_,_,A',cap',e',h3⟩:=this
    rcases h3 with h3 | ⟨b,o,rfl,_⟩
    · exact h3
    · cases e'
  clear c3 c4 kE b0 wn
  have B1:Below W0.heap.size W0 W0.drew:=(Below.refl _ W0).drew
  refine region_cut (S:=fun w':World=>w'.cell? ⟨d.hb i,3,none⟩=some (.slice A h.ents.length cap)∧w'.cell? ⟨w.heap.size,0,none⟩=some (.int .i64 ((h.ents.length:Int)+1))∧w'.cell? ⟨w.heap.size,1,none⟩=some (.int .i64 (kind:Int))∧w'.cell? ⟨w.heap.size,2,none⟩=some (.int .u64 (now:Int))∧w'.cell? ⟨w.heap.size,3,none⟩=some (.string sub)) 11
    (.take 0 (.take 1 (.take 2 (.take 3 (.take 4 (.take 6 (.two 5 (.one 7 (.one 8 (.take 9 (.take 10 (.one 11 .nil))))) 7 (.one 5 (.one 8 (.take 9 (.take 10 (.one 11 .nil))))))))))))
    (by kernel_rfl) (by kernel_rfl) (by kernel_rfl) (fun _ _ _ dst _ h=>by cases dst<;>exact h) ⟨q3,e0,e1,e2,e3⟩ (fun hH=>?_)
  clear hH
  generalize W0.drew=V0 at B1 ⊢
  (repeat (first | (refine cut_free (v:=?_) (by (simp only [ga1,ga2,ga3];exact rfl)) (by rfl) ?_ ?_;rotate_left;(focus (intro wS;go_simp;(try with_reducible rfl);done));simp only [Act.put,pu1,pu2,pu3]) | (refine cut_take (v:=?_) (by kernel_rfl) (by (simp only [ga1,ga2,ga3];exact rfl)) (by rfl) ?_ ?_;rotate_left;(focus (intro wS hS;(try dsimp only at hS);go_split_ands;go_simp;(try with_reducible rfl);done));simp only [Act.put,pu1,pu2,pu3])))
  refine cut_two (by (simp only [ga1,ga2,ga3];exact rfl)) (by rfl) (by (simp only [ga1,ga2,ga3];exact rfl)) (by rfl) ?_ ?_
  · intro K hK
    go_simp
    refine (mod_clip A h.ents.length cap hcap hnz _).mono ?_
    rintro e w4 ⟨rfl,hu⟩
    obtain rfl:=hu.symm
    refine hK.out _ _ ⟨cell_keep B1 q3,cell_keep B1 e0,cell_keep B1 e1,cell_keep B1 e2,cell_keep B1 e3⟩ (fun hH=>?_)
    clear hK K hH hu
    (try simp only [Act.put,pu1,pu2,pu3])
    (repeat (first | (refine cut_free (v:=?_) (by (simp only [ga1,ga2,ga3];exact rfl)) (by rfl) ?_ ?_;rotate_left;(focus (intro wS;go_simp;(try with_reducible rfl);done));simp only [Act.put,pu1,pu2,pu3]) | (refine cut_take (v:=?_) (by kernel_rfl) (by (simp only [ga1,ga2,ga3];exact rfl)) (by rfl) ?_ ?_;rotate_left;(focus (intro wS hS;(try dsimp only at hS);go_split_ands;go_simp;(try with_reducible rfl);done));simp only [Act.put,pu1,pu2,pu3])))
    (refine cut_one (by decide) (by (simp only [ga1,ga2,ga3];exact rfl)) (by rfl) ?_;intro K hK;go_simp)
    have B2:Below W0.heap.size W0 (V0.alloc (.cells #[.int .i64 ((h.ents.length:Int)+1),.int .i64 (kind:Int),.int .u64 (now:Int),.string sub] 103)):=B1.alloc B1.size _
    have KN:=cells_new V0 [.int .i64 ((h.ents.length:Int)+1),.int .i64 (kind:Int),.int .u64 (now:Int),.string sub] 103
    refine hK.out _ _ ⟨cell_keep B2 q3,cell_keep B2 e0,cell_keep B2 e1,cell_keep B2 e2,cell_keep B2 e3⟩ (fun hH=>?_)
    clear hK K hH
    (try simp only [Act.put,pu1,pu2,pu3])
    generalize hV1:V0.alloc (.cells #[.int .i64 ((h.ents.length:Int)+1),.int .i64 (kind:Int),.int .u64 (now:Int),.string sub] 103)=V1 at B2 ⊢
    have KN1:∀ (j:Nat) (u:Value),[.int .i64 ((h.ents.length:Int)+1),.int .i64 (kind:Int),.int .u64 (now:Int),.string sub][j]?=some u→V1.cell? ((⟨V0.heap.size,0,none⟩:Addr).add j)=some u:=by rw [←hV1];exact KN
    clear hV1 KN
    have hrd:Reads V1 (.slice A h.ents.length h.ents.length) h.ents.length 4 (entArgs h.ents):=by
      have:=(HRD.out.kept B0.out).kept B2
      rw [HEV.out] at this
      exact this.clip
    (repeat (first | (refine cut_free (v:=?_) (by (simp only [ga1,ga2,ga3];exact rfl)) (by rfl) ?_ ?_;rotate_left;(focus (intro wS;go_simp;(try with_reducible rfl);done));simp only [Act.put,pu1,pu2,pu3]) | (refine cut_take (v:=?_) (by kernel_rfl) (by (simp only [ga1,ga2,ga3];exact rfl)) (by rfl) ?_ ?_;rotate_left;(focus (intro wS hS;(try dsimp only at hS);go_split_ands;go_simp;(try with_reducible rfl);done));simp only [Act.put,pu1,pu2,pu3])))
    (refine cut_one (by decide) (by (simp only [ga1,ga2,ga3];exact rfl)) (by rfl) ?_;intro K hK)
    refine oper_append_full _ _ 33 rfl 103 i0 _ 4 40 Tryz.underlying33 ii iz0 iz1 iz2 rfl (by decide) A h.ents.length (entArgs h.ents) rfl hrd ⟨V0.heap.size,0,none⟩ 1 1 [.int .i64 ((h.ents.length:Int)+1),.int .i64 (kind:Int),.int .u64 (now:Int),.string sub] rfl rfl KN1 (by decide) (by unfold maxLen;omega) (by omega) ?_
    intro v' w6 own6 hb6
    obtain ⟨A3,cap3,rfl⟩:=own_form own6
    have B3:=B2.trans (hb6.mono B2.size)
    have g3:=cell_keep B3 q3
    have f3:w6.frozen? ⟨d.hb i,3,none⟩=false:=((HKH.out.kept B0.out).kept B3).frozen 3
    refine hK.out _ _ ⟨g3,cell_keep B3 e0,cell_keep B3 e1,cell_keep B3 e2,cell_keep B3 e3⟩ (fun hH=>?_)
    clear hK K hH
    (try simp only [Act.put,pu1,pu2,pu3])
    (repeat (first | (refine cut_free (v:=?_) (by (simp only [ga1,ga2,ga3];exact rfl)) (by rfl) ?_ ?_;rotate_left;(focus (intro wS;go_simp;(try with_reducible rfl);done));simp only [Act.put,pu1,pu2,pu3]) | (refine cut_take (v:=?_) (by kernel_rfl) (by (simp only [ga1,ga2,ga3];exact rfl)) (by rfl) ?_ ?_;rotate_left;(focus (intro wS hS;(try dsimp only at hS);go_split_ands;go_simp;(try with_reducible rfl);done));simp only [Act.put,pu1,pu2,pu3])))
    (refine cut_here (by (simp only [ga1,ga2,ga3];exact rfl)) (by rfl) ?_;intro K hK;go_simp)
    refine hK.out _ _ ?_
    refine tree_nil ?_
    have KB6:=(HKH.out.kept B0.out).kept B3
    have HBL:=Lib.hid hbl
    have KB7:Blk (w6.setCell ⟨d.hb i,3,none⟩ (.slice A3 (h.ents.length+1) cap3)) (d.hb i) #[.int .i64 h.quota,.map (some (d.mb i)),.int .i64 (h.next:Nat),.slice A3 (h.ents.length+1) cap3,.string ⟨(headN h.ents).toArray⟩] 125:=KB6.setCell 3 _
    have own7:=own_set own6 KB6 (by decide) 3 (.slice A3 (h.ents.length+1) cap3)
    have KE7:=Blk.setCell_ne (KE.out.kept B3) (show w.heap.size≠d.hb i by omega) 3 (.slice A3 (h.ents.length+1) cap3)
    have O7:Only (fun k=>k=d.hb i) w (w6.setCell ⟨d.hb i,3,none⟩ (.slice A3 (h.ents.length+1) cap3)):=Only.setCell (S:=fun k=>k=d.hb i) (Only.of_below (B0.out.trans (B3.mono B0.out.size))) (b:=d.hb i) (.inl rfl) 3 _
    rw [HH0.out] at KB7
    clear hK K f3 g3 B3 hb6 own6 KN1 B2 B1 hrd q3 q4 e0 e1 e2 e3 KB6
    generalize w6.setCell ⟨d.hb i,3,none⟩ (.slice A3 (h.ents.length+1) cap3)=W7 at KB7 own7 KE7 O7 ⊢
    have y4:=KB7.cell 4 (.string h0) rfl
    have z0:=KE7.cell 0 (.int .i64 ((h.ents.length:Int)+1)) rfl
    have z1:=KE7.cell 1 (.int .i64 (kind:Int)) rfl
    have z2:=KE7.cell 2 (.int .u64 (now:Int)) rfl
    have z3:=KE7.cell 3 (.string sub) rfl
    have HKB7:=Lib.hid KB7
    have HO7:=Lib.hid O7
    have HOW7:=Lib.hid own7
    clear KB7 own7 KE7 O7
    have B1:Below W7.heap.size W7 W7.drew:=(Below.refl _ W7).drew
    go_wp2_with fail
    refine region_cut (S:=fun w':World=>w'.cell? ⟨d.hb i,4,none⟩=some (.string h0)∧w'.cell? ⟨w.heap.size,0,none⟩=some (.int .i64 ((h.ents.length:Int)+1))∧w'.cell? ⟨w.heap.size,1,none⟩=some (.int .i64 (kind:Int))∧w'.cell? ⟨w.heap.size,2,none⟩=some (.int .u64 (now:Int))∧w'.cell? ⟨w.heap.size,3,none⟩=some (.string sub)) 10
      (.take 0 (.take 1 (.take 2 (.take 3 (.take 4 (.take 5 (.one 6 (.one 7 (.take 8 (.take 9 (.one 10 .nil)))))))))))
      (by kernel_rfl) (by kernel_rfl) (by kernel_rfl) (fun _ _ _ dst _ h=>by cases dst<;>exact h) ⟨y4,z0,z1,z2,z3⟩ (fun hH=>?_)
    clear hH
    generalize W7.drew=V8 at B1 ⊢
    (repeat (first | (refine cut_free (v:=?_) (by (simp only [ga1,ga2,ga3];exact rfl)) (by rfl) ?_ ?_;rotate_left;(focus (intro wS;go_simp;(try with_reducible rfl);done));simp only [Act.put,pu1,pu2,pu3]) | (refine cut_take (v:=?_) (by kernel_rfl) (by (simp only [ga1,ga2,ga3];exact rfl)) (by rfl) ?_ ?_;rotate_left;(focus (intro wS hS;(try dsimp only at hS);go_split_ands;go_simp;(try with_reducible rfl);done));simp only [Act.put,pu1,pu2,pu3])))
    (refine cut_one (by decide) (by (simp only [ga1,ga2,ga3];exact rfl)) (by rfl) ?_;intro K hK;go_simp)
    refine (HTx.out _).mono ?_
    rintro e w9 ⟨rfl,hb9⟩
    have B2:=B1.trans (hb9.mono B1.size)
    refine hK.out _ _ ⟨cell_keep B2 y4,cell_keep B2 z0,cell_keep B2 z1,cell_keep B2 z2,cell_keep B2 z3⟩ (fun hH=>?_)
    clear hK K hH hb9 B1
    (try simp only [Act.put,pu1,pu2,pu3])
    (repeat (first | (refine cut_free (v:=?_) (by (simp only [ga1,ga2,ga3];exact rfl)) (by rfl) ?_ ?_;rotate_left;(focus (intro wS;go_simp;(try with_reducible rfl);done));simp only [Act.put,pu1,pu2,pu3]) | (refine cut_take (v:=?_) (by kernel_rfl) (by (simp only [ga1,ga2,ga3];exact rfl)) (by rfl) ?_ ?_;rotate_left;(focus (intro wS hS;(try dsimp only at hS);go_split_ands;go_simp;(try with_reducible rfl);done));simp only [Act.put,pu1,pu2,pu3])))
    (refine cut_one (by decide) (by (simp only [ga1,ga2,ga3];exact rfl)) (by rfl) ?_;intro K hK;go_simp)
    refine (HCh.out _).mono ?_
    rintro e w10 ⟨rfl,hb10⟩
    have B3:=B2.trans (hb10.mono B2.size)
    have f4:w10.frozen? ⟨d.hb i,4,none⟩=false:=(HKB7.out.kept B3).frozen 4
    have g4:=cell_keep B3 y4
    refine hK.out _ _ ⟨g4,cell_keep B3 z0,cell_keep B3 z1,cell_keep B3 z2,cell_keep B3 z3⟩ (fun hH=>?_)
    clear hK K hH hb10 B2
    (try simp only [Act.put,pu1,pu2,pu3])
    (repeat (first | (refine cut_free (v:=?_) (by (simp only [ga1,ga2,ga3];exact rfl)) (by rfl) ?_ ?_;rotate_left;(focus (intro wS;go_simp;(try with_reducible rfl);done));simp only [Act.put,pu1,pu2,pu3]) | (refine cut_take (v:=?_) (by kernel_rfl) (by (simp only [ga1,ga2,ga3];exact rfl)) (by rfl) ?_ ?_;rotate_left;(focus (intro wS hS;(try dsimp only at hS);go_split_ands;go_simp;(try with_reducible rfl);done));simp only [Act.put,pu1,pu2,pu3])))
    (refine cut_here (by (simp only [ga1,ga2,ga3];exact rfl)) (by rfl) ?_;intro K hK;go_simp)
    refine hK.out _ _ ?_
    refine tree_nil ?_
    clear hK K
    have KB10:=HKB7.out.kept B3
    have KBf:Blk (w10.setCell ⟨d.hb i,4,none⟩ (.string hx)) (d.hb i) #[.int .i64 h.quota,.map (some (d.mb i)),.int .i64 (h.next:Nat),.slice A3 (h.ents.length+1) cap3,.string hx] 125:=KB10.setCell 4 _
    have own10:=own_set (own_below HOW7.out B3) KB10 (by decide) 4 (.string hx)
    have O10:Only (fun k=>k=d.hb i) w (w10.setCell ⟨d.hb i,4,none⟩ (.string hx)):=Only.setCell (S:=fun k=>k=d.hb i) (HO7.out.trans (Only.of_below B3)) (b:=d.hb i) (.inl rfl) 4 _
    generalize w10.setCell ⟨d.hb i,4,none⟩ (.string hx)=W11 at KBf own10 O10 ⊢
    have HKBf:=Lib.hid KBf
    have HOWf:=Lib.hid own10
    have HOf:=Lib.hid O10
    clear KBf own10 O10 KB10 f4 g4 B3
    go_wp2_with fail
    refine body_none rfl rfl ?_
    refine ⟨rfl,.slice A3 (h.ents.length+1) cap3,?_,HOf.out⟩
    have hmm:=HR.out.hm i h HI.out
    obtain ⟨nn,hnn,hsm⟩:=hmm
    have hmb:¬ (d.mb i=d.hb i):=fun e=>(show Of w (d.hb i) 125 from ⟨_,_,HKH.out⟩).map_ne hsm e.symm
    refine HR.out.upd HI.out (Nat.le_refl _) _ (HOf.out.mono (fun k _ hk=>.inl hk)) ?_ ⟨nn,hnn,hsm.block (HOf.out.block _ hsm.lt hmb)⟩ ?_ ?_ ?_
    · have:=HKBf.out
      rw [←HHX.out] at this
      exact this
    · have:=Reads.of_own HOWf.out
      rw [←show entArgs (noteN h.ents kind now sub)=entArgs h.ents++[.int .i64 ((h.ents.length:Int)+1),.int .i64 (kind:Int),.int .u64 (now:Int),.string sub] from entArgs_snoc _ _] at this
      rw [show (noteN h.ents kind now sub).length=h.ents.length+1 by unfold noteN;simp]
      exact this
    · intro k hk
      obtain ⟨cc,hcc⟩:=own_typed HOWf.out hk
      exact ⟨cc,_,hcc⟩
    · intro A' n' c' e'
      cases e'
      exact own_cap HOWf.out
  · intro K hK
    go_simp
    have B2:Below W0.heap.size W0 (V0.alloc (.cells #[.int .i64 ((h.ents.length:Int)+1),.int .i64 (kind:Int),.int .u64 (now:Int),.string sub] 103)):=B1.alloc B1.size _
    have KN:=cells_new V0 [.int .i64 ((h.ents.length:Int)+1),.int .i64 (kind:Int),.int .u64 (now:Int),.string sub] 103
    refine hK.out _ _ ⟨cell_keep B2 q3,cell_keep B2 e0,cell_keep B2 e1,cell_keep B2 e2,cell_keep B2 e3⟩ (fun hH=>?_)
    clear hK K hH
    (try simp only [Act.put,pu1,pu2,pu3])
    generalize hV1:V0.alloc (.cells #[.int .i64 ((h.ents.length:Int)+1),.int .i64 (kind:Int),.int .u64 (now:Int),.string sub] 103)=V1 at B2 ⊢
    have KN1:∀ (j:Nat) (u:Value),[.int .i64 ((h.ents.length:Int)+1),.int .i64 (kind:Int),.int .u64 (now:Int),.string sub][j]?=some u→V1.cell? ((⟨V0.heap.size,0,none⟩:Addr).add j)=some u:=by rw [←hV1];exact KN
    clear hV1 KN
    (repeat (first | (refine cut_free (v:=?_) (by (simp only [ga1,ga2,ga3];exact rfl)) (by rfl) ?_ ?_;rotate_left;(focus (intro wS;go_simp;(try with_reducible rfl);done));simp only [Act.put,pu1,pu2,pu3]) | (refine cut_take (v:=?_) (by kernel_rfl) (by (simp only [ga1,ga2,ga3];exact rfl)) (by rfl) ?_ ?_;rotate_left;(focus (intro wS hS;(try dsimp only at hS);go_split_ands;go_simp;(try with_reducible rfl);done));simp only [Act.put,pu1,pu2,pu3])))
    (refine cut_one (by decide) (by (simp only [ga1,ga2,ga3];exact rfl)) (by rfl) ?_;intro K hK;go_simp)
    refine (mod_clip A h.ents.length cap hcap hnz _).mono ?_
    rintro e w4 ⟨rfl,hu⟩
    obtain rfl:=hu.symm
    refine hK.out _ _ ⟨cell_keep B2 q3,cell_keep B2 e0,cell_keep B2 e1,cell_keep B2 e2,cell_keep B2 e3⟩ (fun hH=>?_)
    clear hK K hH hu
    (try simp only [Act.put,pu1,pu2,pu3])
    have hrd:Reads V1 (.slice A h.ents.length h.ents.length) h.ents.length 4 (entArgs h.ents):=by
      have:=(HRD.out.kept B0.out).kept B2
      rw [HEV.out] at this
      exact this.clip
    (repeat (first | (refine cut_free (v:=?_) (by (simp only [ga1,ga2,ga3];exact rfl)) (by rfl) ?_ ?_;rotate_left;(focus (intro wS;go_simp;(try with_reducible rfl);done));simp only [Act.put,pu1,pu2,pu3]) | (refine cut_take (v:=?_) (by kernel_rfl) (by (simp only [ga1,ga2,ga3];exact rfl)) (by rfl) ?_ ?_;rotate_left;(focus (intro wS hS;(try dsimp only at hS);go_split_ands;go_simp;(try with_reducible rfl);done));simp only [Act.put,pu1,pu2,pu3])))
    (refine cut_one (by decide) (by (simp only [ga1,ga2,ga3];exact rfl)) (by rfl) ?_;intro K hK)
    refine oper_append_full _ _ 33 rfl 103 i0 _ 4 40 Tryz.underlying33 ii iz0 iz1 iz2 rfl (by decide) A h.ents.length (entArgs h.ents) rfl hrd ⟨V0.heap.size,0,none⟩ 1 1 [.int .i64 ((h.ents.length:Int)+1),.int .i64 (kind:Int),.int .u64 (now:Int),.string sub] rfl rfl KN1 (by decide) (by unfold maxLen;omega) (by omega) ?_
    intro v' w6 own6 hb6
    obtain ⟨A3,cap3,rfl⟩:=own_form own6
    have B3:=B2.trans (hb6.mono B2.size)
    have g3:=cell_keep B3 q3
    have f3:w6.frozen? ⟨d.hb i,3,none⟩=false:=((HKH.out.kept B0.out).kept B3).frozen 3
    refine hK.out _ _ ⟨g3,cell_keep B3 e0,cell_keep B3 e1,cell_keep B3 e2,cell_keep B3 e3⟩ (fun hH=>?_)
    clear hK K hH
    (try simp only [Act.put,pu1,pu2,pu3])
    (repeat (first | (refine cut_free (v:=?_) (by (simp only [ga1,ga2,ga3];exact rfl)) (by rfl) ?_ ?_;rotate_left;(focus (intro wS;go_simp;(try with_reducible rfl);done));simp only [Act.put,pu1,pu2,pu3]) | (refine cut_take (v:=?_) (by kernel_rfl) (by (simp only [ga1,ga2,ga3];exact rfl)) (by rfl) ?_ ?_;rotate_left;(focus (intro wS hS;(try dsimp only at hS);go_split_ands;go_simp;(try with_reducible rfl);done));simp only [Act.put,pu1,pu2,pu3])))
    (refine cut_here (by (simp only [ga1,ga2,ga3];exact rfl)) (by rfl) ?_;intro K hK;go_simp)
    refine hK.out _ _ ?_
    refine tree_nil ?_
    have KB6:=(HKH.out.kept B0.out).kept B3
    have HBL:=Lib.hid hbl
    have KB7:Blk (w6.setCell ⟨d.hb i,3,none⟩ (.slice A3 (h.ents.length+1) cap3)) (d.hb i) #[.int .i64 h.quota,.map (some (d.mb i)),.int .i64 (h.next:Nat),.slice A3 (h.ents.length+1) cap3,.string ⟨(headN h.ents).toArray⟩] 125:=KB6.setCell 3 _
    have own7:=own_set own6 KB6 (by decide) 3 (.slice A3 (h.ents.length+1) cap3)
    have KE7:=Blk.setCell_ne (KE.out.kept B3) (show w.heap.size≠d.hb i by omega) 3 (.slice A3 (h.ents.length+1) cap3)
    have O7:Only (fun k=>k=d.hb i) w (w6.setCell ⟨d.hb i,3,none⟩ (.slice A3 (h.ents.length+1) cap3)):=Only.setCell (S:=fun k=>k=d.hb i) (Only.of_below (B0.out.trans (B3.mono B0.out.size))) (b:=d.hb i) (.inl rfl) 3 _
    rw [HH0.out] at KB7
    clear hK K f3 g3 B3 hb6 own6 KN1 B2 B1 hrd q3 q4 e0 e1 e2 e3 KB6
    generalize w6.setCell ⟨d.hb i,3,none⟩ (.slice A3 (h.ents.length+1) cap3)=W7 at KB7 own7 KE7 O7 ⊢
    have y4:=KB7.cell 4 (.string h0) rfl
    have z0:=KE7.cell 0 (.int .i64 ((h.ents.length:Int)+1)) rfl
    have z1:=KE7.cell 1 (.int .i64 (kind:Int)) rfl
    have z2:=KE7.cell 2 (.int .u64 (now:Int)) rfl
    have z3:=KE7.cell 3 (.string sub) rfl
    have HKB7:=Lib.hid KB7
    have HO7:=Lib.hid O7
    have HOW7:=Lib.hid own7
    clear KB7 own7 KE7 O7
    have B1:Below W7.heap.size W7 W7.drew:=(Below.refl _ W7).drew
    go_wp2_with fail
    refine region_cut (S:=fun w':World=>w'.cell? ⟨d.hb i,4,none⟩=some (.string h0)∧w'.cell? ⟨w.heap.size,0,none⟩=some (.int .i64 ((h.ents.length:Int)+1))∧w'.cell? ⟨w.heap.size,1,none⟩=some (.int .i64 (kind:Int))∧w'.cell? ⟨w.heap.size,2,none⟩=some (.int .u64 (now:Int))∧w'.cell? ⟨w.heap.size,3,none⟩=some (.string sub)) 10
      (.take 0 (.take 1 (.take 2 (.take 3 (.take 4 (.take 5 (.one 6 (.one 7 (.take 8 (.take 9 (.one 10 .nil)))))))))))
      (by kernel_rfl) (by kernel_rfl) (by kernel_rfl) (fun _ _ _ dst _ h=>by cases dst<;>exact h) ⟨y4,z0,z1,z2,z3⟩ (fun hH=>?_)
    clear hH
    generalize W7.drew=V8 at B1 ⊢
    (repeat (first | (refine cut_free (v:=?_) (by (simp only [ga1,ga2,ga3];exact rfl)) (by rfl) ?_ ?_;rotate_left;(focus (intro wS;go_simp;(try with_reducible rfl);done));simp only [Act.put,pu1,pu2,pu3]) | (refine cut_take (v:=?_) (by kernel_rfl) (by (simp only [ga1,ga2,ga3];exact rfl)) (by rfl) ?_ ?_;rotate_left;(focus (intro wS hS;(try dsimp only at hS);go_split_ands;go_simp;(try with_reducible rfl);done));simp only [Act.put,pu1,pu2,pu3])))
    (refine cut_one (by decide) (by (simp only [ga1,ga2,ga3];exact rfl)) (by rfl) ?_;intro K hK;go_simp)
    refine (HTx.out _).mono ?_
    rintro e w9 ⟨rfl,hb9⟩
    have B2:=B1.trans (hb9.mono B1.size)
    refine hK.out _ _ ⟨cell_keep B2 y4,cell_keep B2 z0,cell_keep B2 z1,cell_keep B2 z2,cell_keep B2 z3⟩ (fun hH=>?_)
    clear hK K hH hb9 B1
    (try simp only [Act.put,pu1,pu2,pu3])
    (repeat (first | (refine cut_free (v:=?_) (by (simp only [ga1,ga2,ga3];exact rfl)) (by rfl) ?_ ?_;rotate_left;(focus (intro wS;go_simp;(try with_reducible rfl);done));simp only [Act.put,pu1,pu2,pu3]) | (refine cut_take (v:=?_) (by kernel_rfl) (by (simp only [ga1,ga2,ga3];exact rfl)) (by rfl) ?_ ?_;rotate_left;(focus (intro wS hS;(try dsimp only at hS);go_split_ands;go_simp;(try with_reducible rfl);done));simp only [Act.put,pu1,pu2,pu3])))
    (refine cut_one (by decide) (by (simp only [ga1,ga2,ga3];exact rfl)) (by rfl) ?_;intro K hK;go_simp)
    refine (HCh.out _).mono ?_
    rintro e w10 ⟨rfl,hb10⟩
    have B3:=B2.trans (hb10.mono B2.size)
    have f4:w10.frozen? ⟨d.hb i,4,none⟩=false:=(HKB7.out.kept B3).frozen 4
    have g4:=cell_keep B3 y4
    refine hK.out _ _ ⟨g4,cell_keep B3 z0,cell_keep B3 z1,cell_keep B3 z2,cell_keep B3 z3⟩ (fun hH=>?_)
    clear hK K hH hb10 B2
    (try simp only [Act.put,pu1,pu2,pu3])
    (repeat (first | (refine cut_free (v:=?_) (by (simp only [ga1,ga2,ga3];exact rfl)) (by rfl) ?_ ?_;rotate_left;(focus (intro wS;go_simp;(try with_reducible rfl);done));simp only [Act.put,pu1,pu2,pu3]) | (refine cut_take (v:=?_) (by kernel_rfl) (by (simp only [ga1,ga2,ga3];exact rfl)) (by rfl) ?_ ?_;rotate_left;(focus (intro wS hS;(try dsimp only at hS);go_split_ands;go_simp;(try with_reducible rfl);done));simp only [Act.put,pu1,pu2,pu3])))
    (refine cut_here (by (simp only [ga1,ga2,ga3];exact rfl)) (by rfl) ?_;intro K hK;go_simp)
    refine hK.out _ _ ?_
    refine tree_nil ?_
    clear hK K
    have KB10:=HKB7.out.kept B3
    have KBf:Blk (w10.setCell ⟨d.hb i,4,none⟩ (.string hx)) (d.hb i) #[.int .i64 h.quota,.map (some (d.mb i)),.int .i64 (h.next:Nat),.slice A3 (h.ents.length+1) cap3,.string hx] 125:=KB10.setCell 4 _
    have own10:=own_set (own_below HOW7.out B3) KB10 (by decide) 4 (.string hx)
    have O10:Only (fun k=>k=d.hb i) w (w10.setCell ⟨d.hb i,4,none⟩ (.string hx)):=Only.setCell (S:=fun k=>k=d.hb i) (HO7.out.trans (Only.of_below B3)) (b:=d.hb i) (.inl rfl) 4 _
    generalize w10.setCell ⟨d.hb i,4,none⟩ (.string hx)=W11 at KBf own10 O10 ⊢
    have HKBf:=Lib.hid KBf
    have HOWf:=Lib.hid own10
    have HOf:=Lib.hid O10
    clear KBf own10 O10 KB10 f4 g4 B3
    go_wp2_with fail
    refine body_none rfl rfl ?_
    refine ⟨rfl,.slice A3 (h.ents.length+1) cap3,?_,HOf.out⟩
    have hmm:=HR.out.hm i h HI.out
    obtain ⟨nn,hnn,hsm⟩:=hmm
    have hmb:¬ (d.mb i=d.hb i):=fun e=>(show Of w (d.hb i) 125 from ⟨_,_,HKH.out⟩).map_ne hsm e.symm
    refine HR.out.upd HI.out (Nat.le_refl _) _ (HOf.out.mono (fun k _ hk=>.inl hk)) ?_ ⟨nn,hnn,hsm.block (HOf.out.block _ hsm.lt hmb)⟩ ?_ ?_ ?_
    · have:=HKBf.out
      rw [←HHX.out] at this
      exact this
    · have:=Reads.of_own HOWf.out
      rw [←show entArgs (noteN h.ents kind now sub)=entArgs h.ents++[.int .i64 ((h.ents.length:Int)+1),.int .i64 (kind:Int),.int .u64 (now:Int),.string sub] from entArgs_snoc _ _] at this
      rw [show (noteN h.ents kind now sub).length=h.ents.length+1 by unfold noteN;simp]
      exact this
    · intro k hk
      obtain ⟨cc,hcc⟩:=own_typed HOWf.out hk
      exact ⟨cc,_,hcc⟩
    · intro A' n' c' e'
      cases e'
      exact own_cap HOWf.out
end Go.Proofs.YtmdgeknnhckgfaaGreatDoor
namespace Go.Proofs.YtmdgeknnhckgfaaGreatDoor
open Go Go.RowKit
theorem getS_at:∀ {S:List Ses},Sorted S→∀ {k:Nat} {s:Ses},S[k]?=some s→getS S s.tok=s
  | [],_,k,s,h=>by simp at h
  | x::S,hs,0,s,h=>by
    simp at h
    subst h
    unfold getS
    simp
  | x::S,hs,k+1,s,h=>by
    have hs':Sorted S:=(List.pairwise_cons.1 hs).2
    have hlt:=(List.pairwise_cons.1 hs).1
    have h':S[k]?=some s:=by simpa using h
    have hne:¬ x.tok=s.tok:=(hlt s (List.mem_of_getElem? h')).ne
    have ih:=getS_at hs' h'
    unfold getS at ih ⊢
    rw [List.find?_cons]
    simp [hne]
    exact ih
variable {w w':World} {p N:Nat} {L:List Hs} {d:MD}
def RMl (w3:World) (S:List Ses) (now:Nat) (ov iv:Value) (W:World):Prop :=
  ∃ k:Nat,k≤S.length∧iv=.int .i64 (k:Nat)∧W.ownsRow w3.heap.size 90 4 ov (liveN (S.take k) now).length (sesArgs (liveN (S.take k) now))∧Below w3.heap.size w3 W
set_option maxRecDepth 100000 in
set_option maxHeartbeats 4000000 in
theorem mod_live (r:MIs w p N L d) {i:Nat} {h:Hs} (hi:L[i]?=some h) (hs:Sorted h.ses) (hsz:∀ s∈h.ses,s.tok.size≤maxLen) (hsm:h.ses.length≤1000) (now:Nat) :
    Calls Tryz.prog 58 #[.pointer (some ⟨d.hb i,0,none⟩),.int .u64 (now:Nat)] w fun e w'=>∃ v,e=.returned v∧w'.ownsRow w.heap.size 90 4 v (liveN h.ses now).length (sesArgs (liveN h.ses now))∧Below w.heap.size w w':=by
  obtain ⟨i0,ii,iz0,iz1,iz2⟩:=info_parts Tryz.info90
  have c1:=(r.hh i h hi).cell 1 (.map (some (d.mb i))) rfl
  obtain ⟨n,_,hm⟩:=r.hm i h hi
  have HM:=Lib.hid hm
  have HK:=Lib.hid (mod_sorted hm hs (by omega))
  have HS:=Lib.hid hs
  have HZ:=Lib.hid hsz
  have HC1:=Lib.hid c1
  clear r hm hs hsz
  go_enter Tryz.func58,Tryz.ntmps58
  go_wp2_with fail
  refine (mod_keys (d.mb i) w).mono ?_
  rintro e w1 ⟨rfl,hu⟩
  obtain rfl:=hu.symm
  clear hu
  go_wp2_with fail
  refine HK.out.mono ?_
  rintro e w3 ⟨v,rfl,own3,hb3⟩
  obtain ⟨A,cap,rfl⟩:=own_form own3
  have hbw:Below w.heap.size w w3:=((Below.refl _ w).alloc (Nat.le_refl _) _).trans (hb3.mono (by omega))
  have HT:=Lib.hid (Reads.of_own own3)
  have HBW:=Lib.hid hbw
  clear own3 hb3 hbw HK c1
  go_wp2_with fail
  go_loopw [5,16] (RMl w3 h.ses now) (fun _ v _=>h.ses.length - (intOf v).toNat)
  case atStart=>exact ⟨0,Nat.zero_le _,rfl,World.ownsRow_nil _ _ _ _,Below.refl _ _⟩
  case round =>
    obtain ⟨k,hk,rfl,hown,hb⟩:=hrel
    by_cases hlt:k<h.ses.length
    · obtain ⟨s,hsk⟩:=get_lt hlt
      have kl:(k:Int)<(h.ses.length:Int):=by omega
      have hmem:=List.mem_of_getElem? hsk
      obtain ⟨b1,o1,rfl,_,t0⟩:=Reads.str_at (HT.out.kept hb) (show (h.ses.map (·.tok))[k]?=some s.tok by rw [List.getElem?_map,hsk];rfl)
      have hbb:=HBW.out.trans (hb.mono HBW.out.size)
      have m1:=cell_keep hbb HC1.out
      have hl:=(HM.out.kept hbb).look s.tok (HZ.out s hmem)
      rw [getS_at HS.out hsk] at hl
      unfold sesV at hl
      have HO:=Lib.hid hown
      have HB:=Lib.hid hb
      have HST:=Lib.hid (liveN_step (now:=now) hsk)
      have hll:=liveN_len (h.ses.take k) now
      rw [List.length_take,Nat.min_eq_left hk] at hll
      clear hown hb hbb hmem
      have w1:IntKind.i64.wrap ((k:Int)+1)=(((k+1:Nat)):Int):=(IntWalk.i64_in _ (by omega)).trans (by omega)
      have p1:=Lib.hid (show (liveN (h.ses.take k) now).length+1≤maxLen by unfold maxLen;omega)
      have p2:=Lib.hid (show ((liveN (h.ses.take k) now).length+1)*56≤140737488355328 by omega)
      clear hll
      by_cases he:now<s.exp
      · have hst:=HST.out
        rw [if_pos he] at hst
        have HST2:=Lib.hid hst
        clear hst HST
        go_wp2_with (first
          | (refine wpList_store_new rfl 90 (Operand.tmp 8) (Operand.tmp 25) rfl rfl (sesArr s) rfl (by exact Tryz.size90) rfl (by simp [sesArr,Value.oneCell']) ?_;intro w4 hk4 hb4 hs4;have z0:=hk4.cell 0 (.string s.tok) rfl;have z1:=hk4.cell 1 (.string s.usr) rfl;have z2:=hk4.cell 2 (.string s.dat) rfl;have z3:=hk4.cell 3 (.int .u64 (s.exp:Nat)) rfl;have HB4:=Lib.hid hb4;have HO4:=Lib.hid (own_below HO.out hb4);have q2:=Lib.hid (show w3.heap.size≤w4.heap.size+1 by have:=hb4.size;have:=HB.out.size;omega);clear hk4 hb4 hs4)
          | (at_builtin;refine wpList_append_row rfl _ _ 56 rfl w3.heap.size 90 i0 _ 4 56 Tryz.underlying56 ii iz0 iz1 iz2 rfl (by decide) _ _ _ rfl (HO4.out.alloc _) ⟨w4.heap.size,0,none⟩ 1 1 (sesCells s) rfl rfl (cells_new w4 (sesCells s) 90) (by simp [sesCells,Value.oneCell']) p1.out p2.out (by rw [World.size_alloc];exact q2.out) ?_))
        intro v' w5 own5 hgr hfr
        have hb5:Below w3.heap.size w3 w5:=((HB.out.trans (HB4.out.mono HB.out.size)).alloc (Nat.le_trans HB.out.size HB4.out.size) _).grown hgr (by rw [World.size_alloc];exact q2.out) (fun j hj=>(HO4.out.lt j hj).1)
        have HB5:=Lib.hid hb5
        have HO5:=Lib.hid own5
        clear hgr hfr hb5 own5 hl m1 t0 z0 z1 z2 z3
        go_wp2_with fail
        go_roundw
        case rel=>exact ⟨k+1,hlt,rfl,by rw [HST2.out,List.length_append,sesArgs_snoc];exact HO5.out,HB5.out⟩
        case measure=>simp [intOf];omega
      · have hst:=HST.out
        rw [if_neg he] at hst
        have HST2:=Lib.hid hst
        have he':¬ (now:Int)<(s.exp:Int):=by omega
        clear hst HST
        go_wp2_with (refine wpList_store_new rfl 90 (Operand.tmp 8) (Operand.tmp 25) rfl rfl (sesArr s) rfl (by exact Tryz.size90) rfl (by simp [sesArr,Value.oneCell']) ?_;intro w4 hk4 hb4 hs4;have z0:=hk4.cell 0 (.string s.tok) rfl;have z1:=hk4.cell 1 (.string s.usr) rfl;have z2:=hk4.cell 2 (.string s.dat) rfl;have z3:=hk4.cell 3 (.int .u64 (s.exp:Nat)) rfl;have HB4:=Lib.hid hb4;have HO4:=Lib.hid (own_below HO.out hb4);have q2:=Lib.hid (show w3.heap.size≤w4.heap.size+1 by have:=hb4.size;have:=HB.out.size;omega);clear hk4 hb4 hs4)
        go_roundw
        case rel=>exact ⟨k+1,hlt,rfl,by rw [HST2.out];exact HO4.out,HB.out.trans (HB4.out.mono HB.out.size)⟩
        case measure=>simp [intOf];omega
    · have hK:k=h.ses.length:=by omega
      rw [hK,List.take_length] at hown
      have kl:¬ (k:Int)<(h.ses.length:Int):=by omega
      have HO:=Lib.hid (own_base hown HBW.out.size)
      have HB:=Lib.hid (HBW.out.trans (hb.mono HBW.out.size))
      clear hown hb hK
      go_wp2_with fail
      go_ret
      exact ⟨_,rfl,HO.out,HB.out⟩
end Go.Proofs.YtmdgeknnhckgfaaGreatDoor
namespace Go.Proofs.YtmdgeknnhckgfaaGreatDoor
open Go Go.RowKit
variable {w w':World} {p N:Nat} {L:List Hs} {d:MD}
def livesN (L:List Hs) (t:Int) (now:Nat):List Ses:=match houseN L t with | none=>[] | some h=>liveN h.ses now
set_option maxRecDepth 100000 in
theorem mod_Live (r:MIs w p N L d) (hok:∀ h∈L,Sorted h.ses∧(∀ s∈h.ses,s.tok.size≤maxLen)∧h.ses.length≤1000) (t:Int) (now:Nat) :
    Calls Tryz.prog 34 #[.pointer (some ⟨p,0,none⟩),.int .i64 t,.int .u64 (now:Nat)] w fun e w'=>∃ v,e=.returned v∧w'.ownsRow w.heap.size 90 4 v (livesN L t now).length (sesArgs (livesN L t now))∧Below w.heap.size w w':=by
  have HH:=Lib.hid (mod_house r t)
  cases hh:houseN L t with
  | none =>
    have hv:houV L d t=.pointer none:=by
      unfold houV
      rw [if_neg]
      rintro ⟨h0,h1⟩
      unfold houseN at hh
      rw [if_pos h0,List.getElem?_eq_none_iff] at hh
      omega
    have hl:livesN L t now=[]:=by unfold livesN;rw [hh]
    rw [hv] at HH
    rw [hl]
    clear hl hv hh r hok
    go_enter Tryz.func34,Tryz.ntmps34
    go_wp2_with fail
    refine HH.out.mono ?_
    rintro e w1 ⟨rfl,hu⟩
    obtain rfl:=hu.symm
    clear hu
    go_wp2_with fail
    go_ret
    exact ⟨_,rfl,World.ownsRow_nil _ _ _ _,Below.refl _ _⟩
  | some h =>
    obtain ⟨h0,h1,h2⟩:=houseN_some hh
    have hv:houV L d t=.pointer (some ⟨d.hb t.toNat,0,none⟩):=by
      unfold houV
      rw [if_pos ⟨h0,by omega⟩]
    have hl:livesN L t now=liveN h.ses now:=by unfold livesN;rw [hh]
    obtain ⟨k1,k2,k3⟩:=hok h (List.mem_of_getElem? h2)
    have HLv:=Lib.hid (mod_live r h2 k1 k2 k3 now)
    rw [hv] at HH
    rw [hl]
    clear hl hv hh r hok h0 h1 h2 k1 k2 k3
    go_enter Tryz.func34,Tryz.ntmps34
    go_wp2_with fail
    refine HH.out.mono ?_
    rintro e w1 ⟨rfl,hu⟩
    obtain rfl:=hu.symm
    clear hu
    go_wp2_with fail
    refine HLv.out.mono ?_
    rintro e w2 ⟨v,rfl,h1,h2⟩
    have H1:=Lib.hid h1
    have H2:=Lib.hid h2
    clear h1 h2
    go_wp2_with fail
    go_ret
    exact ⟨_,rfl,H1.out,H2.out⟩
end Go.Proofs.YtmdgeknnhckgfaaGreatDoor
namespace Go.Proofs.YtmdgeknnhckgfaaGreatDoor
open Go Go.RowKit
variable {w w':World} {p N:Nat} {L:List Hs} {d:MD}
def nextN (L:List Hs) (t:Int):Nat:=match houseN L t with | none=>0 | some h=>h.next
theorem houV_none {t:Int} (hh:houseN L t=none):houV L d t=.pointer none:=by
  unfold houV
  rw [if_neg]
  rintro ⟨h0,h1⟩
  unfold houseN at hh
  rw [if_pos h0,List.getElem?_eq_none_iff] at hh
  omega
theorem houV_some {t:Int} {h:Hs} (hh:houseN L t=some h):houV L d t=.pointer (some ⟨d.hb t.toNat,0,none⟩):=by
  obtain ⟨h0,h1,h2⟩:=houseN_some hh
  unfold houV
  rw [if_pos ⟨h0,by omega⟩]
set_option maxRecDepth 100000 in
theorem mod_Next (r:MIs w p N L d) (t:Int) :
    Calls Tryz.prog 90 #[.pointer (some ⟨p,0,none⟩),.int .i64 t] w fun e w'=>e=.returned (.int .i64 (nextN L t:Nat))∧w'=w:=by
  have HH:=Lib.hid (mod_house r t)
  cases hh:houseN L t with
  | none =>
    have hl:nextN L t=0:=by unfold nextN;rw [hh]
    rw [houV_none hh] at HH
    rw [hl]
    clear hl hh r
    go_enter Tryz.func90,Tryz.ntmps90
    go_wp2_with fail
    refine HH.out.mono ?_
    rintro e w1 ⟨rfl,hu⟩
    obtain rfl:=hu.symm
    clear hu
    go_wp2_with fail
    go_ret
    exact ⟨rfl,rfl⟩
  | some h =>
    obtain ⟨h0,h1,h2⟩:=houseN_some hh
    have hl:nextN L t=h.next:=by unfold nextN;rw [hh]
    have c2:=(r.hh _ h h2).cell 2 (.int .i64 (h.next:Nat)) rfl
    rw [houV_some hh] at HH
    rw [hl]
    clear hl hh r h0 h1 h2
    go_enter Tryz.func90,Tryz.ntmps90
    go_wp2_with fail
    refine HH.out.mono ?_
    rintro e w1 ⟨rfl,hu⟩
    obtain rfl:=hu.symm
    clear hu
    go_wp2_with fail
    go_ret
    exact ⟨rfl,rfl⟩
end Go.Proofs.YtmdgeknnhckgfaaGreatDoor
namespace Go.Proofs.YtmdgeknnhckgfaaGreatDoor
open Go Go.RowKit
theorem insN_front {s:Ses}:∀ {l:List Ses},(∀ x∈l,SLt s.tok x.tok)→insN s l=s::l
  | [],_=>rfl
  | x::l,h=>by
    unfold insN
    rw [if_neg (fun hx=>SLt.irrefl _ ((h x (List.mem_cons_self ..)).trans hx))]
theorem filter_away {tok:ByteArray}:∀ {l:List Ses},(∀ x∈l,x.tok≠tok)→l.filter (fun x=>!decide (x.tok=tok))=l
  | [],_=>rfl
  | x::l,h=>by
    rw [List.filter_cons,filter_away (fun y hy=>h y (List.mem_cons_of_mem _ hy))]
    simp [h x (List.mem_cons_self ..)]
theorem setExp_away {tok:ByteArray} {e:Nat}:∀ {l:List Ses},(∀ x∈l,x.tok≠tok)→l.map (setExp tok e)=l
  | [],_=>rfl
  | x::l,h=>by
    rw [List.map_cons,setExp_away (fun y hy=>h y (List.mem_cons_of_mem _ hy))]
    unfold setExp
    rw [str_beq_false.2 (h x (List.mem_cons_self ..))]
    rfl
theorem set_plain {tok:ByteArray} {e:Nat}:∀ {S:List Ses},Sorted S→hasS S tok=true→insN { getS S tok with exp:=e } (S.filter fun x=>!decide (x.tok=tok))=S.map (setExp tok e)
  | [],_,h=>by simp [hasS] at h
  | x::S,hs,h=>by
    have hs':Sorted S:=(List.pairwise_cons.1 hs).2
    have hlt:=(List.pairwise_cons.1 hs).1
    by_cases hx:x.tok=tok
    · have h2:getS (x::S) tok=x:=by unfold getS;simp [hx]
      have haw:∀ y∈S,y.tok≠tok:=fun y hy=>by rw [←hx];exact (hlt y hy).ne.symm
      rw [h2,List.filter_cons,if_neg (by simp [hx]),filter_away haw,List.map_cons,setExp_away haw,insN_front (s:={ x with exp:=e }) hlt]
      unfold setExp
      rw [str_beq.2 hx]
      rfl
    · have h1:hasS S tok=true:=by unfold hasS at h ⊢;simpa [hx] using h
      have h2:getS (x::S) tok=getS S tok:=by unfold getS;simp [hx]
      have ih:=set_plain (e:=e) hs' h1
      have hgt:(getS S tok).tok=tok:=by
        unfold getS
        cases hf:S.find? (fun s=>decide (s.tok=tok)) with
        | none =>
          rw [List.find?_eq_none] at hf
          unfold hasS at h1
          rw [List.any_eq_true] at h1
          obtain ⟨y,hy,he⟩:=h1
          exact absurd he (hf y hy)
        | some y=>have:=List.find?_some hf;simpa using this
      have hmem:∃ y∈S,y.tok=tok:=by
        unfold hasS at h1
        rw [List.any_eq_true] at h1
        obtain ⟨y,hy,he⟩:=h1
        exact ⟨y,hy,by simpa using he⟩
      obtain ⟨y,hy,hyt⟩:=hmem
      have hxl:SLt x.tok ({ getS S tok with exp:=e }:Ses).tok:=by
        show SLt x.tok (getS S tok).tok
        rw [hgt,←hyt]
        exact hlt y hy
      rw [h2,List.filter_cons,if_pos (by simp [hx]),List.map_cons,←ih]
      unfold insN
      rw [if_pos hxl]
      unfold setExp
      rw [str_beq_false.2 hx]
      cases S.filter (fun x=>!decide (x.tok=tok))<;>rfl
end Go.Proofs.YtmdgeknnhckgfaaGreatDoor
namespace Go.Proofs.YtmdgeknnhckgfaaGreatDoor
open Go Go.RowKit
variable {w w':World} {p N:Nat} {L:List Hs} {d:MD}
theorem MIs.apart (r:MIs w p N L d) {k:Nat} {t:TypeId} (h:Of w k t) (h1:t≠120) (h2:t≠121) (h3:t≠125) (h4:t≠103):¬ (k=p∨k=d.g∨d.own L.length k∨∃ i,i<L.length∧(d.ev i).ownBlock=some k):=by
  rintro (rfl | rfl | ⟨i,hi,rfl | rfl⟩ | ⟨i,hi,hk⟩)
  · exact h.ne (show Of w k 120 from ⟨_,_,r.hp⟩) h1 rfl
  · obtain ⟨cur,hb,_⟩:=r.hg
    exact h.ne (show Of w d.g 121 from ⟨_,_,hb⟩) h2 rfl
  · obtain ⟨x,hx⟩:=get_lt hi
    exact h.ne (show Of w (d.hb i) 125 from ⟨_,_,r.hh i x hx⟩) h3 rfl
  · obtain ⟨x,hx⟩:=get_lt hi
    obtain ⟨n,_,hm⟩:=r.hm i x hx
    exact h.map_ne hm rfl
  · exact h.ne (r.ht i k hi hk) h4 rfl
theorem MIs.only (r:MIs w p N L d) {ab:Nat} {t:TypeId} (ho:Only (fun k=>k=ab) w w') (hab:Of w ab t) (h1:t≠120) (h2:t≠121) (h3:t≠125) (h4:t≠103):MIs w' p N L d :=
  r.keep ho.size (fun k hk=>ho.block k (r.lt hk) (by rintro rfl;exact r.apart hab h1 h2 h3 h4 hk))
theorem oper_put_S {w:World} {o:Oper} {a:Act} {K:Act→World→Prop} {Q:Exit→Act→World→Prop} {b n:Nat} {l:List Ses} (m x v:Operand) (hop:o.op=Op.mapUpdate 122 m x v) (hm:a.eval m=.map (some b)) (g:SMap w b n l) (hn:n<maxLen) (s:Ses) (ht:s.tok.size≤maxLen) (hx:a.eval x=.string s.tok) (hv:a.eval v=sesV s)
    (h:∀ w',SMap w' b (n+1) (insN s (l.filter fun x=>!decide (x.tok=s.tok)))→w.mapTurned w' b→K (a.put o.dst undef) w'):Oper.wp Tryz.prog o a w K Q:=by
  obtain ⟨w',hrun,r1,r2⟩:=g.put hn s ht
  unfold Oper.wp
  simp [execOp,hop,hm,hx,hv,hrun,Result.andThen]
  exact h w' r1 r2
theorem MIs.turn {N':Nat} (r:MIs w p N L d) {i:Nat} {h:Hs} (hi:L[i]?=some h) (hN:N≤N') (ht:w.mapTurned w' (d.mb i)) {S:List Ses} (hm:∃ n,n≤N'∧SMap w' (d.mb i) n S):MIs w' p N' (L.set i { h with ses:=S }) d:=by
  have hil:=(List.getElem?_eq_some_iff.1 hi).1
  have ho:=turned_only ht
  obtain ⟨n0,_,hm0⟩:=r.hm i h hi
  have obi:Of w (d.hb i) 125:=⟨_,_,r.hh i h hi⟩
  have e1:w'.heap[d.hb i]?=w.heap[d.hb i]?:=ho.block _ obi.lt (obi.map_ne hm0)
  have hev:=r.ht i
  have:=r.upd (w':=w') (h':={ h with ses:=S }) hi hN (d.ev i) (ho.mono (fun k _ hk=>.inr hk)) (e1.trans (r.hh i h hi)) hm
    (Reads.block (r.he i h hi) ho.size (fun b hb=>ho.block b (hev b hil hb).lt ((hev b hil hb).map_ne hm0)))
    (fun k hk=>(hev k hil hk).block (ho.block k (hev k hil hk).lt ((hev k hil hk).map_ne hm0)))
    (fun A n c e=>r.hc i A n c hil e)
  rw [setAt_id] at this
  exact this
end Go.Proofs.YtmdgeknnhckgfaaGreatDoor
