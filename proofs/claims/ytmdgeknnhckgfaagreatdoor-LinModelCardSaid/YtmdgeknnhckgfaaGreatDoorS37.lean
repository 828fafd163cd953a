/-
  Parts of the proof of the law LinModel: MCre, MKnd.
-/
import Derived.Test.YtmdgeknnhckgfaaGreatDoorS26
import Derived.Test.YtmdgeknnhckgfaaGreatDoorS36
set_option linter.unusedSimpArgs false
set_option linter.unusedVariables false
namespace Go.Proofs.YtmdgeknnhckgfaaGreatDoor
open Go Go.RowKit
variable {w w':World} {p N:Nat} {L:List Hs} {d:MD}
theorem MIs.setNext (r:MIs w p N L d) {i:Nat} {h:Hs} (hi:L[i]?=some h) (n:Nat) :
    MIs (w.setCell ⟨d.hb i,2,none⟩ (.int .i64 (n:Nat))) p N (L.set i { h with next:=n }) d:=by
  have hil:=(List.getElem?_eq_some_iff.1 hi).1
  obtain ⟨n0,hn0,hm0⟩:=r.hm i h hi
  have hb:=r.hh i h hi
  have obi:Of w (d.hb i) 125:=⟨_,_,hb⟩
  have ho:Only (fun k=>k=d.hb i) w (w.setCell ⟨d.hb i,2,none⟩ (.int .i64 (n:Nat))):=only_set _ _ _ _
  have hk:Blk (w.setCell ⟨d.hb i,2,none⟩ (.int .i64 (n:Nat))) (d.hb i) (hsArr { h with next:=n } (d.mb i) (d.ev i)) 125:=hb.setCell 2 _
  have hev:=r.ht i
  have:=r.upd (w':=w.setCell ⟨d.hb i,2,none⟩ (.int .i64 (n:Nat))) (h':={ h with next:=n }) hi (Nat.le_refl N) (d.ev i) (ho.mono (fun k _ hk=>.inl hk)) hk
    ⟨n0,hn0,hm0.block (ho.block _ hm0.lt (fun e=>obi.map_ne hm0 e.symm))⟩
    (Reads.block (r.he i h hi) ho.size (fun b hb=>ho.block b (hev b hil hb).lt ((hev b hil hb).ne obi (by decide))))
    (fun k hk=>(hev k hil hk).block (ho.block k (hev k hil hk).lt ((hev k hil hk).ne obi (by decide))))
    (fun A n c e=>r.hc i A n c hil e)
  rw [setAt_id] at this
  exact this
def RNm (w:World) (c:Cl) (s:Ses) (v:Value) (W:World):Prop :=
  ∃ sb,v=.pointer (some ⟨sb,0,none⟩)∧Blk W sb (sesCells s).toArray 90∧Box w W 1 c.ten c.tok c.usr c.dat c.ttl c.frm c.draw∧w.heap.size+1<sb
set_option maxRecDepth 100000 in
set_option maxHeartbeats 8000000 in
theorem mod_create (r:MIs w p N L d) {i:Nat} {h:Hs} (hi:L[i]?=some h) {n:Nat} (hok:HsOk n h) (hn:n≤1000) (hN:N<1000) (c:Cl) (hcok:c.Ok) (now:Nat) (hnow:now<18446744073709551616) (hkd:c.kind=1) :
    Calls Tryz.prog 94 #[.pointer (some ⟨d.hb i,0,none⟩),clV c,.int .u64 (now:Nat)] w (MDo w p N L d i ((createN h c now).1,L.set i (createN h c now).2)):=by
  have HR:=Lib.hid r
  have HI:=Lib.hid hi
  have t1:=two_blocks w 1 c.ten c.tok c.usr c.dat c.ttl c.frm c.draw
  have B0:=Lib.hid (fun W hb=>Box.kept (W':=W) ⟨t1.1,t1.2.1,t1.2.2⟩ hb)
  have HNm:=Lib.hid (mod_Name c.usr hcok.usr)
  have HVl:=Lib.hid (mod_Valid c.dat hcok.dat)
  have HTl:=Lib.hid (mod_ttl c.ttl)
  have HOK:=Lib.hid hok
  have HCK:=Lib.hid hcok
  have hset:L.set i h=L:=set_self hi
  obtain ⟨post,hpost⟩:∃ x,x=(createN h c now):=⟨_,rfl⟩
  rw [←hpost]
  unfold clV
  rw [hkd]
  clear t1 r hi hok hcok hkd
  by_cases hcb:createB c=false
  · have hF:=Lib.hid (show (post.1,L.set i post.2)=(badA 400,L) by rw [hpost];unfold createN;rw [if_pos hcb];simp only;rw [hset])
    unfold createB at hcb
    clear hpost hset
    by_cases b1:nameN c.usr=true
    · rw [b1] at HNm
      by_cases b2:c.dat.size≤512
      · have n2:(c.dat.size:Int)≤512:=by omega
        by_cases b3:validN c.dat=true
        · have b4:ttlN c.ttl=false:=by
            rw [b1,b3,decide_eq_true b2] at hcb
            simpa using hcb
          rw [b3] at HVl
          rw [b4] at HTl
          clear hcb b1 b2 b3 b4
          go_enter Tryz.func94,Tryz.ntmps94
          go_wp2_with fail
          refine (HNm.out _).mono ?_
          rintro e w1 ⟨rfl,hb1⟩
          have BX1:=B0.out w1 hb1
          have x4:=BX1.box.cell 4 _ rfl
          go_wp2_with fail
          refine (HVl.out _).mono ?_
          rintro e w2 ⟨rfl,hb2⟩
          have BX:=BX1.kept hb2
          have x5:=BX.box.cell 5 _ rfl
          clear BX1 x4 hb1 hb2
          go_wp2_with fail
          refine (HTl.out _).mono ?_
          rintro e w3 ⟨rfl,hw3⟩
          obtain rfl:=hw3.symm
          clear hw3
          go_wp2_with fail
          refine (mod_refuse 400 _).mono ?_
          rintro e w9 ⟨rfl,hb9⟩
          have bx9:=BX.kept hb9
          go_wp2_with (refine wpList_store_blk rfl 35 (Operand.tmp 6) (Operand.tmp 31) rfl (w.heap.size+1) rfl zero14 _ 35 rfl bx9.ans (by exact Tryz.size35) rfl (by simp [ansArr,Ans.zero,Value.oneCell']) ?_;intro w10 hk10 ho10 hs10)
          refine body_cell rfl rfl rfl hk10 Tryz.underlying35 rfl (by exact Tryz.size35) ?_
          have hbx:Below w.heap.size w w10:=bx9.below.trans (ho10.below bx9.below.size (fun k hk=>by rw [hk];exact Nat.le_succ _))
          rw [anV_bad 400 (refN 400) rfl,hF.out]
          exact MDo.same HR.out i hbx (AnM.plain _ _ rfl rfl)
        · rw [Bool.not_eq_true] at b3
          rw [b3] at HVl
          clear hcb b1 b3
          have d2:decide ((512:Int)<(c.dat.size:Int))=false:=decide_eq_false (by omega)
          clear b2
          go_enter Tryz.func94,Tryz.ntmps94
          go_wp2_with fail
          refine (HNm.out _).mono ?_
          rintro e w1 ⟨rfl,hb1⟩
          have BX1:=B0.out w1 hb1
          have x4:=BX1.box.cell 4 _ rfl
          go_wp2_with fail
          refine (HVl.out _).mono ?_
          rintro e w2 ⟨rfl,hb2⟩
          have BX:=BX1.kept hb2
          clear BX1 x4 hb1 hb2
          go_wp2_with fail
          refine (mod_refuse 400 _).mono ?_
          rintro e w9 ⟨rfl,hb9⟩
          have bx9:=BX.kept hb9
          go_wp2_with (refine wpList_store_blk rfl 35 (Operand.tmp 6) (Operand.tmp 31) rfl (w.heap.size+1) rfl zero14 _ 35 rfl bx9.ans (by exact Tryz.size35) rfl (by simp [ansArr,Ans.zero,Value.oneCell']) ?_;intro w10 hk10 ho10 hs10)
          refine body_cell rfl rfl rfl hk10 Tryz.underlying35 rfl (by exact Tryz.size35) ?_
          have hbx:Below w.heap.size w w10:=bx9.below.trans (ho10.below bx9.below.size (fun k hk=>by rw [hk];exact Nat.le_succ _))
          rw [anV_bad 400 (refN 400) rfl,hF.out]
          exact MDo.same HR.out i hbx (AnM.plain _ _ rfl rfl)
      · have n2:(512:Int)<(c.dat.size:Int):=by omega
        clear hcb b1 b2
        go_enter Tryz.func94,Tryz.ntmps94
        go_wp2_with fail
        refine (HNm.out _).mono ?_
        rintro e w1 ⟨rfl,hb1⟩
        have BX:=B0.out w1 hb1
        have x4:=BX.box.cell 4 _ rfl
        clear hb1
        go_wp2_with fail
        refine (mod_refuse 400 _).mono ?_
        rintro e w9 ⟨rfl,hb9⟩
        have bx9:=BX.kept hb9
        go_wp2_with (refine wpList_store_blk rfl 35 (Operand.tmp 6) (Operand.tmp 31) rfl (w.heap.size+1) rfl zero14 _ 35 rfl bx9.ans (by exact Tryz.size35) rfl (by simp [ansArr,Ans.zero,Value.oneCell']) ?_;intro w10 hk10 ho10 hs10)
        refine body_cell rfl rfl rfl hk10 Tryz.underlying35 rfl (by exact Tryz.size35) ?_
        have hbx:Below w.heap.size w w10:=bx9.below.trans (ho10.below bx9.below.size (fun k hk=>by rw [hk];exact Nat.le_succ _))
        rw [anV_bad 400 (refN 400) rfl,hF.out]
        exact MDo.same HR.out i hbx (AnM.plain _ _ rfl rfl)
    · rw [Bool.not_eq_true] at b1
      rw [b1] at HNm
      clear hcb b1
      go_enter Tryz.func94,Tryz.ntmps94
      go_wp2_with fail
      refine (HNm.out _).mono ?_
      rintro e w1 ⟨rfl,hb1⟩
      have BX:=B0.out w1 hb1
      clear hb1
      go_wp2_with fail
      refine (mod_refuse 400 _).mono ?_
      rintro e w9 ⟨rfl,hb9⟩
      have bx9:=BX.kept hb9
      go_wp2_with (refine wpList_store_blk rfl 35 (Operand.tmp 6) (Operand.tmp 31) rfl (w.heap.size+1) rfl zero14 _ 35 rfl bx9.ans (by exact Tryz.size35) rfl (by simp [ansArr,Ans.zero,Value.oneCell']) ?_;intro w10 hk10 ho10 hs10)
      refine body_cell rfl rfl rfl hk10 Tryz.underlying35 rfl (by exact Tryz.size35) ?_
      have hbx:Below w.heap.size w w10:=bx9.below.trans (ho10.below bx9.below.size (fun k hk=>by rw [hk];exact Nat.le_succ _))
      rw [anV_bad 400 (refN 400) rfl,hF.out]
      exact MDo.same HR.out i hbx (AnM.plain _ _ rfl rfl)
  · obtain ⟨b1,b2,b3,b4⟩:=createB_of hcb
    rw [b1] at HNm
    rw [b3] at HVl
    rw [b4] at HTl
    have tl:=ttlN_of b4
    obtain ⟨tl1,tl2⟩:=tl
    have d2:decide ((512:Int)<(c.dat.size:Int))=false:=decide_eq_false (by omega)
    have HCB:=Lib.hid hcb
    have HPO:=Lib.hid hpost
    have HSET:=Lib.hid hset
    clear hcb b1 b2 b3 b4 hpost hset
    go_enter Tryz.func94,Tryz.ntmps94
    go_wp2_with fail
    refine (HNm.out _).mono ?_
    rintro e w1 ⟨rfl,hb1⟩
    have BX1:=B0.out w1 hb1
    have x4:=BX1.box.cell 4 _ rfl
    go_wp2_with fail
    refine (HVl.out _).mono ?_
    rintro e w2 ⟨rfl,hb2⟩
    have BX:=BX1.kept hb2
    have x5:=BX.box.cell 5 _ rfl
    clear BX1 x4 hb1 hb2 d2
    go_wp2_with fail
    refine (HTl.out _).mono ?_
    rintro e w3 ⟨rfl,hw3⟩
    obtain rfl:=hw3.symm
    clear hw3 HNm HVl HTl x5
    have HBX:=Lib.hid BX
    go_upto_region 3 with fail
    go_cut [32] from 33 to 85 (fun v W=>v=.bool (decide (h.quota≤((liveN h.ses now).length:Int)))∧Box w W 1 c.ten c.tok c.usr c.dat c.ttl c.frm c.draw)
    case first =>
      have r2:=HR.out.kept HBX.out.below
      have y2:=(r2.hh i h HI.out).cell 0 (.int .i64 h.quota) rfl
      have HL:=Lib.hid (mod_live (r2.keep (w':=w2.drew) (Nat.le_refl _) (fun _ _=>rfl)) HI.out HOK.out.sorted (fun s hs=>by have:=(HOK.out.sizes s hs).tok;unfold maxLen;omega) (by have:=HOK.out.len;omega) now)
      have hBB:=Lib.hid BX
      clear r2 BX
      refine region_plan (S:=fun w':World=>w'.cell? ⟨d.hb i,0,none⟩=some (.int .i64 h.quota))
        ((0,true)::(1,true)::(4,true)::(5,true)::(6,true)::(7,true)::(2,false)::(3,true)::(8,true)::(9,true)::[])
        (by kernel_rfl) (by kernel_rfl) (by kernel_rfl) (by kernel_rfl) (fun _ _ _ dst _ h=>by cases dst<;>exact h) y2 (fun hH=>?_)
      clear hH
      (repeat (first | (refine plan_take (v:=?_) (by (simp only [ga1,ga2,ga3];exact rfl)) (by rfl) ?_ ?_;rotate_left;(focus (intro wS hS;(try dsimp only at hS);go_split_ands;go_simp;(try with_reducible rfl)));simp only [Act.put,pu1,pu2,pu3]) | (refine plan_skip (by (simp only [ga1,ga2,ga3];exact rfl)) (by rfl) ?_;simp only [Act.put,pu1,pu2,pu3])))
      (refine plan_solo (by (simp only [ga1,ga2,ga3];exact rfl)) (by rfl) ?_;intro K hK;go_simp)
      refine HL.out.mono ?_
      rintro e w4 ⟨v,rfl,own4,hb4⟩
      obtain ⟨A',cap',rfl⟩:=own_form own4
      have hb4':Below w2.heap.size w2 w4:=(Below.refl _ w2).drew.trans hb4
      refine hK.out _ _ (cell_keep hb4' y2) (fun hH=>?_)
      clear hK K hH own4 hb4
      (try simp only [Act.put,pu1,pu2,pu3])
      (repeat (first | (refine plan_take (v:=?_) (by (simp only [ga1,ga2,ga3];exact rfl)) (by rfl) ?_ ?_;rotate_left;(focus (intro wS hS;(try dsimp only at hS);go_split_ands;go_simp;(try with_reducible rfl)));simp only [Act.put,pu1,pu2,pu3]) | (refine plan_skip (by (simp only [ga1,ga2,ga3];exact rfl)) (by rfl) ?_;simp only [Act.put,pu1,pu2,pu3])))
      refine plan_nil ?_
      have BX4:=hBB.out.kept hb4'
      clear hb4' y2 HL hBB HBX
      go_wp2_with fail
      go_meet
      case rel=>exact ⟨rfl,BX4⟩
    case rest =>
      obtain ⟨rfl,BX⟩:=hcut
      clear HBX
      by_cases hq:h.quota≤((liveN h.ses now).length:Int)
      · have hF:=Lib.hid (show (post.1,L.set i post.2)=(badA 429,L) by rw [HPO.out];unfold createN;rw [if_neg HCB.out,if_pos hq];simp only;rw [HSET.out])
        have d1:decide (h.quota≤((liveN h.ses now).length:Int))=true:=decide_eq_true hq
        rw [d1]
        clear hq d1
        go_wp2_with fail
        refine (mod_refuse 429 _).mono ?_
        rintro e w9 ⟨rfl,hb9⟩
        have bx9:=BX.kept hb9
        go_wp2_with (refine wpList_store_blk rfl 35 (Operand.tmp 6) (Operand.tmp 42) rfl (w.heap.size+1) rfl zero14 _ 35 rfl bx9.ans (by exact Tryz.size35) rfl (by simp [ansArr,Ans.zero,Value.oneCell']) ?_;intro w10 hk10 ho10 hs10)
        refine body_cell rfl rfl rfl hk10 Tryz.underlying35 rfl (by exact Tryz.size35) ?_
        have hbx:Below w.heap.size w w10:=bx9.below.trans (ho10.below bx9.below.size (fun k hk=>by rw [hk];exact Nat.le_succ _))
        rw [anV_bad 429 (refN 429) rfl,hF.out]
        exact MDo.same HR.out i hbx (AnM.plain _ _ rfl rfl)
      · obtain ⟨tn,htn⟩:∃ tn:Nat,c.ttl=(tn:Int):=⟨c.ttl.toNat,by omega⟩
        have hF:=Lib.hid (show (post.1,L.set i post.2)=({ status:=201,tok:=tokB h.next c.draw,exp:=untilN now tn },L.set i { h with ses:=insN ⟨tokB h.next c.draw,c.usr,c.dat,untilN now tn⟩ h.ses,next:=h.next+1,ents:=noteN h.ents 1 now (tokB h.next c.draw) }) by
          rw [HPO.out];unfold createN;rw [if_neg HCB.out,if_neg hq,htn];rfl)
        have d1:decide (h.quota≤((liveN h.ses now).length:Int))=false:=decide_eq_false hq
        rw [d1]
        clear d1
        have HTok:=mod_token h.next c.draw (by have:=HOK.out.next;omega) HCK.out.draw
        have HUnt:=mod_until now tn (by omega)
        have htsz:=tokB_size h.next c.draw
        have hne:∀ x∈h.ses,x.tok≠tokB h.next c.draw:=by
          intro x hx' e
          obtain ⟨m,d,hm,e2⟩:=HOK.out.toks x hx'
          rw [e2] at e
          have hnx:=HOK.out.next
          have:=tokB_inj (by omega) (by omega) e
          omega
        obtain ⟨tk,htk⟩:∃ x,tokB h.next c.draw=x:=⟨_,rfl⟩
        obtain ⟨ex,hex⟩:∃ x,untilN now tn=x:=⟨_,rfl⟩
        rw [htk] at htsz hne
        unfold tokB at htk
        rw [htk] at HTok
        rw [hex] at HUnt
        rw [show tokB h.next c.draw=tk from htk,hex] at hF
        replace HTok:=Lib.hid HTok
        replace HUnt:=Lib.hid HUnt
        have HNE:=Lib.hid hne
        have HTSZ:=Lib.hid htsz
        clear htk hex hne htsz
        have HTN:=Lib.hid htn
        rw [htn] at tl1 tl2
        have HBX:=Lib.hid BX
        have nx:(h.next:Int)≤1001:=by have:=HOK.out.next;omega
        clear hq htn BX
        go_upto_region 5 with fail
        go_cut [7] from 43 to 85 (RNm w c ⟨tk,c.usr,c.dat,ex⟩)
        case first =>
          have q1:wc.cell? ⟨d.hb i,2,none⟩=some (.int .i64 (h.next:Nat)):=((HR.out.kept HBX.out.below).hh i h HI.out).cell 2 _ rfl
          have q2:=HBX.out.box.cell 3 (.string c.usr) rfl
          have q3:=HBX.out.box.cell 4 (.string c.dat) rfl
          have q4:wc.cell? ⟨w.heap.size,5,none⟩=some (.int .i64 (tn:Int)):=HBX.out.box.cell 5 _ (by rw [←HTN.out];rfl)
          have q5:=HBX.out.box.cell 7 (.int .u64 (c.draw:Int)) rfl
          have B1:Below wc.heap.size wc wc.drew:=(Below.refl _ wc).drew
          have w1:IntKind.u64.wrap (h.next:Int)=(h.next:Int):=by rw [IntKind.wrap_u64];omega
          refine region_tree (S:=fun w':World=>w'.cell? ⟨d.hb i,2,none⟩=some (.int .i64 (h.next:Nat))∧w'.cell? ⟨w.heap.size,3,none⟩=some (.string c.usr)∧w'.cell? ⟨w.heap.size,4,none⟩=some (.string c.dat)∧w'.cell? ⟨w.heap.size,5,none⟩=some (.int .i64 (tn:Int))∧w'.cell? ⟨w.heap.size,7,none⟩=some (.int .u64 (c.draw:Int)))
            (.take 0 (.take 1 (.take 2 (.take 3 (.take 4 (.take 5 (.take 6 (.take 8 (.take 9 (.take 10 (.take 11 (.take 12 (.take 13 (.take 14 (.two 7 (.two 15 (.take 16 (.one 17 (.one 18 .nil))) 17 (.one 15 (.take 16 (.one 18 .nil)))) 17 (.one 7 (.one 15 (.take 16 (.one 18 .nil)))))))))))))))))))
            (by kernel_rfl) (by kernel_rfl) (by kernel_rfl) (fun _ _ _ dst _ h=>by cases dst<;>exact h) ⟨q1,q2,q3,q4,q5⟩ (fun hH=>?_)
          clear hH
          (repeat (refine tree_take (v:=?_) (by (simp only [ga1,ga2,ga3];exact rfl)) (by rfl) ?_ ?_;rotate_left;(focus (intro wS hS;(try dsimp only at hS);go_split_ands;go_simp;(try with_reducible rfl)));simp only [Act.put,pu1,pu2,pu3]))
          clear w1
          refine tree_two (by (simp only [ga1,ga2,ga3];exact rfl)) (by rfl) (by (simp only [ga1,ga2,ga3];exact rfl)) (by rfl) ?_ ?_
          · intro K hK
            go_simp
            refine (HTok.out _).mono ?_
            rintro e w3 ⟨rfl,hbX⟩
            have B2:Below wc.heap.size wc w3:=B1.trans (hbX.mono B1.size)
            refine hK.out _ _ ⟨cell_keep B2 q1,cell_keep B2 q2,cell_keep B2 q3,cell_keep B2 q4,cell_keep B2 q5⟩ (fun hH=>?_)
            clear hK K hH hbX
            (try simp only [Act.put,pu1,pu2,pu3])
            (repeat (refine tree_take (v:=?_) (by (simp only [ga1,ga2,ga3];exact rfl)) (by rfl) ?_ ?_;rotate_left;(focus (intro wS hS;(try dsimp only at hS);go_split_ands;go_simp;(try with_reducible rfl)));simp only [Act.put,pu1,pu2,pu3]))
            refine tree_two (by (simp only [ga1,ga2,ga3];exact rfl)) (by rfl) (by (simp only [ga1,ga2,ga3];exact rfl)) (by rfl) ?_ ?_
            · intro K hK
              go_simp
              refine (HUnt.out _).mono ?_
              rintro e w4 ⟨rfl,hwX⟩
              obtain rfl:=hwX.symm
              clear hwX
              refine hK.out _ _ ⟨cell_keep B2 q1,cell_keep B2 q2,cell_keep B2 q3,cell_keep B2 q4,cell_keep B2 q5⟩ (fun hH=>?_)
              clear hK K hH
              (try simp only [Act.put,pu1,pu2,pu3])
              (repeat (refine tree_take (v:=?_) (by (simp only [ga1,ga2,ga3];exact rfl)) (by rfl) ?_ ?_;rotate_left;(focus (intro wS hS;(try dsimp only at hS);go_split_ands;go_simp;(try with_reducible rfl)));simp only [Act.put,pu1,pu2,pu3]))
              (refine tree_one (by (simp only [ga1,ga2,ga3];exact rfl)) (by rfl) ?_;intro K hK;go_simp)
              have B3:Below wc.heap.size wc (w3.alloc (.cells zero4 90)):=B2.alloc B2.size _
              have K3:=Blk.new w3 zero4 90
              refine hK.out _ _ ⟨cell_keep B3 q1,cell_keep B3 q2,cell_keep B3 q3,cell_keep B3 q4,cell_keep B3 q5⟩ (fun hH=>?_)
              clear hK K hH
              (try simp only [Act.put,pu1,pu2,pu3])
              (repeat (refine tree_take (v:=?_) (by (simp only [ga1,ga2,ga3];exact rfl)) (by rfl) ?_ ?_;rotate_left;(focus (intro wS hS;(try dsimp only at hS);go_split_ands;go_simp;(try with_reducible rfl)));simp only [Act.put,pu1,pu2,pu3]))
              (refine tree_one (by (simp only [ga1,ga2,ga3];exact rfl)) (by rfl) ?_;intro K hK)
              refine oper_store_blk 90 (Operand.tmp 7) (Operand.tmp 59) rfl w3.heap.size rfl zero4 #[.string tk,.string c.usr,.string c.dat,.int .u64 (ex:Int)] 90 rfl K3 (by exact Tryz.size90) rfl (by simp [Value.oneCell']) ?_
              intro w9 hk9 ho9 hs9
              have BF:Below wc.heap.size wc w9:=B3.trans (ho9.below B3.size (fun k hk=>by rw [hk];exact B2.size))
              refine hK.out _ _ ⟨cell_keep BF q1,cell_keep BF q2,cell_keep BF q3,cell_keep BF q4,cell_keep BF q5⟩ (fun hH=>?_)
              clear hK K hH
              (try simp only [Act.put,pu1,pu2,pu3])
              refine tree_nil ?_
              have hsb:w.heap.size+1<w3.heap.size:=Nat.lt_of_lt_of_le HBX.out.ans.lt B2.size
              have BX9:=HBX.out.kept BF
              clear q1 q2 q3 q4 q5 BF
              go_wp2_with fail
              go_meet
              case rel=>exact ⟨_,rfl,hk9,BX9,hsb⟩
            · intro K hK
              go_simp
              have B3:Below wc.heap.size wc (w3.alloc (.cells zero4 90)):=B2.alloc B2.size _
              have K3:=Blk.new w3 zero4 90
              refine hK.out _ _ ⟨cell_keep B3 q1,cell_keep B3 q2,cell_keep B3 q3,cell_keep B3 q4,cell_keep B3 q5⟩ (fun hH=>?_)
              clear hK K hH
              (try simp only [Act.put,pu1,pu2,pu3])
              (repeat (refine tree_take (v:=?_) (by (simp only [ga1,ga2,ga3];exact rfl)) (by rfl) ?_ ?_;rotate_left;(focus (intro wS hS;(try dsimp only at hS);go_split_ands;go_simp;(try with_reducible rfl)));simp only [Act.put,pu1,pu2,pu3]))
              (refine tree_one (by (simp only [ga1,ga2,ga3];exact rfl)) (by rfl) ?_;intro K hK;go_simp)
              refine (HUnt.out _).mono ?_
              rintro e w4 ⟨rfl,hwX⟩
              obtain rfl:=hwX.symm
              clear hwX
              refine hK.out _ _ ⟨cell_keep B3 q1,cell_keep B3 q2,cell_keep B3 q3,cell_keep B3 q4,cell_keep B3 q5⟩ (fun hH=>?_)
              clear hK K hH
              (try simp only [Act.put,pu1,pu2,pu3])
              (repeat (refine tree_take (v:=?_) (by (simp only [ga1,ga2,ga3];exact rfl)) (by rfl) ?_ ?_;rotate_left;(focus (intro wS hS;(try dsimp only at hS);go_split_ands;go_simp;(try with_reducible rfl)));simp only [Act.put,pu1,pu2,pu3]))
              (refine tree_one (by (simp only [ga1,ga2,ga3];exact rfl)) (by rfl) ?_;intro K hK)
              refine oper_store_blk 90 (Operand.tmp 7) (Operand.tmp 59) rfl w3.heap.size rfl zero4 #[.string tk,.string c.usr,.string c.dat,.int .u64 (ex:Int)] 90 rfl K3 (by exact Tryz.size90) rfl (by simp [Value.oneCell']) ?_
              intro w9 hk9 ho9 hs9
              have BF:Below wc.heap.size wc w9:=B3.trans (ho9.below B3.size (fun k hk=>by rw [hk];exact B2.size))
              refine hK.out _ _ ⟨cell_keep BF q1,cell_keep BF q2,cell_keep BF q3,cell_keep BF q4,cell_keep BF q5⟩ (fun hH=>?_)
              clear hK K hH
              (try simp only [Act.put,pu1,pu2,pu3])
              refine tree_nil ?_
              have hsb:w.heap.size+1<w3.heap.size:=Nat.lt_of_lt_of_le HBX.out.ans.lt B2.size
              have BX9:=HBX.out.kept BF
              clear q1 q2 q3 q4 q5 BF
              go_wp2_with fail
              go_meet
              case rel=>exact ⟨_,rfl,hk9,BX9,hsb⟩
          · intro K hK
            go_simp
            have B2:Below wc.heap.size wc (wc.drew.alloc (.cells zero4 90)):=B1.alloc B1.size _
            have K2:=Blk.new wc.drew zero4 90
            refine hK.out _ _ ⟨cell_keep B2 q1,cell_keep B2 q2,cell_keep B2 q3,cell_keep B2 q4,cell_keep B2 q5⟩ (fun hH=>?_)
            clear hK K hH
            (try simp only [Act.put,pu1,pu2,pu3])
            (repeat (refine tree_take (v:=?_) (by (simp only [ga1,ga2,ga3];exact rfl)) (by rfl) ?_ ?_;rotate_left;(focus (intro wS hS;(try dsimp only at hS);go_split_ands;go_simp;(try with_reducible rfl)));simp only [Act.put,pu1,pu2,pu3]))
            (refine tree_one (by (simp only [ga1,ga2,ga3];exact rfl)) (by rfl) ?_;intro K hK;go_simp)
            refine (HTok.out _).mono ?_
            rintro e w3 ⟨rfl,hbX⟩
            have B3:Below wc.heap.size wc w3:=B2.trans (hbX.mono B2.size)
            have K3:=K2.kept hbX
            refine hK.out _ _ ⟨cell_keep B3 q1,cell_keep B3 q2,cell_keep B3 q3,cell_keep B3 q4,cell_keep B3 q5⟩ (fun hH=>?_)
            clear hK K hH hbX
            (try simp only [Act.put,pu1,pu2,pu3])
            (repeat (refine tree_take (v:=?_) (by (simp only [ga1,ga2,ga3];exact rfl)) (by rfl) ?_ ?_;rotate_left;(focus (intro wS hS;(try dsimp only at hS);go_split_ands;go_simp;(try with_reducible rfl)));simp only [Act.put,pu1,pu2,pu3]))
            (refine tree_one (by (simp only [ga1,ga2,ga3];exact rfl)) (by rfl) ?_;intro K hK;go_simp)
            refine (HUnt.out _).mono ?_
            rintro e w4 ⟨rfl,hwX⟩
            obtain rfl:=hwX.symm
            clear hwX
            refine hK.out _ _ ⟨cell_keep B3 q1,cell_keep B3 q2,cell_keep B3 q3,cell_keep B3 q4,cell_keep B3 q5⟩ (fun hH=>?_)
            clear hK K hH
            (try simp only [Act.put,pu1,pu2,pu3])
            (repeat (refine tree_take (v:=?_) (by (simp only [ga1,ga2,ga3];exact rfl)) (by rfl) ?_ ?_;rotate_left;(focus (intro wS hS;(try dsimp only at hS);go_split_ands;go_simp;(try with_reducible rfl)));simp only [Act.put,pu1,pu2,pu3]))
            (refine tree_one (by (simp only [ga1,ga2,ga3];exact rfl)) (by rfl) ?_;intro K hK)
            refine oper_store_blk 90 (Operand.tmp 7) (Operand.tmp 59) rfl wc.drew.heap.size rfl zero4 #[.string tk,.string c.usr,.string c.dat,.int .u64 (ex:Int)] 90 rfl K3 (by exact Tryz.size90) rfl (by simp [Value.oneCell']) ?_
            intro w9 hk9 ho9 hs9
            have BF:Below wc.heap.size wc w9:=B3.trans (ho9.below B3.size (fun k hk=>by rw [hk];exact B1.size))
            refine hK.out _ _ ⟨cell_keep BF q1,cell_keep BF q2,cell_keep BF q3,cell_keep BF q4,cell_keep BF q5⟩ (fun hH=>?_)
            clear hK K hH
            (try simp only [Act.put,pu1,pu2,pu3])
            refine tree_nil ?_
            have hsb:w.heap.size+1<wc.drew.heap.size:=Nat.lt_of_lt_of_le HBX.out.ans.lt B1.size
            have BX9:=HBX.out.kept BF
            clear q1 q2 q3 q4 q5 BF
            go_wp2_with fail
            go_meet
            case rel=>exact ⟨_,rfl,hk9,BX9,hsb⟩
        case rest =>
          obtain ⟨sb,rfl,hsb,BX,hlt⟩:=hcut
          have kh:=(HR.out.kept BX.below).hh i h HI.out
          have q1:wc.cell? ⟨d.hb i,2,none⟩=some (.int .i64 (h.next:Nat)):=kh.cell 2 _ rfl
          have f1:=kh.frozen 2
          have hhl:d.hb i<w.heap.size:=HR.out.lt (.inr (.inr (.inl ⟨i,(List.getElem?_eq_some_iff.1 HI.out).1,.inl rfl⟩)))
          have r7:=(HR.out.kept BX.below).setNext HI.out (h.next+1)
          have e1:(((h.next+1:Nat)):Int)=(h.next:Int)+1:=by omega
          rw [e1] at r7
          have KS7:=hsb.setCell_ne (show sb≠d.hb i by omega) 2 (.int .i64 ((h.next:Int)+1))
          have KX7:=BX.box.setCell_ne (show w.heap.size≠d.hb i by omega) 2 (.int .i64 ((h.next:Int)+1))
          have KA7:=BX.ans.setCell_ne (show w.heap.size+1≠d.hb i by omega) 2 (.int .i64 ((h.next:Int)+1))
          have O7:=(Only.of_below (S:=fun k=>k=d.hb i∨k=d.mb i) BX.below).setCell (b:=d.hb i) (.inl (.inl rfl)) 2 (.int .i64 ((h.next:Int)+1))
          have HKS:=Lib.hid KS7
          have HKX:=Lib.hid KX7
          have HKA:=Lib.hid KA7
          have HO7:=Lib.hid O7
          have HR7:=Lib.hid r7
          clear KS7 KX7 KA7 O7 r7 kh BX hsb HTok HUnt HBX e1
          go_wp2_with fail
          clear q1 f1
          generalize wc.setCell ⟨d.hb i,2,none⟩ (.int .i64 ((h.next:Int)+1))=W7 at HKS HKX HKA HO7 HR7 ⊢
          have HI1:=Lib.hid (show (L.set i { h with next:=h.next+1 })[i]?=some { h with next:=h.next+1 } by rw [List.getElem?_set_self (List.getElem?_eq_some_iff.1 HI.out).1])
          have q1:=(HR7.out.hh i _ HI1.out).cell 1 (.map (some (d.mb i))) rfl
          obtain ⟨n7,hn7,hm7⟩:=HR7.out.hm i _ HI1.out
          have z0:=HKS.out.cell 0 (.string tk) rfl
          have z1:=HKS.out.cell 1 (.string c.usr) rfl
          have z2:=HKS.out.cell 2 (.string c.dat) rfl
          have z3:=HKS.out.cell 3 (.int .u64 (ex:Int)) rfl
          have HM7:=Lib.hid hm7
          have HN7:=Lib.hid hn7
          clear hm7 hn7
          refine region_plan (S:=fun w':World=>w'.cell? ⟨d.hb i,1,none⟩=some (.map (some (d.mb i)))∧w'.cell? ⟨sb,0,none⟩=some (.string tk)∧w'.cell? ⟨sb,1,none⟩=some (.string c.usr)∧w'.cell? ⟨sb,2,none⟩=some (.string c.dat)∧w'.cell? ⟨sb,3,none⟩=some (.int .u64 (ex:Int)))
            ((0,true)::(1,true)::(2,true)::(3,true)::(4,true)::(5,true)::(6,true)::(7,false)::[])
            (by kernel_rfl) (by kernel_rfl) (by kernel_rfl) (by kernel_rfl) (fun _ _ _ dst _ h=>by cases dst<;>exact h) ⟨q1,z0,z1,z2,z3⟩ (fun hH=>?_)
          clear hH
          (repeat (first | (refine plan_take (v:=?_) (by (simp only [ga1,ga2,ga3];exact rfl)) (by rfl) ?_ ?_;rotate_left;(focus (intro wS hS;(try dsimp only at hS);go_split_ands;go_simp;(try with_reducible rfl)));simp only [Act.put,pu1,pu2,pu3]) | (refine plan_skip (by (simp only [ga1,ga2,ga3];exact rfl)) (by rfl) ?_;simp only [Act.put,pu1,pu2,pu3])))
          (refine plan_solo (by (simp only [ga1,ga2,ga3];exact rfl)) (by rfl) ?_;intro K hK)
          refine oper_put_S (Operand.tmp 70) (Operand.tmp 72) (Operand.tmp 73) rfl rfl (HM7.out.block (w':=W7.drew) rfl) (by have:=HN7.out;unfold maxLen;omega) ⟨tk,c.usr,c.dat,ex⟩ (by show tk.size≤maxLen;rw [HTSZ.out];unfold maxLen;omega) rfl rfl ?_
          intro w8 g8 m8
          have o8:=turned_only m8
          have km:∀ k t,Of W7 k t→w8.heap[k]?=W7.heap[k]?:=fun k t hk=>o8.block k hk.lt (hk.map_ne HM7.out)
          have ohb:Of W7 (d.hb i) 125:=⟨_,_,HR7.out.hh i _ HI1.out⟩
          have KS8:Blk w8 sb #[.string tk,.string c.usr,.string c.dat,.int .u64 (ex:Int)] 90:=(km _ _ ⟨_,_,HKS.out⟩).trans HKS.out
          have q8:w8.cell? ⟨d.hb i,1,none⟩=some (.map (some (d.mb i))):=(World.cell?_of_block (a:=⟨d.hb i,1,none⟩) (km _ _ ohb)).trans q1
          have y0:=KS8.cell 0 (.string tk) rfl
          have y1:=KS8.cell 1 (.string c.usr) rfl
          have y2:=KS8.cell 2 (.string c.dat) rfl
          have y3:=KS8.cell 3 (.int .u64 (ex:Int)) rfl
          refine hK.out _ _ ⟨q8,y0,y1,y2,y3⟩ (fun hH=>?_)
          clear hK K hH
          (try simp only [Act.put,pu1,pu2,pu3])
          refine plan_nil ?_
          have r7d:MIs W7.drew p N (L.set i { h with next:=h.next+1 }) d:=HR7.out.keep (Nat.le_refl _) (fun _ _=>rfl)
          have hfa:h.ses.filter (fun x=>!decide (x.tok=tk))=h.ses:=filter_away HNE.out
          have g8':SMap w8 (d.mb i) (n7+1) (insN ⟨tk,c.usr,c.dat,ex⟩ h.ses):=by rw [←hfa];exact g8
          have r8:=r7d.turn HI1.out (Nat.le_succ N) m8 ⟨n7+1,by have:=HN7.out;omega,g8'⟩
          rw [List.set_set] at r8
          have hi8:(L.set i { h with next:=h.next+1,ses:=insN ⟨tk,c.usr,c.dat,ex⟩ h.ses })[i]?=some { h with next:=h.next+1,ses:=insN ⟨tk,c.usr,c.dat,ex⟩ h.ses }:=List.getElem?_set_self (List.getElem?_eq_some_iff.1 HI.out).1
          have hents:=HOK.out.ents
          have HNt:=Lib.hid (mod_note r8 hi8 (by show h.ents.length≤1000;omega) 1 now tk ⟨by show h.ents.length+1<_;omega,by show (1:Nat)<_;decide,hnow,by show tk.size≤_;rw [HTSZ.out];omega⟩)
          have KB8:=(km _ _ ⟨_,_,HKX.out⟩).trans HKX.out
          have KA8:Blk w8 (w.heap.size+1) zero14 35:=(km _ _ ⟨_,_,HKA.out⟩).trans HKA.out
          have b0:w8.cell? ⟨w.heap.size,0,none⟩=some (.int .i64 1):=Blk.cell KB8 0 (.int .i64 1) rfl
          have O8:Only (fun k=>k=d.hb i∨k=d.mb i) w w8:=HO7.out.trans ((Only.refl _ _).drew.trans (o8.mono (fun k _ hk=>.inr hk)))
          have HO8:=Lib.hid O8
          have HKS8:=Lib.hid KS8
          have HKA8:=Lib.hid KA8
          clear KB8 KA8 O8 KS8 km o8 ohb r8 r7d g8 g8' hfa m8 q8 hi8 z0 z1 z2 z3 q1 y1 y2 y3
          go_wp2_with fail
          refine HNt.out.mono ?_
          rintro e w9 ⟨rfl,ev9,r9,o9⟩
          have KS9:Blk w9 sb #[.string tk,.string c.usr,.string c.dat,.int .u64 (ex:Int)] 90:=(o9.block sb HKS8.out.lt (by omega)).trans HKS8.out
          have KA9:Blk w9 (w.heap.size+1) zero14 35:=(o9.block _ HKA8.out.lt (by omega)).trans HKA8.out
          have v0:=KS9.cell 0 (.string tk) rfl
          have v3:=KS9.cell 3 (.int .u64 (ex:Int)) rfl
          rw [List.set_set] at r9
          have HKA9:=Lib.hid KA9
          have HR9:=Lib.hid r9
          have HO9:=Lib.hid (HO8.out.trans (o9.mono (fun k _ hk=>.inl hk)))
          clear KS9 KA9 r9 o9 y0 b0
          go_wp2_with (refine wpList_store_blk rfl 35 (Operand.tmp 6) (Operand.tmp 85) rfl (w.heap.size+1) rfl zero14 (ansArr ⟨201,⟨#[]⟩,tk,⟨#[]⟩,⟨#[]⟩,(ex:Int),0,.slice none 0 0,.slice none 0 0,⟨#[]⟩,0,0,0,0⟩) 35 rfl HKA9.out (by exact Tryz.size35) rfl (by simp [ansArr,Value.oneCell']) ?_;intro w10 hk10 ho10 hs10)
          refine body_cell rfl rfl rfl hk10 Tryz.underlying35 rfl (by exact Tryz.size35) ?_
          rw [hF.out]
          refine ⟨_,ev9,rfl,HR9.out.only ho10 ⟨_,_,HKA9.out⟩ (by decide) (by decide) (by decide) (by decide),?_,AnM.plain _ { status:=201,tok:=tk,exp:=ex } rfl rfl⟩
          exact Only.trans2 HO9.out ho10 (fun k hk=>.inr (by rw [hk];omega))
end Go.Proofs.YtmdgeknnhckgfaaGreatDoor
namespace Go.Proofs.YtmdgeknnhckgfaaGreatDoor
open Go Go.RowKit
def kindV (k:Nat):Value:=.func (.func k) #[] #[]
def kindL:List (Int×Value):=[(1,kindV 94),(2,kindV 95),(3,kindV 96),(4,kindV 97),(5,kindV 98),(6,kindV 99),(7,kindV 100),(8,kindV 101),(9,kindV 102)]
set_option maxRecDepth 100000 in
theorem mod_kinds (w:World) :
    Calls Tryz.prog 72 #[] w fun e w'=>e=.returned (.map (some w.heap.size))∧IMap w' w.heap.size kindL∧Below w.heap.size w w':=by
  have hmm:=@run_makeMap Tryz.prog
  go_enter Tryz.func72,Tryz.ntmps72
  go_wp2_with (first
    | (refine wpList_insert_I rfl _ _ _ rfl Tryz.underlying151 Tryz.underlying3 rfl (IMap.made w) 1 rfl rfl (kindV 94) rfl ?_;intro w1 g1 m1)
    | (refine wpList_insert_I rfl _ _ _ rfl Tryz.underlying151 Tryz.underlying3 rfl g1 2 rfl rfl (kindV 95) rfl ?_;intro w2 g2 m2)
    | (refine wpList_insert_I rfl _ _ _ rfl Tryz.underlying151 Tryz.underlying3 rfl g2 3 rfl rfl (kindV 96) rfl ?_;intro w3 g3 m3)
    | (refine wpList_insert_I rfl _ _ _ rfl Tryz.underlying151 Tryz.underlying3 rfl g3 4 rfl rfl (kindV 97) rfl ?_;intro w4 g4 m4)
    | (refine wpList_insert_I rfl _ _ _ rfl Tryz.underlying151 Tryz.underlying3 rfl g4 5 rfl rfl (kindV 98) rfl ?_;intro w5 g5 m5)
    | (refine wpList_insert_I rfl _ _ _ rfl Tryz.underlying151 Tryz.underlying3 rfl g5 6 rfl rfl (kindV 99) rfl ?_;intro w6 g6 m6)
    | (refine wpList_insert_I rfl _ _ _ rfl Tryz.underlying151 Tryz.underlying3 rfl g6 7 rfl rfl (kindV 100) rfl ?_;intro w7 g7 m7)
    | (refine wpList_insert_I rfl _ _ _ rfl Tryz.underlying151 Tryz.underlying3 rfl g7 8 rfl rfl (kindV 101) rfl ?_;intro w8 g8 m8)
    | (refine wpList_insert_I rfl _ _ _ rfl Tryz.underlying151 Tryz.underlying3 rfl g8 9 rfl rfl (kindV 102) rfl ?_;intro w9 g9 m9))
  go_ret
  refine ⟨rfl,g9,?_⟩
  have b1:Below w.heap.size w (w.alloc (.map #[] 0)):=(Below.refl _ w).alloc (Nat.le_refl _) _
  have b2:=b1.trans (turned_below m1 (B:=w.heap.size) (Nat.le_refl _))
  have b3:=b2.trans (turned_below m2 (B:=w.heap.size) (Nat.le_refl _))
  have b4:=b3.trans (turned_below m3 (B:=w.heap.size) (Nat.le_refl _))
  have b5:=b4.trans (turned_below m4 (B:=w.heap.size) (Nat.le_refl _))
  have b6:=b5.trans (turned_below m5 (B:=w.heap.size) (Nat.le_refl _))
  have b7:=b6.trans (turned_below m6 (B:=w.heap.size) (Nat.le_refl _))
  have b8:=b7.trans (turned_below m7 (B:=w.heap.size) (Nat.le_refl _))
  have b9:=b8.trans (turned_below m8 (B:=w.heap.size) (Nat.le_refl _))
  have b10:=b9.trans (turned_below m9 (B:=w.heap.size) (Nat.le_refl _))
  exact b10
end Go.Proofs.YtmdgeknnhckgfaaGreatDoor
