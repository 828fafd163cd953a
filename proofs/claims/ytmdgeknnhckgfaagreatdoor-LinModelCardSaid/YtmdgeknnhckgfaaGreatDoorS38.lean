/-
  Parts of the proof of the law LinModel: MDo.
-/
import Derived.Test.YtmdgeknnhckgfaaGreatDoorS09
import Derived.Test.YtmdgeknnhckgfaaGreatDoorS21
import Derived.Test.YtmdgeknnhckgfaaGreatDoorS26
import Derived.Test.YtmdgeknnhckgfaaGreatDoorS37
set_option linter.unusedSimpArgs false
set_option linter.unusedVariables false
namespace Go.Proofs.YtmdgeknnhckgfaaGreatDoor
open Go Go.RowKit
theorem oper_run {o:Oper} {a:Act} {w:World} {K:Act→World→Prop} {Q:Exit→Act→World→Prop} {b:Nat} {k:Int} {V:Value} (m x:Operand) (hop:o.op=Op.lookup 151 m x true) (hm:a.eval m=.map (some b)) (hx:a.eval x=.int .i64 k)
    (hr:(Instr.lookup 151 (.map (some b)) (.int .i64 k) true).run Tryz.prog w=.ok V w) (h:K (a.put o.dst V) w):Oper.wp Tryz.prog o a w K Q:=by
  unfold Oper.wp
  simp [execOp,hop,hm,hx,hr,Result.andThen]
  exact h
variable {w w':World} {p N:Nat} {L:List Hs} {d:MD}
theorem mod_kind (r:MIs w p N L d) {i:Nat} {h:Hs} (hi:L[i]?=some h) {n:Nat} (hok:HsOk n h) (hn:n≤256) (hN:N<1000) (c:Cl) (hc:c.Ok) (now:Nat) (hnow:now<18446744073709551616) :
    (∃ j K,findL c.kind kindL 0=some (j,kindV K)∧(94≤K∧K≤102)∧∀ W,Below w.heap.size w W→Calls Tryz.prog K #[.pointer (some ⟨d.hb i,0,none⟩),clV c,.int .u64 (now:Nat)] W (MDo W p N L d i ((doH h c now).1,L.set i (doH h c now).2))) ∨
    (findL c.kind kindL 0=none∧doH h c now=(badA 400,h)):=by
  have hz:∀ s∈h.ses,s.tok.size≤900000:=fun s hs=>by have:=(hok.sizes s hs).tok;omega
  have hz2:∀ s∈h.ses,s.tok.size≤maxLen:=fun s hs=>by have:=(hok.sizes s hs).tok;unfold maxLen;omega
  have hz3:∀ s∈h.ses,s.tok.size≤maxLen∧s.usr.size≤maxLen:=fun s hs=>by have h1:=(hok.sizes s hs).tok;have h2:=(hok.sizes s hs).usr;unfold maxLen;omega
  have he:h.ents.length≤1000:=by have:=hok.ents;omega
  have hl:h.ses.length≤256:=by have:=hok.len;omega
  have hnum:∀ (j:Nat) e,h.ents[j]?=some e→e.num=j+1:=fun j e hj=>(hok.nums j e hj).1
  by_cases k1:c.kind=1
  · refine .inl ⟨0,94,by rw [k1];rfl,by decide,fun W hb=>?_⟩
    unfold doH;rw [if_pos k1]
    exact mod_create (r.kept hb) hi hok (by omega) hN c hc now hnow k1
  by_cases k2:c.kind=2
  · refine .inl ⟨1,95,by rw [k2];rfl,by decide,fun W hb=>?_⟩
    unfold doH;rw [if_neg k1,if_pos k2]
    exact mod_get (r.kept hb) hi hok.sorted c hc now
  by_cases k3:c.kind=3
  · refine .inl ⟨2,96,by rw [k3];rfl,by decide,fun W hb=>?_⟩
    unfold doH;rw [if_neg k1,if_neg k2,if_pos k3]
    exact mod_touch (r.kept hb) hi hok.sorted he hN c hc hz k3 now hnow
  by_cases k4:c.kind=4
  · refine .inl ⟨3,97,by rw [k4];rfl,by decide,fun W hb=>?_⟩
    unfold doH;rw [if_neg k1,if_neg k2,if_neg k3,if_pos k4]
    exact mod_revoke (r.kept hb) hi hok.sorted he c hc hz k4 now hnow
  by_cases k5:c.kind=5
  · refine .inl ⟨4,98,by rw [k5];rfl,by decide,fun W hb=>?_⟩
    unfold doH;rw [if_neg k1,if_neg k2,if_neg k3,if_neg k4,if_pos k5]
    exact mod_revokeUser (r.kept hb) hi hok.sorted he hl c hc hz2 k5 now hnow
  by_cases k6:c.kind=6
  · refine .inl ⟨5,99,by rw [k6];rfl,by decide,fun W hb=>?_⟩
    unfold doH;rw [if_neg k1,if_neg k2,if_neg k3,if_neg k4,if_neg k5,if_pos k6]
    exact mod_revokeAll (r.kept hb) hi hok.sorted he hl c hz2 k6 now hnow
  by_cases k7:c.kind=7
  · refine .inl ⟨6,100,by rw [k7];rfl,by decide,fun W hb=>?_⟩
    unfold doH;rw [if_neg k1,if_neg k2,if_neg k3,if_neg k4,if_neg k5,if_neg k6,if_pos k7]
    exact mod_list (r.kept hb) hi hok.sorted hl c hc hz2 k7 now
  by_cases k8:c.kind=8
  · refine .inl ⟨7,101,by rw [k8];rfl,by decide,fun W hb=>?_⟩
    unfold doH;rw [if_neg k1,if_neg k2,if_neg k3,if_neg k4,if_neg k5,if_neg k6,if_neg k7,if_pos k8]
    exact mod_audit (r.kept hb) hi he hnum c hc k8 now
  by_cases k9:c.kind=9
  · refine .inl ⟨8,102,by rw [k9];rfl,by decide,fun W hb=>?_⟩
    unfold doH;rw [if_neg k1,if_neg k2,if_neg k3,if_neg k4,if_neg k5,if_neg k6,if_neg k7,if_neg k8,if_pos k9]
    exact mod_stats (r.kept hb) hi hok.sorted (by omega) c hz3 k9 now
  · refine .inr ⟨?_,?_⟩
    · unfold kindL
      simp only [findL,if_neg k1,if_neg k2,if_neg k3,if_neg k4,if_neg k5,if_neg k6,if_neg k7,if_neg k8,if_neg k9]
    · unfold doH
      rw [if_neg k1,if_neg k2,if_neg k3,if_neg k4,if_neg k5,if_neg k6,if_neg k7,if_neg k8,if_neg k9]
def MDn (w:World) (p N:Nat) (d:MD) (n:Nat) (r:An×List Hs) (e:Ending) (w':World):Prop :=
  ∃ v d',e=.returned v∧MIs w' p (N+1) r.2 d'∧d'.hb=d.hb∧d'.mb=d.mb∧Only (d.own n) w w'∧AnM w' r.1 v
theorem AnM.only {w w':World} {a:An} {v:Value} (h:AnM w a v) {ab:Nat} {t:TypeId} (ho:Only (fun k=>k=ab) w w') (hab:Of w ab t) (h1:t≠9) (h2:t≠103):AnM w' a v:=by
  obtain ⟨tv,ev,rfl,r1,r2,o1,o2⟩:=h
  have e1:∀ b,tv.ownBlock=some b→w'.heap[b]?=w.heap[b]?:=fun b hb=>ho.block b (o1 b hb).lt (by rintro rfl;exact hab.ne (o1 _ hb) h1 rfl)
  have e2:∀ b,ev.ownBlock=some b→w'.heap[b]?=w.heap[b]?:=fun b hb=>ho.block b (o2 b hb).lt (by rintro rfl;exact hab.ne (o2 _ hb) h2 rfl)
  exact ⟨tv,ev,rfl,Reads.block r1 ho.size e1,Reads.block r2 ho.size e2,fun b hb=>(o1 b hb).block (e1 b hb),fun b hb=>(o2 b hb).block (e2 b hb)⟩
theorem AnM.form {w:World} {a:An} {v:Value} (h:AnM w a v):∃ X:Array Value,v=.agg X∧X.size=14∧X.all (·.oneCell')=true:=by
  obtain ⟨tv,ev,rfl,r1,r2,_⟩:=h
  obtain ⟨A1,c1,rfl⟩:=r1.form
  obtain ⟨A2,c2,rfl⟩:=r2.form
  exact ⟨_,rfl,rfl,by simp [ansArr,Value.oneCell']⟩
theorem MDn.same (r:MIs w p N L d) {a:An} {v:Value} (hb:Below w.heap.size w w') (h:AnM w' a v):MDn w p N d L.length (a,L) (.returned v) w' :=
  ⟨v,d,rfl,(r.kept hb).mono (Nat.le_succ _),rfl,rfl,Only.of_below hb,h⟩
set_option maxRecDepth 100000 in
set_option maxHeartbeats 4000000 in
theorem mod_Do (r:MIs w p N L d) {n:Nat} (hok:∀ (i:Nat) h,L[i]?=some h→HsOk n h) (hn:n≤256) (hN:N<1000) (c:Cl) (hc:c.Ok) (now:Nat) (hnow:now<18446744073709551616) :
    Calls Tryz.prog 55 #[.pointer (some ⟨p,0,none⟩),clV c,.int .u64 (now:Nat)] w (MDn w p N d L.length (doN L c now)):=by
  have HR:=Lib.hid r
  have t1:=two_blocks w c.kind c.ten c.tok c.usr c.dat c.ttl c.frm c.draw
  have bx0:Box w _ c.kind c.ten c.tok c.usr c.dat c.ttl c.frm c.draw:=⟨t1.1,t1.2.1,t1.2.2⟩
  have HBX0:=Lib.hid bx0
  have HH:=Lib.hid (mod_house (r.kept bx0.below) c.ten)
  by_cases hin:0≤c.ten∧c.ten<(L.length:Int)
  · obtain ⟨i,hie⟩:∃ i:Nat,c.ten=(i:Int):=⟨c.ten.toNat,by omega⟩
    have hil:i<L.length:=by omega
    obtain ⟨h,hi⟩:=get_lt hil
    have HI:=Lib.hid hi
    have hhv:houV L d c.ten=.pointer (some ⟨d.hb i,0,none⟩):=by unfold houV;rw [if_pos hin,hie];rfl
    rw [hhv] at HH
    have hdo:doN L c now=((doH h c now).1,L.set i (doH h c now).2):=by
      unfold doN houseN
      rw [hie,if_pos (by omega),Int.toNat_natCast,hi]
    have hkk:=mod_kind (r.kept bx0.below) hi (hok i h hi) hn hN c hc now hnow
    rcases hkk with ⟨j,KF,hfi,hkf,hcall⟩ | ⟨hfi,hbad⟩
    · have HF:=Lib.hid hdo
      have HC:=Lib.hid hcall
      unfold clV at HC ⊢
      clear t1 bx0 r hok hin hie hi hhv hdo hcall
      go_enter Tryz.func55,Tryz.ntmps55
      go_wp2_with fail
      refine HH.out.mono ?_
      rintro e w1 ⟨rfl,hu⟩
      obtain rfl:=hu.symm
      clear hu
      have BX:=HBX0.out
      clear HBX0 HH
      obtain ⟨W0,hW0⟩:∃ W,(w.alloc (.cells #[.int .i64 c.kind,.int .i64 c.ten,.string c.tok,.string c.usr,.string c.dat,.int .i64 c.ttl,.int .i64 c.frm,.int .u64 (c.draw:Int)] 53)).alloc (.cells zero14 35)=W:=⟨_,rfl⟩
      rw [hW0] at BX
      go_wp2_with fail
      rw [hW0] at HC
      clear hW0
      have q1:=BX.box.cell 0 (.int .i64 c.kind) rfl
      refine region_plan (S:=fun w':World=>w'.cell? ⟨w.heap.size,0,none⟩=some (.int .i64 c.kind))
        ((1,true)::(2,true)::(0,false)::(3,false)::(4,true)::(5,true)::(6,true)::(7,true)::(8,true)::[])
        (by kernel_rfl) (by kernel_rfl) (by kernel_rfl) (by kernel_rfl) (fun _ _ _ dst _ h=>by cases dst<;>exact h) q1 (fun hH=>?_)
      clear hH
      (repeat (first | (refine plan_take (v:=?_) (by (simp only [ga1,ga2,ga3];exact rfl)) (by rfl) ?_ ?_;rotate_left;(focus (intro wS hS;(try dsimp only at hS);go_split_ands;go_simp;(try with_reducible rfl)));simp only [Act.put,pu1,pu2,pu3]) | (refine plan_skip (by (simp only [ga1,ga2,ga3];exact rfl)) (by rfl) ?_;simp only [Act.put,pu1,pu2,pu3])))
      (refine plan_solo (by (simp only [ga1,ga2,ga3];exact rfl)) (by rfl) ?_;intro K hK;go_simp)
      refine (mod_kinds _).mono ?_
      rintro e w5 ⟨rfl,im5,hb5⟩
      have B5:Below W0.heap.size W0 w5:=(Below.refl _ W0).drew.trans hb5
      have hlk:=im5.look_ok Tryz.underlying151 Tryz.underlying3 (z:=.nilFunc) (fun w=>Tryz.zeroValue149 w) c.kind
      refine hK.out _ _ (cell_keep B5 q1) (fun hH=>?_)
      clear hK K hH hb5 im5
      (try simp only [Act.put,pu1,pu2,pu3])
      (repeat (first | (refine plan_take (v:=?_) (by (simp only [ga1,ga2,ga3];exact rfl)) (by rfl) ?_ ?_;rotate_left;(focus (intro wS hS;(try dsimp only at hS);go_split_ands;go_simp;(try with_reducible rfl)));simp only [Act.put,pu1,pu2,pu3]) | (refine plan_skip (by (simp only [ga1,ga2,ga3];exact rfl)) (by rfl) ?_;simp only [Act.put,pu1,pu2,pu3])))
      (refine plan_solo (by (simp only [ga1,ga2,ga3];exact rfl)) (by rfl) ?_;intro K hK)
      rw [hfi] at hlk
      simp only at hlk
      refine oper_run (Operand.tmp 15) (Operand.tmp 17) rfl rfl rfl hlk ?_
      refine hK.out _ _ (cell_keep B5 q1) (fun hH=>?_)
      clear hK K hH hlk
      (try simp only [Act.put,pu1,pu2,pu3])
      (repeat (first | (refine plan_take (v:=?_) (by (simp only [ga1,ga2,ga3];exact rfl)) (by rfl) ?_ ?_;rotate_left;(focus (intro wS hS;(try dsimp only at hS);go_split_ands;go_simp;(try with_reducible rfl)));simp only [Act.put,pu1,pu2,pu3]) | (refine plan_skip (by (simp only [ga1,ga2,ga3];exact rfl)) (by rfl) ?_;simp only [Act.put,pu1,pu2,pu3])))
      refine plan_nil ?_
      have BX5:=Lib.hid (BX.kept B5)
      have HCW:=Lib.hid (HC.out w5 B5)
      clear q1 B5 BX HC hfi
      have hkf9:KF=94∨KF=95∨KF=96∨KF=97∨KF=98∨KF=99∨KF=100∨KF=101∨KF=102:=by omega
      clear hkf
      rcases hkf9 with rfl | rfl | rfl | rfl | rfl | rfl | rfl | rfl | rfl
      ·
        unfold kindV
        go_wp2_with (refine wpList_load_blk rfl 53 (Operand.tmp 4) rfl w.heap.size rfl 53 _ _ BX5.out.box Tryz.underlying53 rfl (by exact Tryz.size53) ?_)
        refine HCW.out.mono ?_
        rintro e w6 ⟨v,ev',rfl,r6,o6,am⟩
        obtain ⟨X,rfl,hx1,hx2⟩:=am.form
        have r5:=HR.out.kept BX5.out.below
        obtain ⟨n0,_,hm0⟩:=r5.hm i h HI.out
        have oh:Of w5 (d.hb i) 125:=⟨_,_,r5.hh i h HI.out⟩
        have oa:Of w5 (w.heap.size+1) 35:=⟨_,_,BX5.out.ans⟩
        have KA6:Blk w6 (w.heap.size+1) zero14 35:=(o6.block _ oa.lt (fun e=>e.elim (fun e=>oa.ne oh (by decide) e) (fun e=>oa.map_ne hm0 e))).trans BX5.out.ans
        have HKA:=Lib.hid KA6
        have HX1:=Lib.hid hx1
        have HX2:=Lib.hid hx2
        have HR6:=Lib.hid r6
        have HO6:=Lib.hid o6
        have HAM:=Lib.hid am
        clear r5 hm0 oh oa KA6 hx1 hx2 r6 o6 am HCW
        go_wp2_with (refine wpList_store_blk rfl 35 (Operand.tmp 6) (Operand.tmp 32) rfl (w.heap.size+1) rfl zero14 X 35 rfl HKA.out (by rw [HX1.out];exact Tryz.size35) (by rw [HX1.out];rfl) HX2.out ?_;intro w10 hk10 ho10 hs10)
        refine body_cell rfl rfl rfl hk10 Tryz.underlying35 rfl (by rw [HX1.out];exact Tryz.size35) ?_
        rw [HF.out]
        have oa6:Of w6 (w.heap.size+1) 35:=⟨_,_,HKA.out⟩
        refine ⟨.agg X,_,rfl,HR6.out.only ho10 oa6 (by decide) (by decide) (by decide) (by decide),rfl,rfl,?_,HAM.out.only ho10 oa6 (by decide) (by decide)⟩
        have hil:i<L.length:=(List.getElem?_eq_some_iff.1 HI.out).1
        have O5:Only (d.own L.length) w w6:=(Only.of_below BX5.out.below).trans (HO6.out.mono (fun k _ hk=>⟨i,hil,hk⟩))
        exact Only.trans2 O5 ho10 (fun k hk=>.inr (by rw [hk];omega))
      ·
        unfold kindV
        go_wp2_with (refine wpList_load_blk rfl 53 (Operand.tmp 4) rfl w.heap.size rfl 53 _ _ BX5.out.box Tryz.underlying53 rfl (by exact Tryz.size53) ?_)
        refine HCW.out.mono ?_
        rintro e w6 ⟨v,ev',rfl,r6,o6,am⟩
        obtain ⟨X,rfl,hx1,hx2⟩:=am.form
        have r5:=HR.out.kept BX5.out.below
        obtain ⟨n0,_,hm0⟩:=r5.hm i h HI.out
        have oh:Of w5 (d.hb i) 125:=⟨_,_,r5.hh i h HI.out⟩
        have oa:Of w5 (w.heap.size+1) 35:=⟨_,_,BX5.out.ans⟩
        have KA6:Blk w6 (w.heap.size+1) zero14 35:=(o6.block _ oa.lt (fun e=>e.elim (fun e=>oa.ne oh (by decide) e) (fun e=>oa.map_ne hm0 e))).trans BX5.out.ans
        have HKA:=Lib.hid KA6
        have HX1:=Lib.hid hx1
        have HX2:=Lib.hid hx2
        have HR6:=Lib.hid r6
        have HO6:=Lib.hid o6
        have HAM:=Lib.hid am
        clear r5 hm0 oh oa KA6 hx1 hx2 r6 o6 am HCW
        go_wp2_with (refine wpList_store_blk rfl 35 (Operand.tmp 6) (Operand.tmp 32) rfl (w.heap.size+1) rfl zero14 X 35 rfl HKA.out (by rw [HX1.out];exact Tryz.size35) (by rw [HX1.out];rfl) HX2.out ?_;intro w10 hk10 ho10 hs10)
        refine body_cell rfl rfl rfl hk10 Tryz.underlying35 rfl (by rw [HX1.out];exact Tryz.size35) ?_
        rw [HF.out]
        have oa6:Of w6 (w.heap.size+1) 35:=⟨_,_,HKA.out⟩
        refine ⟨.agg X,_,rfl,HR6.out.only ho10 oa6 (by decide) (by decide) (by decide) (by decide),rfl,rfl,?_,HAM.out.only ho10 oa6 (by decide) (by decide)⟩
        have hil:i<L.length:=(List.getElem?_eq_some_iff.1 HI.out).1
        have O5:Only (d.own L.length) w w6:=(Only.of_below BX5.out.below).trans (HO6.out.mono (fun k _ hk=>⟨i,hil,hk⟩))
        exact Only.trans2 O5 ho10 (fun k hk=>.inr (by rw [hk];omega))
      ·
        unfold kindV
        go_wp2_with (refine wpList_load_blk rfl 53 (Operand.tmp 4) rfl w.heap.size rfl 53 _ _ BX5.out.box Tryz.underlying53 rfl (by exact Tryz.size53) ?_)
        refine HCW.out.mono ?_
        rintro e w6 ⟨v,ev',rfl,r6,o6,am⟩
        obtain ⟨X,rfl,hx1,hx2⟩:=am.form
        have r5:=HR.out.kept BX5.out.below
        obtain ⟨n0,_,hm0⟩:=r5.hm i h HI.out
        have oh:Of w5 (d.hb i) 125:=⟨_,_,r5.hh i h HI.out⟩
        have oa:Of w5 (w.heap.size+1) 35:=⟨_,_,BX5.out.ans⟩
        have KA6:Blk w6 (w.heap.size+1) zero14 35:=(o6.block _ oa.lt (fun e=>e.elim (fun e=>oa.ne oh (by decide) e) (fun e=>oa.map_ne hm0 e))).trans BX5.out.ans
        have HKA:=Lib.hid KA6
        have HX1:=Lib.hid hx1
        have HX2:=Lib.hid hx2
        have HR6:=Lib.hid r6
        have HO6:=Lib.hid o6
        have HAM:=Lib.hid am
        clear r5 hm0 oh oa KA6 hx1 hx2 r6 o6 am HCW
        go_wp2_with (refine wpList_store_blk rfl 35 (Operand.tmp 6) (Operand.tmp 32) rfl (w.heap.size+1) rfl zero14 X 35 rfl HKA.out (by rw [HX1.out];exact Tryz.size35) (by rw [HX1.out];rfl) HX2.out ?_;intro w10 hk10 ho10 hs10)
        refine body_cell rfl rfl rfl hk10 Tryz.underlying35 rfl (by rw [HX1.out];exact Tryz.size35) ?_
        rw [HF.out]
        have oa6:Of w6 (w.heap.size+1) 35:=⟨_,_,HKA.out⟩
        refine ⟨.agg X,_,rfl,HR6.out.only ho10 oa6 (by decide) (by decide) (by decide) (by decide),rfl,rfl,?_,HAM.out.only ho10 oa6 (by decide) (by decide)⟩
        have hil:i<L.length:=(List.getElem?_eq_some_iff.1 HI.out).1
        have O5:Only (d.own L.length) w w6:=(Only.of_below BX5.out.below).trans (HO6.out.mono (fun k _ hk=>⟨i,hil,hk⟩))
        exact Only.trans2 O5 ho10 (fun k hk=>.inr (by rw [hk];omega))
      ·
        unfold kindV
        go_wp2_with (refine wpList_load_blk rfl 53 (Operand.tmp 4) rfl w.heap.size rfl 53 _ _ BX5.out.box Tryz.underlying53 rfl (by exact Tryz.size53) ?_)
        refine HCW.out.mono ?_
        rintro e w6 ⟨v,ev',rfl,r6,o6,am⟩
        obtain ⟨X,rfl,hx1,hx2⟩:=am.form
        have r5:=HR.out.kept BX5.out.below
        obtain ⟨n0,_,hm0⟩:=r5.hm i h HI.out
        have oh:Of w5 (d.hb i) 125:=⟨_,_,r5.hh i h HI.out⟩
        have oa:Of w5 (w.heap.size+1) 35:=⟨_,_,BX5.out.ans⟩
        have KA6:Blk w6 (w.heap.size+1) zero14 35:=(o6.block _ oa.lt (fun e=>e.elim (fun e=>oa.ne oh (by decide) e) (fun e=>oa.map_ne hm0 e))).trans BX5.out.ans
        have HKA:=Lib.hid KA6
        have HX1:=Lib.hid hx1
        have HX2:=Lib.hid hx2
        have HR6:=Lib.hid r6
        have HO6:=Lib.hid o6
        have HAM:=Lib.hid am
        clear r5 hm0 oh oa KA6 hx1 hx2 r6 o6 am HCW
        go_wp2_with (refine wpList_store_blk rfl 35 (Operand.tmp 6) (Operand.tmp 32) rfl (w.heap.size+1) rfl zero14 X 35 rfl HKA.out (by rw [HX1.out];exact Tryz.size35) (by rw [HX1.out];rfl) HX2.out ?_;intro w10 hk10 ho10 hs10)
        refine body_cell rfl rfl rfl hk10 Tryz.underlying35 rfl (by rw [HX1.out];exact Tryz.size35) ?_
        rw [HF.out]
        have oa6:Of w6 (w.heap.size+1) 35:=⟨_,_,HKA.out⟩
        refine ⟨.agg X,_,rfl,HR6.out.only ho10 oa6 (by decide) (by decide) (by decide) (by decide),rfl,rfl,?_,HAM.out.only ho10 oa6 (by decide) (by decide)⟩
        have hil:i<L.length:=(List.getElem?_eq_some_iff.1 HI.out).1
        have O5:Only (d.own L.length) w w6:=(Only.of_below BX5.out.below).trans (HO6.out.mono (fun k _ hk=>⟨i,hil,hk⟩))
        exact Only.trans2 O5 ho10 (fun k hk=>.inr (by rw [hk];omega))
      ·
        unfold kindV
        go_wp2_with (refine wpList_load_blk rfl 53 (Operand.tmp 4) rfl w.heap.size rfl 53 _ _ BX5.out.box Tryz.underlying53 rfl (by exact Tryz.size53) ?_)
        refine HCW.out.mono ?_
        rintro e w6 ⟨v,ev',rfl,r6,o6,am⟩
        obtain ⟨X,rfl,hx1,hx2⟩:=am.form
        have r5:=HR.out.kept BX5.out.below
        obtain ⟨n0,_,hm0⟩:=r5.hm i h HI.out
        have oh:Of w5 (d.hb i) 125:=⟨_,_,r5.hh i h HI.out⟩
        have oa:Of w5 (w.heap.size+1) 35:=⟨_,_,BX5.out.ans⟩
        have KA6:Blk w6 (w.heap.size+1) zero14 35:=(o6.block _ oa.lt (fun e=>e.elim (fun e=>oa.ne oh (by decide) e) (fun e=>oa.map_ne hm0 e))).trans BX5.out.ans
        have HKA:=Lib.hid KA6
        have HX1:=Lib.hid hx1
        have HX2:=Lib.hid hx2
        have HR6:=Lib.hid r6
        have HO6:=Lib.hid o6
        have HAM:=Lib.hid am
        clear r5 hm0 oh oa KA6 hx1 hx2 r6 o6 am HCW
        go_wp2_with (refine wpList_store_blk rfl 35 (Operand.tmp 6) (Operand.tmp 32) rfl (w.heap.size+1) rfl zero14 X 35 rfl HKA.out (by rw [HX1.out];exact Tryz.size35) (by rw [HX1.out];rfl) HX2.out ?_;intro w10 hk10 ho10 hs10)
        refine body_cell rfl rfl rfl hk10 Tryz.underlying35 rfl (by rw [HX1.out];exact Tryz.size35) ?_
        rw [HF.out]
        have oa6:Of w6 (w.heap.size+1) 35:=⟨_,_,HKA.out⟩
        refine ⟨.agg X,_,rfl,HR6.out.only ho10 oa6 (by decide) (by decide) (by decide) (by decide),rfl,rfl,?_,HAM.out.only ho10 oa6 (by decide) (by decide)⟩
        have hil:i<L.length:=(List.getElem?_eq_some_iff.1 HI.out).1
        have O5:Only (d.own L.length) w w6:=(Only.of_below BX5.out.below).trans (HO6.out.mono (fun k _ hk=>⟨i,hil,hk⟩))
        exact Only.trans2 O5 ho10 (fun k hk=>.inr (by rw [hk];omega))
      ·
        unfold kindV
        go_wp2_with (refine wpList_load_blk rfl 53 (Operand.tmp 4) rfl w.heap.size rfl 53 _ _ BX5.out.box Tryz.underlying53 rfl (by exact Tryz.size53) ?_)
        refine HCW.out.mono ?_
        rintro e w6 ⟨v,ev',rfl,r6,o6,am⟩
        obtain ⟨X,rfl,hx1,hx2⟩:=am.form
        have r5:=HR.out.kept BX5.out.below
        obtain ⟨n0,_,hm0⟩:=r5.hm i h HI.out
        have oh:Of w5 (d.hb i) 125:=⟨_,_,r5.hh i h HI.out⟩
        have oa:Of w5 (w.heap.size+1) 35:=⟨_,_,BX5.out.ans⟩
        have KA6:Blk w6 (w.heap.size+1) zero14 35:=(o6.block _ oa.lt (fun e=>e.elim (fun e=>oa.ne oh (by decide) e) (fun e=>oa.map_ne hm0 e))).trans BX5.out.ans
        have HKA:=Lib.hid KA6
        have HX1:=Lib.hid hx1
        have HX2:=Lib.hid hx2
        have HR6:=Lib.hid r6
        have HO6:=Lib.hid o6
        have HAM:=Lib.hid am
        clear r5 hm0 oh oa KA6 hx1 hx2 r6 o6 am HCW
        go_wp2_with (refine wpList_store_blk rfl 35 (Operand.tmp 6) (Operand.tmp 32) rfl (w.heap.size+1) rfl zero14 X 35 rfl HKA.out (by rw [HX1.out];exact Tryz.size35) (by rw [HX1.out];rfl) HX2.out ?_;intro w10 hk10 ho10 hs10)
        refine body_cell rfl rfl rfl hk10 Tryz.underlying35 rfl (by rw [HX1.out];exact Tryz.size35) ?_
        rw [HF.out]
        have oa6:Of w6 (w.heap.size+1) 35:=⟨_,_,HKA.out⟩
        refine ⟨.agg X,_,rfl,HR6.out.only ho10 oa6 (by decide) (by decide) (by decide) (by decide),rfl,rfl,?_,HAM.out.only ho10 oa6 (by decide) (by decide)⟩
        have hil:i<L.length:=(List.getElem?_eq_some_iff.1 HI.out).1
        have O5:Only (d.own L.length) w w6:=(Only.of_below BX5.out.below).trans (HO6.out.mono (fun k _ hk=>⟨i,hil,hk⟩))
        exact Only.trans2 O5 ho10 (fun k hk=>.inr (by rw [hk];omega))
      ·
        unfold kindV
        go_wp2_with (refine wpList_load_blk rfl 53 (Operand.tmp 4) rfl w.heap.size rfl 53 _ _ BX5.out.box Tryz.underlying53 rfl (by exact Tryz.size53) ?_)
        refine HCW.out.mono ?_
        rintro e w6 ⟨v,ev',rfl,r6,o6,am⟩
        obtain ⟨X,rfl,hx1,hx2⟩:=am.form
        have r5:=HR.out.kept BX5.out.below
        obtain ⟨n0,_,hm0⟩:=r5.hm i h HI.out
        have oh:Of w5 (d.hb i) 125:=⟨_,_,r5.hh i h HI.out⟩
        have oa:Of w5 (w.heap.size+1) 35:=⟨_,_,BX5.out.ans⟩
        have KA6:Blk w6 (w.heap.size+1) zero14 35:=(o6.block _ oa.lt (fun e=>e.elim (fun e=>oa.ne oh (by decide) e) (fun e=>oa.map_ne hm0 e))).trans BX5.out.ans
        have HKA:=Lib.hid KA6
        have HX1:=Lib.hid hx1
        have HX2:=Lib.hid hx2
        have HR6:=Lib.hid r6
        have HO6:=Lib.hid o6
        have HAM:=Lib.hid am
        clear r5 hm0 oh oa KA6 hx1 hx2 r6 o6 am HCW
        go_wp2_with (refine wpList_store_blk rfl 35 (Operand.tmp 6) (Operand.tmp 32) rfl (w.heap.size+1) rfl zero14 X 35 rfl HKA.out (by rw [HX1.out];exact Tryz.size35) (by rw [HX1.out];rfl) HX2.out ?_;intro w10 hk10 ho10 hs10)
        refine body_cell rfl rfl rfl hk10 Tryz.underlying35 rfl (by rw [HX1.out];exact Tryz.size35) ?_
        rw [HF.out]
        have oa6:Of w6 (w.heap.size+1) 35:=⟨_,_,HKA.out⟩
        refine ⟨.agg X,_,rfl,HR6.out.only ho10 oa6 (by decide) (by decide) (by decide) (by decide),rfl,rfl,?_,HAM.out.only ho10 oa6 (by decide) (by decide)⟩
        have hil:i<L.length:=(List.getElem?_eq_some_iff.1 HI.out).1
        have O5:Only (d.own L.length) w w6:=(Only.of_below BX5.out.below).trans (HO6.out.mono (fun k _ hk=>⟨i,hil,hk⟩))
        exact Only.trans2 O5 ho10 (fun k hk=>.inr (by rw [hk];omega))
      ·
        unfold kindV
        go_wp2_with (refine wpList_load_blk rfl 53 (Operand.tmp 4) rfl w.heap.size rfl 53 _ _ BX5.out.box Tryz.underlying53 rfl (by exact Tryz.size53) ?_)
        refine HCW.out.mono ?_
        rintro e w6 ⟨v,ev',rfl,r6,o6,am⟩
        obtain ⟨X,rfl,hx1,hx2⟩:=am.form
        have r5:=HR.out.kept BX5.out.below
        obtain ⟨n0,_,hm0⟩:=r5.hm i h HI.out
        have oh:Of w5 (d.hb i) 125:=⟨_,_,r5.hh i h HI.out⟩
        have oa:Of w5 (w.heap.size+1) 35:=⟨_,_,BX5.out.ans⟩
        have KA6:Blk w6 (w.heap.size+1) zero14 35:=(o6.block _ oa.lt (fun e=>e.elim (fun e=>oa.ne oh (by decide) e) (fun e=>oa.map_ne hm0 e))).trans BX5.out.ans
        have HKA:=Lib.hid KA6
        have HX1:=Lib.hid hx1
        have HX2:=Lib.hid hx2
        have HR6:=Lib.hid r6
        have HO6:=Lib.hid o6
        have HAM:=Lib.hid am
        clear r5 hm0 oh oa KA6 hx1 hx2 r6 o6 am HCW
        go_wp2_with (refine wpList_store_blk rfl 35 (Operand.tmp 6) (Operand.tmp 32) rfl (w.heap.size+1) rfl zero14 X 35 rfl HKA.out (by rw [HX1.out];exact Tryz.size35) (by rw [HX1.out];rfl) HX2.out ?_;intro w10 hk10 ho10 hs10)
        refine body_cell rfl rfl rfl hk10 Tryz.underlying35 rfl (by rw [HX1.out];exact Tryz.size35) ?_
        rw [HF.out]
        have oa6:Of w6 (w.heap.size+1) 35:=⟨_,_,HKA.out⟩
        refine ⟨.agg X,_,rfl,HR6.out.only ho10 oa6 (by decide) (by decide) (by decide) (by decide),rfl,rfl,?_,HAM.out.only ho10 oa6 (by decide) (by decide)⟩
        have hil:i<L.length:=(List.getElem?_eq_some_iff.1 HI.out).1
        have O5:Only (d.own L.length) w w6:=(Only.of_below BX5.out.below).trans (HO6.out.mono (fun k _ hk=>⟨i,hil,hk⟩))
        exact Only.trans2 O5 ho10 (fun k hk=>.inr (by rw [hk];omega))
      ·
        unfold kindV
        go_wp2_with (refine wpList_load_blk rfl 53 (Operand.tmp 4) rfl w.heap.size rfl 53 _ _ BX5.out.box Tryz.underlying53 rfl (by exact Tryz.size53) ?_)
        refine HCW.out.mono ?_
        rintro e w6 ⟨v,ev',rfl,r6,o6,am⟩
        obtain ⟨X,rfl,hx1,hx2⟩:=am.form
        have r5:=HR.out.kept BX5.out.below
        obtain ⟨n0,_,hm0⟩:=r5.hm i h HI.out
        have oh:Of w5 (d.hb i) 125:=⟨_,_,r5.hh i h HI.out⟩
        have oa:Of w5 (w.heap.size+1) 35:=⟨_,_,BX5.out.ans⟩
        have KA6:Blk w6 (w.heap.size+1) zero14 35:=(o6.block _ oa.lt (fun e=>e.elim (fun e=>oa.ne oh (by decide) e) (fun e=>oa.map_ne hm0 e))).trans BX5.out.ans
        have HKA:=Lib.hid KA6
        have HX1:=Lib.hid hx1
        have HX2:=Lib.hid hx2
        have HR6:=Lib.hid r6
        have HO6:=Lib.hid o6
        have HAM:=Lib.hid am
        clear r5 hm0 oh oa KA6 hx1 hx2 r6 o6 am HCW
        go_wp2_with (refine wpList_store_blk rfl 35 (Operand.tmp 6) (Operand.tmp 32) rfl (w.heap.size+1) rfl zero14 X 35 rfl HKA.out (by rw [HX1.out];exact Tryz.size35) (by rw [HX1.out];rfl) HX2.out ?_;intro w10 hk10 ho10 hs10)
        refine body_cell rfl rfl rfl hk10 Tryz.underlying35 rfl (by rw [HX1.out];exact Tryz.size35) ?_
        rw [HF.out]
        have oa6:Of w6 (w.heap.size+1) 35:=⟨_,_,HKA.out⟩
        refine ⟨.agg X,_,rfl,HR6.out.only ho10 oa6 (by decide) (by decide) (by decide) (by decide),rfl,rfl,?_,HAM.out.only ho10 oa6 (by decide) (by decide)⟩
        have hil:i<L.length:=(List.getElem?_eq_some_iff.1 HI.out).1
        have O5:Only (d.own L.length) w w6:=(Only.of_below BX5.out.below).trans (HO6.out.mono (fun k _ hk=>⟨i,hil,hk⟩))
        exact Only.trans2 O5 ho10 (fun k hk=>.inr (by rw [hk];omega))
    · have hF:=Lib.hid (show doN L c now=(badA 400,L) by rw [hdo,hbad];simp only;rw [set_self hi])
      unfold clV
      clear t1 bx0 r hok hin hie hi hhv hdo hbad
      go_enter Tryz.func55,Tryz.ntmps55
      go_wp2_with fail
      refine HH.out.mono ?_
      rintro e w1 ⟨rfl,hu⟩
      obtain rfl:=hu.symm
      clear hu
      have BX:=HBX0.out
      clear HBX0 HH
      obtain ⟨W0,hW0⟩:∃ W,(w.alloc (.cells #[.int .i64 c.kind,.int .i64 c.ten,.string c.tok,.string c.usr,.string c.dat,.int .i64 c.ttl,.int .i64 c.frm,.int .u64 (c.draw:Int)] 53)).alloc (.cells zero14 35)=W:=⟨_,rfl⟩
      rw [hW0] at BX
      go_wp2_with fail
      clear hW0
      have q1:=BX.box.cell 0 (.int .i64 c.kind) rfl
      refine region_plan (S:=fun w':World=>w'.cell? ⟨w.heap.size,0,none⟩=some (.int .i64 c.kind))
        ((1,true)::(2,true)::(0,false)::(3,false)::(4,true)::(5,true)::(6,true)::(7,true)::(8,true)::[])
        (by kernel_rfl) (by kernel_rfl) (by kernel_rfl) (by kernel_rfl) (fun _ _ _ dst _ h=>by cases dst<;>exact h) q1 (fun hH=>?_)
      clear hH
      (repeat (first | (refine plan_take (v:=?_) (by (simp only [ga1,ga2,ga3];exact rfl)) (by rfl) ?_ ?_;rotate_left;(focus (intro wS hS;(try dsimp only at hS);go_split_ands;go_simp;(try with_reducible rfl)));simp only [Act.put,pu1,pu2,pu3]) | (refine plan_skip (by (simp only [ga1,ga2,ga3];exact rfl)) (by rfl) ?_;simp only [Act.put,pu1,pu2,pu3])))
      (refine plan_solo (by (simp only [ga1,ga2,ga3];exact rfl)) (by rfl) ?_;intro K hK;go_simp)
      refine (mod_kinds _).mono ?_
      rintro e w5 ⟨rfl,im5,hb5⟩
      have B5:Below W0.heap.size W0 w5:=(Below.refl _ W0).drew.trans hb5
      have hlk:=im5.look_ok Tryz.underlying151 Tryz.underlying3 (z:=.nilFunc) (fun w=>Tryz.zeroValue149 w) c.kind
      refine hK.out _ _ (cell_keep B5 q1) (fun hH=>?_)
      clear hK K hH hb5 im5
      (try simp only [Act.put,pu1,pu2,pu3])
      (repeat (first | (refine plan_take (v:=?_) (by (simp only [ga1,ga2,ga3];exact rfl)) (by rfl) ?_ ?_;rotate_left;(focus (intro wS hS;(try dsimp only at hS);go_split_ands;go_simp;(try with_reducible rfl)));simp only [Act.put,pu1,pu2,pu3]) | (refine plan_skip (by (simp only [ga1,ga2,ga3];exact rfl)) (by rfl) ?_;simp only [Act.put,pu1,pu2,pu3])))
      (refine plan_solo (by (simp only [ga1,ga2,ga3];exact rfl)) (by rfl) ?_;intro K hK)
      rw [hfi] at hlk
      simp only at hlk
      refine oper_run (Operand.tmp 15) (Operand.tmp 17) rfl rfl rfl hlk ?_
      refine hK.out _ _ (cell_keep B5 q1) (fun hH=>?_)
      clear hK K hH hlk
      (try simp only [Act.put,pu1,pu2,pu3])
      (repeat (first | (refine plan_take (v:=?_) (by (simp only [ga1,ga2,ga3];exact rfl)) (by rfl) ?_ ?_;rotate_left;(focus (intro wS hS;(try dsimp only at hS);go_split_ands;go_simp;(try with_reducible rfl)));simp only [Act.put,pu1,pu2,pu3]) | (refine plan_skip (by (simp only [ga1,ga2,ga3];exact rfl)) (by rfl) ?_;simp only [Act.put,pu1,pu2,pu3])))
      refine plan_nil ?_
      have BX5:=BX.kept B5
      clear q1 B5 BX hfi
      go_wp2_with fail
      refine (mod_refuse 400 _).mono ?_
      rintro e w9 ⟨rfl,hb9⟩
      have bx9:=BX5.kept hb9
      go_wp2_with (refine wpList_store_blk rfl 35 (Operand.tmp 6) (Operand.tmp 27) rfl (w.heap.size+1) rfl zero14 _ 35 rfl bx9.ans (by exact Tryz.size35) rfl (by simp [ansArr,Ans.zero,Value.oneCell']) ?_;intro w10 hk10 ho10 hs10)
      refine body_cell rfl rfl rfl hk10 Tryz.underlying35 rfl (by exact Tryz.size35) ?_
      have hbx:Below w.heap.size w w10:=bx9.below.trans (ho10.below bx9.below.size (fun k hk=>by rw [hk];exact Nat.le_succ _))
      rw [anV_bad 400 (refN 400) rfl,hF.out]
      exact MDn.same HR.out hbx (AnM.plain _ _ rfl rfl)
  · have hhv:houV L d c.ten=.pointer none:=by unfold houV;rw [if_neg hin]
    rw [hhv] at HH
    have hF:=Lib.hid (show doN L c now=(badA 400,L) by
      unfold doN houseN
      by_cases h0:0≤c.ten
      · rw [if_pos h0,List.getElem?_eq_none (by omega)]
      · rw [if_neg h0])
    unfold clV
    clear t1 bx0 r hok hin hhv
    go_enter Tryz.func55,Tryz.ntmps55
    go_wp2_with fail
    refine HH.out.mono ?_
    rintro e w1 ⟨rfl,hu⟩
    obtain rfl:=hu.symm
    clear hu
    have BX:=HBX0.out
    clear HBX0 HH
    obtain ⟨W0,hW0⟩:∃ W,(w.alloc (.cells #[.int .i64 c.kind,.int .i64 c.ten,.string c.tok,.string c.usr,.string c.dat,.int .i64 c.ttl,.int .i64 c.frm,.int .u64 (c.draw:Int)] 53)).alloc (.cells zero14 35)=W:=⟨_,rfl⟩
    rw [hW0] at BX
    go_wp2_with fail
    clear hW0
    have q1:=BX.box.cell 0 (.int .i64 c.kind) rfl
    refine region_plan (S:=fun w':World=>w'.cell? ⟨w.heap.size,0,none⟩=some (.int .i64 c.kind))
      ((1,true)::(2,true)::(0,false)::(3,false)::(4,true)::(5,true)::(6,true)::(7,true)::(8,true)::[])
      (by kernel_rfl) (by kernel_rfl) (by kernel_rfl) (by kernel_rfl) (fun _ _ _ dst _ h=>by cases dst<;>exact h) q1 (fun hH=>?_)
    clear hH
    (repeat (first | (refine plan_take (v:=?_) (by (simp only [ga1,ga2,ga3];exact rfl)) (by rfl) ?_ ?_;rotate_left;(focus (intro wS hS;(try dsimp only at hS);go_split_ands;go_simp;(try with_reducible rfl)));simp only [Act.put,pu1,pu2,pu3]) | (refine plan_skip (by (simp only [ga1,ga2,ga3];exact rfl)) (by rfl) ?_;simp only [Act.put,pu1,pu2,pu3])))
    (refine plan_solo (by (simp only [ga1,ga2,ga3];exact rfl)) (by rfl) ?_;intro K hK;go_simp)
    refine (mod_kinds _).mono ?_
    rintro e w5 ⟨rfl,im5,hb5⟩
    have B5:Below W0.heap.size W0 w5:=(Below.refl _ W0).drew.trans hb5
    have hlk:=im5.look_ok Tryz.underlying151 Tryz.underlying3 (z:=.nilFunc) (fun w=>Tryz.zeroValue149 w) c.kind
    refine hK.out _ _ (cell_keep B5 q1) (fun hH=>?_)
    clear hK K hH hb5 im5
    (try simp only [Act.put,pu1,pu2,pu3])
    (repeat (first | (refine plan_take (v:=?_) (by (simp only [ga1,ga2,ga3];exact rfl)) (by rfl) ?_ ?_;rotate_left;(focus (intro wS hS;(try dsimp only at hS);go_split_ands;go_simp;(try with_reducible rfl)));simp only [Act.put,pu1,pu2,pu3]) | (refine plan_skip (by (simp only [ga1,ga2,ga3];exact rfl)) (by rfl) ?_;simp only [Act.put,pu1,pu2,pu3])))
    (refine plan_solo (by (simp only [ga1,ga2,ga3];exact rfl)) (by rfl) ?_;intro K hK)
    cases hfx:findL c.kind kindL 0 with
    | none =>
      rw [hfx] at hlk
      simp only at hlk
      refine oper_run (Operand.tmp 15) (Operand.tmp 17) rfl rfl rfl hlk ?_
      refine hK.out _ _ (cell_keep B5 q1) (fun hH=>?_)
      clear hK K hH hlk
      (try simp only [Act.put,pu1,pu2,pu3])
      (repeat (first | (refine plan_take (v:=?_) (by (simp only [ga1,ga2,ga3];exact rfl)) (by rfl) ?_ ?_;rotate_left;(focus (intro wS hS;(try dsimp only at hS);go_split_ands;go_simp;(try with_reducible rfl)));simp only [Act.put,pu1,pu2,pu3]) | (refine plan_skip (by (simp only [ga1,ga2,ga3];exact rfl)) (by rfl) ?_;simp only [Act.put,pu1,pu2,pu3])))
      refine plan_nil ?_
      have BX5:=BX.kept B5
      clear q1 B5 BX
      go_wp2_with fail
      refine (mod_refuse 400 _).mono ?_
      rintro e w9 ⟨rfl,hb9⟩
      have bx9:=BX5.kept hb9
      go_wp2_with (refine wpList_store_blk rfl 35 (Operand.tmp 6) (Operand.tmp 27) rfl (w.heap.size+1) rfl zero14 _ 35 rfl bx9.ans (by exact Tryz.size35) rfl (by simp [ansArr,Ans.zero,Value.oneCell']) ?_;intro w10 hk10 ho10 hs10)
      refine body_cell rfl rfl rfl hk10 Tryz.underlying35 rfl (by exact Tryz.size35) ?_
      have hbx:Below w.heap.size w w10:=bx9.below.trans (ho10.below bx9.below.size (fun k hk=>by rw [hk];exact Nat.le_succ _))
      rw [anV_bad 400 (refN 400) rfl,hF.out]
      exact MDn.same HR.out hbx (AnM.plain _ _ rfl rfl)
    | some y =>
      obtain ⟨_,v⟩:=y
      rw [hfx] at hlk
      simp only at hlk
      refine oper_run (Operand.tmp 15) (Operand.tmp 17) rfl rfl rfl hlk ?_
      refine hK.out _ _ (cell_keep B5 q1) (fun hH=>?_)
      clear hK K hH hlk
      (try simp only [Act.put,pu1,pu2,pu3])
      (repeat (first | (refine plan_take (v:=?_) (by (simp only [ga1,ga2,ga3];exact rfl)) (by rfl) ?_ ?_;rotate_left;(focus (intro wS hS;(try dsimp only at hS);go_split_ands;go_simp;(try with_reducible rfl)));simp only [Act.put,pu1,pu2,pu3]) | (refine plan_skip (by (simp only [ga1,ga2,ga3];exact rfl)) (by rfl) ?_;simp only [Act.put,pu1,pu2,pu3])))
      refine plan_nil ?_
      have BX5:=BX.kept B5
      clear q1 B5 BX
      go_wp2_with fail
      refine (mod_refuse 400 _).mono ?_
      rintro e w9 ⟨rfl,hb9⟩
      have bx9:=BX5.kept hb9
      go_wp2_with (refine wpList_store_blk rfl 35 (Operand.tmp 6) (Operand.tmp 27) rfl (w.heap.size+1) rfl zero14 _ 35 rfl bx9.ans (by exact Tryz.size35) rfl (by simp [ansArr,Ans.zero,Value.oneCell']) ?_;intro w10 hk10 ho10 hs10)
      refine body_cell rfl rfl rfl hk10 Tryz.underlying35 rfl (by exact Tryz.size35) ?_
      have hbx:Below w.heap.size w w10:=bx9.below.trans (ho10.below bx9.below.size (fun k hk=>by rw [hk];exact Nat.le_succ _))
      rw [anV_bad 400 (refN 400) rfl,hF.out]
      exact MDn.same HR.out hbx (AnM.plain _ _ rfl rfl)
end Go.Proofs.YtmdgeknnhckgfaaGreatDoor
