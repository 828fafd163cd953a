/-
  Parts of the proof of the law LinModel: LYes.
-/
import Derived.Test.YtmdgeknnhckgfaaGreatDoorS23
import Derived.Test.YtmdgeknnhckgfaaGreatDoorS25
import Derived.Test.YtmdgeknnhckgfaaGreatDoorS32
set_option linter.unusedSimpArgs false
set_option linter.unusedVariables false
namespace Go.Proofs.YtmdgeknnhckgfaaGreatDoor
open Go Go.RowKit
theorem Tryz.info55y:(Tryz.prog.info? 55).map (fun i=>(i.zero,i.size,i.bytes))=some (some (.agg #[.int .i64 0,.int .i64 0,.int .i64 0,.int .i64 0,.int .i64 0,.int .u64 0,.bool false,.int .i64 0,.int .i64 0,.string ⟨#[]⟩,.string ⟨#[]⟩,.string ⟨#[]⟩,.int .i64 0,.int .i64 0,.int .u64 0,.int .i64 0,.string ⟨#[]⟩,.string ⟨#[]⟩,.string ⟨#[]⟩,.string ⟨#[]⟩,.int .u64 0,.int .i64 0,.slice none 0 0,.slice none 0 0,.string ⟨#[]⟩,.int .i64 0,.int .i64 0,.int .i64 0,.int .i64 0,.int .i64 0,.int .i64 0]),31,344):=by kernel_rfl
theorem Tryz.info64y:(Tryz.prog.info? 64).map (fun i=>(i.zero,i.size,i.bytes))=some (some (.agg #[.slice none 0 0,.slice none 0 0]),2,48):=by kernel_rfl
def LawX (w:World) (p:Nat) (Ts:List Ten) (A:Option Addr) (N sb:Nat) (C O:Array Value) (W:World):Prop :=
  Blk W w.heap.size C 28∧Blk W (w.heap.size+1) O 35∧∃ (k:Nat) (L:List Hs) (d:RD) (l:List Ask) (v:Value),k≤N∧k≤200∧LRec w p Ts A 8 N sb k W L d l v
def RLw1 (w:World) (p:Nat) (Ts:List Ten) (A:Option Addr) (N sb:Nat) (C O:Array Value) (iv:Value) (W:World):Prop :=
  Blk W w.heap.size C 28∧Blk W (w.heap.size+1) O 35∧∃ (k:Nat) (L:List Hs) (d:RD) (l:List Ask) (v:Value),k≤N∧k≤200∧iv=.int .i64 (k:Nat)∧LRec w p Ts A 8 N sb k W L d l v
set_option maxRecDepth 100000 in
set_option maxHeartbeats 8000000 in
theorem law_yes {w:World} {Ts:List Ten} {TA:Option Addr} {TC:Nat} {CA:Option Addr} {CC:Nat} {cls:List Cl} {KA:Option Addr} {KC:Nat} {tks:List Nat} {wh:Int} {oth:AG} {otv oev:Value} (h:LArg w Ts TA TC CA CC cls KA KC tks wh oth otv oev) (o:Cf) (hck:checkN Ts=0) (h16:Ts.length≤16) (hnew:LOk 0 (newN Ts))
    (hsm:∀ (va vb:Value) (a b:AG) (W:World),AGIs W a va→AGIs W b vb→Calls Tryz.prog 9 #[va,vb] W fun e w'=>e=.returned (.bool (decide (a=b)))∧Below W.heap.size W w')
    (hlv:∀ W,Below w.heap.size w W→Calls Tryz.prog 5 #[] W fun e w'=>e=.returned (.bool true)∧Below W.heap.size W w')
    (hex:∀ W,Below w.heap.size w W→∀ (LB:Option Addr) (lc:Nat) (ta:Option Addr) (tc:Nat) (EA:Option Addr) (ec:Nat) (E:List (Value×Value)) (v:Value) (l:List Ask) (LA:Option Addr) (LC steps:Nat),TolIs W ta tc v l LA LC steps→Reads W (.slice EA Ts.length ec) Ts.length 2 (endArgs E)→(∀ L',thrN (newN Ts) l=some L'→EndOk W L' E) →
      Calls Tryz.prog 6 #[.agg (cfArr (.slice TA Ts.length TC) o),.slice LB 1 lc,.agg (toArr (.slice ta 1 tc) (.slice EA Ts.length ec))] W fun e w'=>Below W.heap.size W w'∧ExpP Ts l e) :
    Calls Tryz.prog 3 #[.agg (cfArr (.slice TA Ts.length TC) o),.slice CA cls.length CC,.slice KA tks.length KC,.int .i64 wh,.agg (agArr oth otv oev)] w fun e w'=>e=.returned (.bool true)∧Below w.heap.size w w':=by
  obtain ⟨i0,ii,iz0,iz1,iz2⟩:=info_parts Tryz.info55y
  obtain ⟨j0,ji,jz0,jz1,jz2⟩:=info_parts Tryz.info64y
  obtain ⟨e0,ei,ez0,ez1,ez2⟩:=info_parts Tryz.info103
  have HA:=Lib.hid h
  have HCK:=Lib.hid hck
  have HNW:=Lib.hid hnew
  have H16:=Lib.hid h16
  have HLV:=Lib.hid hlv
  have HSM:=Lib.hid hsm
  obtain ⟨C,hCe⟩:∃ C,cfArr (.slice TA Ts.length TC) o=C:=⟨_,rfl⟩
  obtain ⟨O,hOe⟩:∃ O,agArr oth otv oev=O:=⟨_,rfl⟩
  have HOE:=Lib.hid hOe
  have hC0:C[0]?=some (.slice TA Ts.length TC):=by rw [←hCe];rfl
  have HC0:=Lib.hid hC0
  have HCS:=Lib.hid (show C.size=9 by rw [←hCe];rfl)
  rw [hCe] at hex
  rw [hCe,hOe]
  have HEX:=Lib.hid hex
  have HB0:=Lib.hid (((Below.refl _ w).alloc (Nat.le_refl _) (.cells C 28)).alloc (by simp) (.cells O 35))
  have HK0:=Lib.hid ((Blk.new w C 28).alloc (.cells O 35))
  have ho0:=Blk.new (w.alloc (.cells C 28)) O 35
  rw [World.size_alloc] at ho0
  have HO0:=Lib.hid ho0
  have hwz:=Lib.hid (show w.heap.size+2≤((w.alloc (.cells C 28)).alloc (.cells O 35)).heap.size by simp)
  have hcl:=h.cr.2.1
  clear h hck hnew h16 hlv hsm hex hCe hOe hC0 ho0
  go_enter Tryz.func3,Tryz.ntmps3
  go_upto_region 1 with fail
  generalize (w.alloc (.cells C 28)).alloc (.cells O 35)=W0 at HB0 HK0 HO0 hwz ⊢
  have x0:=HK0.out.cell 0 (.slice TA Ts.length TC) HC0.out
  go_wp2_with fail
  refine (ref_New (.slice TA Ts.length TC) Ts W0 (HA.out.kept HB0.out).tr).mono ?_
  rintro e w1 ⟨hb1,⟨hno,_⟩ | ⟨_,p,d,rfl,r1,hp1,hown1,_⟩⟩
  · exact absurd HCK.out hno
  have HB1:=Lib.hid (HB0.out.trans (hb1.mono HB0.out.size))
  have HK1:=Lib.hid (HK0.out.kept hb1)
  have HO1:=Lib.hid (HO0.out.kept hb1)
  have HR1:=Lib.hid r1
  have HOW1:=Lib.hid (show ∀ k,d.own Ts.length k→w.heap.size≤k from fun k hk=>by have:=hown1 k hk;have:=hwz.out;omega)
  clear hb1 x0 HK0 HB0 HO0 r1 hown1 hp1 hwz
  go_wp2_with fail
  refine (HLV.out w1 HB1.out).mono ?_
  rintro e w2 ⟨rfl,hb2⟩
  have HB2:=Lib.hid (HB1.out.trans (hb2.mono HB1.out.size))
  have HK2:=Lib.hid (HK1.out.kept hb2)
  have HO2:=Lib.hid (HO1.out.kept hb2)
  have HR2:=Lib.hid (HR1.out.kept hb2)
  clear hb2 HK1 HB1 HO1 HR1
  obtain ⟨f,hf1,hf2⟩:=lines_make
  have HF2:=Lib.hid hf2
  clear hf2
  go_upto_region 8 with (refine wpList_store_new rfl 50 (Operand.tmp 15) (Operand.tmp 51) rfl rfl (svArr (.slice none 0 0) (some ⟨w2.heap.size,0,none⟩) 8 cls.length) rfl (by exact Tryz.size50) rfl (by simp [svArr,Value.oneCell']) ?_;intro w3 hk3 hb3 hs3;have HK3:=Lib.hid hk3;have HBN:=Lib.hid hb3;clear hk3 hb3 hs3)
  have BF:=HF2.out w2
  have HB3:=Lib.hid (HB2.out.trans ((BF.trans (HBN.out.mono BF.size)).mono HB2.out.size))
  have B23:Below w2.heap.size w2 w3:=BF.trans (HBN.out.mono BF.size)
  have HK4:=Lib.hid (HK2.out.kept B23)
  have HO4:=Lib.hid (HO2.out.kept B23)
  have HR4:=Lib.hid (HR2.out.kept B23)
  have hsb:=Lib.hid (show w.heap.size≤(f w2).heap.size by have:=HB2.out.size;have:=BF.size;omega)
  clear BF B23 HBN HK2 HO2 HR2 hf1 HF2
  generalize (f w2).heap.size=sb at HK3 hsb ⊢
  obtain ⟨LA,hLA⟩:∃ A:Option Addr,some (⟨w2.heap.size,0,none⟩:Addr)=A:=⟨_,rfl⟩
  rw [hLA] at HK3
  clear hLA HB2
  go_upto_block 0 with fail
  go_cut [16,17,18] from 52 to 177 (fun iv nv av W=>LawX w p Ts LA cls.length sb C O W)
  case first =>
    go_wp2_with fail
    go_loopw [16] (RLw1 w p Ts LA cls.length sb C O) (fun v _=>cls.length - (intOf v).toNat)
    case atStart =>
      exact ⟨HK4.out,HO4.out,0,newN Ts,d,[],_,Nat.zero_le _,by decide,rfl,
        { r:=HR4.out
          ok:=HNW.out
          thr:=rfl
          len:=rfl
          own:=fun j hj=>HOW1.out j (by rw [HR4.out.tl];exact hj)
          row:=World.ownsRow_nil _ _ _ _
          box:=HK3.out
          asks:=fun x hx=>by cases hx
          nums:=fun i x hx=>by simp at hx
          hb:=HB3.out
          sbb:=hsb.out }⟩
    case round =>
      obtain ⟨kc,ko,k,L,d1,l,v,hkn,hk2,rfl,R⟩:=hrel
      by_cases hlt:k<cls.length
      · by_cases hlt2:k<200
        · obtain ⟨c,hc⟩:=get_lt hlt
          have HCO:=Lib.hid (HA.out.cok c (List.mem_of_getElem? hc))
          obtain ⟨cb0,co,rfl,hcbl,hrg⟩:=(HA.out.kept R.hb).cr.cl_at hc
          have hcw:cb0<w.heap.size:=by
            obtain ⟨b',o',e',h',_⟩:=HA.out.cr.cl_at hc
            cases e'
            exact h'
          have HRG:=Lib.hid hrg
          have HCC:=Lib.hid hc
          have HR:=Lib.hid R
          have HKC:=Lib.hid kc
          have HKO:=Lib.hid ko
          have kl:(k:Int)<(cls.length:Int):=by omega
          have kl2:(k:Int)<200:=by omega
          have HLT:=Lib.hid (And.intro hlt hlt2)
          obtain ⟨A2,cap2,rfl⟩:=own_form R.row
          clear hrg R kc ko hc hlt hlt2 hkn hk2
          go_upto_if 64 with fail
          go_cut [17] from 62 to 94 (fun v W=>W=wr∧∃ now:Nat,v=.int .u64 (now:Nat)∧now<18446744073709551616)
          case first =>
            by_cases htk:0<tks.length
            · have hkr:=(HA.out.kept HR.out.hb).kr
              obtain ⟨t,htt⟩:=get_lt (Nat.mod_lt k htk)
              have hmt:=HA.out.kok t (List.mem_of_getElem? htt)
              have hrem:Int.tmod (k:Int) (tks.length:Int)=((k % tks.length:Nat):Int):=by rw [Int.tmod_eq_emod_of_nonneg (Int.natCast_nonneg _)];norm_cast
              obtain ⟨m,hm⟩:∃ m,k % tks.length=m:=⟨_,rfl⟩
              have hml:m<tks.length:=by rw [←hm];exact Nat.mod_lt _ htk
              rw [hm] at htt hrem
              obtain ⟨tb,to',rfl,htl,hct⟩:=hkr.val_at (v:=.int .u64 (t:Nat)) (k:=m) (by simp [tickArgs,htt])
              have ml:(m:Int)<(tks.length:Int):=by omega
              have tl0:(0:Int)<(tks.length:Int):=by omega
              have tl1:¬ ((tks.length:Int)=0):=by omega
              have HMT:=Lib.hid hmt
              clear hmt hkr htt hm
              go_wp2_with fail
              go_meet
              case rel=>exact ⟨rfl,t,rfl,HMT.out⟩
            · have tl0:¬ (0:Int)<(tks.length:Int):=by omega
              go_wp2_with fail
              go_meet
              case rel=>exact ⟨rfl,0,rfl,by decide⟩
          case rest =>
            obtain ⟨hw,now,rfl,hnow⟩:=hcut
            obtain rfl:=hw.symm
            clear hw
            have HDo:=Lib.hid (ref_Do HR.out.r HR.out.ok (by omega) c HCO.out now hnow)
            have HNO:=Lib.hid hnow
            clear hnow
            go_wp2_with (refine wpList_load_mid rfl 53 (Operand.tmp 75) rfl cb0 (co+k*8) rfl (clCells c) _ HRG.out Tryz.underlying53 rfl (by exact Tryz.size53) ?_)
            refine HDo.out.mono ?_
            rintro e w4 ⟨av,d2,rfl,r2,o2,l2,g2,tv,ev,rfl,t2,e2⟩
            obtain ⟨g,hg⟩:∃ g,(doN L c now).1.ag=g:=⟨_,rfl⟩
            have hst:(doN L c now).1.status=g.status:=by rw [←hg];rfl
            have hav:anV (doN L c now).1 tv ev=.agg (agArr g tv ev):=by rw [←hg];rfl
            rw [hav]
            obtain ⟨A3,c3,htv⟩:=t2.1.form
            obtain ⟨A4,c4,hev⟩:=e2.1.form
            obtain ⟨X35,hX35⟩:∃ X,agArr g tv ev=X:=⟨_,rfl⟩
            have HX1:=Lib.hid (show X35.all (·.oneCell')=true by rw [←hX35,htv,hev];simp [agArr,Value.oneCell'])
            have HXS:=Lib.hid (show X35.size=14 by rw [←hX35];rfl)
            have HXE:=Lib.hid hX35
            have HTV:=Lib.hid htv
            have HEV:=Lib.hid hev
            have HG:=Lib.hid (And.intro hg hst)
            have HD2:=Lib.hid (And.intro r2 (And.intro o2 (And.intro l2 (And.intro g2 (And.intro t2 e2)))))
            rw [hX35]
            clear htv hev hg hst hav r2 o2 l2 g2 t2 e2 hX35 HDo
            go_upto_region 15 with (refine wpList_store_new rfl 35 (Operand.tmp 18) (Operand.tmp 78) rfl rfl X35 rfl (by rw [HXS.out];exact Tryz.size35) (by rw [HXS.out];rfl) HX1.out ?_;intro w5 hk5 hb5 hs5;have HK5:=Lib.hid hk5;have HB5:=Lib.hid hb5;clear hk5 hb5 hs5)
            obtain ⟨ab,hab⟩:∃ n,w4.heap.size=n:=⟨_,rfl⟩
            have HAB:=Lib.hid hab
            have hK5:=HK5.out
            rw [hab] at hK5 ⊢
            have HK5':=Lib.hid hK5
            obtain ⟨r2,o2,l2,g2,t2,e2⟩:=HD2.out
            have slt:=HR.out.box.lt
            have hb45:Below w4.heap.size w4 w5:=HB5.out
            have bx4:Blk w4 sb (svArr (.slice A2 k cap2) LA 8 cls.length) 50:=(o2.block sb slt (HR.out.r.not_own (⟨_,_,HR.out.box⟩:Of wr sb 50) (by decide) (by decide) (by decide))).trans HR.out.box
            have q1:w5.cell? ⟨sb,1,none⟩=some (.slice A2 k cap2):=(bx4.kept hb45).cell 1 _ rfl
            have bw5:Below w.heap.size w w5:=(HR.out.hb.trans (o2.below HR.out.hb.size (fun j hj=>HR.out.own j hj))).trans (hb45.mono (by have:=HR.out.hb.size;have:=o2.size;omega))
            have q2:w5.rangeAt cb0 (co+k*8) (clCells c):=by
              have hcr:=(HA.out.kept bw5).cr
              obtain ⟨b',o',e',_,h'⟩:=hcr.cl_at HCC.out
              cases e'
              exact h'
            have q3:w5.rangeAt ab 0 X35.toList:=by
              have:=hK5.range 0 14
              rw [List.drop_zero,List.take_of_length_le (by rw [Array.length_toList,HXS.out];exact Nat.le_refl _)] at this
              exact this
            have q4:w5.cell? ⟨ab,0,none⟩=some (.int .i64 g.status):=hK5.cell 0 _ (by rw [←HXE.out];rfl)
            have HBW:=Lib.hid bw5
            have HSL:=Lib.hid slt
            clear slt hb45 bx4 bw5 r2 o2 l2 g2 t2 e2 hK5 hab
            refine region_cut (S:=fun w':World=>w'.cell? ⟨sb,1,none⟩=some (.slice A2 k cap2)∧w'.rangeAt cb0 (co+k*8) (clCells c)∧w'.rangeAt ab 0 X35.toList∧w'.cell? ⟨ab,0,none⟩=some (.int .i64 g.status)) 16
              (.take 0 (.take 1 (.take 2 (.take 3 (.take 4 (.take 5 (.take 6 (.take 7 (.take 8 (.take 9 (.take 10 (.take 11 (.take 12 (.one 13 (.one 14 (.take 15 (.one 16 .nil)))))))))))))))))
              (by kernel_rfl) (by kernel_rfl) (by kernel_rfl) (fun _ _ _ dst _ h=>by cases dst<;>exact h) ⟨q1,q2,q3,q4⟩ (fun hH=>?_)
            clear hH
            (repeat (first | (refine cut_free (v:=?_) (by (simp only [ga1,ga2,ga3];exact rfl)) (by rfl) ?_ ?_;rotate_left;(focus (intro wS;go_simp;(try with_reducible rfl);done));simp only [Act.put,pu1,pu2,pu3]) | (refine cut_take (v:=?_) (by kernel_rfl) (by (simp only [ga1,ga2,ga3];exact rfl)) (by rfl) ?_ ?_;rotate_left;(focus (intro wS hS;(try dsimp only at hS);go_split_ands;go_simp;(try with_reducible rfl);done));simp only [Act.put,pu1,pu2,pu3])))
            (refine cut_take (v:=.agg #[.int .i64 c.kind,.int .i64 c.ten,.string c.tok,.string c.usr,.string c.dat,.int .i64 c.ttl,.int .i64 c.frm,.int .u64 (c.draw:Nat)]) (by kernel_rfl) (by (simp only [ga1,ga2,ga3];exact rfl)) (by rfl) (fun wS hS=>exec_load_mid 53 (Operand.tmp 86) rfl cb0 (co+k*8) rfl (clCells c) _ hS.2.1 Tryz.underlying53 rfl (by exact Tryz.size53)) ?_;(try simp only [Act.put,pu1,pu2,pu3]))
            (refine cut_take (v:=.agg X35) (by kernel_rfl) (by (simp only [ga1,ga2,ga3];exact rfl)) (by rfl) (fun wS hS=>exec_load_mid 35 (Operand.tmp 18) rfl ab 0 rfl X35.toList _ hS.2.2.1 Tryz.underlying35 rfl (by rw [Array.length_toList,HXS.out];exact Tryz.size35)) ?_;(try simp only [Act.put,pu1,pu2,pu3]))
            rw [←HXE.out]
            unfold agArr
            (repeat (first | (refine cut_free (v:=?_) (by (simp only [ga1,ga2,ga3];exact rfl)) (by rfl) ?_ ?_;rotate_left;(focus (intro wS;go_simp;(try with_reducible rfl);done));simp only [Act.put,pu1,pu2,pu3]) | (refine cut_take (v:=?_) (by kernel_rfl) (by (simp only [ga1,ga2,ga3];exact rfl)) (by rfl) ?_ ?_;rotate_left;(focus (intro wS hS;(try dsimp only at hS);go_split_ands;go_simp;(try with_reducible rfl);done));simp only [Act.put,pu1,pu2,pu3])))
            (refine cut_one (by decide) (by (simp only [ga1,ga2,ga3];exact rfl)) (by rfl) ?_;intro K hK;go_simp)
            obtain ⟨x,hx⟩:∃ x:Ask,x=⟨k,k,now,c,g,tv,ev,g.status⟩:=⟨_,rfl⟩
            change K _ ((w5.alloc (.cells (askArr ⟨k,k,now,c,g,tv,ev,g.status⟩) 55)).drew)
            rw [←hx]
            have hB1:Below w5.heap.size w5 ((w5.alloc (.cells (askArr x) 55)).drew):=((Below.refl _ w5).alloc (Nat.le_refl _) _).drew
            have hN1:∀ (j:Nat) (u:Value),(askCells x)[j]?=some u→((w5.alloc (.cells (askArr x) 55)).drew).cell? ((⟨w5.heap.size,0,none⟩:Addr).add j)=some u:=cells_new w5 (askCells x) 55
            have hone:∀ u∈askCells x,u.oneCell'=true:=by
              rw [hx,HTV.out,HEV.out]
              simp [askCells,askArr,Value.oneCell']
            obtain ⟨r2,o2,l2,g2,t2,e2⟩:=HD2.out
            have row4:w4.ownsRow w.heap.size 55 31 (.slice A2 k cap2) k (askArgs l):=own_block HR.out.row (fun b hb=>o2.block b (HR.out.row.lt b hb).2 (fun hown=>by
              obtain ⟨cur,hcur⟩:=own_typed HR.out.row hb
              exact HR.out.r.not_own (⟨cur,_,hcur⟩:Of wr b 55) (by decide) (by decide) (by decide) hown))
            have row1:=own_below (own_below row4 HB5.out) hB1
            have bx4:Blk w4 sb (svArr (.slice A2 k cap2) LA 8 cls.length) 50:=(o2.block sb HSL.out (HR.out.r.not_own (⟨_,_,HR.out.box⟩:Of wr sb 50) (by decide) (by decide) (by decide))).trans HR.out.box
            have bx1:=(bx4.kept HB5.out).kept hB1
            have hb5s:=HB5.out.size
            have ablt:ab<w5.heap.size:=HK5'.out.lt
            have hba:=HAB.out
            have os2:=o2.size
            have rlt:∀ b,(Value.slice A2 k cap2).ownBlock=some b→w.heap.size≤b∧b<wr.heap.size:=fun b hb=>HR.out.row.lt b hb
            obtain ⟨z0,hz0⟩:∃ z,w5.heap.size=z:=⟨_,rfl⟩
            have q1':=bx1.cell 1 (.slice A2 k cap2) rfl
            have q2':((w5.alloc (.cells (askArr x) 55)).drew).rangeAt cb0 (co+k*8) (clCells c):=range_kept q2 hB1 (by have:=hcbl;have:=HBW.out.size;omega)
            have q3':((w5.alloc (.cells (askArr x) 55)).drew).rangeAt ab 0 X35.toList:=range_kept q3 hB1 ablt
            have q4':=(hB1.cell (p:=⟨ab,0,none⟩) ablt).trans q4
            have hbw1:w.heap.size≤((w5.alloc (.cells (askArr x) 55)).drew).heap.size:=Nat.le_trans HBW.out.size hB1.size
            have HROW:=Lib.hid row1
            have HB1W:=Lib.hid hB1
            have HBX1:=Lib.hid bx1
            have HONE:=Lib.hid hone
            have HXX:=Lib.hid hx
            clear q1 q2 q3 q4 row1 row4 bx4 bx1 hB1 hone hx r2 o2 l2 g2 t2 e2
            generalize ((w5.alloc (.cells (askArr x) 55)).drew)=W1 at *
            rw [hz0] at hN1 ⊢
            rw [←HXE.out] at q3'
            refine hK.out _ _ ⟨q1',q2',q3',q4'⟩ (fun hH=>?_)
            clear hK K hH
            (try simp only [Act.put,pu1,pu2,pu3])
            (refine cut_one (by decide) (by (simp only [ga1,ga2,ga3];exact rfl)) (by rfl) ?_;intro K hK)
            refine oper_append_row _ _ 48 rfl w.heap.size 55 i0 _ 31 344 Tryz.underlying48 ii iz0 iz1 iz2 rfl (by decide) _ _ _ rfl HROW.out ⟨z0,0,none⟩ 1 1 (askCells x) rfl rfl hN1 HONE.out (by unfold maxLen;omega) (by omega) hbw1 ?_
            intro v' w6 own6 hgr hfr
            obtain ⟨A6,cap6,rfl⟩:=own_form own6
            have slt:=HSL.out
            have rne:∀ b,(b<w.heap.size∨wr.heap.size≤b)→some b≠(Value.slice A2 k cap2).ownBlock:=fun b hb e=>by
              have:=rlt b e.symm
              omega
            have sne:some sb≠(Value.slice A2 k cap2).ownBlock:=fun e=>by
              obtain ⟨cur,hcur⟩:=own_typed HROW.out e.symm
              exact (show Of W1 sb 50 from ⟨_,_,HBX1.out⟩).ne (show Of W1 sb 55 from ⟨cur,_,hcur⟩) (by decide) rfl
            have s6:=hgr.cell q1' sne
            have f6:w6.frozen? ⟨sb,1,none⟩=false:=Blk.frozen (show Blk w6 sb (svArr (.slice A2 k cap2) LA 8 cls.length) 50 from (hgr.block sb HBX1.out.lt sne).trans HBX1.out) 1
            refine hK.out _ _ ⟨s6,fun j v hj=>hgr.cell (q2' j v hj) (rne cb0 (.inl hcw)),fun j v hj=>hgr.cell (q3' j v hj) (rne ab (.inr (by omega))),hgr.cell q4' (rne ab (.inr (by omega)))⟩ (fun hH=>?_)
            clear hK K hH
            (try simp only [Act.put,pu1,pu2,pu3])
            (repeat (first | (refine cut_free (v:=?_) (by (simp only [ga1,ga2,ga3];exact rfl)) (by rfl) ?_ ?_;rotate_left;(focus (intro wS;go_simp;(try with_reducible rfl);done));simp only [Act.put,pu1,pu2,pu3]) | (refine cut_take (v:=?_) (by kernel_rfl) (by (simp only [ga1,ga2,ga3];exact rfl)) (by rfl) ?_ ?_;rotate_left;(focus (intro wS hS;(try dsimp only at hS);go_split_ands;go_simp;(try with_reducible rfl);done));simp only [Act.put,pu1,pu2,pu3])))
            (refine cut_here (by (simp only [ga1,ga2,ga3];exact rfl)) (by rfl) ?_;intro K hK;go_simp)
            refine hK.out _ _ ?_
            refine tree_nil ?_
            have HF:=Lib.hid (show LawX w p Ts LA cls.length sb C O (w6.setCell ⟨sb,1,none⟩ (.slice A6 (k+1) cap6))∧LRec w p Ts LA 8 cls.length sb (k+1) (w6.setCell ⟨sb,1,none⟩ (.slice A6 (k+1) cap6)) (doN L c now).2 d2 (l++[x]) (.slice A6 (k+1) cap6) from by
              obtain ⟨r2,o2,l2,g2,t2,e2⟩:=HD2.out
              have bz:=HB5.out.trans (HB1W.out.mono HB5.out.size)
              have R':=HR.out.step c HCO.out now HNO.out (by omega) r2 o2 l2 g2 t2 e2 bz x (by rw [HXX.out,HG.out.1,HG.out.2]) own6 hgr hfr
              have onl:=HR.out.only (v':=.slice A6 (k+1) cap6) o2 bz hgr
              exact ⟨⟨HKC.out.only onl (HR.out.not_own (⟨_,_,HKC.out⟩:Of wr _ 28) (by decide) (by decide) (by decide) (by decide) (by decide)),HKO.out.only onl (HR.out.not_own (⟨_,_,HKO.out⟩:Of wr _ 35) (by decide) (by decide) (by decide) (by decide) (by decide)),k+1,_,d2,_,_,by omega,by omega,R'⟩,R'⟩)
            clear own6 hgr hfr s6 f6 q1' q2' q3' q4' hN1 hcw hcbl
            go_wp2_with fail
            go_roundw
            case rel =>
              have h:=HF.out
              exact ⟨h.1.1,h.1.2.1,k+1,_,d2,_,_,by omega,by omega,rfl,h.2⟩
            case measure=>simp [intOf];omega
        · have HX:=Lib.hid (show LawX w p Ts LA cls.length sb C O wr from ⟨kc,ko,k,L,d1,l,v,hkn,hk2,R⟩)
          have kl:(k:Int)<(cls.length:Int):=by omega
          have kl2:¬ (k:Int)<200:=by omega
          clear R kc ko
          go_wp2_with fail
          go_meet
          case rel=>exact HX.out
      · have HX:=Lib.hid (show LawX w p Ts LA cls.length sb C O wr from ⟨kc,ko,k,L,d1,l,v,hkn,hk2,R⟩)
        have kl:¬ (k:Int)<(cls.length:Int):=by omega
        clear R kc ko
        go_wp2_with fail
        go_meet
        case rel=>exact HX.out
  case rest =>
    obtain ⟨WL,hWL⟩:∃ W,W=wc:=⟨_,rfl⟩
    subst hWL
    obtain ⟨kc,ko,k,L,d1,l,v,hkn,hk2,R⟩:=hcut
    have HKC:=Lib.hid kc
    have HKO:=Lib.hid ko
    have HR:=Lib.hid R
    obtain ⟨A2,cap2,rfl⟩:=own_form R.row
    have HRL:=Lib.hid (show ∀ b,(Value.slice A2 k cap2).ownBlock=some b→b<WL.heap.size from fun b hb=>(R.row.lt b hb).2)
    have HKN:=Lib.hid (And.intro hkn hk2)
    have x0:=R.box.cell 0 (.int .i64 0) rfl
    have x1:=R.box.cell 1 (.slice A2 k cap2) rfl
    have x2:=R.box.cell 2 (.slice LA 8 8) rfl
    have x3:=R.box.cell 3 (.int .i64 cls.length) rfl
    have x4:=R.box.cell 4 (.int .u64 0) rfl
    clear kc ko R hkn hk2 HK4 HO4 HR4 HK3 HB3 HOW1
    go_upto_region 17 with fail
    obtain ⟨S,hS⟩:∃ S,svArr (.slice A2 k cap2) LA 8 cls.length=S:=⟨_,rfl⟩
    have HSV:=Lib.hid hS
    change Code.wp _ _ _ _ ((WL.alloc (.cells (svArr (.slice A2 k cap2) LA 8 cls.length) 50)).alloc (.cells (toArr (row1 WL.heap.size) (.slice none 0 0)) 46))
    rw [hS]
    have hbz:Below WL.heap.size WL ((WL.alloc (.cells S 50)).alloc (.cells (toArr (row1 WL.heap.size) (.slice none 0 0)) 46)):=((Below.refl _ WL).alloc (Nat.le_refl _) _).alloc (by simp) _
    have hkt:=Blk.new (WL.alloc (.cells S 50)) (toArr (row1 WL.heap.size) (.slice none 0 0)) 46
    rw [World.size_alloc] at hkt
    have E0:=Lib.hid (show LEnd WL L (WL.heap.size+1) WL.heap.size (row1 WL.heap.size) S 0 ((WL.alloc (.cells S 50)).alloc (.cells (toArr (row1 WL.heap.size) (.slice none 0 0)) 46)) (.slice none 0 0) [] from
      { hb:=hbz
        tb0:=Nat.le_succ _
        box:=hkt
        term:=(Blk.new WL S 50).alloc _
        row:=World.ownsRow_nil _ _ _ _
        len:=rfl
        at':=fun i h hi _=>by omega })
    clear x0 x1 x2 x3 x4 hbz hkt hS
    generalize ((WL.alloc (.cells S 50)).alloc (.cells (toArr (row1 WL.heap.size) (.slice none 0 0)) 46))=W1 at E0 ⊢
    obtain ⟨tg,htg⟩:∃ n,WL.heap.size=n:=⟨_,rfl⟩
    have HTG:=Lib.hid htg
    have HTL:=Lib.hid HR.out.r.tl
    rw [htg] at E0 ⊢
    clear htg
    go_upto_block 2 with fail
    go_cut [20] from 98 to 177 (fun iv W=>∃ ev E,LEnd WL L (tg+1) tg (row1 tg) S L.length W ev E)
    case first =>
      go_wp2_with fail
      go_loopw [20] (fun (iv:Value) (W:World)=>∃ (j:Nat) (ev:Value) (E:List (Value×Value)),j≤L.length∧iv=.int .i64 (j:Nat)∧LEnd WL L (tg+1) tg (row1 tg) S j W ev E) (fun v _=>L.length - (intOf v).toNat)
      case atStart=>exact ⟨0,_,[],Nat.zero_le _,rfl,E0.out⟩
      case round =>
        obtain ⟨j,ev,E,hj,rfl,R⟩:=hrel
        have y0:=(HKC.out.kept R.hb).cell 0 (.slice TA Ts.length TC) HC0.out
        have y0l:=(HKC.out.kept R.hb).lt
        have hjj:(Ts.length:Int)=(L.length:Int):=by rw [HTL.out]
        by_cases hlt:j<L.length
        · obtain ⟨h,hh⟩:=get_lt hlt
          have kl:(j:Int)<(Ts.length:Int):=by omega
          have R0:=HR.out.r.kept R.hb
          obtain ⟨_,c1,_,_,c4,dgl⟩:=R0.cells hh
          obtain ⟨A5,c5,rfl⟩:=own_form R.row
          have q1:=R.box.cell 2 (.slice A5 j c5) rfl
          obtain ⟨A6,c6,hevv⟩:=own_form (R0.he j h hh)
          rw [hevv] at c4
          have HEV:=Lib.hid hevv
          have hhok:=HR.out.ok h (List.mem_of_getElem? hh)
          have hll:Calls Tryz.prog 8 #[.pointer (some ⟨p,0,none⟩),.int .i64 (j:Nat),.int .u64 0] wr.drew _:=ref_Live (now:=0) R0.drew hh (by have:=hhok.len;have:=HKN.out.2;omega)
          have HLL:=Lib.hid hll
          have hlB:Calls Tryz.prog 8 #[.pointer (some ⟨p,0,none⟩),.int .i64 (j:Nat),.int .u64 0] (wr.alloc (.cells #[] 103)).drew _:=ref_Live (now:=0) (R0.alloc (.cells #[] 103)).drew hh (by have:=hhok.len;have:=HKN.out.2;omega)
          have HLB:=Lib.hid hlB
          have hj16:=H16.out
          have hes:h.ents.length≤200:=by have:=hhok.ents;have:=HKN.out.2;omega
          have HRR:=Lib.hid R0
          have HLE:=Lib.hid R
          have HHH:=Lib.hid hh
          clear R R0 hevv hhok hll hlB hh
          go_upto_region 20 with fail
          refine region_cut (S:=fun w':World=>w'.cell? ⟨tg+1,2,none⟩=some (.slice A5 j c5)∧w'.cell? ⟨p,1,none⟩=some (.slice (some ⟨d1.g,0,none⟩) L.length d1.cap)∧w'.cell? ⟨d1.g,j*3+2,none⟩=some (.slice A6 h.ents.length c6)) 19
            (.take 0 (.take 1 (.take 2 (.take 3 (.take 6 (.take 7 (.take 8 (.take 9 (.take 10 (.take 11 (.take 12 (.take 13 (.two 4 (.one 5 (.one 14 (.take 15 (.one 16 (.one 17 (.take 18 (.one 19 .nil))))))) 5 (.one 4 (.one 14 (.take 15 (.one 16 (.one 17 (.take 18 (.one 19 .nil))))))))))))))))))))
            (by kernel_rfl) (by kernel_rfl) (by kernel_rfl) (fun _ _ _ dst _ h=>by cases dst<;>exact h) ⟨q1,c1,c4⟩ (fun hH=>?_)
          clear hH
          (repeat (first | (refine cut_free (v:=?_) (by (simp only [ga1,ga2,ga3];exact rfl)) (by rfl) ?_ ?_;rotate_left;(focus (intro wS;go_simp;(try with_reducible rfl);done));simp only [Act.put,pu1,pu2,pu3]) | (refine cut_take (v:=?_) (by kernel_rfl) (by (simp only [ga1,ga2,ga3];exact rfl)) (by rfl) ?_ ?_;rotate_left;(focus (intro wS hS;(try dsimp only at hS);go_split_ands;go_simp;(try with_reducible rfl);done));simp only [Act.put,pu1,pu2,pu3])))
          refine cut_two (by (simp only [ga1,ga2,ga3];exact rfl)) (by rfl) (by (simp only [ga1,ga2,ga3];exact rfl)) (by rfl) ?_ ?_
          · intro K hK
            go_simp
            refine HLL.out.mono ?_
            rintro e wA ⟨sv,rfl,ownS,hbA⟩
            have hbA':Below wr.heap.size wr wA:=(Below.refl _ wr).drew.trans hbA
            refine hK.out _ _ ⟨cell_keep hbA' q1,cell_keep hbA' c1,cell_keep hbA' c4⟩ (fun hH=>?_)
            clear hK K hH
            obtain ⟨A7,c7,rfl⟩:=own_form ownS
            obtain ⟨n7,hn7⟩:∃ n,(liveN h.ses 0).length=n:=⟨_,rfl⟩
            have HN7:=Lib.hid hn7
            rw [hn7] at ownS ⊢
            clear hn7
            (try simp only [Act.put,pu1,pu2,pu3])
            (refine cut_one (by decide) (by (simp only [ga1,ga2,ga3];exact rfl)) (by rfl) ?_;intro K hK;go_simp)
            have OE:(wA.alloc (.cells #[] 103)).ownsRow wr.heap.size 103 4 (.slice (some ⟨wA.heap.size,0,none⟩) 0 0) 0 []:=⟨rfl,.inr ⟨_,0,#[],rfl,hbA'.size,(Blk.new wA #[] 103),Nat.le_refl _,Nat.zero_le _,rfl,rfl⟩⟩
            have OS:=own_below ownS ((Below.refl _ wA).alloc (Nat.le_refl _) (.cells #[] 103))
            have BY:Below wr.heap.size wr (wA.alloc (.cells #[] 103)):=hbA'.alloc hbA'.size _
            obtain ⟨eb,heb⟩:∃ n,wA.heap.size=n:=⟨_,rfl⟩
            rw [heb] at OE ⊢
            clear ownS hbA hbA' heb
            generalize (wA.alloc (.cells #[] 103))=Wy at OE OS BY ⊢
            have q1y:=cell_keep BY q1
            have q2y:=cell_keep BY c1
            have q3y:=cell_keep BY c4
            refine hK.out _ _ ⟨q1y,q2y,q3y⟩ (fun hH=>?_)
            clear hK K hH
            (try simp only [Act.put,pu1,pu2,pu3])
            (refine cut_one (by decide) (by (simp only [ga1,ga2,ga3];exact rfl)) (by rfl) ?_;intro K hK)
            have hx:=src_all (own_below (show wr.ownsRow 0 103 4 (.slice A6 h.ents.length c6) h.ents.length (entArgs h.ents) by rw [←HEV.out];exact HRR.out.he j h HHH.out) BY)
            refine oper_append_any _ _ 33 rfl wr.heap.size 103 e0 _ 4 40 Tryz.underlying33 ei ez0 ez1 ez2 rfl (by decide) eb 0 0 [] rfl OE h.ents.length (entArgs h.ents) (entArgs_len _) hx (entArgs_one _) (by unfold maxLen;omega) (by omega) BY.size ?_
            intro g' cap' wB ownB hgrB hfrB
            have eb1:=(OE.lt eb rfl).1
            have ne:∀ b,b<wr.heap.size→some b≠(Value.slice (some ⟨eb,0,none⟩) 0 0).ownBlock:=fun b hb e=>by
              have e':b=eb:=by simpa [Value.ownBlock] using e
              omega
            have q1z:=hgrB.cell q1y (ne _ HLE.out.box.lt)
            have q2z:=hgrB.cell q2y (ne _ HRR.out.hp.lt)
            have q3z:=hgrB.cell q3y (ne _ dgl)
            have OSB:wB.ownsRow wr.heap.size 90 4 (.slice A7 n7 c7) n7 (sesArgs (liveN h.ses 0)):=own_block OS (fun b hb=>hgrB.block b (OS.lt b hb).2 (fun e=>by
              obtain ⟨cur,hcur⟩:=own_typed OS hb
              obtain ⟨cur2,hcur2⟩:=own_typed OE e.symm
              exact (show Of Wy b 90 from ⟨cur,_,hcur⟩).ne (show Of Wy b 103 from ⟨cur2,_,hcur2⟩) (by decide) rfl))
            have BB:Below wr.heap.size wr wB:=BY.grown hgrB BY.size (fun k hk=>(OE.lt k hk).1)
            simp only [Nat.zero_add,List.nil_append] at ownB ⊢
            refine hK.out _ _ ⟨q1z,q2z,q3z⟩ (fun hH=>?_)
            clear hK K hH q1y q2y q3y hx OS OE BY hgrB hfrB ne eb1
            (try simp only [Act.put,pu1,pu2,pu3])
            (repeat (first | (refine cut_free (v:=?_) (by (simp only [ga1,ga2,ga3];exact rfl)) (by rfl) ?_ ?_;rotate_left;(focus (intro wS;go_simp;(try with_reducible rfl);done));simp only [Act.put,pu1,pu2,pu3]) | (refine cut_take (v:=?_) (by kernel_rfl) (by (simp only [ga1,ga2,ga3];exact rfl)) (by rfl) ?_ ?_;rotate_left;(focus (intro wS hS;(try dsimp only at hS);go_split_ands;go_simp;(try with_reducible rfl);done));simp only [Act.put,pu1,pu2,pu3])))
            (refine cut_one (by decide) (by (simp only [ga1,ga2,ga3];exact rfl)) (by rfl) ?_;intro K hK;go_simp)
            change K _ (wB.alloc (.cells [Value.slice A7 n7 c7,.slice (some ⟨g',0,none⟩) h.ents.length cap'].toArray 64))
            have hN1:=cells_new wB [Value.slice A7 n7 c7,.slice (some ⟨g',0,none⟩) h.ents.length cap'] 64
            have hB1:Below wB.heap.size wB (wB.alloc (.cells [Value.slice A7 n7 c7,.slice (some ⟨g',0,none⟩) h.ents.length cap'].toArray 64)):=(Below.refl _ wB).alloc (Nat.le_refl _) _
            have rw1:=own_below (own_below HLE.out.row BB) hB1
            have BZ:=BB.trans (hB1.mono BB.size)
            have HSR:=Lib.hid (And.intro (Reads.of_own (own_below OSB hB1)) (fun b hb=>(OSB.lt b hb).1))
            have HER:=Lib.hid (And.intro (Reads.of_own (own_below ownB hB1)) (fun b hb=>(ownB.lt b hb).1))
            have q1w:=cell_keep hB1 q1z
            have q2w:=cell_keep hB1 q2z
            have q3w:=cell_keep hB1 q3z
            have bx1:=HLE.out.box.kept BZ
            have hws:WL.heap.size≤(wB.alloc (.cells [Value.slice A7 n7 c7,.slice (some ⟨g',0,none⟩) h.ents.length cap'].toArray 64)).heap.size:=Nat.le_trans HLE.out.hb.size BZ.size
            obtain ⟨z0,hz0⟩:∃ z,wB.heap.size=z:=⟨_,rfl⟩
            clear q1z q2z q3z hB1 OSB ownB BB
            generalize (wB.alloc (.cells [Value.slice A7 n7 c7,.slice (some ⟨g',0,none⟩) h.ents.length cap'].toArray 64))=W1 at *
            rw [hz0] at hN1 ⊢
            refine hK.out _ _ ⟨q1w,q2w,q3w⟩ (fun hH=>?_)
            clear hK K hH
            (try simp only [Act.put,pu1,pu2,pu3])
            (refine cut_one (by decide) (by (simp only [ga1,ga2,ga3];exact rfl)) (by rfl) ?_;intro K hK)
            refine oper_append_row _ _ 44 rfl WL.heap.size 64 j0 _ 2 48 Tryz.underlying44 ji jz0 jz1 jz2 rfl (by decide) _ _ _ rfl rw1 ⟨z0,0,none⟩ 1 1 [Value.slice A7 n7 c7,.slice (some ⟨g',0,none⟩) h.ents.length cap'] rfl rfl hN1 (by simp [Value.oneCell']) (by unfold maxLen;omega) (by omega) hws ?_
            intro v' w6 own6 hgr hfr
            obtain ⟨A9,c9,rfl⟩:=own_form own6
            have rne:∀ b,b<WL.heap.size→some b≠(Value.slice A5 j c5).ownBlock:=fun b hb e=>by
              have:=(HLE.out.row.lt b e.symm).1
              omega
            have sne:some (tg+1)≠(Value.slice A5 j c5).ownBlock:=fun e=>by
              obtain ⟨cur,hcur⟩:=own_typed rw1 e.symm
              exact (show Of W1 (tg+1) 46 from ⟨_,_,bx1⟩).ne (show Of W1 (tg+1) 64 from ⟨cur,_,hcur⟩) (by decide) rfl
            have s6:=hgr.cell q1w sne
            have f6:w6.frozen? ⟨tg+1,2,none⟩=false:=Blk.frozen (show Blk w6 (tg+1) (toArr (row1 tg) (.slice A5 j c5)) 46 from (hgr.block (tg+1) bx1.lt sne).trans bx1) 2
            have dgc:d1.g<WL.heap.size:=by obtain ⟨cur,hb,_⟩:=HR.out.r.hg;exact hb.lt
            refine hK.out _ _ ⟨s6,hgr.cell q2w (rne _ HR.out.r.hp.lt),hgr.cell q3w (rne _ dgc)⟩ (fun hH=>?_)
            clear hK K hH
            (try simp only [Act.put,pu1,pu2,pu3])
            (repeat (first | (refine cut_free (v:=?_) (by (simp only [ga1,ga2,ga3];exact rfl)) (by rfl) ?_ ?_;rotate_left;(focus (intro wS;go_simp;(try with_reducible rfl);done));simp only [Act.put,pu1,pu2,pu3]) | (refine cut_take (v:=?_) (by kernel_rfl) (by (simp only [ga1,ga2,ga3];exact rfl)) (by rfl) ?_ ?_;rotate_left;(focus (intro wS hS;(try dsimp only at hS);go_split_ands;go_simp;(try with_reducible rfl);done));simp only [Act.put,pu1,pu2,pu3])))
            (refine cut_here (by (simp only [ga1,ga2,ga3];exact rfl)) (by rfl) ?_;intro K hK;go_simp)
            refine hK.out _ _ ?_
            refine tree_nil ?_
            have HF:=Lib.hid (HLE.out.step HHH.out BZ (by rw [HN7.out];exact HSR.out.1) HSR.out.2 HER.out.1 HER.out.2 own6 hgr hfr)
            clear own6 hgr hfr s6 f6 q1w q2w q3w hN1 rne sne dgc rw1 BZ bx1 hws
            go_wp2_with fail
            go_roundw
            case rel=>exact ⟨j+1,_,_,hlt,rfl,HF.out⟩
            case measure=>simp [intOf];omega
          · intro K hK
            go_simp
            have BE:Below wr.heap.size wr ((wr.alloc (.cells #[] 103)).drew):=((Below.refl _ wr).alloc (Nat.le_refl _) _).drew
            have OE0:((wr.alloc (.cells #[] 103)).drew).ownsRow wr.heap.size 103 4 (.slice (some ⟨wr.heap.size,0,none⟩) 0 0) 0 []:=⟨rfl,.inr ⟨_,0,#[],rfl,Nat.le_refl _,(Blk.new wr #[] 103),Nat.le_refl _,Nat.zero_le _,rfl,rfl⟩⟩
            refine hK.out _ _ ⟨cell_keep BE q1,cell_keep BE c1,cell_keep BE c4⟩ (fun hH=>?_)
            clear hK K hH
            (try simp only [Act.put,pu1,pu2,pu3])
            (refine cut_one (by decide) (by (simp only [ga1,ga2,ga3];exact rfl)) (by rfl) ?_;intro K hK;go_simp)
            refine HLB.out.mono ?_
            rintro e wA ⟨sv,rfl,ownS,hbA⟩
            obtain ⟨A7,c7,rfl⟩:=own_form ownS
            obtain ⟨n7,hn7⟩:∃ n,(liveN h.ses 0).length=n:=⟨_,rfl⟩
            have HN7:=Lib.hid hn7
            rw [hn7] at ownS ⊢
            clear hn7
            have OE:=own_below OE0 hbA
            have OS:=own_base ownS BE.size
            have BY:Below wr.heap.size wr wA:=BE.trans (hbA.mono BE.size)
            obtain ⟨eb,heb⟩:∃ n,wr.heap.size=n:=⟨_,rfl⟩
            have OE':wA.ownsRow wr.heap.size 103 4 (.slice (some ⟨eb,0,none⟩) 0 0) 0 []:=by rw [←heb];exact OE
            clear OE
            have OE:=OE'
            clear OE'
            rw [heb]
            clear ownS hbA heb OE0
            generalize wA=Wy at OE OS BY ⊢
            have q1y:=cell_keep BY q1
            have q2y:=cell_keep BY c1
            have q3y:=cell_keep BY c4
            refine hK.out _ _ ⟨q1y,q2y,q3y⟩ (fun hH=>?_)
            clear hK K hH
            (try simp only [Act.put,pu1,pu2,pu3])
            (refine cut_one (by decide) (by (simp only [ga1,ga2,ga3];exact rfl)) (by rfl) ?_;intro K hK)
            have hx:=src_all (own_below (show wr.ownsRow 0 103 4 (.slice A6 h.ents.length c6) h.ents.length (entArgs h.ents) by rw [←HEV.out];exact HRR.out.he j h HHH.out) BY)
            refine oper_append_any _ _ 33 rfl wr.heap.size 103 e0 _ 4 40 Tryz.underlying33 ei ez0 ez1 ez2 rfl (by decide) eb 0 0 [] rfl OE h.ents.length (entArgs h.ents) (entArgs_len _) hx (entArgs_one _) (by unfold maxLen;omega) (by omega) BY.size ?_
            intro g' cap' wB ownB hgrB hfrB
            have eb1:=(OE.lt eb rfl).1
            have ne:∀ b,b<wr.heap.size→some b≠(Value.slice (some ⟨eb,0,none⟩) 0 0).ownBlock:=fun b hb e=>by
              have e':b=eb:=by simpa [Value.ownBlock] using e
              omega
            have q1z:=hgrB.cell q1y (ne _ HLE.out.box.lt)
            have q2z:=hgrB.cell q2y (ne _ HRR.out.hp.lt)
            have q3z:=hgrB.cell q3y (ne _ dgl)
            have OSB:wB.ownsRow wr.heap.size 90 4 (.slice A7 n7 c7) n7 (sesArgs (liveN h.ses 0)):=own_block OS (fun b hb=>hgrB.block b (OS.lt b hb).2 (fun e=>by
              obtain ⟨cur,hcur⟩:=own_typed OS hb
              obtain ⟨cur2,hcur2⟩:=own_typed OE e.symm
              exact (show Of Wy b 90 from ⟨cur,_,hcur⟩).ne (show Of Wy b 103 from ⟨cur2,_,hcur2⟩) (by decide) rfl))
            have BB:Below wr.heap.size wr wB:=BY.grown hgrB BY.size (fun k hk=>(OE.lt k hk).1)
            simp only [Nat.zero_add,List.nil_append] at ownB ⊢
            refine hK.out _ _ ⟨q1z,q2z,q3z⟩ (fun hH=>?_)
            clear hK K hH q1y q2y q3y hx OS OE BY hgrB hfrB ne eb1
            (try simp only [Act.put,pu1,pu2,pu3])
            (repeat (first | (refine cut_free (v:=?_) (by (simp only [ga1,ga2,ga3];exact rfl)) (by rfl) ?_ ?_;rotate_left;(focus (intro wS;go_simp;(try with_reducible rfl);done));simp only [Act.put,pu1,pu2,pu3]) | (refine cut_take (v:=?_) (by kernel_rfl) (by (simp only [ga1,ga2,ga3];exact rfl)) (by rfl) ?_ ?_;rotate_left;(focus (intro wS hS;(try dsimp only at hS);go_split_ands;go_simp;(try with_reducible rfl);done));simp only [Act.put,pu1,pu2,pu3])))
            (refine cut_one (by decide) (by (simp only [ga1,ga2,ga3];exact rfl)) (by rfl) ?_;intro K hK;go_simp)
            change K _ (wB.alloc (.cells [Value.slice A7 n7 c7,.slice (some ⟨g',0,none⟩) h.ents.length cap'].toArray 64))
            have hN1:=cells_new wB [Value.slice A7 n7 c7,.slice (some ⟨g',0,none⟩) h.ents.length cap'] 64
            have hB1:Below wB.heap.size wB (wB.alloc (.cells [Value.slice A7 n7 c7,.slice (some ⟨g',0,none⟩) h.ents.length cap'].toArray 64)):=(Below.refl _ wB).alloc (Nat.le_refl _) _
            have rw1:=own_below (own_below HLE.out.row BB) hB1
            have BZ:=BB.trans (hB1.mono BB.size)
            have HSR:=Lib.hid (And.intro (Reads.of_own (own_below OSB hB1)) (fun b hb=>(OSB.lt b hb).1))
            have HER:=Lib.hid (And.intro (Reads.of_own (own_below ownB hB1)) (fun b hb=>(ownB.lt b hb).1))
            have q1w:=cell_keep hB1 q1z
            have q2w:=cell_keep hB1 q2z
            have q3w:=cell_keep hB1 q3z
            have bx1:=HLE.out.box.kept BZ
            have hws:WL.heap.size≤(wB.alloc (.cells [Value.slice A7 n7 c7,.slice (some ⟨g',0,none⟩) h.ents.length cap'].toArray 64)).heap.size:=Nat.le_trans HLE.out.hb.size BZ.size
            obtain ⟨z0,hz0⟩:∃ z,wB.heap.size=z:=⟨_,rfl⟩
            clear q1z q2z q3z hB1 OSB ownB BB
            generalize (wB.alloc (.cells [Value.slice A7 n7 c7,.slice (some ⟨g',0,none⟩) h.ents.length cap'].toArray 64))=W1 at *
            rw [hz0] at hN1 ⊢
            refine hK.out _ _ ⟨q1w,q2w,q3w⟩ (fun hH=>?_)
            clear hK K hH
            (try simp only [Act.put,pu1,pu2,pu3])
            (refine cut_one (by decide) (by (simp only [ga1,ga2,ga3];exact rfl)) (by rfl) ?_;intro K hK)
            refine oper_append_row _ _ 44 rfl WL.heap.size 64 j0 _ 2 48 Tryz.underlying44 ji jz0 jz1 jz2 rfl (by decide) _ _ _ rfl rw1 ⟨z0,0,none⟩ 1 1 [Value.slice A7 n7 c7,.slice (some ⟨g',0,none⟩) h.ents.length cap'] rfl rfl hN1 (by simp [Value.oneCell']) (by unfold maxLen;omega) (by omega) hws ?_
            intro v' w6 own6 hgr hfr
            obtain ⟨A9,c9,rfl⟩:=own_form own6
            have rne:∀ b,b<WL.heap.size→some b≠(Value.slice A5 j c5).ownBlock:=fun b hb e=>by
              have:=(HLE.out.row.lt b e.symm).1
              omega
            have sne:some (tg+1)≠(Value.slice A5 j c5).ownBlock:=fun e=>by
              obtain ⟨cur,hcur⟩:=own_typed rw1 e.symm
              exact (show Of W1 (tg+1) 46 from ⟨_,_,bx1⟩).ne (show Of W1 (tg+1) 64 from ⟨cur,_,hcur⟩) (by decide) rfl
            have s6:=hgr.cell q1w sne
            have f6:w6.frozen? ⟨tg+1,2,none⟩=false:=Blk.frozen (show Blk w6 (tg+1) (toArr (row1 tg) (.slice A5 j c5)) 46 from (hgr.block (tg+1) bx1.lt sne).trans bx1) 2
            have dgc:d1.g<WL.heap.size:=by obtain ⟨cur,hb,_⟩:=HR.out.r.hg;exact hb.lt
            refine hK.out _ _ ⟨s6,hgr.cell q2w (rne _ HR.out.r.hp.lt),hgr.cell q3w (rne _ dgc)⟩ (fun hH=>?_)
            clear hK K hH
            (try simp only [Act.put,pu1,pu2,pu3])
            (repeat (first | (refine cut_free (v:=?_) (by (simp only [ga1,ga2,ga3];exact rfl)) (by rfl) ?_ ?_;rotate_left;(focus (intro wS;go_simp;(try with_reducible rfl);done));simp only [Act.put,pu1,pu2,pu3]) | (refine cut_take (v:=?_) (by kernel_rfl) (by (simp only [ga1,ga2,ga3];exact rfl)) (by rfl) ?_ ?_;rotate_left;(focus (intro wS hS;(try dsimp only at hS);go_split_ands;go_simp;(try with_reducible rfl);done));simp only [Act.put,pu1,pu2,pu3])))
            (refine cut_here (by (simp only [ga1,ga2,ga3];exact rfl)) (by rfl) ?_;intro K hK;go_simp)
            refine hK.out _ _ ?_
            refine tree_nil ?_
            have HF:=Lib.hid (HLE.out.step HHH.out BZ (by rw [HN7.out];exact HSR.out.1) HSR.out.2 HER.out.1 HER.out.2 own6 hgr hfr)
            clear own6 hgr hfr s6 f6 q1w q2w q3w hN1 rne sne dgc rw1 BZ bx1 hws
            go_wp2_with fail
            go_roundw
            case rel=>exact ⟨j+1,_,_,hlt,rfl,HF.out⟩
            case measure=>simp [intOf];omega
        · have HX:=Lib.hid (show j=L.length by omega)
          have kl:¬ (j:Int)<(Ts.length:Int):=by omega
          have HEE:=Lib.hid R
          clear R
          go_wp2_with fail
          go_meet
          case rel=>exact ⟨ev,E,by rw [←HX.out];exact HEE.out⟩
    case rest =>
      obtain ⟨ev,E,R⟩:=hcut
      have HKC2:=Lib.hid (HKC.out.kept R.hb)
      have HKO2:=Lib.hid (HKO.out.kept R.hb)
      have HR2:=Lib.hid (HR.out.kept R.hb)
      have HLE:=Lib.hid R
      obtain ⟨A5,c5,rfl⟩:=own_form R.row
      clear R HKC HKO HR E0
      obtain ⟨f2,hg1,hg2⟩:=term_make
      have HG2:=Lib.hid hg2
      clear hg2
      go_upto_region 22 with fail
      have BG:=HG2.out wc
      have HKC3:=Lib.hid (HKC2.out.kept BG)
      have HKO3:=Lib.hid (HKO2.out.kept BG)
      have HR3:=Lib.hid (HR2.out.kept BG)
      have HLE3:=Lib.hid (HLE.out.kept BG)
      clear BG HG2 hg1 HKC2 HKO2 HR2 HLE
      obtain ⟨lb,hlb⟩:∃ n,wc.heap.size=n:=⟨_,rfl⟩
      rw [hlb]
      clear hlb
      generalize f2 wc=W2 at HKC3 HKO3 HR3 HLE3 ⊢
      have hE3:Reads W2 (.slice A5 Ts.length c5) Ts.length 2 (endArgs E):=by rw [HTL.out];exact Reads.of_own HLE3.out.row
      have hT3:TolIs W2 (some ⟨tg,0,none⟩) 1 (.slice A2 k cap2) l LA 8 cls.length:=⟨HR3.out.recok (by have:=HKN.out.2;omega) HKN.out.1 hcl,by rw [HR3.out.len];have:=HKN.out.2;omega,by rw [HSV.out];exact blk_reads HLE3.out.term (by rw [←HSV.out];rfl),by rw [HR3.out.len];exact Reads.of_own HR3.out.row,HR3.out.ask (by have:=HKN.out.2;omega)⟩
      have hEx1:=HEX.out W2 HR3.out.hb (some ⟨lb,0,none⟩) 1 (some ⟨tg,0,none⟩) 1 A5 c5 E (.slice A2 k cap2) l LA 8 cls.length hT3 hE3 (fun L' h=>by rw [HR3.out.thr] at h;cases h;exact HLE3.out.endok)
      unfold toArr at hEx1
      have HEx1:=Lib.hid hEx1
      have hbx:Blk W2 (tg+1) #[.int .i64 0,.slice (some ⟨tg,0,none⟩) 1 1,.slice A5 Ts.length c5] 46:=by rw [HTL.out];exact HLE3.out.box
      have HBX:=Lib.hid hbx
      clear hE3 hT3 hEx1 hbx
      go_wp2_with (first
        | (refine wpList_load_blk rfl 28 (Operand.tmp 5) rfl w.heap.size rfl 28 _ _ HKC3.out Tryz.underlying28 rfl (by rw [HCS.out];kernel_rfl) ?_)
        | (refine wpList_load_blk rfl 46 (Operand.tmp 19) rfl (tg+1) rfl 46 _ _ HBX.out Tryz.underlying46 rfl (by exact Tryz.size46) ?_))
      refine HEx1.out.mono ?_
      rintro e w5 ⟨hb5,⟨hn,_⟩ | ⟨L',hL',rfl⟩⟩
      · rw [HR3.out.thr] at hn;cases hn
      have HKC5:=Lib.hid (HKC3.out.kept hb5)
      have HKO5:=Lib.hid (HKO3.out.kept hb5)
      have HR5:=Lib.hid (HR3.out.kept hb5)
      have HLE5:=Lib.hid (HLE3.out.kept hb5)
      have HBX5:=Lib.hid (HBX.out.kept hb5)
      have y1:=HR5.out.box.cell 1 (.slice A2 k cap2) rfl
      have y1l:=HR5.out.box.lt
      clear hb5 hL' HEx1 HKC3 HKO3 HR3 HLE3 HBX
      by_cases hk0:k=0
      · have kz:(k:Int)=0:=by omega
        clear hk0
        go_wp2_with fail
        go_ret
        exact ⟨rfl,HR5.out.hb⟩
      · have kz:¬ (k:Int)=0:=by omega
        obtain ⟨M,hM⟩:∃ M,wh.tmod (k:Int)=M:=⟨_,rfl⟩
        have hM1:-(k:Int)<M∧M<(k:Int):=by rw [←hM];exact ⟨by have:=Int.lt_tmod_of_pos wh (b:=(k:Int)) (by omega);omega,Int.tmod_lt_of_pos wh (by omega)⟩
        have hk2:=HKN.out.2
        go_upto_if 148 with fail
        go_cut [24] from 132 to 177 (fun v W=>W=w5∧∃ kk:Nat,v=.int .i64 (kk:Nat)∧kk<k)
        case first =>
          by_cases hneg:M<0
          · obtain ⟨kk,hkk⟩:∃ kk:Nat,M+(k:Int)=(kk:Int):=⟨(M+k).toNat,by omega⟩
            have wz:IntKind.i64.wrap (M+(k:Int))=(kk:Int):=(IntWalk.i64_in _ (by omega)).trans hkk
            have HKK:=Lib.hid (show kk<k by omega)
            clear hkk
            go_wp2_with fail
            go_meet
            case rel=>exact ⟨rfl,kk,rfl,HKK.out⟩
          · obtain ⟨kk,hkk⟩:∃ kk:Nat,M=(kk:Int):=⟨M.toNat,by omega⟩
            have HKK:=Lib.hid (show kk<k by omega)
            have HKE:=Lib.hid hkk
            clear hkk
            go_wp2_with fail
            go_meet
            case rel=>exact ⟨rfl,kk,by rw [HKE.out],HKK.out⟩
        case rest =>
          obtain ⟨hw,kk,rfl,hkk⟩:=hcut
          obtain rfl:=hw.symm
          clear hw hM hM1 M
          obtain ⟨x,hx⟩:=get_lt (show kk<l.length by rw [HR5.out.len];exact hkk)
          have HXX:=Lib.hid hx
          have HKK:=Lib.hid hkk
          obtain ⟨rg,rfl,cur,hrb⟩:∃ rg,A2=some ⟨rg,0,none⟩∧∃ cur,Blk w5 rg cur 55:=by
            rcases HR5.out.row.2 with ⟨h1,h2⟩ | ⟨g,cap',cur,h1,_,hg,_⟩
            · omega
            · cases h1
              exact ⟨g,rfl,cur,hg⟩
          have HRB:=Lib.hid hrb
          have hask:=HR5.out.ask (by omega) x (List.mem_of_getElem? hx)
          have hr5:=Reads.of_own HR5.out.row
          have hat:w5.rangeAt rg (kk*31+15) (agArr x.ans x.tv x.ev).toList:=by
            obtain ⟨b',o',e',_,hh⟩:=hr5.ask_at hx
            cases e'
            have h2:(askCells x).drop 15=(agArr x.ans x.tv x.ev).toList++[.int .i64 x.st,.int .i64 1]:=rfl
            intro j v hj
            have hj14:j<14:=(List.getElem?_eq_some_iff.1 hj).1
            have h3:=hh (15+j) v (by rw [←List.getElem?_drop,h2,List.getElem?_append_left hj14];exact hj)
            rw [show 0+kk*31+(15+j)=kk*31+15+j by omega] at h3
            exact h3
          have hob:w5.rangeAt (w.heap.size+1) 0 O.toList:=by
            have:=HKO5.out.range 0 14
            rw [List.drop_zero,List.take_of_length_le (by rw [Array.length_toList,←HOE.out];exact Nat.le_refl _)] at this
            exact this
          have kl:(kk:Int)<(k:Int):=by omega
          have hSm:=HSM.out (.agg (agArr x.ans x.tv x.ev)) (.agg O) x.ans oth w5.drew ⟨x.tv,x.ev,rfl,hask.tv,hask.ev⟩ (by rw [←HOE.out];exact ⟨otv,oev,rfl,(HA.out.kept HR5.out.hb).otv,(HA.out.kept HR5.out.hb).oev⟩)
          have HSM5:=Lib.hid hSm
          clear hask hr5 hSm hrb hx hkk
          go_upto_region 30 with fail
          refine region_plan (S:=fun w':World=>w'.cell? ⟨sb,1,none⟩=some (.slice (some ⟨rg,0,none⟩) k cap2)∧w'.rangeAt rg (kk*31+15) (agArr x.ans x.tv x.ev).toList∧w'.rangeAt (w.heap.size+1) 0 O.toList)
            ((0,true)::(1,true)::(2,true)::(3,true)::(4,true)::(5,true)::(6,true)::(7,false)::(8,true)::[])
            (by kernel_rfl) (by kernel_rfl) (by kernel_rfl) (by kernel_rfl) (fun _ _ _ dst _ h=>by cases dst<;>exact h) ⟨y1,hat,hob⟩ (fun hH=>?_)
          clear hH
          iterate 5 (refine plan_take (v:=?_) (by (simp only [ga1,ga2,ga3];exact rfl)) (by rfl) ?_ ?_;rotate_left;(focus (intro wS hS;(try dsimp only at hS);go_split_ands;go_simp;(try with_reducible rfl)));simp only [Act.put,pu1,pu2,pu3])
          (refine plan_take (v:=.agg (agArr x.ans x.tv x.ev)) (by (simp only [ga1,ga2,ga3];exact rfl)) (by rfl) (fun wS hS=>exec_load_mid 35 (Operand.tmp 158) rfl rg (kk*31+15) rfl (agArr x.ans x.tv x.ev).toList _ hS.2.1 Tryz.underlying35 rfl (by exact Tryz.size35)) ?_;(try simp only [Act.put,pu1,pu2,pu3]))
          (refine plan_take (v:=.agg O) (by (simp only [ga1,ga2,ga3];exact rfl)) (by rfl) (fun wS hS=>exec_load_mid 35 (Operand.tmp 9) rfl (w.heap.size+1) 0 rfl O.toList _ hS.2.2 Tryz.underlying35 rfl (by rw [Array.length_toList,←HOE.out];exact Tryz.size35)) ?_;(try simp only [Act.put,pu1,pu2,pu3]))
          (refine plan_solo (by (simp only [ga1,ga2,ga3];exact rfl)) (by rfl) ?_;intro K hK;go_simp)
          refine HSM5.out.mono ?_
          rintro e w6 ⟨rfl,hb6⟩
          obtain ⟨bb,hbb⟩:∃ b,decide (x.ans=oth)=b:=⟨_,rfl⟩
          rw [hbb]
          have HBB:=Lib.hid hbb
          clear hbb
          have hb56:Below w5.heap.size w5 w6:=(Below.refl _ w5).drew.trans hb6
          refine hK.out _ _ ⟨cell_keep hb56 y1,range_kept hat hb56 HRB.out.lt,range_kept hob hb56 HKO5.out.lt⟩ (fun hH=>?_)
          clear hK K hH
          (try simp only [Act.put,pu1,pu2,pu3])
          (repeat (first | (refine plan_take (v:=?_) (by (simp only [ga1,ga2,ga3];exact rfl)) (by rfl) ?_ ?_;rotate_left;(focus (intro wS hS;(try dsimp only at hS);go_split_ands;go_simp;(try with_reducible rfl)));simp only [Act.put,pu1,pu2,pu3]) | (refine plan_skip (by (simp only [ga1,ga2,ga3];exact rfl)) (by rfl) ?_;simp only [Act.put,pu1,pu2,pu3])))
          refine plan_nil ?_
          have HKC6:=Lib.hid (HKC5.out.kept hb56)
          have HKO6:=Lib.hid (HKO5.out.kept hb56)
          have HR6:=Lib.hid (HR5.out.kept hb56)
          have HLE6:=Lib.hid (HLE5.out.kept hb56)
          have HBX6:=Lib.hid (HBX5.out.kept hb56)
          have HRB6:=Lib.hid (HRB.out.kept hb56)
          have y6:=HR6.out.box.cell 1 (.slice (some ⟨rg,0,none⟩) k cap2) rfl
          have y6l:=HR6.out.box.lt
          have hth:w6.there rg (kk*31+15) O.size:=fun j hj=>by
            have h14:O.size=14:=by rw [←HOE.out];rfl
            refine ⟨?_,HRB6.out.frozen _⟩
            have:=range_kept hat hb56 HRB.out.lt
            exact this.isSome j (by show j<14;omega)
          have HTH:=Lib.hid hth
          have HO1:=Lib.hid (show O.all (·.oneCell')=true by
            obtain ⟨a1,b1,q1⟩:=HA.out.otv.form
            obtain ⟨a2,b2,q2⟩:=HA.out.oev.form
            rw [←HOE.out,q1,q2]
            simp [agArr,Value.oneCell'])
          have HOS:=Lib.hid (show O.size=14 by rw [←HOE.out];rfl)
          clear hb6 hb56 y1 y1l hat hob hth HKC5 HKO5 HR5 HLE5 HBX5 HRB HSM5
          go_upto_region 32 with (first
            | (refine wpList_load_blk rfl 35 (Operand.tmp 9) rfl (w.heap.size+1) rfl 35 _ _ HKO6.out Tryz.underlying35 rfl (by rw [HOS.out];exact Tryz.size35) ?_)
            | (refine wpList_store_mid rfl 35 (Operand.tmp 167) (Operand.tmp 165) rfl rg (kk*31+15) O rfl rfl HTH.out (by rw [HOS.out];exact Tryz.size35) HO1.out ?_))
          have o7:=only_setCells rg O.toList (kk*31+15) w6
          have rgl:=HRL.out rg rfl
          have ne7:∀ b t,Of w6 b t→t≠55→b≠rg:=fun b t ho hn=>ho.ne (show Of w6 rg 55 from ⟨_,_,HRB6.out⟩) hn
          have b7:∀ {b t arr},Blk w6 b arr t→t≠55→Blk (w6.setCells rg (kk*31+15) O.toList) b arr t:=fun {b t arr} hk hn=>(o7.block b hk.lt (ne7 b t ⟨_,_,hk⟩ hn)).trans hk
          have HB7:=Lib.hid (HR6.out.hb.trans (o7.below HR6.out.hb.size (fun b hb=>by subst hb;exact (HR6.out.row.lt b rfl).1)))
          have hE7:EndOk (w6.setCells rg (kk*31+15) O.toList) L E:=⟨HLE6.out.len,fun i h hi=>by
            obtain ⟨sv,e',h1,h2,h3⟩:=HLE6.out.at' i h (List.getElem?_eq_some_iff.1 hi).1 hi
            exact ⟨sv,e',h1,h2.only o7 (fun b hb=>by subst hb;exact .inr (.inr rgl)),h3.only o7 (fun b hb=>by subst hb;exact .inr (.inr rgl))⟩⟩
          have hr7:Reads (w6.setCells rg (kk*31+15) O.toList) (.slice A5 Ts.length c5) Ts.length 2 (endArgs E):=by
            rw [HTL.out]
            exact Reads.of_own (own_block HLE6.out.row (fun g hg=>o7.block g (HLE6.out.row.lt g hg).2 (fun hb=>by have:=(HLE6.out.row.lt g hg).1;omega)))
          have hrow7:Reads (w6.setCells rg (kk*31+15) O.toList) (.slice (some ⟨rg,0,none⟩) k cap2) k 31 (askArgs (l.set kk (x.told oth otv oev))):=by
            have:=ask_set (a:=oth) (tv:=otv) (ev:=oev) (Reads.of_own HR6.out.row) HXX.out
            rw [HOE.out,Nat.zero_add] at this
            exact this
          have hlen7:(l.set kk (x.told oth otv oev)).length=k:=by rw [List.length_set];exact HR6.out.len
          have hkb:=HKN.out
          have HAS:=HR6.out.ask (by omega)
          have hok7:∀ y∈l.set kk (x.told oth otv oev),AskOk (w6.setCells rg (kk*31+15) O.toList) y:=by
            intro y hy
            rcases List.mem_or_eq_of_mem_set hy with hy | rfl
            · obtain ⟨h1,h2,h3,h4⟩:=HR6.out.asks y hy
              have h0:=HAS y hy
              exact ⟨h1,h2,h0.nth,h0.pt,h3.only o7 (fun b hb=>by subst hb;exact .inr (.inl rfl)),h4.only o7 (fun b hb=>by subst hb;exact .inr (.inl rfl))⟩
            · have h0:=HAS x (List.mem_of_getElem? HXX.out)
              exact ⟨h0.call,h0.tick,h0.nth,h0.pt,(HA.out.kept HB7.out).otv,(HA.out.kept HB7.out).oev⟩
          have hT7:TolIs (w6.setCells rg (kk*31+15) O.toList) (some ⟨tg,0,none⟩) 1 (.slice (some ⟨rg,0,none⟩) k cap2) (l.set kk (x.told oth otv oev)) LA 8 cls.length :=
            ⟨recok_of (nums_set HR6.out.nums HXX.out) (by rw [hlen7];omega) (by rw [hlen7];exact hkb.1) hcl,by rw [hlen7];omega,by rw [HSV.out];exact blk_reads (b7 HLE6.out.term (by decide)) (by rw [←HSV.out];rfl),by rw [hlen7];exact hrow7,hok7⟩
          have hthr:=thr_set l (newN Ts) L kk x (x.told oth otv oev) HR6.out.thr HXX.out rfl rfl
          have hEx2:=HEX.out _ HB7.out (some ⟨lb,0,none⟩) 1 (some ⟨tg,0,none⟩) 1 A5 c5 E (.slice (some ⟨rg,0,none⟩) k cap2) _ LA 8 cls.length hT7 hr7 (fun L' h=>by
            rw [hthr] at h
            split at h
            · cases h;exact hE7
            · cases h)
          unfold toArr at hEx2
          have HEx2:=Lib.hid hEx2
          have HTHR:=Lib.hid hthr
          have HKC7:=Lib.hid (b7 HKC6.out (by decide))
          have HBX7:=Lib.hid (b7 HBX6.out (by decide))
          clear o7 rgl ne7 b7 hE7 hr7 hrow7 hlen7 hkb HAS hok7 hT7 hthr hEx2 HKC6 HKO6 HR6 HLE6 HBX6 HRB6 y6 y6l HTH
          generalize w6.setCells rg (kk*31+15) O.toList=w7 at *
          go_wp2_with (first
            | (refine wpList_load_blk rfl 28 (Operand.tmp 5) rfl w.heap.size rfl 28 _ _ HKC7.out Tryz.underlying28 rfl (by rw [HCS.out];kernel_rfl) ?_)
            | (refine wpList_load_blk rfl 46 (Operand.tmp 19) rfl (tg+1) rfl 46 _ _ HBX7.out Tryz.underlying46 rfl (by exact Tryz.size46) ?_))
          refine HEx2.out.mono ?_
          rintro e w8 ⟨hb8,hE⟩
          have HB8:=Lib.hid (HB7.out.trans (hb8.mono HB7.out.size))
          unfold ExpP at hE
          rw [HTHR.out] at hE
          clear hb8 HEx2 HTHR HKC7 HBX7 HB7
          cases bb with
          | true =>
            have hs:x.ans=oth:=of_decide_eq_true HBB.out
            rw [if_pos (show x.ans=(x.told oth otv oev).ans from hs)] at hE
            rcases hE with ⟨hn,_⟩ | ⟨L9,_,rfl⟩
            · cases hn
            · clear hs
              go_wp2_with fail
              go_ret
              exact ⟨rfl,HB8.out⟩
          | false =>
            have hs:¬ x.ans=oth:=of_decide_eq_false HBB.out
            rw [if_neg (show ¬ x.ans=(x.told oth otv oev).ans from hs)] at hE
            rcases hE with ⟨_,rfl⟩ | ⟨L9,hn,_⟩
            · clear hs
              go_wp2_with fail
              go_ret
              exact ⟨rfl,HB8.out⟩
            · cases hn
end Go.Proofs.YtmdgeknnhckgfaaGreatDoor
