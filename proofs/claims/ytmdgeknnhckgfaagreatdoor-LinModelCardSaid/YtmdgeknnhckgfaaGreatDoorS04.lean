/-
  Parts of the proof of the law LinModel: Sha.
-/
import Derived.Test.YtmdgeknnhckgfaaGreatDoorS03
set_option linter.unusedSimpArgs false
set_option linter.unusedVariables false
namespace Go.Proofs.YtmdgeknnhckgfaaGreatDoor
open Go Go.RowKit
def Rel3 (w:World) (h:Nat→Int) (s:ByteArray) (bk bs:Nat) (i:Value) (wr:World):Prop:=∃ t:Nat,t≤64∧i=.int .i64 t∧Bk1 w h (schedN s 48) wr∧Blk wr bk (arrN 64 kN) 197∧Blk wr bs (arrN 8 (roundsN h (schedN s 48) t)) 177
def Rel4 (w:World) (h V F:Nat→Int) (bs:Nat) (i:Value) (wr:World):Prop:=∃ j:Nat,j≤8∧i=.int .i64 j∧Bk1 w (addN h V j) F wr∧Blk wr bs (arrN 8 V) 177
theorem list_take {P:Program} {ops:Array Oper} {rest:List Oper} {o:Oper} {a:Act} {w:World} {Q:Exit→Act→World→Prop} {v:Value} (hg:o.guard=none) (hv:(execOp a.eval o).run P w=.ok (.value v) w)
    (h:wpList P ops Q rest (a.put o.dst v) w):wpList P ops Q (o::rest) a w:=by
  refine wpList_plain hg fun K hK'=>?_
  unfold Oper.wp
  rw [hv]
  exact hK' _ _ h
theorem addN_ge (h V:Nat→Int):∀ j i:Nat,j≤i→addN h V j i=h i
  | 0,_,_=>rfl
  | j+1,i,hi=>by
    show put1 (addN h V j) j _ i=h i
    unfold put1
    rw [if_neg (by omega)]
    exact addN_ge h V j i (by omega)
set_option maxRecDepth 100000 in
set_option maxHeartbeats 2000000 in
theorem ref_block (st:Nat→Int) (hh:∀ i,U32 (st i)) (s:ByteArray) (hs:s.size=64) (w:World) :
    Calls Tryz.prog 106 #[.agg (arrN 8 st),.string s] w fun e w'=>e=.returned (.agg (arrN 8 (blockN st s)))∧Below w.heap.size w w':=by
  have e8:arrN 8 st=#[.int .u32 (st 0),.int .u32 (st 1),.int .u32 (st 2),.int .u32 (st 3),.int .u32 (st 4),.int .u32 (st 5),.int .u32 (st 6),.int .u32 (st 7)]:=rfl
  have HS:=Lib.hid hs
  rw [e8]
  clear hs
  go_enter Tryz.func106,Tryz.ntmps106
  go_wp2_with fail
  have HE:=Lib.hid e8
  clear e8
  go_loopw [6] (Rel1 w st s) (fun i _=>16 - (intOf i).toNat)
  case atStart =>
    refine ⟨0,Nat.zero_le _,rfl,⟨?_,?_,?_,?_⟩⟩
    · exact ((Blk.new w _ _).alloc _).alloc _
    · exact (blk_new (by simp) rfl).alloc _
    · exact blk_new (by simp) rfl
    · exact (((Below.refl _ _).alloc (Nat.le_refl _) _).alloc (by simp) _).alloc (by simp;omega) _
  case round =>
    obtain ⟨k,hk,rfl,hB⟩:=hrel
    by_cases hlt:k<16
    · have k0:(0:Int)≤(k:Int):=by omega
      have k1:(k:Int)<16:=by omega
      have k64:(k:Int)<64:=by omega
      have m0:IntKind.i64.wrap (4*(k:Int))=4*(k:Int):=IntWalk.i64_in _ (by omega)
      have m1:IntKind.i64.wrap (4*(k:Int)+1)=4*(k:Int)+1:=IntWalk.i64_in _ (by omega)
      have m2:IntKind.i64.wrap (4*(k:Int)+2)=4*(k:Int)+2:=IntWalk.i64_in _ (by omega)
      have m3:IntKind.i64.wrap (4*(k:Int)+3)=4*(k:Int)+3:=IntWalk.i64_in _ (by omega)
      have w1:IntKind.i64.wrap ((k:Int)+1)=(k:Int)+1:=IntWalk.i64_in _ (by omega)
      have l0:(0:Int)≤4*(k:Int):=by omega
      have l01:(0:Int)≤4*(k:Int)+1:=by omega
      have l02:(0:Int)≤4*(k:Int)+2:=by omega
      have l03:(0:Int)≤4*(k:Int)+3:=by omega
      have l3:4*(k:Int)+3<(s.size:Int):=by rw [HS.out];omega
      have l2:4*(k:Int)+2<(s.size:Int):=by omega
      have l1:4*(k:Int)+1<(s.size:Int):=by omega
      have l00:4*(k:Int)<(s.size:Int):=by omega
      have hw0:(4*(k:Int)).toNat<s.size:=by omega
      have hw1:(4*(k:Int)+1).toNat<s.size:=by omega
      have hw2:(4*(k:Int)+2).toNat<s.size:=by omega
      have hw3:(4*(k:Int)+3).toNat<s.size:=by omega
      have hg0:=Lib.hid (byte_at s hw0 (show (4*(k:Int)).toNat=4*k by omega))
      have hg1:=Lib.hid (byte_at s hw1 (show (4*(k:Int)+1).toNat=4*k+1 by omega))
      have hg2:=Lib.hid (byte_at s hw2 (show (4*(k:Int)+2).toNat=4*k+2 by omega))
      have hg3:=Lib.hid (byte_at s hw3 (show (4*(k:Int)+3).toNat=4*k+3 by omega))
      obtain ⟨x0,hx0⟩:∃ x,s[(4*(k:Int)).toNat].toNat=x:=⟨_,rfl⟩
      obtain ⟨x1,hx1⟩:∃ x,s[(4*(k:Int)+1).toNat].toNat=x:=⟨_,rfl⟩
      obtain ⟨x2,hx2⟩:∃ x,s[(4*(k:Int)+2).toNat].toNat=x:=⟨_,rfl⟩
      obtain ⟨x3,hx3⟩:∃ x,s[(4*(k:Int)+3).toNat].toNat=x:=⟨_,rfl⟩
      have b0:x0<256:=by rw [←hx0];exact UInt8.toNat_lt _
      have b1:x1<256:=by rw [←hx1];exact UInt8.toNat_lt _
      have b2:x2<256:=by rw [←hx2];exact UInt8.toNat_lt _
      have b3:x3<256:=by rw [←hx3];exact UInt8.toNat_lt _
      have y0:IntKind.u32.wrap (x0:Int)=(x0:Int):=by rw [IntKind.wrap_u32];omega
      have y1:IntKind.u32.wrap (x1:Int)=(x1:Int):=by rw [IntKind.wrap_u32];omega
      have y2:IntKind.u32.wrap (x2:Int)=(x2:Int):=by rw [IntKind.wrap_u32];omega
      have y3:IntKind.u32.wrap (x3:Int)=(x3:Int):=by rw [IntKind.wrap_u32];omega
      have z0:IntKind.u32.wrap ((x0:Int)*16777216)=(x0:Int)*16777216:=by rw [IntKind.wrap_u32];omega
      have z1:IntKind.u32.wrap ((x1:Int)*65536)=(x1:Int)*65536:=by rw [IntKind.wrap_u32];omega
      have z2:IntKind.u32.wrap ((x2:Int)*256)=(x2:Int)*256:=by rw [IntKind.wrap_u32];omega
      have hcl:=hB.b2.cell k _ (arrN_get 64 _ (by omega))
      have hfr:=hB.b2.frozen k
      go_wp2_with fail
      refine region_plan (S:=fun w'=>w.heap.size+1+1<w'.heap.size)
        ((0,true)::(1,true)::(2,true)::(3,true)::(4,true)::(5,true)::(6,true)::(7,true)::(8,true)::(9,true)::(10,true)::(11,true)::(12,true)::(13,true)::(14,true)::(15,true)::(16,true)::(17,true)::(18,true)::(19,true)::(20,true)::(21,true)::(22,true)::(23,true)::(24,true)::(25,true)::(26,true)::(27,true)::(28,true)::(29,true)::(30,true)::(31,false)::[])
        (by kernel_rfl) (by kernel_rfl) (by kernel_rfl) (by kernel_rfl) (fun _ _ _ dst _ h=>by cases dst<;>exact h) hB.b2.lt (fun hH=>?_)
      (repeat (first | (refine plan_take (v:=?_) (by (simp only [ga1,ga2,ga3];exact rfl)) (by rfl) ?_ ?_;rotate_left;(focus (intro wS hS;(try dsimp only at hS);go_split_ands;go_simp;(try with_reducible rfl)));simp only [Act.put,pu1,pu2,pu3]) | (refine plan_skip (by (simp only [ga1,ga2,ga3];exact rfl)) (by rfl) ?_;simp only [Act.put,pu1,pu2,pu3])))
      (refine plan_solo (by (simp only [ga1,ga2,ga3];exact rfl)) (by rfl) ?_;intro K hK;go_simp)
      refine hK.out _ _ (by show _<(wr.setCell _ _).heap.size;rw [World.size_setCell];exact hB.b2.lt) (fun hH2=>?_)
      clear hK K hH hH2
      (try simp only [Act.put,pu1,pu2,pu3])
      refine plan_nil ?_
      have hb2:=hB.b2.setCell k (.int .u32 (bits .or .u32 (bits .or .u32 (bits .or .u32 ((x0:Int)*16777216) ((x1:Int)*65536)) ((x2:Int)*256)) (x3:Int)))
      rw [arrN_set _ _ (by omega)] at hb2
      have hx:bits .or .u32 (bits .or .u32 (bits .or .u32 ((x0:Int)*16777216) ((x1:Int)*65536)) ((x2:Int)*256)) (x3:Int)=wordN s k:=by
        unfold wordN
        rw [←hg0.out,←hg1.out,←hg2.out,←hg3.out,hx0,hx1,hx2,hx3]
      have HX:=Lib.hid hx
      clear hx hcl hfr
      go_wp2_with fail
      go_roundw
      case rel =>
        refine ⟨k+1,by omega,by go_num,hB.b0.setCell_ne (by omega) _ _,hB.b1.setCell_ne (by omega) _ _,?_,(hB.bel.setCell (show w.heap.size≤w.heap.size+1+1 by omega) _).drew⟩
        rw [show loadN s (k+1)=put1 (loadN s k) k (wordN s k) from rfl,←HX.out]
        exact hb2.drew
      case measure=>simp [intOf]<;>omega
    · obtain rfl:k=16:=by omega
      go_wp2_with fail
      go_loopw [7,8,9] (fun i _ _ wr=>Rel2 w st s i wr) (fun i _ _ _=>64 - (intOf i).toNat)
      case atStart=>exact ⟨0,Nat.zero_le _,rfl,hB⟩
      case round =>
        clear hB hk hlt
        obtain ⟨m,hm,rfl,hB⟩:=hrel
        by_cases hlt:m<48
        · obtain ⟨t,ht⟩:∃ t:Nat,t=16+m:=⟨_,rfl⟩
          obtain ⟨j2,hj2⟩:∃ j,j=t - 2:=⟨_,rfl⟩
          obtain ⟨j15,hj15⟩:∃ j,j=t - 15:=⟨_,rfl⟩
          obtain ⟨j7,hj7⟩:∃ j,j=t - 7:=⟨_,rfl⟩
          obtain ⟨j16,hj16⟩:∃ j,j=t - 16:=⟨_,rfl⟩
          have ht':(16+(m:Int))=(t:Int):=by omega
          have w2:IntKind.i64.wrap ((t:Int) - 2)=(j2:Int):=(IntWalk.i64_in _ (by omega)).trans (by omega)
          have w15:IntKind.i64.wrap ((t:Int) - 15)=(j15:Int):=(IntWalk.i64_in _ (by omega)).trans (by omega)
          have w7:IntKind.i64.wrap ((t:Int) - 7)=(j7:Int):=(IntWalk.i64_in _ (by omega)).trans (by omega)
          have w16:IntKind.i64.wrap ((t:Int) - 16)=(j16:Int):=(IntWalk.i64_in _ (by omega)).trans (by omega)
          have wt:IntKind.i64.wrap ((t:Int)+1)=(t:Int)+1:=IntWalk.i64_in _ (by omega)
          have t0:(0:Int)≤(t:Int):=by omega
          have t64:(t:Int)<64:=by omega
          have q2:(j2:Int)<64:=by omega
          have q15:(j15:Int)<64:=by omega
          have q7:(j7:Int)<64:=by omega
          have q16:(j16:Int)<64:=by omega
          have p2:(0:Int)≤(j2:Int):=by omega
          have p15:(0:Int)≤(j15:Int):=by omega
          have p7:(0:Int)≤(j7:Int):=by omega
          have p16:(0:Int)≤(j16:Int):=by omega
          obtain ⟨F,hF⟩:∃ F,F=schedN s m:=⟨_,rfl⟩
          have HU:=Lib.hid (schedN_U32 s m)
          rw [←hF] at hB HU
          have c2:=hB.b2.cell j2 _ (arrN_get 64 _ (by omega))
          have c15:=hB.b2.cell j15 _ (arrN_get 64 _ (by omega))
          have c7:=hB.b2.cell j7 _ (arrN_get 64 _ (by omega))
          have c16:=hB.b2.cell j16 _ (arrN_get 64 _ (by omega))
          have ct:=hB.b2.cell t _ (arrN_get 64 _ (by omega))
          have cf:=hB.b2.frozen t
          obtain ⟨x2,hx2⟩:∃ x,F j2=x:=⟨_,rfl⟩
          obtain ⟨x15,hx15⟩:∃ x,F j15=x:=⟨_,rfl⟩
          obtain ⟨x7,hx7⟩:∃ x,F j7=x:=⟨_,rfl⟩
          obtain ⟨x16,hx16⟩:∃ x,F j16=x:=⟨_,rfl⟩
          rw [hx2] at c2
          rw [hx15] at c15
          rw [hx7] at c7
          rw [hx16] at c16
          have n7:¬ j7=t:=by omega
          have n16:¬ j16=t:=by omega
          have HF:=Lib.hid hF
          have hx7':=Lib.hid hx7
          have hx16':=Lib.hid hx16
          have H2:=Lib.hid (show F (16+m - 2)=x2 by rw [←ht,←hj2];exact hx2)
          have H15:=Lib.hid (show F (16+m - 15)=x15 by rw [←ht,←hj15];exact hx15)
          have H7:=Lib.hid (show F (16+m - 7)=x7 by rw [←ht,←hj7];exact hx7)
          have H16:=Lib.hid (show F (16+m - 16)=x16 by rw [←ht,←hj16];exact hx16)
          have u2:U32 x2:=by rw [←hx2];exact HU.out _
          have u15:U32 x15:=by rw [←hx15];exact HU.out _
          have HT:=Lib.hid ht
          rw [ht']
          clear hF hx2 hx15 hx7 hx16 hj2 hj15 hj7 hj16 ht' ht
          go_wp2_with fail
          go_quiet (fail)
          go_wp2_with fail
          refine region_plan (S:=fun w'=>w'.cell? ⟨w.heap.size+1+1,j7,none⟩=some (.int .u32 x7)∧w'.cell? ⟨w.heap.size+1+1,j16,none⟩=some (.int .u32 x16)∧w.heap.size+1+1<w'.heap.size)
            ((0,true)::(1,true)::(3,true)::(6,true)::(7,true)::(9,true)::(10,true)::(11,true)::(12,true)::(14,true)::(16,true)::(19,true)::(20,true)::(23,true)::(24,true)::(25,true)::(26,true)::(2,false)::(4,false)::(5,true)::(8,true)::(13,true)::(15,false)::(17,false)::(18,true)::(21,true)::(22,true)::(27,true)::(28,true)::(29,false)::[])
            (by kernel_rfl) (by kernel_rfl) (by kernel_rfl) (by kernel_rfl) (fun _ _ _ dst _ h=>by cases dst<;>exact h) ⟨c7,c16,hB.b2.lt⟩ (fun hH=>?_)
          clear hH
          (repeat (first | (refine plan_take (v:=?_) (by (simp only [ga1,ga2,ga3];exact rfl)) (by rfl) ?_ ?_;rotate_left;(focus (intro wS hS;(try dsimp only at hS);go_split_ands;go_simp;(try with_reducible rfl)));simp only [Act.put,pu1,pu2,pu3]) | (refine plan_skip (by (simp only [ga1,ga2,ga3];exact rfl)) (by rfl) ?_;simp only [Act.put,pu1,pu2,pu3])))
          (refine plan_solo (by (simp only [ga1,ga2,ga3];exact rfl)) (by rfl) ?_;intro K hK;go_simp)
          refine (ref_ror x2 u2.1 u2.2 17 (by unfold RorN;omega) _).mono ?_
          rintro e w1r ⟨rfl,q1r,rfl⟩
          refine hK.out _ _ ⟨c7,c16,hB.b2.lt⟩ (fun hH=>?_)
          clear hK K hH
          (try simp only [Act.put,pu1,pu2,pu3])
          (repeat (first | (refine plan_take (v:=?_) (by (simp only [ga1,ga2,ga3];exact rfl)) (by rfl) ?_ ?_;rotate_left;(focus (intro wS hS;(try dsimp only at hS);go_split_ands;go_simp;(try with_reducible rfl)));simp only [Act.put,pu1,pu2,pu3]) | (refine plan_skip (by (simp only [ga1,ga2,ga3];exact rfl)) (by rfl) ?_;simp only [Act.put,pu1,pu2,pu3])))
          (refine plan_solo (by (simp only [ga1,ga2,ga3];exact rfl)) (by rfl) ?_;intro K hK;go_simp)
          refine (ref_ror x2 u2.1 u2.2 19 (by unfold RorN;omega) _).mono ?_
          rintro e w2r ⟨rfl,q2r,rfl⟩
          refine hK.out _ _ ⟨c7,c16,hB.b2.lt⟩ (fun hH=>?_)
          clear hK K hH
          (try simp only [Act.put,pu1,pu2,pu3])
          (repeat (first | (refine plan_take (v:=?_) (by (simp only [ga1,ga2,ga3];exact rfl)) (by rfl) ?_ ?_;rotate_left;(focus (intro wS hS;(try dsimp only at hS);go_split_ands;go_simp;(try with_reducible rfl)));simp only [Act.put,pu1,pu2,pu3]) | (refine plan_skip (by (simp only [ga1,ga2,ga3];exact rfl)) (by rfl) ?_;simp only [Act.put,pu1,pu2,pu3])))
          (refine plan_solo (by (simp only [ga1,ga2,ga3];exact rfl)) (by rfl) ?_;intro K hK;go_simp)
          refine (ref_ror x15 u15.1 u15.2 7 (by unfold RorN;omega) _).mono ?_
          rintro e w3r ⟨rfl,q3r,rfl⟩
          refine hK.out _ _ ⟨c7,c16,hB.b2.lt⟩ (fun hH=>?_)
          clear hK K hH
          (try simp only [Act.put,pu1,pu2,pu3])
          (repeat (first | (refine plan_take (v:=?_) (by (simp only [ga1,ga2,ga3];exact rfl)) (by rfl) ?_ ?_;rotate_left;(focus (intro wS hS;(try dsimp only at hS);go_split_ands;go_simp;(try with_reducible rfl)));simp only [Act.put,pu1,pu2,pu3]) | (refine plan_skip (by (simp only [ga1,ga2,ga3];exact rfl)) (by rfl) ?_;simp only [Act.put,pu1,pu2,pu3])))
          (refine plan_solo (by (simp only [ga1,ga2,ga3];exact rfl)) (by rfl) ?_;intro K hK;go_simp)
          refine (ref_ror x15 u15.1 u15.2 18 (by unfold RorN;omega) _).mono ?_
          rintro e w4r ⟨rfl,q4r,rfl⟩
          refine hK.out _ _ ⟨c7,c16,hB.b2.lt⟩ (fun hH=>?_)
          clear hK K hH
          (try simp only [Act.put,pu1,pu2,pu3])
          (repeat (first | (refine plan_take (v:=?_) (by (simp only [ga1,ga2,ga3];exact rfl)) (by rfl) ?_ ?_;rotate_left;(focus (intro wS hS;(try dsimp only at hS);go_split_ands;go_simp;(try with_reducible rfl)));simp only [Act.put,pu1,pu2,pu3]) | (refine plan_skip (by (simp only [ga1,ga2,ga3];exact rfl)) (by rfl) ?_;simp only [Act.put,pu1,pu2,pu3])))
          (refine plan_solo (by (simp only [ga1,ga2,ga3];exact rfl)) (by rfl) ?_;intro K hK;go_simp)
          have hst:=hB.b2.setCell t (.int .u32 (IntKind.u32.wrap (IntKind.u32.wrap (IntKind.u32.wrap (bits .xor .u32 (bits .xor .u32 (rorN x2 17) (rorN x2 19)) (x2 / 1024)+x7)+bits .xor .u32 (bits .xor .u32 (rorN x15 7) (rorN x15 18)) (x15 / 8))+x16)))
          rw [arrN_set _ _ (by omega)] at hst
          have hst2:=hst.drewN (nq+1+q1r+q2r+q3r+q4r)
          have d7:=hst2.cell j7 (.int .u32 x7) (by rw [arrN_get _ _ (by omega),put1,if_neg n7,hx7'.out])
          have d16:=hst2.cell j16 (.int .u32 x16) (by rw [arrN_get _ _ (by omega),put1,if_neg n16,hx16'.out])
          refine hK.out _ _ ⟨d7,d16,hst2.lt⟩ (fun hH=>?_)
          clear hK K hH d7 d16 ct cf c2 c15 c7 c16
          (try simp only [Act.put,pu1,pu2,pu3])
          refine plan_nil ?_
          have HX:IntKind.u32.wrap (IntKind.u32.wrap (IntKind.u32.wrap (bits .xor .u32 (bits .xor .u32 (rorN x2 17) (rorN x2 19)) (x2 / 1024)+x7)+bits .xor .u32 (bits .xor .u32 (rorN x15 7) (rorN x15 18)) (x15 / 8))+x16)=nextW F (16+m):=by
            unfold nextW
            rw [H2.out,H15.out,H7.out,H16.out]
          obtain ⟨X,hX⟩:∃ X,IntKind.u32.wrap (IntKind.u32.wrap (IntKind.u32.wrap (bits .xor .u32 (bits .xor .u32 (rorN x2 17) (rorN x2 19)) (x2 / 1024)+x7)+bits .xor .u32 (bits .xor .u32 (rorN x15 7) (rorN x15 18)) (x15 / 8))+x16)=X:=⟨_,rfl⟩
          rw [hX] at HX hst hst2
          have HXX:=Lib.hid HX
          simp only [hX]
          clear HX hX
          obtain ⟨V,hV⟩:∃ V,(wr.setCell ⟨w.heap.size+1+1,t,none⟩ (.int .u32 X)).drewN (nq+1+q1r+q2r+q3r+q4r)=V:=⟨_,rfl⟩
          have hV':(wr.drewN (nq+1+q1r+q2r+q3r+q4r)).setCell ⟨w.heap.size+1+1,t,none⟩ (.int .u32 X)=V:=hV
          have HB:Bk1 w st (put1 F t X) V:=by
            rw [←hV]
            exact ⟨(hB.b0.setCell_ne (by omega) _ _).drewN _,(hB.b1.setCell_ne (by omega) _ _).drewN _,hst2,below_drewN (hB.bel.setCell (show w.heap.size≤w.heap.size+1+1 by omega) _) _⟩
          rw [hV']
          clear hst hst2 hV hV'
          go_wp2_with fail
          go_roundw
          case rel =>
            (repeat apply Exists.intro)
            refine ⟨?_,rfl⟩
            refine ⟨m+1,by omega,?_,?_⟩
            · have:=HT.out
              congr 1;omega
            · rw [show schedN s (m+1)=put1 (schedN s m) (16+m) (nextW (schedN s m) (16+m)) from rfl,←HF.out,←HXX.out,←HT.out]
              exact HB
          case measure =>
            have:=HT.out
            simp [intOf]<;>omega
        · obtain rfl:m=48:=by omega
          go_wp2_with fail
          refine (ref_constants _).mono ?_
          rintro e w1 ⟨rfl,hb1⟩
          have hB1:=hB.only (S:=fun _=>False) (Only.of_below hb1) (fun _ h=>h.elim)
          go_wp2_with (first
            | (refine wpList_store_new rfl 197 (Operand.tmp 10) (Operand.tmp 94) rfl rfl (arrN 64 kN) rfl (by rw [arrN_size];exact Tryz.size197) (by rw [arrN_size];rfl) (arrN_one _ _) ?_
               intro w2 hk2 hb2 hs2
               have hB2:=hB1.only (S:=fun _=>False) (Only.of_below hb2) (fun _ h=>h.elim))
            | (refine wpList_load_blk rfl 177 (Operand.tmp 2) rfl w.heap.size rfl 177 (arrN 8 st) _ hB2.b0 Tryz.underlying177 rfl (by rw [arrN_size];exact Tryz.size177) ?_)
            | (refine wpList_store_new rfl 177 (Operand.tmp 11) (Operand.tmp 95) rfl rfl (arrN 8 st) rfl (by rw [arrN_size];exact Tryz.size177) (by rw [arrN_size];rfl) (arrN_one _ _) ?_
               intro w3 hk3 hb3 hs3
               have hB3:=hB2.only (S:=fun _=>False) (Only.of_below hb3) (fun _ h=>h.elim)
               have hk23:=hk2.kept hb3))
          obtain ⟨bk,hbk⟩:∃ b,b=w1.heap.size:=⟨_,rfl⟩
          obtain ⟨bs,hbs⟩:∃ b,b=w2.heap.size:=⟨_,rfl⟩
          have nk1:w.heap.size+1+1<bk:=by rw [hbk];exact hB1.b2.lt
          have nks:bk<bs:=by rw [hbk,hbs];exact hk2.lt
          rw [←hbk] at hk23
          rw [←hbs] at hk3
          rw [←hbk,←hbs]
          clear hbk hbs hk2 hb3 hs3 hb2 hs2 hB1 hB2 hb1 hB hm hlt
          go_loopw [12,13,14,15,16] (fun i _ _ _ _ wr=>Rel3 w st s bk bs i wr) (fun i _ _ _ _ _=>64 - (intOf i).toNat)
          case atStart=>exact ⟨0,Nat.zero_le _,rfl,hB3,hk23,hk3⟩
          case round =>
            clear hB3 hk23 hk3
            obtain ⟨t,ht,rfl,hB,hbk,hbs⟩:=hrel
            by_cases hlt:t<64
            · have hU:=Lib.hid (roundsN_U32 hh (schedN s 48) t)
              obtain ⟨V,hV⟩:∃ V,roundsN st (schedN s 48) t=V:=⟨_,rfl⟩
              rw [hV] at hbs hU
              have ck:=hbk.cell t _ (arrN_get 64 _ hlt)
              have cx:=hB.b2.cell t _ (arrN_get 64 _ hlt)
              obtain ⟨kt,hkt⟩:∃ x,kN t=x:=⟨_,rfl⟩
              obtain ⟨xt,hxt⟩:∃ x,schedN s 48 t=x:=⟨_,rfl⟩
              rw [hkt] at ck
              rw [hxt] at cx
              have HV:=Lib.hid hV
              have HK:=Lib.hid hkt
              have HXT:=Lib.hid hxt
              have c0:=hbs.cell 0 (.int .u32 (V 0)) rfl
              have c1:=hbs.cell 1 (.int .u32 (V 1)) rfl
              have c2:=hbs.cell 2 (.int .u32 (V 2)) rfl
              have c3:=hbs.cell 3 (.int .u32 (V 3)) rfl
              have c4:=hbs.cell 4 (.int .u32 (V 4)) rfl
              have c5:=hbs.cell 5 (.int .u32 (V 5)) rfl
              have c6:=hbs.cell 6 (.int .u32 (V 6)) rfl
              have c7:=hbs.cell 7 (.int .u32 (V 7)) rfl
              have t0:(0:Int)≤(t:Int):=by omega
              have t64:(t:Int)<64:=by omega
              have wt:IntKind.i64.wrap ((t:Int)+1)=(t:Int)+1:=IntWalk.i64_in _ (by omega)
              clear hV hkt hxt
              go_wp2_with fail
              go_quiet (fail)
              go_wp2_with fail
              refine region_plan (S:=fun w':World=>w'.cell? ⟨bs,0,none⟩=some (.int .u32 (V 0))∧w'.cell? ⟨bs,1,none⟩=some (.int .u32 (V 1))∧w'.cell? ⟨bs,2,none⟩=some (.int .u32 (V 2))∧w'.cell? ⟨bs,4,none⟩=some (.int .u32 (V 4))∧w'.cell? ⟨bs,5,none⟩=some (.int .u32 (V 5))∧w'.cell? ⟨bs,6,none⟩=some (.int .u32 (V 6))∧w'.cell? ⟨bs,7,none⟩=some (.int .u32 (V 7))∧w'.cell? ⟨bk,t,none⟩=some (.int .u32 kt)∧w'.cell? ⟨w.heap.size+1+1,t,none⟩=some (.int .u32 xt))
                ((0,true)::(1,true)::(2,true)::(4,true)::(7,true)::(11,true)::(12,true)::(13,true)::(14,true)::(15,true)::(16,true)::(17,true)::(18,true)::(19,true)::(20,true)::(22,true)::(23,true)::(24,true)::(26,true)::(27,true)::(28,true)::(3,false)::(5,false)::(6,true)::(8,false)::(9,true)::(10,true)::(21,true)::(25,true)::(29,true)::(30,true)::[])
                (by kernel_rfl) (by kernel_rfl) (by kernel_rfl) (by kernel_rfl) (fun _ _ _ dst _ h=>by cases dst<;>exact h) ⟨c0,c1,c2,c4,c5,c6,c7,ck,cx⟩ (fun hH=>?_)
              clear hH
              (repeat (first | (refine plan_take (v:=?_) (by (simp only [ga1,ga2,ga3];exact rfl)) (by rfl) ?_ ?_;rotate_left;(focus (intro wS hS;(try dsimp only at hS);go_split_ands;go_simp;(try with_reducible rfl)));simp only [Act.put,pu1,pu2,pu3]) | (refine plan_skip (by (simp only [ga1,ga2,ga3];exact rfl)) (by rfl) ?_;simp only [Act.put,pu1,pu2,pu3])))
              (refine plan_solo (by (simp only [ga1,ga2,ga3];exact rfl)) (by rfl) ?_;intro K hK;go_simp)
              refine (ref_ror (V 4) (hU.out _).1 (hU.out _).2 6 (by unfold RorN;omega) _).mono ?_
              rintro e w1r ⟨rfl,q1r,rfl⟩
              refine hK.out _ _ ⟨c0,c1,c2,c4,c5,c6,c7,ck,cx⟩ (fun hH=>?_)
              clear hK K hH
              (try simp only [Act.put,pu1,pu2,pu3])
              (repeat (first | (refine plan_take (v:=?_) (by (simp only [ga1,ga2,ga3];exact rfl)) (by rfl) ?_ ?_;rotate_left;(focus (intro wS hS;(try dsimp only at hS);go_split_ands;go_simp;(try with_reducible rfl)));simp only [Act.put,pu1,pu2,pu3]) | (refine plan_skip (by (simp only [ga1,ga2,ga3];exact rfl)) (by rfl) ?_;simp only [Act.put,pu1,pu2,pu3])))
              (refine plan_solo (by (simp only [ga1,ga2,ga3];exact rfl)) (by rfl) ?_;intro K hK;go_simp)
              refine (ref_ror (V 4) (hU.out _).1 (hU.out _).2 11 (by unfold RorN;omega) _).mono ?_
              rintro e w2r ⟨rfl,q2r,rfl⟩
              refine hK.out _ _ ⟨c0,c1,c2,c4,c5,c6,c7,ck,cx⟩ (fun hH=>?_)
              clear hK K hH
              (try simp only [Act.put,pu1,pu2,pu3])
              (repeat (first | (refine plan_take (v:=?_) (by (simp only [ga1,ga2,ga3];exact rfl)) (by rfl) ?_ ?_;rotate_left;(focus (intro wS hS;(try dsimp only at hS);go_split_ands;go_simp;(try with_reducible rfl)));simp only [Act.put,pu1,pu2,pu3]) | (refine plan_skip (by (simp only [ga1,ga2,ga3];exact rfl)) (by rfl) ?_;simp only [Act.put,pu1,pu2,pu3])))
              (refine plan_solo (by (simp only [ga1,ga2,ga3];exact rfl)) (by rfl) ?_;intro K hK;go_simp)
              refine (ref_ror (V 4) (hU.out _).1 (hU.out _).2 25 (by unfold RorN;omega) _).mono ?_
              rintro e w3r ⟨rfl,q3r,rfl⟩
              refine hK.out _ _ ⟨c0,c1,c2,c4,c5,c6,c7,ck,cx⟩ (fun hH=>?_)
              clear hK K hH
              (try simp only [Act.put,pu1,pu2,pu3])
              (repeat (first | (refine plan_take (v:=?_) (by (simp only [ga1,ga2,ga3];exact rfl)) (by rfl) ?_ ?_;rotate_left;(focus (intro wS hS;(try dsimp only at hS);go_split_ands;go_simp;(try with_reducible rfl)));simp only [Act.put,pu1,pu2,pu3]) | (refine plan_skip (by (simp only [ga1,ga2,ga3];exact rfl)) (by rfl) ?_;simp only [Act.put,pu1,pu2,pu3])))
              refine plan_nil ?_
              have h1:=Lib.hid (show IntKind.u32.wrap (IntKind.u32.wrap (IntKind.u32.wrap (IntKind.u32.wrap (V 7+bits .xor .u32 (bits .xor .u32 (rorN (V 4) 6) (rorN (V 4) 11)) (rorN (V 4) 25))+bits .xor .u32 (bits .and .u32 (V 4) (V 5)) (bits .and .u32 (bits .xor .u32 (if IntKind.u32.signed=true then -1 else IntKind.u32.max) (V 4)) (V 6)))+kt)+xt)=t1N V kt xt from rfl)
              obtain ⟨T1,hT1⟩:∃ T,IntKind.u32.wrap (IntKind.u32.wrap (IntKind.u32.wrap (IntKind.u32.wrap (V 7+bits .xor .u32 (bits .xor .u32 (rorN (V 4) 6) (rorN (V 4) 11)) (rorN (V 4) 25))+bits .xor .u32 (bits .and .u32 (V 4) (V 5)) (bits .and .u32 (bits .xor .u32 (if IntKind.u32.signed=true then -1 else IntKind.u32.max) (V 4)) (V 6)))+kt)+xt)=T:=⟨_,rfl⟩
              simp only [hT1]
              rw [hT1] at h1
              clear hT1 c0 c4 c5 c6 c7 ck cx
              go_wp2_with fail
              refine region_plan (S:=fun w':World=>w'.cell? ⟨bs,1,none⟩=some (.int .u32 (V 1))∧w'.cell? ⟨bs,2,none⟩=some (.int .u32 (V 2)))
                ((0,true)::(2,true)::(5,true)::(8,true)::(9,true)::(10,true)::(11,true)::(12,true)::(13,true)::(14,true)::(15,true)::(16,true)::(17,true)::(18,true)::(19,true)::(20,true)::(21,true)::(22,true)::(1,false)::(3,false)::(4,true)::(6,false)::(7,true)::(23,true)::(24,true)::[])
                (by kernel_rfl) (by kernel_rfl) (by kernel_rfl) (by kernel_rfl) (fun _ _ _ dst _ h=>by cases dst<;>exact h) ⟨c1,c2⟩ (fun hH=>?_)
              clear hH
              (repeat (first | (refine plan_take (v:=?_) (by (simp only [ga1,ga2,ga3];exact rfl)) (by rfl) ?_ ?_;rotate_left;(focus (intro wS hS;(try dsimp only at hS);go_split_ands;go_simp;(try with_reducible rfl)));simp only [Act.put,pu1,pu2,pu3]) | (refine plan_skip (by (simp only [ga1,ga2,ga3];exact rfl)) (by rfl) ?_;simp only [Act.put,pu1,pu2,pu3])))
              (refine plan_solo (by (simp only [ga1,ga2,ga3];exact rfl)) (by rfl) ?_;intro K hK;go_simp)
              refine (ref_ror (V 0) (hU.out _).1 (hU.out _).2 2 (by unfold RorN;omega) _).mono ?_
              rintro e w4r ⟨rfl,q4r,rfl⟩
              refine hK.out _ _ ⟨c1,c2⟩ (fun hH=>?_)
              clear hK K hH
              (try simp only [Act.put,pu1,pu2,pu3])
              (repeat (first | (refine plan_take (v:=?_) (by (simp only [ga1,ga2,ga3];exact rfl)) (by rfl) ?_ ?_;rotate_left;(focus (intro wS hS;(try dsimp only at hS);go_split_ands;go_simp;(try with_reducible rfl)));simp only [Act.put,pu1,pu2,pu3]) | (refine plan_skip (by (simp only [ga1,ga2,ga3];exact rfl)) (by rfl) ?_;simp only [Act.put,pu1,pu2,pu3])))
              (refine plan_solo (by (simp only [ga1,ga2,ga3];exact rfl)) (by rfl) ?_;intro K hK;go_simp)
              refine (ref_ror (V 0) (hU.out _).1 (hU.out _).2 13 (by unfold RorN;omega) _).mono ?_
              rintro e w5r ⟨rfl,q5r,rfl⟩
              refine hK.out _ _ ⟨c1,c2⟩ (fun hH=>?_)
              clear hK K hH
              (try simp only [Act.put,pu1,pu2,pu3])
              (repeat (first | (refine plan_take (v:=?_) (by (simp only [ga1,ga2,ga3];exact rfl)) (by rfl) ?_ ?_;rotate_left;(focus (intro wS hS;(try dsimp only at hS);go_split_ands;go_simp;(try with_reducible rfl)));simp only [Act.put,pu1,pu2,pu3]) | (refine plan_skip (by (simp only [ga1,ga2,ga3];exact rfl)) (by rfl) ?_;simp only [Act.put,pu1,pu2,pu3])))
              (refine plan_solo (by (simp only [ga1,ga2,ga3];exact rfl)) (by rfl) ?_;intro K hK;go_simp)
              refine (ref_ror (V 0) (hU.out _).1 (hU.out _).2 22 (by unfold RorN;omega) _).mono ?_
              rintro e w6r ⟨rfl,q6r,rfl⟩
              refine hK.out _ _ ⟨c1,c2⟩ (fun hH=>?_)
              clear hK K hH
              (try simp only [Act.put,pu1,pu2,pu3])
              (repeat (first | (refine plan_take (v:=?_) (by (simp only [ga1,ga2,ga3];exact rfl)) (by rfl) ?_ ?_;rotate_left;(focus (intro wS hS;(try dsimp only at hS);go_split_ands;go_simp;(try with_reducible rfl)));simp only [Act.put,pu1,pu2,pu3]) | (refine plan_skip (by (simp only [ga1,ga2,ga3];exact rfl)) (by rfl) ?_;simp only [Act.put,pu1,pu2,pu3])))
              refine plan_nil ?_
              have h2:=Lib.hid (show IntKind.u32.wrap (bits .xor .u32 (bits .xor .u32 (rorN (V 0) 2) (rorN (V 0) 13)) (rorN (V 0) 22)+bits .xor .u32 (bits .xor .u32 (bits .and .u32 (V 0) (V 1)) (bits .and .u32 (V 0) (V 2))) (bits .and .u32 (V 1) (V 2)))=t2N V from rfl)
              obtain ⟨T2,hT2⟩:∃ T,IntKind.u32.wrap (bits .xor .u32 (bits .xor .u32 (rorN (V 0) 2) (rorN (V 0) 13)) (rorN (V 0) 22)+bits .xor .u32 (bits .xor .u32 (bits .and .u32 (V 0) (V 1)) (bits .and .u32 (V 0) (V 2))) (bits .and .u32 (V 1) (V 2)))=T:=⟨_,rfl⟩
              simp only [hT2]
              rw [hT2] at h2
              clear hT2 c1 c2 c3 h
              obtain ⟨W,hW⟩:∃ W,((wr.drewN (nq+1+q1r+q2r+q3r+1+q4r+q5r)).drewN q6r)=W:=⟨_,rfl⟩
              have hBW:Bk1 w st (schedN s 48) W:=by rw [←hW];exact ⟨hB.b0,hB.b1,hB.b2,below_drewN (below_drewN hB.bel _) _⟩
              have hbkW:Blk W bk (arrN 64 kN) 197:=by rw [←hW];exact hbk
              have hbsW:Blk W bs (arrN 8 V) 177:=by rw [←hW];exact hbs
              rw [hW]
              clear hW hB hbk hbs
              have c0:=hbsW.cell 0 (.int .u32 (V 0)) rfl
              have c1:=hbsW.cell 1 (.int .u32 (V 1)) rfl
              have c2:=hbsW.cell 2 (.int .u32 (V 2)) rfl
              have c3:=hbsW.cell 3 (.int .u32 (V 3)) rfl
              have c4:=hbsW.cell 4 (.int .u32 (V 4)) rfl
              have c5:=hbsW.cell 5 (.int .u32 (V 5)) rfl
              have c6:=hbsW.cell 6 (.int .u32 (V 6)) rfl
              have HHH:=Lib.hid (And.intro ht (And.intro hlt (And.intro nk1 nks)))
              clear ht hlt nk1 nks t0 t64
              (try simp only [Exit.inBlock,Exit.then])
              rename_i hcont
              refine hcont _ _ ?_
              refine wp_region_lit ?_
              (repeat (refine list_take (v:=?_) rfl ?_ ?_;rotate_left;(focus (go_simp;(try with_reducible rfl);done));simp only [Act.put,pu1,pu2,pu3]))
              refine wpList_store_blk rfl 177 (Operand.tmp 11) (Operand.tmp 177) rfl bs rfl (arrN 8 V) _ 177 rfl hbsW (by exact Tryz.size177) rfl (by simp [Value.oneCell']) ?_
              intro w4 hk4 ho4 hs4
              have HS4:=Lib.hid hs4
              clear hs4
              refine wpList_nil ?_
              go_wp2_with fail
              go_roundw
              case rel =>
                obtain ⟨ht,hlt,nk1,nks⟩:=HHH.out
                refine ⟨t+1,by omega,by go_num,?_,hbkW.only ho4 (by omega),?_⟩
                · exact ⟨hBW.b0.only ho4 (show ¬ w.heap.size=bs by omega),hBW.b1.only ho4 (show ¬ w.heap.size+1=bs by omega),hBW.b2.only ho4 (show ¬ w.heap.size+1+1=bs by omega),hBW.bel.trans (ho4.below hBW.bel.size (fun k hk=>by omega))⟩
                · rw [show roundsN st (schedN s 48) (t+1)=rndN (roundsN st (schedN s 48) t) (kN t) (schedN s 48 t) from rfl,HV.out,HK.out,HXT.out]
                  have e:arrN 8 (rndN V kt xt)=#[.int .u32 (IntKind.u32.wrap (t1N V kt xt+t2N V)),.int .u32 (V 0),.int .u32 (V 1),.int .u32 (V 2),.int .u32 (IntKind.u32.wrap (V 3+t1N V kt xt)),.int .u32 (V 4),.int .u32 (V 5),.int .u32 (V 6)]:=rfl
                  rw [e,←h1.out,←h2.out]
                  exact hk4
              case measure =>
                obtain ⟨ht,hlt,nk1,nks⟩:=HHH.out
                simp [intOf]<;>omega
            · obtain rfl:t=64:=by omega
              obtain ⟨V,hV⟩:∃ V,roundsN st (schedN s 48) 64=V:=⟨_,rfl⟩
              have HV:=Lib.hid hV
              rw [hV] at hbs
              obtain ⟨F,hF⟩:∃ F,schedN s 48=F:=⟨_,rfl⟩
              have HF:=Lib.hid hF
              rw [hF] at hB
              clear hV hF
              go_wp2_with fail
              go_loopw [17,178] (fun _ i wr=>Rel4 w st V F bs i wr) (fun _ i _=>8 - (intOf i).toNat)
              case atStart=>exact ⟨0,Nat.zero_le _,rfl,hB,hbs⟩
              case round =>
                clear hB hbk hbs ht hlt
                obtain ⟨j,hj,rfl,hB,hbs⟩:=hrel
                by_cases hlt:j<8
                · have j0:(0:Int)≤(j:Int):=by omega
                  have j8:(j:Int)<8:=by omega
                  have wj:IntKind.i64.wrap ((j:Int)+1)=(j:Int)+1:=IntWalk.i64_in _ (by omega)
                  have ca:=hB.b0.cell j _ (arrN_get 8 _ hlt)
                  rw [addN_ge st V j j (Nat.le_refl _)] at ca
                  have cb:=hbs.cell j _ (arrN_get 8 _ hlt)
                  have cf:=hB.b0.frozen j
                  have pl:=hB.b0.lt
                  obtain ⟨xa,hxa⟩:∃ x,st j=x:=⟨_,rfl⟩
                  obtain ⟨xb,hxb⟩:∃ x,V j=x:=⟨_,rfl⟩
                  rw [hxa] at ca
                  rw [hxb] at cb
                  have HA:=Lib.hid hxa
                  have HBB:=Lib.hid hxb
                  clear hxa hxb
                  go_wp2_with fail
                  refine region_tail 8 (by kernel_rfl) (by kernel_rfl) ?_
                  simp only [List.take_succ_cons,List.take_zero,List.drop_succ_cons,List.drop_zero]
                  repeat still_step
                  refine wpStill_nil ?_
                  go_wp2_with fail
                  go_roundw
                  case rel =>
                    (repeat apply Exists.intro)
                    refine ⟨?_,rfl⟩
                    have hb0:=hB.b0.setCell j (.int .u32 (IntKind.u32.wrap (xa+xb)))
                    rw [arrN_set _ _ hlt] at hb0
                    refine ⟨j+1,by omega,by go_num,⟨?_,hB.b1.setCell_ne (by omega) _ _,hB.b2.setCell_ne (by omega) _ _,(hB.bel.setCell (Nat.le_refl _) _).drew⟩,?_⟩
                    · rw [show addN st V (j+1)=put1 (addN st V j) j (IntKind.u32.wrap (st j+V j)) from rfl,HA.out,HBB.out]
                      exact hb0
                    · exact hbs.setCell_ne (by omega) _ _
                  case measure=>simp [intOf]<;>omega
                · obtain rfl:j=8:=by omega
                  obtain ⟨H8,hH8⟩:∃ H,addN st V 8=H:=⟨_,rfl⟩
                  have HH8:=Lib.hid hH8
                  rw [hH8] at hB
                  clear hH8
                  go_wp2_with (first
                    | (refine wpList_load_blk rfl 177 (Operand.tmp 2) rfl w.heap.size rfl 177 (arrN 8 H8) _ hB.b0 Tryz.underlying177 rfl (by rw [arrN_size];exact Tryz.size177) ?_)
                    | (refine wpList_store_blk rfl 177 (Operand.tmp 4) (Operand.tmp 190) rfl (w.heap.size+1) rfl _ (arrN 8 H8) 177 rfl hB.b1 (by rw [arrN_size];exact Tryz.size177) (by rw [arrN_size,arrN_size]) (arrN_one _ _) ?_
                       intro w5 hk5 ho5 hs5
                       have HS5:=Lib.hid hs5
                       clear hs5))
                  refine body_cell rfl rfl rfl hk5 Tryz.underlying177 rfl (by rw [arrN_size];exact Tryz.size177) ?_
                  refine ⟨?_,hB.bel.trans (ho5.below hB.bel.size (fun k hk=>by omega))⟩
                  rw [←HH8.out,←HV.out]
                  rfl
end Go.Proofs.YtmdgeknnhckgfaaGreatDoor
