/-
  Parts of the proof of the law LinModel: TxtD.
-/
import Derived.Test.YtmdgeknnhckgfaaGreatDoorS06
set_option linter.unusedSimpArgs false
set_option linter.unusedVariables false
namespace Go.Proofs.YtmdgeknnhckgfaaGreatDoor
open Go Go.RowKit
def RDec (w:World) (s:ByteArray) (iv:Value) (W:World):Prop:=∃ k:Nat,1≤k∧k≤5∧iv=.int .i64 (k:Nat)∧Dec.decR s=Dec.decFrom s (5 - k) k∧Below w.heap.size w W
theorem atN_get (s:ByteArray) (k:Nat) (h:k<s.size):((s[k]'h).toNat:Int)=Dec.atN s k:=by
  unfold Dec.atN
  congr 2
  cases s with
  | mk a =>
    have h':k<a.size:=h
    show a[k]=a[k]!
    rw [getElem!_pos a k h']
theorem atN_lt (s:ByteArray) (k:Nat):0≤Dec.atN s k∧Dec.atN s k<256:=by
  unfold Dec.atN
  have:=(s.get! k).toNat_lt
  omega
theorem takes_iff (s:ByteArray) (k:Nat) (N:Int) (hN:Dec.tryN (Dec.atN s 0) (Dec.atN s 1) (Dec.atN s 2) (Dec.atN s 3) k=N) :
    Dec.takes s k=(isRuneB N && ((strOfNums (encL N)).toList == (s.extract 0 k).toList)):=by
  unfold Dec.takes
  simp only [hN,isRuneB_valid]
  by_cases hv:Utf8.valid N=true
  · rw [encL_eq N hv,hv,Lib.toList_data,Lib.toList_data]
    congr 2
    simp [ByteArray.data_extract,List.extract_eq_take_drop]
  · rw [Bool.not_eq_true] at hv
    rw [hv]
    rfl
theorem decFrom_yes {s:ByteArray} {m k:Nat} {N:Int} (hk:k≤s.size) (ht:Dec.takes s k=true) (hN:Dec.tryN (Dec.atN s 0) (Dec.atN s 1) (Dec.atN s 2) (Dec.atN s 3) k=N):Dec.decFrom s (m+1) k=(N,k):=by
  unfold Dec.decFrom
  rw [if_pos ⟨hk,ht⟩,hN]
theorem decFrom_no {s:ByteArray} {m k:Nat} (hk:k≤s.size) (ht:Dec.takes s k=false):Dec.decFrom s (m+1) k=Dec.decFrom s m (k+1):=by
  rw [Dec.decFrom,if_neg (by rw [ht];simp),if_pos hk]
theorem i64_in (x:Int) (h:-9223372036854775808≤x∧x≤9223372036854775807):IntKind.i64.wrap x=x:=IntWalk.i64_in _ h
set_option maxRecDepth 100000 in
set_option maxHeartbeats 4000000 in
theorem ref_Decode (s:ByteArray) (h:0<s.size) (w:World) :
    Calls Tryz.prog 61 #[.string s] w fun e w'=>e=.returned (.tuple #[.int .i32 (Dec.decR s).1,.int .i64 ((Dec.decR s).2:Nat)])∧Below w.heap.size w w':=by
  have hne:s.toList.isEmpty=false:=by
    rw [Lib.toList_data]
    cases hl:s.data.toList with
    | nil=>have:s.data.toList.length=s.size:=rfl;rw [hl] at this;simp at this;omega
    | cons a l=>rfl
  obtain ⟨a,ha⟩:∃ a,Dec.atN s 0=a:=⟨_,rfl⟩
  have ea:=atN_get s 0 h
  rw [ha] at ea
  have ra:=atN_lt s 0
  rw [ha] at ra
  obtain ⟨ra1,ra2⟩:=ra
  go_enter Tryz.func61,Tryz.ntmps61
  go_wp2_with fail
  go_loopw [4] (RDec w s) (fun i _=>5 - (intOf i).toNat)
  case atStart=>exact ⟨1,by omega,by omega,rfl,rfl,Below.refl _ _⟩
  case round =>
    obtain ⟨k,hk1,hk5,rfl,hd,hb⟩:=hrel
    by_cases hlt:k≤4∧k≤s.size
    · obtain ⟨hk4,hks⟩:=hlt
      have hcase:k=1∨k=2∨k=3∨k=4:=by omega
      rcases hcase with rfl | rfl | rfl | rfl
      · clear hk1 hk5 hk4
        go_wp2_with fail
        have hN:Dec.tryN (Dec.atN s 0) (Dec.atN s 1) (Dec.atN s 2) (Dec.atN s 3) 1=a:=ha
        clear ha ea
        revert ra1 ra2 hN
        generalize a=N
        intro ra1 ra2 hN
        have hbW:=hb
        clear hb
        have hNN:=Lib.hid (takes_iff s 1 N hN)
        have hN2:=Lib.hid hN
        have kz:(1:Int)≤(s.size:Int):=by omega
        clear hN
        by_cases hv:isRuneB N=true
        · have hr:0≤N∧N≤1114111:=by
            rw [isRuneB_valid] at hv
            have:=Dec.enc_of hv
            omega
          obtain ⟨n0,n9⟩:=hr
          obtain ⟨bt,hbt⟩:∃ bt,((strOfNums (encL N)).toList == (s.extract 0 1).toList)=bt:=⟨_,rfl⟩
          have HB:=Lib.hid (ref_bytes N n0 n9)
          obtain ⟨bs,hbs⟩:∃ bs,strOfNums (encL N)=bs:=⟨_,rfl⟩
          rw [hbs] at hbt HB hNN
          clear hbs
          cases bt with
          | true =>
            refine region_plan (S:=fun _:World=>True) ((0,true)::(1,false)::(2,true)::(3,true)::(5,true)::(6,true)::(7,true)::(4,false)::(8,true)::(9,true)::[])
              (by kernel_rfl) (by kernel_rfl) (by kernel_rfl) (by kernel_rfl) (fun _ _ _ dst _ h=>by cases dst<;>exact h) trivial (fun hH=>?_)
            clear hH
            (repeat (first | (refine plan_take (v:=?_) (by (simp only [ga1,ga2,ga3];exact rfl)) (by rfl) ?_ ?_;rotate_left;(focus (intro wS hS;(try dsimp only at hS);go_split_ands;go_simp;(try with_reducible rfl)));simp only [Act.put,pu1,pu2,pu3]) | (refine plan_skip (by (simp only [ga1,ga2,ga3];exact rfl)) (by rfl) ?_;simp only [Act.put,pu1,pu2,pu3])))
            (refine plan_solo (by (simp only [ga1,ga2,ga3];exact rfl)) (by rfl) ?_;intro K hK;go_simp)
            refine (ref_isRune N _).mono ?_
            rintro e w4 ⟨rfl,hw4⟩
            rw [hv]
            refine hK.out _ _ trivial (fun hH=>?_)
            clear hK K hH
            (try simp only [Act.put,pu1,pu2,pu3])
            (repeat (first | (refine plan_take (v:=?_) (by (simp only [ga1,ga2,ga3];exact rfl)) (by rfl) ?_ ?_;rotate_left;(focus (intro wS hS;(try dsimp only at hS);go_split_ands;go_simp;(try with_reducible rfl)));simp only [Act.put,pu1,pu2,pu3]) | (refine plan_skip (by (simp only [ga1,ga2,ga3];exact rfl)) (by rfl) ?_;simp only [Act.put,pu1,pu2,pu3])))
            (refine plan_solo (by (simp only [ga1,ga2,ga3];exact rfl)) (by rfl) ?_;intro K hK;go_simp)
            refine (HB.out _).mono ?_
            rintro e w5 ⟨rfl,hb5⟩
            refine hK.out _ _ trivial (fun hH=>?_)
            clear hK K hH
            (try simp only [Act.put,pu1,pu2,pu3])
            (repeat (first | (refine plan_take (v:=?_) (by (simp only [ga1,ga2,ga3];exact rfl)) (by rfl) ?_ ?_;rotate_left;(focus (intro wS hS;(try dsimp only at hS);go_split_ands;go_simp;(try with_reducible rfl)));simp only [Act.put,pu1,pu2,pu3]) | (refine plan_skip (by (simp only [ga1,ga2,ga3];exact rfl)) (by rfl) ?_;simp only [Act.put,pu1,pu2,pu3])))
            refine plan_nil ?_
            have hT:Dec.takes s 1=true:=by rw [hNN.out,hv,hbt];rfl
            have hD:Dec.decR s=(N,1):=hd.trans (decFrom_yes hks hT hN2.out)
            have hb6:Below w.heap.size w w5:=hbW.drew.trans (hb5.mono hbW.size)
            replace hD:=Lib.hid hD
            have w32:IntKind.i32.wrap N=N:=by rw [IntKind.wrap_i32];omega
            clear hd hT hNN hN2 HB hbt hw4 hb5 hbW
            go_wp2_with fail
            go_ret2
            exact ⟨by rw [hD.out];rfl,hb6⟩
          | false =>
            refine region_plan (S:=fun _:World=>True) ((0,true)::(1,false)::(2,true)::(3,true)::(5,true)::(6,true)::(7,true)::(4,false)::(8,true)::(9,true)::[])
              (by kernel_rfl) (by kernel_rfl) (by kernel_rfl) (by kernel_rfl) (fun _ _ _ dst _ h=>by cases dst<;>exact h) trivial (fun hH=>?_)
            clear hH
            (repeat (first | (refine plan_take (v:=?_) (by (simp only [ga1,ga2,ga3];exact rfl)) (by rfl) ?_ ?_;rotate_left;(focus (intro wS hS;(try dsimp only at hS);go_split_ands;go_simp;(try with_reducible rfl)));simp only [Act.put,pu1,pu2,pu3]) | (refine plan_skip (by (simp only [ga1,ga2,ga3];exact rfl)) (by rfl) ?_;simp only [Act.put,pu1,pu2,pu3])))
            (refine plan_solo (by (simp only [ga1,ga2,ga3];exact rfl)) (by rfl) ?_;intro K hK;go_simp)
            refine (ref_isRune N _).mono ?_
            rintro e w4 ⟨rfl,hw4⟩
            rw [hv]
            refine hK.out _ _ trivial (fun hH=>?_)
            clear hK K hH
            (try simp only [Act.put,pu1,pu2,pu3])
            (repeat (first | (refine plan_take (v:=?_) (by (simp only [ga1,ga2,ga3];exact rfl)) (by rfl) ?_ ?_;rotate_left;(focus (intro wS hS;(try dsimp only at hS);go_split_ands;go_simp;(try with_reducible rfl)));simp only [Act.put,pu1,pu2,pu3]) | (refine plan_skip (by (simp only [ga1,ga2,ga3];exact rfl)) (by rfl) ?_;simp only [Act.put,pu1,pu2,pu3])))
            (refine plan_solo (by (simp only [ga1,ga2,ga3];exact rfl)) (by rfl) ?_;intro K hK;go_simp)
            refine (HB.out _).mono ?_
            rintro e w5 ⟨rfl,hb5⟩
            refine hK.out _ _ trivial (fun hH=>?_)
            clear hK K hH
            (try simp only [Act.put,pu1,pu2,pu3])
            (repeat (first | (refine plan_take (v:=?_) (by (simp only [ga1,ga2,ga3];exact rfl)) (by rfl) ?_ ?_;rotate_left;(focus (intro wS hS;(try dsimp only at hS);go_split_ands;go_simp;(try with_reducible rfl)));simp only [Act.put,pu1,pu2,pu3]) | (refine plan_skip (by (simp only [ga1,ga2,ga3];exact rfl)) (by rfl) ?_;simp only [Act.put,pu1,pu2,pu3])))
            refine plan_nil ?_
            have hT:Dec.takes s 1=false:=by rw [hNN.out,hv,hbt];rfl
            have hD:=hd.trans (decFrom_no hks hT)
            have hb6:Below w.heap.size w w5:=hbW.drew.trans (hb5.mono hbW.size)
            replace hD:=Lib.hid hD
            clear hd hT hNN hN2 HB hbt hw4 hb5 hbW
            go_wp2_with fail
            go_roundw
            case rel=>exact ⟨1+1,by omega,by omega,rfl,hD.out,hb6⟩
            case measure=>simp [intOf]
        · rw [Bool.not_eq_true] at hv
          refine region_plan (S:=fun _:World=>True) ((0,true)::(1,false)::(2,true)::(3,true)::(5,true)::(6,true)::(7,true)::(4,false)::(8,true)::(9,true)::[])
            (by kernel_rfl) (by kernel_rfl) (by kernel_rfl) (by kernel_rfl) (fun _ _ _ dst _ h=>by cases dst<;>exact h) trivial (fun hH=>?_)
          clear hH
          (repeat (first | (refine plan_take (v:=?_) (by (simp only [ga1,ga2,ga3];exact rfl)) (by rfl) ?_ ?_;rotate_left;(focus (intro wS hS;(try dsimp only at hS);go_split_ands;go_simp;(try with_reducible rfl)));simp only [Act.put,pu1,pu2,pu3]) | (refine plan_skip (by (simp only [ga1,ga2,ga3];exact rfl)) (by rfl) ?_;simp only [Act.put,pu1,pu2,pu3])))
          (refine plan_solo (by (simp only [ga1,ga2,ga3];exact rfl)) (by rfl) ?_;intro K hK;go_simp)
          refine (ref_isRune N _).mono ?_
          rintro e w4 ⟨rfl,hw4⟩
          rw [hv]
          refine hK.out _ _ trivial (fun hH=>?_)
          clear hK K hH
          (try simp only [Act.put,pu1,pu2,pu3])
          (repeat (first | (refine plan_take (v:=?_) (by (simp only [ga1,ga2,ga3];exact rfl)) (by rfl) ?_ ?_;rotate_left;(focus (intro wS hS;(try dsimp only at hS);go_split_ands;go_simp;(try with_reducible rfl)));simp only [Act.put,pu1,pu2,pu3]) | (refine plan_skip (by (simp only [ga1,ga2,ga3];exact rfl)) (by rfl) ?_;simp only [Act.put,pu1,pu2,pu3])))
          refine plan_solo_skip (by (simp only [ga1,ga2,ga3];exact rfl)) (by rfl) trivial ?_
          (try simp only [Act.put,pu1,pu2,pu3])
          (repeat (first | (refine plan_take (v:=?_) (by (simp only [ga1,ga2,ga3];exact rfl)) (by rfl) ?_ ?_;rotate_left;(focus (intro wS hS;(try dsimp only at hS);go_split_ands;go_simp;(try with_reducible rfl)));simp only [Act.put,pu1,pu2,pu3]) | (refine plan_skip (by (simp only [ga1,ga2,ga3];exact rfl)) (by rfl) ?_;simp only [Act.put,pu1,pu2,pu3])))
          refine plan_nil ?_
          have hT:Dec.takes s 1=false:=by rw [hNN.out,hv];rfl
          have hD:=hd.trans (decFrom_no hks hT)
          have hb6:Below w.heap.size w w4:=by rw [hw4];exact hbW.drew
          replace hD:=Lib.hid hD
          clear hd hT hNN hN2 hw4 hbW
          go_wp2_with fail
          go_roundw
          case rel=>exact ⟨1+1,by omega,by omega,rfl,hD.out,hb6⟩
          case measure=>simp [intOf]
      · clear hk1 hk5 hk4
        obtain ⟨b,hb1⟩:∃ a,Dec.atN s 1=a:=⟨_,rfl⟩
        have eb:=atN_get s 1 (by omega)
        rw [hb1] at eb
        have rb:=atN_lt s 1
        rw [hb1] at rb
        obtain ⟨rb1,rb2⟩:=rb
        have W0:=i64_in (a - 192) (by omega)
        have W1:=i64_in ((a - 192)*64) (by omega)
        have W2:=i64_in ((a - 192)*64+b) (by omega)
        have W3:=i64_in ((a - 192)*64+b - 128) (by omega)
        go_wp2_with fail
        go_quiet (fail)
        clear W0 W1 W2 W3
        go_wp2_with fail
        have hN:Dec.tryN (Dec.atN s 0) (Dec.atN s 1) (Dec.atN s 2) (Dec.atN s 3) 2=(a - 192)*64+b - 128:=by rw [ha,hb1];rfl
        have hbW:Below w.heap.size w (wr.drewN nq):=⟨hb.os,hb.tape,hb.output,hb.size,hb.block⟩
        clear hb
        generalize wr.drewN nq=W2 at hbW ⊢
        clear ha ea hb1 eb
        generalize (a - 192)*64+b - 128=N at hN ⊢
        have hNN:=Lib.hid (takes_iff s 2 N hN)
        have hN2:=Lib.hid hN
        have kz:(2:Int)≤(s.size:Int):=by omega
        clear hN
        by_cases hv:isRuneB N=true
        · have hr:0≤N∧N≤1114111:=by
            rw [isRuneB_valid] at hv
            have:=Dec.enc_of hv
            omega
          obtain ⟨n0,n9⟩:=hr
          obtain ⟨bt,hbt⟩:∃ bt,((strOfNums (encL N)).toList == (s.extract 0 2).toList)=bt:=⟨_,rfl⟩
          have HB:=Lib.hid (ref_bytes N n0 n9)
          obtain ⟨bs,hbs⟩:∃ bs,strOfNums (encL N)=bs:=⟨_,rfl⟩
          rw [hbs] at hbt HB hNN
          clear hbs
          cases bt with
          | true =>
            refine region_plan (S:=fun _:World=>True) ((0,true)::(1,false)::(2,true)::(3,true)::(5,true)::(6,true)::(7,true)::(4,false)::(8,true)::(9,true)::[])
              (by kernel_rfl) (by kernel_rfl) (by kernel_rfl) (by kernel_rfl) (fun _ _ _ dst _ h=>by cases dst<;>exact h) trivial (fun hH=>?_)
            clear hH
            (repeat (first | (refine plan_take (v:=?_) (by (simp only [ga1,ga2,ga3];exact rfl)) (by rfl) ?_ ?_;rotate_left;(focus (intro wS hS;(try dsimp only at hS);go_split_ands;go_simp;(try with_reducible rfl)));simp only [Act.put,pu1,pu2,pu3]) | (refine plan_skip (by (simp only [ga1,ga2,ga3];exact rfl)) (by rfl) ?_;simp only [Act.put,pu1,pu2,pu3])))
            (refine plan_solo (by (simp only [ga1,ga2,ga3];exact rfl)) (by rfl) ?_;intro K hK;go_simp)
            refine (ref_isRune N _).mono ?_
            rintro e w4 ⟨rfl,hw4⟩
            rw [hv]
            refine hK.out _ _ trivial (fun hH=>?_)
            clear hK K hH
            (try simp only [Act.put,pu1,pu2,pu3])
            (repeat (first | (refine plan_take (v:=?_) (by (simp only [ga1,ga2,ga3];exact rfl)) (by rfl) ?_ ?_;rotate_left;(focus (intro wS hS;(try dsimp only at hS);go_split_ands;go_simp;(try with_reducible rfl)));simp only [Act.put,pu1,pu2,pu3]) | (refine plan_skip (by (simp only [ga1,ga2,ga3];exact rfl)) (by rfl) ?_;simp only [Act.put,pu1,pu2,pu3])))
            (refine plan_solo (by (simp only [ga1,ga2,ga3];exact rfl)) (by rfl) ?_;intro K hK;go_simp)
            refine (HB.out _).mono ?_
            rintro e w5 ⟨rfl,hb5⟩
            refine hK.out _ _ trivial (fun hH=>?_)
            clear hK K hH
            (try simp only [Act.put,pu1,pu2,pu3])
            (repeat (first | (refine plan_take (v:=?_) (by (simp only [ga1,ga2,ga3];exact rfl)) (by rfl) ?_ ?_;rotate_left;(focus (intro wS hS;(try dsimp only at hS);go_split_ands;go_simp;(try with_reducible rfl)));simp only [Act.put,pu1,pu2,pu3]) | (refine plan_skip (by (simp only [ga1,ga2,ga3];exact rfl)) (by rfl) ?_;simp only [Act.put,pu1,pu2,pu3])))
            refine plan_nil ?_
            have hT:Dec.takes s 2=true:=by rw [hNN.out,hv,hbt];rfl
            have hD:Dec.decR s=(N,2):=hd.trans (decFrom_yes hks hT hN2.out)
            have hb6:Below w.heap.size w w5:=hbW.drew.trans (hb5.mono hbW.size)
            replace hD:=Lib.hid hD
            have w32:IntKind.i32.wrap N=N:=by rw [IntKind.wrap_i32];omega
            clear hd hT hNN hN2 HB hbt hw4 hb5 hbW
            go_wp2_with fail
            go_ret2
            exact ⟨by rw [hD.out];rfl,hb6⟩
          | false =>
            refine region_plan (S:=fun _:World=>True) ((0,true)::(1,false)::(2,true)::(3,true)::(5,true)::(6,true)::(7,true)::(4,false)::(8,true)::(9,true)::[])
              (by kernel_rfl) (by kernel_rfl) (by kernel_rfl) (by kernel_rfl) (fun _ _ _ dst _ h=>by cases dst<;>exact h) trivial (fun hH=>?_)
            clear hH
            (repeat (first | (refine plan_take (v:=?_) (by (simp only [ga1,ga2,ga3];exact rfl)) (by rfl) ?_ ?_;rotate_left;(focus (intro wS hS;(try dsimp only at hS);go_split_ands;go_simp;(try with_reducible rfl)));simp only [Act.put,pu1,pu2,pu3]) | (refine plan_skip (by (simp only [ga1,ga2,ga3];exact rfl)) (by rfl) ?_;simp only [Act.put,pu1,pu2,pu3])))
            (refine plan_solo (by (simp only [ga1,ga2,ga3];exact rfl)) (by rfl) ?_;intro K hK;go_simp)
            refine (ref_isRune N _).mono ?_
            rintro e w4 ⟨rfl,hw4⟩
            rw [hv]
            refine hK.out _ _ trivial (fun hH=>?_)
            clear hK K hH
            (try simp only [Act.put,pu1,pu2,pu3])
            (repeat (first | (refine plan_take (v:=?_) (by (simp only [ga1,ga2,ga3];exact rfl)) (by rfl) ?_ ?_;rotate_left;(focus (intro wS hS;(try dsimp only at hS);go_split_ands;go_simp;(try with_reducible rfl)));simp only [Act.put,pu1,pu2,pu3]) | (refine plan_skip (by (simp only [ga1,ga2,ga3];exact rfl)) (by rfl) ?_;simp only [Act.put,pu1,pu2,pu3])))
            (refine plan_solo (by (simp only [ga1,ga2,ga3];exact rfl)) (by rfl) ?_;intro K hK;go_simp)
            refine (HB.out _).mono ?_
            rintro e w5 ⟨rfl,hb5⟩
            refine hK.out _ _ trivial (fun hH=>?_)
            clear hK K hH
            (try simp only [Act.put,pu1,pu2,pu3])
            (repeat (first | (refine plan_take (v:=?_) (by (simp only [ga1,ga2,ga3];exact rfl)) (by rfl) ?_ ?_;rotate_left;(focus (intro wS hS;(try dsimp only at hS);go_split_ands;go_simp;(try with_reducible rfl)));simp only [Act.put,pu1,pu2,pu3]) | (refine plan_skip (by (simp only [ga1,ga2,ga3];exact rfl)) (by rfl) ?_;simp only [Act.put,pu1,pu2,pu3])))
            refine plan_nil ?_
            have hT:Dec.takes s 2=false:=by rw [hNN.out,hv,hbt];rfl
            have hD:=hd.trans (decFrom_no hks hT)
            have hb6:Below w.heap.size w w5:=hbW.drew.trans (hb5.mono hbW.size)
            replace hD:=Lib.hid hD
            clear hd hT hNN hN2 HB hbt hw4 hb5 hbW
            go_wp2_with fail
            go_roundw
            case rel=>exact ⟨2+1,by omega,by omega,rfl,hD.out,hb6⟩
            case measure=>simp [intOf]
        · rw [Bool.not_eq_true] at hv
          refine region_plan (S:=fun _:World=>True) ((0,true)::(1,false)::(2,true)::(3,true)::(5,true)::(6,true)::(7,true)::(4,false)::(8,true)::(9,true)::[])
            (by kernel_rfl) (by kernel_rfl) (by kernel_rfl) (by kernel_rfl) (fun _ _ _ dst _ h=>by cases dst<;>exact h) trivial (fun hH=>?_)
          clear hH
          (repeat (first | (refine plan_take (v:=?_) (by (simp only [ga1,ga2,ga3];exact rfl)) (by rfl) ?_ ?_;rotate_left;(focus (intro wS hS;(try dsimp only at hS);go_split_ands;go_simp;(try with_reducible rfl)));simp only [Act.put,pu1,pu2,pu3]) | (refine plan_skip (by (simp only [ga1,ga2,ga3];exact rfl)) (by rfl) ?_;simp only [Act.put,pu1,pu2,pu3])))
          (refine plan_solo (by (simp only [ga1,ga2,ga3];exact rfl)) (by rfl) ?_;intro K hK;go_simp)
          refine (ref_isRune N _).mono ?_
          rintro e w4 ⟨rfl,hw4⟩
          rw [hv]
          refine hK.out _ _ trivial (fun hH=>?_)
          clear hK K hH
          (try simp only [Act.put,pu1,pu2,pu3])
          (repeat (first | (refine plan_take (v:=?_) (by (simp only [ga1,ga2,ga3];exact rfl)) (by rfl) ?_ ?_;rotate_left;(focus (intro wS hS;(try dsimp only at hS);go_split_ands;go_simp;(try with_reducible rfl)));simp only [Act.put,pu1,pu2,pu3]) | (refine plan_skip (by (simp only [ga1,ga2,ga3];exact rfl)) (by rfl) ?_;simp only [Act.put,pu1,pu2,pu3])))
          refine plan_solo_skip (by (simp only [ga1,ga2,ga3];exact rfl)) (by rfl) trivial ?_
          (try simp only [Act.put,pu1,pu2,pu3])
          (repeat (first | (refine plan_take (v:=?_) (by (simp only [ga1,ga2,ga3];exact rfl)) (by rfl) ?_ ?_;rotate_left;(focus (intro wS hS;(try dsimp only at hS);go_split_ands;go_simp;(try with_reducible rfl)));simp only [Act.put,pu1,pu2,pu3]) | (refine plan_skip (by (simp only [ga1,ga2,ga3];exact rfl)) (by rfl) ?_;simp only [Act.put,pu1,pu2,pu3])))
          refine plan_nil ?_
          have hT:Dec.takes s 2=false:=by rw [hNN.out,hv];rfl
          have hD:=hd.trans (decFrom_no hks hT)
          have hb6:Below w.heap.size w w4:=by rw [hw4];exact hbW.drew
          replace hD:=Lib.hid hD
          clear hd hT hNN hN2 hw4 hbW
          go_wp2_with fail
          go_roundw
          case rel=>exact ⟨2+1,by omega,by omega,rfl,hD.out,hb6⟩
          case measure=>simp [intOf]
      · clear hk1 hk5 hk4
        obtain ⟨b,hb1⟩:∃ a,Dec.atN s 1=a:=⟨_,rfl⟩
        have eb:=atN_get s 1 (by omega)
        rw [hb1] at eb
        have rb:=atN_lt s 1
        rw [hb1] at rb
        obtain ⟨rb1,rb2⟩:=rb
        obtain ⟨c,hc1⟩:∃ a,Dec.atN s 2=a:=⟨_,rfl⟩
        have ec:=atN_get s 2 (by omega)
        rw [hc1] at ec
        have rc:=atN_lt s 2
        rw [hc1] at rc
        obtain ⟨rc1,rc2⟩:=rc
        have W0:=i64_in (a - 224) (by omega)
        have W1:=i64_in ((a - 224)*4096) (by omega)
        have W2:=i64_in (b - 128) (by omega)
        have W3:=i64_in ((b - 128)*64) (by omega)
        have W4:=i64_in ((a - 224)*4096+(b - 128)*64) (by omega)
        have W5:=i64_in ((a - 224)*4096+(b - 128)*64+c) (by omega)
        have W6:=i64_in ((a - 224)*4096+(b - 128)*64+c - 128) (by omega)
        go_wp2_with fail
        go_quiet (fail)
        clear W0 W1 W2 W3 W4 W5 W6
        go_wp2_with fail
        have hN:Dec.tryN (Dec.atN s 0) (Dec.atN s 1) (Dec.atN s 2) (Dec.atN s 3) 3=(a - 224)*4096+(b - 128)*64+c - 128:=by rw [ha,hb1,hc1];rfl
        have hbW:Below w.heap.size w (wr.drewN nq):=⟨hb.os,hb.tape,hb.output,hb.size,hb.block⟩
        clear hb
        generalize wr.drewN nq=W2 at hbW ⊢
        clear ha ea hb1 eb hc1 ec
        generalize (a - 224)*4096+(b - 128)*64+c - 128=N at hN ⊢
        have hNN:=Lib.hid (takes_iff s 3 N hN)
        have hN2:=Lib.hid hN
        have kz:(3:Int)≤(s.size:Int):=by omega
        clear hN
        by_cases hv:isRuneB N=true
        · have hr:0≤N∧N≤1114111:=by
            rw [isRuneB_valid] at hv
            have:=Dec.enc_of hv
            omega
          obtain ⟨n0,n9⟩:=hr
          obtain ⟨bt,hbt⟩:∃ bt,((strOfNums (encL N)).toList == (s.extract 0 3).toList)=bt:=⟨_,rfl⟩
          have HB:=Lib.hid (ref_bytes N n0 n9)
          obtain ⟨bs,hbs⟩:∃ bs,strOfNums (encL N)=bs:=⟨_,rfl⟩
          rw [hbs] at hbt HB hNN
          clear hbs
          cases bt with
          | true =>
            refine region_plan (S:=fun _:World=>True) ((0,true)::(1,false)::(2,true)::(3,true)::(5,true)::(6,true)::(7,true)::(4,false)::(8,true)::(9,true)::[])
              (by kernel_rfl) (by kernel_rfl) (by kernel_rfl) (by kernel_rfl) (fun _ _ _ dst _ h=>by cases dst<;>exact h) trivial (fun hH=>?_)
            clear hH
            (repeat (first | (refine plan_take (v:=?_) (by (simp only [ga1,ga2,ga3];exact rfl)) (by rfl) ?_ ?_;rotate_left;(focus (intro wS hS;(try dsimp only at hS);go_split_ands;go_simp;(try with_reducible rfl)));simp only [Act.put,pu1,pu2,pu3]) | (refine plan_skip (by (simp only [ga1,ga2,ga3];exact rfl)) (by rfl) ?_;simp only [Act.put,pu1,pu2,pu3])))
            (refine plan_solo (by (simp only [ga1,ga2,ga3];exact rfl)) (by rfl) ?_;intro K hK;go_simp)
            refine (ref_isRune N _).mono ?_
            rintro e w4 ⟨rfl,hw4⟩
            rw [hv]
            refine hK.out _ _ trivial (fun hH=>?_)
            clear hK K hH
            (try simp only [Act.put,pu1,pu2,pu3])
            (repeat (first | (refine plan_take (v:=?_) (by (simp only [ga1,ga2,ga3];exact rfl)) (by rfl) ?_ ?_;rotate_left;(focus (intro wS hS;(try dsimp only at hS);go_split_ands;go_simp;(try with_reducible rfl)));simp only [Act.put,pu1,pu2,pu3]) | (refine plan_skip (by (simp only [ga1,ga2,ga3];exact rfl)) (by rfl) ?_;simp only [Act.put,pu1,pu2,pu3])))
            (refine plan_solo (by (simp only [ga1,ga2,ga3];exact rfl)) (by rfl) ?_;intro K hK;go_simp)
            refine (HB.out _).mono ?_
            rintro e w5 ⟨rfl,hb5⟩
            refine hK.out _ _ trivial (fun hH=>?_)
            clear hK K hH
            (try simp only [Act.put,pu1,pu2,pu3])
            (repeat (first | (refine plan_take (v:=?_) (by (simp only [ga1,ga2,ga3];exact rfl)) (by rfl) ?_ ?_;rotate_left;(focus (intro wS hS;(try dsimp only at hS);go_split_ands;go_simp;(try with_reducible rfl)));simp only [Act.put,pu1,pu2,pu3]) | (refine plan_skip (by (simp only [ga1,ga2,ga3];exact rfl)) (by rfl) ?_;simp only [Act.put,pu1,pu2,pu3])))
            refine plan_nil ?_
            have hT:Dec.takes s 3=true:=by rw [hNN.out,hv,hbt];rfl
            have hD:Dec.decR s=(N,3):=hd.trans (decFrom_yes hks hT hN2.out)
            have hb6:Below w.heap.size w w5:=hbW.drew.trans (hb5.mono hbW.size)
            replace hD:=Lib.hid hD
            have w32:IntKind.i32.wrap N=N:=by rw [IntKind.wrap_i32];omega
            clear hd hT hNN hN2 HB hbt hw4 hb5 hbW
            go_wp2_with fail
            go_ret2
            exact ⟨by rw [hD.out];rfl,hb6⟩
          | false =>
            refine region_plan (S:=fun _:World=>True) ((0,true)::(1,false)::(2,true)::(3,true)::(5,true)::(6,true)::(7,true)::(4,false)::(8,true)::(9,true)::[])
              (by kernel_rfl) (by kernel_rfl) (by kernel_rfl) (by kernel_rfl) (fun _ _ _ dst _ h=>by cases dst<;>exact h) trivial (fun hH=>?_)
            clear hH
            (repeat (first | (refine plan_take (v:=?_) (by (simp only [ga1,ga2,ga3];exact rfl)) (by rfl) ?_ ?_;rotate_left;(focus (intro wS hS;(try dsimp only at hS);go_split_ands;go_simp;(try with_reducible rfl)));simp only [Act.put,pu1,pu2,pu3]) | (refine plan_skip (by (simp only [ga1,ga2,ga3];exact rfl)) (by rfl) ?_;simp only [Act.put,pu1,pu2,pu3])))
            (refine plan_solo (by (simp only [ga1,ga2,ga3];exact rfl)) (by rfl) ?_;intro K hK;go_simp)
            refine (ref_isRune N _).mono ?_
            rintro e w4 ⟨rfl,hw4⟩
            rw [hv]
            refine hK.out _ _ trivial (fun hH=>?_)
            clear hK K hH
            (try simp only [Act.put,pu1,pu2,pu3])
            (repeat (first | (refine plan_take (v:=?_) (by (simp only [ga1,ga2,ga3];exact rfl)) (by rfl) ?_ ?_;rotate_left;(focus (intro wS hS;(try dsimp only at hS);go_split_ands;go_simp;(try with_reducible rfl)));simp only [Act.put,pu1,pu2,pu3]) | (refine plan_skip (by (simp only [ga1,ga2,ga3];exact rfl)) (by rfl) ?_;simp only [Act.put,pu1,pu2,pu3])))
            (refine plan_solo (by (simp only [ga1,ga2,ga3];exact rfl)) (by rfl) ?_;intro K hK;go_simp)
            refine (HB.out _).mono ?_
            rintro e w5 ⟨rfl,hb5⟩
            refine hK.out _ _ trivial (fun hH=>?_)
            clear hK K hH
            (try simp only [Act.put,pu1,pu2,pu3])
            (repeat (first | (refine plan_take (v:=?_) (by (simp only [ga1,ga2,ga3];exact rfl)) (by rfl) ?_ ?_;rotate_left;(focus (intro wS hS;(try dsimp only at hS);go_split_ands;go_simp;(try with_reducible rfl)));simp only [Act.put,pu1,pu2,pu3]) | (refine plan_skip (by (simp only [ga1,ga2,ga3];exact rfl)) (by rfl) ?_;simp only [Act.put,pu1,pu2,pu3])))
            refine plan_nil ?_
            have hT:Dec.takes s 3=false:=by rw [hNN.out,hv,hbt];rfl
            have hD:=hd.trans (decFrom_no hks hT)
            have hb6:Below w.heap.size w w5:=hbW.drew.trans (hb5.mono hbW.size)
            replace hD:=Lib.hid hD
            clear hd hT hNN hN2 HB hbt hw4 hb5 hbW
            go_wp2_with fail
            go_roundw
            case rel=>exact ⟨3+1,by omega,by omega,rfl,hD.out,hb6⟩
            case measure=>simp [intOf]
        · rw [Bool.not_eq_true] at hv
          refine region_plan (S:=fun _:World=>True) ((0,true)::(1,false)::(2,true)::(3,true)::(5,true)::(6,true)::(7,true)::(4,false)::(8,true)::(9,true)::[])
            (by kernel_rfl) (by kernel_rfl) (by kernel_rfl) (by kernel_rfl) (fun _ _ _ dst _ h=>by cases dst<;>exact h) trivial (fun hH=>?_)
          clear hH
          (repeat (first | (refine plan_take (v:=?_) (by (simp only [ga1,ga2,ga3];exact rfl)) (by rfl) ?_ ?_;rotate_left;(focus (intro wS hS;(try dsimp only at hS);go_split_ands;go_simp;(try with_reducible rfl)));simp only [Act.put,pu1,pu2,pu3]) | (refine plan_skip (by (simp only [ga1,ga2,ga3];exact rfl)) (by rfl) ?_;simp only [Act.put,pu1,pu2,pu3])))
          (refine plan_solo (by (simp only [ga1,ga2,ga3];exact rfl)) (by rfl) ?_;intro K hK;go_simp)
          refine (ref_isRune N _).mono ?_
          rintro e w4 ⟨rfl,hw4⟩
          rw [hv]
          refine hK.out _ _ trivial (fun hH=>?_)
          clear hK K hH
          (try simp only [Act.put,pu1,pu2,pu3])
          (repeat (first | (refine plan_take (v:=?_) (by (simp only [ga1,ga2,ga3];exact rfl)) (by rfl) ?_ ?_;rotate_left;(focus (intro wS hS;(try dsimp only at hS);go_split_ands;go_simp;(try with_reducible rfl)));simp only [Act.put,pu1,pu2,pu3]) | (refine plan_skip (by (simp only [ga1,ga2,ga3];exact rfl)) (by rfl) ?_;simp only [Act.put,pu1,pu2,pu3])))
          refine plan_solo_skip (by (simp only [ga1,ga2,ga3];exact rfl)) (by rfl) trivial ?_
          (try simp only [Act.put,pu1,pu2,pu3])
          (repeat (first | (refine plan_take (v:=?_) (by (simp only [ga1,ga2,ga3];exact rfl)) (by rfl) ?_ ?_;rotate_left;(focus (intro wS hS;(try dsimp only at hS);go_split_ands;go_simp;(try with_reducible rfl)));simp only [Act.put,pu1,pu2,pu3]) | (refine plan_skip (by (simp only [ga1,ga2,ga3];exact rfl)) (by rfl) ?_;simp only [Act.put,pu1,pu2,pu3])))
          refine plan_nil ?_
          have hT:Dec.takes s 3=false:=by rw [hNN.out,hv];rfl
          have hD:=hd.trans (decFrom_no hks hT)
          have hb6:Below w.heap.size w w4:=by rw [hw4];exact hbW.drew
          replace hD:=Lib.hid hD
          clear hd hT hNN hN2 hw4 hbW
          go_wp2_with fail
          go_roundw
          case rel=>exact ⟨3+1,by omega,by omega,rfl,hD.out,hb6⟩
          case measure=>simp [intOf]
      · clear hk1 hk5 hk4
        obtain ⟨b,hb1⟩:∃ a,Dec.atN s 1=a:=⟨_,rfl⟩
        have eb:=atN_get s 1 (by omega)
        rw [hb1] at eb
        have rb:=atN_lt s 1
        rw [hb1] at rb
        obtain ⟨rb1,rb2⟩:=rb
        obtain ⟨c,hc1⟩:∃ a,Dec.atN s 2=a:=⟨_,rfl⟩
        have ec:=atN_get s 2 (by omega)
        rw [hc1] at ec
        have rc:=atN_lt s 2
        rw [hc1] at rc
        obtain ⟨rc1,rc2⟩:=rc
        obtain ⟨d,hd1⟩:∃ a,Dec.atN s 3=a:=⟨_,rfl⟩
        have ed:=atN_get s 3 (by omega)
        rw [hd1] at ed
        have rd:=atN_lt s 3
        rw [hd1] at rd
        obtain ⟨rd1,rd2⟩:=rd
        have W0:=i64_in (a - 240) (by omega)
        have W1:=i64_in ((a - 240)*262144) (by omega)
        have W2:=i64_in (b - 128) (by omega)
        have W3:=i64_in ((b - 128)*4096) (by omega)
        have W4:=i64_in ((a - 240)*262144+(b - 128)*4096) (by omega)
        have W5:=i64_in (c - 128) (by omega)
        have W6:=i64_in ((c - 128)*64) (by omega)
        have W7:=i64_in ((a - 240)*262144+(b - 128)*4096+(c - 128)*64) (by omega)
        have W8:=i64_in ((a - 240)*262144+(b - 128)*4096+(c - 128)*64+d) (by omega)
        have W9:=i64_in ((a - 240)*262144+(b - 128)*4096+(c - 128)*64+d - 128) (by omega)
        go_wp2_with fail
        go_quiet (fail)
        clear W0 W1 W2 W3 W4 W5 W6 W7 W8 W9
        go_wp2_with fail
        have hN:Dec.tryN (Dec.atN s 0) (Dec.atN s 1) (Dec.atN s 2) (Dec.atN s 3) 4=(a - 240)*262144+(b - 128)*4096+(c - 128)*64+d - 128:=by rw [ha,hb1,hc1,hd1];rfl
        have hbW:Below w.heap.size w (wr.drewN nq):=⟨hb.os,hb.tape,hb.output,hb.size,hb.block⟩
        clear hb
        generalize wr.drewN nq=W2 at hbW ⊢
        clear ha ea hb1 eb hc1 ec hd1 ed
        generalize (a - 240)*262144+(b - 128)*4096+(c - 128)*64+d - 128=N at hN ⊢
        have hNN:=Lib.hid (takes_iff s 4 N hN)
        have hN2:=Lib.hid hN
        have kz:(4:Int)≤(s.size:Int):=by omega
        clear hN
        by_cases hv:isRuneB N=true
        · have hr:0≤N∧N≤1114111:=by
            rw [isRuneB_valid] at hv
            have:=Dec.enc_of hv
            omega
          obtain ⟨n0,n9⟩:=hr
          obtain ⟨bt,hbt⟩:∃ bt,((strOfNums (encL N)).toList == (s.extract 0 4).toList)=bt:=⟨_,rfl⟩
          have HB:=Lib.hid (ref_bytes N n0 n9)
          obtain ⟨bs,hbs⟩:∃ bs,strOfNums (encL N)=bs:=⟨_,rfl⟩
          rw [hbs] at hbt HB hNN
          clear hbs
          cases bt with
          | true =>
            refine region_plan (S:=fun _:World=>True) ((0,true)::(1,false)::(2,true)::(3,true)::(5,true)::(6,true)::(7,true)::(4,false)::(8,true)::(9,true)::[])
              (by kernel_rfl) (by kernel_rfl) (by kernel_rfl) (by kernel_rfl) (fun _ _ _ dst _ h=>by cases dst<;>exact h) trivial (fun hH=>?_)
            clear hH
            (repeat (first | (refine plan_take (v:=?_) (by (simp only [ga1,ga2,ga3];exact rfl)) (by rfl) ?_ ?_;rotate_left;(focus (intro wS hS;(try dsimp only at hS);go_split_ands;go_simp;(try with_reducible rfl)));simp only [Act.put,pu1,pu2,pu3]) | (refine plan_skip (by (simp only [ga1,ga2,ga3];exact rfl)) (by rfl) ?_;simp only [Act.put,pu1,pu2,pu3])))
            (refine plan_solo (by (simp only [ga1,ga2,ga3];exact rfl)) (by rfl) ?_;intro K hK;go_simp)
            refine (ref_isRune N _).mono ?_
            rintro e w4 ⟨rfl,hw4⟩
            rw [hv]
            refine hK.out _ _ trivial (fun hH=>?_)
            clear hK K hH
            (try simp only [Act.put,pu1,pu2,pu3])
            (repeat (first | (refine plan_take (v:=?_) (by (simp only [ga1,ga2,ga3];exact rfl)) (by rfl) ?_ ?_;rotate_left;(focus (intro wS hS;(try dsimp only at hS);go_split_ands;go_simp;(try with_reducible rfl)));simp only [Act.put,pu1,pu2,pu3]) | (refine plan_skip (by (simp only [ga1,ga2,ga3];exact rfl)) (by rfl) ?_;simp only [Act.put,pu1,pu2,pu3])))
            (refine plan_solo (by (simp only [ga1,ga2,ga3];exact rfl)) (by rfl) ?_;intro K hK;go_simp)
            refine (HB.out _).mono ?_
            rintro e w5 ⟨rfl,hb5⟩
            refine hK.out _ _ trivial (fun hH=>?_)
            clear hK K hH
            (try simp only [Act.put,pu1,pu2,pu3])
            (repeat (first | (refine plan_take (v:=?_) (by (simp only [ga1,ga2,ga3];exact rfl)) (by rfl) ?_ ?_;rotate_left;(focus (intro wS hS;(try dsimp only at hS);go_split_ands;go_simp;(try with_reducible rfl)));simp only [Act.put,pu1,pu2,pu3]) | (refine plan_skip (by (simp only [ga1,ga2,ga3];exact rfl)) (by rfl) ?_;simp only [Act.put,pu1,pu2,pu3])))
            refine plan_nil ?_
            have hT:Dec.takes s 4=true:=by rw [hNN.out,hv,hbt];rfl
            have hD:Dec.decR s=(N,4):=hd.trans (decFrom_yes hks hT hN2.out)
            have hb6:Below w.heap.size w w5:=hbW.drew.trans (hb5.mono hbW.size)
            replace hD:=Lib.hid hD
            have w32:IntKind.i32.wrap N=N:=by rw [IntKind.wrap_i32];omega
            clear hd hT hNN hN2 HB hbt hw4 hb5 hbW
            go_wp2_with fail
            go_ret2
            exact ⟨by rw [hD.out];rfl,hb6⟩
          | false =>
            refine region_plan (S:=fun _:World=>True) ((0,true)::(1,false)::(2,true)::(3,true)::(5,true)::(6,true)::(7,true)::(4,false)::(8,true)::(9,true)::[])
              (by kernel_rfl) (by kernel_rfl) (by kernel_rfl) (by kernel_rfl) (fun _ _ _ dst _ h=>by cases dst<;>exact h) trivial (fun hH=>?_)
            clear hH
            (repeat (first | (refine plan_take (v:=?_) (by (simp only [ga1,ga2,ga3];exact rfl)) (by rfl) ?_ ?_;rotate_left;(focus (intro wS hS;(try dsimp only at hS);go_split_ands;go_simp;(try with_reducible rfl)));simp only [Act.put,pu1,pu2,pu3]) | (refine plan_skip (by (simp only [ga1,ga2,ga3];exact rfl)) (by rfl) ?_;simp only [Act.put,pu1,pu2,pu3])))
            (refine plan_solo (by (simp only [ga1,ga2,ga3];exact rfl)) (by rfl) ?_;intro K hK;go_simp)
            refine (ref_isRune N _).mono ?_
            rintro e w4 ⟨rfl,hw4⟩
            rw [hv]
            refine hK.out _ _ trivial (fun hH=>?_)
            clear hK K hH
            (try simp only [Act.put,pu1,pu2,pu3])
            (repeat (first | (refine plan_take (v:=?_) (by (simp only [ga1,ga2,ga3];exact rfl)) (by rfl) ?_ ?_;rotate_left;(focus (intro wS hS;(try dsimp only at hS);go_split_ands;go_simp;(try with_reducible rfl)));simp only [Act.put,pu1,pu2,pu3]) | (refine plan_skip (by (simp only [ga1,ga2,ga3];exact rfl)) (by rfl) ?_;simp only [Act.put,pu1,pu2,pu3])))
            (refine plan_solo (by (simp only [ga1,ga2,ga3];exact rfl)) (by rfl) ?_;intro K hK;go_simp)
            refine (HB.out _).mono ?_
            rintro e w5 ⟨rfl,hb5⟩
            refine hK.out _ _ trivial (fun hH=>?_)
            clear hK K hH
            (try simp only [Act.put,pu1,pu2,pu3])
            (repeat (first | (refine plan_take (v:=?_) (by (simp only [ga1,ga2,ga3];exact rfl)) (by rfl) ?_ ?_;rotate_left;(focus (intro wS hS;(try dsimp only at hS);go_split_ands;go_simp;(try with_reducible rfl)));simp only [Act.put,pu1,pu2,pu3]) | (refine plan_skip (by (simp only [ga1,ga2,ga3];exact rfl)) (by rfl) ?_;simp only [Act.put,pu1,pu2,pu3])))
            refine plan_nil ?_
            have hT:Dec.takes s 4=false:=by rw [hNN.out,hv,hbt];rfl
            have hD:=hd.trans (decFrom_no hks hT)
            have hb6:Below w.heap.size w w5:=hbW.drew.trans (hb5.mono hbW.size)
            replace hD:=Lib.hid hD
            clear hd hT hNN hN2 HB hbt hw4 hb5 hbW
            go_wp2_with fail
            go_roundw
            case rel=>exact ⟨4+1,by omega,by omega,rfl,hD.out,hb6⟩
            case measure=>simp [intOf]
        · rw [Bool.not_eq_true] at hv
          refine region_plan (S:=fun _:World=>True) ((0,true)::(1,false)::(2,true)::(3,true)::(5,true)::(6,true)::(7,true)::(4,false)::(8,true)::(9,true)::[])
            (by kernel_rfl) (by kernel_rfl) (by kernel_rfl) (by kernel_rfl) (fun _ _ _ dst _ h=>by cases dst<;>exact h) trivial (fun hH=>?_)
          clear hH
          (repeat (first | (refine plan_take (v:=?_) (by (simp only [ga1,ga2,ga3];exact rfl)) (by rfl) ?_ ?_;rotate_left;(focus (intro wS hS;(try dsimp only at hS);go_split_ands;go_simp;(try with_reducible rfl)));simp only [Act.put,pu1,pu2,pu3]) | (refine plan_skip (by (simp only [ga1,ga2,ga3];exact rfl)) (by rfl) ?_;simp only [Act.put,pu1,pu2,pu3])))
          (refine plan_solo (by (simp only [ga1,ga2,ga3];exact rfl)) (by rfl) ?_;intro K hK;go_simp)
          refine (ref_isRune N _).mono ?_
          rintro e w4 ⟨rfl,hw4⟩
          rw [hv]
          refine hK.out _ _ trivial (fun hH=>?_)
          clear hK K hH
          (try simp only [Act.put,pu1,pu2,pu3])
          (repeat (first | (refine plan_take (v:=?_) (by (simp only [ga1,ga2,ga3];exact rfl)) (by rfl) ?_ ?_;rotate_left;(focus (intro wS hS;(try dsimp only at hS);go_split_ands;go_simp;(try with_reducible rfl)));simp only [Act.put,pu1,pu2,pu3]) | (refine plan_skip (by (simp only [ga1,ga2,ga3];exact rfl)) (by rfl) ?_;simp only [Act.put,pu1,pu2,pu3])))
          refine plan_solo_skip (by (simp only [ga1,ga2,ga3];exact rfl)) (by rfl) trivial ?_
          (try simp only [Act.put,pu1,pu2,pu3])
          (repeat (first | (refine plan_take (v:=?_) (by (simp only [ga1,ga2,ga3];exact rfl)) (by rfl) ?_ ?_;rotate_left;(focus (intro wS hS;(try dsimp only at hS);go_split_ands;go_simp;(try with_reducible rfl)));simp only [Act.put,pu1,pu2,pu3]) | (refine plan_skip (by (simp only [ga1,ga2,ga3];exact rfl)) (by rfl) ?_;simp only [Act.put,pu1,pu2,pu3])))
          refine plan_nil ?_
          have hT:Dec.takes s 4=false:=by rw [hNN.out,hv];rfl
          have hD:=hd.trans (decFrom_no hks hT)
          have hb6:Below w.heap.size w w4:=by rw [hw4];exact hbW.drew
          replace hD:=Lib.hid hD
          clear hd hT hNN hN2 hw4 hbW
          go_wp2_with fail
          go_roundw
          case rel=>exact ⟨4+1,by omega,by omega,rfl,hD.out,hb6⟩
          case measure=>simp [intOf]
    · have hK:k=5∨s.size<k:=by omega
      have hD:Dec.decR s=(65533,1):=by
        rw [hd]
        rcases hK with rfl | hK
        · rfl
        · cases hm:5 - k with
          | zero=>rfl
          | succ m =>
            unfold Dec.decFrom
            rw [if_neg (by omega),if_neg (by omega)]
      replace hD:=Lib.hid hD
      clear hd hlt ea ha
      by_cases h4:k≤4
      · have h5:¬ (k:Int)≤(s.size:Int):=by omega
        have h6:(k:Int)≤4:=by omega
        clear hK
        go_wp2_with fail
        go_ret2
        exact ⟨by rw [hD.out];rfl,hb⟩
      · have h5:¬ (k:Int)≤4:=by omega
        clear hK
        go_wp2_with fail
        go_ret2
        exact ⟨by rw [hD.out];rfl,hb⟩
end Go.Proofs.YtmdgeknnhckgfaaGreatDoor
