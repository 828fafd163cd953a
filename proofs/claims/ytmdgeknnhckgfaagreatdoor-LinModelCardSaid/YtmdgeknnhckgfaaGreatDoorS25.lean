/-
  Parts of the proof of the law LinModel: LSrt, MMap, MSes.
-/
import Derived.Test.YtmdgeknnhckgfaaGreatDoorS09
import Derived.Test.YtmdgeknnhckgfaaGreatDoorS12
import Derived.Test.YtmdgeknnhckgfaaGreatDoorS15
import Derived.Test.YtmdgeknnhckgfaaGreatDoorS24
set_option linter.unusedSimpArgs false
set_option linter.unusedVariables false
namespace Go.Proofs.YtmdgeknnhckgfaaGreatDoor
open Go Go.RowKit
theorem exec_load_mid {P:Program} {w:World} {f:Operand→Value} {op:Oper} (ty:TypeId) (x:Operand) (ho:op.op=.load ty x) (b o:Nat) (hx:f x=.pointer (some ⟨b,o,none⟩)) (cs:List Value) (d:TypeDesc) (hc:w.rangeAt b o cs)
    (hu:P.underlying ty=some d) (hd:d.isRow=true) (hi:(P.info? ty).map (·.size)=some cs.length):(execOp f op).run P w=.ok (.value (.agg cs.toArray)) w:=by
  unfold execOp
  simp only [ho,hx,Instr.loadAt,Instr.sureAddr,Sem.run_bind,Sem.run_pure,Result.andThen_ok,run_loadVar_mid w b o ty cs d hc hu hd hi]
theorem range_kept {w w':World} {b o:Nat} {cs:List Value} (h:w.rangeAt b o cs) (hb:Below w.heap.size w w') (hl:b<w.heap.size):w'.rangeAt b o cs:=fun j v hj=>(hb.cell (p:=⟨b,o+j,none⟩) hl).trans (h j v hj)
set_option maxRecDepth 100000 in
theorem mod_cmp68 (x y:Ask) (hlt:y.pt<x.pt) (w:World):Calls Tryz.prog 68 #[.agg (askArr x),.agg (askArr y)] w fun e w'=>e=.returned (.int .i64 1)∧Below w.heap.size w w':=by
  have hb1:Below w.heap.size w (w.alloc (.cells (askArr x) 55)):=(Below.refl _ w).alloc (Nat.le_refl _) _
  have hK1:=(Blk.new w (askArr x) 55).alloc (.cells (askArr y) 55)
  have hK2:=Blk.new (w.alloc (.cells (askArr x) 55)) (askArr y) 55
  rw [World.size_alloc] at hK2
  have HB:=Lib.hid (hb1.alloc hb1.size (.cells (askArr y) 55))
  have t1:=hK1.cell 3 (.int .i64 (x.pt:Nat)) rfl
  have t2:=hK2.cell 3 (.int .i64 (y.pt:Nat)) rfl
  have HC:=Lib.hid (Tryz.cmp_Compare_int (x.pt:Nat) (y.pt:Nat))
  have hcv:Lib.compareInt (x.pt:Nat) (y.pt:Nat)=1:=by
    unfold Lib.compareInt
    rw [if_neg (by omega),if_pos (by omega)]
  rw [hcv] at HC
  clear hb1 hK1 hK2 hcv
  go_enter Tryz.func68,Tryz.ntmps68
  go_wp2_with fail
  refine (HC.out _).mono ?_
  rintro e w1 ⟨rfl,hw⟩
  obtain rfl:=hw.symm
  clear hw
  go_wp2_with fail
  go_ret
  exact ⟨rfl,HB.out⟩
structure Rising (w:World) (b o:Nat) (l:List Ask):Prop where
  len:l.length≤1000
  lt:b<w.heap.size
  at':∀ (i:Nat) x,l[i]?=some x→w.rangeAt b (o+i*31) (askCells x)
  rise:∀ (i j:Nat) x y,l[i]?=some x→l[j]?=some y→i<j→x.pt<y.pt
theorem Rising.kept {w w':World} {b o:Nat} {l:List Ask} (h:Rising w b o l) (hb:Below w.heap.size w w'):Rising w' b o l :=
  ⟨h.len,Nat.lt_of_lt_of_le h.lt hb.size,fun i x hx=>range_kept (h.at' i x hx) hb h.lt,h.rise⟩
def fnCmp:Value:=.func (.func 68) #[] #[]
set_option maxRecDepth 100000 in
set_option maxHeartbeats 8000000 in
theorem mod_insertion (w:World) (b o cap:Nat) (l:List Ask) (hs:Rising w b o l) (lo hi:Nat) (hhi:hi≤l.length) (hlo:lo≤100000) :
    Calls Tryz.prog 107 #[.slice (some ⟨b,o,none⟩) l.length cap,.int .i64 (lo:Nat),.int .i64 (hi:Nat),fnCmp] w fun e w'=>e=.returned (.tuple #[])∧Below w.heap.size w w':=by
  have HS:=Lib.hid hs
  have hlen:=hs.len
  unfold fnCmp
  clear hs
  go_enter Tryz.func107,Tryz.ntmps107
  go_wp2_with fail
  go_loopw [8,9] (fun (iv jv:Value) (W:World)=>∃ i:Nat,lo+1≤i∧iv=.int .i64 (i:Nat)∧Below w.heap.size w W) (fun v _ _=>hi - (intOf v).toNat)
  case atStart=>exact ⟨lo+1,Nat.le_refl _,rfl,Below.refl _ _⟩
  case round =>
    obtain ⟨i,hli,rfl,hb⟩:=hrel
    by_cases hlt:i<hi
    · have kl:(i:Int)<(hi:Int):=by omega
      have HB:=Lib.hid hb
      clear hb
      go_wp2_with fail
      go_loopw [9] (fun (v:Value) (W:World)=>v=.int .i64 (i:Nat)∧Below w.heap.size w W) (fun _ _=>0)
      case atStart=>exact ⟨rfl,HB.out⟩
      case round =>
        obtain ⟨rfl,hb⟩:=hrel
        obtain ⟨j,hj⟩:∃ j,i=j+1:=⟨i - 1,by omega⟩
        obtain ⟨x,hx⟩:=get_lt (show i<l.length by omega)
        obtain ⟨y,hy⟩:=get_lt (show j<l.length by omega)
        have hrs:=HS.out.kept hb
        have RX:=hrs.at' i x hx
        have RY:=hrs.at' j y hy
        have HCM:=Lib.hid (mod_cmp68 x y (hrs.rise j i y x hy hx (by omega)))
        have HRS:=Lib.hid hrs
        have HBB:=Lib.hid hb
        have jl:(lo:Int)<(i:Int):=by omega
        have il:(i:Int)<(l.length:Int):=by omega
        have jn:(j:Int)<(l.length:Int):=by omega
        have w1:IntKind.i64.wrap ((i:Int) - 1)=(j:Int):=(IntWalk.i64_in _ (by omega)).trans (by omega)
        have HJ:=Lib.hid hj
        have HLT:=Lib.hid hlt
        clear hx hy hb hrs kl hli hlt hj
        go_wp2_with fail
        refine region_plan (S:=fun w':World=>w'.rangeAt b (o+i*31) (askCells x)∧w'.rangeAt b (o+j*31) (askCells y))
          ((0,true)::(1,true)::(2,true)::(3,true)::(4,true)::(5,true)::(6,true)::(7,true)::(8,true)::(9,true)::(10,true)::(11,true)::(12,true)::(13,true)::(14,false)::(15,true)::(16,true)::[])
          (by kernel_rfl) (by kernel_rfl) (by kernel_rfl) (by kernel_rfl) (fun _ _ _ dst _ h=>by cases dst<;>exact h) ⟨RX,RY⟩ (fun hH=>?_)
        clear hH
        iterate 8 (refine plan_take (v:=?_) (by (simp only [ga1,ga2,ga3];exact rfl)) (by rfl) ?_ ?_;rotate_left;(focus (intro wS hS;(try dsimp only at hS);go_split_ands;go_simp;(try with_reducible rfl)));simp only [Act.put,pu1,pu2,pu3])
        refine plan_take (v:=.agg (askArr x)) (by (simp only [ga1,ga2,ga3];exact rfl)) (by rfl) (fun wS hS=>exec_load_mid 55 (Operand.tmp 25) rfl b _ rfl (askCells x) _ hS.1 Tryz.underlying55 rfl (by exact Tryz.size55)) ?_
        (try simp only [Act.put,pu1,pu2,pu3])
        iterate 4 (refine plan_take (v:=?_) (by (simp only [ga1,ga2,ga3];exact rfl)) (by rfl) ?_ ?_;rotate_left;(focus (intro wS hS;(try dsimp only at hS);go_split_ands;go_simp;(try with_reducible rfl)));simp only [Act.put,pu1,pu2,pu3])
        refine plan_take (v:=.agg (askArr y)) (by (simp only [ga1,ga2,ga3];exact rfl)) (by rfl) (fun wS hS=>exec_load_mid 55 (Operand.tmp 30) rfl b _ rfl (askCells y) _ hS.2 Tryz.underlying55 rfl (by exact Tryz.size55)) ?_
        (try simp only [Act.put,pu1,pu2,pu3])
        (refine plan_solo (by (simp only [ga1,ga2,ga3];exact rfl)) (by rfl) ?_;intro K hK;go_simp)
        refine (HCM.out _).mono ?_
        rintro e w5 ⟨rfl,hb5⟩
        have B5:Below wr.heap.size wr w5:=(Below.refl _ wr).drew.trans hb5
        refine hK.out _ _ ⟨range_kept RX B5 HRS.out.lt,range_kept RY B5 HRS.out.lt⟩ (fun hH=>?_)
        clear hK K hH hb5
        (try simp only [Act.put,pu1,pu2,pu3])
        (repeat (first | (refine plan_take (v:=?_) (by (simp only [ga1,ga2,ga3];exact rfl)) (by rfl) ?_ ?_;rotate_left;(focus (intro wS hS;(try dsimp only at hS);go_split_ands;go_simp;(try with_reducible rfl)));simp only [Act.put,pu1,pu2,pu3]) | (refine plan_skip (by (simp only [ga1,ga2,ga3];exact rfl)) (by rfl) ?_;simp only [Act.put,pu1,pu2,pu3])))
        refine plan_nil ?_
        have HB5:=Lib.hid (HBB.out.trans (B5.mono HBB.out.size))
        clear RX RY B5 HBB
        go_wp2_with fail
        go_roundw
        case rel=>exact ⟨i+1,by have:=HJ.out;omega,rfl,HB5.out⟩
        case measure=>have:=HLT.out;simp [intOf];omega
    · have kl:¬ (i:Int)<(hi:Int):=by omega
      have HB:=Lib.hid hb
      clear hb
      go_wp2_with fail
      exact body_none rfl rfl ⟨rfl,HB.out⟩
theorem body_ret_none {P:Program} {fn:Func} {R:Ending→World→Prop} {a:Act} {w:World} (hr:fn.results=#[]) (hd:a.defers=[]) (hR:R (.returned (.tuple #[])) w):bodyPost P fn R .ret a w :=
  ⟨hd,.tuple #[],by unfold results;rw [hr];simp [Sem.run_pure],hR⟩
set_option maxRecDepth 100000 in
set_option maxHeartbeats 16000000 in
theorem mod_symMerge (b o cap:Nat) (l:List Ask):∀ (fuel lo m hi:Nat),hi - lo≤fuel→lo<m→m<hi→hi≤l.length→∀ (w:World),Rising w b o l →
    Calls Tryz.prog 108 #[.slice (some ⟨b,o,none⟩) l.length cap,.int .i64 (lo:Nat),.int .i64 (m:Nat),.int .i64 (hi:Nat),fnCmp] w fun e w'=>e=.returned (.tuple #[])∧Below w.heap.size w w':=by
  intro fuel
  induction fuel with
  | zero=>intro lo m hi hf h1 h2;omega
  | succ fuel ih =>
    intro lo m hi hf h1 h2 h3 w hs
    have IH:=Lib.hid ih
    have HS:=Lib.hid hs
    have hlen:=hs.len
    unfold fnCmp at IH ⊢
    clear ih hs
    by_cases c1:m=lo+1
    · have d1:IntKind.i64.wrap ((m:Int) - (lo:Int))=1:=(IntWalk.i64_in _ (by omega)).trans (by omega)
      have d2:IntKind.i64.wrap ((m:Int) - 1)=(lo:Int):=(IntWalk.i64_in _ (by omega)).trans (by omega)
      have HC1:=Lib.hid c1
      have HH1:=Lib.hid h1
      have HH2:=Lib.hid h2
      have HH3:=Lib.hid h3
      clear c1 h1 h2 h3 hf
      go_enter Tryz.func108,Tryz.ntmps108
      go_wp2_with fail
      go_loopw [10,11,12] (fun (iv jv hv:Value) (W:World)=>∃ j:Nat,m≤j∧j≤hi∧iv=.int .i64 (m:Nat)∧jv=.int .i64 (j:Nat)∧Below w.heap.size w W) (fun _ v _ _=>(intOf v).toNat)
      case atStart=>exact ⟨hi,Nat.le_of_lt HH2.out,Nat.le_refl _,rfl,rfl,Below.refl _ _⟩
      case round =>
        obtain ⟨j,hmj,hjh,rfl,rfl,hb⟩:=hrel
        by_cases hlt:m<j
        · have kl:(m:Int)<(j:Int):=by omega
          have h3:=HH3.out
          have h1:=HH1.out
          obtain ⟨q,hq⟩:∃ q,(m+j) / 2=q:=⟨_,rfl⟩
          have w1:IntKind.i64.wrap ((m:Int)+(j:Int))=(m:Int)+(j:Int):=IntWalk.i64_in _ (by omega)
          have w2:IntKind.u64.wrap ((m:Int)+(j:Int))=(m:Int)+(j:Int):=by rw [IntKind.wrap_u64];omega
          have hqi:((m:Int)+(j:Int)) / 2=(q:Int):=by omega
          obtain ⟨x,hx⟩:=get_lt (show q<l.length by omega)
          obtain ⟨y,hy⟩:=get_lt (show lo<l.length by omega)
          have hrs:=HS.out.kept hb
          have RX:=hrs.at' q x hx
          have RY:=hrs.at' lo y hy
          have HCM:=Lib.hid (mod_cmp68 x y (hrs.rise lo q y x hy hx (by omega)))
          have HRS:=Lib.hid hrs
          have HBB:=Lib.hid hb
          have ql:(q:Int)<(l.length:Int):=by omega
          have ll:(lo:Int)<(l.length:Int):=by omega
          have HQ:=Lib.hid (show m≤q∧q<j∧q≤hi by omega)
          clear hx hy hb hrs h3 h1 hlt hq
          go_wp2_with fail
          clear hqi w1 w2
          refine region_plan (S:=fun w':World=>w'.rangeAt b (o+q*31) (askCells x)∧w'.rangeAt b (o+lo*31) (askCells y))
            ((0,true)::(1,true)::(2,true)::(3,true)::(4,true)::(5,true)::(6,true)::(7,true)::(8,true)::(9,false)::(10,true)::[])
            (by kernel_rfl) (by kernel_rfl) (by kernel_rfl) (by kernel_rfl) (fun _ _ _ dst _ h=>by cases dst<;>exact h) ⟨RX,RY⟩ (fun hH=>?_)
          clear hH
          iterate 4 (refine plan_take (v:=?_) (by (simp only [ga1,ga2,ga3];exact rfl)) (by rfl) ?_ ?_;rotate_left;(focus (intro wS hS;(try dsimp only at hS);go_split_ands;go_simp;(try with_reducible rfl)));simp only [Act.put,pu1,pu2,pu3])
          refine plan_take (v:=.agg (askArr x)) (by (simp only [ga1,ga2,ga3];exact rfl)) (by rfl) (fun wS hS=>exec_load_mid 55 (Operand.tmp 43) rfl b _ rfl (askCells x) _ hS.1 Tryz.underlying55 rfl (by exact Tryz.size55)) ?_
          (try simp only [Act.put,pu1,pu2,pu3])
          iterate 3 (refine plan_take (v:=?_) (by (simp only [ga1,ga2,ga3];exact rfl)) (by rfl) ?_ ?_;rotate_left;(focus (intro wS hS;(try dsimp only at hS);go_split_ands;go_simp;(try with_reducible rfl)));simp only [Act.put,pu1,pu2,pu3])
          refine plan_take (v:=.agg (askArr y)) (by (simp only [ga1,ga2,ga3];exact rfl)) (by rfl) (fun wS hS=>exec_load_mid 55 (Operand.tmp 47) rfl b _ rfl (askCells y) _ hS.2 Tryz.underlying55 rfl (by exact Tryz.size55)) ?_
          (try simp only [Act.put,pu1,pu2,pu3])
          (refine plan_solo (by (simp only [ga1,ga2,ga3];exact rfl)) (by rfl) ?_;intro K hK;go_simp)
          refine (HCM.out _).mono ?_
          rintro e w5 ⟨rfl,hb5⟩
          have B5:Below wr.heap.size wr w5:=(Below.refl _ wr).drew.trans hb5
          refine hK.out _ _ ⟨range_kept RX B5 HRS.out.lt,range_kept RY B5 HRS.out.lt⟩ (fun hH=>?_)
          clear hK K hH hb5
          (try simp only [Act.put,pu1,pu2,pu3])
          (repeat (first | (refine plan_take (v:=?_) (by (simp only [ga1,ga2,ga3];exact rfl)) (by rfl) ?_ ?_;rotate_left;(focus (intro wS hS;(try dsimp only at hS);go_split_ands;go_simp;(try with_reducible rfl)));simp only [Act.put,pu1,pu2,pu3]) | (refine plan_skip (by (simp only [ga1,ga2,ga3];exact rfl)) (by rfl) ?_;simp only [Act.put,pu1,pu2,pu3])))
          refine plan_nil ?_
          have HB5:=Lib.hid (HBB.out.trans (B5.mono HBB.out.size))
          clear RX RY B5 HBB
          go_wp2_with fail
          go_roundw
          case rel =>
            obtain ⟨a1,a2,a3⟩:=HQ.out
            exact ⟨q,a1,a3,rfl,rfl,HB5.out⟩
          case measure=>have:=HQ.out;simp [intOf];omega
        · have hjm:j=m:=by omega
          have kl:¬ (m:Int)<(j:Int):=by omega
          have HB:=Lib.hid hb
          clear hb hjm
          go_wp2_with fail
          go_loopw [13] (fun (v:Value) (W:World)=>v=.int .i64 (lo:Nat)∧Below w.heap.size w W) (fun _ _=>0)
          case atStart=>exact ⟨rfl,HB.out⟩
          case round =>
            obtain ⟨rfl,hb⟩:=hrel
            have HB:=Lib.hid hb
            clear hb
            go_wp2_with fail
            exact body_ret_none rfl rfl ⟨rfl,HB.out⟩
    · obtain ⟨dm,hdm⟩:∃ dm,m - lo=dm:=⟨_,rfl⟩
      have d1:IntKind.i64.wrap ((m:Int) - (lo:Int))=(dm:Int):=(IntWalk.i64_in _ (by omega)).trans (by omega)
      have d2:((dm:Int) == 1)=false:=by simp;omega
      by_cases c2:hi=m+1
      · have d3:IntKind.i64.wrap ((hi:Int) - (m:Int))=1:=(IntWalk.i64_in _ (by omega)).trans (by omega)
        have HH1:=Lib.hid h1
        have HH2:=Lib.hid h2
        have HH3:=Lib.hid h3
        clear c1 c2 h1 h2 h3 hf hdm
        go_enter Tryz.func108,Tryz.ntmps108
        go_wp2_with fail
        clear d1 d2 d3
        go_loopw [14,15,16] (fun (iv jv hv:Value) (W:World)=>∃ i:Nat,lo≤i∧i≤m∧iv=.int .i64 (i:Nat)∧jv=.int .i64 (m:Nat)∧Below w.heap.size w W) (fun v _ _ _=>m - (intOf v).toNat)
        case atStart=>exact ⟨lo,Nat.le_refl _,Nat.le_of_lt HH1.out,rfl,rfl,Below.refl _ _⟩
        case round =>
          obtain ⟨i,hli,him,rfl,rfl,hb⟩:=hrel
          by_cases hlt:i<m
          · have kl:(i:Int)<(m:Int):=by omega
            have h3:=HH3.out
            have h2:=HH2.out
            obtain ⟨q,hq⟩:∃ q,(i+m) / 2=q:=⟨_,rfl⟩
            have w1:IntKind.i64.wrap ((i:Int)+(m:Int))=(i:Int)+(m:Int):=IntWalk.i64_in _ (by omega)
            have w2:IntKind.u64.wrap ((i:Int)+(m:Int))=(i:Int)+(m:Int):=by rw [IntKind.wrap_u64];omega
            have hqi:((i:Int)+(m:Int)) / 2=(q:Int):=by omega
            obtain ⟨x,hx⟩:=get_lt (show m<l.length by omega)
            obtain ⟨y,hy⟩:=get_lt (show q<l.length by omega)
            have hrs:=HS.out.kept hb
            have RX:=hrs.at' m x hx
            have RY:=hrs.at' q y hy
            have HCM:=Lib.hid (mod_cmp68 x y (hrs.rise q m y x hy hx (by omega)))
            have HRS:=Lib.hid hrs
            have HBB:=Lib.hid hb
            have ql:(q:Int)<(l.length:Int):=by omega
            have ll:(m:Int)<(l.length:Int):=by omega
            have HQ:=Lib.hid (show i≤q∧q<m∧lo≤q by omega)
            clear hx hy hb hrs h3 h2 hlt hq
            go_wp2_with fail
            clear hqi w1 w2
            refine region_plan (S:=fun w':World=>w'.rangeAt b (o+m*31) (askCells x)∧w'.rangeAt b (o+q*31) (askCells y))
              ((0,true)::(1,true)::(2,true)::(3,true)::(4,true)::(5,true)::(6,true)::(7,true)::(8,true)::(9,false)::(10,true)::(11,true)::[])
              (by kernel_rfl) (by kernel_rfl) (by kernel_rfl) (by kernel_rfl) (fun _ _ _ dst _ h=>by cases dst<;>exact h) ⟨RX,RY⟩ (fun hH=>?_)
            clear hH
            iterate 4 (refine plan_take (v:=?_) (by (simp only [ga1,ga2,ga3];exact rfl)) (by rfl) ?_ ?_;rotate_left;(focus (intro wS hS;(try dsimp only at hS);go_split_ands;go_simp;(try with_reducible rfl)));simp only [Act.put,pu1,pu2,pu3])
            refine plan_take (v:=.agg (askArr x)) (by (simp only [ga1,ga2,ga3];exact rfl)) (by rfl) (fun wS hS=>exec_load_mid 55 (Operand.tmp 95) rfl b _ rfl (askCells x) _ hS.1 Tryz.underlying55 rfl (by exact Tryz.size55)) ?_
            (try simp only [Act.put,pu1,pu2,pu3])
            iterate 3 (refine plan_take (v:=?_) (by (simp only [ga1,ga2,ga3];exact rfl)) (by rfl) ?_ ?_;rotate_left;(focus (intro wS hS;(try dsimp only at hS);go_split_ands;go_simp;(try with_reducible rfl)));simp only [Act.put,pu1,pu2,pu3])
            refine plan_take (v:=.agg (askArr y)) (by (simp only [ga1,ga2,ga3];exact rfl)) (by rfl) (fun wS hS=>exec_load_mid 55 (Operand.tmp 99) rfl b _ rfl (askCells y) _ hS.2 Tryz.underlying55 rfl (by exact Tryz.size55)) ?_
            (try simp only [Act.put,pu1,pu2,pu3])
            (refine plan_solo (by (simp only [ga1,ga2,ga3];exact rfl)) (by rfl) ?_;intro K hK;go_simp)
            refine (HCM.out _).mono ?_
            rintro e w5 ⟨rfl,hb5⟩
            have B5:Below wr.heap.size wr w5:=(Below.refl _ wr).drew.trans hb5
            refine hK.out _ _ ⟨range_kept RX B5 HRS.out.lt,range_kept RY B5 HRS.out.lt⟩ (fun hH=>?_)
            clear hK K hH hb5
            (try simp only [Act.put,pu1,pu2,pu3])
            (repeat (first | (refine plan_take (v:=?_) (by (simp only [ga1,ga2,ga3];exact rfl)) (by rfl) ?_ ?_;rotate_left;(focus (intro wS hS;(try dsimp only at hS);go_split_ands;go_simp;(try with_reducible rfl)));simp only [Act.put,pu1,pu2,pu3]) | (refine plan_skip (by (simp only [ga1,ga2,ga3];exact rfl)) (by rfl) ?_;simp only [Act.put,pu1,pu2,pu3])))
            refine plan_nil ?_
            have HB5:=Lib.hid (HBB.out.trans (B5.mono HBB.out.size))
            clear RX RY B5 HBB
            go_wp2_with fail
            go_roundw
            case rel =>
              obtain ⟨a1,a2,a3⟩:=HQ.out
              first | exact ⟨q+1,by omega,by omega,rfl,rfl,HB5.out⟩ | ((repeat apply Exists.intro);refine ⟨?_,rfl⟩;exact ⟨q+1,by omega,by omega,rfl,rfl,HB5.out⟩)
            case measure=>have:=HQ.out;simp [intOf];omega
          · have him':i=m:=by omega
            have kl:¬ (i:Int)<(m:Int):=by omega
            have HB:=Lib.hid hb
            subst him'
            clear hb
            go_wp2_with fail
            go_loopw [17] (fun (v:Value) (W:World)=>v=.int .i64 (i:Nat)∧Below w.heap.size w W) (fun _ _=>0)
            case atStart=>exact ⟨rfl,HB.out⟩
            case round =>
              obtain ⟨rfl,hb⟩:=hrel
              have HB:=Lib.hid hb
              clear hb
              go_wp2_with fail
              exact body_ret_none rfl rfl ⟨rfl,HB.out⟩
      · obtain ⟨dh,hdh⟩:∃ dh,hi - m=dh:=⟨_,rfl⟩
        have d3:IntKind.i64.wrap ((hi:Int) - (m:Int))=(dh:Int):=(IntWalk.i64_in _ (by omega)).trans (by omega)
        have d4:((dh:Int) == 1)=false:=by simp;omega
        obtain ⟨mid,hmid⟩:∃ mid,(lo+hi) / 2=mid:=⟨_,rfl⟩
        have v1:IntKind.i64.wrap ((lo:Int)+(hi:Int))=(lo:Int)+(hi:Int):=IntWalk.i64_in _ (by omega)
        have v2:IntKind.u64.wrap ((lo:Int)+(hi:Int))=(lo:Int)+(hi:Int):=by rw [IntKind.wrap_u64];omega
        have v3:((lo:Int)+(hi:Int)) / 2=(mid:Int):=by omega
        obtain ⟨n,hn⟩:∃ n,mid+m=n:=⟨_,rfl⟩
        have v4:IntKind.i64.wrap ((mid:Int)+(m:Int))=(n:Int):=(IntWalk.i64_in _ (by omega)).trans (by omega)
        obtain ⟨p,hp⟩:∃ p,n=p+1:=⟨n - 1,by omega⟩
        have v5:IntKind.i64.wrap ((n:Int) - 1)=(p:Int):=(IntWalk.i64_in _ (by omega)).trans (by omega)
        have ml:lo<mid:=by omega
        have mh:mid<hi:=by omega
        have mb:mid≤1000:=by omega
        by_cases hmm:mid<m
        · have km:(mid:Int)<(m:Int):=by omega
          obtain ⟨s0,hs0⟩:∃ s0,n - hi=s0:=⟨_,rfl⟩
          have v6:IntKind.i64.wrap ((n:Int) - (hi:Int))=(s0:Int):=(IntWalk.i64_in _ (by omega)).trans (by omega)
          have HF:=Lib.hid (show n=mid+m∧n=p+1∧n=s0+hi∧s0≤mid by omega)
          have HG:=Lib.hid (show lo<mid∧mid<m∧m<hi∧hi≤l.length∧hi - lo≤fuel+1 by omega)
          have e1:IntKind.i64.wrap ((n:Int) - (mid:Int))=(m:Int):=(IntWalk.i64_in _ (by omega)).trans (by omega)
          clear c1 c2 h1 h2 h3 hf hdm hdh hmid hn hp hs0 ml mh hmm
          go_enter Tryz.func108,Tryz.ntmps108
          go_wp2_with fail
          clear d1 d2 d3 d4 v1 v2 v3 v4
          go_loopw [20,21,23] (fun (sv rv cv:Value) (W:World)=>∃ s:Nat,s0≤s∧s≤mid∧sv=.int .i64 (s:Nat)∧rv=.int .i64 (mid:Nat)∧Below w.heap.size w W) (fun v _ _ _=>mid - (intOf v).toNat)
          case atStart=>exact ⟨s0,Nat.le_refl _,by have:=HF.out;have:=HG.out;omega,rfl,rfl,Below.refl _ _⟩
          case round =>
            obtain ⟨s,hls,hsr,rfl,rfl,hb⟩:=hrel
            by_cases hlt:s<mid
            · have kl:(s:Int)<(mid:Int):=by omega
              have hf:=HF.out
              have hg:=HG.out
              obtain ⟨q,hq⟩:∃ q,(s+mid) / 2=q:=⟨_,rfl⟩
              have w1:IntKind.i64.wrap ((s:Int)+(mid:Int))=(s:Int)+(mid:Int):=IntWalk.i64_in _ (by omega)
              have w2:IntKind.u64.wrap ((s:Int)+(mid:Int))=(s:Int)+(mid:Int):=by rw [IntKind.wrap_u64];omega
              have hqi:((s:Int)+(mid:Int)) / 2=(q:Int):=by omega
              obtain ⟨z,hz⟩:∃ z,p - q=z:=⟨_,rfl⟩
              have w3:IntKind.i64.wrap ((p:Int) - (q:Int))=(z:Int):=(IntWalk.i64_in _ (by omega)).trans (by omega)
              obtain ⟨x,hx⟩:=get_lt (show z<l.length by omega)
              obtain ⟨y,hy⟩:=get_lt (show q<l.length by omega)
              have hrs:=HS.out.kept hb
              have RX:=hrs.at' z x hx
              have RY:=hrs.at' q y hy
              have HCM:=Lib.hid (mod_cmp68 x y (hrs.rise q z y x hy hx (by omega)))
              have HRS:=Lib.hid hrs
              have HBB:=Lib.hid hb
              have zl:(z:Int)<(l.length:Int):=by omega
              have ql:(q:Int)<(l.length:Int):=by omega
              have HQ:=Lib.hid (show s≤q∧q<mid∧s0≤q by omega)
              clear hx hy hb hrs hf hg hlt hq hz
              go_wp2_with fail
              clear hqi w1 w2
              refine region_plan (S:=fun w':World=>w'.rangeAt b (o+z*31) (askCells x)∧w'.rangeAt b (o+q*31) (askCells y))
                ((0,true)::(1,true)::(2,true)::(3,true)::(4,true)::(5,true)::(6,true)::(7,true)::(8,true)::(9,true)::(10,true)::(11,false)::(12,true)::(13,true)::[])
                (by kernel_rfl) (by kernel_rfl) (by kernel_rfl) (by kernel_rfl) (fun _ _ _ dst _ h=>by cases dst<;>exact h) ⟨RX,RY⟩ (fun hH=>?_)
              clear hH
              iterate 6 (refine plan_take (v:=?_) (by (simp only [ga1,ga2,ga3];exact rfl)) (by rfl) ?_ ?_;rotate_left;(focus (intro wS hS;(try dsimp only at hS);go_split_ands;go_simp;(try with_reducible rfl)));simp only [Act.put,pu1,pu2,pu3])
              refine plan_take (v:=.agg (askArr x)) (by (simp only [ga1,ga2,ga3];exact rfl)) (by rfl) (fun wS hS=>exec_load_mid 55 (Operand.tmp 163) rfl b _ rfl (askCells x) _ hS.1 Tryz.underlying55 rfl (by exact Tryz.size55)) ?_
              (try simp only [Act.put,pu1,pu2,pu3])
              iterate 3 (refine plan_take (v:=?_) (by (simp only [ga1,ga2,ga3];exact rfl)) (by rfl) ?_ ?_;rotate_left;(focus (intro wS hS;(try dsimp only at hS);go_split_ands;go_simp;(try with_reducible rfl)));simp only [Act.put,pu1,pu2,pu3])
              refine plan_take (v:=.agg (askArr y)) (by (simp only [ga1,ga2,ga3];exact rfl)) (by rfl) (fun wS hS=>exec_load_mid 55 (Operand.tmp 167) rfl b _ rfl (askCells y) _ hS.2 Tryz.underlying55 rfl (by exact Tryz.size55)) ?_
              (try simp only [Act.put,pu1,pu2,pu3])
              (refine plan_solo (by (simp only [ga1,ga2,ga3];exact rfl)) (by rfl) ?_;intro K hK;go_simp)
              refine (HCM.out _).mono ?_
              rintro e w5 ⟨rfl,hb5⟩
              have B5:Below wr.heap.size wr w5:=(Below.refl _ wr).drew.trans hb5
              refine hK.out _ _ ⟨range_kept RX B5 HRS.out.lt,range_kept RY B5 HRS.out.lt⟩ (fun hH=>?_)
              clear hK K hH hb5
              (try simp only [Act.put,pu1,pu2,pu3])
              (repeat (first | (refine plan_take (v:=?_) (by (simp only [ga1,ga2,ga3];exact rfl)) (by rfl) ?_ ?_;rotate_left;(focus (intro wS hS;(try dsimp only at hS);go_split_ands;go_simp;(try with_reducible rfl)));simp only [Act.put,pu1,pu2,pu3]) | (refine plan_skip (by (simp only [ga1,ga2,ga3];exact rfl)) (by rfl) ?_;simp only [Act.put,pu1,pu2,pu3])))
              refine plan_nil ?_
              have HB5:=Lib.hid (HBB.out.trans (B5.mono HBB.out.size))
              clear RX RY B5 HBB
              go_wp2_with fail
              go_roundw
              case rel =>
                obtain ⟨a1,a2,a3⟩:=HQ.out
                exact ⟨q+1,by omega,by omega,rfl,rfl,HB5.out⟩
              case measure=>have:=HQ.out;simp [intOf];omega
            · have km2:=HG.out
              have g1:(mid:Int)<(m:Int):=by omega
              have g2:(lo:Int)<(mid:Int):=by omega
              have g3:(m:Int)<(hi:Int):=by omega
              have hsm:s=mid:=by omega
              have kl:¬ (s:Int)<(mid:Int):=by omega
              subst hsm
              have hb':=hb
              have HB:=Lib.hid hb
              have HIH:=Lib.hid (IH.out s m hi (by omega) (by omega) (by omega) (by omega) wr (HS.out.kept hb))
              clear hb hb' km2
              go_wp2_with fail
              refine HIH.out.mono ?_
              rintro e w5 ⟨rfl,hb5⟩
              have HB5:=Lib.hid (HB.out.trans (hb5.mono HB.out.size))
              clear hb5 HIH
              go_wp2_with fail
              exact body_none rfl rfl ⟨rfl,HB5.out⟩
        · have km:¬ (mid:Int)<(m:Int):=by omega
          have HF:=Lib.hid (show n=mid+m∧n=p+1∧m≤mid∧2*mid≤lo+hi by omega)
          have HG:=Lib.hid (show lo<mid∧lo<m∧m<hi∧mid<hi∧hi≤l.length∧hi - lo≤fuel+1 by omega)
          have e1:IntKind.i64.wrap ((n:Int) - (m:Int))=(mid:Int):=(IntWalk.i64_in _ (by omega)).trans (by omega)
          clear c1 c2 h1 h2 h3 hf hdm hdh hmid hn hp ml mh hmm
          go_enter Tryz.func108,Tryz.ntmps108
          go_wp2_with fail
          clear d1 d2 d3 d4 v1 v2 v3 v4
          go_loopw [20,21,23] (fun (sv rv cv:Value) (W:World)=>∃ s:Nat,lo≤s∧s≤m∧sv=.int .i64 (s:Nat)∧rv=.int .i64 (m:Nat)∧Below w.heap.size w W) (fun v _ _ _=>m - (intOf v).toNat)
          case atStart=>exact ⟨lo,Nat.le_refl _,by have:=HF.out;have:=HG.out;omega,rfl,rfl,Below.refl _ _⟩
          case round =>
            obtain ⟨s,hls,hsr,rfl,rfl,hb⟩:=hrel
            by_cases hlt:s<m
            · have kl:(s:Int)<(m:Int):=by omega
              have hf:=HF.out
              have hg:=HG.out
              obtain ⟨q,hq⟩:∃ q,(s+m) / 2=q:=⟨_,rfl⟩
              have w1:IntKind.i64.wrap ((s:Int)+(m:Int))=(s:Int)+(m:Int):=IntWalk.i64_in _ (by omega)
              have w2:IntKind.u64.wrap ((s:Int)+(m:Int))=(s:Int)+(m:Int):=by rw [IntKind.wrap_u64];omega
              have hqi:((s:Int)+(m:Int)) / 2=(q:Int):=by omega
              obtain ⟨z,hz⟩:∃ z,p - q=z:=⟨_,rfl⟩
              have w3:IntKind.i64.wrap ((p:Int) - (q:Int))=(z:Int):=(IntWalk.i64_in _ (by omega)).trans (by omega)
              obtain ⟨x,hx⟩:=get_lt (show z<l.length by omega)
              obtain ⟨y,hy⟩:=get_lt (show q<l.length by omega)
              have hrs:=HS.out.kept hb
              have RX:=hrs.at' z x hx
              have RY:=hrs.at' q y hy
              have HCM:=Lib.hid (mod_cmp68 x y (hrs.rise q z y x hy hx (by omega)))
              have HRS:=Lib.hid hrs
              have HBB:=Lib.hid hb
              have zl:(z:Int)<(l.length:Int):=by omega
              have ql:(q:Int)<(l.length:Int):=by omega
              have HQ:=Lib.hid (show s≤q∧q<m∧lo≤q by omega)
              clear hx hy hb hrs hf hg hlt hq hz
              go_wp2_with fail
              clear hqi w1 w2
              refine region_plan (S:=fun w':World=>w'.rangeAt b (o+z*31) (askCells x)∧w'.rangeAt b (o+q*31) (askCells y))
                ((0,true)::(1,true)::(2,true)::(3,true)::(4,true)::(5,true)::(6,true)::(7,true)::(8,true)::(9,true)::(10,true)::(11,false)::(12,true)::(13,true)::[])
                (by kernel_rfl) (by kernel_rfl) (by kernel_rfl) (by kernel_rfl) (fun _ _ _ dst _ h=>by cases dst<;>exact h) ⟨RX,RY⟩ (fun hH=>?_)
              clear hH
              iterate 6 (refine plan_take (v:=?_) (by (simp only [ga1,ga2,ga3];exact rfl)) (by rfl) ?_ ?_;rotate_left;(focus (intro wS hS;(try dsimp only at hS);go_split_ands;go_simp;(try with_reducible rfl)));simp only [Act.put,pu1,pu2,pu3])
              refine plan_take (v:=.agg (askArr x)) (by (simp only [ga1,ga2,ga3];exact rfl)) (by rfl) (fun wS hS=>exec_load_mid 55 (Operand.tmp 163) rfl b _ rfl (askCells x) _ hS.1 Tryz.underlying55 rfl (by exact Tryz.size55)) ?_
              (try simp only [Act.put,pu1,pu2,pu3])
              iterate 3 (refine plan_take (v:=?_) (by (simp only [ga1,ga2,ga3];exact rfl)) (by rfl) ?_ ?_;rotate_left;(focus (intro wS hS;(try dsimp only at hS);go_split_ands;go_simp;(try with_reducible rfl)));simp only [Act.put,pu1,pu2,pu3])
              refine plan_take (v:=.agg (askArr y)) (by (simp only [ga1,ga2,ga3];exact rfl)) (by rfl) (fun wS hS=>exec_load_mid 55 (Operand.tmp 167) rfl b _ rfl (askCells y) _ hS.2 Tryz.underlying55 rfl (by exact Tryz.size55)) ?_
              (try simp only [Act.put,pu1,pu2,pu3])
              (refine plan_solo (by (simp only [ga1,ga2,ga3];exact rfl)) (by rfl) ?_;intro K hK;go_simp)
              refine (HCM.out _).mono ?_
              rintro e w5 ⟨rfl,hb5⟩
              have B5:Below wr.heap.size wr w5:=(Below.refl _ wr).drew.trans hb5
              refine hK.out _ _ ⟨range_kept RX B5 HRS.out.lt,range_kept RY B5 HRS.out.lt⟩ (fun hH=>?_)
              clear hK K hH hb5
              (try simp only [Act.put,pu1,pu2,pu3])
              (repeat (first | (refine plan_take (v:=?_) (by (simp only [ga1,ga2,ga3];exact rfl)) (by rfl) ?_ ?_;rotate_left;(focus (intro wS hS;(try dsimp only at hS);go_split_ands;go_simp;(try with_reducible rfl)));simp only [Act.put,pu1,pu2,pu3]) | (refine plan_skip (by (simp only [ga1,ga2,ga3];exact rfl)) (by rfl) ?_;simp only [Act.put,pu1,pu2,pu3])))
              refine plan_nil ?_
              have HB5:=Lib.hid (HBB.out.trans (B5.mono HBB.out.size))
              clear RX RY B5 HBB
              go_wp2_with fail
              go_roundw
              case rel =>
                obtain ⟨a1,a2,a3⟩:=HQ.out
                exact ⟨q+1,by omega,by omega,rfl,rfl,HB5.out⟩
              case measure=>have:=HQ.out;simp [intOf];omega
            · have km2:=HG.out
              have g2:(lo:Int)<(m:Int):=by omega
              have hsm:s=m:=by omega
              have kl:¬ (s:Int)<(m:Int):=by omega
              subst hsm
              have HB:=Lib.hid hb
              by_cases hlt2:s<mid
              · have g3:(s:Int)<(mid:Int):=by omega
                have HIH:=Lib.hid (IH.out lo s mid (by omega) (by omega) (by omega) (by omega) wr (HS.out.kept hb))
                clear hb km2 hlt2
                go_wp2_with fail
                refine HIH.out.mono ?_
                rintro e w5 ⟨rfl,hb5⟩
                have HB5:=Lib.hid (HB.out.trans (hb5.mono HB.out.size))
                clear hb5 HIH
                go_wp2_with fail
                exact body_none rfl rfl ⟨rfl,HB5.out⟩
              · have g3:¬ (s:Int)<(mid:Int):=by omega
                clear hb km2 hlt2
                go_wp2_with fail
                exact body_none rfl rfl ⟨rfl,HB.out⟩
theorem before_less:∀ a b:List UInt8,bytesBefore a b=Op.bytesLess a b
  | [],[]=>rfl
  | [],_::_=>rfl
  | _::_,[]=>rfl
  | x::a,y::b=>by
    unfold bytesBefore Op.bytesLess
    rw [before_less a b]
def sesE (s:Ses):DataW Unit:=.agg [.lit (.string s.tok.data.toList),.lit (.string s.usr.data.toList),.lit (.string s.dat.data.toList),.lit (.int .u64 (s.exp:Nat))]
def sesP (s:Ses):Lit×DataW Unit:=(klS s.tok,sesE s)
def sesD (l:List Ses):DataW Unit:=.map (l.map sesP)
def sesV (s:Ses):Value:=.agg #[.string s.tok,.string s.usr,.string s.dat,.int .u64 (s.exp:Nat)]
def RSes:Value→Option (DataW Unit×List MemPlace)
  | .agg cs=>match cs.toList with
    | [.string a,.string b,.string c,.int .u64 e]=>some (.agg [.lit (.string a.data.toList),.lit (.string b.data.toList),.lit (.string c.data.toList),.lit (.int .u64 e)],[])
    | _=>none
  | _=>none
theorem RSes_mk (s:Ses):RSes (sesV s)=some (sesE s,[]):=rfl
theorem RSes_inv {v:Value} {s:Ses} {ps:List MemPlace} (h:RSes v=some (sesE s,ps)):v=sesV s:=by
  unfold RSes at h
  split at h
  · rename_i cs
    split at h
    · rename_i a b c e hl
      simp only [Option.some.injEq,Prod.mk.injEq,sesE,DataW.agg.injEq,List.cons.injEq,DataW.lit.injEq,Lit.string.injEq,Lit.int.injEq,and_true,true_and] at h
      obtain ⟨⟨h1,h2,h3,h4⟩,_⟩:=h
      have e1:=str_ext h1
      have e2:=str_ext h2
      have e3:=str_ext h3
      subst e1 e2 e3 h4
      unfold sesV
      congr 1
      exact Array.toList_inj.1 hl
    · cases h
  · cases h
theorem same_klS (a b:ByteArray):(klS a).sameKey (klS b)=decide (a=b):=by
  unfold klS Lit.sameKey
  by_cases h:a=b
  · subst h;simp
  · have:(a.data.toList == b.data.toList)=false:=by rw [Bool.eq_false_iff];exact fun e=>h (str_ext (beq_iff_eq.1 e))
    show (a.data.toList == b.data.toList)=_
    rw [this];simp [h]
theorem sesD_at (l:List Ses) (t:ByteArray) (z:DataW Unit):(sesD l).atKey (klS t) z=match l.find? (fun s=>decide (s.tok=t)) with | some s=>sesE s | none=>z:=by
  unfold sesD DataW.atKey
  simp only
  rw [List.find?_map]
  have:(fun p:Lit×DataW Unit=>p.1.sameKey (klS t)) ∘ sesP=fun s:Ses=>decide (s.tok=t):=by
    funext s;exact same_klS _ _
  rw [this]
  cases l.find? (fun s=>decide (s.tok=t))<;>rfl
theorem sesD_has (l:List Ses) (t:ByteArray):Maps.has (sesD l) (klS t)=l.any fun s=>decide (s.tok=t):=by
  unfold sesD
  rw [Maps.has_eq,List.any_map]
  congr 1
  funext s
  exact same_klS _ _
theorem sesD_size (l:List Ses):Maps.size (sesD l)=l.length:=by
  unfold sesD
  rw [Maps.size_eq,List.length_map]
theorem sesD_filter (l:List Ses) (t:ByteArray):((l.map sesP).filter fun p=>!p.1.sameKey (klS t))=(l.filter fun s=>!decide (s.tok=t)).map sesP:=by
  rw [List.filter_map]
  congr 1
  congr 1
  funext s
  show (!(klS s.tok).sameKey (klS t))=_
  rw [same_klS]
theorem sesD_del (l:List Ses) (t:ByteArray):(sesD l).del (klS t)=sesD (l.filter fun s=>!decide (s.tok=t)):=by
  unfold sesD DataW.del
  simp only
  rw [sesD_filter]
theorem before_klS (a b:ByteArray):(klS a).before (klS b)=true↔SLt a b:=by
  unfold klS Lit.before SLt
  simp only
  rw [before_less]
theorem insert_insN {s:Ses}:∀ {l:List Ses},(∀ x∈l,x.tok≠s.tok)→DataW.insert (sesP s) (l.map sesP)=(insN s l).map sesP
  | [],_=>rfl
  | x::l,h=>by
    have ih:=insert_insN (s:=s) (l:=l) (fun y hy=>h y (List.mem_cons_of_mem _ hy))
    have hx:=h x (List.mem_cons_self ..)
    rw [List.map_cons]
    unfold DataW.insert insN
    by_cases hlt:SLt x.tok s.tok
    · rw [if_pos hlt]
      have hn:¬ (klS s.tok).before (klS x.tok)=true:=fun hb=>SLt.irrefl _ (((before_klS _ _).1 hb).trans hlt)
      rw [if_neg (show ¬ (sesP s).1.before (sesP x).1=true from hn),ih]
      rfl
    · rw [if_neg hlt]
      have hb:(klS s.tok).before (klS x.tok)=true:=(before_klS _ _).2 (by
        rcases SLt.total x.tok s.tok with h1 | h1 | h1
        · exact absurd h1 hlt
        · exact absurd h1 hx
        · exact h1)
      rw [if_pos (show (sesP s).1.before (sesP x).1=true from hb)]
      rfl
theorem sesD_put (l:List Ses) (s:Ses):(sesD l).put (klS s.tok) (sesE s)=sesD (insN s (l.filter fun x=>!decide (x.tok=s.tok))):=by
  unfold sesD DataW.put
  simp only
  rw [sesD_filter]
  congr 1
  exact insert_insN (fun x hx=>by
    rw [List.mem_filter] at hx
    simpa using hx.2)
end Go.Proofs.YtmdgeknnhckgfaaGreatDoor
namespace Go.Proofs.YtmdgeknnhckgfaaGreatDoor
open Go Go.RowKit
def SMap (w:World) (b n:Nat) (l:List Ses):Prop:=w.ownsMap Tryz.prog 9 RSes b n (sesD l)
def Ses.zero:Ses:=⟨⟨#[]⟩,⟨#[]⟩,⟨#[]⟩,0⟩
def getS (l:List Ses) (t:ByteArray):Ses:=(l.find? fun s=>decide (s.tok=t)).getD Ses.zero
def hasS (l:List Ses) (t:ByteArray):Bool:=l.any fun s=>decide (s.tok=t)
variable {w:World} {b n:Nat} {l:List Ses}
theorem sesD_get (l:List Ses) (t:ByteArray):(sesD l).atKey (klS t) (sesE Ses.zero)=sesE (getS l t):=by
  rw [sesD_at]
  unfold getS
  cases l.find? (fun s=>decide (s.tok=t))<;>rfl
theorem SMap.look_ok (h:SMap w b n l) (t:ByteArray) (ht:t.size≤maxLen):(Instr.lookup 122 (.map (some b)) (.string t) true).run Tryz.prog w=.ok (.tuple #[sesV (getS l t),.bool (hasS l t)]) w:=by
  obtain ⟨v,ps,hrun,hv⟩:=World.ownsMap.look_ok h Tryz.mapSB.K Tryz.underlying122 (Tryz.zeroValue90 w) (RSes_mk Ses.zero) (Tryz.mapSB.key t ht)
  rw [sesD_get] at hv
  rw [sesD_has] at hrun
  rw [show Value.string t=kvS t from rfl,hrun,RSes_inv hv]
  rfl
theorem SMap.look (h:SMap w b n l) (t:ByteArray) (ht:t.size≤maxLen):(Instr.lookup 122 (.map (some b)) (.string t) false).run Tryz.prog w=.ok (sesV (getS l t)) w:=by
  obtain ⟨v,ps,hrun,hv⟩:=World.ownsMap.lookup h Tryz.mapSB.K Tryz.underlying122 (Tryz.zeroValue90 w) (RSes_mk Ses.zero) (Tryz.mapSB.key t ht)
  rw [sesD_get] at hv
  rw [show Value.string t=kvS t from rfl,hrun,RSes_inv hv]
theorem SMap.put (h:SMap w b n l) (hn:n<maxLen) (s:Ses) (ht:s.tok.size≤maxLen) :
    ∃ w',(Instr.mapUpdate 122 (.map (some b)) (.string s.tok) (sesV s)).run Tryz.prog w=.ok () w'∧SMap w' b (n+1) (insN s (l.filter fun x=>!decide (x.tok=s.tok)))∧w.mapTurned w' b:=by
  obtain ⟨w',hrun,h1,h2⟩:=World.ownsMap.store h Tryz.mapSB.K Tryz.underlying122 hn (Tryz.mapSB.key s.tok ht) (RSes_mk s)
  rw [sesD_put] at h1
  exact ⟨w',hrun,h1,h2⟩
theorem SMap.drop (h:SMap w b n l) (t:ByteArray) (ht:t.size≤maxLen) (ty:TypeId) :
    ∃ w',(Builtin.delete_ #[122,9] ty #[.map (some b),.string t]).run Tryz.prog w=.ok (.tuple #[]) w'∧SMap w' b n (l.filter fun x=>!decide (x.tok=t))∧w.mapTurned w' b:=by
  obtain ⟨w',hrun,h1,h2⟩:=World.ownsMap.drop h Tryz.mapSB.K Tryz.underlying122 (Tryz.mapSB.key t ht) ty
  rw [sesD_del] at h1
  exact ⟨w',hrun,h1,h2⟩
theorem SMap.len (h:SMap w b n l) (ty:TypeId):(Builtin.len_ #[122] ty #[.map (some b)]).run Tryz.prog w=.ok (.int .i64 l.length) w:=by
  have:=World.ownsMap.len h Tryz.underlying122 ty
  rw [sesD_size] at this
  exact this
theorem SMap.lt (h:SMap w b n l):b<w.heap.size:=World.ownsMap.lt h
theorem SMap.block {w':World} (h:SMap w b n l) (e:w'.heap[b]?=w.heap[b]?):SMap w' b n l:=by
  obtain ⟨es,clock,hb,r⟩:=h
  exact ⟨es,clock,e.trans hb,r⟩
theorem SMap.kept {w':World} (h:SMap w b n l) (hb:Below w.heap.size w w'):SMap w' b n l:=h.block (hb.block b h.lt)
theorem SMap.made (w:World):SMap (w.alloc (.map #[] 0)) w.heap.size 0 []:=World.ownsMap_made w Tryz.prog 9 RSes
end Go.Proofs.YtmdgeknnhckgfaaGreatDoor
