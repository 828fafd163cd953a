/-
  Parts of the proof of the law LinModel: Num, Plan, Row.
-/
import Derived.Test.YtmdgeknnhckgfaaGreatDoorS00
import Derived.Lib.ConvBytes
import Derived.OrdersHeld
import Derived.Deep.RegionHeld
import Derived.Laws.Rows
import Derived.Laws.Tables
set_option linter.unusedSimpArgs false
set_option linter.unusedVariables false
namespace Go.Proofs.YtmdgeknnhckgfaaGreatDoor
open Go Go.RowKit
theorem Tryz.infoByte:(Tryz.prog.info? 5).map (fun i=>(i.zero,i.size,i.bytes))=some (some (.int .u8 0),1,1):=by kernel_rfl
def varN (n:Nat):List UInt8:=if h:n<128 then [UInt8.ofNat n] else UInt8.ofNat (n % 128+128)::varN (n / 128)
termination_by n
decreasing_by exact Nat.div_lt_self (by omega) (by decide)
theorem varN_lt {n:Nat} (h:n<128):varN n=[UInt8.ofNat n]:=by rw [varN];simp [h]
theorem varN_ge {n:Nat} (h:¬ n<128):varN n=UInt8.ofNat (n % 128+128)::varN (n / 128):=by rw [varN];simp [h]
theorem varN_len:∀ (k n:Nat),n<128 ^ (k+1)→(varN n).length≤k+1:=by
  intro k
  induction k with
  | zero=>intro n h;rw [varN_lt (by simpa using h)];simp
  | succ k ih =>
    intro n h
    by_cases hn:n<128
    · rw [varN_lt hn];simp
    · rw [varN_ge hn]
      have:=ih (n / 128) (Nat.div_lt_of_lt_mul (by rw [Nat.pow_succ] at h;rw [Nat.mul_comm];exact h))
      simp;omega
theorem or128:∀ n:Fin 256,bits .or .u8 (n.val:Int) 128=((n.val % 128+128:Nat):Int):=by decide +kernel
theorem varN_or {m:Nat}:bits .or .u8 ((m:Int) % 256) 128=((UInt8.ofNat (m % 128+128)).toNat:Int):=by
  have h1:(m:Int) % 256=((m % 256:Nat):Int):=by simp
  have h2:=or128 ⟨m % 256,Nat.mod_lt _ (by decide)⟩
  rw [h1,h2]
  simp only [UInt8.toNat_ofNat']
  omega
def VarRel (w:World) (n:Nat) (t b:Value) (W:World):Prop :=
  ∃ (m:Nat) (pre:List UInt8),pre++varN m=varN n∧m<18446744073709551616∧t=.int .u64 m∧W.ownsRow w.heap.size 5 1 b pre.length (bv pre)∧Below w.heap.size w W
set_option maxRecDepth 100000 in
set_option maxHeartbeats 1000000 in
theorem varint_spec (n:Nat) (hn:n<18446744073709551616) (w:World) :
    Calls Tryz.prog 141 #[.int .u64 n] w fun e w'=>∃ A c,e=.returned (.slice (some A) (varN n).length c)∧w'.ownsRow w.heap.size 5 1 (.slice (some A) (varN n).length c) (varN n).length (bv (varN n))∧Below w.heap.size w w':=by
  obtain ⟨i0,hi,hz0,hz1,hz2⟩:=info_parts Tryz.infoByte
  have HL:=Lib.hid (varN_len 9 n (by omega))
  go_enter Tryz.func141,Tryz.ntmps141
  go_wp2_with fail
  go_loopw [0,3] (VarRel w n) (fun t _ _=>(intOf t).toNat)
  case atStart=>exact ⟨n,[],rfl,hn,rfl,World.ownsRow_nil _ _ _ _,Below.refl _ _⟩
  case round =>
    obtain ⟨m,pre,hpre,hm,rfl,hown,hb⟩:=hrel
    have hlen:=congrArg List.length hpre
    rw [List.length_append] at hlen
    have h10:=HL.out
    have q2:w.heap.size≤wr.heap.size+1:=by have:=hb.size;omega
    by_cases hlt:m<128
    · have hle:¬ (128:Int)≤(m:Int):=by omega
      have HV:=Lib.hid (show (m:Int)=((UInt8.ofNat m).toNat:Int) by simp only [UInt8.toNat_ofNat'];omega)
      have hv1:=varN_lt hlt
      rw [hv1] at hpre hlen
      simp only [List.length_cons,List.length_nil] at hlen
      have p1:pre.length+1≤maxLen:=by unfold maxLen;omega
      have p2:(pre.length+1)*1≤140737488355328:=by omega
      have HP:=Lib.hid hpre
      have HLN:=Lib.hid hlen
      clear hv1 hpre hlen h10
      go_wp2_with (at_builtin;refine wpList_append_row rfl _ _ 123 rfl w.heap.size 5 i0 (.int .u8 0) 1 1 Tryz.underlying123 hi hz0 hz1 hz2 rfl (by decide) _ _ _ rfl (hown.alloc _) ⟨wr.heap.size,0,none⟩ 1 1 [.int .u8 (m:Int)] rfl rfl (cell_one_new _ _ _) (by simp [Value.oneCell']) p1 p2 (by rw [World.size_alloc];exact q2) ?_)
      intro v' w1 own1 hgr hfr
      have hb1:Below w.heap.size w w1:=(hb.alloc hb.size _).grown hgr (by rw [World.size_alloc];exact q2) (fun j hj=>(hown.lt j hj).1)
      obtain ⟨A',cap',e⟩:∃ A' cap',v'=.slice (some A') (pre.length+1) cap':=by
        rcases own1.2 with ⟨h1,h2⟩ | ⟨g,cap',cur,h1,_⟩
        · omega
        · exact ⟨_,_,h1⟩
      subst e
      rw [HV.out] at own1
      go_wp2_with fail
      go_ret
      refine ⟨A',cap',by rw [←HLN.out];rfl,?_,hb1⟩
      rw [←HP.out,bv_append,List.length_append]
      exact own1
    · have hle:(128:Int)≤(m:Int):=by omega
      have HV:=Lib.hid (varN_or (m:=m))
      have hv1:=varN_ge hlt
      rw [hv1] at hpre hlen
      simp only [List.length_cons] at hlen
      have p1:pre.length+1≤maxLen:=by unfold maxLen;omega
      have p2:(pre.length+1)*1≤140737488355328:=by omega
      have HP:=Lib.hid hpre
      clear hv1 hpre hlen h10
      go_wp2_with (at_builtin;refine wpList_append_row rfl _ _ 123 rfl w.heap.size 5 i0 (.int .u8 0) 1 1 Tryz.underlying123 hi hz0 hz1 hz2 rfl (by decide) _ _ _ rfl (hown.alloc _) ⟨wr.heap.size,0,none⟩ 1 1 [.int .u8 (bits .or .u8 ((m:Int) % 256) 128)] rfl rfl (cell_one_new _ _ _) (by simp [Value.oneCell']) p1 p2 (by rw [World.size_alloc];exact q2) ?_)
      intro v' w1 own1 hgr hfr
      have hb1:Below w.heap.size w w1:=(hb.alloc hb.size _).grown hgr (by rw [World.size_alloc];exact q2) (fun j hj=>(hown.lt j hj).1)
      rw [HV.out] at own1
      go_wp2_with fail
      go_roundw
      case rel =>
        refine ⟨m / 128,pre++[UInt8.ofNat (m % 128+128)],by rw [←HP.out];simp,by omega,?_,?_,hb1⟩
        · rfl
        · rw [bv_append,List.length_append];exact own1
      case measure =>
        show ((m:Int) / 128).toNat<(m:Int).toNat
        omega
theorem own_src {w:World} {B e k n c:Nat} {A:Addr} {xs:List Value} (h:w.ownsRow B e k (.slice (some A) n c) n xs):∀ j u,xs[j]?=some u→w.cell? (A.add j)=some u:=by
  rcases h.2 with ⟨h1,_⟩ | ⟨g,cap',cur,h1,_⟩
  · cases h1
  · cases h1
    exact h.cells rfl
theorem bytes_below (w:World) (s:ByteArray):Below w.heap.size w (Lib.bytesWorld w 5 s) :=
  ⟨rfl,rfl,rfl,by rw [Lib.bytesWorld_size];omega,fun k hk=>Lib.bytesWorld_at_old w 5 s k hk⟩
theorem make_bytes (k:Nat) (hk:k≤1000) (w:World):(Instr.makeSlice 123 (.int .i64 k) (.int .i64 k)).run Tryz.prog w=.ok (.slice (some ⟨w.heap.size,0,none⟩) k k) (w.alloc (.cells (madeCells #[.int .u8 0] k) 5)):=by
  obtain ⟨i0,hi,hz0,hz1,hz2⟩:=info_parts Tryz.infoByte
  have:=run_makeSlice (P:=Tryz.prog) w 123 5 i0 _ Tryz.underlying123 hi hz0 .i64 .i64 k k (by omega) (by omega) (by rw [hz1];simp;omega) (by rw [hz2];omega) (by omega)
  rw [this,hz1]
  simp [Value.cells]
theorem conv_own {w:World} {B n:Nat} {v:Value} {l:List UInt8} (hown:w.ownsRow B 5 1 v n (bv l)):(convert 123 9 v).run Tryz.prog w=.ok (.string ⟨l.toArray⟩) w:=by
  have hl:l.length=n:=by have:=hown.1;rw [bv_len] at this;omega
  obtain ⟨A,cap,rfl⟩:=(Reads.of_own hown).form
  rcases hown.2 with ⟨h1,h2⟩ | ⟨g,cap',cur,h1,_⟩
  · cases h1
    have:l=[]:=List.eq_nil_of_length_eq_zero (by omega)
    subst this
    have:=run_convert_bytes_nil (P:=Tryz.prog) w 123 5 Tryz.underlying123 Tryz.underlying5 0 0 9 Tryz.underlying9
    exact this
  · cases h1
    have:=run_convert_bytes_arg (P:=Tryz.prog) w 123 5 Tryz.underlying123 Tryz.underlying5 g 0 n cap (l.map fun b=>(b.toNat:Int)) (by simpa using hl) (fun i hi=>by
      have:=hown.cells rfl i (.int .u8 ((l[i]'(by omega)).toNat:Int)) (by simp [bv,hl,hi])
      rw [add_at rfl] at this
      simpa [hl,hi,List.getD] using this) 9 Tryz.underlying9
    have hs:strOfNums (l.map fun b=>(b.toNat:Int))=⟨l.toArray⟩:=by
      unfold strOfNums
      rw [List.map_map]
      have h1:((fun n:Int=>UInt8.ofNat n.toNat) ∘ fun b:UInt8=>(b.toNat:Int))=id:=by funext b;simp
      rw [h1,List.map_id]
    rw [this,hs]
theorem varN_mod {m:Nat}:((m:Int) % 128+128)=((UInt8.ofNat (m % 128+128)).toNat:Int):=by
  simp only [UInt8.toNat_ofNat']
  omega
set_option maxRecDepth 100000 in
set_option maxHeartbeats 1000000 in
theorem ref_varint (n:Nat) (hn:n<18446744073709551616) (w:World) :
    Calls Tryz.prog 80 #[.int .u64 n] w fun e w'=>e=.returned (.string ⟨(varN n).toArray⟩)∧Below w.heap.size w w':=by
  obtain ⟨i0,hi,hz0,hz1,hz2⟩:=info_parts Tryz.infoByte
  have HL:=Lib.hid (varN_len 9 n (by omega))
  go_enter Tryz.func80,Tryz.ntmps80
  go_wp2_with fail
  go_loopw [0,3] (VarRel w n) (fun t _ _=>(intOf t).toNat)
  case atStart=>exact ⟨n,[],rfl,hn,rfl,World.ownsRow_nil _ _ _ _,Below.refl _ _⟩
  case round =>
    obtain ⟨m,pre,hpre,hm,rfl,hown,hb⟩:=hrel
    have hlen:=congrArg List.length hpre
    rw [List.length_append] at hlen
    have h10:=HL.out
    have q2:w.heap.size≤wr.heap.size+1:=by have:=hb.size;omega
    by_cases hlt:m<128
    · have hle:¬ (128:Int)≤(m:Int):=by omega
      have HV:=Lib.hid (show (m:Int)=((UInt8.ofNat m).toNat:Int) by simp only [UInt8.toNat_ofNat'];omega)
      have hv1:=varN_lt hlt
      rw [hv1] at hpre hlen
      simp only [List.length_cons,List.length_nil] at hlen
      have p1:pre.length+1≤maxLen:=by unfold maxLen;omega
      have p2:(pre.length+1)*1≤140737488355328:=by omega
      have HP:=Lib.hid hpre
      have HLN:=Lib.hid hlen
      clear hv1 hpre hlen h10
      go_wp2_with (at_builtin;refine wpList_append_row rfl _ _ 123 rfl w.heap.size 5 i0 (.int .u8 0) 1 1 Tryz.underlying123 hi hz0 hz1 hz2 rfl (by decide) _ _ _ rfl (hown.alloc _) ⟨wr.heap.size,0,none⟩ 1 1 [.int .u8 (m:Int)] rfl rfl (cell_one_new _ _ _) (by simp [Value.oneCell']) p1 p2 (by rw [World.size_alloc];exact q2) ?_)
      intro v' w1 own1 hgr hfr
      have hb1:Below w.heap.size w w1:=(hb.alloc hb.size _).grown hgr (by rw [World.size_alloc];exact q2) (fun j hj=>(hown.lt j hj).1)
      rw [HV.out] at own1
      have own2:w1.ownsRow w.heap.size 5 1 v' (pre.length+1) (bv (varN n)):=by rw [←HP.out,bv_append];exact own1
      have hcv:=conv_own own2
      clear own1 own2 hgr hfr
      go_wp2_with fail
      go_ret
      exact ⟨rfl,hb1⟩
    · have hle:(128:Int)≤(m:Int):=by omega
      have HV:=Lib.hid (varN_mod (m:=m))
      have hv1:=varN_ge hlt
      rw [hv1] at hpre hlen
      simp only [List.length_cons] at hlen
      have p1:pre.length+1≤maxLen:=by unfold maxLen;omega
      have p2:(pre.length+1)*1≤140737488355328:=by omega
      have HP:=Lib.hid hpre
      clear hv1 hpre hlen h10
      go_wp2_with (at_builtin;refine wpList_append_row rfl _ _ 123 rfl w.heap.size 5 i0 (.int .u8 0) 1 1 Tryz.underlying123 hi hz0 hz1 hz2 rfl (by decide) _ _ _ rfl (hown.alloc _) ⟨wr.heap.size,0,none⟩ 1 1 [.int .u8 ((m:Int) % 128+128)] rfl rfl (cell_one_new _ _ _) (by simp [Value.oneCell']) p1 p2 (by rw [World.size_alloc];exact q2) ?_)
      intro v' w1 own1 hgr hfr
      have hb1:Below w.heap.size w w1:=(hb.alloc hb.size _).grown hgr (by rw [World.size_alloc];exact q2) (fun j hj=>(hown.lt j hj).1)
      rw [HV.out] at own1
      go_wp2_with fail
      go_roundw
      case rel =>
        refine ⟨m / 128,pre++[UInt8.ofNat (m % 128+128)],by rw [←HP.out];simp,by omega,?_,?_,hb1⟩
        · rfl
        · rw [bv_append,List.length_append];exact own1
      case measure =>
        show ((m:Int) / 128).toNat<(m:Int).toNat
        omega
def be8 (n:Nat):List UInt8:=[UInt8.ofNat (n / 72057594037927936),UInt8.ofNat (n / 281474976710656),UInt8.ofNat (n / 1099511627776),UInt8.ofNat (n / 4294967296),UInt8.ofNat (n / 16777216),UInt8.ofNat (n / 65536),UInt8.ofNat (n / 256),UInt8.ofNat n]
set_option maxRecDepth 100000 in
set_option maxHeartbeats 4000000 in
theorem ref_number8 (n:Nat) (w:World) :
    Calls Tryz.prog 63 #[.int .u64 n,.int .i64 8] w fun e w'=>e=.returned (.string ⟨(be8 n).toArray⟩)∧Below w.heap.size w w':=by
  obtain ⟨i0,hi,hz0,hz1,hz2⟩:=info_parts Tryz.infoByte
  have ow0:=World.ownsRow_nil w w.heap.size 5 1
  have hb0:Below w.heap.size w w:=Below.refl _ _
  go_enter Tryz.func63,Tryz.ntmps63
  go_wp2_with fail
  refine wp_loop_rounds 10 ?_
  rw [rounds_succ]
  go_wp2_with (at_builtin;refine wpList_append_row rfl _ _ 123 rfl w.heap.size 5 i0 (.int .u8 0) 1 1 Tryz.underlying123 hi hz0 hz1 hz2 rfl (by decide) _ 0 _ rfl (ow0.alloc _) ⟨w.heap.size,0,none⟩ 1 1 [.int .u8 ((n:Int) / 72057594037927936 % 256)] rfl rfl (cell_one_new _ _ _) (by simp [Value.oneCell']) (by decide) (by decide) (by rw [World.size_alloc];have:=hb0.size;omega) ?_)
  intro v1 w1 ow1 hgr hfr
  have hb1:Below w.heap.size w w1:=(hb0.alloc hb0.size _).grown hgr (by rw [World.size_alloc];have:=hb0.size;omega) (fun j hj=>(ow0.lt j hj).1)
  clear hgr hfr
  go_wp2_with fail
  rw [rounds_succ]
  go_wp2_with (at_builtin;refine wpList_append_row rfl _ _ 123 rfl w.heap.size 5 i0 (.int .u8 0) 1 1 Tryz.underlying123 hi hz0 hz1 hz2 rfl (by decide) _ 1 _ rfl (ow1.alloc _) ⟨w1.heap.size,0,none⟩ 1 1 [.int .u8 ((n:Int) / 281474976710656 % 256)] rfl rfl (cell_one_new _ _ _) (by simp [Value.oneCell']) (by decide) (by decide) (by rw [World.size_alloc];have:=hb1.size;omega) ?_)
  intro v2 w2 ow2 hgr hfr
  have hb2:Below w.heap.size w w2:=(hb1.alloc hb1.size _).grown hgr (by rw [World.size_alloc];have:=hb1.size;omega) (fun j hj=>(ow1.lt j hj).1)
  clear hgr hfr
  go_wp2_with fail
  rw [rounds_succ]
  go_wp2_with (at_builtin;refine wpList_append_row rfl _ _ 123 rfl w.heap.size 5 i0 (.int .u8 0) 1 1 Tryz.underlying123 hi hz0 hz1 hz2 rfl (by decide) _ 2 _ rfl (ow2.alloc _) ⟨w2.heap.size,0,none⟩ 1 1 [.int .u8 ((n:Int) / 1099511627776 % 256)] rfl rfl (cell_one_new _ _ _) (by simp [Value.oneCell']) (by decide) (by decide) (by rw [World.size_alloc];have:=hb2.size;omega) ?_)
  intro v3 w3 ow3 hgr hfr
  have hb3:Below w.heap.size w w3:=(hb2.alloc hb2.size _).grown hgr (by rw [World.size_alloc];have:=hb2.size;omega) (fun j hj=>(ow2.lt j hj).1)
  clear hgr hfr
  go_wp2_with fail
  rw [rounds_succ]
  go_wp2_with (at_builtin;refine wpList_append_row rfl _ _ 123 rfl w.heap.size 5 i0 (.int .u8 0) 1 1 Tryz.underlying123 hi hz0 hz1 hz2 rfl (by decide) _ 3 _ rfl (ow3.alloc _) ⟨w3.heap.size,0,none⟩ 1 1 [.int .u8 ((n:Int) / 4294967296 % 256)] rfl rfl (cell_one_new _ _ _) (by simp [Value.oneCell']) (by decide) (by decide) (by rw [World.size_alloc];have:=hb3.size;omega) ?_)
  intro v4 w4 ow4 hgr hfr
  have hb4:Below w.heap.size w w4:=(hb3.alloc hb3.size _).grown hgr (by rw [World.size_alloc];have:=hb3.size;omega) (fun j hj=>(ow3.lt j hj).1)
  clear hgr hfr
  go_wp2_with fail
  rw [rounds_succ]
  go_wp2_with (at_builtin;refine wpList_append_row rfl _ _ 123 rfl w.heap.size 5 i0 (.int .u8 0) 1 1 Tryz.underlying123 hi hz0 hz1 hz2 rfl (by decide) _ 4 _ rfl (ow4.alloc _) ⟨w4.heap.size,0,none⟩ 1 1 [.int .u8 ((n:Int) / 16777216 % 256)] rfl rfl (cell_one_new _ _ _) (by simp [Value.oneCell']) (by decide) (by decide) (by rw [World.size_alloc];have:=hb4.size;omega) ?_)
  intro v5 w5 ow5 hgr hfr
  have hb5:Below w.heap.size w w5:=(hb4.alloc hb4.size _).grown hgr (by rw [World.size_alloc];have:=hb4.size;omega) (fun j hj=>(ow4.lt j hj).1)
  clear hgr hfr
  go_wp2_with fail
  rw [rounds_succ]
  go_wp2_with (at_builtin;refine wpList_append_row rfl _ _ 123 rfl w.heap.size 5 i0 (.int .u8 0) 1 1 Tryz.underlying123 hi hz0 hz1 hz2 rfl (by decide) _ 5 _ rfl (ow5.alloc _) ⟨w5.heap.size,0,none⟩ 1 1 [.int .u8 ((n:Int) / 65536 % 256)] rfl rfl (cell_one_new _ _ _) (by simp [Value.oneCell']) (by decide) (by decide) (by rw [World.size_alloc];have:=hb5.size;omega) ?_)
  intro v6 w6 ow6 hgr hfr
  have hb6:Below w.heap.size w w6:=(hb5.alloc hb5.size _).grown hgr (by rw [World.size_alloc];have:=hb5.size;omega) (fun j hj=>(ow5.lt j hj).1)
  clear hgr hfr
  go_wp2_with fail
  rw [rounds_succ]
  go_wp2_with (at_builtin;refine wpList_append_row rfl _ _ 123 rfl w.heap.size 5 i0 (.int .u8 0) 1 1 Tryz.underlying123 hi hz0 hz1 hz2 rfl (by decide) _ 6 _ rfl (ow6.alloc _) ⟨w6.heap.size,0,none⟩ 1 1 [.int .u8 ((n:Int) / 256 % 256)] rfl rfl (cell_one_new _ _ _) (by simp [Value.oneCell']) (by decide) (by decide) (by rw [World.size_alloc];have:=hb6.size;omega) ?_)
  intro v7 w7 ow7 hgr hfr
  have hb7:Below w.heap.size w w7:=(hb6.alloc hb6.size _).grown hgr (by rw [World.size_alloc];have:=hb6.size;omega) (fun j hj=>(ow6.lt j hj).1)
  clear hgr hfr
  go_wp2_with fail
  rw [rounds_succ]
  go_wp2_with (at_builtin;refine wpList_append_row rfl _ _ 123 rfl w.heap.size 5 i0 (.int .u8 0) 1 1 Tryz.underlying123 hi hz0 hz1 hz2 rfl (by decide) _ 7 _ rfl (ow7.alloc _) ⟨w7.heap.size,0,none⟩ 1 1 [.int .u8 ((n:Int) % 256)] rfl rfl (cell_one_new _ _ _) (by simp [Value.oneCell']) (by decide) (by decide) (by rw [World.size_alloc];have:=hb7.size;omega) ?_)
  intro v8 w8 ow8 hgr hfr
  have hb8:Below w.heap.size w w8:=(hb7.alloc hb7.size _).grown hgr (by rw [World.size_alloc];have:=hb7.size;omega) (fun j hj=>(ow7.lt j hj).1)
  clear hgr hfr
  go_wp2_with fail
  have own2:w8.ownsRow w.heap.size 5 1 v8 8 (bv (be8 n)):=by
    have e:bv (be8 n)=[.int .u8 ((n:Int) / 72057594037927936 % 256),.int .u8 ((n:Int) / 281474976710656 % 256),.int .u8 ((n:Int) / 1099511627776 % 256),.int .u8 ((n:Int) / 4294967296 % 256),.int .u8 ((n:Int) / 16777216 % 256),.int .u8 ((n:Int) / 65536 % 256),.int .u8 ((n:Int) / 256 % 256),.int .u8 ((n:Int) % 256)]:=by simp [bv,be8,UInt8.toNat_ofNat']
    rw [e]
    simpa using ow8
  have hcv:=conv_own own2
  clear own2 ow0 ow1 ow2 ow3 ow4 ow5 ow6 ow7 ow8
  rw [rounds_succ]
  go_wp2_with fail
  go_ret
  exact ⟨rfl,hb8⟩
set_option maxRecDepth 100000 in
set_option maxHeartbeats 4000000 in
theorem mac_refnumber (n:Nat) (w:World) :
    Calls Tryz.prog 79 #[.int .u64 n] w fun e w'=>e=.returned (.string ⟨(be8 n).toArray⟩)∧Below w.heap.size w w':=by
  obtain ⟨i0,hi,hz0,hz1,hz2⟩:=info_parts Tryz.infoByte
  have ow0:=World.ownsRow_nil w w.heap.size 5 1
  have hb0:Below w.heap.size w w:=Below.refl _ _
  go_enter Tryz.func79,Tryz.ntmps79
  go_wp2_with fail
  refine wp_loop_rounds 10 ?_
  rw [rounds_succ]
  go_wp2_with (at_builtin;refine wpList_append_row rfl _ _ 123 rfl w.heap.size 5 i0 (.int .u8 0) 1 1 Tryz.underlying123 hi hz0 hz1 hz2 rfl (by decide) _ 0 _ rfl (ow0.alloc _) ⟨w.heap.size,0,none⟩ 1 1 [.int .u8 ((n:Int) / 72057594037927936 % 256)] rfl rfl (cell_one_new _ _ _) (by simp [Value.oneCell']) (by decide) (by decide) (by rw [World.size_alloc];have:=hb0.size;omega) ?_)
  intro v1 w1 ow1 hgr hfr
  have hb1:Below w.heap.size w w1:=(hb0.alloc hb0.size _).grown hgr (by rw [World.size_alloc];have:=hb0.size;omega) (fun j hj=>(ow0.lt j hj).1)
  clear hgr hfr
  go_wp2_with fail
  rw [rounds_succ]
  go_wp2_with (at_builtin;refine wpList_append_row rfl _ _ 123 rfl w.heap.size 5 i0 (.int .u8 0) 1 1 Tryz.underlying123 hi hz0 hz1 hz2 rfl (by decide) _ 1 _ rfl (ow1.alloc _) ⟨w1.heap.size,0,none⟩ 1 1 [.int .u8 ((n:Int) / 281474976710656 % 256)] rfl rfl (cell_one_new _ _ _) (by simp [Value.oneCell']) (by decide) (by decide) (by rw [World.size_alloc];have:=hb1.size;omega) ?_)
  intro v2 w2 ow2 hgr hfr
  have hb2:Below w.heap.size w w2:=(hb1.alloc hb1.size _).grown hgr (by rw [World.size_alloc];have:=hb1.size;omega) (fun j hj=>(ow1.lt j hj).1)
  clear hgr hfr
  go_wp2_with fail
  rw [rounds_succ]
  go_wp2_with (at_builtin;refine wpList_append_row rfl _ _ 123 rfl w.heap.size 5 i0 (.int .u8 0) 1 1 Tryz.underlying123 hi hz0 hz1 hz2 rfl (by decide) _ 2 _ rfl (ow2.alloc _) ⟨w2.heap.size,0,none⟩ 1 1 [.int .u8 ((n:Int) / 1099511627776 % 256)] rfl rfl (cell_one_new _ _ _) (by simp [Value.oneCell']) (by decide) (by decide) (by rw [World.size_alloc];have:=hb2.size;omega) ?_)
  intro v3 w3 ow3 hgr hfr
  have hb3:Below w.heap.size w w3:=(hb2.alloc hb2.size _).grown hgr (by rw [World.size_alloc];have:=hb2.size;omega) (fun j hj=>(ow2.lt j hj).1)
  clear hgr hfr
  go_wp2_with fail
  rw [rounds_succ]
  go_wp2_with (at_builtin;refine wpList_append_row rfl _ _ 123 rfl w.heap.size 5 i0 (.int .u8 0) 1 1 Tryz.underlying123 hi hz0 hz1 hz2 rfl (by decide) _ 3 _ rfl (ow3.alloc _) ⟨w3.heap.size,0,none⟩ 1 1 [.int .u8 ((n:Int) / 4294967296 % 256)] rfl rfl (cell_one_new _ _ _) (by simp [Value.oneCell']) (by decide) (by decide) (by rw [World.size_alloc];have:=hb3.size;omega) ?_)
  intro v4 w4 ow4 hgr hfr
  have hb4:Below w.heap.size w w4:=(hb3.alloc hb3.size _).grown hgr (by rw [World.size_alloc];have:=hb3.size;omega) (fun j hj=>(ow3.lt j hj).1)
  clear hgr hfr
  go_wp2_with fail
  rw [rounds_succ]
  go_wp2_with (at_builtin;refine wpList_append_row rfl _ _ 123 rfl w.heap.size 5 i0 (.int .u8 0) 1 1 Tryz.underlying123 hi hz0 hz1 hz2 rfl (by decide) _ 4 _ rfl (ow4.alloc _) ⟨w4.heap.size,0,none⟩ 1 1 [.int .u8 ((n:Int) / 16777216 % 256)] rfl rfl (cell_one_new _ _ _) (by simp [Value.oneCell']) (by decide) (by decide) (by rw [World.size_alloc];have:=hb4.size;omega) ?_)
  intro v5 w5 ow5 hgr hfr
  have hb5:Below w.heap.size w w5:=(hb4.alloc hb4.size _).grown hgr (by rw [World.size_alloc];have:=hb4.size;omega) (fun j hj=>(ow4.lt j hj).1)
  clear hgr hfr
  go_wp2_with fail
  rw [rounds_succ]
  go_wp2_with (at_builtin;refine wpList_append_row rfl _ _ 123 rfl w.heap.size 5 i0 (.int .u8 0) 1 1 Tryz.underlying123 hi hz0 hz1 hz2 rfl (by decide) _ 5 _ rfl (ow5.alloc _) ⟨w5.heap.size,0,none⟩ 1 1 [.int .u8 ((n:Int) / 65536 % 256)] rfl rfl (cell_one_new _ _ _) (by simp [Value.oneCell']) (by decide) (by decide) (by rw [World.size_alloc];have:=hb5.size;omega) ?_)
  intro v6 w6 ow6 hgr hfr
  have hb6:Below w.heap.size w w6:=(hb5.alloc hb5.size _).grown hgr (by rw [World.size_alloc];have:=hb5.size;omega) (fun j hj=>(ow5.lt j hj).1)
  clear hgr hfr
  go_wp2_with fail
  rw [rounds_succ]
  go_wp2_with (at_builtin;refine wpList_append_row rfl _ _ 123 rfl w.heap.size 5 i0 (.int .u8 0) 1 1 Tryz.underlying123 hi hz0 hz1 hz2 rfl (by decide) _ 6 _ rfl (ow6.alloc _) ⟨w6.heap.size,0,none⟩ 1 1 [.int .u8 ((n:Int) / 256 % 256)] rfl rfl (cell_one_new _ _ _) (by simp [Value.oneCell']) (by decide) (by decide) (by rw [World.size_alloc];have:=hb6.size;omega) ?_)
  intro v7 w7 ow7 hgr hfr
  have hb7:Below w.heap.size w w7:=(hb6.alloc hb6.size _).grown hgr (by rw [World.size_alloc];have:=hb6.size;omega) (fun j hj=>(ow6.lt j hj).1)
  clear hgr hfr
  go_wp2_with fail
  rw [rounds_succ]
  go_wp2_with (at_builtin;refine wpList_append_row rfl _ _ 123 rfl w.heap.size 5 i0 (.int .u8 0) 1 1 Tryz.underlying123 hi hz0 hz1 hz2 rfl (by decide) _ 7 _ rfl (ow7.alloc _) ⟨w7.heap.size,0,none⟩ 1 1 [.int .u8 ((n:Int) % 256)] rfl rfl (cell_one_new _ _ _) (by simp [Value.oneCell']) (by decide) (by decide) (by rw [World.size_alloc];have:=hb7.size;omega) ?_)
  intro v8 w8 ow8 hgr hfr
  have hb8:Below w.heap.size w w8:=(hb7.alloc hb7.size _).grown hgr (by rw [World.size_alloc];have:=hb7.size;omega) (fun j hj=>(ow7.lt j hj).1)
  clear hgr hfr
  go_wp2_with fail
  have own2:w8.ownsRow w.heap.size 5 1 v8 8 (bv (be8 n)):=by
    have e:bv (be8 n)=[.int .u8 ((n:Int) / 72057594037927936 % 256),.int .u8 ((n:Int) / 281474976710656 % 256),.int .u8 ((n:Int) / 1099511627776 % 256),.int .u8 ((n:Int) / 4294967296 % 256),.int .u8 ((n:Int) / 16777216 % 256),.int .u8 ((n:Int) / 65536 % 256),.int .u8 ((n:Int) / 256 % 256),.int .u8 ((n:Int) % 256)]:=by simp [bv,be8,UInt8.toNat_ofNat']
    rw [e]
    simpa using ow8
  have hcv:=conv_own own2
  clear own2 ow0 ow1 ow2 ow3 ow4 ow5 ow6 ow7 ow8
  rw [rounds_succ]
  go_wp2_with fail
  go_ret
  exact ⟨rfl,hb8⟩
end Go.Proofs.YtmdgeknnhckgfaaGreatDoor
namespace Go.Proofs.YtmdgeknnhckgfaaGreatDoor
open Go
section
variable {P:Program} {ops:Array Oper} {Q:Exit→Act→World→Prop} {S:World→Prop}
def wpPlan (P:Program) (ops:Array Oper) (Q:Exit→Act→World→Prop) (S:World→Prop):List (Nat×Bool)→Act→World→Prop
  | [],a,w=>Q .normal a w
  | (i,true)::rest,a,w=>∃ o v,ops[i]?=some o∧YieldsIf P ops S o v a∧wpPlan P ops Q S rest (a.put o.dst v) w
  | (i,false)::rest,a,w=>wpOp P ops Q i (fun a' w'=>S w'∧(S w'→wpPlan P ops Q S rest a' w')) a w
def planOK (ops:Array Oper):List (Nat×Bool)→Array Bool→Bool
  | [],listed=>Region.ready .any ops listed == []
  | (i,true)::rest,listed=>Region.free .any ops listed i && (Region.ready .any ops listed).contains i && planOK ops rest (listed.setIfInBounds i true)
  | (i,false)::rest,listed=>Region.ready .any ops listed == [i] && planOK ops rest (listed.setIfInBounds i true)
theorem plan_sound (hs:Region.noSelect ops=true) (hQ:∀ c a w (dst:Option Tmp) v,Q (.panic c) (a.put dst v) w→Q (.panic c) a w):∀ (plan:List (Nat×Bool)) (listed:Array Bool) (a:Act) (w:World),planOK ops plan listed=true→S w→wpPlan P ops Q S plan a w →
    wpAnyH P .any ops Q S plan.length listed a w:=by
  intro plan
  induction plan with
  | nil =>
    intro listed a w hp _ h
    exact wpAnyH_done (by simpa [planOK] using hp) h 0
  | cons x plan ih =>
    intro listed a w hp hS h
    obtain ⟨i,t⟩:=x
    cases t with
    | true =>
      simp only [planOK,Bool.and_eq_true] at hp
      obtain ⟨o,v,hi,hy,hr⟩:=h
      exact wpAnyH_take hi hs hp.1.1 hp.1.2 (fun c a w hq=>hQ c a w _ _ hq) hy hS (ih _ _ _ hp.2 hS hr)
    | false =>
      simp only [planOK,Bool.and_eq_true,beq_iff_eq] at hp
      refine wpAnyH_all hp.1 (by simp) ?_
      intro j hj
      obtain rfl:j=i:=by simpa using hj
      exact wpOp_mono (fun a' w' hk=>⟨hk.1,ih _ _ _ hp.2 hk.1 (hk.2 hk.1)⟩) h
theorem region_plan {id:Nat} {a:Act} {w:World} (plan:List (Nat×Bool)) (hm:P.follows .mixedOrders=true) (hl:plan.length=ops.size) (hs:Region.noSelect ops=true) (hp:planOK ops plan (Array.replicate ops.size false)=true)
    (hQ:∀ c a w (dst:Option Tmp) v,Q (.panic c) (a.put dst v) w→Q (.panic c) a w) (hS:S w.drew) (h:S w.drew→wpPlan P ops Q S plan a w.drew):(Code.region id ops true).wp P Q a w:=by
  refine wp_region_held (S:=S) hm ?_
  rw [←hl] at hp ⊢
  exact plan_sound hs hQ plan _ _ _ hp hS (h hS)
theorem plan_nil {a:Act} {w:World} (h:Q .normal a w):wpPlan P ops Q S [] a w:=h
theorem plan_take {i:Nat} {rest:List (Nat×Bool)} {a:Act} {w:World} {o:Oper} {v:Value} (ho:ops[i]?=some o) (hw:Region.wanted o (yielded ops a.tmps)=true) (hv:∀ w',S w'→(execOp a.eval o).run P w'=.ok (.value v) w')
    (h:wpPlan P ops Q S rest (a.put o.dst v) w):wpPlan P ops Q S ((i,true)::rest) a w:=⟨o,v,ho,.inl ⟨hw,hv⟩,h⟩
theorem plan_skip {i:Nat} {rest:List (Nat×Bool)} {a:Act} {w:World} {o:Oper} (ho:ops[i]?=some o) (hw:Region.wanted o (yielded ops a.tmps)=false)
    (h:wpPlan P ops Q S rest (a.put o.dst undef) w):wpPlan P ops Q S ((i,true)::rest) a w:=⟨o,undef,ho,.inr ⟨hw,rfl⟩,h⟩
theorem plan_solo {i:Nat} {rest:List (Nat×Bool)} {a:Act} {w:World} {o:Oper} (ho:ops[i]?=some o) (hw:Region.wanted o (yielded ops a.tmps)=true)
    (h:∀ K:Act→World→Prop,Shut (∀ a' w',S w'→(S w'→wpPlan P ops Q S rest a' w')→K a' w')→Oper.wp P o a w K Q):wpPlan P ops Q S ((i,false)::rest) a w:=by
  have h1:=h (fun a' w'=>S w'∧(S w'→wpPlan P ops Q S rest a' w')) (fun a' w' h1 h2=>⟨h1,h2⟩)
  show Go.wpOp P ops Q i _ a w
  unfold Go.wpOp
  simp only [ho,hw,if_true]
  exact .inl h1
theorem plan_solo_skip {i:Nat} {rest:List (Nat×Bool)} {a:Act} {w:World} {o:Oper} (ho:ops[i]?=some o) (hw:Region.wanted o (yielded ops a.tmps)=false) (hS:S w)
    (h:wpPlan P ops Q S rest (a.put o.dst undef) w):wpPlan P ops Q S ((i,false)::rest) a w:=by
  show Go.wpOp P ops Q i _ a w
  unfold Go.wpOp
  simp only [ho,hw,Bool.false_eq_true,if_false]
  exact ⟨hS,fun _=>h⟩
end
end Go.Proofs.YtmdgeknnhckgfaaGreatDoor
namespace Go.Proofs.YtmdgeknnhckgfaaGreatDoor
open Go Go.RowKit
section
variable {P:Program}
theorem run_store_blk {w:World} {g:Nat} {c:Array Value} {t:TypeId} (hg:Blk w g c t) (ty:TypeId) (c':Array Value) (hi:(P.info? ty).map (·.size)=some c'.size) (hs:c.size=c'.size) (h1:c'.all (·.oneCell')=true) :
    ∃ w',(Instr.storeAt ty (.pointer (some ⟨g,0,none⟩)) (.agg c')).run P w=.ok () w'∧Blk w' g c' t∧Only (fun k=>k=g) w w'∧w'.heap.size=w.heap.size:=by
  refine ⟨w.setRow g c',?_,setRow_heap w g c c' t (0,0) hg,⟨rfl,rfl,rfl,by simp,fun k _ hk=>setRow_other w g k c' hk⟩,by simp⟩
  simp only [Instr.storeAt,Instr.sureAddr,Sem.run_bind,Sem.run_pure,Result.andThen]
  exact run_storeVar_row w g t ty c c' hg hi hs h1
theorem wpList_store_blk {ops:Array Oper} {rest:List Oper} {o:Oper} {a:Act} {w:World} {Q:Exit→Act→World→Prop} (hgd:o.guard=none) (ty:TypeId) (p x:Operand) (ho:o.op=.store ty p x)
    (g:Nat) (hp:a.eval p=.pointer (some ⟨g,0,none⟩)) (c c':Array Value) (t:TypeId) (hx:a.eval x=.agg c') (hg:Blk w g c t) (hi:(P.info? ty).map (·.size)=some c'.size) (hs:c.size=c'.size) (h1:c'.all (·.oneCell')=true)
    (h:∀ w',Blk w' g c' t→Only (fun k=>k=g) w w'→w'.heap.size=w.heap.size→wpList P ops Q rest (a.put o.dst undef) w'):wpList P ops Q (o::rest) a w:=by
  refine wpList_plain hgd fun K hK'=>?_
  obtain ⟨w',hr,h1',h2',h3'⟩:=run_store_blk (P:=P) hg ty c' hi hs h1
  unfold Oper.wp execOp
  simp only [ho,hp,hx,Sem.run_bind,hr,Result.andThen_ok,Sem.run_pure]
  exact hK' _ _ (h w' h1' h2' h3')
theorem wpList_store_new {ops:Array Oper} {rest:List Oper} {o:Oper} {a:Act} {w:World} {Q:Exit→Act→World→Prop} {c:Array Value} {t:TypeId} (hgd:o.guard=none) (ty:TypeId) (p x:Operand) (ho:o.op=.store ty p x)
    (hp:a.eval p=.pointer (some ⟨w.heap.size,0,none⟩)) (c':Array Value) (hx:a.eval x=.agg c') (hi:(P.info? ty).map (·.size)=some c'.size) (hs:c.size=c'.size) (h1:c'.all (·.oneCell')=true)
    (h:∀ w',Blk w' w.heap.size c' t→Below w.heap.size w w'→RowKit.Hid (w'.heap.size=w.heap.size+1)→wpList P ops Q rest (a.put o.dst undef) w'):wpList P ops Q (o::rest) a (w.alloc (.cells c t)) :=
  wpList_store_blk hgd ty p x ho w.heap.size hp c c' t hx (Blk.new w c t) hi hs h1 (fun w' h1' h2' h3' =>
    h w' h1' (((Below.refl _ w).alloc (Nat.le_refl _) _).trans (h2'.below (by simp) (fun k hk=>by subst hk;exact Nat.le_refl _))) (Lib.hid (by rw [h3'];simp)))
theorem wpList_load_blk {ops:Array Oper} {rest:List Oper} {o:Oper} {a:Act} {w:World} {Q:Exit→Act→World→Prop} (hgd:o.guard=none) (ty:TypeId) (x:Operand) (ho:o.op=.load ty x)
    (g:Nat) (hx:a.eval x=.pointer (some ⟨g,0,none⟩)) (t:TypeId) (cs:Array Value) (d:TypeDesc) (hg:Blk w g cs t)
    (hu:P.underlying ty=some d) (hd:(match d with | .struct _ | .array _ _=>true | _=>false)=true) (hi:(P.info? ty).map (·.size)=some cs.size)
    (h:wpList P ops Q rest (a.put o.dst (.agg cs)) w):wpList P ops Q (o::rest) a w:=wpList_load_row hgd ty x ho g hx t cs (0,0) d hg hu hd hi h
theorem body_cell {fn:Func} {R:Ending→World→Prop} {a:Act} {w:World} {p:Tmp} {ty:TypeId} (hr:fn.results=#[.cell p ty]) (hd:a.defers=[]) {g:Nat} {cs:Array Value} {t:TypeId} {d:TypeDesc}
    (hp:a.tmps.getD p undef=.pointer (some ⟨g,0,none⟩)) (hg:Blk w g cs t) (hu:P.underlying ty=some d) (hdd:(match d with | .struct _ | .array _ _=>true | _=>false)=true) (hi:(P.info? ty).map (·.size)=some cs.size)
    (hR:R (.returned (.agg cs)) w):bodyPost P fn R .ret a w :=
  bodyPost_ret (results_cell_row hr _ w g t cs (0,0) d hp hg hu hdd hi) hd hR
theorem region_tail {id:Nat} {Q:Exit→Act→World→Prop} {a:Act} {w:World} {l:List Oper} (n:Nat) (hm:P.follows .mixedOrders=true) (hB:Region.lexTailB .any l.toArray n=true)
    (h:wpStill P l.toArray w.drew (fun a'=>wpList P l.toArray Q (l.drop n) a' w.drew) (l.take n) a):(Code.region id l.toArray true).wp P Q a w:=wp_region_still_tail n hm hB h
end
end Go.Proofs.YtmdgeknnhckgfaaGreatDoor
