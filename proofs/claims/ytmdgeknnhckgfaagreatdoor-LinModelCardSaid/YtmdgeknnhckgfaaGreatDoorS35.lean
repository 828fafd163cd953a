/-
  Parts of the proof of the law LinModel: LStb, LDon, MLst.
-/
import Derived.Test.YtmdgeknnhckgfaaGreatDoorS25
import Derived.Test.YtmdgeknnhckgfaaGreatDoorS30
set_option linter.unusedSimpArgs false
set_option linter.unusedVariables false
namespace Go.Proofs.YtmdgeknnhckgfaaGreatDoor
open Go Go.RowKit
set_option maxRecDepth 100000 in
set_option maxHeartbeats 8000000 in
theorem mod_stable (b o cap:Nat) (l:List Ask) (w:World) (hs:Rising w b o l) :
    Calls Tryz.prog 83 #[.slice (some ⟨b,o,none⟩) l.length cap,.int .i64 (l.length:Nat),fnCmp] w fun e w'=>e=.returned (.tuple #[])∧Below w.heap.size w w':=by
  have HS:=Lib.hid hs
  have hlen:=hs.len
  unfold fnCmp
  obtain ⟨n,hn⟩:∃ n,l.length=n:=⟨_,rfl⟩
  have HN:=Lib.hid hn
  rw [hn] at hlen ⊢
  clear hs hn
  go_enter Tryz.func83,Tryz.ntmps83
  go_wp2_with fail
  go_loopw [7,8] (fun (av bv:Value) (W:World)=>∃ a:Nat,a≤n∧av=.int .i64 (a:Nat)∧bv=.int .i64 ((a:Int)+20)∧Below w.heap.size w W) (fun _ v _=>4000 - (intOf v).toNat)
  case atStart=>exact ⟨0,Nat.zero_le _,rfl,rfl,Below.refl _ _⟩
  case round =>
    obtain ⟨a,han,rfl,rfl,hb⟩:=hrel
    by_cases hlt:a+20≤n
    · have kl:(a:Int)+20≤(n:Int):=by omega
      have HI:=Lib.hid (mod_insertion wr b o cap l (HS.out.kept hb) a (a+20) (by rw [HN.out];exact hlt) (by omega))
      rw [HN.out] at HI
      have e1:(((a+20:Nat)):Int)=(a:Int)+20:=by omega
      unfold fnCmp at HI
      rw [e1] at HI
      have HB:=Lib.hid hb
      have HLT:=Lib.hid hlt
      clear hb hlt e1
      go_wp2_with fail
      refine HI.out.mono ?_
      rintro e w5 ⟨rfl,hb5⟩
      have HB5:=Lib.hid (HB.out.trans (hb5.mono HB.out.size))
      clear hb5 HI HB
      go_wp2_with fail
      go_roundw
      case rel=>exact ⟨a+20,HLT.out,rfl,rfl,HB5.out⟩
      case measure=>have:=HLT.out;simp [intOf];omega
    · have kl:¬ (a:Int)+20≤(n:Int):=by omega
      have HI:=Lib.hid (mod_insertion wr b o cap l (HS.out.kept hb) a n (by rw [HN.out];exact Nat.le_refl _) (by omega))
      rw [HN.out] at HI
      unfold fnCmp at HI
      have HB:=Lib.hid hb
      clear hb hlt
      go_wp2_with fail
      refine HI.out.mono ?_
      rintro e w5 ⟨rfl,hb5⟩
      have HB5:=Lib.hid (HB.out.trans (hb5.mono HB.out.size))
      clear hb5 HI HB kl
      go_wp2_with fail
      go_loopw [6,7,8,9] (fun (sv av bv mv:Value) (W:World)=>∃ s:Nat,20≤s∧s≤100000∧sv=.int .i64 (s:Nat)∧Below w.heap.size w W) (fun v _ _ _ _=>n - (intOf v).toNat)
      case atStart=>first | exact ⟨20,Nat.le_refl _,by omega,rfl,HB5.out⟩ | ((repeat apply Exists.intro);refine ⟨?_,rfl⟩;exact ⟨20,Nat.le_refl _,by omega,rfl,HB5.out⟩)
      case round =>
        obtain ⟨s,hs20,hsl,rfl,hb⟩:=hrel
        by_cases hlt:s<n
        · have kl:(s:Int)<(n:Int):=by omega
          have HB:=Lib.hid hb
          have HLT:=Lib.hid hlt
          have sb:s≤1000:=by omega
          clear hb hlt hsl
          go_wp2_with fail
          go_loopw [7,8] (fun (av bv:Value) (W:World)=>∃ a:Nat,a≤n∧av=.int .i64 (a:Nat)∧bv=.int .i64 ((a:Int)+2*(s:Int))∧Below w.heap.size w W) (fun _ v _=>10000 - (intOf v).toNat)
          case atStart=>exact ⟨0,Nat.zero_le _,rfl,by simp,HB.out⟩
          case round =>
            obtain ⟨a,han,rfl,rfl,hb⟩:=hrel
            by_cases hle:a+2*s≤n
            · have k2:(a:Int)+2*(s:Int)≤(n:Int):=by omega
              have HI:=Lib.hid (mod_symMerge b o cap l (2*s) a (a+s) (a+2*s) (by omega) (by omega) (by omega) (by rw [HN.out];exact hle) wr (HS.out.kept hb))
              rw [HN.out] at HI
              have e1:(((a+s:Nat)):Int)=(a:Int)+(s:Int):=by omega
              have e2:(((a+2*s:Nat)):Int)=(a:Int)+2*(s:Int):=by omega
              unfold fnCmp at HI
              rw [e1,e2] at HI
              have HBI:=Lib.hid hb
              have HLE:=Lib.hid hle
              clear hb hle e1 e2
              go_wp2_with fail
              refine HI.out.mono ?_
              rintro e w5 ⟨rfl,hb5⟩
              have HB5:=Lib.hid (HBI.out.trans (hb5.mono HBI.out.size))
              clear hb5 HI HBI
              go_wp2_with fail
              go_roundw
              case rel=>exact ⟨a+2*s,HLE.out,by simp,by simp,HB5.out⟩
              case measure=>have:=HLE.out;simp [intOf];omega
            · have k2:¬ (a:Int)+2*(s:Int)≤(n:Int):=by omega
              have HBI:=Lib.hid hb
              by_cases hm:a+s<n
              · have k3:(a:Int)+(s:Int)<(n:Int):=by omega
                have HI:=Lib.hid (mod_symMerge b o cap l n a (a+s) n (by omega) (by omega) hm (by rw [HN.out];exact Nat.le_refl _) wr (HS.out.kept hb))
                rw [HN.out] at HI
                have e1:(((a+s:Nat)):Int)=(a:Int)+(s:Int):=by omega
                unfold fnCmp at HI
                rw [e1] at HI
                clear hb hle e1 hm
                go_wp2_with fail
                refine HI.out.mono ?_
                rintro e w5 ⟨rfl,hb5⟩
                have HB5:=Lib.hid (HBI.out.trans (hb5.mono HBI.out.size))
                clear hb5 HI HBI
                go_wp2_with fail
                go_roundw
                case rel=>first | exact ⟨s*2,by omega,by omega,by simp,HB5.out⟩ | ((repeat apply Exists.intro);refine ⟨?_,rfl⟩;exact ⟨s*2,by omega,by omega,by simp,HB5.out⟩)
                case measure=>have:=HLT.out;simp [intOf];omega
              · have k3:¬ (a:Int)+(s:Int)<(n:Int):=by omega
                clear hb hle hm
                go_wp2_with fail
                go_roundw
                case rel=>first | exact ⟨s*2,by omega,by omega,by simp,HBI.out⟩ | ((repeat apply Exists.intro);refine ⟨?_,rfl⟩;exact ⟨s*2,by omega,by omega,by simp,HBI.out⟩)
                case measure=>have:=HLT.out;simp [intOf];omega
        · have kl:¬ (s:Int)<(n:Int):=by omega
          have HB:=Lib.hid hb
          clear hb hlt
          go_wp2_with fail
          exact body_none rfl rfl ⟨rfl,HB.out⟩
set_option maxRecDepth 100000 in
theorem mod_sort (b o cap:Nat) (l:List Ask) (w:World) (hs:Rising w b o l) :
    Calls Tryz.prog 67 #[.slice (some ⟨b,o,none⟩) l.length cap,fnCmp] w fun e w'=>e=.returned (.tuple #[])∧Below w.heap.size w w':=by
  have HS:=Lib.hid (mod_stable b o cap l w hs)
  unfold fnCmp at HS ⊢
  clear hs
  go_enter Tryz.func67,Tryz.ntmps67
  go_wp2_with fail
  refine HS.out.mono ?_
  rintro e w5 ⟨rfl,hb5⟩
  go_wp2_with fail
  exact body_none rfl rfl ⟨rfl,hb5⟩
def ask0:Array Value:=#[.int .i64 0,.int .i64 0,.int .i64 0,.int .i64 0,.int .i64 0,.int .u64 0,.bool false,.int .i64 0,.int .i64 0,.string ⟨#[]⟩,.string ⟨#[]⟩,.string ⟨#[]⟩,.int .i64 0,.int .i64 0,.int .u64 0,.int .i64 0,.string ⟨#[]⟩,.string ⟨#[]⟩,.string ⟨#[]⟩,.string ⟨#[]⟩,.int .u64 0,.int .i64 0,.slice none 0 0,.slice none 0 0,.string ⟨#[]⟩,.int .i64 0,.int .i64 0,.int .i64 0,.int .i64 0,.int .i64 0,.int .i64 0]
theorem Tryz.info55:(Tryz.prog.info? 55).map (fun i=>(i.zero,i.size,i.bytes))=some (some (.agg ask0),31,344):=by kernel_rfl
theorem fold_set_list:∀ (a pre:List Value) (z:List Value),z.length=a.length→List.foldl (fun (cs:Array Value) (y:Value×Nat)=>cs.setIfInBounds y.snd y.fst) (pre++z).toArray (a.zipIdx pre.length)=(pre++a).toArray
  | [],pre,z,h=>by
    have:z=[]:=List.eq_nil_of_length_eq_zero (by simpa using h)
    subst this
    simp
  | x::a,pre,[],h=>by simp at h
  | x::a,pre,y::z,h=>by
    have ih:=fold_set_list a (pre++[x]) z (by simpa using h)
    rw [List.zipIdx_cons,List.foldl_cons]
    have e:((pre++y::z).toArray.setIfInBounds pre.length x)=((pre++[x])++z).toArray:=by
      rw [pu1]
      congr 1
      rw [List.set_append_right _ _ (Nat.le_refl _),Nat.sub_self]
      simp
    show List.foldl _ ((pre++y::z).toArray.setIfInBounds pre.length x) _=_
    rw [e]
    have e2:(pre++[x]).length=pre.length+1:=by simp
    rw [e2] at ih
    rw [ih]
    simp
theorem fold_set (a z:Array Value) (n:Nat) (hn:a.size=n) (hz:z.size=n):Array.foldl (fun (cs:Array Value) (y:Value×Nat)=>cs.setIfInBounds y.snd y.fst) z a.zipIdx 0 n=a:=by
  obtain ⟨a⟩:=a
  obtain ⟨z⟩:=z
  have e1:(List.toArray a).zipIdx.size=n:=by rw [Array.size_zipIdx];exact hn
  have h:=fold_set_list a [] z (by simp at hn hz;omega)
  rw [←e1,←Array.foldl_toList,Array.toList_zipIdx]
  simpa using h
set_option maxRecDepth 100000 in
theorem mod_insertion0 (w:World):Calls Tryz.prog 107 #[.slice none 0 0,.int .i64 0,.int .i64 0,fnCmp] w fun e w'=>e=.returned (.tuple #[])∧w'=w:=by
  unfold fnCmp
  go_enter Tryz.func107,Tryz.ntmps107
  go_wp2_with fail
  go_loopw [8] (fun (iv:Value) (W:World)=>iv=.int .i64 1∧W=w) (fun _ _=>0)
  case atStart=>exact ⟨rfl,rfl⟩
  case round =>
    obtain ⟨rfl,hw⟩:=hrel
    obtain rfl:=hw.symm
    clear hw
    go_wp2_with fail
    exact body_none rfl rfl ⟨rfl,rfl⟩
set_option maxRecDepth 100000 in
theorem mod_stable0 (w:World):Calls Tryz.prog 83 #[.slice none 0 0,.int .i64 0,fnCmp] w fun e w'=>e=.returned (.tuple #[])∧w'=w:=by
  have HI:=Lib.hid (mod_insertion0 w)
  unfold fnCmp at HI ⊢
  go_enter Tryz.func83,Tryz.ntmps83
  go_wp2_with fail
  go_loopw [7,8] (fun (av bv:Value) (W:World)=>av=.int .i64 0∧bv=.int .i64 20∧W=w) (fun _ _ _=>0)
  case atStart=>exact ⟨rfl,rfl,rfl⟩
  case round =>
    obtain ⟨rfl,rfl,hw⟩:=hrel
    obtain rfl:=hw.symm
    clear hw
    go_wp2_with fail
    refine HI.out.mono ?_
    rintro e w5 ⟨rfl,hw⟩
    obtain rfl:=hw.symm
    clear hw
    go_wp2_with fail
    go_loopw [6] (fun (sv:Value) (W:World)=>sv=.int .i64 20∧W=w) (fun _ _=>0)
    case atStart=>first | exact ⟨rfl,rfl⟩ | ((repeat apply Exists.intro);refine ⟨?_,rfl⟩;exact ⟨rfl,rfl⟩)
    case round =>
      obtain ⟨rfl,hw⟩:=hrel
      obtain rfl:=hw.symm
      clear hw
      go_wp2_with fail
      exact body_none rfl rfl ⟨rfl,rfl⟩
set_option maxRecDepth 100000 in
theorem mod_sort0 (w:World):Calls Tryz.prog 67 #[.slice none 0 0,fnCmp] w fun e w'=>e=.returned (.tuple #[])∧w'=w:=by
  have HI:=Lib.hid (mod_stable0 w)
  unfold fnCmp at HI ⊢
  go_enter Tryz.func67,Tryz.ntmps67
  go_wp2_with fail
  refine HI.out.mono ?_
  rintro e w5 ⟨rfl,hw⟩
  obtain rfl:=hw.symm
  clear hw
  go_wp2_with fail
  exact body_none rfl rfl ⟨rfl,rfl⟩
def RDn (w:World) (l:List Ask) (ov iv:Value) (W:World):Prop:=∃ k:Nat,k≤l.length∧iv=.int .i64 (k:Nat)∧W.ownsRow w.heap.size 55 31 ov k (askArgs (l.take k))∧Below w.heap.size w W
set_option maxRecDepth 100000 in
set_option maxHeartbeats 8000000 in
theorem mod_done (w:World) (v:Value) (l:List Ask) (LA:Option Addr) (LC steps:Nat) (hrec:RecOk l steps) (hr:Reads w v l.length 31 (askArgs l)) (hok:∀ x∈l,AskOk w x) :
    Calls Tryz.prog 50 #[.agg (svArr v LA LC steps),.int .i64 1] w fun e w'=>∃ v',e=.returned v'∧w'.ownsRow w.heap.size 55 31 v' l.length (askArgs l)∧Below w.heap.size w w':=by
  obtain ⟨i0,ii0,iz00,iz10,iz20⟩:=info_parts Tryz.info55
  have ii:=Lib.hid ii0
  have iz0:=Lib.hid iz00
  have iz1:=Lib.hid iz10
  have iz2:=Lib.hid iz20
  clear ii0 iz00 iz10 iz20
  obtain ⟨A,cap,rfl⟩:=hr.form
  have HR:=Lib.hid hr
  have HOK:=Lib.hid hok
  have HRC:=Lib.hid hrec
  have hlen:=hrec.len
  unfold svArr
  clear hr hok hrec
  go_enter Tryz.func50,Tryz.ntmps50
  go_wp2_with fail
  go_loopw [5,11] (RDn w l) (fun _ v _=>l.length - (intOf v).toNat)
  case atStart=>exact ⟨0,Nat.zero_le _,rfl,World.ownsRow_nil _ _ _ _,(Below.refl _ w).alloc (Nat.le_refl _) _⟩
  case round =>
    obtain ⟨k,hk,rfl,hown,hb⟩:=hrel
    obtain ⟨A2,cap2,rfl⟩:=own_form hown
    by_cases hlt:k<l.length
    · obtain ⟨x,hx⟩:=get_lt hlt
      obtain ⟨b,o,rfl,hbl,hrg⟩:=(HR.out.kept hb).ask_at hx
      have HRG:=Lib.hid hrg
      have HX:=Lib.hid ((HOK.out x (List.mem_of_getElem? hx)).kept hb)
      have HB:=Lib.hid hb
      have HO:=Lib.hid hown
      have HSN:=Lib.hid (show askArgs (l.take (k+1))=askArgs (l.take k)++askCells x by rw [take_snoc hx,askArgs_snoc])
      have kl:(k:Int)<(l.length:Int):=by omega
      have p1:=Lib.hid (show k+1≤maxLen by unfold maxLen;omega)
      have p2:=Lib.hid (show (k+1)*344≤140737488355328 by omega)
      have q0:=Lib.hid hb.size
      clear hx hrg hb hown
      go_upto_region 5 with (first
        | (refine wpList_load_mid rfl 55 (Operand.tmp 13) rfl b (o+k*31) rfl (askCells x) _ HRG.out Tryz.underlying55 rfl (by exact Tryz.size55) ?_)
        | (refine wpList_store_new rfl 55 (Operand.tmp 7) (Operand.tmp 14) rfl rfl (askArr x) rfl (by exact Tryz.size55) rfl HX.out.one ?_;intro w4 hk4 hb4 hs4;have z6:=hk4.cell 6 (.bool true) rfl;have z10:=hk4.cell 30 (.int .i64 1) rfl;have HK4:=Lib.hid hk4;have HB4:=Lib.hid hb4;have HO4:=Lib.hid (own_below HO.out hb4);have q2:=Lib.hid (Nat.le_trans (Nat.le_trans q0.out hb4.size) (Nat.le_succ _));clear hk4 hb4 hs4))
      have hsz:=askArr_size x
      go_upto_region 6 with fail
      go_wp2_with (first
        | (refine wpList_load_blk rfl 55 (Operand.tmp 7) rfl wr.heap.size rfl 55 _ _ HK4.out Tryz.underlying55 rfl (by exact Tryz.size55) ?_)
        | (at_builtin;refine wpList_append_row rfl _ _ 48 rfl w.heap.size 55 i0 _ 31 344 Tryz.underlying48 ii.out iz0.out iz1.out iz2.out rfl (by decide) _ _ _ rfl (HO4.out.alloc _) ⟨w4.heap.size,0,none⟩ 1 1 (askCells x) rfl (askCells_len x) (fun j u hj=>by rw [fold_set (askArr x) _ 31 (askArr_size x) rfl];exact cells_new w4 (askCells x) 55 j u hj) HX.out.cells1 p1.out p2.out (by rw [World.size_alloc];exact q2.out) ?_))
      intro v' w6 own6 hgr hfr
      have hb6:Below w.heap.size w w6:=((HB.out.trans (HB4.out.mono HB.out.size)).alloc (Nat.le_trans HB.out.size HB4.out.size) _).grown hgr (by rw [World.size_alloc];exact q2.out) (fun j hj=>(HO4.out.lt j hj).1)
      have HB6:=Lib.hid hb6
      have HO6:=Lib.hid own6
      clear hgr hfr hb6 own6 z6 z10 hsz
      go_wp2_with fail
      go_roundw
      case rel=>exact ⟨k+1,hlt,rfl,by rw [HSN.out];exact HO6.out,HB6.out⟩
      case measure=>simp [intOf];omega
    · have hK:k=l.length:=by omega
      subst hK
      have kl:¬ ((l.length:Nat):Int)<(l.length:Int):=by omega
      rw [List.take_length] at hown
      have HO:=Lib.hid hown
      have HB:=Lib.hid hb
      clear hb
      have hfm:(A2=none∧cap2=0∧l.length=0)∨∃ g,A2=some ⟨g,0,none⟩:=by
        rcases hown.2 with ⟨e,hz⟩ | ⟨g,cap',cur,e,hg1,_⟩
        · injection e with e1 e2 e3
          exact .inl ⟨e1,e3,hz⟩
        · injection e with e1 e2 e3
          exact .inr ⟨g,e1⟩
      rcases hfm with ⟨rfl,rfl,hz⟩ | ⟨g,rfl⟩
      · have HZ:=Lib.hid hz
        have HS:=Lib.hid (mod_sort0 wr)
        unfold fnCmp at HS
        clear hown
        have hkl:=hz
        rw [hz] at HO ⊢
        go_wp2_with fail
        refine HS.out.mono ?_
        rintro e w5 ⟨rfl,hw⟩
        obtain rfl:=hw.symm
        clear hw HS
        go_wp2_with fail
        go_ret
        exact ⟨_,rfl,by rw [HZ.out];exact HO.out,HB.out⟩
      · have hrs:Rising wr g 0 l:=⟨hlen,(hown.lt g rfl).2,fun i x hx=>(Reads.ask_at (Reads.of_own hown) hx).elim (fun b h=>h.elim (fun o h=>by
          obtain ⟨e1,_,h3⟩:=h
          cases e1
          exact h3)),HRC.out.rise⟩
        have HS:=Lib.hid (mod_sort g 0 cap2 l wr hrs)
        unfold fnCmp at HS
        clear hown hrs
        go_wp2_with fail
        refine HS.out.mono ?_
        rintro e w5 ⟨rfl,hb5⟩
        have HO5:=Lib.hid (own_below HO.out hb5)
        have HB5:=Lib.hid (HB.out.trans (hb5.mono HB.out.size))
        clear hb5 HS
        go_wp2_with fail
        go_ret
        exact ⟨_,rfl,HO5.out,HB5.out⟩
end Go.Proofs.YtmdgeknnhckgfaaGreatDoor
namespace Go.Proofs.YtmdgeknnhckgfaaGreatDoor
open Go Go.RowKit
variable {w w':World} {p N:Nat} {L:List Hs} {d:MD}
def RMs (w:World) (c:Cl) (l:List Ses) (A:Option Addr) (cap lb:Nat) (iv:Value) (W:World):Prop :=
  ∃ (k:Nat) (tv:Value),k≤l.length∧iv=.int .i64 (k:Nat)∧Blk W lb (ansArr (ansT tv)) 35∧W.ownsRow w.heap.size 9 1 tv (toksK l c.usr k).length (strArgs (toksK l c.usr k))∧Box w W 7 c.ten c.tok c.usr c.dat c.ttl c.frm c.draw∧W.ownsRow 0 90 4 (.slice A l.length cap) l.length (sesArgs l)∧w.heap.size+1<lb
set_option maxRecDepth 100000 in
set_option maxHeartbeats 4000000 in
theorem mod_list (r:MIs w p N L d) {i:Nat} {h:Hs} (hi:L[i]?=some h) (hs:Sorted h.ses) (hsl:h.ses.length≤256) (c:Cl) (hc:c.Ok) (hz:∀ s∈h.ses,s.tok.size≤maxLen) (hkd:c.kind=7) (now:Nat) :
    Calls Tryz.prog 100 #[.pointer (some ⟨d.hb i,0,none⟩),clV c,.int .u64 (now:Nat)] w (MDo w p N L d i ((listN h c now).1,L.set i (listN h c now).2)):=by
  obtain ⟨i0,ii,iz0,iz1,iz2⟩:=info_parts Tryz.info9
  have HR:=Lib.hid r
  have t1:=two_blocks w 7 c.ten c.tok c.usr c.dat c.ttl c.frm c.draw
  have bx0:Box w _ 7 c.ten c.tok c.usr c.dat c.ttl c.frm c.draw:=⟨t1.1,t1.2.1,t1.2.2⟩
  have B0:=Lib.hid bx0
  have hset:L.set i h=L:=set_self hi
  have HNm:=Lib.hid (mod_Name c.usr hc.usr)
  have HL:=fun W (hb:Below w.heap.size w W)=>mod_live (r.kept hb) hi hs hz (by omega) now
  have hll:=liveN_len h.ses now
  obtain ⟨post,hpost⟩:∃ x,x=listN h c now:=⟨_,rfl⟩
  rw [←hpost]
  unfold listN at hpost
  rw [←toksK_all] at hpost
  obtain ⟨l,hl⟩:∃ l,liveN h.ses now=l:=⟨_,rfl⟩
  rw [hl] at HL hpost hll
  have HLV:=Lib.hid HL
  unfold clV
  rw [hkd]
  clear t1 bx0 r hi hs hz HL hl
  cases hn:nameN c.usr with
  | false =>
    rw [if_pos hn] at hpost
    have hF:=Lib.hid (show (post.1,L.set i post.2)=(badA 400,L) by rw [hpost];simp only;rw [hset])
    rw [hn] at HNm
    clear hn hpost hset HLV
    go_enter Tryz.func100,Tryz.ntmps100
    go_wp2_with fail
    refine (HNm.out _).mono ?_
    rintro e w1 ⟨rfl,hb1⟩
    have BX:=B0.out.kept hb1
    clear hb1
    go_wp2_with fail
    refine (mod_refuse 400 _).mono ?_
    rintro e w9 ⟨rfl,hb9⟩
    have bx9:=BX.kept hb9
    go_wp2_with (refine wpList_store_blk rfl 35 (Operand.tmp 6) (Operand.tmp 14) rfl (w.heap.size+1) rfl zero14 _ 35 rfl bx9.ans (by exact Tryz.size35) rfl (by simp [ansArr,Ans.zero,Value.oneCell']) ?_;intro w10 hk10 ho10 hs10)
    refine body_cell rfl rfl rfl hk10 Tryz.underlying35 rfl (by exact Tryz.size35) ?_
    have hbx:Below w.heap.size w w10:=bx9.below.trans (ho10.below bx9.below.size (fun k hk=>by rw [hk];exact Nat.le_succ _))
    rw [anV_bad 400 (refN 400) rfl,hF.out]
    exact MDo.same HR.out i hbx (AnM.plain _ _ rfl rfl)
  | true =>
    rw [if_neg (by rw [hn];simp)] at hpost
    have hF:=Lib.hid (show (post.1,L.set i post.2)=({ status:=200,toks:=toksK l c.usr l.length },L) by rw [hpost];simp only;rw [hset])
    rw [hn] at HNm
    clear hn hpost hset
    go_enter Tryz.func100,Tryz.ntmps100
    go_wp2_with fail
    refine (HNm.out _).mono ?_
    rintro e w1 ⟨rfl,hb1⟩
    have HBX:=Lib.hid (B0.out.kept hb1)
    clear hb1 HNm B0
    go_wp2_with (refine wpList_store_new rfl 35 (Operand.tmp 7) (Operand.tmp 15) rfl rfl (ansArr (ansT (.slice none 0 0))) rfl (by exact Tryz.size35) rfl (by simp [ansArr,ansT,Value.oneCell']) ?_;intro w2 hk2 hb2 hs2)
    refine (HLV.out _ ((HBX.out.kept hb2).below)).mono ?_
    rintro e w3 ⟨v,rfl,hown,hb3⟩
    obtain ⟨A,cap,rfl⟩:=own_form hown
    have HBX3:=Lib.hid ((HBX.out.kept hb2).kept hb3)
    have HK3:=Lib.hid (hk2.kept hb3)
    have hlb:w.heap.size+1<w1.heap.size:=HBX.out.ans.lt
    have HO:=Lib.hid (own_base hown (Nat.zero_le _))
    obtain ⟨lb,hlbe⟩:∃ x,w1.heap.size=x:=⟨_,rfl⟩
    rw [hlbe] at HK3 hlb ⊢
    clear hown hb3 hk2 hb2 hs2 HBX HLV hlbe
    go_wp2_with fail
    go_loopw [20] (RMs w c l A cap lb) (fun v _=>l.length - (intOf v).toNat)
    case atStart=>exact ⟨0,_,Nat.zero_le _,rfl,HK3.out,by exact World.ownsRow_nil _ _ _ _,HBX3.out,HO.out,hlb⟩
    case round =>
      obtain ⟨k,tv,hk,rfl,hblk,hown,BX,hrow,_⟩:=hrel
      obtain ⟨A2,cap2,rfl⟩:=own_form hown
      have tl:=toksK_len l c.usr k
      by_cases hlt:k<l.length
      · obtain ⟨s,hs⟩:=get_lt hlt
        obtain ⟨g,cap',e,hg,_,d0,d1,d2,d3⟩:=ses_at hrow hs
        cases e
        have hst:=toksK_step hs c.usr
        have HBX4:=Lib.hid BX
        have HBL:=Lib.hid hblk
        have HOW:=Lib.hid hown
        have HRW:=Lib.hid hrow
        have kl:(k:Int)<(l.length:Int):=by omega
        clear hblk hown BX hrow hs
        obtain ⟨m,hm⟩:∃ m,(toksK l c.usr k).length=m:=⟨_,rfl⟩
        rw [hm] at tl HBL HOW
        have HM:=Lib.hid hm
        have ml:(m:Int)<256:=by omega
        clear hm
        cases hq:(s.usr.toList == c.usr.toList) with
        | true =>
          have HST:=Lib.hid (show toksK l c.usr (k+1)=toksK l c.usr k++[s.tok] by rw [hst,if_pos (show usrEq c.usr s=true from hq)])
          clear hst
          have p1:=Lib.hid (show m+1≤maxLen by unfold maxLen;omega)
          have p2:=Lib.hid (show (m+1)*16≤140737488355328 by omega)
          go_wp2_with (first
            | (refine wpList_store_new rfl 90 (Operand.tmp 9) (Operand.tmp 23) rfl rfl (sesArr s) rfl (by exact Tryz.size90) rfl (by simp [sesArr,Value.oneCell']) ?_;intro w4 hk4 hb4 hs4;have z0:=hk4.cell 0 (.string s.tok) rfl;have z1:=hk4.cell 1 (.string s.usr) rfl;have HX4:=Lib.hid (HBX4.out.kept hb4);have HL4:=Lib.hid (HBL.out.kept hb4);have HO4:=Lib.hid (own_below HOW.out hb4);have HR4:=Lib.hid (own_below HRW.out hb4);have t7:=HL4.out.cell 7 (.slice A2 m cap2) rfl;have b3:=HX4.out.box.cell 3 (.string c.usr) rfl;have q2:=Lib.hid (Nat.le_trans HX4.out.below.size (Nat.le_succ _));clear hk4 hb4 hs4 d0 d1 d2 d3)
            | (at_builtin;refine wpList_append_row rfl _ _ 32 rfl w.heap.size 9 i0 _ 1 16 Tryz.underlying32 ii iz0 iz1 iz2 rfl (by decide) _ _ _ rfl (HO4.out.alloc _) ⟨w4.heap.size,0,none⟩ 1 1 [.string s.tok] rfl rfl (cells_new w4 [.string s.tok] 9) (by simp [Value.oneCell']) p1.out p2.out (by rw [World.size_alloc];exact q2.out) ?_))
          intro v' w6 own6 hgr hfr
          obtain ⟨A3,cap3,rfl⟩:=own_form own6
          have B1:Below w4.heap.size w4 (w4.alloc (.cells #[.string s.tok] 9)):=(Below.refl _ w4).alloc (Nat.le_refl _) _
          have ko1:=own_below HO4.out B1
          have kb1:=HL4.out.kept B1
          have kx1:=HX4.out.kept B1
          have kr1:=own_below HR4.out B1
          have tyn:∀ j t,Of (w4.alloc (.cells #[.string s.tok] 9)) j t→t≠9→some j≠(Value.slice A2 m cap2).ownBlock:=by
            intro j t hj hn e
            obtain ⟨cc,hcc⟩:=own_typed ko1 e.symm
            exact hj.ne (show Of (w4.alloc (.cells #[.string s.tok] 9)) j 9 from ⟨cc,_,hcc⟩) hn rfl
          have kb6:Blk w6 lb (ansArr (ansT (.slice A2 m cap2))) 35:=(hgr.block _ kb1.lt (tyn _ 35 ⟨_,_,kb1⟩ (by decide))).trans kb1
          have q6:=kb6.cell 7 (.slice A2 m cap2) rfl
          have f6:=kb6.frozen 7
          have kbf:Blk (w6.setCell ⟨lb,7,none⟩ (.slice A3 (m+1) cap3)) lb (ansArr (ansT (.slice A3 (m+1) cap3))) 35:=kb6.setCell 7 _
          have hbel:Below w.heap.size w (w6.setCell ⟨lb,7,none⟩ (.slice A3 (m+1) cap3)):=(kx1.below.grown hgr (by have:=kx1.below.size;omega) (fun j hj=>(ko1.lt j hj).1)).setCell (show w.heap.size≤(⟨lb,7,none⟩:Addr).block from by show w.heap.size≤lb;omega) _
          have kxf:Box w (w6.setCell ⟨lb,7,none⟩ (.slice A3 (m+1) cap3)) 7 c.ten c.tok c.usr c.dat c.ttl c.frm c.draw :=
            ⟨Blk.setCell_ne ((hgr.block _ kx1.box.lt (tyn _ 53 ⟨_,_,kx1.box⟩ (by decide))).trans kx1.box) (by omega) _ _,Blk.setCell_ne ((hgr.block _ kx1.ans.lt (tyn _ 35 ⟨_,_,kx1.ans⟩ (by decide))).trans kx1.ans) (by omega) _ _,hbel⟩
          have owf:=own_set own6 kb6 (by decide) 7 (.slice A3 (m+1) cap3)
          have krf:=own_set (own_block kr1 (w':=w6) (fun j hj=>by
            obtain ⟨cc,hcc⟩:=own_typed kr1 hj
            exact hgr.block j (lt_of_block hcc) (tyn j 90 ⟨_,_,hcc⟩ (by decide)))) kb6 (by decide) 7 (.slice A3 (m+1) cap3)
          have HFIN:=Lib.hid (And.intro kbf (And.intro kxf (And.intro owf krf)))
          clear kbf hbel kxf owf krf kb6 kr1 kx1 kb1 tyn own6 hgr hfr ko1 B1 z0 z1 t7 b3
          go_wp2_with fail
          go_roundw
          case rel =>
            obtain ⟨h1,h2,h3,h4⟩:=HFIN.out
            exact ⟨k+1,_,hlt,rfl,h1,by rw [HST.out,List.length_append,HM.out,strArgs_snoc];exact h3,h2,h4,hlb⟩
          case measure=>simp [intOf];omega
        | false =>
          have HST:=Lib.hid (show toksK l c.usr (k+1)=toksK l c.usr k by rw [hst,if_neg (by rw [show usrEq c.usr s=false from hq];simp)])
          clear hst
          go_wp2_with (refine wpList_store_new rfl 90 (Operand.tmp 9) (Operand.tmp 23) rfl rfl (sesArr s) rfl (by exact Tryz.size90) rfl (by simp [sesArr,Value.oneCell']) ?_;intro w4 hk4 hb4 hs4;have z1:=hk4.cell 1 (.string s.usr) rfl;have HX4:=Lib.hid (HBX4.out.kept hb4);have HL4:=Lib.hid (HBL.out.kept hb4);have HO4:=Lib.hid (own_below HOW.out hb4);have HR4:=Lib.hid (own_below HRW.out hb4);have b3:=HX4.out.box.cell 3 (.string c.usr) rfl;clear hk4 hb4 hs4 d0 d1 d2 d3)
          go_roundw
          case rel=>exact ⟨k+1,_,hlt,rfl,HL4.out,by rw [HST.out,HM.out];exact HO4.out,HX4.out,HR4.out,hlb⟩
          case measure=>simp [intOf];omega
      · have hK:k=l.length:=by omega
        subst hK
        have hlt':¬ ((l.length:Nat):Int)<(l.length:Int):=by omega
        have HBL:=Lib.hid hblk
        have HBX4:=Lib.hid BX
        have HOW:=Lib.hid hown
        clear hblk BX hown hrow
        go_wp2_with (first | (refine wpList_load_blk rfl 35 (Operand.tmp 7) rfl lb rfl 35 _ _ HBL.out Tryz.underlying35 rfl (by exact Tryz.size35) ?_) | (refine wpList_store_blk rfl 35 (Operand.tmp 6) (Operand.tmp 43) rfl (w.heap.size+1) rfl zero14 (ansArr (ansT (.slice A2 (toksK l c.usr l.length).length cap2))) 35 rfl HBX4.out.ans (by exact Tryz.size35) rfl (by simp [ansArr,ansT,Value.oneCell']) ?_;intro w11 hk11 ho11 hs11))
        refine body_cell rfl rfl rfl hk11 Tryz.underlying35 rfl (by exact Tryz.size35) ?_
        have hb11:Below w.heap.size w w11:=HBX4.out.below.trans (ho11.below HBX4.out.below.size (fun j hj=>by rw [hj];exact Nat.le_succ _))
        have ho12:wr.ownsRow w.heap.size 9 1 (Value.slice A2 (toksK l c.usr l.length).length cap2) (toksK l c.usr l.length).length (strArgs (toksK l c.usr l.length)):=HOW.out
        have ow11:w11.ownsRow w.heap.size 9 1 (Value.slice A2 (toksK l c.usr l.length).length cap2) (toksK l c.usr l.length).length (strArgs (toksK l c.usr l.length)):=own_block ho12 (fun j hj=>ho11.block j (ho12.lt j hj).2 (fun e=>by
          obtain ⟨cc,hcc⟩:=own_typed ho12 hj
          subst e
          exact (show Of wr (w.heap.size+1) 35 from ⟨_,_,HBX4.out.ans⟩).ne (show Of wr (w.heap.size+1) 9 from ⟨_,_,hcc⟩) (by decide) rfl))
        rw [hF.out]
        refine MDo.same HR.out i hb11 ⟨_,_,rfl,Reads.of_own ow11,(ReadsP.nil _ (fun _=>False) 4).1,fun b hb=>?_,fun b hb=>by cases hb⟩
        obtain ⟨cc,hcc⟩:=own_typed ow11 hb
        exact ⟨cc,_,hcc⟩
end Go.Proofs.YtmdgeknnhckgfaaGreatDoor
