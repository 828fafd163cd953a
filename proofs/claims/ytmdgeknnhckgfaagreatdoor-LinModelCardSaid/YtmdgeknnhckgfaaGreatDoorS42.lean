/-
  Parts of the proof of the law LinModel: LLiv, LNo, LTab.
-/
import Derived.Test.YtmdgeknnhckgfaaGreatDoorS11
import Derived.Test.YtmdgeknnhckgfaaGreatDoorS23
import Derived.Test.YtmdgeknnhckgfaaGreatDoorS34
import Derived.Test.YtmdgeknnhckgfaaGreatDoorS41
import Derived.PinnedBridge
import Derived.Lib.LaidSlice
import Derived.Lib.LaidU8
import Derived.Lib.LaidIn
import Derived.LaidHandle
import Derived.LaidLaws
set_option linter.unusedSimpArgs false
set_option linter.unusedVariables false
namespace Go.Proofs.YtmdgeknnhckgfaaGreatDoor
open Go Go.RowKit
def lvX:Array Value:=#[.int .i64 0,.int .i64 0,.int .i64 0,.int .i64 2,.int .i64 (-1),.int .u64 0,.bool true,.int .i64 1,.int .i64 0,.string ⟨#[]⟩,.string ⟨#[117]⟩,.string ⟨#[]⟩,.int .i64 9,.int .i64 0,.int .u64 0,
  .int .i64 204,.string ⟨#[]⟩,.string ⟨#[]⟩,.string ⟨#[]⟩,.string ⟨#[]⟩,.int .u64 0,.int .i64 0,.slice none 0 0,.slice none 0 0,.string ⟨#[]⟩,.int .i64 0,.int .i64 0,.int .i64 0,.int .i64 0,.int .i64 204,.int .i64 1]
def lvC:Array Value:=#[.int .i64 1,.int .i64 0,.string ⟨#[]⟩,.string ⟨#[117]⟩,.string ⟨#[]⟩,.int .i64 9,.int .i64 0,.int .u64 0]
def lvN:Array Value:=#[.int .i64 204,.string ⟨#[]⟩,.string ⟨#[]⟩,.string ⟨#[]⟩,.string ⟨#[]⟩,.int .u64 0,.int .i64 0,.slice none 0 0,.slice none 0 0,.string ⟨#[]⟩,.int .i64 0,.int .i64 0,.int .i64 0,.int .i64 0]
def lvS (v:Value) (A:Option Addr):Array Value:=#[.int .i64 0,v,.slice A 8 8,.int .i64 9,.int .u64 0]
def lvT (t e:Value):Array Value:=#[.int .i64 0,t,e]
def LvE (w:World) (g:Nat):Prop:=Blk w g #[.slice none 0 0,.slice none 0 0] 64
def LvT (w:World) (g:Nat):Prop:=∃ b A,Blk w g (lvS (row1 b) A) 50∧Blk w b lvX 55
def lvF (B:Nat):Nat→Value→World→Prop
  | 0,v,_=>∃ A,v=.slice A 8 8
  | 1,v,_=>v=.agg lvC
  | 2,v,_=>v=.agg lvN
  | 3,v,_=>v=.agg lvX
  | 4,v,w=>∃ b,v=row1 b∧Blk w b lvX 55
  | 5,v,w=>∃ b A,v=.agg (lvS (row1 b) A)∧Blk w b lvX 55
  | 6,v,w=>∃ g,B≤g∧v=row1 g∧LvT w g
  | 7,v,_=>v=.agg #[.slice none 0 0,.slice none 0 0]
  | 8,v,w=>∃ g,v=row1 g∧LvE w g
  | 9,v,w=>∃ g h,B≤g∧v=.agg (lvT (row1 g) (row1 h))∧LvT w g∧LvE w h
  | 10,v,w=>∃ p,B≤p∧v=.pointer (some ⟨p,0,none⟩)∧Blk w p (lvT (.slice none 0 0) (.slice none 0 0)) 46
  | _,_,_=>True
theorem lvF_kept (B:Nat):∀ (i:Nat) (v:Value) (w w':World),Below w.heap.size w w'→lvF B i v w→lvF B i v w'
  | 0,_,_,_,_,h=>h
  | 1,_,_,_,_,h=>h
  | 2,_,_,_,_,h=>h
  | 3,_,_,_,_,h=>h
  | 4,_,_,_,hb,⟨b,e,h⟩=>⟨b,e,h.kept hb⟩
  | 5,_,_,_,hb,⟨b,A,e,h⟩=>⟨b,A,e,h.kept hb⟩
  | 6,_,_,_,hb,⟨g,q,e,b,A,h,k⟩=>⟨g,q,e,b,A,h.kept hb,k.kept hb⟩
  | 7,_,_,_,_,h=>h
  | 8,_,_,_,hb,⟨g,e,h⟩=>⟨g,e,Blk.kept h hb⟩
  | 9,_,_,_,hb,⟨g,k,q,e,⟨b,A,h1,h2⟩,h3⟩=>⟨g,k,q,e,⟨b,A,h1.kept hb,h2.kept hb⟩,Blk.kept h3 hb⟩
  | 10,_,_,_,hb,⟨p,q,e,h⟩=>⟨p,q,e,h.kept hb⟩
  | _+11,_,_,_,_,_=>trivial
def lvCl:Cl:=⟨1,0,⟨#[]⟩,⟨#[117]⟩,⟨#[]⟩,9,0,0⟩
def lvA:Ask:=⟨0,2,0,lvCl,⟨204,⟨#[]⟩,⟨#[]⟩,⟨#[]⟩,⟨#[]⟩,0,0,[],[],⟨#[]⟩,0,0,0,0⟩,.slice none 0 0,.slice none 0 0,204⟩
theorem lvA_ok (w:World):AskOk w lvA where
  call:=⟨by decide,by decide,by decide,by decide,by decide,by decide,by decide,by decide⟩
  tick:=by decide
  nth:=by decide
  pt:=by decide
  tv:=⟨rfl,by decide,none,0,rfl,.inl rfl⟩
  ev:=⟨rfl,by decide,none,0,rfl,.inl rfl⟩
theorem lvA_rec:RecOk [lvA] 9 where
  len:=by decide
  nth:=by intro i x h;cases i with
    | zero=>simp at h;subst h;rfl
    | succ i=>simp at h
  rise:=by intro i j x y h1 h2 hij;cases j with
    | zero=>omega
    | succ j=>simp at h2
  top:=by intro x hx;simp at hx;subst hx;decide
  st:=by decide
theorem nil_rec:RecOk [] 9 where
  len:=by decide
  nth:=by intro i x h;simp at h
  rise:=by intro i j x y h1;simp at h1
  top:=by intro x hx;cases hx
  st:=by decide
theorem lv_none:thrN (newN [smT]) [lvA]=none:=by
  unfold thrN
  rw [if_neg]
  intro h
  have h1:=congrArg AG.status h
  have h2:(createN ⟨3,[],1,[]⟩ lvCl 0).1.status=204:=h1
  unfold createN badA at h2
  split at h2
  · cases h2
  · split at h2
    · cases h2
    · cases h2
theorem lv_check:checkN [smT]=0:=by kernel_rfl
structure LvIs (w:World) (C:Array Value) (c p g h:Nat) (g0:Nat) (l:List Ask) (v:Value) (A:Option Addr):Prop where
  c:Blk w c C 28
  ten:Reads w (.slice (some ⟨g0,0,none⟩) 1 1) 1 3 (tenArgs [smT])
  p:Blk w p (lvT (row1 g) (row1 h)) 46
  g:Blk w g (lvS v A) 50
  h:LvE w h
  r:Reads w v l.length 31 (askArgs l)
theorem LvIs.kept {w w':World} {C:Array Value} {c p g h g0:Nat} {l:List Ask} {v:Value} {A:Option Addr} (x:LvIs w C c p g h g0 l v A) (hb:Below w.heap.size w w'):LvIs w' C c p g h g0 l v A :=
  ⟨x.c.kept hb,x.ten.kept hb,x.p.kept hb,x.g.kept hb,Blk.kept x.h hb,x.r.kept hb⟩
theorem LvIs.tol {w:World} {C:Array Value} {c p g h g0:Nat} {l:List Ask} {v:Value} {A:Option Addr} (x:LvIs w C c p g h g0 l v A) (hl:l.length≤250) (hg:RecOk l 9) (hok:∀ y∈l,AskOk w y):TolIs w (some ⟨g,0,none⟩) 1 v l A 8 9 :=
  ⟨hg,hl,blk_reads x.g rfl,x.r,hok⟩
theorem LvIs.ends {w:World} {C:Array Value} {c p g h g0:Nat} {l:List Ask} {v:Value} {A:Option Addr} (x:LvIs w C c p g h g0 l v A):Reads w (.slice (some ⟨h,0,none⟩) 1 1) 1 2 (endArgs [(.slice none 0 0,.slice none 0 0)]):=blk_reads x.h rfl
theorem lv_endok (w:World):EndOk w (newN [smT]) [(.slice none 0 0,.slice none 0 0)] :=
  ⟨rfl,fun i h hi=>by
    cases i with
    | zero =>
      have:h=⟨3,[],1,[]⟩:=by simpa [newN,smT] using hi.symm
      subst this
      exact ⟨_,_,rfl,⟨rfl,by decide,none,0,rfl,.inl rfl⟩,⟨rfl,by decide,none,0,rfl,.inl rfl⟩⟩
    | succ i=>simp [newN] at hi⟩
theorem lv_Explain {T:Lib.PrintTabs} {w:World} (ht:Tabs T w) {c p g h g0:Nat} {l:List Ask} {v:Value} {A:Option Addr} (x:LvIs w (cfArr (.slice (some ⟨g0,0,none⟩) 1 1) smO) c p g h g0 l v A) (hl:l.length≤250) (hg:RecOk l 9) (hok:∀ y∈l,AskOk w y)
    (he:∀ L',thrN (newN [smT]) l=some L'→EndOk w L' [(.slice none 0 0,.slice none 0 0)]) (b:Nat) :
    Calls Tryz.prog 6 #[.agg (cfArr (.slice (some ⟨g0,0,none⟩) 1 1) smO),row1 b,.agg (lvT (row1 g) (row1 h))] w fun e w'=>Below w.heap.size w w'∧ExpP [smT] l e :=
  mod_Explain [smT] (by intro t ht;simp at ht;subst ht;decide) (by decide) (by decide) lv_check (lok_new lv_check) (some ⟨g0,0,none⟩) 1 smO x.ten (key_all ht 1 (by decide) _ _ _) _ 1 (some ⟨g,0,none⟩) 1 (some ⟨h,0,none⟩) 1 [(.slice none 0 0,.slice none 0 0)] v l A 8 9 (x.tol hl hg hok) x.ends he
set_option maxRecDepth 100000 in
set_option maxHeartbeats 4000000 in
theorem mod_lives {T:Lib.PrintTabs} {w:World} (ht:Tabs T w) :
    Calls Tryz.prog 5 #[] w fun e w'=>e=.returned (.bool true)∧Below w.heap.size w w':=by
  have HT:=Lib.hid ht
  clear ht
  have HSm:=Lib.hid (mod_Small w)
  go_enter Tryz.func5,Tryz.ntmps5
  go_wp2_with fail
  refine HSm.out.mono ?_
  rintro e w1 ⟨g0,rfl,hr,hb⟩
  have HR:=Lib.hid hr
  have HB:=Lib.hid hb
  clear hr hb HSm
  obtain ⟨C,hCe⟩:∃ C,cfArr (.slice (some ⟨g0,0,none⟩) 1 1) smO=C:=⟨_,rfl⟩
  have HCE:=Lib.hid hCe
  have HCS:=Lib.hid (show C.size=9 by rw [←hCe];rfl)
  have HONE:=Lib.hid (show C.all (·.oneCell')=true by rw [←hCe];simp [cfArr,Value.oneCell'])
  rw [hCe]
  clear hCe
  go_upto_region 2 with (refine wpList_store_new rfl 28 (Operand.tmp 1) (Operand.tmp 11) rfl rfl C rfl (by rw [HCS.out];exact Tryz.size28) (by rw [HCS.out];rfl) HONE.out ?_;intro w2 hk2 hb2 hs2;have HK2:=Lib.hid hk2;have HB2:=Lib.hid (HB.out.trans (hb2.mono HB.out.size));have HR2:=Lib.hid (HR.out.kept hb2);clear hk2 hb2 hs2)
  go_upto_region 3 with fail
  go_upto_region 4 with fail
  obtain ⟨w3,hw3⟩:∃ x,((w2.alloc (.cells #[.slice none 0 0,.slice none 0 0,.slice none 0 0,.slice none 0 0,.slice none 0 0,.int .i64 1,.int .i64 (-1),.int .i64 0,.slice none 0 0] 78)).alloc (.cells lvC 53))=x:=⟨_,rfl⟩
  have K3:Blk w3 (w2.heap.size+1) lvC 53:=by
    rw [←hw3]
    have:=Blk.new (w2.alloc (.cells #[.slice none 0 0,.slice none 0 0,.slice none 0 0,.slice none 0 0,.slice none 0 0,.int .i64 1,.int .i64 (-1),.int .i64 0,.slice none 0 0] 78)) lvC 53
    rw [World.size_alloc] at this
    exact this
  change Code.wp _ _ _ _ ((w2.alloc (.cells #[.slice none 0 0,.slice none 0 0,.slice none 0 0,.slice none 0 0,.slice none 0 0,.int .i64 1,.int .i64 (-1),.int .i64 0,.slice none 0 0] 78)).alloc (.cells lvC 53))
  rw [hw3]
  have hK3:=Lib.hid K3
  have HW3:=Lib.hid hw3
  clear hw3 K3
  refine region_rely_at [15,16,17,18,19,20,21,22,23,24,4] (lvF w3.heap.size) 11 (by kernel_rfl) (by kernel_rfl) (by kernel_rfl) (by kernel_rfl) (by simp only [putFrom,Act.put,pu1,pu2,pu3]) (lvF_kept _) ?_ ?_
  · intro i hi vals W hb hpre
    simp only [putFrom,Act.put,pu1,pu2,pu3,Nat.zero_add,Nat.reduceAdd]
    obtain rfl | rfl | rfl | rfl | rfl | rfl | rfl | rfl | rfl | rfl | rfl:i=0∨i=1∨i=2∨i=3∨i=4∨i=5∨i=6∨i=7∨i=8∨i=9∨i=10:=by omega
    all_goals (refine rely_op (by simp only [ga1,ga2,ga3];exact rfl) (by rfl) ?_;intro K hK)
    · clear hpre
      obtain ⟨A,W',hrun,hb'⟩:=lv_lines W
      go_simp
      exact hK.out _ _ ⟨_,rfl,hb',A,rfl⟩
    · clear hpre
      have c0:=((hK3.out.drew).kept hb)
      have q0:=c0.cell 0 _ rfl
      have q1:=c0.cell 1 _ rfl
      have q2:=c0.cell 2 _ rfl
      have q3:=c0.cell 3 _ rfl
      have q4:=c0.cell 4 _ rfl
      have q5:=c0.cell 5 _ rfl
      have q6:=c0.cell 6 _ rfl
      have q7:=c0.cell 7 _ rfl
      clear c0
      go_simp
      exact hK.out _ _ ⟨_,rfl,Below.refl _ _,rfl⟩
    · clear hpre
      go_simp
      exact hK.out _ _ ⟨_,rfl,Below.refl _ _,rfl⟩
    · have h1:vals 1=_:=hpre 1 (by kernel_rfl)
      have h2:vals 2=_:=hpre 2 (by kernel_rfl)
      clear hpre
      simp only [lvC,lvN] at h1 h2
      rw [h1,h2]
      go_simp
      exact hK.out _ _ ⟨_,by simp [updV,h1,h2]<;>rfl,Below.refl _ _,rfl⟩
    · have h1:vals 3=_:=hpre 3 (by kernel_rfl)
      clear hpre
      simp only [lvX] at h1
      rw [h1]
      go_simp
      exact hK.out _ _ ⟨_,by simp [updV,h1]<;>rfl,(Below.refl _ _).alloc (Nat.le_refl _) _,_,rfl,Blk.new _ _ _⟩
    · obtain ⟨A,h1⟩:∃ A,vals 0=.slice A 8 8:=hpre 0 (by kernel_rfl)
      obtain ⟨b,h2,k2⟩:∃ b,vals 4=row1 b∧Blk W b lvX 55:=hpre 4 (by kernel_rfl)
      clear hpre
      simp only [row1] at h2
      rw [h1,h2]
      go_simp
      exact hK.out _ _ ⟨_,by simp [updV,h1,h2]<;>rfl,Below.refl _ _,b,A,rfl,k2⟩
    · obtain ⟨b,A,h1,k1⟩:∃ b A,vals 5=.agg (lvS (row1 b) A)∧Blk W b lvX 55:=hpre 5 (by kernel_rfl)
      clear hpre
      simp only [lvS,row1] at h1
      rw [h1]
      go_simp
      exact hK.out _ _ ⟨_,by simp [updV,h1]<;>rfl,(Below.refl _ _).alloc (Nat.le_refl _) _,_,hb.size,rfl,b,A,Blk.new _ _ _,k1.alloc _⟩
    · clear hpre
      go_simp
      exact hK.out _ _ ⟨_,rfl,Below.refl _ _,rfl⟩
    · have h1:vals 7=_:=hpre 7 (by kernel_rfl)
      clear hpre
      rw [h1]
      go_simp
      exact hK.out _ _ ⟨_,by simp [updV,h1]<;>rfl,(Below.refl _ _).alloc (Nat.le_refl _) _,_,rfl,Blk.new _ _ _⟩
    · obtain ⟨g,hg,h1,k1⟩:∃ g,w3.heap.size≤g∧vals 6=row1 g∧LvT W g:=hpre 6 (by kernel_rfl)
      obtain ⟨h,h2,k2⟩:∃ g,vals 8=row1 g∧LvE W g:=hpre 8 (by kernel_rfl)
      clear hpre
      simp only [row1] at h1 h2
      rw [h1,h2]
      go_simp
      exact hK.out _ _ ⟨_,by simp [updV,h1,h2]<;>rfl,Below.refl _ _,g,h,hg,rfl,k1,k2⟩
    · clear hpre
      go_simp
      exact hK.out _ _ ⟨_,rfl,(Below.refl _ _).alloc (Nat.le_refl _) _,_,hb.size,rfl,Blk.new _ _ _⟩
  · intro vals W hb hpre
    obtain ⟨g,h,hg,h9,⟨b,A,kg,kb⟩,kh⟩:∃ g h,w3.heap.size≤g∧vals 9=.agg (lvT (row1 g) (row1 h))∧LvT W g∧LvE W h:=hpre 9 (by decide)
    obtain ⟨p,hp,h10,kp⟩:∃ p,w3.heap.size≤p∧vals 10=.pointer (some ⟨p,0,none⟩)∧Blk W p (lvT (.slice none 0 0) (.slice none 0 0)) 46:=hpre 10 (by decide)
    clear hpre
    simp only [putFrom,Act.put,pu1,pu2,pu3,Nat.zero_add,Nat.reduceAdd]
    rw [h9,h10]
    refine rely_op (by simp only [ga1,ga2,ga3];exact rfl) (by rfl) ?_
    intro K hK
    refine oper_store_blk 46 (Operand.tmp 4) (Operand.tmp 24) rfl p rfl (lvT (.slice none 0 0) (.slice none 0 0)) (lvT (row1 g) (row1 h)) 46 rfl kp (by exact Tryz.size46) rfl (by simp [lvT,row1,Value.oneCell']) ?_
    intro w4 k4 o4 s4
    refine hK.out _ _ ?_
    clear hK K
    simp only [Act.put]
    have B3:Below w2.heap.size w2 w3:=by
      rw [←HW3.out]
      exact ((Below.refl _ _).alloc (Nat.le_refl _) _).alloc (by simp) _
    have B2W:Below w2.heap.size w2 W:=B3.trans (((Below.refl _ _).drew.trans hb).mono B3.size)
    have ne:∀ k t,Of W k t→t≠46→k≠p:=fun k t ho hn=>ho.ne (show Of W p 46 from ⟨_,_,kp⟩) hn
    have keep:∀ {k t arr},Blk W k arr t→t≠46→Blk w4 k arr t:=fun {k t arr} hk hn=>(o4.block k hk.lt (ne k t ⟨_,_,hk⟩ hn)).trans hk
    have ow4:Below w2.heap.size w2 w4:=by
      exact B2W.trans (o4.below B2W.size (fun k hk=>by subst hk;exact Nat.le_trans B3.size hp))
    have X4:=Lib.hid (show LvIs w4 C w1.heap.size p g h g0 [lvA] (row1 b) A from ⟨HK2.out.kept ow4,HR2.out.kept ow4,k4,keep kg (by decide),keep kh (by decide),by rw [show askArgs [lvA]=lvX.toList from rfl];exact blk_reads (keep kb (by decide)) rfl⟩)
    have HB4:=Lib.hid (HB2.out.trans (ow4.mono HB2.out.size))
    have HGB:=Lib.hid (show w.heap.size≤g∧g0<g from by
      have h1:=HB2.out.size
      have h2:=B3.size
      obtain ⟨_,_,A',c',e',h3⟩:=HR2.out
      cases e'
      rcases h3 with h3 | ⟨b',o',e',h4,_⟩
      · cases h3
      · cases e'
        omega)
    clear B3 B2W ne keep ow4 k4 o4 s4 kp kg kb kh h9 h10 hb
    have HT4:=Lib.hid (HT.out.kept HB4.out)
    have hE1:=lv_Explain HT4.out (by have h:=X4.out;rw [←HCE.out] at h;exact h) (by decide) lvA_rec (fun y hy=>by simp at hy;subst hy;exact lvA_ok _) (fun L' h=>by rw [lv_none] at h;cases h) w2.heap.size
    rw [HCE.out] at hE1
    have HE1:=Lib.hid hE1
    clear hE1
    have HP:=Lib.hid (show (lvT (row1 g) (row1 h)).size=3 from rfl)
    unfold row1 at HE1
    unfold lvT at HE1
    go_wp2_with (first
      | (refine wpList_load_blk rfl 28 (Operand.tmp 1) rfl w1.heap.size rfl 28 _ _ X4.out.c Tryz.underlying28 rfl (by rw [HCS.out];exact Tryz.size28) ?_)
      | (refine wpList_load_blk rfl 46 (Operand.tmp 4) rfl p rfl 46 _ _ X4.out.p Tryz.underlying46 rfl (by exact Tryz.size46) ?_))
    refine HE1.out.mono ?_
    rintro e w5 ⟨hb5,⟨_,rfl⟩ | ⟨L',hL',_⟩⟩
    rotate_left
    · rw [lv_none] at hL';cases hL'
    have X5:=Lib.hid (X4.out.kept hb5)
    have HB5:=Lib.hid (HB4.out.trans (hb5.mono HB4.out.size))
    clear hb5 X4 HE1 HB4
    have hO:=mod_Order w5 C (some ⟨w2.heap.size,0,none⟩) 1 (some ⟨g,0,none⟩) 1 (row1 h) (row1 b) [lvA] A 8 9 lvA_rec (blk_reads X5.out.g rfl) X5.out.r (fun y hy=>by simp at hy;subst hy;exact lvA_ok _)
    unfold row1 at hO
    have HO:=Lib.hid hO
    clear hO
    go_wp2_with (first
      | (refine wpList_load_blk rfl 28 (Operand.tmp 1) rfl w1.heap.size rfl 28 _ _ X5.out.c Tryz.underlying28 rfl (by rw [HCS.out];exact Tryz.size28) ?_)
      | (refine wpList_load_blk rfl 46 (Operand.tmp 4) rfl p rfl 46 _ _ X5.out.p Tryz.underlying46 rfl (by exact Tryz.size46) ?_))
    refine HO.out.mono ?_
    rintro e w6 ⟨rfl,hb6⟩
    have X6:=Lib.hid (X5.out.kept hb6)
    have HB6:=Lib.hid (HB5.out.trans (hb6.mono HB5.out.size))
    have y1:=X6.out.p.cell 1 (row1 g) rfl
    have z1:=X6.out.g.cell 1 (row1 b) rfl
    have zf:=X6.out.g.frozen 1
    unfold row1 at y1 z1
    have ylt:=X6.out.p.lt
    have zlt:=X6.out.g.lt
    clear hb6 X5 HO HB5
    go_upto_region 8 with fail
    have o7:Only (fun k=>k=g) w6 (w6.setCell ⟨g,1,none⟩ (.slice none 0 0)):=Only.setCell (S:=fun k=>k=g) (Only.refl _ w6) (.inl rfl) 1 _
    have ne7:∀ k t,Of w6 k t→t≠50→k≠g:=fun k t ho hn=>ho.ne (show Of w6 g 50 from ⟨_,_,X6.out.g⟩) hn
    have X7:=Lib.hid (show LvIs (w6.setCell ⟨g,1,none⟩ (.slice none 0 0)) C w1.heap.size p g h g0 [] (.slice none 0 0) A from
      ⟨X6.out.c.setCell_ne (ne7 _ 28 ⟨_,_,X6.out.c⟩ (by decide)) 1 _,ReadsP.only (S:=fun k=>k=g) ⟨X6.out.ten,fun b hb _ hs=>by
        have:g0=b:=by simpa [Value.ownBlock] using hb
        have:=HGB.out.2
        omega⟩ o7 (fun _ h=>h),X6.out.p.setCell_ne (ne7 _ 46 ⟨_,_,X6.out.p⟩ (by decide)) 1 _,X6.out.g.setCell 1 _,Blk.setCell_ne X6.out.h (ne7 _ 64 ⟨_,_,X6.out.h⟩ (by decide)) 1 _,⟨rfl,by decide,none,0,rfl,.inl rfl⟩⟩)
    have HB7:=Lib.hid (HB6.out.trans (o7.below HB6.out.size (fun k hk=>by subst hk;exact HGB.out.1)))
    clear y1 z1 zf ylt zlt X6 HB6 o7 ne7
    generalize w6.setCell ⟨g,1,none⟩ (.slice none 0 0)=w7 at X7 HB7 ⊢
    have HT7:=Lib.hid (HT.out.kept HB7.out)
    have hE1:=lv_Explain HT7.out (by have h:=X7.out;rw [←HCE.out] at h;exact h) (by decide) nil_rec (fun y hy=>by cases hy) (fun L' h=>by cases h;exact lv_endok _) w2.heap.size
    rw [HCE.out] at hE1
    have HE1:=Lib.hid hE1
    clear hE1
    unfold row1 at HE1
    unfold lvT at HE1
    go_wp2_with (first
      | (refine wpList_load_blk rfl 28 (Operand.tmp 1) rfl w1.heap.size rfl 28 _ _ X7.out.c Tryz.underlying28 rfl (by rw [HCS.out];exact Tryz.size28) ?_)
      | (refine wpList_load_blk rfl 46 (Operand.tmp 4) rfl p rfl 46 _ _ X7.out.p Tryz.underlying46 rfl (by exact Tryz.size46) ?_))
    refine HE1.out.mono ?_
    rintro e w8 ⟨hb8,⟨hn,_⟩ | ⟨L',hL',rfl⟩⟩
    · cases hn
    have X8:=Lib.hid (X7.out.kept hb8)
    have HB8:=Lib.hid (HB7.out.trans (hb8.mono HB7.out.size))
    have HT8:=Lib.hid (HT.out.kept HB8.out)
    clear hb8 X7 HE1 HB7 hL'
    have hW:=mod_Worlds [smT] (by intro t ht;simp at ht;subst ht;decide) (by decide) (by decide) lv_check (lok_new lv_check) (some ⟨g0,0,none⟩) 1 smO X8.out.ten (key_all HT8.out 1 (by decide) _ _ _) (some ⟨g,0,none⟩) 1 (row1 h) (.slice none 0 0) [] A 8 9 (X8.out.tol (by decide) nil_rec (fun y hy=>by cases hy)) (by simp [thrN])
    change Calls Tryz.prog 13 #[.agg #[.slice (some ⟨g0,0,none⟩) 1 1,.int .i64 64,.int .i64 2,.int .i64 8,.int .i64 600,.int .i64 2,.int .i64 2000,.int .i64 2,.int .i64 4194304],.agg #[.int .i64 0,.slice (some ⟨g,0,none⟩) 1 1,.slice (some ⟨h,0,none⟩) 1 1]] w8 _ at hW
    have HW:=Lib.hid hW
    clear hW
    go_upto_region 9 with fail
    have c0:=X8.out.c.cell 0 (.slice (some ⟨g0,0,none⟩) 1 1) (by rw [←HCE.out];rfl)
    have c1:=X8.out.c.cell 1 (.int .i64 64) (by rw [←HCE.out];rfl)
    have c2:=X8.out.c.cell 2 (.int .i64 2) (by rw [←HCE.out];rfl)
    have c3:=X8.out.c.cell 3 (.int .i64 8) (by rw [←HCE.out];rfl)
    have c4:=X8.out.c.cell 4 (.int .i64 600) (by rw [←HCE.out];rfl)
    have c5:=X8.out.c.cell 5 (.int .i64 2) (by rw [←HCE.out];rfl)
    have c6:=X8.out.c.cell 6 (.int .i64 2000) (by rw [←HCE.out];rfl)
    have c7:=X8.out.c.cell 7 (.int .i64 2) (by rw [←HCE.out];rfl)
    have c8:=X8.out.c.cell 8 (.int .i64 4194304) (by rw [←HCE.out];rfl)
    have p0:=X8.out.p.cell 0 (.int .i64 0) rfl
    have p1:=X8.out.p.cell 1 (.slice (some ⟨g,0,none⟩) 1 1) rfl
    have p2:=X8.out.p.cell 2 (.slice (some ⟨h,0,none⟩) 1 1) rfl
    go_wp2_with fail
    refine HW.out.mono ?_
    rintro e w9 ⟨rfl,hb9⟩
    have HB9:=Lib.hid (HB8.out.trans (hb9.mono HB8.out.size))
    clear c0 c1 c2 c3 c4 c5 c6 c7 c8 p0 p1 p2 hb9 HW X8
    go_wp2_with fail
    go_ret
    exact ⟨rfl,HB9.out⟩
set_option maxRecDepth 100000 in
set_option maxHeartbeats 4000000 in
theorem law_no {T:Lib.PrintTabs} {w:World} (ht:Tabs T w) {Ts:List Ten} {TA:Option Addr} {TC:Nat} {CA:Option Addr} {CC:Nat} {cls:List Cl} {KA:Option Addr} {KC:Nat} {tks:List Nat} {wh:Int} {oth:AG} {otv oev:Value} (h:LArg w Ts TA TC CA CC cls KA KC tks wh oth otv oev) (o:Cf) (hck:checkN Ts=1) :
    Calls Tryz.prog 3 #[.agg (cfArr (.slice TA Ts.length TC) o),.slice CA cls.length CC,.slice KA tks.length KC,.int .i64 wh,.agg (agArr oth otv oev)] w fun e w'=>e=.returned (.bool true)∧Below w.heap.size w w':=by
  have HT:=Lib.hid ht
  have HA:=Lib.hid h
  have HCK:=Lib.hid hck
  obtain ⟨C,hCe⟩:∃ C,cfArr (.slice TA Ts.length TC) o=C:=⟨_,rfl⟩
  obtain ⟨O,hOe⟩:∃ O,agArr oth otv oev=O:=⟨_,rfl⟩
  have HCE:=Lib.hid hCe
  have HCS:=Lib.hid (show C.size=9 by rw [←hCe];rfl)
  rw [hCe,hOe]
  have HB0:=Lib.hid (((Below.refl _ w).alloc (Nat.le_refl _) (.cells C 28)).alloc (by simp) (.cells O 35))
  have HK0:=Lib.hid ((Blk.new w C 28).alloc (.cells O 35))
  clear ht h hck hCe hOe
  go_enter Tryz.func3,Tryz.ntmps3
  go_upto_region 1 with fail
  generalize (w.alloc (.cells C 28)).alloc (.cells O 35)=W0 at HB0 HK0 ⊢
  have x0:=HK0.out.cell 0 (.slice TA Ts.length TC) (by rw [←HCE.out];rfl)
  go_wp2_with fail
  refine (ref_New (.slice TA Ts.length TC) Ts W0 (HA.out.kept HB0.out).tr).mono ?_
  rintro e w1 ⟨hb1,⟨_,rfl⟩ | ⟨hyes,_⟩⟩
  rotate_left
  · have:=HCK.out;rw [hyes] at this;cases this
  rw [HCK.out]
  have HB1:=Lib.hid (HB0.out.trans (hb1.mono HB0.out.size))
  have HK1:=Lib.hid (HK0.out.kept hb1)
  clear hb1 x0 HK0 HB0
  go_wp2_with fail
  refine (mod_lives (HT.out.kept HB1.out)).mono ?_
  rintro e w2 ⟨rfl,hb2⟩
  have HB2:=Lib.hid (HB1.out.trans (hb2.mono HB1.out.size))
  have HK2:=Lib.hid (HK1.out.kept hb2)
  clear hb2 HK1 HB1
  have HEx:=mod_Explain0 (w:=w2) Ts (HA.out.tn) HCK.out TA TC o (HA.out.kept HB2.out).tr
  rw [HCE.out] at HEx
  replace HEx:=Lib.hid HEx
  go_wp2_with (refine wpList_load_blk rfl 28 (Operand.tmp 5) rfl w.heap.size rfl 28 _ _ HK2.out Tryz.underlying28 rfl (by rw [HCS.out];exact Tryz.size28) ?_)
  refine HEx.out.mono ?_
  rintro e w3 ⟨rfl,hb3⟩
  have HB3:=Lib.hid (HB2.out.trans (hb3.mono HB2.out.size))
  clear hb3 HEx HK2
  go_wp2_with fail
  go_ret
  exact ⟨rfl,HB3.out⟩
end Go.Proofs.YtmdgeknnhckgfaaGreatDoor
namespace Go.Proofs.YtmdgeknnhckgfaaGreatDoor
open Go Go.RowKit Go.Lib
theorem pow10_eq:(Rows.laid_internal_strconv_uint64pow10:DataW Unit)=tabData .u64 pow10Tab:=by kernel_rfl
theorem accept_eq:(Rows.laid_unicode_utf8_acceptRanges:DataW Unit)=acceptData:=by kernel_rfl
theorem graphic_eq:Pinned.isGraphic=sliceData .u16 Pinned.isGraphicZ:=by kernel_rfl
def lawLaid:List (String×DataW Unit):=[("math/bits.deBruijn32tab",Rows.laid_math_bits_deBruijn32tab),("math/bits.deBruijn64tab",Rows.laid_math_bits_deBruijn64tab),("internal/strconv.uint64pow10",Rows.laid_internal_strconv_uint64pow10),("unicode/utf8.acceptRanges",Rows.laid_unicode_utf8_acceptRanges),
  ("strconv.isGraphic",sliceData .u16 Pinned.isGraphicZ),("strconv.isNotPrint16",sliceData .u16 goPrintTabs.n16),("strconv.isNotPrint32",sliceData .u16 goPrintTabs.n32),("strconv.isPrint16",sliceData .u16 goPrintTabs.p16),("strconv.isPrint32",sliceData .u32 goPrintTabs.p32),("unicode/utf8.first",firstData)]
theorem laid_eq:Rows.linModelRow.laid=lawLaid:=by
  show [_,_,_,_,("strconv.isGraphic",Pinned.isGraphic),("strconv.isNotPrint16",Pinned.isNotPrint16),("strconv.isNotPrint32",Pinned.isNotPrint32),("strconv.isPrint16",Pinned.isPrint16),("strconv.isPrint32",Pinned.isPrint32),("unicode/utf8.first",Pinned.utf8First)]=_
  rw [graphic_eq,Pinned.isNotPrint16_eq,Pinned.isNotPrint32_eq,Pinned.isPrint16_eq,Pinned.isPrint32_eq,Pinned.utf8First_eq]
  rfl
theorem laidH_iff (w:World):laidMetH Tryz.prog Rows.linModelRow.laid w↔laidMet Tryz.prog lawLaid w:=by
  rw [laid_eq]
  unfold laidMetH
  rw [show (lawLaid.filter fun x=>x.2.handleName?.isSome)=[] by kernel_rfl]
theorem tab_of_reads {w:World} {name:String} {k:IntKind} {zs:List Int} {g:Nat} {t e:TypeId} {n:Nat} (hg:Tryz.prog.globalNamed name=some g) (hty:(Tryz.prog.globals[g]?).map (·.type)=some t) (ht:Tryz.prog.underlying t=some (.array n e)) (he:Tryz.prog.underlying e=some (.int k)) (hce:Tryz.prog.cellsOf e=1) (hct:Tryz.prog.cellsOf t=n)
    (h:VarReads Tryz.prog w name (tabData k zs)):TabIs Tryz.prog w name k zs:=by
  obtain ⟨g',t',cs,fuel,p,hg',ht',hvar,hd⟩:=h
  obtain rfl:=Option.some.inj (hg.symm.trans hg')
  obtain rfl:=Option.some.inj (hty.symm.trans ht')
  unfold TabIs
  rw [hvar,←cells_of_tab ht he hce hct hd]
set_option maxRecDepth 100000 in
theorem tabs_of {w:World} (hL:laidMet Tryz.prog lawLaid w):Tabs goPrintTabs w where
  p10:=tab_of_reads (g:=0) (t:=228) (e:=31) (n:=20) (by kernel_rfl) (by kernel_rfl) (by kernel_rfl) (by kernel_rfl) (by kernel_rfl) (by kernel_rfl) (by
    rw [←pow10_eq]
    exact laidMet.reads hL (.tail _ (.tail _ (.head _))))
  pr:=printTabs_of_reads (ρ:=Tryz.lays339_ren) Tryz.lays339 ⟨by kernel_rfl,by kernel_rfl,by kernel_rfl,by kernel_rfl,by kernel_rfl,by kernel_rfl,by kernel_rfl,by kernel_rfl,by kernel_rfl,by kernel_rfl⟩
    (laidMet.reads hL (.tail _ (.tail _ (.tail _ (.tail _ (.tail _ (.tail _ (.tail _ (.head _)))))))))
    (laidMet.reads hL (.tail _ (.tail _ (.tail _ (.tail _ (.tail _ (.head _)))))))
    (laidMet.reads hL (.tail _ (.tail _ (.tail _ (.tail _ (.tail _ (.tail _ (.tail _ (.tail _ (.head _))))))))))
    (laidMet.reads hL (.tail _ (.tail _ (.tail _ (.tail _ (.tail _ (.tail _ (.head _))))))))
  u8:=utf8Tabs_of_reads (ρ:=Tryz.lays260_ren) Tryz.lays260 ⟨by kernel_rfl,by kernel_rfl,by kernel_rfl,by kernel_rfl,by kernel_rfl,by kernel_rfl,by kernel_rfl⟩
    (laidMet.reads hL (.tail _ (.tail _ (.tail _ (.tail _ (.tail _ (.tail _ (.tail _ (.tail _ (.tail _ (.head _)))))))))))
    (by rw [←accept_eq];exact laidMet.reads hL (.tail _ (.tail _ (.tail _ (.head _)))))
noncomputable def laidWorld (os:Os):World :=
  let N:=(World.settled Tryz.prog os).heap.size
  let w0:=World.holding Tryz.prog os ⟨#[.cells (intCellsOf .u16 Pinned.isGraphicZ) 254,.cells (intCellsOf .u16 goPrintTabs.n16) 254,.cells (intCellsOf .u16 goPrintTabs.n32) 254,.cells (intCellsOf .u16 goPrintTabs.p16) 254,.cells (intCellsOf .u32 goPrintTabs.p32) 176],#[],[]⟩
  let put (h:Array Obj) (g:Nat) (cs:Array Value):Array Obj:=h.modify g fun
    | .cells _ t frozen=>.cells cs t frozen
    | o=>o
  let h0:=put w0.heap 0 (pow10Tab.map fun z=>Value.int .u64 z).toArray
  let h1:=put h0 1 (#[0,1,28,2,29,14,24,3,30,22,20,15,25,17,4,8,31,27,13,23,21,19,16,7,26,12,18,6,11,5,10,9].map fun (z:Int)=>Value.int .u8 z)
  let h2:=put h1 2 (#[0,1,56,2,57,49,28,3,61,58,42,50,38,29,17,4,62,47,59,36,45,43,51,22,53,39,33,30,24,18,12,5,63,55,48,27,60,41,37,16,46,35,44,21,52,32,23,11,54,26,40,15,34,20,31,10,25,14,19,9,13,8,7,6].map fun (z:Int)=>Value.int .u8 z)
  let h3:=put h2 3 (firstTab.map fun z=>Value.int .u8 z).toArray
  let h4:=put h3 4 ((List.range 16).flatMap fun i=>[Value.int .u8 (accLo i),Value.int .u8 (accHi i)]).toArray
  let h5:=put h4 9 #[.slice (some ⟨N,0,none⟩) Pinned.isGraphicZ.length Pinned.isGraphicZ.length]
  let h6:=put h5 6 #[.slice (some ⟨N+1,0,none⟩) goPrintTabs.n16.length goPrintTabs.n16.length]
  let h7:=put h6 8 #[.slice (some ⟨N+2,0,none⟩) goPrintTabs.n32.length goPrintTabs.n32.length]
  let h8:=put h7 5 #[.slice (some ⟨N+3,0,none⟩) goPrintTabs.p16.length goPrintTabs.p16.length]
  let h9:=put h8 7 #[.slice (some ⟨N+4,0,none⟩) goPrintTabs.p32.length goPrintTabs.p32.length]
  { w0 with heap:=h9 }
noncomputable abbrev N0:Nat:=(World.settled Tryz.prog default).heap.size
noncomputable abbrev laidMem (os:Os) (args:Array Value):World:=((laidWorld os).forCall (fun _ _=>0) ⟨#[],args,[]⟩).memory
theorem piece0 (os:Os) (args:Array Value):LaidIn Tryz.prog (laidMem os args) [("math/bits.deBruijn32tab",Rows.laid_math_bits_deBruijn32tab),("math/bits.deBruijn64tab",Rows.laid_math_bits_deBruijn64tab),("internal/strconv.uint64pow10",Rows.laid_internal_strconv_uint64pow10),("unicode/utf8.acceptRanges",Rows.laid_unicode_utf8_acceptRanges)] [1,2,0,4] :=
  LaidIn.of_run [1,2,0,4] 8 (by kernel_rfl) (by kernel_rfl) (by kernel_rfl) (by kernel_rfl)
theorem piece1 (os:Os) (args:Array Value):LaidIn Tryz.prog (laidMem os args) [("unicode/utf8.first",firstData)] [3] :=
  LaidIn.of_run [3] 8 (by kernel_rfl) (by kernel_rfl) (by kernel_rfl) (by kernel_rfl)
set_option maxRecDepth 1000000 in
theorem piece2 (os:Os) (args:Array Value):LaidIn Tryz.prog (laidMem os args) [("strconv.isGraphic",sliceData .u16 Pinned.isGraphicZ)] [9,N0] :=
  laidIn_slice (t:=255) (e:=254) (te:=254) Pinned.isGraphicZ N0 (by kernel_rfl) (by kernel_rfl) (by kernel_rfl) (by kernel_rfl) (by kernel_rfl) (by kernel_rfl) (by kernel_rfl) (by kernel_rfl) (of_decide_eq_true (by kernel_rfl)) (of_decide_eq_true (by kernel_rfl))
set_option maxRecDepth 1000000 in
theorem piece3 (os:Os) (args:Array Value):LaidIn Tryz.prog (laidMem os args) [("strconv.isNotPrint16",sliceData .u16 goPrintTabs.n16)] [6,N0+1] :=
  laidIn_slice (t:=255) (e:=254) (te:=254) goPrintTabs.n16 (N0+1) (by kernel_rfl) (by kernel_rfl) (by kernel_rfl) (by kernel_rfl) (by kernel_rfl) (by kernel_rfl) (by kernel_rfl) (by kernel_rfl) (of_decide_eq_true (by kernel_rfl)) (of_decide_eq_true (by kernel_rfl))
set_option maxRecDepth 1000000 in
theorem piece4 (os:Os) (args:Array Value):LaidIn Tryz.prog (laidMem os args) [("strconv.isNotPrint32",sliceData .u16 goPrintTabs.n32)] [8,N0+2] :=
  laidIn_slice (t:=255) (e:=254) (te:=254) goPrintTabs.n32 (N0+2) (by kernel_rfl) (by kernel_rfl) (by kernel_rfl) (by kernel_rfl) (by kernel_rfl) (by kernel_rfl) (by kernel_rfl) (by kernel_rfl) (of_decide_eq_true (by kernel_rfl)) (of_decide_eq_true (by kernel_rfl))
set_option maxRecDepth 1000000 in
theorem piece5 (os:Os) (args:Array Value):LaidIn Tryz.prog (laidMem os args) [("strconv.isPrint16",sliceData .u16 goPrintTabs.p16)] [5,N0+3] :=
  laidIn_slice (t:=255) (e:=254) (te:=254) goPrintTabs.p16 (N0+3) (by kernel_rfl) (by kernel_rfl) (by kernel_rfl) (by kernel_rfl) (by kernel_rfl) (by kernel_rfl) (by kernel_rfl) (by kernel_rfl) (of_decide_eq_true (by kernel_rfl)) (of_decide_eq_true (by kernel_rfl))
set_option maxRecDepth 1000000 in
theorem piece6 (os:Os) (args:Array Value):LaidIn Tryz.prog (laidMem os args) [("strconv.isPrint32",sliceData .u32 goPrintTabs.p32)] [7,N0+4] :=
  laidIn_slice (t:=257) (e:=176) (te:=176) goPrintTabs.p32 (N0+4) (by kernel_rfl) (by kernel_rfl) (by kernel_rfl) (by kernel_rfl) (by kernel_rfl) (by kernel_rfl) (by kernel_rfl) (by kernel_rfl) (of_decide_eq_true (by kernel_rfl)) (of_decide_eq_true (by kernel_rfl))
theorem laid_met (os:Os) (args:Array Value):laidMet Tryz.prog lawLaid (laidMem os args) :=
  (((((((piece0 os args).append (piece2 os args) (by kernel_rfl)).append (piece3 os args) (by kernel_rfl)).append (piece4 os args) (by kernel_rfl)).append (piece5 os args) (by kernel_rfl)).append (piece6 os args) (by kernel_rfl)).append (piece1 os args) (by kernel_rfl)).met
end Go.Proofs.YtmdgeknnhckgfaaGreatDoor
