/-
  Parts of the proof of the law LinModel: LSml, LAll, LExp, LWor.
-/
import Derived.Test.YtmdgeknnhckgfaaGreatDoorS40
set_option linter.unusedSimpArgs false
set_option linter.unusedVariables false
namespace Go.Proofs.YtmdgeknnhckgfaaGreatDoor
open Go Go.RowKit
theorem Tryz.underlying28s:Tryz.prog.underlying 28=some (Tryz.prog.underlying 28 |>.get (by kernel_rfl)):=by simp
theorem Tryz.size28s:(Tryz.prog.info? 28).map (·.size)=some 9:=by kernel_rfl
def smO:Cf:=⟨64,2,8,600,2,2000,2,4194304⟩
def smT:Ten:=⟨⟨#[97,99,109,101]⟩,⟨#[107]⟩,3⟩
set_option maxRecDepth 100000 in
set_option maxHeartbeats 4000000 in
theorem mod_Small (w:World) :
    Calls Tryz.prog 11 #[] w fun e w'=>∃ g,e=.returned (.agg (cfArr (.slice (some ⟨g,0,none⟩) 1 1) smO))∧Reads w' (.slice (some ⟨g,0,none⟩) 1 1) 1 3 (tenArgs [smT])∧Below w.heap.size w w':=by
  go_enter Tryz.func11,Tryz.ntmps11
  go_wp2_with fail
  have hk0:=Blk.new w (cfArr (.slice (some ⟨w.heap.size+1,0,none⟩) 1 1) smO) 28
  have b1:Below w.heap.size w (w.alloc (.cells (cfArr (.slice (some ⟨w.heap.size+1,0,none⟩) 1 1) smO) 28)):=(Below.refl _ w).alloc (Nat.le_refl _) _
  have hk1:=Blk.new (w.alloc (.cells (cfArr (.slice (some ⟨w.heap.size+1,0,none⟩) 1 1) smO) 28)) (tenArgs [smT]).toArray 94
  rw [World.size_alloc] at hk1
  have hkk:=hk0.alloc (.cells (tenArgs [smT]).toArray 94)
  have b2:=b1.alloc b1.size (.cells (tenArgs [smT]).toArray 94)
  refine body_cell rfl rfl rfl hkk Tryz.underlying28s rfl (by exact Tryz.size28s) ?_
  refine ⟨_,rfl,⟨rfl,by omega,_,_,rfl,.inr ⟨_,_,rfl,hk1.lt,fun j u hj=>?_⟩⟩,b2⟩
  refine hk1.cell _ u ?_
  rw [Nat.zero_add,ga1]
  exact hj
def AllP (L:List Hs) (l:List Ask) (e:Ending) (w':World):Prop :=
  (thrN L l=none∧e=.returned (.tuple #[.slice none 0 0,.int .i64 0]))∨∃ L' p' d' g cap,thrN L l=some L'∧e=.returned (.tuple #[.slice (some ⟨g,0,none⟩) 1 cap,.int .i64 0])∧w'.cell? ⟨g,0,none⟩=some (.pointer (some ⟨p',0,none⟩))∧g<w'.heap.size∧MIs w' p' (0+l.length) L' d'∧L'.length=L.length∧LOk (0+l.length) L'
def RAl (w:World) (C tr:Array Value) (T:List Ten) (l:List Ask) (p0 g0:Nat) (ov iv:Value) (W:World):Prop :=
  Blk W w.heap.size C 28∧Blk W (w.heap.size+1) tr 46∧Below w.heap.size w W∧((iv=.int .i64 0∧ov=.slice (some ⟨g0,0,none⟩) 1 1∧W.cell? ⟨g0,0,none⟩=some (.pointer (some ⟨p0,0,none⟩))∧g0<W.heap.size∧∃ d,MIs W p0 0 (newN T) d)∨(iv=.int .i64 1∧∃ L' p' d' g cap,thrN (newN T) l=some L'∧ov=.slice (some ⟨g,0,none⟩) 1 cap∧W.cell? ⟨g,0,none⟩=some (.pointer (some ⟨p',0,none⟩))∧g<W.heap.size∧MIs W p' (0+l.length) L' d'∧L'.length=(newN T).length∧LOk (0+l.length) L'))
set_option maxRecDepth 100000 in
set_option maxHeartbeats 8000000 in
theorem mod_all {w:World} (T:List Ten) (hT:∀ t∈T,t.name.size≤maxLen) (h1:1≤T.length) (h16:T.length≤16) (hck:checkN T=0) (hnew:LOk 0 (newN T)) (TA:Option Addr) (TC:Nat) (o:Cf) (hTr:Reads w (.slice TA T.length TC) T.length 3 (tenArgs T))
    (hkey:KeyAll w (cfArr (.slice TA T.length TC) o) (newN T).length) (ta:Option Addr) (tc:Nat) (ev v:Value) (l:List Ask) (LA:Option Addr) (LC steps:Nat) (ht:TolIs w ta tc v l LA LC steps) :
    Calls Tryz.prog 15 #[.agg (cfArr (.slice TA T.length TC) o),.agg (toArr (.slice ta 1 tc) ev)] w fun e w'=>Below w.heap.size w w'∧AllP (newN T) l e w':=by
  have HTR:=Lib.hid hTr
  have HKEY:=Lib.hid hkey
  have HT:=Lib.hid ht
  have HTN:=Lib.hid hT
  have HNW:=Lib.hid hnew
  have HCK:=Lib.hid hck
  have HLN:=Lib.hid (newN_len T)
  obtain ⟨tb,to',rfl,htl,_⟩:=ht.terms.some_at (by decide)
  have b1:Below w.heap.size w (w.alloc (.cells (cfArr (.slice TA T.length TC) o) 28)):=(Below.refl _ w).alloc (Nat.le_refl _) _
  have HB1:=Lib.hid (b1.alloc b1.size (.cells (toArr (.slice (some ⟨tb,to',none⟩) 1 tc) ev) 46))
  have hk1:=(Blk.new w (cfArr (.slice TA T.length TC) o) 28).alloc (.cells (toArr (.slice (some ⟨tb,to',none⟩) 1 tc) ev) 46)
  have hk2:=Blk.new (w.alloc (.cells (cfArr (.slice TA T.length TC) o) 28)) (toArr (.slice (some ⟨tb,to',none⟩) 1 tc) ev) 46
  rw [World.size_alloc] at hk2
  have HK1:=Lib.hid hk1
  have HK2:=Lib.hid hk2
  have x0:=hk1.cell 0 (.slice TA T.length TC) rfl
  clear hTr hkey ht hT hnew hck b1 hk1 hk2 htl
  go_enter Tryz.func15,Tryz.ntmps15
  go_wp2_with fail
  generalize (w.alloc (.cells (cfArr (.slice TA T.length TC) o) 28)).alloc (.cells (toArr (.slice (some ⟨tb,to',none⟩) 1 tc) ev) 46)=W0 at HB1 HK1 HK2 x0 ⊢
  clear x0
  refine (mod_NewW _ T HTN.out W0 (HTR.out.kept HB1.out)).mono ?_
  rintro e w2 ⟨hb2,⟨hno,_⟩ | ⟨_,p0,d0,rfl,r2,_,_⟩⟩
  · exact absurd HCK.out hno
  have HK12:=Lib.hid (HK1.out.kept hb2)
  have HK22:=Lib.hid (HK2.out.kept hb2)
  have HB2:=Lib.hid (HB1.out.trans (hb2.mono HB1.out.size))
  have HR2:=Lib.hid r2
  have y1:=HK22.out.cell 1 (.slice (some ⟨tb,to',none⟩) 1 tc) rfl
  have y1l:=HK22.out.lt
  clear hb2 r2 HB1 HK1 HK2
  go_wp2_with fail
  have KC:=Blk.new w2 #[.pointer (some ⟨p0,0,none⟩)] 84
  have bA:Below w2.heap.size w2 (w2.alloc (.cells #[.pointer (some ⟨p0,0,none⟩)] 84)):=(Below.refl _ w2).alloc (Nat.le_refl _) _
  go_loopw [8,24] (RAl w (cfArr (.slice TA T.length TC) o) (toArr (.slice (some ⟨tb,to',none⟩) 1 tc) ev) T l p0 w2.heap.size) (fun _ v _=>1 - (intOf v).toNat)
  case atStart=>exact ⟨HK12.out.kept bA,HK22.out.kept bA,HB2.out.trans (bA.mono HB2.out.size),.inl ⟨rfl,rfl,KC.cell 0 _ rfl,KC.lt,d0,HR2.out.kept bA⟩⟩
  case round =>
    clear KC bA y1 y1l
    obtain ⟨kc,kt,hb,⟨rfl,rfl,c0,hgl,d,r⟩ | ⟨rfl,L',p',d',g,cap,hyes,rfl,c7,hgl,r7,hlen7,hok7⟩⟩:=hrel
    · have HKC:=Lib.hid kc
      have HKT:=Lib.hid kt
      have HB:=Lib.hid hb
      have HR:=Lib.hid r
      have HC0:=Lib.hid c0
      have HGL:=Lib.hid hgl
      have htk:=HT.out.kept hb
      have hrg:wr.rangeAt tb to' (svArr v LA LC steps).toList:=by
        obtain ⟨b',o',e,_,h⟩:=htk.terms.some_at (by decide)
        cases e
        exact h
      have HRG:=Lib.hid hrg
      obtain ⟨A,cap,hvf⟩:=htk.asked.form
      have HVF:=Lib.hid hvf
      have hone:(svArr v LA LC steps).all (·.oneCell')=true:=by rw [hvf];simp [svArr,Value.oneCell']
      have HONE:=Lib.hid hone
      clear kc kt hb r c0 hgl htk hrg hvf hone
      go_upto_region 8 with (first
        | (refine wpList_load_mid rfl 50 (Operand.tmp 27) rfl tb to' rfl (svArr v LA LC steps).toList _ HRG.out Tryz.underlying50 rfl (by exact Tryz.size50) ?_)
        | (refine wpList_store_new rfl 50 (Operand.tmp 10) (Operand.tmp 28) rfl rfl (svArr v LA LC steps) rfl (by exact Tryz.size50) rfl HONE.out ?_;intro w4 hk4 hb4 hs4;have HK4:=Lib.hid hk4;have HB4:=Lib.hid hb4;clear hk4 hb4 hs4))
      have HKC4:=Lib.hid (HKC.out.kept HB4.out)
      have HB4w:=Lib.hid (HB.out.trans (HB4.out.mono HB.out.size))
      have htk4:=HT.out.kept HB4w.out
      have hln:=HLN.out
      have hsmall:=HT.out.small
      have HBe:=Lib.hid (mod_behind (HR.out.kept HB4.out) (by omega) (by omega) HNW.out (cfArr (.slice TA T.length TC) o) rfl (HKEY.out.kept HB4w.out) w2.heap.size 0 1 ((HB4.out.cell (p:=⟨w2.heap.size,0,none⟩) HGL.out).trans HC0.out) (Nat.lt_of_lt_of_le HGL.out HB4.out.size) v l LA LC steps htk4.good htk4.asked htk4.ok (by omega) (by omega))
      clear htk4 hln hsmall
      go_wp2_with (first
        | (refine wpList_load_blk rfl 28 (Operand.tmp 2) rfl w.heap.size rfl 28 _ _ HKC4.out Tryz.underlying28 rfl (by exact Tryz.size28) ?_)
        | (refine wpList_load_blk rfl 50 (Operand.tmp 10) rfl wr.heap.size rfl 50 _ _ HK4.out Tryz.underlying50 rfl (by exact Tryz.size50) ?_))
      refine HBe.out.mono ?_
      rintro e w5 ⟨hb5,⟨hno,rfl⟩ | ⟨L',p',d',g,cap',hyes,rfl,c7,hgl,r7,hlen7,hok7⟩⟩
      · have HB5:=Lib.hid (HB4w.out.trans (hb5.mono HB4w.out.size))
        have HNO:=Lib.hid hno
        clear hb5 hno HBe
        go_wp2_with fail
        refine bodyPost_ret (results_tmp2 rfl _ _ _) rfl ?_
        exact ⟨HB5.out,Or.inl ⟨HNO.out,rfl⟩⟩
      · have HB5:=Lib.hid (HB4w.out.trans (hb5.mono HB4w.out.size))
        have HKC5:=Lib.hid (HKC4.out.kept hb5)
        have HKT5:=Lib.hid ((HKT.out.kept HB4.out).kept hb5)
        have HFIN:=Lib.hid (And.intro hyes (And.intro c7 (And.intro hgl (And.intro r7 (And.intro hlen7 hok7)))))
        clear hb5 hyes c7 hgl r7 hlen7 hok7 HBe
        go_wp2_with fail
        go_roundw
        case rel =>
          obtain ⟨h1,h2,h3,h4,h5,h6⟩:=HFIN.out
          exact ⟨HKC5.out,HKT5.out,HB5.out,.inr ⟨rfl,L',p',d',g,cap',h1,rfl,h2,h3,h4,h5,h6⟩⟩
        case measure=>simp [intOf]
    · have HB:=Lib.hid hb
      have HFIN:=Lib.hid (And.intro hyes (And.intro c7 (And.intro hgl (And.intro r7 (And.intro hlen7 hok7)))))
      clear kc kt hb hyes c7 hgl r7 hlen7 hok7
      go_wp2_with fail
      refine bodyPost_ret (results_tmp2 rfl _ _ _) rfl ?_
      obtain ⟨h1,h2,h3,h4,h5,h6⟩:=HFIN.out
      exact ⟨HB.out,Or.inr ⟨L',p',d',g,cap,h1,rfl,h2,h3,h4,h5,h6⟩⟩
structure FinIs (w:World) (C tr:Array Value) (cb tb q:Nat):Prop where
  c:Blk w cb C 28
  t:Blk w tb tr 46
theorem FinIs.kept {w w':World} {C tr:Array Value} {cb tb q:Nat} (h:FinIs w C tr cb tb q) (hb:Below w.heap.size w w'):FinIs w' C tr cb tb q:=⟨h.c.kept hb,h.t.kept hb⟩
abbrev EndsOk (w:World) (C tr:Array Value) (q:Nat):Prop:=Calls Tryz.prog 18 #[.agg C,.pointer (some ⟨q,0,none⟩),.agg tr] w fun e w'=>e=.returned (.bool true)∧Below w.heap.size w w'
set_option maxRecDepth 100000 in
theorem mod_c17 (w:World) (C tr:Array Value) (hC:C.size=9) (htr:tr.size=3) (cb tb q:Nat) (hc:Blk w cb C 28) (ht:Blk w tb tr 46) (he:EndsOk w C tr q) :
    Calls Tryz.prog 17 #[.pointer (some ⟨q,0,none⟩),.pointer (some ⟨cb,0,none⟩),.pointer (some ⟨tb,0,none⟩)] w fun e w'=>e=.returned (.bool true)∧Below w.heap.size w w':=by
  have HC:=Lib.hid hc
  have HT:=Lib.hid ht
  have HE:=Lib.hid he
  have HCS:=Lib.hid hC
  have HTS:=Lib.hid htr
  clear hc ht he hC htr
  go_enter Tryz.func17,Tryz.ntmps17
  go_wp2_with (first
    | (refine wpList_load_blk rfl 28 (Operand.tmp 1) rfl cb rfl 28 _ _ HC.out Tryz.underlying28 rfl (by rw [HCS.out];exact Tryz.size28) ?_)
    | (refine wpList_load_blk rfl 46 (Operand.tmp 2) rfl tb rfl 46 _ _ HT.out Tryz.underlying46 rfl (by rw [HTS.out];exact Tryz.size46) ?_))
  refine HE.out.mono ?_
  rintro e w1 ⟨rfl,hb1⟩
  go_wp2_with fail
  go_ret
  exact ⟨rfl,hb1⟩
set_option maxRecDepth 100000 in
set_option maxHeartbeats 4000000 in
theorem mod_index32 (w:World) (g cap q cb tb:Nat) (hg:w.cell? ⟨g,0,none⟩=some (.pointer (some ⟨q,0,none⟩))) (h17:Calls Tryz.prog 17 #[.pointer (some ⟨q,0,none⟩),.pointer (some ⟨cb,0,none⟩),.pointer (some ⟨tb,0,none⟩)] w fun e w'=>e=.returned (.bool true)∧Below w.heap.size w w') :
    Calls Tryz.prog 32 #[.slice (some ⟨g,0,none⟩) 1 cap,.func (.func 17) #[] #[.pointer (some ⟨cb,0,none⟩),.pointer (some ⟨tb,0,none⟩)]] w fun e w'=>e=.returned (.int .i64 0)∧Below w.heap.size w w':=by
  have H17:=Lib.hid h17
  clear h17
  go_enter Tryz.func32,Tryz.ntmps32
  go_wp2_with fail
  go_loopw [8] (fun (iv:Value) (W:World)=>iv=.int .i64 0∧W=w) (fun _ _=>0)
  case atStart=>exact ⟨rfl,rfl⟩
  case round =>
    obtain ⟨rfl,hw⟩:=hrel
    obtain rfl:=hw.symm
    clear hw
    go_wp2_with fail
    refine H17.out.mono ?_
    rintro e w1 ⟨rfl,hb1⟩
    have HB1:=Lib.hid hb1
    clear hb1
    go_wp2_with fail
    go_ret
    exact ⟨rfl,HB1.out⟩
set_option maxRecDepth 100000 in
theorem mod_contains16 (w:World) (g cap q cb tb:Nat) (hg:w.cell? ⟨g,0,none⟩=some (.pointer (some ⟨q,0,none⟩))) (h17:Calls Tryz.prog 17 #[.pointer (some ⟨q,0,none⟩),.pointer (some ⟨cb,0,none⟩),.pointer (some ⟨tb,0,none⟩)] w fun e w'=>e=.returned (.bool true)∧Below w.heap.size w w') :
    Calls Tryz.prog 16 #[.slice (some ⟨g,0,none⟩) 1 cap,.func (.func 17) #[] #[.pointer (some ⟨cb,0,none⟩),.pointer (some ⟨tb,0,none⟩)]] w fun e w'=>e=.returned (.bool true)∧Below w.heap.size w w':=by
  have HI:=Lib.hid (mod_index32 w g cap q cb tb hg h17)
  clear h17 hg
  go_enter Tryz.func16,Tryz.ntmps16
  go_wp2_with fail
  refine HI.out.mono ?_
  rintro e w1 ⟨rfl,hb1⟩
  go_wp2_with fail
  go_ret
  exact ⟨rfl,hb1⟩
set_option maxRecDepth 100000 in
set_option maxHeartbeats 8000000 in
theorem mod_Explain {w:World} (T:List Ten) (hT:∀ t∈T,t.name.size≤maxLen) (h1:1≤T.length) (h16:T.length≤16) (hck:checkN T=0) (hnew:LOk 0 (newN T)) (TA:Option Addr) (TC:Nat) (o:Cf) (hTr:Reads w (.slice TA T.length TC) T.length 3 (tenArgs T))
    (hkey:KeyAll w (cfArr (.slice TA T.length TC) o) (newN T).length) (LB:Option Addr) (lc:Nat) (ta:Option Addr) (tc:Nat) (EA:Option Addr) (ec:Nat) (E:List (Value×Value)) (v:Value) (l:List Ask) (LA:Option Addr) (LC steps:Nat) (ht:TolIs w ta tc v l LA LC steps)
    (hE:Reads w (.slice EA T.length ec) T.length 2 (endArgs E)) (he:∀ L',thrN (newN T) l=some L'→EndOk w L' E) :
    Calls Tryz.prog 6 #[.agg (cfArr (.slice TA T.length TC) o),.slice LB 1 lc,.agg (toArr (.slice ta 1 tc) (.slice EA T.length ec))] w fun e w'=>Below w.heap.size w w'∧ExpP T l e:=by
  have HTR:=Lib.hid hTr
  have HKEY:=Lib.hid hkey
  have HT:=Lib.hid ht
  have HTN:=Lib.hid hT
  have HNW:=Lib.hid hnew
  have HCK:=Lib.hid hck
  have HE:=Lib.hid hE
  have HEO:=Lib.hid he
  have HLN:=Lib.hid (newN_len T)
  obtain ⟨C,hCe⟩:∃ C,cfArr (.slice TA T.length TC) o=C:=⟨_,rfl⟩
  obtain ⟨R,hRe⟩:∃ R,toArr (.slice ta 1 tc) (.slice EA T.length ec)=R:=⟨_,rfl⟩
  have HCE:=Lib.hid hCe
  have HRE:=Lib.hid hRe
  have HCS:=Lib.hid (show C.size=9 by rw [←hCe];rfl)
  have HRS:=Lib.hid (show R.size=3 by rw [←hRe];rfl)
  rw [hCe,hRe]
  have b1:Below w.heap.size w (w.alloc (.cells C 28)):=(Below.refl _ w).alloc (Nat.le_refl _) _
  have HB1:=Lib.hid (b1.alloc b1.size (.cells R 46))
  have HK1:=Lib.hid ((Blk.new w C 28).alloc (.cells R 46))
  have hk2:=Blk.new (w.alloc (.cells C 28)) R 46
  rw [World.size_alloc] at hk2
  have HK2:=Lib.hid hk2
  clear hTr hkey ht hT hnew hck b1 hk2 hE he hCe hRe
  go_enter Tryz.func6,Tryz.ntmps6
  go_upto_region 1 with fail
  generalize (w.alloc (.cells C 28)).alloc (.cells R 46)=W0 at HB1 HK1 HK2 ⊢
  have HOr:=mod_Order W0 C LB lc ta tc (.slice EA T.length ec) v l LA LC steps HT.out.good (HT.out.kept HB1.out).terms (HT.out.kept HB1.out).asked (HT.out.kept HB1.out).ok
  rw [HRE.out] at HOr
  replace HOr:=Lib.hid HOr
  go_wp2_with (first
    | (refine wpList_load_blk rfl 28 (Operand.tmp 3) rfl w.heap.size rfl 28 _ _ HK1.out Tryz.underlying28 rfl (by rw [HCS.out];exact Tryz.size28) ?_)
    | (refine wpList_load_blk rfl 46 (Operand.tmp 5) rfl (w.heap.size+1) rfl 46 _ _ HK2.out Tryz.underlying46 rfl (by rw [HRS.out];exact Tryz.size46) ?_))
  refine HOr.out.mono ?_
  rintro e w2 ⟨rfl,hb2⟩
  have HB2:=Lib.hid (HB1.out.trans (hb2.mono HB1.out.size))
  have HK12:=Lib.hid (HK1.out.kept hb2)
  have HK22:=Lib.hid (HK2.out.kept hb2)
  have x0:=HK12.out.cell 0 (.slice TA T.length TC) (by rw [←HCE.out];rfl)
  have HChk:=mod_Check (.slice TA T.length TC) T HTN.out w2 (HTR.out.kept HB2.out)
  rw [HCK.out] at HChk
  replace HChk:=Lib.hid HChk
  clear hb2 HB1 HK1 HK2 HOr
  go_wp2_with fail
  refine HChk.out.mono ?_
  rintro e w3 ⟨rfl,hb3⟩
  have HB3:=Lib.hid (HB2.out.trans (hb3.mono HB2.out.size))
  have HK13:=Lib.hid (HK12.out.kept hb3)
  have HK23:=Lib.hid (HK22.out.kept hb3)
  have HAll:=mod_all (w:=w3) T HTN.out h1 h16 HCK.out HNW.out TA TC o (HTR.out.kept HB3.out) (HKEY.out.kept HB3.out) ta tc (.slice EA T.length ec) v l LA LC steps (HT.out.kept HB3.out)
  rw [HCE.out,HRE.out] at HAll
  replace HAll:=Lib.hid HAll
  clear hb3 x0 HK12 HK22 HB2 HChk
  go_wp2_with (first
    | (refine wpList_load_blk rfl 28 (Operand.tmp 3) rfl w.heap.size rfl 28 _ _ HK13.out Tryz.underlying28 rfl (by rw [HCS.out];exact Tryz.size28) ?_)
    | (refine wpList_load_blk rfl 46 (Operand.tmp 5) rfl (w.heap.size+1) rfl 46 _ _ HK23.out Tryz.underlying46 rfl (by rw [HRS.out];exact Tryz.size46) ?_))
  refine HAll.out.mono ?_
  rintro e w4 ⟨hb4,⟨hno,rfl⟩ | ⟨L',p',d',g,cap',hyes,rfl,c7,hgl,r7,hlen7,hok7⟩⟩
  · have HB4:=Lib.hid (HB3.out.trans (hb4.mono HB3.out.size))
    have HNO:=Lib.hid hno
    clear hb4 hno HAll
    go_wp2_with fail
    refine bodyPost_ret (results_tmp2 rfl _ _ _) rfl ?_
    exact ⟨HB4.out,Or.inl ⟨HNO.out,rfl⟩⟩
  · have HB4:=Lib.hid (HB3.out.trans (hb4.mono HB3.out.size))
    have HYES:=Lib.hid hyes
    have K1:=HK13.out.kept hb4
    have K2:=HK23.out.kept hb4
    have hlT:L'.length=T.length:=hlen7.trans HLN.out
    have hEn:=mod_ends r7 hok7 (by have:=HT.out.small;omega) (by omega) ta tc TA TC o EA ec E v LA LC steps (HT.out.kept HB4.out).terms (by rw [hlT];exact HE.out.kept HB4.out) ((HEO.out L' hyes).kept HB4.out)
    rw [hlT,HCE.out,HRE.out] at hEn
    have HCt:=Lib.hid (mod_contains16 w4 g cap' p' w.heap.size (w.heap.size+1) c7 (mod_c17 w4 C R HCS.out HRS.out w.heap.size (w.heap.size+1) p' K1 K2 hEn))
    clear hb4 hyes c7 hgl r7 hlen7 hok7 K1 K2 hEn hlT HAll
    go_wp2_with fail
    refine HCt.out.mono ?_
    rintro e w5 ⟨rfl,hb5⟩
    have HB5:=Lib.hid (HB4.out.trans (hb5.mono HB4.out.size))
    clear hb5 HCt
    go_wp2_with fail
    refine bodyPost_ret (results_tmp2 rfl _ _ _) rfl ?_
    exact ⟨HB5.out,Or.inr ⟨L',HYES.out,rfl⟩⟩
set_option maxRecDepth 100000 in
set_option maxHeartbeats 8000000 in
theorem mod_Explain0 {w:World} (T:List Ten) (hT:∀ t∈T,t.name.size≤maxLen) (hck:checkN T=1) (TA:Option Addr) (TC:Nat) (o:Cf) (hTr:Reads w (.slice TA T.length TC) T.length 3 (tenArgs T)) :
    Calls Tryz.prog 6 #[.agg (cfArr (.slice TA T.length TC) o),.slice none 0 0,.agg (toArr (.slice none 0 0) (.slice none 0 0))] w fun e w'=>e=.returned (.tuple #[.bool false,.int .i64 0])∧Below w.heap.size w w':=by
  have HTR:=Lib.hid hTr
  have HTN:=Lib.hid hT
  have HCK:=Lib.hid hck
  obtain ⟨C,hCe⟩:∃ C,cfArr (.slice TA T.length TC) o=C:=⟨_,rfl⟩
  obtain ⟨R,hRe⟩:∃ R,toArr (.slice none 0 0) (.slice none 0 0)=R:=⟨_,rfl⟩
  have HCE:=Lib.hid hCe
  have HRE:=Lib.hid hRe
  have HCS:=Lib.hid (show C.size=9 by rw [←hCe];rfl)
  have HRS:=Lib.hid (show R.size=3 by rw [←hRe];rfl)
  rw [hCe,hRe]
  have b1:Below w.heap.size w (w.alloc (.cells C 28)):=(Below.refl _ w).alloc (Nat.le_refl _) _
  have HB1:=Lib.hid (b1.alloc b1.size (.cells R 46))
  have HK1:=Lib.hid ((Blk.new w C 28).alloc (.cells R 46))
  have hk2:=Blk.new (w.alloc (.cells C 28)) R 46
  rw [World.size_alloc] at hk2
  have HK2:=Lib.hid hk2
  clear hTr hT hck b1 hk2 hCe hRe
  go_enter Tryz.func6,Tryz.ntmps6
  go_upto_region 1 with fail
  generalize (w.alloc (.cells C 28)).alloc (.cells R 46)=W0 at HB1 HK1 HK2 ⊢
  have HOr:=mod_Order0 W0 C
  rw [HRE.out] at HOr
  replace HOr:=Lib.hid HOr
  go_wp2_with (first
    | (refine wpList_load_blk rfl 28 (Operand.tmp 3) rfl w.heap.size rfl 28 _ _ HK1.out Tryz.underlying28 rfl (by rw [HCS.out];exact Tryz.size28) ?_)
    | (refine wpList_load_blk rfl 46 (Operand.tmp 5) rfl (w.heap.size+1) rfl 46 _ _ HK2.out Tryz.underlying46 rfl (by rw [HRS.out];exact Tryz.size46) ?_))
  refine HOr.out.mono ?_
  rintro e w2 ⟨rfl,hb2⟩
  have HB2:=Lib.hid (HB1.out.trans (hb2.mono HB1.out.size))
  have HK12:=Lib.hid (HK1.out.kept hb2)
  have x0:=HK12.out.cell 0 (.slice TA T.length TC) (by rw [←HCE.out];rfl)
  have HChk:=mod_Check (.slice TA T.length TC) T HTN.out w2 (HTR.out.kept HB2.out)
  rw [HCK.out] at HChk
  replace HChk:=Lib.hid HChk
  clear hb2 HB1 HK1 HK2 HOr
  go_wp2_with fail
  refine HChk.out.mono ?_
  rintro e w3 ⟨rfl,hb3⟩
  have HB3:=Lib.hid (HB2.out.trans (hb3.mono HB2.out.size))
  clear hb3 x0 HK12 HB2 HChk
  go_wp2_with fail
  refine bodyPost_ret (results_tmp2 rfl _ _ _) rfl ?_
  exact ⟨rfl,HB3.out⟩
set_option maxRecDepth 100000 in
set_option maxHeartbeats 8000000 in
theorem mod_Worlds {w:World} (T:List Ten) (hT:∀ t∈T,t.name.size≤maxLen) (h1:1≤T.length) (h16:T.length≤16) (hck:checkN T=0) (hnew:LOk 0 (newN T)) (TA:Option Addr) (TC:Nat) (o:Cf) (hTr:Reads w (.slice TA T.length TC) T.length 3 (tenArgs T))
    (hkey:KeyAll w (cfArr (.slice TA T.length TC) o) (newN T).length) (ta:Option Addr) (tc:Nat) (ev v:Value) (l:List Ask) (LA:Option Addr) (LC steps:Nat) (ht:TolIs w ta tc v l LA LC steps) (hyes:thrN (newN T) l≠none) :
    Calls Tryz.prog 13 #[.agg (cfArr (.slice TA T.length TC) o),.agg (toArr (.slice ta 1 tc) ev)] w fun e w'=>e=.returned (.int .i64 1)∧Below w.heap.size w w':=by
  have HTR:=Lib.hid hTr
  have HKEY:=Lib.hid hkey
  have HT:=Lib.hid ht
  have HTN:=Lib.hid hT
  have HNW:=Lib.hid hnew
  have HCK:=Lib.hid hck
  have HY:=Lib.hid hyes
  obtain ⟨tb,to',rfl,htl,_⟩:=ht.terms.some_at (by decide)
  obtain ⟨C,hCe⟩:∃ C,cfArr (.slice TA T.length TC) o=C:=⟨_,rfl⟩
  have HCE:=Lib.hid hCe
  have HCS:=Lib.hid (show C.size=9 by rw [←hCe];rfl)
  rw [hCe]
  have b1:Below w.heap.size w (w.alloc (.cells C 28)):=(Below.refl _ w).alloc (Nat.le_refl _) _
  have HB1:=Lib.hid (b1.alloc b1.size (.cells (toArr (.slice (some ⟨tb,to',none⟩) 1 tc) ev) 46))
  have hk1:=(Blk.new w C 28).alloc (.cells (toArr (.slice (some ⟨tb,to',none⟩) 1 tc) ev) 46)
  have hk2:=Blk.new (w.alloc (.cells C 28)) (toArr (.slice (some ⟨tb,to',none⟩) 1 tc) ev) 46
  rw [World.size_alloc] at hk2
  have HK1:=Lib.hid hk1
  have HK2:=Lib.hid hk2
  have x1:=hk2.cell 1 (.slice (some ⟨tb,to',none⟩) 1 tc) rfl
  clear hTr hkey ht hT hnew hck b1 hk1 hk2 htl hCe hyes
  go_enter Tryz.func13,Tryz.ntmps13
  go_wp2_with fail
  generalize (w.alloc (.cells C 28)).alloc (.cells (toArr (.slice (some ⟨tb,to',none⟩) 1 tc) ev) 46)=W0 at HB1 HK1 HK2 x1 ⊢
  clear x1
  go_loopw [12] (fun (iv:Value) (W:World)=>Blk W w.heap.size C 28∧Blk W (w.heap.size+1) (toArr (.slice (some ⟨tb,to',none⟩) 1 tc) ev) 46∧Below w.heap.size w W∧(iv=.int .i64 0∨iv=.int .i64 1)) (fun v _=>1 - (intOf v).toNat)
  case atStart=>exact ⟨HK1.out,HK2.out,HB1.out,.inl rfl⟩
  case round =>
    obtain ⟨kc,kt,hb,rfl | rfl⟩:=hrel
    · have HKC:=Lib.hid kc
      have HKT:=Lib.hid kt
      have HB:=Lib.hid hb
      have htk:=HT.out.kept hb
      have hrg:wr.rangeAt tb to' (svArr v LA LC steps).toList:=by
        obtain ⟨b',o',e,_,h⟩:=htk.terms.some_at (by decide)
        cases e
        exact h
      have HRG:=Lib.hid hrg
      obtain ⟨A,cap,hvf⟩:=htk.asked.form
      have hone:(svArr v LA LC steps).all (·.oneCell')=true:=by rw [hvf];simp [svArr,Value.oneCell']
      have HONE:=Lib.hid hone
      clear kc kt hb htk hrg hvf hone
      go_upto_region 4 with (first
        | (refine wpList_load_mid rfl 50 (Operand.tmp 14) rfl tb to' rfl (svArr v LA LC steps).toList _ HRG.out Tryz.underlying50 rfl (by exact Tryz.size50) ?_)
        | (refine wpList_store_new rfl 50 (Operand.tmp 6) (Operand.tmp 15) rfl rfl (svArr v LA LC steps) rfl (by exact Tryz.size50) rfl HONE.out ?_;intro w4 hk4 hb4 hs4;have HK4:=Lib.hid hk4;have HB4:=Lib.hid hb4;clear hk4 hb4 hs4))
      have HB4w:=Lib.hid (HB.out.trans (HB4.out.mono HB.out.size))
      have x0:=HK4.out.cell 0 (.int .i64 0) rfl
      have HD:=Lib.hid (mod_doubtful w4 v l LA LC steps HT.out.good.len (HT.out.kept HB4w.out).asked (HT.out.kept HB4w.out).ok)
      have x1:=HK4.out.cell 1 v rfl
      have x2:=HK4.out.cell 2 (.slice LA 8 LC) rfl
      have x3:=HK4.out.cell 3 (.int .i64 (steps:Nat)) rfl
      have x4:=HK4.out.cell 4 (.int .u64 0) rfl
      unfold svArr at HD
      go_wp2_with fail
      refine HD.out.mono ?_
      rintro e w5 ⟨rfl,hb5⟩
      have HFIN:=Lib.hid (And.intro ((HKC.out.kept HB4.out).kept hb5) (And.intro ((HKT.out.kept HB4.out).kept hb5) (HB4w.out.trans (hb5.mono HB4w.out.size))))
      clear hb5 HD x0 x1 x2 x3 x4
      go_wp2_with fail
      go_roundw
      case rel =>
        obtain ⟨a1,a2,a3⟩:=HFIN.out
        exact ⟨a1,a2,a3,.inr rfl⟩
      case measure=>simp [intOf]
    · have HKC:=Lib.hid kc
      have HKT:=Lib.hid kt
      have HB:=Lib.hid hb
      have HAll:=mod_all (w:=wr) T HTN.out h1 h16 HCK.out HNW.out TA TC o (HTR.out.kept hb) (HKEY.out.kept hb) (some ⟨tb,to',none⟩) tc ev v l LA LC steps (HT.out.kept hb)
      rw [HCE.out] at HAll
      replace HAll:=Lib.hid HAll
      clear kc kt hb
      go_wp2_with (first
        | (refine wpList_load_blk rfl 28 (Operand.tmp 2) rfl w.heap.size rfl 28 _ _ HKC.out Tryz.underlying28 rfl (by rw [HCS.out];exact Tryz.size28) ?_)
        | (refine wpList_load_blk rfl 46 (Operand.tmp 3) rfl (w.heap.size+1) rfl 46 _ _ HKT.out Tryz.underlying46 rfl (by exact Tryz.size46) ?_))
      refine HAll.out.mono ?_
      rintro e w4 ⟨hb4,⟨hno,rfl⟩ | ⟨L',p',d',g,cap',hyes,rfl,_⟩⟩
      · exact absurd hno HY.out
      · have HB4:=Lib.hid (HB.out.trans (hb4.mono HB.out.size))
        clear hb4 hyes HAll
        go_wp2_with fail
        go_ret
        exact ⟨rfl,HB4.out⟩
end Go.Proofs.YtmdgeknnhckgfaaGreatDoor
