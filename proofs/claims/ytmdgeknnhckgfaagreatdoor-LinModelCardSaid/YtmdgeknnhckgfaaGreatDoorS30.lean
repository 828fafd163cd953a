/-
  Parts of the proof of the law LinModel: TxtP, MRvA, MPar.
-/
import Derived.Test.YtmdgeknnhckgfaaGreatDoorS11
import Derived.Test.YtmdgeknnhckgfaaGreatDoorS12
import Derived.Test.YtmdgeknnhckgfaaGreatDoorS22
import Derived.Test.YtmdgeknnhckgfaaGreatDoorS29
import Derived.Shelf.GgClosure.StringsIndexFunc
set_option linter.unusedSimpArgs false
set_option linter.unusedVariables false
namespace Go.Proofs.YtmdgeknnhckgfaaGreatDoor
open Go Go.RowKit
theorem idx_runes (s:ByteArray):∀ f pos,(0≤Go.Lib.idxFuncFrom hidN true s f pos)↔(runeL s f pos).any hidN=true
  | 0,pos=>by simp [Go.Lib.idxFuncFrom,runeL]
  | f+1,pos=>by
    unfold Go.Lib.idxFuncFrom runeL
    split
    · rw [List.any_cons]
      split
      · rename_i h;rw [h];simp
      · rename_i h;rw [Bool.not_eq_true] at h;rw [h,Bool.false_or];exact idx_runes s f _
    · simp
theorem idx_name (s:ByteArray):decide (0≤Go.Lib.idxFunc hidN true s)=(runesN s).any hidN:=by
  rw [Bool.eq_iff_iff,decide_eq_true_eq]
  exact idx_runes s s.size 0
theorem mod_hides (s:ByteArray) (w:World):Calls Tryz.prog 142 #[.string s,.func (.func 143) #[] #[]] w fun e w'=>e=.returned (.bool ((runesN s).any hidN))∧Below w.heap.size w w':=by
  have hp:PredAtRunes Tryz.prog 143 #[] hidN w:=by
    intro W x hx hb
    refine (mod_hidden x hx W).mono ?_
    rintro e w' ⟨rfl,rfl⟩
    exact ⟨rfl,0,rfl⟩
  have:=Tryz.strings_ContainsFunc_runes 143 #[] (enters_of Tryz.func143 (by kernel_rfl) rfl) hidN s w hp
  rw [idx_name] at this
  exact this
set_option maxRecDepth 100000 in
set_option maxHeartbeats 4000000 in
theorem mod_Name (s:ByteArray) (hs:s.size≤maxLen) (w:World):Calls Tryz.prog 116 #[.string s] w fun e w'=>e=.returned (.bool (nameN s))∧Below w.heap.size w w':=by
  have HV:=Lib.hid (mod_Valid s hs)
  have HH:=Lib.hid (mod_hides s)
  by_cases h3:validN s=true
  · rw [h3] at HV
    by_cases h1:1≤s.size
    · have i1:(1:Int)≤(s.size:Int):=by omega
      by_cases h2:s.size≤64
      · have i2:(s.size:Int)≤64:=by omega
        have hg:=Lib.hid (nameN_good h1 h2 h3)
        obtain ⟨a,ha⟩:∃ a,(runesN s).any hidN=a:=⟨_,rfl⟩
        rw [ha] at hg HH
        clear ha h3 hs
        cases a with
        | true =>
          have hF:=Lib.hid (show nameN s=false from hg.out)
          go_enter Tryz.func116,Tryz.ntmps116
          go_wp2_with fail
          refine (HV.out _).mono ?_
          rintro e w1 ⟨rfl,hb1⟩
          go_wp2_with fail
          refine (HH.out _).mono ?_
          rintro e w2 ⟨rfl,hb2⟩
          have hb:=hb1.trans (hb2.mono hb1.size)
          go_wp2_with fail
          go_ret
          exact ⟨by rw [hF.out];rfl,hb⟩
        | false =>
          have hF:=Lib.hid (show nameN s=true from hg.out)
          go_enter Tryz.func116,Tryz.ntmps116
          go_wp2_with fail
          refine (HV.out _).mono ?_
          rintro e w1 ⟨rfl,hb1⟩
          go_wp2_with fail
          refine (HH.out _).mono ?_
          rintro e w2 ⟨rfl,hb2⟩
          have hb:=hb1.trans (hb2.mono hb1.size)
          go_wp2_with fail
          go_ret
          exact ⟨by rw [hF.out];rfl,hb⟩
      · have h2':¬ (s.size:Int)≤64:=by omega
        have hF:=Lib.hid (nameN_bad (s:=s) (by omega))
        clear h3
        go_enter Tryz.func116,Tryz.ntmps116
        go_wp2_with fail
        refine (HV.out _).mono ?_
        rintro e w1 ⟨rfl,hb⟩
        go_wp2_with fail
        go_ret
        exact ⟨by rw [hF.out];rfl,hb⟩
    · have h2':¬ (1:Int)≤(s.size:Int):=by omega
      have hF:=Lib.hid (nameN_bad (s:=s) (by omega))
      clear h3
      go_enter Tryz.func116,Tryz.ntmps116
      go_wp2_with fail
      refine (HV.out _).mono ?_
      rintro e w1 ⟨rfl,hb⟩
      go_wp2_with fail
      go_ret
      exact ⟨by rw [hF.out];rfl,hb⟩
  · rw [Bool.not_eq_true] at h3
    rw [h3] at HV
    have hF:=Lib.hid (nameN_bad (s:=s) (by rw [h3];simp))
    clear h3
    go_enter Tryz.func116,Tryz.ntmps116
    go_wp2_with fail
    refine (HV.out _).mono ?_
    rintro e w1 ⟨rfl,hb⟩
    go_wp2_with fail
    go_ret
    exact ⟨by rw [hF.out];rfl,hb⟩
end Go.Proofs.YtmdgeknnhckgfaaGreatDoor
namespace Go.Proofs.YtmdgeknnhckgfaaGreatDoor
open Go Go.RowKit
variable {w w':World} {p N:Nat} {L:List Hs} {d:MD}
theorem MIs.turned {N':Nat} (r:MIs w p N L d) {i:Nat} {h:Hs} (hi:L[i]?=some h) (hN:N≤N') (ho:Only (fun k=>k=d.mb i) w w') {S:List Ses} (hm:∃ n,n≤N'∧SMap w' (d.mb i) n S):MIs w' p N' (L.set i { h with ses:=S }) d:=by
  have hil:=(List.getElem?_eq_some_iff.1 hi).1
  obtain ⟨n0,_,hm0⟩:=r.hm i h hi
  have obi:Of w (d.hb i) 125:=⟨_,_,r.hh i h hi⟩
  have e1:w'.heap[d.hb i]?=w.heap[d.hb i]?:=ho.block _ obi.lt (obi.map_ne hm0)
  have hev:=r.ht i
  have:=r.upd (w':=w') (h':={ h with ses:=S }) hi hN (d.ev i) (ho.mono (fun k _ hk=>.inr hk)) (e1.trans (r.hh i h hi)) hm
    (Reads.block (r.he i h hi) ho.size (fun b hb=>ho.block b (hev b hil hb).lt ((hev b hil hb).map_ne hm0)))
    (fun k hk=>(hev k hil hk).block (ho.block k (hev k hil hk).lt ((hev k hil hk).map_ne hm0)))
    (fun A n c e=>r.hc i A n c hil e)
  rw [setAt_id] at this
  exact this
def allQ (s:Ses):Bool:=true
set_option maxRecDepth 100000 in
set_option maxHeartbeats 4000000 in
theorem mod_revokeUser (r:MIs w p N L d) {i:Nat} {h:Hs} (hi:L[i]?=some h) (hs:Sorted h.ses) (hsm:h.ents.length≤1000) (hsl:h.ses.length≤256) (c:Cl) (hc:c.Ok) (hz:∀ s∈h.ses,s.tok.size≤maxLen) (hkd:c.kind=5) (now:Nat) (hnow:now<18446744073709551616) :
    Calls Tryz.prog 98 #[.pointer (some ⟨d.hb i,0,none⟩),clV c,.int .u64 (now:Nat)] w (MDo w p N L d i ((revokeUserN h c now).1,L.set i (revokeUserN h c now).2)):=by
  have HR:=Lib.hid r
  have HI:=Lib.hid hi
  have HS:=Lib.hid hs
  have HZ:=Lib.hid hz
  have t1:=two_blocks w 5 c.ten c.tok c.usr c.dat c.ttl c.frm c.draw
  have bx0:Box w _ 5 c.ten c.tok c.usr c.dat c.ttl c.frm c.draw:=⟨t1.1,t1.2.1,t1.2.2⟩
  have B0:=Lib.hid bx0
  have hset:L.set i h=L:=set_self hi
  have HNm:=Lib.hid (mod_Name c.usr hc.usr)
  obtain ⟨post,hpost⟩:∃ x,x=revokeUserN h c now:=⟨_,rfl⟩
  rw [←hpost]
  unfold clV
  rw [hkd]
  unfold revokeUserN at hpost
  clear t1 bx0 r hi hs hz
  cases hn:nameN c.usr with
  | false =>
    rw [if_pos hn] at hpost
    have hF:=Lib.hid (show (post.1,L.set i post.2)=(badA 400,L) by rw [hpost];simp only;rw [hset])
    rw [hn] at HNm
    clear hn hpost hset
    go_enter Tryz.func98,Tryz.ntmps98
    go_wp2_with fail
    refine (HNm.out _).mono ?_
    rintro e w1 ⟨rfl,hb1⟩
    have BX:=B0.out.kept hb1
    clear hb1
    go_wp2_with fail
    refine (mod_refuse 400 _).mono ?_
    rintro e w9 ⟨rfl,hb9⟩
    have bx9:=BX.kept hb9
    go_wp2_with (refine wpList_store_blk rfl 35 (Operand.tmp 6) (Operand.tmp 12) rfl (w.heap.size+1) rfl zero14 _ 35 rfl bx9.ans (by exact Tryz.size35) rfl (by simp [ansArr,Ans.zero,Value.oneCell']) ?_;intro w10 hk10 ho10 hs10)
    refine body_cell rfl rfl rfl hk10 Tryz.underlying35 rfl (by exact Tryz.size35) ?_
    have hbx:Below w.heap.size w w10:=bx9.below.trans (ho10.below bx9.below.size (fun k hk=>by rw [hk];exact Nat.le_succ _))
    rw [anV_bad 400 (refN 400) rfl,hF.out]
    exact MDo.same HR.out i hbx (AnM.plain _ _ rfl rfl)
  | true =>
    have hct:c.usr.size≤900000:=by have:=(nameN_size hn).2;omega
    rw [if_neg (by rw [hn];simp)] at hpost
    have HF:=Lib.hid (show (post.1,L.set i post.2)=({ status:=200,rev:=(h.ses.filter (fun s=>usrEq c.usr s && decide (now<s.exp))).length },L.set i { h with ses:=h.ses.filter (fun s=>!(usrEq c.usr s && decide (now<s.exp))),ents:=if 0<(h.ses.filter (fun s=>usrEq c.usr s && decide (now<s.exp))).length then noteN h.ents 5 now c.usr else h.ents }) by rw [hpost];rfl)
    rw [hn] at HNm
    clear hn hpost hset
    go_enter Tryz.func98,Tryz.ntmps98
    go_wp2_with fail
    refine (HNm.out _).mono ?_
    rintro e w1 ⟨rfl,hb1⟩
    have BX:=B0.out.kept hb1
    have RR:=HR.out.kept BX.below
    have HTk:=Lib.hid (mod_take124 RR HI.out HS.out HZ.out hsl now w.heap.size (usrEq c.usr) (fun W s ho=>by
      obtain ⟨n0,_,hm0⟩:=RR.hm i h HI.out
      have kb:=(ho.block _ BX.box.lt ((show Of w1 w.heap.size 53 from ⟨_,_,BX.box⟩).map_ne hm0)).trans BX.box
      exact mod_c124 s w.heap.size 5 c.ten c.tok c.usr c.dat c.ttl c.frm c.draw W kb))
    have HBX:=Lib.hid BX
    have HRR:=Lib.hid RR
    clear hb1 B0 HNm BX RR
    go_wp2_with fail
    refine HTk.out.mono ?_
    rintro e w2 ⟨rfl,hmp,ho2⟩
    have BX:=HBX.out
    have RR:=HRR.out
    clear HBX HRR HTk
    obtain ⟨n2,hn2,hm2⟩:=hmp
    have r2:=RR.turned HI.out (Nat.le_succ N) ho2 ⟨n2,Nat.le_succ_of_le hn2,hm2⟩
    obtain ⟨n0,_,hm0⟩:=RR.hm i h HI.out
    have kb2:Blk w2 w.heap.size #[.int .i64 5,.int .i64 c.ten,.string c.tok,.string c.usr,.string c.dat,.int .i64 c.ttl,.int .i64 c.frm,.int .u64 (c.draw:Int)] 53:=(ho2.block _ BX.box.lt ((show Of w1 w.heap.size 53 from ⟨_,_,BX.box⟩).map_ne hm0)).trans BX.box
    have ka2:Blk w2 (w.heap.size+1) zero14 35:=(ho2.block _ BX.ans.lt ((show Of w1 (w.heap.size+1) 35 from ⟨_,_,BX.ans⟩).map_ne hm0)).trans BX.ans
    have b0:=kb2.cell 0 (.int .i64 5) rfl
    have b3:=kb2.cell 3 (.string c.usr) rfl
    have O2:=(Only.of_below (S:=fun k=>k=d.hb i∨k=d.mb i) BX.below).trans (ho2.mono (fun k _ hk=>.inr hk))
    have hi2:(L.set i { h with ses:=h.ses.filter (fun s=>!((usrEq c.usr) s && decide (now<s.exp))) })[i]?=some { h with ses:=h.ses.filter (fun s=>!((usrEq c.usr) s && decide (now<s.exp))) }:=List.getElem?_set_self (List.getElem?_eq_some_iff.1 HI.out).1
    obtain ⟨m,hmm⟩:∃ m,(h.ses.filter (fun s=>(usrEq c.usr) s && decide (now<s.exp))).length=m:=⟨_,rfl⟩
    obtain ⟨S2,hS2⟩:∃ S2,h.ses.filter (fun s=>!((usrEq c.usr) s && decide (now<s.exp)))=S2:=⟨_,rfl⟩
    have hF2:=HF.out
    rw [hmm,hS2] at hF2
    rw [hS2] at hi2 r2
    have HNt:=Lib.hid (mod_note r2 hi2 hsm 5 now c.usr ⟨by show h.ents.length+1<_;omega,by show (5:Nat)<_;decide,hnow,hct⟩)
    have HR2:=Lib.hid r2
    have HKA2:=Lib.hid ka2
    have HO2:=Lib.hid O2
    rw [hmm]
    clear hmm hS2 kb2 ka2 O2 hi2 r2 hm2 ho2 hm0 BX
    by_cases hpos:0<m
    · have HF3:=Lib.hid (show (post.1,L.set i post.2)=({ status:=200,rev:=m },L.set i { h with ses:=S2,ents:=noteN h.ents 5 now c.usr }) by rw [hF2,if_pos hpos])
      have ipos:(0:Int)<(m:Int):=by omega
      clear hpos hF2
      go_wp2_with fail
      refine HNt.out.mono ?_
      rintro e w3 ⟨rfl,ev3,r3,o3⟩
      have hhb:=HR.out.lt (.inr (.inr (.inl ⟨i,(List.getElem?_eq_some_iff.1 HI.out).1,.inl rfl⟩)))
      have KA3:Blk w3 (w.heap.size+1) zero14 35:=(o3.block _ HKA2.out.lt (by omega)).trans HKA2.out
      rw [List.set_set] at r3
      have HKA3:=Lib.hid KA3
      have HR3:=Lib.hid r3
      have HO3:=Lib.hid (HO2.out.trans (o3.mono (fun k _ hk=>.inl hk)))
      clear KA3 r3 o3 hhb b0 b3
      go_wp2_with (refine wpList_store_blk rfl 35 (Operand.tmp 6) (Operand.tmp 27) rfl (w.heap.size+1) rfl zero14 (ansArr { Ans.zero with status:=200,revoked:=(m:Nat) }) 35 rfl HKA3.out (by exact Tryz.size35) rfl (by simp [ansArr,Ans.zero,Value.oneCell']) ?_;intro w10 hk10 ho10 hs10)
      refine body_cell rfl rfl rfl hk10 Tryz.underlying35 rfl (by exact Tryz.size35) ?_
      rw [HF3.out]
      refine ⟨_,ev3,rfl,HR3.out.only ho10 ⟨_,_,HKA3.out⟩ (by decide) (by decide) (by decide) (by decide),?_,AnM.plain _ { status:=200,rev:=m } rfl rfl⟩
      exact Only.trans2 HO3.out ho10 (fun k hk=>.inr (by rw [hk];omega))
    · have HF3:=Lib.hid (show (post.1,L.set i post.2)=({ status:=200,rev:=m },L.set i { h with ses:=S2 }) by rw [hF2,if_neg hpos])
      have ipos:¬ (0:Int)<(m:Int):=by omega
      clear hpos hF2 HNt
      go_wp2_with (refine wpList_store_blk rfl 35 (Operand.tmp 6) (Operand.tmp 27) rfl (w.heap.size+1) rfl zero14 (ansArr { Ans.zero with status:=200,revoked:=(m:Nat) }) 35 rfl HKA2.out (by exact Tryz.size35) rfl (by simp [ansArr,Ans.zero,Value.oneCell']) ?_;intro w10 hk10 ho10 hs10)
      refine body_cell rfl rfl rfl hk10 Tryz.underlying35 rfl (by exact Tryz.size35) ?_
      rw [HF3.out]
      refine ⟨_,d.ev i,rfl,?_,?_,AnM.plain _ { status:=200,rev:=m } rfl rfl⟩
      · rw [setAt_id]
        exact HR2.out.only ho10 ⟨_,_,HKA2.out⟩ (by decide) (by decide) (by decide) (by decide)
      · exact Only.trans2 HO2.out ho10 (fun k hk=>.inr (by rw [hk];omega))
set_option maxRecDepth 100000 in
set_option maxHeartbeats 4000000 in
theorem mod_revokeAll (r:MIs w p N L d) {i:Nat} {h:Hs} (hi:L[i]?=some h) (hs:Sorted h.ses) (hsm:h.ents.length≤1000) (hsl:h.ses.length≤256) (c:Cl) (hz:∀ s∈h.ses,s.tok.size≤maxLen) (hkd:c.kind=6) (now:Nat) (hnow:now<18446744073709551616) :
    Calls Tryz.prog 99 #[.pointer (some ⟨d.hb i,0,none⟩),clV c,.int .u64 (now:Nat)] w (MDo w p N L d i ((revokeAllN h c now).1,L.set i (revokeAllN h c now).2)):=by
  have HR:=Lib.hid r
  have HI:=Lib.hid hi
  have t1:=two_blocks w 6 c.ten c.tok c.usr c.dat c.ttl c.frm c.draw
  have bx0:Box w _ 6 c.ten c.tok c.usr c.dat c.ttl c.frm c.draw:=⟨t1.1,t1.2.1,t1.2.2⟩
  have hct:(⟨#[]⟩:ByteArray).size≤900000:=by decide
  obtain ⟨post,hpost⟩:∃ x,x=revokeAllN h c now:=⟨_,rfl⟩
  rw [←hpost]
  unfold clV
  rw [hkd]
  unfold revokeAllN at hpost
  have hpp:∀ s:Ses,liveB now s=(allQ s && decide (now<s.exp)):=fun s=>by unfold liveB allQ;simp
  have HF:=Lib.hid (show (post.1,L.set i post.2)=({ status:=200,rev:=(h.ses.filter (fun s=>allQ s && decide (now<s.exp))).length },L.set i { h with ses:=h.ses.filter (fun s=>!(allQ s && decide (now<s.exp))),ents:=if 0<(h.ses.filter (fun s=>allQ s && decide (now<s.exp))).length then noteN h.ents 6 now ⟨#[]⟩ else h.ents }) by
    rw [hpost];unfold takesN;rw [show liveB now=(fun s=>allQ s && decide (now<s.exp)) from funext hpp])
  have RR:=r.kept bx0.below
  have HTk:=Lib.hid (mod_take125 RR hi hs hz hsl now 0 allQ (fun W s ho=>by
    exact mod_c125 s W))
  have HBX:=Lib.hid bx0
  have HRR:=Lib.hid RR
  clear t1 bx0 r hi hs hz hpost hpp RR
  go_enter Tryz.func99,Tryz.ntmps99
  go_wp2_with fail
  refine HTk.out.mono ?_
  rintro e w2 ⟨rfl,hmp,ho2⟩
  have BX:=HBX.out
  have RR:=HRR.out
  clear HBX HRR HTk
  obtain ⟨W1,hW1⟩:∃ W1,(w.alloc (.cells #[.int .i64 6,.int .i64 c.ten,.string c.tok,.string c.usr,.string c.dat,.int .i64 c.ttl,.int .i64 c.frm,.int .u64 (c.draw:Int)] 53)).alloc (.cells zero14 35)=W1:=⟨_,rfl⟩
  rw [hW1] at BX RR ho2
  clear hW1
  obtain ⟨n2,hn2,hm2⟩:=hmp
  have r2:=RR.turned HI.out (Nat.le_succ N) ho2 ⟨n2,Nat.le_succ_of_le hn2,hm2⟩
  obtain ⟨n0,_,hm0⟩:=RR.hm i h HI.out
  have kb2:Blk w2 w.heap.size #[.int .i64 6,.int .i64 c.ten,.string c.tok,.string c.usr,.string c.dat,.int .i64 c.ttl,.int .i64 c.frm,.int .u64 (c.draw:Int)] 53:=(ho2.block _ BX.box.lt ((show Of W1 w.heap.size 53 from ⟨_,_,BX.box⟩).map_ne hm0)).trans BX.box
  have ka2:Blk w2 (w.heap.size+1) zero14 35:=(ho2.block _ BX.ans.lt ((show Of W1 (w.heap.size+1) 35 from ⟨_,_,BX.ans⟩).map_ne hm0)).trans BX.ans
  have b0:=kb2.cell 0 (.int .i64 6) rfl
  have b3:=kb2.cell 3 (.string c.usr) rfl
  have O2:=(Only.of_below (S:=fun k=>k=d.hb i∨k=d.mb i) BX.below).trans (ho2.mono (fun k _ hk=>.inr hk))
  have hi2:(L.set i { h with ses:=h.ses.filter (fun s=>!(allQ s && decide (now<s.exp))) })[i]?=some { h with ses:=h.ses.filter (fun s=>!(allQ s && decide (now<s.exp))) }:=List.getElem?_set_self (List.getElem?_eq_some_iff.1 HI.out).1
  obtain ⟨m,hmm⟩:∃ m,(h.ses.filter (fun s=>allQ s && decide (now<s.exp))).length=m:=⟨_,rfl⟩
  obtain ⟨S2,hS2⟩:∃ S2,h.ses.filter (fun s=>!(allQ s && decide (now<s.exp)))=S2:=⟨_,rfl⟩
  have hF2:=HF.out
  rw [hmm,hS2] at hF2
  rw [hS2] at hi2 r2
  have HNt:=Lib.hid (mod_note r2 hi2 hsm 6 now (⟨#[]⟩) ⟨by show h.ents.length+1<_;omega,by show (6:Nat)<_;decide,hnow,hct⟩)
  have HR2:=Lib.hid r2
  have HKA2:=Lib.hid ka2
  have HO2:=Lib.hid O2
  rw [hmm]
  clear hmm hS2 kb2 ka2 O2 hi2 r2 hm2 ho2 hm0 BX
  by_cases hpos:0<m
  · have HF3:=Lib.hid (show (post.1,L.set i post.2)=({ status:=200,rev:=m },L.set i { h with ses:=S2,ents:=noteN h.ents 6 now (⟨#[]⟩) }) by rw [hF2,if_pos hpos])
    have ipos:(0:Int)<(m:Int):=by omega
    clear hpos hF2
    go_wp2_with fail
    refine HNt.out.mono ?_
    rintro e w3 ⟨rfl,ev3,r3,o3⟩
    have hhb:=HR.out.lt (.inr (.inr (.inl ⟨i,(List.getElem?_eq_some_iff.1 HI.out).1,.inl rfl⟩)))
    have KA3:Blk w3 (w.heap.size+1) zero14 35:=(o3.block _ HKA2.out.lt (by omega)).trans HKA2.out
    rw [List.set_set] at r3
    have HKA3:=Lib.hid KA3
    have HR3:=Lib.hid r3
    have HO3:=Lib.hid (HO2.out.trans (o3.mono (fun k _ hk=>.inl hk)))
    clear KA3 r3 o3 hhb b0 b3
    go_wp2_with (refine wpList_store_blk rfl 35 (Operand.tmp 6) (Operand.tmp 19) rfl (w.heap.size+1) rfl zero14 (ansArr { Ans.zero with status:=200,revoked:=(m:Nat) }) 35 rfl HKA3.out (by exact Tryz.size35) rfl (by simp [ansArr,Ans.zero,Value.oneCell']) ?_;intro w10 hk10 ho10 hs10)
    refine body_cell rfl rfl rfl hk10 Tryz.underlying35 rfl (by exact Tryz.size35) ?_
    rw [HF3.out]
    refine ⟨_,ev3,rfl,HR3.out.only ho10 ⟨_,_,HKA3.out⟩ (by decide) (by decide) (by decide) (by decide),?_,AnM.plain _ { status:=200,rev:=m } rfl rfl⟩
    exact Only.trans2 HO3.out ho10 (fun k hk=>.inr (by rw [hk];omega))
  · have HF3:=Lib.hid (show (post.1,L.set i post.2)=({ status:=200,rev:=m },L.set i { h with ses:=S2 }) by rw [hF2,if_neg hpos])
    have ipos:¬ (0:Int)<(m:Int):=by omega
    clear hpos hF2 HNt
    go_wp2_with (refine wpList_store_blk rfl 35 (Operand.tmp 6) (Operand.tmp 19) rfl (w.heap.size+1) rfl zero14 (ansArr { Ans.zero with status:=200,revoked:=(m:Nat) }) 35 rfl HKA2.out (by exact Tryz.size35) rfl (by simp [ansArr,Ans.zero,Value.oneCell']) ?_;intro w10 hk10 ho10 hs10)
    refine body_cell rfl rfl rfl hk10 Tryz.underlying35 rfl (by exact Tryz.size35) ?_
    rw [HF3.out]
    refine ⟨_,d.ev i,rfl,?_,?_,AnM.plain _ { status:=200,rev:=m } rfl rfl⟩
    · rw [setAt_id]
      exact HR2.out.only ho10 ⟨_,_,HKA2.out⟩ (by decide) (by decide) (by decide) (by decide)
    · exact Only.trans2 HO2.out ho10 (fun k hk=>.inr (by rw [hk];omega))
end Go.Proofs.YtmdgeknnhckgfaaGreatDoor
namespace Go.Proofs.YtmdgeknnhckgfaaGreatDoor
open Go Go.RowKit
theorem Tryz.info121:(Tryz.prog.info? 121).map (fun i=>(i.zero,i.size,i.bytes))=some (some (.pointer none),1,8):=by kernel_rfl
def ptrsN (hb:Nat→Nat) (n:Nat):List Value:=(List.range n).map fun i=>.pointer (some ⟨hb i,0,none⟩)
theorem ptrsN_at {hb:Nat→Nat} {n i:Nat} (h:i<n):(ptrsN hb n)[i]?=some (.pointer (some ⟨hb i,0,none⟩)):=by
  unfold ptrsN
  rw [List.getElem?_map,List.getElem?_range h]
  rfl
theorem ptrsN_snoc (hb:Nat→Nat) (n nb:Nat):ptrsN (setAt hb n nb) (n+1)=ptrsN hb n++[.pointer (some ⟨nb,0,none⟩)]:=by
  unfold ptrsN
  rw [List.range_succ,List.map_append]
  congr 1
  · refine List.map_congr_left (fun i hi=>?_)
    rw [List.mem_range] at hi
    rw [setAt_other _ _ (by omega)]
  · simp only [List.map_cons,List.map_nil]
    rw [setAt_same]
structure PIs (W:World) (B p N:Nat) (L:List Hs) (hb mb:Nat→Nat) (ev:Nat→Value) (pv:Value):Prop where
  hp:Blk W p #[pv] 120
  hrow:W.ownsRow B 121 1 pv L.length (ptrsN hb L.length)
  hh:∀ i h,L[i]?=some h→Blk W (hb i) (hsArr h (mb i) (ev i)) 125
  hm:∀ i h,L[i]?=some h→∃ n,n≤N∧SMap W (mb i) n h.ses
  he:∀ i h,L[i]?=some h→Reads W (ev i) h.ents.length 4 (entArgs h.ents)
  ht:∀ i k,i<L.length→(ev i).ownBlock=some k→Of W k 103
  hc:∀ i A n c,i<L.length→ev i=.slice A n c→n≤c
  ih:∀ i j,i<L.length→j<L.length→hb i=hb j→i=j
  im:∀ i j,i<L.length→j<L.length→mb i=mb j→i=j
  hB:∀ i,i<L.length→B≤hb i∧B≤mb i
section
variable {W W':World} {B p N:Nat} {L:List Hs} {hb mb:Nat→Nat} {ev:Nat→Value} {pv:Value}
theorem PIs.lt (r:PIs W B p N L hb mb ev pv) {i:Nat} (hi:i<L.length):hb i<W.heap.size∧mb i<W.heap.size:=by
  obtain ⟨x,hx⟩:=get_lt hi
  obtain ⟨n,_,hm⟩:=r.hm i x hx
  exact ⟨(r.hh i x hx).lt,hm.lt⟩
theorem PIs.keep (r:PIs W B p N L hb mb ev pv) (hs:W.heap.size≤W'.heap.size) (hpb:W'.heap[p]?=W.heap[p]?) (hrow:W'.ownsRow B 121 1 pv L.length (ptrsN hb L.length))
    (h:∀ k,k<W.heap.size→¬ Of W k 121→¬ k=p→W'.heap[k]?=W.heap[k]?):PIs W' B p N L hb mb ev pv:=by
  have op:Of W p 120:=⟨_,_,r.hp⟩
  have n1:∀ k t,Of W k t→t≠120→t≠121→W'.heap[k]?=W.heap[k]?:=fun k t hk h1 h2=>h k hk.lt (fun e=>hk.ne e h2 rfl) (fun e=>by subst e;exact hk.ne op h1 rfl)
  refine ⟨hpb.trans r.hp,hrow,?_,?_,?_,?_,r.hc,r.ih,r.im,r.hB⟩
  · intro i x hx
    exact (n1 _ 125 ⟨_,_,r.hh i x hx⟩ (by decide) (by decide)).trans (r.hh i x hx)
  · intro i x hx
    obtain ⟨n,hn,hm⟩:=r.hm i x hx
    exact ⟨n,hn,hm.block (h _ hm.lt (fun e=>e.map_ne hm rfl) (fun e=>op.map_ne hm e.symm))⟩
  · intro i x hx
    have hi:=(List.getElem?_eq_some_iff.1 hx).1
    exact Reads.block (r.he i x hx) hs (fun b hb=>n1 b 103 (r.ht i b hi hb) (by decide) (by decide))
  · intro i k hi hk
    exact (r.ht i k hi hk).block (n1 k 103 (r.ht i k hi hk) (by decide) (by decide))
theorem PIs.kept (r:PIs W B p N L hb mb ev pv) (hb':Below W.heap.size W W'):PIs W' B p N L hb mb ev pv :=
  r.keep hb'.size (hb'.block p r.hp.lt) (own_below r.hrow hb') (fun k hk _ _=>hb'.block k hk)
theorem PIs.push (r:PIs W B p N L hb mb ev pv) {pv' en:Value} {nb mn:Nat} {h:Hs} (hs:W.heap.size≤W'.heap.size)
    (hsame:∀ k,k<W.heap.size→¬ Of W k 121→¬ k=p→W'.heap[k]?=W.heap[k]?) (hp:Blk W' p #[pv'] 120) (hrow:W'.ownsRow B 121 1 pv' (L.length+1) (ptrsN hb L.length++[.pointer (some ⟨nb,0,none⟩)]))
    (hnb:Blk W nb (hsArr h mn en) 125) (hmn:∃ n,n≤N∧SMap W mn n h.ses) (hen:Reads W en h.ents.length 4 (entArgs h.ents)) (hent:∀ k,en.ownBlock=some k→Of W k 103) (hec:∀ A n c,en=.slice A n c→n≤c)
    (f1:∀ i,i<L.length→hb i≠nb) (f2:∀ i,i<L.length→mb i≠mn) (b1:B≤nb) (b2:B≤mn) :
    PIs W' B p N (L++[h]) (setAt hb L.length nb) (setAt mb L.length mn) (setAt ev L.length en) pv':=by
  have op:Of W p 120:=⟨_,_,r.hp⟩
  have n1:∀ k t,Of W k t→t≠120→t≠121→W'.heap[k]?=W.heap[k]?:=fun k t hk h1 h2=>hsame k hk.lt (fun e=>hk.ne e h2 rfl) (fun e=>by subst e;exact hk.ne op h1 rfl)
  have nm:∀ k n l,SMap W k n l→W'.heap[k]?=W.heap[k]?:=fun k n l hm=>hsame _ hm.lt (fun e=>e.map_ne hm rfl) (fun e=>op.map_ne hm e.symm)
  have hln:(L++[h]).length=L.length+1:=by rw [List.length_append];rfl
  have at':∀ i x,(L++[h])[i]?=some x→(i<L.length∧L[i]?=some x)∨(i=L.length∧x=h):=by
    intro i x hx
    rcases Nat.lt_trichotomy i L.length with hi | hi | hi
    · rw [List.getElem?_append_left hi] at hx
      exact .inl ⟨hi,hx⟩
    · subst hi
      rw [List.getElem?_append_right (Nat.le_refl _),Nat.sub_self] at hx
      simp at hx
      exact .inr ⟨rfl,hx.symm⟩
    · rw [List.getElem?_eq_none (by rw [hln];omega)] at hx
      cases hx
  have lt':∀ i,i<(L++[h]).length→i<L.length∨i=L.length:=fun i hi=>by rw [hln] at hi;omega
  refine ⟨hp,?_,?_,?_,?_,?_,?_,?_,?_,?_⟩
  · rw [hln,ptrsN_snoc];exact hrow
  · intro i x hx
    rcases at' i x hx with ⟨hi,hx⟩ | ⟨rfl,rfl⟩
    · rw [setAt_other _ _ (by omega),setAt_other _ _ (by omega),setAt_other _ _ (by omega)]
      exact (n1 _ 125 ⟨_,_,r.hh i x hx⟩ (by decide) (by decide)).trans (r.hh i x hx)
    · rw [setAt_same,setAt_same,setAt_same]
      exact (n1 _ 125 ⟨_,_,hnb⟩ (by decide) (by decide)).trans hnb
  · intro i x hx
    rcases at' i x hx with ⟨hi,hx⟩ | ⟨rfl,rfl⟩
    · rw [setAt_other _ _ (by omega)]
      obtain ⟨n,hn,hm⟩:=r.hm i x hx
      exact ⟨n,hn,hm.block (nm _ _ _ hm)⟩
    · rw [setAt_same]
      obtain ⟨n,hn,hm⟩:=hmn
      exact ⟨n,hn,hm.block (nm _ _ _ hm)⟩
  · intro i x hx
    rcases at' i x hx with ⟨hi,hx⟩ | ⟨rfl,rfl⟩
    · rw [setAt_other _ _ (by omega)]
      exact Reads.block (r.he i x hx) hs (fun b hb=>n1 b 103 (r.ht i b hi hb) (by decide) (by decide))
    · rw [setAt_same]
      exact Reads.block hen hs (fun b hb=>n1 b 103 (hent b hb) (by decide) (by decide))
  · intro i k hi hk
    rcases lt' i hi with hi | rfl
    · rw [setAt_other _ _ (by omega)] at hk
      exact (r.ht i k hi hk).block (n1 k 103 (r.ht i k hi hk) (by decide) (by decide))
    · rw [setAt_same] at hk
      exact (hent k hk).block (n1 k 103 (hent k hk) (by decide) (by decide))
  · intro i A n c hi hk
    rcases lt' i hi with hi | rfl
    · rw [setAt_other _ _ (by omega)] at hk
      exact r.hc i A n c hi hk
    · rw [setAt_same] at hk
      exact hec A n c hk
  · intro i j hi hj
    rcases lt' i hi with hi | rfl<;>rcases lt' j hj with hj | rfl
    · rw [setAt_other _ _ (by omega),setAt_other _ _ (by omega)]
      exact r.ih i j hi hj
    · rw [setAt_other _ _ (by omega),setAt_same]
      exact fun e=>absurd e (f1 i hi)
    · rw [setAt_same,setAt_other _ _ (by omega)]
      exact fun e=>absurd e.symm (f1 j hj)
    · exact fun _=>rfl
  · intro i j hi hj
    rcases lt' i hi with hi | rfl<;>rcases lt' j hj with hj | rfl
    · rw [setAt_other _ _ (by omega),setAt_other _ _ (by omega)]
      exact r.im i j hi hj
    · rw [setAt_other _ _ (by omega),setAt_same]
      exact fun e=>absurd e (f2 i hi)
    · rw [setAt_same,setAt_other _ _ (by omega)]
      exact fun e=>absurd e.symm (f2 j hj)
    · exact fun _=>rfl
  · intro i hi
    rcases lt' i hi with hi | rfl
    · rw [setAt_other _ _ (by omega),setAt_other _ _ (by omega)]
      exact r.hB i hi
    · rw [setAt_same,setAt_same]
      exact ⟨b1,b2⟩
theorem PIs.none (hp:Blk W p #[.slice none 0 0] 120):PIs W B p N [] hb mb ev (.slice none 0 0) :=
  ⟨hp,World.ownsRow_nil _ _ _ _,fun i h e=>by simp at e,fun i h e=>by simp at e,fun i h e=>by simp at e,fun i k h=>by simp at h,fun i A n c h=>by simp at h,fun i j h=>by simp at h,fun i j h=>by simp at h,fun i h=>by simp at h⟩
theorem PIs.whole (r:PIs W B p N L hb mb ev pv) (h0:0<L.length):∃ d,MIs W p N L d∧(∀ k,d.own L.length k→B≤k):=by
  have hown:=r.hrow
  rcases hown.2 with ⟨_,h2⟩ | ⟨g,cap,cur,h1,hg0,hg1,hg2,hg3,hg4,hg5⟩
  · omega
  · subst h1
    refine ⟨⟨g,cap,hb,mb,ev⟩,⟨r.hp,⟨cur,hg1,?_⟩,r.hh,r.hm,r.he,r.ht,r.hc,r.ih,r.im⟩,?_⟩
    · intro i hi
      have hj:=ptrsN_at (hb:=hb) hi
      rw [←hg5,List.getElem?_take] at hj
      split at hj
      · rw [←Array.getElem?_toList];exact hj
      · cases hj
    · rintro k ⟨i,hi,rfl | rfl⟩
      · exact (r.hB i hi).1
      · exact (r.hB i hi).2
end
end Go.Proofs.YtmdgeknnhckgfaaGreatDoor
