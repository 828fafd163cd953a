/-
  Parts of the proof of the law LinModel: RTch, RSta, RGet.
-/
import Derived.Test.YtmdgeknnhckgfaaGreatDoorS17
set_option linter.unusedSimpArgs false
set_option linter.unusedVariables false
namespace Go.Proofs.YtmdgeknnhckgfaaGreatDoor
open Go Go.RowKit
theorem findI_spec (S:List Ses) (tok:ByteArray) (now:Nat):(findI S tok now = -1∧findN S tok now=none)∨∃ (k:Nat) (s:Ses),findI S tok now=(k:Int)∧S[k]?=some s∧findN S tok now=some s:=by
  unfold findI findN
  cases hf:S.findIdx? (hitB tok now) with
  | none =>
    left
    refine ⟨rfl,?_⟩
    rw [List.find?_eq_none]
    intro x hx
    rw [List.findIdx?_eq_none_iff] at hf
    rw [hf x hx];simp
  | some k =>
    right
    obtain ⟨h1,h2,h3⟩:=List.findIdx?_eq_some_iff_getElem.1 hf
    refine ⟨k,S[k],rfl,List.getElem?_eq_getElem h1,?_⟩
    rw [List.find?_eq_some_iff_getElem]
    exact ⟨h2,k,h1,rfl,fun j hj=>by
      have:=h3 j hj
      simpa using this⟩
theorem sesArgs_set:∀ (S:List Ses) (k e:Nat) (s:Ses),S[k]?=some s→sesArgs (S.set k { s with exp:=e })=(sesArgs S).set (k*4+3) (.int .u64 (e:Int))
  | [],k,e,s,h=>by simp at h
  | x::S,0,e,s,h=>by
    simp at h;subst h
    rfl
  | x::S,k+1,e,s,h=>by
    show sesCells x++sesArgs (S.set k _)=(sesCells x++sesArgs S).set ((k+1)*4+3) _
    rw [sesArgs_set S k e s (by simpa using h),List.set_append_right _ _ (by simp [sesCells];omega)]
    congr 2
    simp [sesCells];omega
theorem setExp_set:∀ {S:List Ses} {k e:Nat} {s:Ses},Sorted S→S[k]?=some s→S.map (setExp s.tok e)=S.set k { s with exp:=e }
  | [],k,e,s,_,h=>by simp at h
  | x::S,0,e,s,hs,h=>by
    simp at h;subst h
    obtain ⟨h1,h2⟩:=List.pairwise_cons.1 hs
    have:S.map (setExp x.tok e)=S:=by
      conv=>rhs;rw [←List.map_id S]
      apply List.map_congr_left
      intro y hy
      unfold setExp
      rw [if_neg]
      · rfl
      · rw [str_beq];exact fun h=>(h1 y hy).ne h.symm
    simp only [List.map_cons,this,pu2]
    congr 1
    unfold setExp
    rw [if_pos (str_beq.2 rfl)]
  | x::S,k+1,e,s,hs,h=>by
    obtain ⟨h1,h2⟩:=List.pairwise_cons.1 hs
    have hk:S[k]?=some s:=by simpa using h
    simp only [List.map_cons,pu3]
    rw [setExp_set h2 hk]
    congr 1
    unfold setExp
    rw [if_neg]
    rw [str_beq];exact (h1 s (List.mem_of_getElem? hk)).ne
theorem own_cell_set {w:World} {base size n cap g:Nat} {e:TypeId} {xs:List Value} (h:w.ownsRow base e size (.slice (some ⟨g,0,none⟩) n cap) n xs) {i:Nat} (hi:i<n*size) (u:Value) :
    (w.setCell ⟨g,i,none⟩ u).ownsRow base e size (.slice (some ⟨g,0,none⟩) n cap) n (xs.set i u):=by
  refine ⟨by rw [List.length_set];exact h.1,.inr ?_⟩
  rcases h.2 with ⟨h1,_⟩ | ⟨g',cap',cur,h1,hb,hg,hc,hm,hs,ht⟩
  · cases h1
  · cases h1
    refine ⟨g,cap,cur.setIfInBounds i u,rfl,hb,Blk.setCell (show Blk w g cur e from hg) i u,hc,hm,by rw [Array.size_setIfInBounds];exact hs,?_⟩
    rw [Array.toList_setIfInBounds,List.take_set,ht]
theorem RIs.set_exp {w:World} {p:Nat} {T:List Ten} {L:List Hs} {d:RD} (r:RIs w p T L d) {i:Nat} {h:Hs} (hi:L[i]?=some h) {k:Nat} {s:Ses} (hk:h.ses[k]?=some s) (e:Nat) {w2:World} (hb:Below w.heap.size w w2) {b cap:Nat} (hsv:d.sv i=.slice (some ⟨b,0,none⟩) h.ses.length cap) :
    RIs (w2.setCell ⟨b,k*4+3,none⟩ (.int .u64 (e:Int))) p T (L.set i { h with ses:=h.ses.set k { s with exp:=e } }) d∧Only (d.own L.length) w (w2.setCell ⟨b,k*4+3,none⟩ (.int .u64 (e:Int))):=by
  have hil:=(List.getElem?_eq_some_iff.1 hi).1
  have hkl:=(List.getElem?_eq_some_iff.1 hk).1
  obtain ⟨cur,hbk,hcur⟩:=r.hg
  have hb2:Blk w2 d.g cur 59:=hbk.kept hb
  have hO:Only (fun k=>k=d.g∨(d.sv i).ownBlock=some k∨(d.ev i).ownBlock=some k) w (w2.setCell ⟨b,k*4+3,none⟩ (.int .u64 (e:Int))) :=
    (Only.of_below hb).setCell (.inl (.inr (.inl (by rw [hsv];rfl)))) _ _
  have hO':=hO.mono (S':=d.own L.length) (fun k _ hk=>by
    rcases hk with rfl | hk
    · exact .inl rfl
    · exact .inr ⟨i,hil,hk⟩)
  have hrow:=own_below (r.hs i h hi) hb
  rw [hsv] at hrow
  obtain ⟨c90,hc90⟩:=own_typed hrow rfl
  have hne:d.g≠b:=Of.ne (show Of w2 d.g 59 from ⟨_,_,hb2⟩) (show Of w2 b 90 from ⟨_,_,hc90⟩) (by decide)
  have hset:=own_cell_set hrow (i:=k*4+3) (by omega) (.int .u64 (e:Int))
  rw [←sesArgs_set h.ses k e s hk,←hsv] at hset
  have hlen:(h.ses.set k { s with exp:=e }).length=h.ses.length:=List.length_set
  have:=r.upd (h':={ h with ses:=h.ses.set k { s with exp:=e } }) (w':=w2.setCell ⟨b,k*4+3,none⟩ (.int .u64 (e:Int))) hi rfl (d.sv i) (d.ev i) ⟨cur,hb2.setCell_ne hne _ _,fun j x hj hx=>hcur j x hx,(hcur i h hi).1,(hcur i h hi).2.1,(hcur i h hi).2.2⟩
    (by simp only [hlen];exact hset) (own_set (own_below (r.he i h hi) hb) (show Blk w2 b c90 90 from hc90) (by decide) _ _) hO (fun k hk=>.inl hk) (fun k hk=>.inl hk)
  rw [setAt_self,setAt_self] at this
  exact ⟨this,hO'⟩
variable {w:World} {p:Nat} {T:List Ten} {L:List Hs} {d:RD}
set_option maxRecDepth 100000 in
set_option maxHeartbeats 8000000 in
theorem ref_touch (r:RIs w p T L d) {i:Nat} {h:Hs} (hi:L[i]?=some h) {n:Nat} (hok:HsOk n h) (hn:n≤1000) (c:Cl) (hc:c.ten=(i:Int)) (hcok:c.Ok) (now:Nat) (hnow:now<18446744073709551616) (hkd:c.kind=3) :
    Calls Tryz.prog 22 #[.pointer (some ⟨p,0,none⟩),clV c,.int .u64 (now:Nat)] w (RDo w p T L d ((touchN h c now).1,L.set i (touchN h c now).2)):=by
  have HR:=Lib.hid r
  have HI:=Lib.hid hi
  have t1:=two_blocks w 3 (i:Int) c.tok c.usr c.dat c.ttl c.frm c.draw
  have bx0:Box w _ 3 (i:Int) c.tok c.usr c.dat c.ttl c.frm c.draw:=⟨t1.1,t1.2.1,t1.2.2⟩
  have B0:=Lib.hid bx0
  have HTl:=Lib.hid (ref_ttl c.ttl)
  have HOK:=Lib.hid hok
  obtain ⟨post,hpost⟩:∃ x,x=(touchN h c now):=⟨_,rfl⟩
  rw [←hpost]
  unfold clV
  rw [hc,hkd]
  clear bx0 t1 r hi hok hcok hc hkd
  cases b4:ttlN c.ttl with
  | false =>
    have hF:=Lib.hid (show (post.1,L.set i post.2)=(badA 400,L) by rw [hpost];unfold touchN;rw [if_pos b4];simp only;rw [set_self HI.out])
    rw [b4] at HTl
    clear hpost b4
    go_enter Tryz.func22,Tryz.ntmps22
    go_wp2_with fail
    refine (HTl.out _).mono ?_
    rintro e w3 ⟨rfl,hw3⟩
    obtain rfl:=hw3.symm
    clear hw3
    have BX:=B0.out
    go_wp2_with fail
    refine (ref_bad 400 (⟨#[98,97,100]⟩) _).mono ?_
    rintro e w9 ⟨rfl,hb9⟩
    have bx9:=BX.kept hb9
    go_wp2_with (refine wpList_store_blk rfl 35 (Operand.tmp 6) (Operand.tmp 13) rfl (w.heap.size+1) rfl zero14 _ 35 rfl bx9.ans (by exact Tryz.size35) rfl (by simp [ansArr,Ans.zero,Value.oneCell']) ?_;intro w10 hk10 ho10 hs10)
    refine body_cell rfl rfl rfl hk10 Tryz.underlying35 rfl (by exact Tryz.size35) ?_
    have hbx:Below w.heap.size w w10:=bx9.below.trans (ho10.below bx9.below.size (fun k hk=>by rw [hk];exact Nat.le_succ _))
    rw [anV_bad 400 (⟨#[98,97,100]⟩) rfl,hF.out]
    exact RDo.of (RTo.refl HR.out hbx) rfl rfl
  | true =>
    rw [b4] at HTl
    have tl:=ttlN_of b4
    obtain ⟨tl1,tl2⟩:=tl
    have HPO:=Lib.hid hpost
    have HB4:=Lib.hid b4
    clear hpost b4
    obtain ⟨tn,htn⟩:∃ tn:Nat,c.ttl=(tn:Int):=⟨c.ttl.toNat,by omega⟩
    have HTN:=Lib.hid htn
    clear htn
    go_enter Tryz.func22,Tryz.ntmps22
    go_wp2_with fail
    refine (HTl.out _).mono ?_
    rintro e w3 ⟨rfl,hw3⟩
    have BX:Box w w3 3 (i:Int) c.tok c.usr c.dat c.ttl c.frm c.draw:=by rw [hw3];exact B0.out
    have x1:=BX.box.cell 1 (.int .i64 (i:Int)) rfl
    have x2:=BX.box.cell 2 (.string c.tok) rfl
    have HFD:=Lib.hid (ref_find (HR.out.kept BX.below) HI.out c.tok now)
    clear hw3 HTl B0
    go_wp2_with fail
    refine HFD.out.mono ?_
    rintro e w4 ⟨rfl,hw4⟩
    rw [←hw4] at BX
    clear hw4 HFD x1 x2
    rcases findI_spec h.ses c.tok now with ⟨f1,f2⟩ | ⟨k,s,f1,f2,f3⟩
    · have hF:=Lib.hid (show (post.1,L.set i post.2)=(badA 404,L) by rw [HPO.out];unfold touchN;rw [if_neg (by rw [HB4.out];simp),f2];simp only;rw [set_self HI.out])
      rw [f1]
      clear f1 f2
      go_wp2_with fail
      refine (ref_bad 404 (⟨#[109,105,115,115,105,110,103]⟩) _).mono ?_
      rintro e w9 ⟨rfl,hb9⟩
      have bx9:=BX.kept hb9
      go_wp2_with (refine wpList_store_blk rfl 35 (Operand.tmp 6) (Operand.tmp 23) rfl (w.heap.size+1) rfl zero14 _ 35 rfl bx9.ans (by exact Tryz.size35) rfl (by simp [ansArr,Ans.zero,Value.oneCell']) ?_;intro w10 hk10 ho10 hs10)
      refine body_cell rfl rfl rfl hk10 Tryz.underlying35 rfl (by exact Tryz.size35) ?_
      have hbx:Below w.heap.size w w10:=bx9.below.trans (ho10.below bx9.below.size (fun k hk=>by rw [hk];exact Nat.le_succ _))
      rw [anV_bad 404 (⟨#[109,105,115,115,105,110,103]⟩) rfl,hF.out]
      exact RDo.of (RTo.refl HR.out hbx) rfl rfl
    · rw [f1]
      have hst:s.tok=c.tok:=(findN_mem f3).2.1
      have hF:=Lib.hid (show post=({ status:=200,exp:=untilN now tn },{ h with ses:=h.ses.set k { s with exp:=untilN now tn },ents:=noteN h.ents 3 now c.tok }) by
        rw [HPO.out];unfold touchN;rw [if_neg (by rw [HB4.out];simp),f3];simp only;rw [←hst,setExp_set HOK.out.sorted f2,HTN.out];rfl)
      have HUnt:=ref_until now tn (by have:=HTN.out;omega)
      obtain ⟨ex,hex⟩:∃ x,untilN now tn=x:=⟨_,rfl⟩
      rw [hex] at HUnt hF
      replace HUnt:=Lib.hid HUnt
      clear hex f1 f3 hst
      obtain ⟨c0,c1,c2,c3,c4,cl⟩:=(HR.out.kept BX.below).cells HI.out
      have hrow:=(HR.out.kept BX.below).hs i h HI.out
      obtain ⟨b,cap,hsv,hbl,_,d0,d1,d2,d3⟩:=ses_at hrow f2
      rw [hsv] at c2
      have x1:=BX.box.cell 1 (.int .i64 (i:Int)) rfl
      have il:(i:Int)<(L.length:Int):=by have:=(List.getElem?_eq_some_iff.1 HI.out).1;omega
      have kl:(k:Int)<(h.ses.length:Int):=by have:=(List.getElem?_eq_some_iff.1 f2).1;omega
      have HSV:=Lib.hid hsv
      have HBX:=Lib.hid BX
      have HK:=Lib.hid f2
      clear BX c0 c3 c4 d0 d1 d2 hrow hsv f2 hbl d3
      go_wp2_with fail
      go_quiet (fail)
      clear c1 c2 x1
      have hbq:Below w4.heap.size w4 (w4.drewN nq):=⟨rfl,rfl,rfl,Nat.le_refl _,fun _ _=>rfl⟩
      replace HBX:=Lib.hid (HBX.out.kept hbq)
      clear hbq
      generalize w4.drewN nq=w5 at HBX ⊢
      have x5:w5.cell? ⟨w.heap.size,5,none⟩=some (.int .i64 (tn:Int)):=HBX.out.box.cell 5 _ (by rw [←HTN.out];rfl)
      go_wp2_with fail
      refine (HUnt.out _).mono ?_
      rintro e w6 ⟨rfl,hw6⟩
      obtain rfl:=hw6.symm
      clear hw6 x5 HUnt
      have hrow:=(HR.out.kept HBX.out.below).hs i h HI.out
      obtain ⟨b',cap',hsv',hbl,_,d0,d1,d2,d3⟩:=ses_at hrow HK.out
      have e:=HSV.out.symm.trans hsv'
      cases e
      have f3:w5.frozen? ⟨b,k*4+3,none⟩=false:=by
        rw [hsv'] at hrow
        obtain ⟨cc,hcc⟩:=own_typed hrow rfl
        exact (show Blk w5 b cc 90 from hcc).frozen _
      have hset:=HR.out.set_exp HI.out HK.out ex HBX.out.below HSV.out
      have hTy:=(HR.out.kept HBX.out.below).hs i h HI.out
      rw [HSV.out] at hTy
      obtain ⟨c90,hc90⟩:=own_typed hTy rfl
      have KX:=HBX.out.box.setCell_ne (Of.ne (show Of w5 w.heap.size 53 from ⟨_,_,HBX.out.box⟩) (show Of w5 b 90 from ⟨_,_,hc90⟩) (by decide)) (k*4+3) (.int .u64 (ex:Int))
      have KA:=HBX.out.ans.setCell_ne (Of.ne (show Of w5 (w.heap.size+1) 35 from ⟨_,_,HBX.out.ans⟩) (show Of w5 b 90 from ⟨_,_,hc90⟩) (by decide)) (k*4+3) (.int .u64 (ex:Int))
      have KS:=(show Blk w5 b c90 90 from hc90).setCell (k*4+3) (.int .u64 (ex:Int))
      have HS:=Lib.hid hset
      have HKX:=Lib.hid KX
      have HKA:=Lib.hid KA
      have HKS:=Lib.hid KS
      have hsz:k*4+3<c90.size:=by
        have:=d3
        simp only [World.cell?,hc90] at this
        exact (Array.getElem?_eq_some_iff.1 (by simpa using this)).1
      clear hset KX KA KS hTy hrow hsv' hbl d0 d1 d2 hc90
      go_upto_region 8 with fail
      generalize w5.setCell ⟨b,k*4+3,none⟩ (.int .u64 (ex:Int))=w6 at HS HKX HKA HKS ⊢
      clear d3 f3
      have x0:=HKX.out.cell 0 _ rfl
      have x1:=HKX.out.cell 1 _ rfl
      have x2:=HKX.out.cell 2 _ rfl
      have x3:=HKX.out.cell 3 _ rfl
      have x4:=HKX.out.cell 4 _ rfl
      have x5:=HKX.out.cell 5 _ rfl
      have x6:=HKX.out.cell 6 _ rfl
      have x7:=HKX.out.cell 7 _ rfl
      have hi2:(L.set i { h with ses:=h.ses.set k { s with exp:=ex } })[i]?=some { h with ses:=h.ses.set k { s with exp:=ex } }:=by
        rw [List.getElem?_set_self (List.getElem?_eq_some_iff.1 HI.out).1]
      have HA:=Lib.hid (ref_audit HS.out.1 hi2 (by have:=HOK.out.ents;show h.ents.length≤_;omega) ⟨3,(i:Int),c.tok,c.usr,c.dat,c.ttl,c.frm,c.draw⟩ rfl 3 rfl now c.tok)
      have HL2:=Lib.hid (show (L.set i { h with ses:=h.ses.set k { s with exp:=ex } }).length=L.length from List.length_set)
      clear hi2
      go_wp2_with fail
      refine HA.out.mono ?_
      rintro e w10 ⟨rfl,HT3,h90⟩
      obtain ⟨d3,hg3,r3,o3,l3,k3⟩:=HT3
      rw [HL2.out] at o3 l3 k3
      have hnoA:¬ d.own L.length (w.heap.size+1):=fun h'=>by have:=HR.out.own_lt h';omega
      have KA3:=HKA.out.only o3 hnoA
      have KS3:Blk w10 b (c90.setIfInBounds (k*4+3) (.int .u64 (ex:Int))) 90:=(h90 b ⟨_,_,HKS.out⟩).trans HKS.out
      have z3:=KS3.cell (k*4+3) (.int .u64 (ex:Int)) (by rw [Array.getElem?_setIfInBounds_self,if_pos hsz])
      have HT4:=Lib.hid (show RTo w p T L d ((L.set i { h with ses:=h.ses.set k { s with exp:=ex } }).set i { h with ses:=h.ses.set k { s with exp:=ex },ents:=noteN h.ents 3 now c.tok }) w10 from
        RTo.trans rfl HS.out.2 HL2.out (fun k hk=>.inl hk) ⟨d3,hg3,r3,by rw [HL2.out];exact o3,by rw [HL2.out];exact l3,by rw [HL2.out];exact k3⟩)
      have HKA3:=Lib.hid KA3
      clear x0 x1 x2 x3 x4 x5 x6 x7 KS3 KA3 hg3 r3 o3 l3 k3 HA h90 hnoA
      go_wp2_with (refine wpList_store_blk rfl 35 (Operand.tmp 6) (Operand.tmp 52) rfl (w.heap.size+1) rfl zero14 (ansArr ⟨200,⟨#[]⟩,⟨#[]⟩,⟨#[]⟩,⟨#[]⟩,(ex:Int),0,.slice none 0 0,.slice none 0 0,⟨#[]⟩,0,0,0,0⟩) 35 rfl HKA3.out (by exact Tryz.size35) rfl (by simp [ansArr,Value.oneCell']) ?_;intro w11 hk11 ho11 hs11)
      refine body_cell rfl rfl rfl hk11 Tryz.underlying35 rfl (by exact Tryz.size35) ?_
      have hT3:=HT4.out
      rw [List.set_set] at hT3
      have hfin:=RDo.of (a:={ status:=200,exp:=ex }) (hT3.store (ab:=w.heap.size+1) (by omega) ⟨_,_,HKA3.out⟩ ho11) rfl rfl
      rw [hF.out]
      exact hfin
end Go.Proofs.YtmdgeknnhckgfaaGreatDoor
namespace Go.Proofs.YtmdgeknnhckgfaaGreatDoor
open Go Go.RowKit
theorem usersN_mem {u:ByteArray}:∀ {l:List Ses},u∈usersN l↔∃ s∈l,s.usr=u
  | []=>by simp [usersN]
  | x::l=>by
    unfold usersN
    simp only
    split
    · rename_i h
      rw [usersN_mem]
      constructor
      · rintro ⟨s,hs,e⟩;exact ⟨s,List.mem_cons_of_mem _ hs,e⟩
      · rintro ⟨s,hs,e⟩
        rcases List.mem_cons.1 hs with rfl | hs
        · rw [List.any_eq_true] at h
          obtain ⟨v,hv,hve⟩:=h
          have:=str_beq.1 hve
          rw [←e,←this]
          exact usersN_mem.1 hv
        · exact ⟨s,hs,e⟩
    · rw [List.mem_cons,usersN_mem]
      constructor
      · rintro (rfl | ⟨s,hs,e⟩)
        · exact ⟨x,by simp,rfl⟩
        · exact ⟨s,List.mem_cons_of_mem _ hs,e⟩
      · rintro ⟨s,hs,e⟩
        rcases List.mem_cons.1 hs with rfl | hs
        · exact .inl e.symm
        · exact .inr ⟨s,hs,e⟩
def seenB (l:List Ses) (i:Nat) (u:ByteArray):Bool:=(l.take i).any fun s=>s.usr.toList == u.toList
def cntU (l:List Ses) (i:Nat):Nat:=(usersN (l.take i).reverse).length
theorem cntU_step {l:List Ses} {i:Nat} {s:Ses} (h:l[i]?=some s):cntU l (i+1)=if seenB l i s.usr=true then cntU l i else cntU l i+1:=by
  unfold cntU
  rw [take_snoc h,List.reverse_append]
  show (usersN (s::(l.take i).reverse)).length=_
  have hq:((usersN (l.take i).reverse).any fun u=>u.toList == s.usr.toList)=seenB l i s.usr:=by
    unfold seenB
    rw [Bool.eq_iff_iff,List.any_eq_true,List.any_eq_true]
    constructor
    · rintro ⟨u,hu,e⟩
      obtain ⟨x,hx,hxe⟩:=usersN_mem.1 hu
      exact ⟨x,by simpa using hx,by rw [hxe];exact e⟩
    · rintro ⟨x,hx,e⟩
      exact ⟨x.usr,usersN_mem.2 ⟨x,by simpa using hx,rfl⟩,e⟩
  conv=>lhs;unfold usersN
  simp only [hq]
  split<;>simp
theorem seenB_step {l:List Ses} {i:Nat} {s:Ses} (h:l[i]?=some s) (u:ByteArray):seenB l (i+1) u=(seenB l i u || s.usr.toList == u.toList):=by
  unfold seenB
  rw [take_snoc h,List.any_append]
  simp
theorem cntU_le (l:List Ses):∀ i,cntU l i≤i
  | 0=>by simp [cntU,usersN]
  | i+1=>by
    by_cases h:i<l.length
    · obtain ⟨s,hs⟩:=get_lt h
      rw [cntU_step hs]
      have:=cntU_le l i
      split<;>omega
    · have e:l.take (i+1)=l.take i:=by rw [List.take_of_length_le (by omega),List.take_of_length_le (by omega)]
      unfold cntU
      rw [e]
      have:=cntU_le l i
      unfold cntU at this
      omega
variable {w:World} {p:Nat} {T:List Ten} {L:List Hs} {d:RD}
def RSt (w:World) (l:List Ses) (uv iv:Value) (W:World):Prop:=∃ k:Nat,k≤l.length∧iv=.int .i64 (k:Nat)∧uv=.int .i64 (cntU l k:Nat)∧Below w.heap.size w W
def RSt2 (w:World) (l:List Ses) (i:Nat) (u:ByteArray) (bv kv:Value) (W:World):Prop:=∃ k:Nat,k≤i∧kv=.int .i64 (k:Nat)∧bv=.bool (seenB l k u)∧Below w.heap.size w W
set_option maxRecDepth 100000 in
set_option maxHeartbeats 8000000 in
theorem ref_stats (r:RIs w p T L d) {i:Nat} {h:Hs} (hi:L[i]?=some h) {n:Nat} (hok:HsOk n h) (hn:n≤1000) (now:Nat) :
    Calls Tryz.prog 45 #[.pointer (some ⟨p,0,none⟩),.int .i64 (i:Nat),.int .u64 (now:Nat)] w (RDo w p T L d ((statsN h now).1,L)):=by
  have HR:=Lib.hid r
  have HI:=Lib.hid hi
  have HOK:=Lib.hid hok
  have hB0:Below w.heap.size w (w.alloc (.cells zero14 35)):=(Below.refl _ _).alloc (Nat.le_refl _) _
  have hA0:=Blk.new w zero14 35
  have HL:=Lib.hid (ref_Live (now:=now) (r.kept hB0) hi (by have:=hok.len;omega))
  have HB0:=Lib.hid hB0
  have HA0:=Lib.hid hA0
  have hll:=liveN_len h.ses now
  have hsl:=hok.len
  clear r hi hok hB0 hA0
  obtain ⟨post,hpost⟩:∃ x,x=(statsN h now).1:=⟨_,rfl⟩
  rw [←hpost]
  have hF:=Lib.hid (show post={ status:=200,live:=(liveN h.ses now).length,users:=cntU (liveN h.ses now) (liveN h.ses now).length,total:=h.ents.length,next:=h.next } by
    rw [hpost];unfold statsN cntU;simp only [List.take_length])
  clear hpost
  obtain ⟨l,hl⟩:∃ l,liveN h.ses now=l:=⟨_,rfl⟩
  rw [hl] at HL hF hll
  clear hl
  go_enter Tryz.func45,Tryz.ntmps45
  go_wp2_with fail
  refine HL.out.mono ?_
  rintro e w1 ⟨v,rfl,hown,hb1⟩
  obtain ⟨A,cap,rfl⟩:=own_form hown
  have hb2:=HB0.out.trans (hb1.mono HB0.out.size)
  have hA1:=HA0.out.kept hb1
  have HB:=Lib.hid hb2
  have HA:=Lib.hid hA1
  have HO:=Lib.hid hown
  clear hown hb1 hb2 hA1 HL HB0 HA0
  go_upto_block 0 with fail
  go_cut [8] from 16 to 65 (fun v W=>v=.int .i64 (cntU l l.length:Nat)∧Below w1.heap.size w1 W)
  case first =>
    go_wp2_with fail
    go_loopw [8,9] (RSt w1 l) (fun _ v _=>l.length - (intOf v).toNat)
    case atStart=>exact ⟨0,Nat.zero_le _,rfl,rfl,Below.refl _ _⟩
    case round =>
      obtain ⟨j,hj,rfl,rfl,hb⟩:=hrel
      have cu:=cntU_le l j
      by_cases hlt:j<l.length
      · obtain ⟨s,hs⟩:=get_lt hlt
        have HS:=Lib.hid hs
        clear hs
        go_wp2_with fail
        go_loopw [10,11] (RSt2 w1 l j s.usr) (fun _ v _=>j - (intOf v).toNat)
        case atStart=>exact ⟨0,Nat.zero_le _,rfl,rfl,hb⟩
        case round =>
          clear hb
          obtain ⟨k,hk,rfl,rfl,hb3⟩:=hrel
          by_cases hkl:k<j
          · obtain ⟨x,hx⟩:=get_lt (l:=l) (i:=k) (by omega)
            obtain ⟨g,cap',e,hg,_,d0,d1,d2,d3⟩:=ses_at (own_below HO.out hb3) hx
            cases e
            obtain ⟨g',cap',e,hg',_,y0,y1,y2,y3⟩:=ses_at (own_below HO.out hb3) HS.out
            cases e
            have hst:=seenB_step hx s.usr
            have kl:(k:Int)<(l.length:Int):=by omega
            have jl:(j:Int)<(l.length:Int):=by omega
            clear hx d0 d2 d3 y0 y2 y3 hg'
            cases hsb:seenB l k s.usr with
            | true =>
              rw [hsb] at hst
              have HST:=Lib.hid hst
              clear hst hsb
              go_wp2_with fail
              go_quiet (fail)
              go_wp2_with fail
              go_roundw
              case rel=>exact ⟨k+1,hkl,rfl,by rw [HST.out];rfl,⟨hb3.os,hb3.tape,hb3.output,hb3.size,hb3.block⟩⟩
              case measure=>simp [intOf];omega
            | false =>
              rw [hsb] at hst
              cases hq:(x.usr.toList == s.usr.toList) with
              | true =>
                rw [hq] at hst
                have HST:=Lib.hid hst
                clear hst hsb
                go_wp2_with fail
                go_quiet (fail)
                go_wp2_with fail
                go_roundw
                case rel=>exact ⟨k+1,hkl,rfl,by rw [HST.out];rfl,⟨hb3.os,hb3.tape,hb3.output,hb3.size,hb3.block⟩⟩
                case measure=>simp [intOf];omega
              | false =>
                rw [hq] at hst
                have HST:=Lib.hid hst
                clear hst hsb
                go_wp2_with fail
                go_quiet (fail)
                go_wp2_with fail
                go_roundw
                case rel=>exact ⟨k+1,hkl,rfl,by rw [HST.out];rfl,⟨hb3.os,hb3.tape,hb3.output,hb3.size,hb3.block⟩⟩
                case measure=>simp [intOf];omega
          · obtain rfl:k=j:=by omega
            have hst:=cntU_step HS.out
            have w1':IntKind.i64.wrap ((cntU l k:Int)+1)=((cntU l k+1:Nat):Int):=(IntWalk.i64_in _ (by omega)).trans (by omega)
            cases hsb:seenB l k s.usr with
            | true =>
              rw [hsb,if_pos rfl] at hst
              have HST:=Lib.hid hst
              clear hst hsb
              go_wp2_with fail
              go_roundw
              case rel=>exact ⟨k+1,hlt,rfl,by rw [HST.out],hb3⟩
              case measure=>simp [intOf];omega
            | false =>
              rw [hsb,if_neg (by simp)] at hst
              have HST:=Lib.hid hst
              clear hst hsb
              go_wp2_with fail
              go_roundw
              case rel=>exact ⟨k+1,hlt,rfl,by rw [HST.out];rfl,hb3⟩
              case measure=>simp [intOf];omega
      · have hK:j=l.length:=by omega
        subst hK
        have hlt':¬ ((l.length:Nat):Int)<(l.length:Int):=by omega
        go_wp2_with fail
        go_meet
        case rel=>exact ⟨rfl,hb⟩
  case rest =>
    obtain ⟨rfl,hb⟩:=hcut
    have hb2:=HB.out.trans (hb.mono HB.out.size)
    have rr:=HR.out.kept hb2
    obtain ⟨c0,c1,c2,c3,c4,cl⟩:=rr.cells HI.out
    obtain ⟨A2,cap2,hev⟩:=own_form (rr.he i h HI.out)
    rw [hev] at c4
    have il:(i:Int)<(L.length:Int):=by have:=(List.getElem?_eq_some_iff.1 HI.out).1;omega
    have KA:=HA.out.kept hb
    have HKA:=Lib.hid KA
    have HB2:=Lib.hid hb2
    clear c0 c2 rr hev KA hb hb2
    go_wp2_with fail
    refine region_cut (S:=fun w':World=>w'.cell? ⟨p,1,none⟩=some (.slice (some ⟨d.g,0,none⟩) L.length d.cap)∧w'.cell? ⟨d.g,i*3+1,none⟩=some (.int .i64 (h.next:Nat))∧w'.cell? ⟨d.g,i*3+2,none⟩=some (.slice A2 h.ents.length cap2)) 21
      (.take 0 (.take 1 (.take 2 (.take 3 (.take 4 (.take 5 (.take 6 (.take 7 (.take 8 (.take 9 (.take 10 (.take 11 (.take 12 (.take 13 (.take 14 (.take 15 (.take 16 (.take 17 (.take 18 (.take 19 (.take 20 (.one 21 .nil))))))))))))))))))))))
      (by kernel_rfl) (by kernel_rfl) (by kernel_rfl) (fun _ _ _ dst _ h=>by cases dst<;>exact h) ⟨c1,c3,c4⟩ (fun hH=>?_)
    clear hH
    (repeat (first | (refine cut_free (v:=?_) (by (simp only [ga1,ga2,ga3];exact rfl)) (by rfl) ?_ ?_;rotate_left;(focus (intro wS;go_simp;(try with_reducible rfl);done));simp only [Act.put,pu1,pu2,pu3]) | (refine cut_take (v:=?_) (by kernel_rfl) (by (simp only [ga1,ga2,ga3];exact rfl)) (by rfl) ?_ ?_;rotate_left;(focus (intro wS hS;(try dsimp only at hS);go_split_ands;go_simp;(try with_reducible rfl);done));simp only [Act.put,pu1,pu2,pu3])))
    refine (cut_here (by (simp only [ga1,ga2,ga3];exact rfl)) (by rfl) ?_)
    intro K hK
    refine oper_store_blk 35 (Operand.tmp 6) (Operand.tmp 65) rfl w.heap.size rfl zero14 (ansArr ⟨200,⟨#[]⟩,⟨#[]⟩,⟨#[]⟩,⟨#[]⟩,0,0,.slice none 0 0,.slice none 0 0,⟨#[]⟩,(l.length:Int),(cntU l l.length:Int),(h.ents.length:Int),(h.next:Int)⟩) 35 rfl HKA.out (by exact Tryz.size35) rfl (by simp [ansArr,Value.oneCell']) ?_
    intro w11 hk11 ho11 hs11
    refine hK.out _ _ ?_
    refine tree_nil ?_
    clear hK K
    go_wp2_with fail
    refine body_cell rfl rfl rfl hk11 Tryz.underlying35 rfl (by exact Tryz.size35) ?_
    have hfin:=RDo.of (a:={ status:=200,live:=l.length,users:=cntU l l.length,total:=h.ents.length,next:=h.next }) ((RTo.refl HR.out HB2.out.drew).store (ab:=w.heap.size) (Nat.le_refl _) ⟨_,_,HKA.out⟩ ho11) rfl rfl
    rw [hF.out]
    exact hfin
end Go.Proofs.YtmdgeknnhckgfaaGreatDoor
namespace Go.Proofs.YtmdgeknnhckgfaaGreatDoor
open Go Go.RowKit
variable {w:World} {p:Nat} {T:List Ten} {L:List Hs} {d:RD}
theorem RDo.same {w w':World} {p:Nat} {T:List Ten} {L:List Hs} {d:RD} (r:RIs w p T L d) {a:An} {v:Value} (hb:Below w.heap.size w w') (h:AnsIs w' (fun k=>k<w.heap.size) a v):RDo w p T L d (a,L) (.returned v) w':=by
  refine ⟨v,d,rfl,r.kept hb,Only.of_below hb,rfl,fun k hk=>.inl hk,?_⟩
  obtain ⟨tv,ev,rfl,h1,h2⟩:=h
  exact ⟨tv,ev,rfl,⟨h1.1,fun b hb' hn hs=>h1.2 b hb' hn (hs.elim r.own_lt id)⟩,⟨h2.1,fun b hb' hn hs=>h2.2 b hb' hn (hs.elim r.own_lt id)⟩⟩
set_option maxRecDepth 100000 in
set_option maxHeartbeats 8000000 in
theorem ref_get (r:RIs w p T L d) {i:Nat} {h:Hs} (hi:L[i]?=some h) (c:Cl) (hc:c.ten=(i:Int)) (now:Nat) (hkd:c.kind=2) :
    Calls Tryz.prog 24 #[.pointer (some ⟨p,0,none⟩),clV c,.int .u64 (now:Nat)] w (RDo w p T L d ((getN h c now).1,L.set i (getN h c now).2)):=by
  have HR:=Lib.hid r
  have HI:=Lib.hid hi
  have t1:=two_blocks w 2 (i:Int) c.tok c.usr c.dat c.ttl c.frm c.draw
  have bx0:Box w _ 2 (i:Int) c.tok c.usr c.dat c.ttl c.frm c.draw:=⟨t1.1,t1.2.1,t1.2.2⟩
  have B0:=Lib.hid bx0
  have hfd:=ref_find (r.kept bx0.below) hi c.tok now
  have HFD:=Lib.hid hfd
  obtain ⟨post,hpost⟩:∃ x,x=(getN h c now):=⟨_,rfl⟩
  rw [←hpost]
  unfold clV
  rw [hc,hkd]
  have HPO:=Lib.hid hpost
  clear bx0 t1 r hi hc hkd hfd hpost
  go_enter Tryz.func24,Tryz.ntmps24
  go_wp2_with fail
  refine HFD.out.mono ?_
  rintro e w4 ⟨rfl,hw4⟩
  have BX:Box w w4 2 (i:Int) c.tok c.usr c.dat c.ttl c.frm c.draw:=by rw [hw4];exact B0.out
  clear hw4 HFD B0
  rcases findI_spec h.ses c.tok now with ⟨f1,f2⟩ | ⟨k,s,f1,f2,f3⟩
  · have hF:=Lib.hid (show (post.1,L.set i post.2)=(badA 404,L) by rw [HPO.out];unfold getN;rw [f2];simp only;rw [set_self HI.out])
    rw [f1]
    clear f1 f2
    go_wp2_with fail
    refine (ref_bad 404 (⟨#[109,105,115,115,105,110,103]⟩) _).mono ?_
    rintro e w9 ⟨rfl,hb9⟩
    have bx9:=BX.kept hb9
    go_wp2_with (refine wpList_store_blk rfl 35 (Operand.tmp 6) (Operand.tmp 28) rfl (w.heap.size+1) rfl zero14 _ 35 rfl bx9.ans (by exact Tryz.size35) rfl (by simp [ansArr,Ans.zero,Value.oneCell']) ?_;intro w10 hk10 ho10 hs10)
    refine body_cell rfl rfl rfl hk10 Tryz.underlying35 rfl (by exact Tryz.size35) ?_
    have hbx:Below w.heap.size w w10:=bx9.below.trans (ho10.below bx9.below.size (fun k hk=>by rw [hk];exact Nat.le_succ _))
    rw [anV_bad 404 (⟨#[109,105,115,115,105,110,103]⟩) rfl,hF.out]
    exact RDo.of (RTo.refl HR.out hbx) rfl rfl
  · have hF:=Lib.hid (show (post.1,L.set i post.2)=({ status:=200,usr:=s.usr,dat:=s.dat,exp:=s.exp },L) by rw [HPO.out];unfold getN;rw [f3];simp only;rw [set_self HI.out])
    rw [f1]
    obtain ⟨c0,c1,c2,c3,c4,cl⟩:=(HR.out.kept BX.below).cells HI.out
    have hrow:=(HR.out.kept BX.below).hs i h HI.out
    obtain ⟨b,cap,hsv,hbl,_,d0,d1,d2,d3⟩:=ses_at hrow f2
    rw [hsv] at c2
    have x1:=BX.box.cell 1 (.int .i64 (i:Int)) rfl
    have il:(i:Int)<(L.length:Int):=by have:=(List.getElem?_eq_some_iff.1 HI.out).1;omega
    have kl:(k:Int)<(h.ses.length:Int):=by have:=(List.getElem?_eq_some_iff.1 f2).1;omega
    have HBX:=Lib.hid BX
    clear BX c0 c3 c4 hrow hsv f1 f2 f3 hbl
    go_wp2_with fail
    refine region_tree (S:=fun w':World=>w'.cell? ⟨p,1,none⟩=some (.slice (some ⟨d.g,0,none⟩) L.length d.cap)∧w'.cell? ⟨w.heap.size,1,none⟩=some (.int .i64 (i:Int))∧w'.cell? ⟨d.g,i*3,none⟩=some (.slice (some ⟨b,0,none⟩) h.ses.length cap)∧w'.cell? ⟨b,k*4,none⟩=some (.string s.tok)∧w'.cell? ⟨b,k*4+1,none⟩=some (.string s.usr)∧w'.cell? ⟨b,k*4+2,none⟩=some (.string s.dat)∧w'.cell? ⟨b,k*4+3,none⟩=some (.int .u64 (s.exp:Nat)))
      (.take 0 (.take 1 (.take 2 (.take 3 (.take 4 (.take 5 (.take 6 (.take 7 (.take 8 (.take 9 (.take 10 (.take 11 (.one 12 (.one 13 .nil))))))))))))))
      (by kernel_rfl) (by kernel_rfl) (by kernel_rfl) (fun _ _ _ dst _ h=>by cases dst<;>exact h) ⟨c1,x1,c2,d0,d1,d2,d3⟩ (fun hH=>?_)
    clear hH
    (repeat (refine tree_take (v:=?_) (by (simp only [ga1,ga2,ga3];exact rfl)) (by rfl) ?_ ?_;rotate_left;(focus (intro wS hS;(try dsimp only at hS);go_split_ands;go_simp;(try with_reducible rfl)));simp only [Act.put,pu1,pu2,pu3]))
    (refine tree_one (by (simp only [ga1,ga2,ga3];exact rfl)) (by rfl) ?_;intro K hK;go_simp)
    have B1:Below w4.heap.size w4 (w4.drew.alloc (.cells zero4 90)):=(Below.refl _ w4).drew.alloc (Nat.le_refl _) _
    have KN:=Blk.new w4.drew zero4 90
    refine hK.out _ _ ⟨cell_keep B1 c1,cell_keep B1 x1,cell_keep B1 c2,cell_keep B1 d0,cell_keep B1 d1,cell_keep B1 d2,cell_keep B1 d3⟩ (fun hH=>?_)
    clear hK K hH
    (try simp only [Act.put,pu1,pu2,pu3])
    (repeat (refine tree_take (v:=?_) (by (simp only [ga1,ga2,ga3];exact rfl)) (by rfl) ?_ ?_;rotate_left;(focus (intro wS hS;(try dsimp only at hS);go_split_ands;go_simp;(try with_reducible rfl)));simp only [Act.put,pu1,pu2,pu3]))
    (refine tree_one (by (simp only [ga1,ga2,ga3];exact rfl)) (by rfl) ?_;intro K hK)
    refine oper_store_blk 90 (Operand.tmp 8) (Operand.tmp 40) rfl w4.heap.size rfl zero4 #[.string s.tok,.string s.usr,.string s.dat,.int .u64 (s.exp:Int)] 90 rfl KN (by exact Tryz.size90) rfl (by simp [Value.oneCell']) ?_
    intro w9 hk9 ho9 hs9
    have BF:Below w4.heap.size w4 w9:=B1.trans (ho9.below B1.size (fun k hk=>by rw [hk];exact Nat.le_refl _))
    refine hK.out _ _ ⟨cell_keep BF c1,cell_keep BF x1,cell_keep BF c2,cell_keep BF d0,cell_keep BF d1,cell_keep BF d2,cell_keep BF d3⟩ (fun hH=>?_)
    clear hK K hH
    (try simp only [Act.put,pu1,pu2,pu3])
    refine tree_nil ?_
    have BX9:=HBX.out.kept BF
    have z1:=hk9.cell 1 (.string s.usr) rfl
    have z2:=hk9.cell 2 (.string s.dat) rfl
    have z3:=hk9.cell 3 (.int .u64 (s.exp:Int)) rfl
    have HBX9:=Lib.hid BX9
    clear B1 KN ho9 hs9 BF BX9 c1 x1 c2 d0 d1 d2 d3 hk9
    go_wp2_with (refine wpList_store_blk rfl 35 (Operand.tmp 6) (Operand.tmp 47) rfl (w.heap.size+1) rfl zero14 (ansArr ⟨200,⟨#[]⟩,⟨#[]⟩,s.usr,s.dat,(s.exp:Int),0,.slice none 0 0,.slice none 0 0,⟨#[]⟩,0,0,0,0⟩) 35 rfl HBX9.out.ans (by exact Tryz.size35) rfl (by simp [ansArr,Value.oneCell']) ?_;intro w11 hk11 ho11 hs11)
    refine body_cell rfl rfl rfl hk11 Tryz.underlying35 rfl (by exact Tryz.size35) ?_
    have hfin:=RDo.of (a:={ status:=200,usr:=s.usr,dat:=s.dat,exp:=s.exp }) ((RTo.refl HR.out HBX9.out.below).store (ab:=w.heap.size+1) (by omega) ⟨_,_,HBX9.out.ans⟩ ho11) rfl rfl
    rw [hF.out]
    exact hfin
theorem RDo.pass {w w1 w4:World} {p:Nat} {T:List Ten} {L:List Hs} {d:RD} {r:An×List Hs} {e:Ending} {kind ten:Int} {tok usr dat:ByteArray} {ttl frm:Int} {draw:Nat} (hr:RIs w p T L d) (b:Box w w1 kind ten tok usr dat ttl frm draw) (h:RDo w1 p T L d r e w4) :
    ∃ arr:Array Value,e=.returned (.agg arr)∧arr.size=14∧arr.all (·.oneCell')=true∧Blk w4 (w.heap.size+1) zero14 35∧∀ w11,Only (fun k=>k=w.heap.size+1) w4 w11→RDo w p T L d r (.returned (.agg arr)) w11:=by
  obtain ⟨v,d',rfl,r',ho,hl,hk,tv,ev,rfl,h1,h2⟩:=h
  obtain ⟨A1,c1,f1⟩:=h1.1.form
  obtain ⟨A2,c2,f2⟩:=h2.1.form
  have hab:¬ d.own L.length (w.heap.size+1):=fun h'=>by have:=hr.own_lt h';omega
  have KA:Blk w4 (w.heap.size+1) zero14 35:=b.ans.only ho hab
  have hlt:=b.ans.lt
  refine ⟨_,rfl,rfl,?_,KA,?_⟩
  · rw [f1,f2];simp [ansArr,Value.oneCell']
  · intro w11 ho11
    have hs:w.heap.size≤w1.heap.size:=b.below.size
    have hO:Of w4 (w.heap.size+1) 35:=⟨_,_,KA⟩
    have hno:∀ k,(k=p∨d'.tv.ownBlock=some k∨d'.own r.2.length k)→k≠w.heap.size+1:=by
      rintro k hk rfl
      rcases hk with hk | hk | hk
      · exact hO.ne (show Of w4 p 62 from ⟨_,_,r'.hp⟩) (by decide) hk
      · obtain ⟨c,hc⟩:=own_typed r'.ht hk
        exact hO.ne (show Of w4 _ 94 from ⟨c,_,hc⟩) (by decide) rfl
      · exact r'.not_own hO (by decide) (by decide) (by decide) hk
    have hlt4:∀ k,(k=p∨d'.tv.ownBlock=some k∨d'.own r.2.length k)→k<w4.heap.size:=by
      rintro k (rfl | hk | hk)
      · exact r'.hp.lt
      · exact (r'.ht.lt k hk).2
      · exact r'.own_lt hk
    have mono:∀ k,(d'.own L.length k∨k<w.heap.size)→(d'.own L.length k∨k<w1.heap.size):=fun k hk=>hk.imp id (fun h=>Nat.lt_of_lt_of_le h hs)
    have hsub:∀ k,k=w.heap.size+1→(d'.own L.length k∨k<w1.heap.size):=fun k hk=>.inr (by omega)
    refine ⟨_,d',rfl,r'.keep (fun k hk=>ho11.block k (hlt4 k hk) (hno k hk)),?_,hl,fun k hk'=>(hk k hk').imp id (fun h=>Nat.le_trans hs h),tv,ev,rfl,⟨h1.only ho11 hsub,fun b hb hn hS=>h1.2 b hb hn (mono b hS)⟩,⟨h2.only ho11 hsub,fun b hb hn hS=>h2.2 b hb hn (mono b hS)⟩⟩
    have o2:Only (d.own L.length) w w4:=⟨ho.os.trans b.below.os,ho.tape.trans b.below.tape,ho.output.trans b.below.output,Nat.le_trans hs ho.size,fun k hk hn=>(ho.block k (Nat.lt_of_lt_of_le hk hs) hn).trans (b.below.block k hk)⟩
    exact ⟨ho11.os.trans o2.os,ho11.tape.trans o2.tape,ho11.output.trans o2.output,Nat.le_trans o2.size ho11.size,fun k hk hn=>(ho11.block k (Nat.lt_of_lt_of_le hk o2.size) (by omega)).trans (o2.block k hk hn)⟩
set_option maxRecDepth 100000 in
set_option maxHeartbeats 8000000 in
theorem ref_look9 (r:RIs w p T L d) {i:Nat} {h:Hs} (hi:L[i]?=some h) {n:Nat} (hok:HsOk n h) (hn:n≤1000) (c:Cl) (hc:c.ten=(i:Int)) (now:Nat) (hkd:c.kind=9) :
    Calls Tryz.prog 24 #[.pointer (some ⟨p,0,none⟩),clV c,.int .u64 (now:Nat)] w (RDo w p T L d ((statsN h now).1,L.set i (statsN h now).2)):=by
  have HR:=Lib.hid r
  have t1:=two_blocks w 9 (i:Int) c.tok c.usr c.dat c.ttl c.frm c.draw
  have bx0:Box w _ 9 (i:Int) c.tok c.usr c.dat c.ttl c.frm c.draw:=⟨t1.1,t1.2.1,t1.2.2⟩
  have B0:=Lib.hid bx0
  have HS:=Lib.hid (ref_stats (r.kept bx0.below) hi hok hn now)
  rw [show L.set i (statsN h now).2=L from set_self hi]
  unfold clV
  rw [hc,hkd]
  clear t1 r hi hc hkd hok
  go_enter Tryz.func24,Tryz.ntmps24
  go_wp2_with fail
  refine HS.out.mono ?_
  intro e w4 h4
  obtain ⟨arr,rfl,h1,h2,KA,hfin⟩:=RDo.pass HR.out B0.out h4
  have HFIN:=Lib.hid hfin
  have HKA:=Lib.hid KA
  clear h4 HS bx0 hfin KA
  go_wp2_with (refine wpList_store_blk rfl 35 (Operand.tmp 6) (Operand.tmp 98) rfl (w.heap.size+1) rfl zero14 arr 35 rfl HKA.out (by rw [h1];exact Tryz.size35) (by rw [h1];rfl) h2 ?_;intro w11 hk11 ho11 hs11)
  refine body_cell rfl rfl rfl hk11 Tryz.underlying35 rfl (by rw [h1];exact Tryz.size35) ?_
  exact HFIN.out _ ho11
end Go.Proofs.YtmdgeknnhckgfaaGreatDoor
