/-
  Parts of the proof of the law LinModel: RStep, RAud, RDo.
-/
import Derived.Test.YtmdgeknnhckgfaaGreatDoorS08
import Derived.Test.YtmdgeknnhckgfaaGreatDoorS15
set_option linter.unusedSimpArgs false
set_option linter.unusedVariables false
namespace Go.Proofs.YtmdgeknnhckgfaaGreatDoor
open Go Go.RowKit
def RTo (w:World) (p:Nat) (T:List Ten) (L:List Hs) (d:RD) (L':List Hs) (w':World):Prop :=
  ∃ d',d'.g=d.g∧RIs w' p T L' d'∧Only (d.own L.length) w w'∧L'.length=L.length∧∀ k,d'.own L.length k→d.own L.length k∨w.heap.size≤k
theorem RTo.trans {w w1 w2:World} {p:Nat} {T:List Ten} {L L1 L2:List Hs} {d d1:RD} (hg:d1.g=d.g) (ho:Only (d.own L.length) w w1) (hl:L1.length=L.length) (hk:∀ k,d1.own L.length k→d.own L.length k∨w.heap.size≤k)
    (h2:RTo w1 p T L1 d1 L2 w2):RTo w p T L d L2 w2:=by
  obtain ⟨d2,hg2,r2,ho2,hl2,hk2⟩:=h2
  rw [hl] at ho2 hk2
  refine ⟨d2,hg2.trans hg,r2,⟨ho2.os.trans ho.os,ho2.tape.trans ho.tape,ho2.output.trans ho.output,Nat.le_trans ho.size ho2.size,fun k hkl hn=>?_⟩,hl2.trans hl,fun k hk3=>?_⟩
  · refine (ho2.block k (Nat.lt_of_lt_of_le hkl ho.size) (fun h=>?_)).trans (ho.block k hkl hn)
    rcases hk k h with h | h
    · exact hn h
    · omega
  · rcases hk2 k hk3 with h | h
    · exact hk k h
    · exact .inr (Nat.le_trans ho.size h)
theorem RTo.refl {w:World} {p:Nat} {T:List Ten} {L:List Hs} {d:RD} (r:RIs w p T L d) {w':World} (hb:Below w.heap.size w w'):RTo w p T L d L w' :=
  ⟨d,rfl,r.kept hb,Only.of_below hb,rfl,fun k hk=>.inl hk⟩
theorem RTo.after {w w1 w2:World} {p:Nat} {T:List Ten} {L L2:List Hs} {d:RD} (hb:Below w.heap.size w w1) (h2:RTo w1 p T L d L2 w2):RTo w p T L d L2 w2 :=
  RTo.trans rfl (Only.of_below hb) rfl (fun k hk=>.inl hk) h2
theorem RTo.then {w w1 w2:World} {p:Nat} {T:List Ten} {L L2:List Hs} {d:RD} (h2:RTo w p T L d L2 w1) (hb:Below w1.heap.size w1 w2):RTo w p T L d L2 w2:=by
  obtain ⟨d2,hg2,r2,ho2,hl2,hk2⟩:=h2
  exact ⟨d2,hg2,r2.kept hb,ho2.trans (Only.of_below hb),hl2,hk2⟩
variable {w:World} {p:Nat} {T:List Ten} {L:List Hs} {d:RD}
theorem RIs.turn (r:RIs w p T L d) {i:Nat} {h h':Hs} (hi:L[i]?=some h) (hq:h'.quota=h.quota) (sv' ev':Value) {w2:World} (ho:Only (fun k=>(d.sv i).ownBlock=some k∨(d.ev i).ownBlock=some k) w w2) (c:Nat) (v:Value)
    (hc:(c=0∧v=sv'∧h'.next=h.next∧ev'=d.ev i)∨(c=1∧v=.int .i64 (h'.next:Nat)∧sv'=d.sv i∧ev'=d.ev i)∨(c=2∧v=ev'∧sv'=d.sv i∧h'.next=h.next))
    (hs:w2.ownsRow 0 90 4 sv' h'.ses.length (sesArgs h'.ses)) (he:w2.ownsRow 0 103 4 ev' h'.ents.length (entArgs h'.ents))
    (hsn:∀ k,sv'.ownBlock=some k→(d.sv i).ownBlock=some k∨w.heap.size≤k) (hen:∀ k,ev'.ownBlock=some k→(d.ev i).ownBlock=some k∨w.heap.size≤k) :
    RTo w p T L d (L.set i h') (w2.setCell ⟨d.g,i*3+c,none⟩ v):=by
  have hil:=(List.getElem?_eq_some_iff.1 hi).1
  obtain ⟨cur,hb,hcur⟩:=r.hg
  have hgn:¬ ((d.sv i).ownBlock=some d.g∨(d.ev i).ownBlock=some d.g):=by
    have o59:Of w d.g 59:=⟨cur,_,hb⟩
    rintro (e | e)
    · obtain ⟨c,hc⟩:=own_typed (r.hs i h hi) e
      exact (show Of w d.g 90 from ⟨c,_,hc⟩).ne o59 (by decide) rfl
    · obtain ⟨c,hc⟩:=own_typed (r.he i h hi) e
      exact (show Of w d.g 103 from ⟨c,_,hc⟩).ne o59 (by decide) rfl
  have hb2:Blk w2 d.g cur 59:=(ho.block d.g hb.lt hgn).trans hb
  have hb3:=hb2.setCell (i*3+c) v
  have hO:Only (fun k=>k=d.g∨(d.sv i).ownBlock=some k∨(d.ev i).ownBlock=some k) w (w2.setCell ⟨d.g,i*3+c,none⟩ v) :=
    (ho.mono (fun k _ hk=>.inr hk)).setCell (.inl (.inl rfl)) _ _
  have hO':Only (d.own L.length) w (w2.setCell ⟨d.g,i*3+c,none⟩ v):=hO.mono (fun k _ hk=>by
    rcases hk with rfl | hk
    · exact .inl rfl
    · exact .inr ⟨i,hil,hk⟩)
  obtain ⟨q0,q1,q2⟩:=hcur i h hi
  have hsz:i*3+2<cur.size:=(Array.getElem?_eq_some_iff.1 q2).1
  have hc3:c<3:=by rcases hc with hc | hc | hc<;>omega
  have same:∀ m,m≠i*3+c→(cur.setIfInBounds (i*3+c) v)[m]?=cur[m]?:=fun m hm=>Array.getElem?_setIfInBounds_ne (Ne.symm hm)
  have self:(cur.setIfInBounds (i*3+c) v)[i*3+c]?=some v:=by rw [Array.getElem?_setIfInBounds_self,if_pos (by omega)]
  refine ⟨{ d with sv:=setAt d.sv i sv',ev:=setAt d.ev i ev' },rfl,r.upd hi hq sv' ev' ⟨_,hb3,?_,?_,?_,?_⟩ (own_set hs hb2 (by decide) _ _) (own_set he hb2 (by decide) _ _) hO hsn hen,hO',by rw [List.length_set],fun k hk=>RD.own_upd hil hsn hen hk⟩
  · intro j x hj hx
    obtain ⟨a0,a1,a2⟩:=hcur j x hx
    rw [same _ (by omega),same _ (by omega),same _ (by omega)]
    exact ⟨a0,a1,a2⟩
  · rcases hc with ⟨rfl,rfl,h3,h4⟩ | ⟨rfl,rfl,h3,h4⟩ | ⟨rfl,rfl,h3,h4⟩
    · exact self
    · rw [same _ (by omega),h3];exact q0
    · rw [same _ (by omega),h3];exact q0
  · rcases hc with ⟨rfl,rfl,h3,h4⟩ | ⟨rfl,rfl,h3,h4⟩ | ⟨rfl,rfl,h3,h4⟩
    · rw [same _ (by omega),h3];exact q1
    · exact self
    · rw [same _ (by omega),h4];exact q1
  · rcases hc with ⟨rfl,rfl,h3,h4⟩ | ⟨rfl,rfl,h3,h4⟩ | ⟨rfl,rfl,h3,h4⟩
    · rw [same _ (by omega),h4];exact q2
    · rw [same _ (by omega),h4];exact q2
    · exact self
theorem RIs.turn2 (r:RIs w p T L d) {i:Nat} {h h':Hs} (hi:L[i]?=some h) (hq:h'.quota=h.quota) (sv' ev':Value) {w2:World} (ho:Only (fun k=>(d.sv i).ownBlock=some k∨(d.ev i).ownBlock=some k) w w2) (c:Nat) (v:Value)
    (hc:(c=0∧v=sv'∧h'.next=h.next∧ev'=d.ev i)∨(c=1∧v=.int .i64 (h'.next:Nat)∧sv'=d.sv i∧ev'=d.ev i)∨(c=2∧v=ev'∧sv'=d.sv i∧h'.next=h.next))
    (hs:w2.ownsRow 0 90 4 sv' h'.ses.length (sesArgs h'.ses)) (he:w2.ownsRow 0 103 4 ev' h'.ents.length (entArgs h'.ents))
    (hsn:∀ k,sv'.ownBlock=some k→(d.sv i).ownBlock=some k∨w.heap.size≤k) (hen:∀ k,ev'.ownBlock=some k→(d.ev i).ownBlock=some k∨w.heap.size≤k) :
    RIs (w2.setCell ⟨d.g,i*3+c,none⟩ v) p T (L.set i h') { d with sv:=setAt d.sv i sv',ev:=setAt d.ev i ev' }∧Only (d.own L.length) w (w2.setCell ⟨d.g,i*3+c,none⟩ v):=by
  have hil:=(List.getElem?_eq_some_iff.1 hi).1
  obtain ⟨cur,hb,hcur⟩:=r.hg
  have hgn:¬ ((d.sv i).ownBlock=some d.g∨(d.ev i).ownBlock=some d.g):=by
    have o59:Of w d.g 59:=⟨cur,_,hb⟩
    rintro (e | e)
    · obtain ⟨c,hc⟩:=own_typed (r.hs i h hi) e
      exact (show Of w d.g 90 from ⟨c,_,hc⟩).ne o59 (by decide) rfl
    · obtain ⟨c,hc⟩:=own_typed (r.he i h hi) e
      exact (show Of w d.g 103 from ⟨c,_,hc⟩).ne o59 (by decide) rfl
  have hb2:Blk w2 d.g cur 59:=(ho.block d.g hb.lt hgn).trans hb
  have hb3:=hb2.setCell (i*3+c) v
  have hO:Only (fun k=>k=d.g∨(d.sv i).ownBlock=some k∨(d.ev i).ownBlock=some k) w (w2.setCell ⟨d.g,i*3+c,none⟩ v) :=
    (ho.mono (fun k _ hk=>.inr hk)).setCell (.inl (.inl rfl)) _ _
  have hO':Only (d.own L.length) w (w2.setCell ⟨d.g,i*3+c,none⟩ v):=hO.mono (fun k _ hk=>by
    rcases hk with rfl | hk
    · exact .inl rfl
    · exact .inr ⟨i,hil,hk⟩)
  obtain ⟨q0,q1,q2⟩:=hcur i h hi
  have hsz:i*3+2<cur.size:=(Array.getElem?_eq_some_iff.1 q2).1
  have hc3:c<3:=by rcases hc with hc | hc | hc<;>omega
  have same:∀ m,m≠i*3+c→(cur.setIfInBounds (i*3+c) v)[m]?=cur[m]?:=fun m hm=>Array.getElem?_setIfInBounds_ne (Ne.symm hm)
  have self:(cur.setIfInBounds (i*3+c) v)[i*3+c]?=some v:=by rw [Array.getElem?_setIfInBounds_self,if_pos (by omega)]
  refine ⟨r.upd hi hq sv' ev' ⟨_,hb3,?_,?_,?_,?_⟩ (own_set hs hb2 (by decide) _ _) (own_set he hb2 (by decide) _ _) hO hsn hen,hO'⟩
  · intro j x hj hx
    obtain ⟨a0,a1,a2⟩:=hcur j x hx
    rw [same _ (by omega),same _ (by omega),same _ (by omega)]
    exact ⟨a0,a1,a2⟩
  · rcases hc with ⟨rfl,rfl,h3,h4⟩ | ⟨rfl,rfl,h3,h4⟩ | ⟨rfl,rfl,h3,h4⟩
    · exact self
    · rw [same _ (by omega),h3];exact q0
    · rw [same _ (by omega),h3];exact q0
  · rcases hc with ⟨rfl,rfl,h3,h4⟩ | ⟨rfl,rfl,h3,h4⟩ | ⟨rfl,rfl,h3,h4⟩
    · rw [same _ (by omega),h3];exact q1
    · exact self
    · rw [same _ (by omega),h4];exact q1
  · rcases hc with ⟨rfl,rfl,h3,h4⟩ | ⟨rfl,rfl,h3,h4⟩ | ⟨rfl,rfl,h3,h4⟩
    · rw [same _ (by omega),h4];exact q2
    · rw [same _ (by omega),h4];exact q2
    · exact self
theorem RIs.set_ev (r:RIs w p T L d) {i:Nat} {h:Hs} (hi:L[i]?=some h) {w2:World} {v':Value} {es':List Ent} (ho:Only (fun k=>(d.ev i).ownBlock=some k) w w2)
    (own:w2.ownsRow 0 103 4 v' es'.length (entArgs es')) (hf:∀ k,v'.ownBlock=some k→(d.ev i).ownBlock=some k∨w.heap.size≤k) :
    RTo w p T L d (L.set i { h with ents:=es' }) (w2.setCell ⟨d.g,i*3+2,none⟩ v'):=by
  have hs2:w2.ownsRow 0 90 4 (d.sv i) h.ses.length (sesArgs h.ses):=own_block (r.hs i h hi) (fun g hg=>ho.block g ((r.hs i h hi).lt g hg).2 (fun e=>by
    obtain ⟨c,hc⟩:=own_typed (r.hs i h hi) hg
    obtain ⟨c',hc'⟩:=own_typed (r.he i h hi) e
    exact (show Of w g 90 from ⟨c,_,hc⟩).ne (show Of w g 103 from ⟨c',_,hc'⟩) (by decide) rfl))
  exact r.turn (h':={ h with ents:=es' }) hi rfl (d.sv i) v' (ho.mono fun k _ hk=>.inr hk) 2 v' (.inr (.inr ⟨rfl,rfl,rfl,rfl⟩)) hs2 own (fun k hk=>.inl hk) hf
theorem RIs.set_sv (r:RIs w p T L d) {i:Nat} {h:Hs} (hi:L[i]?=some h) {w2:World} {v':Value} {S':List Ses} (hb:Below w.heap.size w w2)
    (own:w2.ownsRow 0 90 4 v' S'.length (sesArgs S')) (hf:∀ k,v'.ownBlock=some k→w.heap.size≤k) :
    RTo w p T L d (L.set i { h with ses:=S' }) (w2.setCell ⟨d.g,i*3+0,none⟩ v'):=by
  have he2:w2.ownsRow 0 103 4 (d.ev i) h.ents.length (entArgs h.ents):=own_below (r.he i h hi) hb
  exact r.turn (h':={ h with ses:=S' }) hi rfl v' (d.ev i) (Only.of_below hb) 0 v' (.inl ⟨rfl,rfl,rfl,rfl⟩) own he2 (fun k hk=>.inr (hf k hk)) (fun k hk=>.inl hk)
theorem setAt_self {α:Type} (f:Nat→α) (i:Nat):setAt f i (f i)=f:=by
  funext j
  unfold setAt
  split
  · rename_i h;rw [h]
  · rfl
theorem RIs.set_next (r:RIs w p T L d) {i:Nat} {h:Hs} (hi:L[i]?=some h) (n':Nat) {w2:World} (hb:Below w.heap.size w w2) :
    RIs (w2.setCell ⟨d.g,i*3+1,none⟩ (.int .i64 (n':Nat))) p T (L.set i { h with next:=n' }) d∧Only (d.own L.length) w (w2.setCell ⟨d.g,i*3+1,none⟩ (.int .i64 (n':Nat))):=by
  have:=r.turn2 (h':={ h with next:=n' }) hi rfl (d.sv i) (d.ev i) (Only.of_below hb) 1 (.int .i64 (n':Nat)) (.inr (.inl ⟨rfl,rfl,rfl,rfl⟩)) (own_below (r.hs i h hi) hb) (own_below (r.he i h hi) hb) (fun k hk=>.inl hk) (fun k hk=>.inl hk)
  rw [setAt_self,setAt_self] at this
  exact this
end Go.Proofs.YtmdgeknnhckgfaaGreatDoor
namespace Go.Proofs.YtmdgeknnhckgfaaGreatDoor
open Go Go.RowKit
theorem own_form {w:World} {base size n:Nat} {e:TypeId} {v:Value} {xs:List Value} (h:w.ownsRow base e size v n xs):∃ A cap,v=.slice A n cap:=by
  rcases h.2 with ⟨h1,h2⟩ | ⟨g,cap,cur,h1,_⟩
  · exact ⟨none,0,by rw [h1,h2]⟩
  · exact ⟨_,_,h1⟩
def clCells (c:Cl):List Value:=[.int .i64 c.kind,.int .i64 c.ten,.string c.tok,.string c.usr,.string c.dat,.int .i64 c.ttl,.int .i64 c.frm,.int .u64 (c.draw:Nat)]
def clV (c:Cl):Value:=.agg #[.int .i64 c.kind,.int .i64 c.ten,.string c.tok,.string c.usr,.string c.dat,.int .i64 c.ttl,.int .i64 c.frm,.int .u64 (c.draw:Nat)]
variable {w:World} {p:Nat} {T:List Ten} {L:List Hs} {d:RD}
set_option maxRecDepth 100000 in
set_option maxHeartbeats 4000000 in
theorem ref_audit (r:RIs w p T L d) {i:Nat} {h:Hs} (hi:L[i]?=some h) (hsm:h.ents.length≤1000000) (c:Cl) (hc:c.ten=(i:Int)) (kind:Nat) (hkd:c.kind=(kind:Int)) (now:Nat) (sub:ByteArray) :
    Calls Tryz.prog 42 #[.pointer (some ⟨p,0,none⟩),clV c,.int .u64 (now:Nat),.string sub] w fun e w'=>e=.returned (.tuple #[])∧RTo w p T L d (L.set i { h with ents:=noteN h.ents kind now sub }) w'∧∀ k,Of w k 90→w'.heap[k]?=w.heap[k]?:=by
  obtain ⟨i0,ii,iz0,iz1,iz2⟩:=info_parts Tryz.info103
  have hil:=(List.getElem?_eq_some_iff.1 hi).1
  obtain ⟨c0,c1,c2,c3,c4,cl⟩:=r.cells hi
  have hown:=r.he i h hi
  obtain ⟨A,cap,hev⟩:∃ A cap,d.ev i=.slice A h.ents.length cap:=by
    rcases (r.he i h hi).2 with ⟨h1,h2⟩ | ⟨g,cap,cur,h1,_⟩
    · exact ⟨none,0,by rw [h1,h2]⟩
    · exact ⟨_,_,h1⟩
  have HO:=Lib.hid hown
  have HR:=Lib.hid r
  have HI:=Lib.hid hi
  rw [hev] at c4
  have HEV:=Lib.hid hev
  have wn:IntKind.i64.wrap ((h.ents.length:Int)+1)=(((h.ents.length+1:Nat)):Int):=(IntWalk.i64_in _ (by omega)).trans (by omega)
  obtain ⟨ckind,cten,ctok,cusr,cdat,cttl,cfrm,cdraw⟩:=c
  simp only at hc hkd
  subst hc hkd
  have hpl:=r.hp.lt
  have gf:w.frozen? ⟨d.g,i*3+2,none⟩=false:=by
    obtain ⟨cur,hb,_⟩:=r.hg
    exact hb.frozen _
  clear r hi hown c0 c2 c3 hev
  unfold clV
  go_enter Tryz.func42,Tryz.ntmps42
  go_wp2_with fail
  go_quiet (fail)
  go_wp2_with fail
  have hB0:Below w.heap.size w ((w.alloc (.cells #[.int .i64 (kind:Int),.int .i64 (i:Int),.string ctok,.string cusr,.string cdat,.int .i64 cttl,.int .i64 cfrm,.int .u64 (cdraw:Int)] 53)).drewN nq):=by
    have:=(Below.refl w.heap.size w).alloc (Nat.le_refl _) (.cells #[.int .i64 (kind:Int),.int .i64 (i:Int),.string ctok,.string cusr,.string cdat,.int .i64 cttl,.int .i64 cfrm,.int .u64 (cdraw:Int)] 53)
    exact ⟨this.os,this.tape,this.output,this.size,this.block⟩
  have hk0:Blk ((w.alloc (.cells #[.int .i64 (kind:Int),.int .i64 (i:Int),.string ctok,.string cusr,.string cdat,.int .i64 cttl,.int .i64 cfrm,.int .u64 (cdraw:Int)] 53)).drewN nq) w.heap.size #[.int .i64 (kind:Int),.int .i64 (i:Int),.string ctok,.string cusr,.string cdat,.int .i64 cttl,.int .i64 cfrm,.int .u64 (cdraw:Int)] 53:=(Blk.new w _ 53).drewN nq
  generalize ((w.alloc (.cells #[.int .i64 (kind:Int),.int .i64 (i:Int),.string ctok,.string cusr,.string cdat,.int .i64 cttl,.int .i64 cfrm,.int .u64 (cdraw:Int)] 53)).drewN nq)=W0 at hB0 hk0 ⊢
  have d4:W0.cell? ⟨d.g,i*3+2,none⟩=some (.slice A h.ents.length cap):=(hB0.cell (p:=⟨d.g,i*3+2,none⟩) cl).trans c4
  have k0:W0.cell? ⟨w.heap.size,0,none⟩=some (.int .i64 (kind:Int)):=hk0.cell 0 _ rfl
  refine region_cut (S:=fun w':World=>w'.cell? ⟨d.g,i*3+2,none⟩=some (.slice A h.ents.length cap)∧w'.cell? ⟨w.heap.size,0,none⟩=some (.int .i64 (kind:Int))) 20
    (.take 0 (.take 1 (.take 2 (.take 3 (.take 4 (.take 5 (.take 6 (.take 7 (.take 8 (.take 9 (.take 10 (.take 11 (.take 12 (.take 13 (.take 14 (.take 15 (.one 16 (.one 17 (.take 18 (.take 19 (.one 20 .nil)))))))))))))))))))))
    (by kernel_rfl) (by kernel_rfl) (by kernel_rfl) (fun _ _ _ dst _ h=>by cases dst<;>exact h) ⟨d4,k0⟩ (fun hH=>?_)
  clear hH
  (repeat (first | (refine cut_free (v:=?_) (by (simp only [ga1,ga2,ga3];exact rfl)) (by rfl) ?_ ?_;rotate_left;(focus (intro wS;go_simp;(try with_reducible rfl);done));simp only [Act.put,pu1,pu2,pu3]) | (refine cut_take (v:=?_) (by kernel_rfl) (by (simp only [ga1,ga2,ga3];exact rfl)) (by rfl) ?_ ?_;rotate_left;(focus (intro wS hS;(try dsimp only at hS);go_split_ands;go_simp;(try with_reducible rfl);done));simp only [Act.put,pu1,pu2,pu3])))
  (refine cut_one (by decide) (by (simp only [ga1,ga2,ga3];exact rfl)) (by rfl) ?_;intro K hK;go_simp)
  have hB1:Below w.heap.size w ((W0.alloc (.cells #[.int .i64 ((h.ents.length:Int)+1),.int .i64 (kind:Int),.int .u64 (now:Int),.string sub] 103)).drew):=(hB0.alloc hB0.size _).drew
  have hN1:=cells_new W0 [.int .i64 ((h.ents.length:Int)+1),.int .i64 (kind:Int),.int .u64 (now:Int),.string sub] 103
  have hN2:∀ (j:Nat) (u:Value),[Value.int .i64 ((h.ents.length:Int)+1),.int .i64 (kind:Int),.int .u64 (now:Int),.string sub][j]?=some u→((W0.alloc (.cells #[.int .i64 ((h.ents.length:Int)+1),.int .i64 (kind:Int),.int .u64 (now:Int),.string sub] 103)).drew).cell? ((⟨W0.heap.size,0,none⟩:Addr).add j)=some u:=hN1
  have hZ1:W0.heap.size<((W0.alloc (.cells #[.int .i64 ((h.ents.length:Int)+1),.int .i64 (kind:Int),.int .u64 (now:Int),.string sub] 103)).drew).heap.size:=by show _<(W0.alloc _).heap.size;rw [World.size_alloc];omega
  have hB2:=hB0.size
  have hW0:=W0.heap.size
  have hk1:Blk ((W0.alloc (.cells #[.int .i64 ((h.ents.length:Int)+1),.int .i64 (kind:Int),.int .u64 (now:Int),.string sub] 103)).drew) w.heap.size #[.int .i64 (kind:Int),.int .i64 (i:Int),.string ctok,.string cusr,.string cdat,.int .i64 cttl,.int .i64 cfrm,.int .u64 (cdraw:Int)] 53:=(hk0.alloc _).drew
  obtain ⟨z0,hz0⟩:∃ z,W0.heap.size=z:=⟨_,rfl⟩
  rw [hz0] at hN2 hZ1 hB2 ⊢
  generalize ((W0.alloc (.cells #[.int .i64 ((h.ents.length:Int)+1),.int .i64 (kind:Int),.int .u64 (now:Int),.string sub] 103)).drew)=W1 at hB1 hN2 hZ1 hk1 ⊢
  have kl:w.heap.size<W1.heap.size:=by omega
  have g1:W1.cell? ⟨d.g,i*3+2,none⟩=some (.slice A h.ents.length cap):=(hB1.cell (p:=⟨d.g,i*3+2,none⟩) cl).trans c4
  have k1:W1.cell? ⟨w.heap.size,0,none⟩=some (.int .i64 (kind:Int)):=hk1.cell 0 _ rfl
  refine hK.out _ _ ⟨g1,k1⟩ (fun hH=>?_)
  clear hK K hH
  (try simp only [Act.put,pu1,pu2,pu3])
  (refine cut_one (by decide) (by (simp only [ga1,ga2,ga3];exact rfl)) (by rfl) ?_;intro K hK)
  have ow1:=own_below HO.out hB1
  rw [HEV.out] at ow1
  refine oper_append_row _ _ 33 rfl 0 103 i0 _ 4 40 Tryz.underlying33 ii iz0 iz1 iz2 rfl (by decide) _ _ _ rfl ow1 ⟨z0,0,none⟩ 1 1 [.int .i64 ((h.ents.length:Int)+1),.int .i64 (kind:Int),.int .u64 (now:Int),.string sub] rfl rfl hN2 (by simp [Value.oneCell']) (by unfold maxLen;omega) (by omega) (Nat.zero_le _) ?_
  intro v' w2 own2 hgr hfr
  obtain ⟨A',cap',rfl⟩:=own_form own2
  have o90:∀ k t,Of w k t→t≠103→(Value.slice A h.ents.length cap).ownBlock≠some k:=by
    intro k t ho hne e
    rw [←HEV.out] at e
    obtain ⟨c,hc⟩:=own_typed (HR.out.he i h HI.out) e
    exact ho.ne (show Of w k 103 from ⟨c,_,hc⟩) hne rfl
  have hgof:Of w d.g 59:=by obtain ⟨c,hb,_⟩:=HR.out.hg;exact ⟨c,_,hb⟩
  have hgl:d.g<w.heap.size:=cl
  have g2:w2.cell? ⟨d.g,i*3+2,none⟩=some (.slice A h.ents.length cap):=hgr.cell g1 (fun e=>o90 _ _ hgof (by decide) e.symm)
  have k2:w2.cell? ⟨w.heap.size,0,none⟩=some (.int .i64 (kind:Int)):=hgr.cell k1 (fun e=>by
    have:=((HR.out.he i h HI.out).lt w.heap.size (by rw [HEV.out];exact e.symm)).2
    omega)
  have f2:w2.frozen? ⟨d.g,i*3+2,none⟩=false:=by
    have e1:w2.heap[d.g]?=w.heap[d.g]?:=(hgr.block d.g (Nat.lt_of_lt_of_le hgl hB1.size) (fun e=>o90 _ _ hgof (by decide) e.symm)).trans (hB1.block d.g hgl)
    rw [World.frozen?_of_block (a:=⟨d.g,i*3+2,none⟩) e1]
    exact gf
  refine hK.out _ _ ⟨g2,k2⟩ (fun hH=>?_)
  clear hK K hH
  (try simp only [Act.put,pu1,pu2,pu3])
  (repeat (first | (refine cut_free (v:=?_) (by (simp only [ga1,ga2,ga3];exact rfl)) (by rfl) ?_ ?_;rotate_left;(focus (intro wS;go_simp;(try with_reducible rfl);done));simp only [Act.put,pu1,pu2,pu3]) | (refine cut_take (v:=?_) (by kernel_rfl) (by (simp only [ga1,ga2,ga3];exact rfl)) (by rfl) ?_ ?_;rotate_left;(focus (intro wS hS;(try dsimp only at hS);go_split_ands;go_simp;(try with_reducible rfl);done));simp only [Act.put,pu1,pu2,pu3])))
  (refine cut_here (by (simp only [ga1,ga2,ga3];exact rfl)) (by rfl) ?_;intro K hK;go_simp)
  refine hK.out _ _ ?_
  refine tree_nil ?_
  have hO2:Only (fun k=>(d.ev i).ownBlock=some k) w w2:=by
    refine ⟨hgr.os.trans hB1.os,hgr.tape.trans hB1.tape,hgr.output.trans hB1.output,Nat.le_trans hB1.size hgr.size,fun k hk hn=>?_⟩
    exact (hgr.block k (Nat.lt_of_lt_of_le hk hB1.size) (fun e=>hn (by rw [HEV.out];exact e.symm))).trans (hB1.block k hk)
  have hF:=Lib.hid (HR.out.set_ev HI.out (es':=noteN h.ents kind now sub) hO2 (by
    unfold noteN
    rw [List.length_append]
    unfold entArgs
    rw [List.flatMap_append]
    exact own2) (fun k hk=>by
      rcases hfr k hk with h1 | h1
      · left;rw [HEV.out];exact h1
      · right;exact Nat.le_trans hB1.size h1))
  have hF2:=Lib.hid (show ∀ k,Of w k 90→(w2.setCell ⟨d.g,i*3+2,none⟩ (.slice A' (h.ents.length+1) cap')).heap[k]?=w.heap[k]? from fun k hk=>by
    have hlt:k<w.heap.size:=by obtain ⟨c,f,hc⟩:=hk;exact (Array.getElem?_eq_some_iff.1 hc).1
    rw [Below.heap_setCell _ _ _ _ (hk.ne hgof (by decide))]
    exact hO2.block k hlt (fun e=>by
      obtain ⟨c,hc⟩:=own_typed (HR.out.he i h HI.out) e
      exact hk.ne (⟨c,_,hc⟩:Of w k 103) (by decide) rfl))
  clear hO2 own2 hgr hfr g1 g2 k1 k2 f2 o90 ow1 hN2 hk1 hk0 hB0 hB1
  go_wp2_with fail
  exact body_none rfl rfl ⟨rfl,hF.out,hF2.out⟩
end Go.Proofs.YtmdgeknnhckgfaaGreatDoor
namespace Go.Proofs.YtmdgeknnhckgfaaGreatDoor
open Go Go.RowKit
def anV (a:An) (tv ev:Value):Value:=.agg (ansArr ⟨a.status,a.word,a.tok,a.usr,a.dat,(a.exp:Nat),(a.rev:Nat),tv,ev,a.head,(a.live:Nat),(a.users:Nat),(a.total:Nat),(a.next:Nat)⟩)
def ReadsP (w:World) (S:Nat→Prop) (v:Value) (n k:Nat) (xs:List Value):Prop:=Reads w v n k xs∧∀ b,v.ownBlock=some b→n≠0→¬ S b
def AnsIs (w:World) (S:Nat→Prop) (a:An) (v:Value):Prop:=∃ tv ev,v=anV a tv ev∧ReadsP w S tv a.toks.length 1 (strArgs a.toks)∧ReadsP w S ev a.ents.length 4 (entArgs a.ents)
theorem ReadsP.nil (w:World) (S:Nat→Prop) (k:Nat):ReadsP w S (.slice none 0 0) 0 k []:=⟨⟨by simp,by omega,none,0,rfl,.inl rfl⟩,fun b _ h=>absurd rfl h⟩
theorem AnsIs.plain (w:World) (S:Nat→Prop) (a:An) (h1:a.toks=[]) (h2:a.ents=[]):AnsIs w S a (anV a (.slice none 0 0) (.slice none 0 0)):=by
  refine ⟨_,_,rfl,?_,?_⟩
  · rw [h1];exact ReadsP.nil w S 1
  · rw [h2];exact ReadsP.nil w S 4
theorem ReadsP.only {w w':World} {S S':Nat→Prop} {v:Value} {n k:Nat} {xs:List Value} (h:ReadsP w S v n k xs) (ho:Only S' w w') (hs:∀ b,S' b→S b):Reads w' v n k xs:=by
  obtain ⟨⟨h1,h2,A,cap,rfl,h3⟩,h4⟩:=h
  refine ⟨h1,h2,A,cap,rfl,?_⟩
  rcases h3 with h3 | ⟨b,o,rfl,h5,h6⟩
  · exact .inl h3
  · by_cases hn:n=0
    · exact .inl hn
    · refine .inr ⟨b,o,rfl,Nat.lt_of_lt_of_le h5 ho.size,fun j u hj=>?_⟩
      have hb:=h4 b rfl hn
      have e1:w'.heap[b]?=w.heap[b]?:=ho.block b h5 (fun h=>hb (hs b h))
      exact (World.cell?_of_block (a:=⟨b,o+j,none⟩) e1).trans (h6 j u hj)
def RDo (w:World) (p:Nat) (T:List Ten) (L:List Hs) (d:RD) (r:An×List Hs) (e:Ending) (w':World):Prop :=
  ∃ v d',e=.returned v∧RIs w' p T r.2 d'∧Only (d.own L.length) w w'∧r.2.length=L.length∧(∀ k,d'.own L.length k→d.own L.length k∨w.heap.size≤k)∧AnsIs w' (fun k=>d'.own L.length k∨k<w.heap.size) r.1 v
theorem RDo.of {w w':World} {p:Nat} {T:List Ten} {L L':List Hs} {d:RD} {a:An} (h:RTo w p T L d L' w') (h1:a.toks=[]) (h2:a.ents=[]):RDo w p T L d (a,L') (.returned (anV a (.slice none 0 0) (.slice none 0 0))) w':=by
  obtain ⟨d',hg,r,ho,hl,hk⟩:=h
  exact ⟨_,d',rfl,r,ho,hl,hk,AnsIs.plain _ _ _ h1 h2⟩
theorem anV_bad (st:Int) (word:ByteArray) (h:word=refN st):Value.agg (ansArr { Ans.zero with status:=st,word:=word })=anV (badA st) (.slice none 0 0) (.slice none 0 0):=by
  subst h;rfl
theorem set_self {L:List Hs} {i:Nat} {h:Hs} (hi:L[i]?=some h):L.set i h=L:=by
  apply List.ext_getElem?
  intro j
  rw [List.getElem?_set]
  split
  · rename_i e;subst e;split
    · exact hi.symm
    · rename_i hl;exact absurd (List.getElem?_eq_some_iff.1 hi).1 hl
  · rfl
theorem RTo.store {w w1 w2:World} {p:Nat} {T:List Ten} {L L':List Hs} {d:RD} (h:RTo w p T L d L' w1) {ab:Nat} (hab:w.heap.size≤ab) (hn:Of w1 ab 35) (ho:Only (fun k=>k=ab) w1 w2):RTo w p T L d L' w2:=by
  obtain ⟨d',hg,r,o,hl,hk⟩:=h
  refine ⟨d',hg,r.keep (fun k hk=>ho.block k ?_ ?_),⟨ho.os.trans o.os,ho.tape.trans o.tape,ho.output.trans o.output,Nat.le_trans o.size ho.size,fun k hkl hno=>?_⟩,hl,hk⟩
  · rcases hk with rfl | hk | hk
    · exact r.hp.lt
    · exact (r.ht.lt k hk).2
    · exact r.own_lt hk
  · rintro rfl
    rcases hk with rfl | hk | hk
    · exact hn.ne (⟨_,_,r.hp⟩:Of w1 _ 62) (by decide) rfl
    · obtain ⟨c,hc⟩:=own_typed r.ht hk
      exact hn.ne (⟨c,_,hc⟩:Of w1 _ 94) (by decide) rfl
    · exact r.not_own hn (by decide) (by decide) (by decide) hk
  · exact (ho.block k (Nat.lt_of_lt_of_le hkl o.size) (by omega)).trans (o.block k hkl hno)
end Go.Proofs.YtmdgeknnhckgfaaGreatDoor
