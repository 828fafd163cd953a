/-
  Parts of the proof of the law LinModel: MdlInv, RRep, RLook, RLive.
-/
import Derived.Test.YtmdgeknnhckgfaaGreatDoorS08
import Derived.Test.YtmdgeknnhckgfaaGreatDoorS14
set_option linter.unusedSimpArgs false
set_option linter.unusedVariables false
namespace Go.Proofs.YtmdgeknnhckgfaaGreatDoor
open Go Go.RowKit
def Sorted (S:List Ses):Prop:=S.Pairwise fun a b=>SLt a.tok b.tok
theorem insN_mem {s x:Ses}:∀ {l:List Ses},x∈insN s l↔x=s∨x∈l
  | []=>by simp [insN]
  | y::l=>by
    unfold insN
    split
    · rw [List.mem_cons,insN_mem,List.mem_cons]
      constructor
      · rintro (h | h | h)
        · exact .inr (.inl h)
        · exact .inl h
        · exact .inr (.inr h)
      · rintro (h | h | h)
        · exact .inr (.inl h)
        · exact .inl h
        · exact .inr (.inr h)
    · rw [List.mem_cons]
theorem insN_len (s:Ses):∀ l:List Ses,(insN s l).length=l.length+1
  | []=>rfl
  | y::l=>by
    unfold insN
    split
    · rw [List.length_cons,insN_len,List.length_cons]
    · rfl
theorem insN_sorted {s:Ses}:∀ {l:List Ses},Sorted l→(∀ x∈l,x.tok≠s.tok)→Sorted (insN s l)
  | [],_,_=>by unfold insN Sorted;simp
  | y::l,h,hn=>by
    obtain ⟨h1,h2⟩:=List.pairwise_cons.1 h
    unfold insN
    split
    · rename_i hlt
      refine List.pairwise_cons.2 ⟨fun x hx=>?_,insN_sorted h2 (fun x hx=>hn x (List.mem_cons_of_mem _ hx))⟩
      rcases insN_mem.1 hx with rfl | hx
      · exact hlt
      · exact h1 x hx
    · rename_i hlt
      have hys:SLt s.tok y.tok:=by
        rcases SLt.total y.tok s.tok with h' | h' | h'
        · exact absurd h' hlt
        · exact absurd h' (hn y (by simp))
        · exact h'
      refine List.pairwise_cons.2 ⟨fun x hx=>?_,h⟩
      rcases List.mem_cons.1 hx with rfl | hx
      · exact hys
      · exact hys.trans (h1 x hx)
theorem Sorted.filter {S:List Ses} (h:Sorted S) (p:Ses→Bool):Sorted (S.filter p):=List.Pairwise.filter p h
theorem setExp_tok (tok:ByteArray) (e:Nat) (s:Ses):(setExp tok e s).tok=s.tok:=by unfold setExp;split<;>rfl
theorem Sorted.setExp {S:List Ses} (h:Sorted S) (tok:ByteArray) (e:Nat):Sorted (S.map (setExp tok e)):=by
  unfold Sorted at *
  rw [List.pairwise_map]
  refine h.imp ?_
  intro a b hab
  rw [setExp_tok,setExp_tok]
  exact hab
theorem Sorted.uniq {S:List Ses} (h:Sorted S) {a b:Ses} (ha:a∈S) (hb:b∈S) (e:a.tok=b.tok):a=b:=by
  induction S with
  | nil=>cases ha
  | cons x l ih =>
    obtain ⟨h1,h2⟩:=List.pairwise_cons.1 h
    rcases List.mem_cons.1 ha with ha1 | ha1
    · rcases List.mem_cons.1 hb with hb1 | hb1
      · rw [ha1,hb1]
      · rw [ha1] at e;exact absurd e (h1 b hb1).ne
    · rcases List.mem_cons.1 hb with hb1 | hb1
      · rw [hb1] at e;exact absurd e.symm (h1 a ha1).ne
      · exact ih h2 ha1 hb1
theorem tokB_size (n d:Nat):(tokB n d).size=22:=by
  show (tokN n d).toArray.size=22
  rw [List.size_toArray,tok_len]
theorem tokB_inj {n m d e:Nat} (hn:n<18446744073709551616) (hm:m<18446744073709551616) (h:tokB n d=tokB m e):n=m:=by
  apply tok_inj hn hm (d:=d) (e:=e)
  have:(tokB n d).data.toList=(tokB m e).data.toList:=by rw [h]
  simpa [tokB] using this
structure SesOk (s:Ses):Prop where
  tok:s.tok.size=22
  usr:s.usr.size≤64
  dat:s.dat.size≤512
  exp0:0<s.exp
  exp:s.exp<18446744073709551616
structure HsOk (n:Nat) (h:Hs):Prop where
  q0:0≤h.quota
  q1:h.quota≤1048576
  sorted:Sorted h.ses
  toks:∀ s∈h.ses,∃ m d,m<h.next∧s.tok=tokB m d
  sizes:∀ s∈h.ses,SesOk s
  len:h.ses.length≤n
  next0:1≤h.next
  next:h.next≤n+1
  ents:h.ents.length≤n
  nums:∀ (i:Nat) e,h.ents[i]?=some e→e.num=i+1∧e.Ok∧e.sub.size≤64
theorem nums_note {n kind now:Nat} {sub:ByteArray} {es:List Ent} (hl:es.length≤n) (hn:n≤1000000) (hk:kind<16) (ht:now<18446744073709551616) (hs:sub.size≤64)
    (h:∀ (i:Nat) e,es[i]?=some e→e.num=i+1∧e.Ok∧e.sub.size≤64):∀ (i:Nat) e,(noteN es kind now sub)[i]?=some e→e.num=i+1∧e.Ok∧e.sub.size≤64:=by
  intro i e he
  unfold noteN at he
  rcases Nat.lt_trichotomy i es.length with hi | hi | hi
  · rw [List.getElem?_append_left hi] at he;exact h i e he
  · subst hi
    rw [List.getElem?_append_right (Nat.le_refl _),Nat.sub_self] at he
    simp at he
    subst he
    exact ⟨rfl,⟨by simp only;omega,by simp only;omega,ht,by simp only;omega⟩,hs⟩
  · rw [List.getElem?_eq_none (by simp;omega)] at he
    cases he
theorem findN_mem {S:List Ses} {tok:ByteArray} {now:Nat} {s:Ses} (h:findN S tok now=some s):s∈S∧s.tok=tok∧now<s.exp:=by
  unfold findN at h
  have h1:=List.find?_some h
  have h2:=List.mem_of_find?_eq_some h
  unfold hitB at h1
  rw [Bool.and_eq_true,str_beq,decide_eq_true_eq] at h1
  exact ⟨h2,h1.1,h1.2⟩
theorem createB_of {c:Cl} (h:¬ createB c=false):nameN c.usr=true∧c.dat.size≤512∧validN c.dat=true∧ttlN c.ttl=true:=by
  rw [Bool.not_eq_false] at h
  unfold createB at h
  simp only [Bool.and_eq_true,decide_eq_true_eq] at h
  exact ⟨h.1.1.1,h.1.1.2,h.1.2,h.2⟩
theorem nameN_size {s:ByteArray} (h:nameN s=true):1≤s.size∧s.size≤64:=by
  unfold nameN at h
  simp only [Bool.and_eq_true,decide_eq_true_eq] at h
  exact h.1.1
theorem ttlN_of {n:Int} (h:ttlN n=true):1≤n∧n≤2147483647:=by
  unfold ttlN at h
  simpa using h
theorem HsOk.mono {n m:Nat} {h:Hs} (k:HsOk n h) (hm:n≤m):HsOk m h :=
  ⟨k.q0,k.q1,k.sorted,k.toks,k.sizes,Nat.le_trans k.len hm,k.next0,by have:=k.next;omega,Nat.le_trans k.ents hm,k.nums⟩
theorem HsOk.create {n:Nat} {h:Hs} (k:HsOk n h) (hn:n≤1000) {c:Cl} (hc:c.Ok) {now:Nat} (ht:now<18446744073709551616):HsOk (n+1) (createN h c now).2:=by
  unfold createN
  split
  · exact k.mono (by omega)
  · rename_i hb
    obtain ⟨b1,b2,b3,b4⟩:=createB_of hb
    have t1:=ttlN_of b4
    have hx:=k.next
    split
    · exact k.mono (by omega)
    · have hne:∀ x∈h.ses,x.tok≠tokB h.next c.draw:=by
        intro x hx' e
        obtain ⟨m,d,hm,e2⟩:=k.toks x hx'
        rw [e2] at e
        have:=tokB_inj (by omega) (by omega) e
        omega
      refine ⟨k.q0,k.q1,insN_sorted k.sorted hne,?_,?_,?_,?_,?_,?_,?_⟩
      · intro s hs
        rcases insN_mem.1 hs with rfl | hs
        · exact ⟨h.next,c.draw,Nat.lt_succ_self _,rfl⟩
        · obtain ⟨m,d,hm,e⟩:=k.toks s hs
          exact ⟨m,d,Nat.lt_succ_of_lt hm,e⟩
      · intro s hs
        rcases insN_mem.1 hs with rfl | hs
        · exact ⟨tokB_size _ _,(nameN_size b1).2,b2,untilN_pos (by omega),untilN_lt (by omega)⟩
        · exact k.sizes s hs
      · show (insN _ _).length≤_;rw [insN_len];have:=k.len;omega
      · show 1≤h.next+1;omega
      · show h.next+1≤_;omega
      · show (h.ents++_).length≤_;rw [List.length_append];have:=k.ents;simp;omega
      · exact nums_note k.ents (by omega) (by omega) ht (by rw [tokB_size];omega) k.nums
theorem HsOk.touch {n:Nat} {h:Hs} (k:HsOk n h) (hn:n≤1000) {c:Cl} (hc:c.Ok) {now:Nat} (ht:now<18446744073709551616):HsOk (n+1) (touchN h c now).2:=by
  unfold touchN
  split
  · exact k.mono (by omega)
  · rename_i hb
    have t1:=ttlN_of (by simpa using hb)
    have hx:=k.next
    split
    · exact k.mono (by omega)
    · rename_i s hs
      obtain ⟨m1,m2,m3⟩:=findN_mem hs
      have hsz:c.tok.size=22:=by rw [←m2];exact (k.sizes s m1).tok
      refine ⟨k.q0,k.q1,k.sorted.setExp _ _,?_,?_,?_,k.next0,?_,?_,?_⟩
      · intro x hx'
        obtain ⟨y,hy,rfl⟩:=List.mem_map.1 hx'
        rw [setExp_tok]
        exact k.toks y hy
      · intro x hx'
        obtain ⟨y,hy,rfl⟩:=List.mem_map.1 hx'
        have:=k.sizes y hy
        unfold setExp
        split
        · exact ⟨this.tok,this.usr,this.dat,untilN_pos (by omega),untilN_lt (by omega)⟩
        · exact this
      · show (h.ses.map _).length≤_;rw [List.length_map];have:=k.len;omega
      · show h.next≤_;omega
      · show (h.ents++_).length≤_;rw [List.length_append];have:=k.ents;simp;omega
      · exact nums_note k.ents (by omega) (by omega) ht (by omega) k.nums
theorem HsOk.dropped {n:Nat} {h:Hs} (k:HsOk n h) (hn:n≤1000) {now kind:Nat} (hk:kind<16) (ht:now<18446744073709551616) (p:Ses→Bool) {sub:ByteArray} (hs:sub.size≤64) (b:Bool) :
    HsOk (n+1) { h with ses:=h.ses.filter p,ents:=if b=true then noteN h.ents kind now sub else h.ents }:=by
  have hx:=k.next
  refine ⟨k.q0,k.q1,k.sorted.filter _,?_,?_,?_,k.next0,?_,?_,?_⟩
  · intro x hx';exact k.toks x (List.mem_filter.1 hx').1
  · intro x hx';exact k.sizes x (List.mem_filter.1 hx').1
  · have:=List.length_filter_le p h.ses;have:=k.len;show (h.ses.filter p).length≤_;omega
  · show h.next≤_;omega
  · have:=k.ents
    show (if b=true then noteN h.ents kind now sub else h.ents).length≤_
    split
    · show (h.ents++_).length≤_;rw [List.length_append];simp;omega
    · omega
  · show ∀ (i:Nat) e,(if b=true then noteN h.ents kind now sub else h.ents)[i]?=some e→_
    split
    · exact nums_note k.ents (by omega) hk ht hs k.nums
    · exact k.nums
theorem HsOk.revoke {n:Nat} {h:Hs} (k:HsOk n h) (hn:n≤1000) {c:Cl} (hc:c.Ok) {now:Nat} (ht:now<18446744073709551616):HsOk (n+1) (revokeN h c now).2:=by
  unfold revokeN
  split
  · exact k.mono (by omega)
  · rename_i s hs
    obtain ⟨m1,m2,m3⟩:=findN_mem hs
    have hsz:c.tok.size=22:=by rw [←m2];exact (k.sizes s m1).tok
    exact k.dropped hn (kind:=4) (by omega) ht _ (sub:=c.tok) (by omega) true
theorem HsOk.takes {n:Nat} {h:Hs} (k:HsOk n h) (hn:n≤1000) {now kind:Nat} (hk:kind<16) (ht:now<18446744073709551616) (p:Ses→Bool) {sub:ByteArray} (hs:sub.size≤64) :
    HsOk (n+1) (takesN h p kind now sub).2:=by
  have:=k.dropped hn hk ht (fun s=>!p s) hs (decide (0<(h.ses.filter p).length))
  simp only [decide_eq_true_eq] at this
  exact this
theorem HsOk.doH {n:Nat} {h:Hs} (k:HsOk n h) (hn:n≤1000) {c:Cl} (hc:c.Ok) {now:Nat} (ht:now<18446744073709551616):HsOk (n+1) (doH h c now).2:=by
  have k1:HsOk (n+1) h:=k.mono (by omega)
  unfold YtmdgeknnhckgfaaGreatDoor.doH
  split
  · exact k.create hn hc ht
  split
  · unfold getN;split<;>exact k1
  split
  · exact k.touch hn hc ht
  split
  · exact k.revoke hn hc ht
  split
  · unfold revokeUserN
    split
    · exact k1
    · rename_i hb
      exact k.takes hn (by omega) ht _ (nameN_size (by simpa using hb)).2
  split
  · exact k.takes hn (by omega) ht _ (by show (0:Nat)≤64;omega)
  split
  · unfold listN;split<;>exact k1
  split
  · unfold auditN;split<;>exact k1
  split
  · exact k1
  · exact k1
def LOk (n:Nat) (L:List Hs):Prop:=∀ h∈L,HsOk n h
theorem houseN_some {L:List Hs} {t:Int} {h:Hs} (e:houseN L t=some h):0≤t∧t.toNat<L.length∧L[t.toNat]?=some h:=by
  unfold houseN at e
  split at e
  · exact ⟨by assumption,(List.getElem?_eq_some_iff.1 e).1,e⟩
  · cases e
theorem LOk.doN {n:Nat} {L:List Hs} (k:LOk n L) (hn:n≤1000) {c:Cl} (hc:c.Ok) {now:Nat} (ht:now<18446744073709551616):LOk (n+1) (doN L c now).2:=by
  unfold YtmdgeknnhckgfaaGreatDoor.doN
  split
  · exact fun h hh=>(k h hh).mono (by omega)
  · rename_i h0 e
    obtain ⟨_,e1,e2⟩:=houseN_some e
    intro h hh
    rcases List.mem_or_eq_of_mem_set hh with hh | rfl
    · exact (k h hh).mono (by omega)
    · exact (k h0 (List.mem_of_getElem? e2)).doH hn hc ht
theorem doN_len (L:List Hs) (c:Cl) (now:Nat):(doN L c now).2.length=L.length:=by
  unfold doN
  split
  · rfl
  · simp
end Go.Proofs.YtmdgeknnhckgfaaGreatDoor
namespace Go.Proofs.YtmdgeknnhckgfaaGreatDoor
open Go Go.RowKit
def sesCells (s:Ses):List Value:=[.string s.tok,.string s.usr,.string s.dat,.int .u64 (s.exp:Nat)]
def sesArgs (l:List Ses):List Value:=l.flatMap sesCells
def entArgs (l:List Ent):List Value:=l.flatMap entCells
def strArgs (l:List ByteArray):List Value:=l.map .string
theorem sesArgs_len (l:List Ses):(sesArgs l).length=l.length*4:=flatMap_len (f:=sesCells) (fun _=>rfl) l
theorem entArgs_len (l:List Ent):(entArgs l).length=l.length*4:=flatMap_len (f:=entCells) (fun _=>rfl) l
theorem own_typed {w:World} {base size n g:Nat} {e:TypeId} {v:Value} {xs:List Value} (h:w.ownsRow base e size v n xs) (hg:v.ownBlock=some g):∃ cur,w.heap[g]?=some (.cells cur e (0,0)):=by
  rcases h.2 with ⟨rfl,_⟩ | ⟨g',cap,cur,rfl,_,hb,_⟩
  · simp [Value.ownBlock] at hg
  · simp [Value.ownBlock] at hg
    subst hg
    exact ⟨cur,hb⟩
theorem own_base {w:World} {base base' size n:Nat} {e:TypeId} {v:Value} {xs:List Value} (h:w.ownsRow base e size v n xs) (hb:base'≤base):w.ownsRow base' e size v n xs:=by
  refine ⟨h.1,?_⟩
  rcases h.2 with h2 | ⟨g,cap,cur,h1,h2,h3⟩
  · exact .inl h2
  · exact .inr ⟨g,cap,cur,h1,Nat.le_trans hb h2,h3⟩
theorem own_block {w w':World} {base size n:Nat} {e:TypeId} {v:Value} {xs:List Value} (h:w.ownsRow base e size v n xs) (hk:∀ g,v.ownBlock=some g→w'.heap[g]?=w.heap[g]?):w'.ownsRow base e size v n xs:=by
  refine ⟨h.1,?_⟩
  rcases h.2 with h2 | ⟨g,cap,cur,h1,h2,h3,h4⟩
  · exact .inl h2
  · exact .inr ⟨g,cap,cur,h1,h2,(hk g (by rw [h1];rfl)).trans h3,h4⟩
structure RD where
  g:Nat
  cap:Nat
  sv:Nat→Value
  ev:Nat→Value
  tv:Value
def RD.own (d:RD) (n k:Nat):Prop:=k=d.g∨∃ i,i<n∧((d.sv i).ownBlock=some k∨(d.ev i).ownBlock=some k)
structure RIs (w:World) (p:Nat) (T:List Ten) (L:List Hs) (d:RD):Prop where
  hp:Blk w p #[d.tv,.slice (some ⟨d.g,0,none⟩) L.length d.cap] 62
  hg:∃ cur,Blk w d.g cur 59∧∀ i h,L[i]?=some h→cur[i*3]?=some (d.sv i)∧cur[i*3+1]?=some (.int .i64 (h.next:Nat))∧cur[i*3+2]?=some (d.ev i)
  hs:∀ i h,L[i]?=some h→w.ownsRow 0 90 4 (d.sv i) h.ses.length (sesArgs h.ses)
  he:∀ i h,L[i]?=some h→w.ownsRow 0 103 4 (d.ev i) h.ents.length (entArgs h.ents)
  ds:∀ i j k,i<L.length→j<L.length→i≠j→(d.sv i).ownBlock=some k→(d.sv j).ownBlock≠some k
  de:∀ i j k,i<L.length→j<L.length→i≠j→(d.ev i).ownBlock=some k→(d.ev j).ownBlock≠some k
  ht:w.ownsRow 0 94 3 d.tv T.length (tenArgs T)
  tl:T.length=L.length
  tq:∀ (i:Nat) t h,T[i]?=some t→L[i]?=some h→t.quota=h.quota
theorem get_lt {α:Type} {l:List α} {i:Nat} (h:i<l.length):∃ x,l[i]?=some x:=⟨_,List.getElem?_eq_getElem h⟩
def Of (w:World) (k:Nat) (t:TypeId):Prop:=∃ cur fz,w.heap[k]?=some (.cells cur t fz)
theorem Of.ne {w:World} {k k':Nat} {t t':TypeId} (h:Of w k t) (h':Of w k' t') (hn:t≠t'):k≠k':=by
  rintro rfl
  obtain ⟨c,f,h⟩:=h
  obtain ⟨c',f',h'⟩:=h'
  rw [h] at h'
  injection h' with h'
  injection h' with _ h2 _
  exact hn h2
section
variable {w w':World} {p:Nat} {T:List Ten} {L:List Hs} {d:RD}
theorem RIs.own_of (r:RIs w p T L d) {k:Nat} (h:d.own L.length k):Of w k 59∨Of w k 90∨Of w k 103:=by
  rcases h with rfl | ⟨i,hi,h | h⟩
  · obtain ⟨cur,hb,_⟩:=r.hg
    exact .inl ⟨cur,_,hb⟩
  · obtain ⟨x,hx⟩:=get_lt hi
    obtain ⟨cur,hc⟩:=own_typed (r.hs i x hx) h
    exact .inr (.inl ⟨cur,_,hc⟩)
  · obtain ⟨x,hx⟩:=get_lt hi
    obtain ⟨cur,hc⟩:=own_typed (r.he i x hx) h
    exact .inr (.inr ⟨cur,_,hc⟩)
theorem RIs.own_lt (r:RIs w p T L d) {k:Nat} (h:d.own L.length k):k<w.heap.size:=by
  rcases r.own_of h with h | h | h<;>(obtain ⟨c,f,h⟩:=h;exact (Array.getElem?_eq_some_iff.1 h).1)
theorem RIs.not_own (r:RIs w p T L d) {k:Nat} {t:TypeId} (h:Of w k t) (h1:t≠59) (h2:t≠90) (h3:t≠103):¬ d.own L.length k:=by
  intro ho
  rcases r.own_of ho with h' | h' | h'
  · exact h.ne h' h1 rfl
  · exact h.ne h' h2 rfl
  · exact h.ne h' h3 rfl
theorem RIs.keep (r:RIs w p T L d) (h:∀ k,(k=p∨d.tv.ownBlock=some k∨d.own L.length k)→w'.heap[k]?=w.heap[k]?):RIs w' p T L d:=by
  obtain ⟨cur,hb,hc⟩:=r.hg
  refine ⟨(h p (.inl rfl)).trans r.hp,⟨cur,(h d.g (.inr (.inr (.inl rfl)))).trans hb,hc⟩,?_,?_,r.ds,r.de,?_,r.tl,r.tq⟩
  · intro i x hx
    exact own_block (r.hs i x hx) (fun g hg=>h g (.inr (.inr (.inr ⟨i,(List.getElem?_eq_some_iff.1 hx).1,.inl hg⟩))))
  · intro i x hx
    exact own_block (r.he i x hx) (fun g hg=>h g (.inr (.inr (.inr ⟨i,(List.getElem?_eq_some_iff.1 hx).1,.inr hg⟩))))
  · exact own_block r.ht (fun g hg=>h g (.inr (.inl hg)))
theorem RIs.kept (r:RIs w p T L d) (hb:Below w.heap.size w w'):RIs w' p T L d:=r.keep (fun k hk=>hb.block k (by
  rcases hk with rfl | hk | hk
  · exact r.hp.lt
  · exact (r.ht.lt k hk).2
  · exact r.own_lt hk))
theorem RIs.alloc (r:RIs w p T L d) (o:Obj):RIs (w.alloc o) p T L d:=r.kept ((Below.refl _ w).alloc (Nat.le_refl _) _)
theorem RIs.drew (r:RIs w p T L d):RIs w.drew p T L d:=r.keep (fun _ _=>rfl)
theorem RIs.cells (r:RIs w p T L d) {i:Nat} {h:Hs} (hi:L[i]?=some h) :
    w.cell? ⟨p,0,none⟩=some d.tv∧w.cell? ⟨p,1,none⟩=some (.slice (some ⟨d.g,0,none⟩) L.length d.cap)∧w.cell? ⟨d.g,i*3,none⟩=some (d.sv i)∧w.cell? ⟨d.g,i*3+1,none⟩=some (.int .i64 (h.next:Nat))∧w.cell? ⟨d.g,i*3+2,none⟩=some (d.ev i)∧d.g<w.heap.size:=by
  obtain ⟨cur,hb,hc⟩:=r.hg
  obtain ⟨c0,c1,c2⟩:=hc i h hi
  exact ⟨r.hp.cell 0 _ rfl,r.hp.cell 1 _ rfl,hb.cell _ _ c0,hb.cell _ _ c1,hb.cell _ _ c2,hb.lt⟩
end
def setAt {α:Type} (f:Nat→α) (i:Nat) (x:α):Nat→α:=fun j=>if j=i then x else f j
theorem setAt_same {α:Type} (f:Nat→α) (i:Nat) (x:α):setAt f i x i=x:=by unfold setAt;rw [if_pos rfl]
theorem setAt_other {α:Type} (f:Nat→α) {i j:Nat} (x:α) (h:j≠i):setAt f i x j=f j:=by unfold setAt;rw [if_neg h]
theorem RIs.upd {w w':World} {p:Nat} {T:List Ten} {L:List Hs} {d:RD} (r:RIs w p T L d) {i:Nat} {h h':Hs} (hi:L[i]?=some h) (hq:h'.quota=h.quota) (sv' ev':Value)
    (hg:∃ cur,Blk w' d.g cur 59∧(∀ j x,j≠i→L[j]?=some x→cur[j*3]?=some (d.sv j)∧cur[j*3+1]?=some (.int .i64 (x.next:Nat))∧cur[j*3+2]?=some (d.ev j))∧cur[i*3]?=some sv'∧cur[i*3+1]?=some (.int .i64 (h'.next:Nat))∧cur[i*3+2]?=some ev')
    (hs:w'.ownsRow 0 90 4 sv' h'.ses.length (sesArgs h'.ses)) (he:w'.ownsRow 0 103 4 ev' h'.ents.length (entArgs h'.ents))
    (hO:Only (fun k=>k=d.g∨(d.sv i).ownBlock=some k∨(d.ev i).ownBlock=some k) w w')
    (hsn:∀ k,sv'.ownBlock=some k→(d.sv i).ownBlock=some k∨w.heap.size≤k) (hen:∀ k,ev'.ownBlock=some k→(d.ev i).ownBlock=some k∨w.heap.size≤k) :
    RIs w' p T (L.set i h') { d with sv:=setAt d.sv i sv',ev:=setAt d.ev i ev' }:=by
  have hil:=(List.getElem?_eq_some_iff.1 hi).1
  have o59:Of w d.g 59:=by obtain ⟨c,hb,_⟩:=r.hg;exact ⟨c,_,hb⟩
  have os:∀ j x,L[j]?=some x→∀ k,(d.sv j).ownBlock=some k→Of w k 90:=fun j x hx k hk=>by obtain ⟨c,hc⟩:=own_typed (r.hs j x hx) hk;exact ⟨c,_,hc⟩
  have oe:∀ j x,L[j]?=some x→∀ k,(d.ev j).ownBlock=some k→Of w k 103:=fun j x hx k hk=>by obtain ⟨c,hc⟩:=own_typed (r.he j x hx) hk;exact ⟨c,_,hc⟩
  have bs:∀ j x,j≠i→L[j]?=some x→∀ k,(d.sv j).ownBlock=some k→w'.heap[k]?=w.heap[k]?:=by
    intro j x hj hx k hk
    refine hO.block k ((r.hs j x hx).lt k hk).2 ?_
    rintro (e | e | e)
    · exact (os j x hx k hk).ne o59 (by decide) e
    · exact r.ds j i k (List.getElem?_eq_some_iff.1 hx).1 hil hj hk e
    · exact (os j x hx k hk).ne (oe i h hi k e) (by decide) rfl
  have be:∀ j x,j≠i→L[j]?=some x→∀ k,(d.ev j).ownBlock=some k→w'.heap[k]?=w.heap[k]?:=by
    intro j x hj hx k hk
    refine hO.block k ((r.he j x hx).lt k hk).2 ?_
    rintro (e | e | e)
    · exact (oe j x hx k hk).ne o59 (by decide) e
    · exact (oe j x hx k hk).ne (os i h hi k e) (by decide) rfl
    · exact r.de j i k (List.getElem?_eq_some_iff.1 hx).1 hil hj hk e
  have bo:∀ k t,Of w k t→t≠59→t≠90→t≠103→w'.heap[k]?=w.heap[k]?:=by
    intro k t ho h1 h2 h3
    have hlt:k<w.heap.size:=by obtain ⟨c,f,hc⟩:=ho;exact (Array.getElem?_eq_some_iff.1 hc).1
    refine hO.block k hlt ?_
    rintro (e | e | e)
    · exact ho.ne o59 h1 e
    · exact ho.ne (os i h hi k e) h2 rfl
    · exact ho.ne (oe i h hi k e) h3 rfl
  have look:∀ j x,(L.set i h')[j]?=some x→(j=i∧x=h')∨(j≠i∧L[j]?=some x):=by
    intro j x hx
    rw [List.getElem?_set] at hx
    split at hx
    · rename_i e
      have hx':some h'=some x:=by simpa [e] using hx
      cases hx';exact .inl ⟨e.symm,rfl⟩
    · rename_i e
      exact .inr ⟨fun h=>e h.symm,hx⟩
  have slt:∀ j k,j<L.length→(d.sv j).ownBlock=some k→k<w.heap.size:=fun j k hj hk=>by obtain ⟨x,hx⟩:=get_lt hj;exact ((r.hs j x hx).lt k hk).2
  have elt:∀ j k,j<L.length→(d.ev j).ownBlock=some k→k<w.heap.size:=fun j k hj hk=>by obtain ⟨x,hx⟩:=get_lt hj;exact ((r.he j x hx).lt k hk).2
  obtain ⟨cur,hb,hoth,c0,c1,c2⟩:=hg
  refine ⟨?_,⟨cur,hb,?_⟩,?_,?_,?_,?_,?_,by rw [List.length_set];exact r.tl,?_⟩
  · rw [List.length_set]
    exact (bo p 62 ⟨_,_,r.hp⟩ (by decide) (by decide) (by decide)).trans r.hp
  · intro j x hx
    rcases look j x hx with ⟨rfl,rfl⟩ | ⟨hj,hx⟩
    · simp only [setAt_same]
      exact ⟨c0,c1,c2⟩
    · simp only [setAt_other _ _ hj]
      exact hoth j x hj hx
  · intro j x hx
    rcases look j x hx with ⟨rfl,rfl⟩ | ⟨hj,hx⟩
    · simp only [setAt_same];exact hs
    · simp only [setAt_other _ _ hj]
      exact own_block (r.hs j x hx) (bs j x hj hx)
  · intro j x hx
    rcases look j x hx with ⟨rfl,rfl⟩ | ⟨hj,hx⟩
    · simp only [setAt_same];exact he
    · simp only [setAt_other _ _ hj]
      exact own_block (r.he j x hx) (be j x hj hx)
  · intro j j' k hj hj' hne
    rw [List.length_set] at hj hj'
    by_cases e:j=i
    · subst e
      simp only [setAt_same,setAt_other _ _ (Ne.symm hne)]
      intro h1 h2
      rcases hsn k h1 with h3 | h3
      · exact r.ds j j' k hj hj' hne h3 h2
      · have:=slt j' k hj' h2;omega
    · by_cases e':j'=i
      · subst e'
        simp only [setAt_same,setAt_other _ _ e]
        intro h1 h2
        rcases hsn k h2 with h3 | h3
        · exact r.ds j j' k hj hj' hne h1 h3
        · have:=slt j k hj h1;omega
      · simp only [setAt_other _ _ e,setAt_other _ _ e']
        exact r.ds j j' k hj hj' hne
  · intro j j' k hj hj' hne
    rw [List.length_set] at hj hj'
    by_cases e:j=i
    · subst e
      simp only [setAt_same,setAt_other _ _ (Ne.symm hne)]
      intro h1 h2
      rcases hen k h1 with h3 | h3
      · exact r.de j j' k hj hj' hne h3 h2
      · have:=elt j' k hj' h2;omega
    · by_cases e':j'=i
      · subst e'
        simp only [setAt_same,setAt_other _ _ e]
        intro h1 h2
        rcases hen k h2 with h3 | h3
        · exact r.de j j' k hj hj' hne h1 h3
        · have:=elt j k hj h1;omega
      · simp only [setAt_other _ _ e,setAt_other _ _ e']
        exact r.de j j' k hj hj' hne
  · refine own_block r.ht (fun k hk=>?_)
    obtain ⟨c,hc⟩:=own_typed r.ht hk
    exact bo k 94 ⟨c,_,hc⟩ (by decide) (by decide) (by decide)
  · intro j t x ht hx
    rcases look j x hx with ⟨rfl,rfl⟩ | ⟨hj,hx⟩
    · rw [hq];exact r.tq j t h ht hi
    · exact r.tq j t x ht hx
theorem RD.own_upd {d:RD} {n i k:Nat} {sv' ev':Value} {B:Nat} (hi:i<n) (hsn:∀ k,sv'.ownBlock=some k→(d.sv i).ownBlock=some k∨B≤k) (hen:∀ k,ev'.ownBlock=some k→(d.ev i).ownBlock=some k∨B≤k)
    (h:({ d with sv:=setAt d.sv i sv',ev:=setAt d.ev i ev' }:RD).own n k):d.own n k∨B≤k:=by
  rcases h with rfl | ⟨j,hj,h | h⟩
  · exact .inl (.inl rfl)
  · by_cases e:j=i
    · subst e
      simp only [setAt_same] at h
      exact (hsn k h).imp (fun h=>.inr ⟨j,hj,.inl h⟩) id
    · simp only [setAt_other _ _ e] at h
      exact .inl (.inr ⟨j,hj,.inl h⟩)
  · by_cases e:j=i
    · subst e
      simp only [setAt_same] at h
      exact (hen k h).imp (fun h=>.inr ⟨j,hj,.inr h⟩) id
    · simp only [setAt_other _ _ e] at h
      exact .inl (.inr ⟨j,hj,.inr h⟩)
end Go.Proofs.YtmdgeknnhckgfaaGreatDoor
namespace Go.Proofs.YtmdgeknnhckgfaaGreatDoor
open Go Go.RowKit
variable {w:World} {p:Nat} {T:List Ten} {L:List Hs} {d:RD}
theorem RIs.pcell (r:RIs w p T L d):w.cell? ⟨p,1,none⟩=some (.slice (some ⟨d.g,0,none⟩) L.length d.cap):=r.hp.cell 1 _ rfl
theorem ref_is (r:RIs w p T L d) (t:Int):Calls Tryz.prog 19 #[.pointer (some ⟨p,0,none⟩),.int .i64 t] w fun e w'=>e=.returned (.bool (houseN L t).isSome)∧w'=w:=by
  have c1:=r.pcell
  unfold houseN
  by_cases h0:0≤t
  · by_cases h1:t<L.length
    · have hF:(if 0≤t then L[t.toNat]? else none).isSome=true:=by
        rw [if_pos h0,List.getElem?_eq_getElem (by omega)];rfl
      rw [hF]
      have d1:decide (t<(L.length:Int))=true:=decide_eq_true h1
      clear hF r
      go_enter Tryz.func19,Tryz.ntmps19
      go_wp2_with fail
      go_ret
      exact ⟨rfl,rfl⟩
    · have hF:(if 0≤t then L[t.toNat]? else none).isSome=false:=by
        rw [if_pos h0,List.getElem?_eq_none (by omega)];rfl
      rw [hF]
      have d1:decide (t<(L.length:Int))=false:=decide_eq_false h1
      clear hF r
      go_enter Tryz.func19,Tryz.ntmps19
      go_wp2_with fail
      go_ret
      exact ⟨rfl,rfl⟩
  · have hF:(if 0≤t then L[t.toNat]? else none).isSome=false:=by
      rw [if_neg h0];rfl
    rw [hF]
    clear hF r
    go_enter Tryz.func19,Tryz.ntmps19
    go_wp2_with fail
    go_ret
    exact ⟨rfl,rfl⟩
theorem ses_at {base n:Nat} {v:Value} {S:List Ses} (h:w.ownsRow base 90 4 v n (sesArgs S)) {k:Nat} {s:Ses} (hk:S[k]?=some s) :
    ∃ g cap,v=.slice (some ⟨g,0,none⟩) n cap∧g<w.heap.size∧n=S.length∧w.cell? ⟨g,k*4,none⟩=some (.string s.tok)∧w.cell? ⟨g,k*4+1,none⟩=some (.string s.usr)∧w.cell? ⟨g,k*4+2,none⟩=some (.string s.dat)∧w.cell? ⟨g,k*4+3,none⟩=some (.int .u64 (s.exp:Nat)):=by
  have hlt:=(List.getElem?_eq_some_iff.1 hk).1
  have hn:n=S.length:=by have:=h.1;rw [sesArgs_len] at this;omega
  have hat:=flatMap_at (f:=sesCells) (k:=4) (fun _=>rfl) S k s hk
  have hh:=h
  rcases h.2 with ⟨h1,h2⟩ | ⟨g,cap,cur,rfl,h3,h4,_⟩
  · omega
  · have hc:=hh.cells (g:=g) rfl
    refine ⟨g,cap,rfl,lt_of_block h4,hn,?_,?_,?_,?_⟩
    · have:=hc (k*4+0) _ (by unfold sesArgs;rw [hat 0 (by decide)];rfl);rw [add_at rfl] at this;simpa using this
    · have:=hc (k*4+1) _ (by unfold sesArgs;rw [hat 1 (by decide)];rfl);rw [add_at rfl] at this;simpa using this
    · have:=hc (k*4+2) _ (by unfold sesArgs;rw [hat 2 (by decide)];rfl);rw [add_at rfl] at this;simpa using this
    · have:=hc (k*4+3) _ (by unfold sesArgs;rw [hat 3 (by decide)];rfl);rw [add_at rfl] at this;simpa using this
def findI (S:List Ses) (tok:ByteArray) (now:Nat):Int:=match S.findIdx? (hitB tok now) with | some i=>(i:Int) | none=>-1
def RFnd (w:World) (S:List Ses) (tok:ByteArray) (now:Nat) (iv:Value) (W:World):Prop:=∃ k:Nat,k≤S.length∧iv=.int .i64 (k:Nat)∧(S.take k).findIdx? (hitB tok now)=none∧w=W
theorem find_hit {S:List Ses} {k:Nat} {s:Ses} {tok:ByteArray} {now:Nat} (hk:S[k]?=some s) (hn:(S.take k).findIdx? (hitB tok now)=none) (h:hitB tok now s=true):findI S tok now=(k:Int):=by
  unfold findI
  obtain ⟨hlt,e⟩:=List.getElem?_eq_some_iff.1 hk
  have e2:S=S.take k++s::S.drop (k+1):=by rw [←e,←List.drop_eq_getElem_cons hlt,List.take_append_drop]
  have:S.findIdx? (hitB tok now)=some k:=by
    rw [e2,List.findIdx?_append,hn,List.findIdx?_cons,h]
    simp
    omega
  rw [this]
theorem find_miss {S:List Ses} {k:Nat} {s:Ses} {tok:ByteArray} {now:Nat} (hk:S[k]?=some s) (hn:(S.take k).findIdx? (hitB tok now)=none) (h:hitB tok now s=false):(S.take (k+1)).findIdx? (hitB tok now)=none:=by
  rw [take_snoc hk,List.findIdx?_append,hn,List.findIdx?_cons,h]
  simp
set_option maxRecDepth 100000 in
set_option maxHeartbeats 4000000 in
theorem ref_find (r:RIs w p T L d) {i:Nat} {h:Hs} (hi:L[i]?=some h) (tok:ByteArray) (now:Nat) :
    Calls Tryz.prog 43 #[.pointer (some ⟨p,0,none⟩),.int .i64 (i:Nat),.string tok,.int .u64 (now:Nat)] w fun e w'=>e=.returned (.int .i64 (findI h.ses tok now))∧w'=w:=by
  obtain ⟨c0,c1,c2,c3,c4,cl⟩:=r.cells hi
  have hil:=(List.getElem?_eq_some_iff.1 hi).1
  have HS:=Lib.hid (r.hs i h hi)
  obtain ⟨A,cap,hsv⟩:∃ A cap,d.sv i=.slice A h.ses.length cap:=by
    rcases (r.hs i h hi).2 with ⟨h1,h2⟩ | ⟨g,cap,cur,h1,_⟩
    · exact ⟨none,0,by rw [h1,h2]⟩
    · exact ⟨_,_,h1⟩
  rw [hsv] at HS c2
  have h63:h.ses.length≤9223372036854775807:=by
    rcases HS.out.2 with ⟨h1,h2⟩ | ⟨g,cap,cur,h1,_,_,h2,h3,_⟩
    · omega
    · unfold maxLen at h3;omega
  clear r hi c0 c3 c4 hsv
  go_enter Tryz.func43,Tryz.ntmps43
  go_wp2_with fail
  go_loopw [10] (RFnd w h.ses tok now) (fun i _=>h.ses.length - (intOf i).toNat)
  case atStart=>exact ⟨0,Nat.zero_le _,rfl,rfl,rfl⟩
  case round =>
    obtain ⟨k,hk,rfl,hn,rfl⟩:=hrel
    by_cases hlt:k<h.ses.length
    · obtain ⟨s,hs⟩:=get_lt hlt
      obtain ⟨g,cap',e,hg,_,d0,d1,d2,d3⟩:=ses_at HS.out hs
      cases e
      by_cases ht:(s.tok.toList == tok.toList)=true
      · by_cases he:now<s.exp
        · have hF:=Lib.hid (find_hit hs hn (show hitB tok now s=true by unfold hitB;rw [ht,decide_eq_true he];rfl))
          clear hn hs
          go_wp2_with fail
          go_ret
          exact ⟨by rw [hF.out];rfl,rfl⟩
        · have hF:=Lib.hid (find_miss hs hn (show hitB tok now s=false by unfold hitB;rw [decide_eq_false he,Bool.and_false]))
          have he':¬ (now:Int)<(s.exp:Int):=by omega
          have w1:IntKind.i64.wrap ((k:Int)+1)=(((k+1:Nat)):Int):=(IntWalk.i64_in _ (by omega)).trans (by omega)
          clear hn hs
          go_wp2_with fail
          go_roundw
          case rel=>exact ⟨k+1,hlt,rfl,hF.out,rfl⟩
          case measure=>simp [intOf];omega
      · rw [Bool.not_eq_true] at ht
        have hF:=Lib.hid (find_miss hs hn (show hitB tok now s=false by unfold hitB;rw [ht];rfl))
        have w1:IntKind.i64.wrap ((k:Int)+1)=(((k+1:Nat)):Int):=(IntWalk.i64_in _ (by omega)).trans (by omega)
        clear hn hs
        go_wp2_with fail
        go_roundw
        case rel=>exact ⟨k+1,hlt,rfl,hF.out,rfl⟩
        case measure=>simp [intOf];omega
    · have hK:k=h.ses.length:=by omega
      rw [hK,List.take_length] at hn
      have hF:=Lib.hid (show findI h.ses tok now = -1 by unfold findI;rw [hn])
      clear hn hK
      go_wp2_with fail
      go_ret
      exact ⟨by rw [hF.out];rfl,rfl⟩
end Go.Proofs.YtmdgeknnhckgfaaGreatDoor
namespace Go.Proofs.YtmdgeknnhckgfaaGreatDoor
open Go Go.RowKit
theorem Tryz.info90:(Tryz.prog.info? 90).map (fun i=>(i.zero,i.size,i.bytes))=some (some (.agg #[.string ⟨#[]⟩,.string ⟨#[]⟩,.string ⟨#[]⟩,.int .u64 0]),4,56):=by kernel_rfl
theorem Tryz.info103:(Tryz.prog.info? 103).map (fun i=>(i.zero,i.size,i.bytes))=some (some (.agg #[.int .i64 0,.int .i64 0,.int .u64 0,.string ⟨#[]⟩]),4,40):=by kernel_rfl
theorem cells_new (w:World) (l:List Value) (t:TypeId):∀ (j:Nat) (u:Value),l[j]?=some u→(w.alloc (.cells l.toArray t)).cell? ((⟨w.heap.size,0,none⟩:Addr).add j)=some u:=by
  intro j u h
  rw [add_at rfl]
  show (w.alloc (.cells l.toArray t)).cell? ⟨w.heap.size,0+j,none⟩=_
  rw [Nat.zero_add]
  exact (Blk.new w l.toArray t).cell j u (by simpa using h)
theorem sesArgs_snoc (S:List Ses) (s:Ses):sesArgs (S++[s])=sesArgs S++sesCells s:=by unfold sesArgs;rw [List.flatMap_append];simp
theorem liveN_step {S:List Ses} {k now:Nat} {s:Ses} (h:S[k]?=some s):liveN (S.take (k+1)) now=if now<s.exp then liveN (S.take k) now++[s] else liveN (S.take k) now:=by
  unfold liveN
  rw [take_snoc h,List.filter_append]
  split<;>simp [*]
theorem liveN_len (S:List Ses) (now:Nat):(liveN S now).length≤S.length:=List.length_filter_le _ _
variable {w:World} {p:Nat} {T:List Ten} {L:List Hs} {d:RD}
def RLv (w:World) (S:List Ses) (now:Nat) (ov iv:Value) (W:World):Prop :=
  ∃ k:Nat,k≤S.length∧iv=.int .i64 (k:Nat)∧W.ownsRow w.heap.size 90 4 ov (liveN (S.take k) now).length (sesArgs (liveN (S.take k) now))∧Below w.heap.size w W
set_option maxRecDepth 100000 in
set_option maxHeartbeats 4000000 in
theorem ref_Live (r:RIs w p T L d) {i:Nat} {h:Hs} (hi:L[i]?=some h) (hsm:h.ses.length≤1000000) (now:Nat) :
    Calls Tryz.prog 8 #[.pointer (some ⟨p,0,none⟩),.int .i64 (i:Nat),.int .u64 (now:Nat)] w fun e w'=>∃ v,e=.returned v∧w'.ownsRow w.heap.size 90 4 v (liveN h.ses now).length (sesArgs (liveN h.ses now))∧Below w.heap.size w w':=by
  obtain ⟨i0,ii,iz0,iz1,iz2⟩:=info_parts Tryz.info90
  have hil:=(List.getElem?_eq_some_iff.1 hi).1
  have his:=ref_is r (i:Int)
  have hho:houseN L (i:Int)=some h:=by unfold houseN;rw [if_pos (by omega)];exact hi
  rw [hho] at his
  have HR:=Lib.hid r
  have HI:=Lib.hid hi
  obtain ⟨A,cap,hsv⟩:∃ A cap,d.sv i=.slice A h.ses.length cap:=by
    rcases (r.hs i h hi).2 with ⟨h1,h2⟩ | ⟨g,cap,cur,h1,_⟩
    · exact ⟨none,0,by rw [h1,h2]⟩
    · exact ⟨_,_,h1⟩
  have HSV:=Lib.hid hsv
  clear r hi hho hsv
  go_enter Tryz.func8,Tryz.ntmps8
  go_wp2_with fail
  refine his.mono ?_
  rintro e w' ⟨rfl,hu⟩
  obtain rfl:=hu.symm
  clear his hu
  go_wp2_with fail
  go_loopw [7,8] (RLv w h.ses now) (fun _ i _=>h.ses.length - (intOf i).toNat)
  case atStart=>exact ⟨0,Nat.zero_le _,rfl,World.ownsRow_nil _ _ _ _,Below.refl _ _⟩
  case round =>
    obtain ⟨k,hk,rfl,hown,hb⟩:=hrel
    obtain ⟨c0,c1,c2,c3,c4,cl⟩:=(HR.out.kept hb).cells HI.out
    rw [HSV.out] at c2
    clear c0 c3 c4
    by_cases hlt:k<h.ses.length
    · obtain ⟨s,hs⟩:=get_lt hlt
      have hrow:=(HR.out.kept hb).hs i h HI.out
      rw [HSV.out] at hrow
      obtain ⟨g,cap',e,hg,_,d0,d1,d2,d3⟩:=ses_at hrow hs
      cases e
      have hst:=liveN_step (now:=now) hs
      have HO:=Lib.hid hown
      have hll:=liveN_len (h.ses.take k) now
      rw [List.length_take,Nat.min_eq_left hk] at hll
      have w1:IntKind.i64.wrap ((k:Int)+1)=(((k+1:Nat)):Int):=(IntWalk.i64_in _ (by omega)).trans (by omega)
      clear hrow hs hown
      by_cases he:now<s.exp
      · rw [if_pos he] at hst
        have HST:=Lib.hid hst
        have p1:=Lib.hid (show (liveN (h.ses.take k) now).length+1≤maxLen by unfold maxLen;omega)
        have p2:=Lib.hid (show ((liveN (h.ses.take k) now).length+1)*56≤140737488355328 by omega)
        have q2:=Lib.hid (show w.heap.size≤wr.heap.size+1 by have:=hb.size;omega)
        clear hst hll
        go_wp2_with (at_builtin;refine wpList_append_row rfl _ _ 56 rfl w.heap.size 90 i0 _ 4 56 Tryz.underlying56 ii iz0 iz1 iz2 rfl (by decide) _ _ _ rfl (HO.out.alloc _) ⟨wr.heap.size,0,none⟩ 1 1 (sesCells s) rfl rfl (cells_new wr (sesCells s) 90) (by simp [sesCells,Value.oneCell']) p1.out p2.out (by rw [World.size_alloc];exact q2.out) ?_)
        intro v' w2 own2 hgr hfr
        have hb3:Below w.heap.size w w2:=(hb.alloc hb.size _).grown hgr (by rw [World.size_alloc];exact q2.out) (fun j hj=>(HO.out.lt j hj).1)
        clear hgr hfr HO c1 c2 d0 d1 d2 d3
        go_wp2_with fail
        go_roundw
        case rel=>exact ⟨k+1,hlt,rfl,by rw [HST.out,List.length_append,sesArgs_snoc];exact own2,hb3⟩
        case measure=>simp [intOf];omega
      · rw [if_neg he] at hst
        have HST:=Lib.hid hst
        have he':¬ (now:Int)<(s.exp:Int):=by omega
        clear hst hll
        go_wp2_with fail
        go_roundw
        case rel=>exact ⟨k+1,hlt,rfl,by rw [HST.out];exact HO.out,hb⟩
        case measure=>simp [intOf];omega
    · have hK:k=h.ses.length:=by omega
      rw [hK,List.take_length] at hown
      have hk1:¬ (k:Int)<(h.ses.length:Int):=by omega
      clear hK hlt
      go_wp2_with fail
      go_ret
      exact ⟨_,rfl,hown,hb⟩
end Go.Proofs.YtmdgeknnhckgfaaGreatDoor
