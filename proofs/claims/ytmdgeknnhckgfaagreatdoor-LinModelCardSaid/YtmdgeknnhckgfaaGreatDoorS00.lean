/-
  Parts of the proof of the law LinModel: Base, Utf, TxtN, App, More.
-/
import Derived.Test.YtmdgeknnhckgfaaGreatDoorRows
import Derived.Lib.Strings
import Derived.Lib.Slices
import Derived.Lib.Walk
import Derived.Lib.Bytealg
import Derived.Lib.Hide
import Derived.WalkKit
import Derived.StillTailTactics
import Derived.Deep.RegionHeld3
import Derived.Deep.QuietTactic
import Derived.BigQuiet
import Derived.WalkSpells
import Derived.WalkLawsBesides
import Derived.OwnWalkIn
import Derived.RangeFuncBox
import GoSem.Core.Utf8
import Derived.Deep.CutBlock
import Derived.Laws.OwnMore
import Derived.Deep.Onto
import Derived.Laws.BytesArg
import Derived.Lib.AppendStr
import Derived.Lib.AppendZeros
set_option linter.unusedSimpArgs false
set_option linter.unusedVariables false
namespace Go.Proofs.YtmdgeknnhckgfaaGreatDoor
open Go Go.RowKit
theorem ga1 {α:Type} {l:List α} {i:Nat}:l.toArray[i]?=l[i]?:=by simp
theorem ga2 {α:Type} {a:α} {l:List α} {i:Nat}:(a::l)[i+1]?=l[i]?:=List.getElem?_cons_succ
theorem ga3 {α:Type} {a:α} {l:List α}:(a::l)[0]?=some a:=List.getElem?_cons_zero
theorem pu1 {α:Type} (l:List α) (i:Nat) (a:α):l.toArray.setIfInBounds i a=(l.set i a).toArray:=List.setIfInBounds_toArray l i a
theorem pu2 {α:Type} {a:α} {l:List α} {b:α}:(a::l).set 0 b=b::l:=List.set_cons_zero
theorem pu3 {α:Type} {a:α} {l:List α} {i:Nat} {b:α}:(a::l).set (i+1) b=a::l.set i b:=List.set_cons_succ
def Blk (w:World) (b:Nat) (arr:Array Value) (t:TypeId):Prop:=w.heap[b]?=some (.cells arr t (0,0))
theorem Blk.cell {w:World} {b:Nat} {arr:Array Value} {t:TypeId} (h:Blk w b arr t) (i:Nat) (v:Value) (hv:arr[i]?=some v):w.cell? ⟨b,i,none⟩=some v:=by
  unfold Blk at h;simp [World.cell?,h,hv]
theorem Blk.frozen {w:World} {b:Nat} {arr:Array Value} {t:TypeId} (h:Blk w b arr t) (i:Nat):w.frozen? ⟨b,i,none⟩=false:=by
  unfold Blk at h;simp [World.frozen?,h]
theorem Blk.lt {w:World} {b:Nat} {arr:Array Value} {t:TypeId} (h:Blk w b arr t):b<w.heap.size:=lt_of_block h
theorem Blk.below {w w':World} {b B:Nat} {arr:Array Value} {t:TypeId} (h:Blk w b arr t) (hb:Below B w w') (hB:b<B):Blk w' b arr t:=(hb.block b hB).trans h
theorem Blk.kept {w w':World} {b:Nat} {arr:Array Value} {t:TypeId} (h:Blk w b arr t) (hb:Below w.heap.size w w'):Blk w' b arr t:=h.below hb h.lt
theorem Blk.setCell {w:World} {b:Nat} {arr:Array Value} {t:TypeId} (h:Blk w b arr t) (i:Nat) (v:Value):Blk (w.setCell ⟨b,i,none⟩ v) b (arr.setIfInBounds i v) t:=by
  unfold Blk at h ⊢
  simp [World.setCell,Array.getElem?_modify,h]
theorem Blk.setCell_ne {w:World} {b b':Nat} {arr:Array Value} {t:TypeId} (h:Blk w b arr t) (hn:b≠b') (i:Nat) (v:Value):Blk (w.setCell ⟨b',i,none⟩ v) b arr t:=by
  unfold Blk at h ⊢
  rw [Below.heap_setCell _ _ _ _ hn];exact h
theorem Blk.alloc {w:World} {b:Nat} {arr:Array Value} {t:TypeId} (h:Blk w b arr t) (o:Obj):Blk (w.alloc o) b arr t:=(Below.heap_alloc w o b h.lt).trans h
theorem Blk.drew {w:World} {b:Nat} {arr:Array Value} {t:TypeId} (h:Blk w b arr t):Blk w.drew b arr t:=h
theorem Blk.new (w:World) (arr:Array Value) (t:TypeId):Blk (w.alloc (.cells arr t)) w.heap.size arr t:=by
  unfold Blk;show (w.heap.push _)[w.heap.size]?=_;simp
structure Only (S:Nat→Prop) (w w':World):Prop where
  os:w'.os=w.os
  tape:w'.tape=w.tape
  output:w'.output=w.output
  size:w.heap.size≤w'.heap.size
  block:∀ k,k<w.heap.size→¬ S k→w'.heap[k]?=w.heap[k]?
theorem Only.refl (S:Nat→Prop) (w:World):Only S w w:=⟨rfl,rfl,rfl,Nat.le_refl _,fun _ _ _=>rfl⟩
theorem Only.trans {S:Nat→Prop} {a b c:World} (h:Only S a b) (k:Only S b c):Only S a c :=
  ⟨k.os.trans h.os,k.tape.trans h.tape,k.output.trans h.output,Nat.le_trans h.size k.size,fun i hi hs=>(k.block i (Nat.lt_of_lt_of_le hi h.size) hs).trans (h.block i hi hs)⟩
theorem Only.mono {S S':Nat→Prop} {w w':World} (h:Only S w w') (hs:∀ k,k<w.heap.size→S k→S' k):Only S' w w' :=
  ⟨h.os,h.tape,h.output,h.size,fun k hk hn=>h.block k hk fun hS=>hn (hs k hk hS)⟩
theorem Only.of_below {S:Nat→Prop} {w w':World} (h:Below w.heap.size w w'):Only S w w':=⟨h.os,h.tape,h.output,h.size,fun k hk _=>h.block k hk⟩
theorem Only.below {S:Nat→Prop} {w w':World} {B:Nat} (h:Only S w w') (hB:B≤w.heap.size) (hS:∀ k,S k→B≤k):Below B w w' :=
  ⟨h.os,h.tape,h.output,h.size,fun k hk=>h.block k (by omega) fun hs=>by have:=hS k hs;omega⟩
theorem Only.setCell {S:Nat→Prop} {a w:World} (h:Only S a w) {b:Nat} (hb:S b∨a.heap.size≤b) (i:Nat) (v:Value):Only S a (w.setCell ⟨b,i,none⟩ v) :=
  ⟨h.os,h.tape,h.output,by simpa [World.setCell] using h.size,fun k hk hn=>by
    rw [Below.heap_setCell _ _ _ _ (by rintro rfl;rcases hb with hb | hb;exact hn hb;exact absurd hk (by simpa using hb))]
    exact h.block k hk hn⟩
theorem Only.alloc {S:Nat→Prop} {a w:World} (h:Only S a w) (o:Obj):Only S a (w.alloc o) :=
  ⟨h.os,h.tape,h.output,by simp only [World.size_alloc];have:=h.size;omega,fun k hk hn=>(Below.heap_alloc w o k (by have:=h.size;omega)).trans (h.block k hk hn)⟩
theorem Only.drew {S:Nat→Prop} {a w:World} (h:Only S a w):Only S a w.drew:=⟨h.os,h.tape,h.output,h.size,h.block⟩
theorem Blk.only {w w':World} {S:Nat→Prop} {b:Nat} {arr:Array Value} {t:TypeId} (h:Blk w b arr t) (ho:Only S w w') (hn:¬ S b):Blk w' b arr t:=(ho.block b h.lt hn).trans h
theorem Blk.drewN {w:World} {b:Nat} {arr:Array Value} {t:TypeId} (h:Blk w b arr t) (n:Nat):Blk (w.drewN n) b arr t:=h
theorem ret_eq {k:IntKind} {a b:Int} (h:a=b):Ending.returned (Value.int k a)=.returned (.int k b):=by rw [h]
def Reads (w:World) (v:Value) (n k:Nat) (xs:List Value):Prop :=
  xs.length=n*k∧n≤9223372036854775807∧∃ A cap,v=.slice A n cap∧(n=0∨∃ b o,A=some ⟨b,o,none⟩∧b<w.heap.size∧∀ j u,xs[j]?=some u→w.cell? ⟨b,o+j,none⟩=some u)
theorem Reads.kept {w w':World} {v:Value} {n k:Nat} {xs:List Value} (h:Reads w v n k xs) (hb:Below w.heap.size w w'):Reads w' v n k xs:=by
  obtain ⟨h1,h2,A,cap,rfl,h3⟩:=h
  refine ⟨h1,h2,A,cap,rfl,?_⟩
  rcases h3 with h3 | ⟨b,o,rfl,h4,h5⟩
  · exact .inl h3
  · exact .inr ⟨b,o,rfl,Nat.lt_of_lt_of_le h4 hb.size,fun j u hj=>(hb.cell (p:=⟨b,o+j,none⟩) h4).trans (h5 j u hj)⟩
theorem Reads.below {w w':World} {v:Value} {n k B:Nat} {xs:List Value} (h:Reads w v n k xs) (hB:w.heap.size≤B) (hb:Below B w w'):Reads w' v n k xs:=h.kept (hb.mono hB)
theorem Reads.of_own {w:World} {B e k n:Nat} {v:Value} {xs:List Value} (h:w.ownsRow B e k v n xs):Reads w v n k xs:=by
  obtain ⟨h1,h2⟩:=h
  rcases h2 with ⟨rfl,rfl⟩ | ⟨g,cap,cur,rfl,_,hg,hc,hm,hs,ht⟩
  · exact ⟨h1,by omega,none,0,rfl,.inl rfl⟩
  · refine ⟨h1,by simp only [maxLen] at hm;omega,_,cap,rfl,.inr ⟨g,0,rfl,lt_of_block hg,fun j u hj=>?_⟩⟩
    have hj':j<n*k:=by rw [←h1];exact (List.getElem?_eq_some_iff.1 hj).1
    rw [←ht,List.getElem?_take_of_lt hj'] at hj
    simp only [World.cell?,hg,Nat.zero_add,Option.isSome_none,Bool.false_eq_true,if_false]
    simpa using hj
theorem Reads.form {w:World} {v:Value} {n k:Nat} {xs:List Value} (h:Reads w v n k xs):∃ A cap,v=.slice A n cap:=by
  obtain ⟨_,_,A,cap,rfl,_⟩:=h;exact ⟨A,cap,rfl⟩
theorem cell_keep {W w':World} (hb:Below W.heap.size W w') {p:Addr} {v:Value} (h:W.cell? p=some v):w'.cell? p=some v:=(hb.cell (World.block_lt_of_cell? W _ h)).trans h
theorem own_set {w:World} {base e size n:Nat} {v:Value} {xs:List Value} (h:w.ownsRow base e size v n xs) {r:Nat} {arr:Array Value} {t:TypeId} (hr:Blk w r arr t) (hne:t≠e) (i:Nat) (u:Value) :
    (w.setCell ⟨r,i,none⟩ u).ownsRow base e size v n xs:=by
  refine ⟨h.1,?_⟩
  rcases h.2 with h2 | ⟨g,cap',cur,h1,hb,hg,hr2⟩
  · exact .inl h2
  · refine .inr ⟨g,cap',cur,h1,hb,?_,hr2⟩
    have hn:g≠r:=by
      rintro rfl
      have:=hg.symm.trans hr
      injection this with this
      injection this with _ h3 _
      exact hne h3.symm
    exact Blk.setCell_ne (show Blk w g cur e from hg) hn i u
theorem src_all {w:World} {base e size n cap:Nat} {A:Option Addr} {xs:List Value} (h:w.ownsRow base e size (.slice A n cap) n xs) :
    (Value.slice A n cap=.slice none 0 0∧n=0)∨∃ ad c,Value.slice A n cap=.slice (some ad) n c∧∀ (j:Nat) (u:Value),xs[j]?=some u→w.cell? (ad.add j)=some u:=by
  rcases h.2 with ⟨h1,h2⟩ | ⟨g,cap',cur,h1,_⟩
  · exact .inl ⟨h1,h2⟩
  · rw [h1] at h ⊢
    exact .inr ⟨_,_,rfl,h.cells rfl⟩
theorem take_snoc {α:Type} {l:List α} {k:Nat} {x:α} (h:l[k]?=some x):l.take (k+1)=l.take k++[x]:=by rw [List.take_add_one,h];rfl
theorem flatMap_get {α β:Type} {f:α→List β} {k:Nat} (hk:0<k) (hf:∀ x,(f x).length=k):∀ (l:List α) (j:Nat) (u:β),(l.flatMap f)[j]?=some u→∃ x,l[j / k]?=some x∧(f x)[j % k]?=some u:=by
  intro l
  induction l with
  | nil=>intro j u h;simp at h
  | cons x l ih =>
    intro j u h
    rw [List.flatMap_cons] at h
    by_cases hj:j<k
    · rw [List.getElem?_append_left (by rw [hf];exact hj)] at h
      exact ⟨x,by rw [Nat.div_eq_of_lt hj];rfl,by rw [Nat.mod_eq_of_lt hj];exact h⟩
    · rw [List.getElem?_append_right (by rw [hf];omega),hf] at h
      obtain ⟨y,h1,h2⟩:=ih _ _ h
      have hd:j / k=(j - k) / k+1:=by rw [Nat.div_eq_sub_div hk (by omega)]
      exact ⟨y,by rw [hd];exact h1,by rw [Nat.mod_eq_sub_mod (by omega)];exact h2⟩
theorem flatMap_len {α β:Type} {f:α→List β} {k:Nat} (hf:∀ x,(f x).length=k) (l:List α):(l.flatMap f).length=l.length*k:=by
  induction l with
  | nil=>simp
  | cons x l ih=>rw [List.flatMap_cons,List.length_append,hf,ih,List.length_cons,Nat.succ_mul];omega
theorem flatMap_at {α β:Type} {f:α→List β} {k:Nat} (hf:∀ x,(f x).length=k):∀ (l:List α) (i:Nat) (x:α),l[i]?=some x→∀ j,j<k→(l.flatMap f)[i*k+j]?=(f x)[j]?:=by
  intro l
  induction l with
  | nil=>intro i x h;simp at h
  | cons y l ih =>
    intro i x h j hj
    rw [List.flatMap_cons]
    cases i with
    | zero =>
      simp at h;subst h
      rw [Nat.zero_mul,Nat.zero_add,List.getElem?_append_left (by rw [hf];exact hj)]
    | succ i =>
      rw [List.getElem?_append_right (by rw [hf,Nat.succ_mul];omega),hf,show (i+1)*k+j - k=i*k+j by rw [Nat.succ_mul];omega]
      exact ih i x (by simpa using h) j hj
theorem Reads.val_at {w:World} {A:Option Addr} {n cap:Nat} {xs:List Value} (h:Reads w (.slice A n cap) n 1 xs) {k:Nat} {v:Value} (hk:xs[k]?=some v) :
    ∃ b o,A=some ⟨b,o,none⟩∧b<w.heap.size∧w.cell? ⟨b,o+k,none⟩=some v:=by
  obtain ⟨h1,_,A',cap',e,h3⟩:=h
  injection e with e1 e2 e3
  subst e1 e3
  have hlt:=(List.getElem?_eq_some_iff.1 hk).1
  obtain ⟨b,o,rfl,hb,hc⟩:=h3.resolve_left (by omega)
  exact ⟨b,o,rfl,hb,hc k _ hk⟩
theorem Reads.some_at {w:World} {A:Option Addr} {n k cap:Nat} {xs:List Value} (h:Reads w (.slice A n cap) n k xs) (hn:n≠0) :
    ∃ b o,A=some ⟨b,o,none⟩∧b<w.heap.size∧∀ (j:Nat) u,xs[j]?=some u→w.cell? ⟨b,o+j,none⟩=some u:=by
  obtain ⟨_,_,A',cap',e,h3⟩:=h
  injection e with e1 e2 e3
  subst e1 e3
  exact h3.resolve_left hn
end Go.Proofs.YtmdgeknnhckgfaaGreatDoor
namespace Go.Proofs.Dec
open Go
def tryN (a b c d:Int):Nat→Int
  | 1=>a
  | 2=>(a - 192)*64+b - 128
  | 3=>(a - 224)*4096+(b - 128)*64+c - 128
  | _=>(a - 240)*262144+(b - 128)*4096+(c - 128)*64+d - 128
theorem enc_of {n:Int} (h:Utf8.valid n=true):0≤n∧n≤1114111∧¬ (55296≤n∧n≤57343):=by
  simp [Utf8.valid] at h
  omega
theorem valid_of {n:Int} (h:0≤n∧n≤1114111∧¬ (55296≤n∧n≤57343)):Utf8.valid n=true:=by
  simp [Utf8.valid]
  omega
theorem b8 (x:UInt8) (n:Nat) (h:n<256):UInt8.ofNat n=x↔n=x.toNat:=by
  constructor
  · rintro rfl;simp [UInt8.toNat_ofNat',Nat.mod_eq_of_lt h]
  · intro e;subst e;simp
theorem enc1 (n:Int) (a:UInt8) (hv:Utf8.valid n=true):(Utf8.encode n).data.toList=[a]↔(n<128∧n=a.toNat):=by
  have hr:=enc_of hv
  have ha:=a.toNat_lt
  simp only [Utf8.encode,hv,if_true]
  split
  · simp only [List.cons.injEq,and_true]
    rw [b8 _ _ (by omega)];omega
  · repeat' split
    all_goals simp
    all_goals omega
theorem enc2 (n:Int) (a b:UInt8) (hv:Utf8.valid n=true):(Utf8.encode n).data.toList=[a,b]↔(128≤n∧n<2048∧(192+n / 64=a.toNat)∧128+n % 64=b.toNat):=by
  have hr:=enc_of hv
  have ha:=a.toNat_lt
  have hb:=b.toNat_lt
  simp only [Utf8.encode,hv,if_true]
  split
  · simp;omega
  · split
    · simp only [List.cons.injEq,and_true]
      rw [b8 _ _ (by omega),b8 _ _ (by omega)];omega
    · repeat' split
      all_goals simp
      all_goals omega
theorem enc3 (n:Int) (a b c:UInt8) (hv:Utf8.valid n=true):(Utf8.encode n).data.toList=[a,b,c]↔(2048≤n∧n<65536∧(224+n / 4096=a.toNat)∧128+n / 64 % 64=b.toNat∧128+n % 64=c.toNat):=by
  have hr:=enc_of hv
  have ha:=a.toNat_lt
  have hb:=b.toNat_lt
  have hc:=c.toNat_lt
  simp only [Utf8.encode,hv,if_true]
  split
  · simp;omega
  · split
    · simp;omega
    · split
      · simp only [List.cons.injEq,and_true]
        rw [b8 _ _ (by omega),b8 _ _ (by omega),b8 _ _ (by omega)];omega
      · simp;omega
theorem enc4 (n:Int) (a b c d:UInt8) (hv:Utf8.valid n=true):(Utf8.encode n).data.toList=[a,b,c,d]↔(65536≤n∧(240+n / 262144=a.toNat)∧128+n / 4096 % 64=b.toNat∧128+n / 64 % 64=c.toNat∧128+n % 64=d.toNat):=by
  have hr:=enc_of hv
  have ha:=a.toNat_lt
  have hb:=b.toNat_lt
  have hc:=c.toNat_lt
  have hd:=d.toNat_lt
  simp only [Utf8.encode,hv,if_true]
  split
  · simp;omega
  · split
    · simp;omega
    · split
      · simp;omega
      · simp only [List.cons.injEq,and_true]
        rw [b8 _ _ (by omega),b8 _ _ (by omega),b8 _ _ (by omega),b8 _ _ (by omega)];omega
def atN (s:ByteArray) (k:Nat):Int:=(s.get! k).toNat
def takes (s:ByteArray) (k:Nat):Bool :=
  let n:=tryN (atN s 0) (atN s 1) (atN s 2) (atN s 3) k
  Utf8.valid n && (Utf8.encode n).data.toList == s.data.toList.take k
theorem take_get (s:ByteArray) (k:Nat) (h:k≤s.size):s.data.toList.take k=(List.range k).map fun j=>s.get! j:=by
  apply List.ext_getElem?
  intro i
  by_cases hi:i<k
  · have h1:i<s.data.toList.length:=by simp;have:s.size=s.data.size:=rfl;omega
    rw [List.getElem?_take_of_lt hi,List.getElem?_eq_getElem h1]
    simp only [List.getElem?_map,List.getElem?_range hi,Option.map_some]
    congr 1
    have h2:i<s.data.size:=by have:s.size=s.data.size:=rfl;omega
    simp only [ByteArray.get!,Array.getElem_toList]
    exact (getElem!_pos s.data i h2).symm
  · have e1:(List.take k s.data.toList)[i]?=none:=by
      rw [List.getElem?_eq_none];simp;omega
    have e2:((List.range k).map fun j=>s.get! j)[i]?=none:=by
      rw [List.getElem?_eq_none];simp;omega
    rw [e1,e2]
def decFrom (s:ByteArray):Nat→Nat→Int×Nat
  | 0,_=>(65533,1)
  | m+1,k=>if k≤s.size∧takes s k=true then (tryN (atN s 0) (atN s 1) (atN s 2) (atN s 3) k,k) else if k≤s.size then decFrom s m (k+1) else (65533,1)
def decR (s:ByteArray):Int×Nat:=decFrom s 4 1
theorem takes1 (s:ByteArray) (h:1≤s.size):takes s 1=true↔atN s 0<128:=by
  have h0:=(s.get! 0).toNat_lt
  simp only [takes,tryN,Bool.and_eq_true,beq_iff_eq,take_get s 1 h]
  have e:(List.range 1).map (fun j=>s.get! j)=[s.get! 0]:=rfl
  rw [e]
  constructor
  · rintro ⟨hv,he⟩
    exact ((enc1 _ _ hv).1 he).1
  · intro hlt
    have hv:Utf8.valid (atN s 0)=true:=valid_of (by simp only [atN] at *;omega)
    exact ⟨hv,(enc1 _ _ hv).2 ⟨hlt,rfl⟩⟩
theorem takes2 (s:ByteArray) (h:2≤s.size):takes s 2=true↔(192≤atN s 0∧atN s 0<224∧128≤atN s 1∧atN s 1<192∧128≤tryN (atN s 0) (atN s 1) (atN s 2) (atN s 3) 2):=by
  have h0:=(s.get! 0).toNat_lt
  have h1:=(s.get! 1).toNat_lt
  simp only [takes,tryN,Bool.and_eq_true,beq_iff_eq,take_get s 2 h]
  have e:(List.range 2).map (fun j=>s.get! j)=[s.get! 0,s.get! 1]:=rfl
  rw [e]
  constructor
  · rintro ⟨hv,he⟩
    have:=(enc2 _ _ _ hv).1 he
    simp only [atN] at *
    omega
  · intro hlt
    have hv:Utf8.valid ((atN s 0 - 192)*64+atN s 1 - 128)=true:=valid_of (by simp only [atN] at *;omega)
    exact ⟨hv,(enc2 _ _ _ hv).2 (by simp only [atN] at *;omega)⟩
theorem takes3 (s:ByteArray) (h:3≤s.size):takes s 3=true↔(224≤atN s 0∧atN s 0<240∧128≤atN s 1∧atN s 1<192∧128≤atN s 2∧atN s 2<192∧2048≤tryN (atN s 0) (atN s 1) (atN s 2) (atN s 3) 3∧Utf8.valid (tryN (atN s 0) (atN s 1) (atN s 2) (atN s 3) 3)=true):=by
  have h0:=(s.get! 0).toNat_lt
  have h1:=(s.get! 1).toNat_lt
  have h2:=(s.get! 2).toNat_lt
  simp only [takes,tryN,Bool.and_eq_true,beq_iff_eq,take_get s 3 h]
  have e:(List.range 3).map (fun j=>s.get! j)=[s.get! 0,s.get! 1,s.get! 2]:=rfl
  rw [e]
  constructor
  · rintro ⟨hv,he⟩
    have:=(enc3 _ _ _ _ hv).1 he
    refine ⟨?_,?_,?_,?_,?_,?_,?_,hv⟩<;>simp only [atN] at *<;>omega
  · rintro ⟨q1,q2,q3,q4,q5,q6,q7,hv⟩
    exact ⟨hv,(enc3 _ _ _ _ hv).2 (by simp only [atN] at *;omega)⟩
theorem takes4 (s:ByteArray) (h:4≤s.size):takes s 4=true↔(240≤atN s 0∧atN s 0<248∧128≤atN s 1∧atN s 1<192∧128≤atN s 2∧atN s 2<192∧128≤atN s 3∧atN s 3<192∧65536≤tryN (atN s 0) (atN s 1) (atN s 2) (atN s 3) 4∧Utf8.valid (tryN (atN s 0) (atN s 1) (atN s 2) (atN s 3) 4)=true):=by
  have h0:=(s.get! 0).toNat_lt
  have h1:=(s.get! 1).toNat_lt
  have h2:=(s.get! 2).toNat_lt
  have h3:=(s.get! 3).toNat_lt
  simp only [takes,tryN,Bool.and_eq_true,beq_iff_eq,take_get s 4 h]
  have e:(List.range 4).map (fun j=>s.get! j)=[s.get! 0,s.get! 1,s.get! 2,s.get! 3]:=rfl
  rw [e]
  constructor
  · rintro ⟨hv,he⟩
    have hr:=enc_of hv
    have:=(enc4 _ _ _ _ _ hv).1 he
    refine ⟨?_,?_,?_,?_,?_,?_,?_,?_,?_,hv⟩<;>simp only [atN] at *<;>omega
  · rintro ⟨q1,q2,q3,q4,q5,q6,q7,q8,q9,hv⟩
    have hr:=enc_of hv
    exact ⟨hv,(enc4 _ _ _ _ _ hv).2 (by simp only [atN] at *;omega)⟩
set_option maxHeartbeats 2000000 in
theorem decR_eq (s:ByteArray) (h:0<s.size):decR s=(((Utf8.decode s 0).1:Int),(Utf8.decode s 0).2):=by
  have h0:=(s.get! 0).toNat_lt
  have h1:=(s.get! 1).toNat_lt
  have h2:=(s.get! 2).toNat_lt
  have h3:=(s.get! 3).toNat_lt
  have t1:(1≤s.size∧takes s 1=true)↔(1≤s.size∧_):=and_congr_right (takes1 s)
  have t2:(2≤s.size∧takes s 2=true)↔(2≤s.size∧_):=and_congr_right (takes2 s)
  have t3:(3≤s.size∧takes s 3=true)↔(3≤s.size∧_):=and_congr_right (takes3 s)
  have t4:(4≤s.size∧takes s 4=true)↔(4≤s.size∧_):=and_congr_right (takes4 s)
  have ev:∀ n:Nat,Utf8.valid (n:Int)=true↔((n:Int)<55296∨57344≤(n:Int))∧(n:Int)≤1114111:=by
    intro n;simp [Utf8.valid];omega
  have ev':∀ n:Int,Utf8.valid n=true↔0≤n∧(n<55296∨57344≤n)∧n≤1114111:=by
    intro n;simp [Utf8.valid];omega
  simp only [tryN] at t1 t2 t3 t4
  rw [ev'] at t3 t4
  simp only [decR,decFrom,tryN,Utf8.decode,Nat.zero_add,Nat.reduceAdd,Utf8.runeError,t1,t2,t3,t4]
  clear t1 t2 t3 t4
  simp only [atN] at *
  obtain ⟨a,ha⟩:∃ a,a=(s.get! 0).toNat:=⟨_,rfl⟩
  obtain ⟨b,hb⟩:∃ a,a=(s.get! 1).toNat:=⟨_,rfl⟩
  obtain ⟨c,hc⟩:∃ a,a=(s.get! 2).toNat:=⟨_,rfl⟩
  obtain ⟨d,hd⟩:∃ a,a=(s.get! 3).toNat:=⟨_,rfl⟩
  obtain ⟨n,hn⟩:∃ a,a=s.size:=⟨_,rfl⟩
  simp only [←ha,←hb,←hc,←hd,←hn] at *
  simp only [Bool.and_eq_true,decide_eq_true_eq,beq_iff_eq,ge_iff_le,ev]
  repeat' split
  all_goals first
    | omega
    | (simp only [Prod.mk.injEq,and_true];done)
    | (simp only [Prod.mk.injEq,and_true];omega)
end Go.Proofs.Dec
namespace Go.Proofs.YtmdgeknnhckgfaaGreatDoor
open Go Go.RowKit
def tailB (s:ByteArray) (k:Nat):ByteArray:=⟨(s.data.toList.drop k).toArray⟩
theorem tailB_size (s:ByteArray) (k:Nat):(tailB s k).size=s.size - k:=by
  unfold tailB
  show (s.data.toList.drop k).toArray.size=_
  rw [List.size_toArray,List.length_drop]
  rfl
theorem tailB_zero (s:ByteArray):tailB s 0=s:=by cases s;rfl
theorem get!_eq (s:ByteArray) (k:Nat):s.get! k=s.data.toList.getD k 0:=by
  cases s with
  | mk a=>simp [ByteArray.get!,getElem!_def,List.getD];cases a[k]?<;>rfl
theorem tailB_get (s:ByteArray) (k j:Nat):(tailB s k).get! j=s.get! (k+j):=by
  rw [get!_eq,get!_eq]
  unfold tailB
  simp [List.getD,List.getElem?_drop]
theorem tailB_tailB (s:ByteArray) (k j:Nat):tailB (tailB s k) j=tailB s (k+j):=by
  unfold tailB
  simp [List.drop_drop]
theorem tailB_dec (s:ByteArray) (k:Nat):Utf8.decode (tailB s k) 0=Utf8.decode s k:=by
  have h:∀ j,decide (j<(tailB s k).size)=decide (k+j<s.size):=by
    intro j;rw [tailB_size];apply decide_eq_decide.2;omega
  unfold Utf8.decode
  simp only [Nat.zero_add,tailB_get,h]
theorem tailB_extract (s:ByteArray) (k:Nat):s.extract k s.size=tailB s k:=by
  apply ByteArray.ext
  unfold tailB
  simp only [ByteArray.data_extract]
  apply Array.ext'
  simp
  rw [List.take_of_length_le]
  · rw [List.length_drop];exact Nat.le_refl _
theorem dec_pos (s:ByteArray) (k:Nat):1≤(Utf8.decode s k).2:=by
  unfold Utf8.decode
  simp only
  repeat' split
  all_goals simp
theorem dec_le (s:ByteArray) (k:Nat) (h:k<s.size):k+(Utf8.decode s k).2≤s.size:=by
  unfold Utf8.decode
  simp only [Bool.and_eq_true,decide_eq_true_eq]
  repeat' split
  all_goals simp
  all_goals omega
theorem dec_r (s:ByteArray) (k:Nat):(Utf8.decode s k).1≤1114111:=by
  unfold Utf8.decode
  simp only [Bool.and_eq_true,decide_eq_true_eq,Utf8.runeError]
  repeat' split
  all_goals (try (have hv:=Dec.enc_of (by assumption)))
  all_goals first
    | (simp only;omega)
    | (rename_i h1 h2;have:=Dec.enc_of h2.2;simp only;omega)
def badR (x:Nat×Nat):Bool:=x.1 == 65533 && x.2 == 1
def validFrom (s:ByteArray):Nat→Nat→Bool
  | 0,_=>true
  | f+1,pos=>if pos<s.size then (if badR (Utf8.decode s pos) then false else validFrom s f (pos+(Utf8.decode s pos).2)) else true
def validN (s:ByteArray):Bool:=validFrom s s.size 0
theorem validFrom_fuel (s:ByteArray):∀ f g pos,s.size≤pos+f→s.size≤pos+g→validFrom s f pos=validFrom s g pos
  | 0,0,_,_,_=>rfl
  | 0,g+1,pos,h,_=>by unfold validFrom;rw [if_neg (by omega)]
  | f+1,0,pos,_,h=>by unfold validFrom;rw [if_neg (by omega)]
  | f+1,g+1,pos,h1,h2=>by
    have:=dec_pos s pos
    unfold validFrom
    split
    · split
      · rfl
      · exact validFrom_fuel s f g _ (by omega) (by omega)
    · rfl
theorem validFrom_step (s:ByteArray) {pos:Nat} (h:pos<s.size):validFrom s s.size pos=if badR (Utf8.decode s pos) then false else validFrom s s.size (pos+(Utf8.decode s pos).2):=by
  have:=dec_pos s pos
  rw [validFrom_fuel s s.size (s.size+1) pos (by omega) (by omega)]
  show (if pos<s.size then _ else _)=_
  rw [if_pos h]
theorem validFrom_end (s:ByteArray) {pos:Nat} (h:s.size≤pos) (f:Nat):validFrom s f pos=true:=by
  cases f with
  | zero=>rfl
  | succ f=>unfold validFrom;rw [if_neg (by omega)]
def runeL (s:ByteArray):Nat→Nat→List Nat
  | 0,_=>[]
  | f+1,pos=>if pos<s.size then (Utf8.decode s pos).1::runeL s f (pos+(Utf8.decode s pos).2) else []
theorem runeL_fuel (s:ByteArray):∀ f g pos,s.size≤pos+f→s.size≤pos+g→runeL s f pos=runeL s g pos
  | 0,0,_,_,_=>rfl
  | 0,g+1,pos,h,_=>by unfold runeL;rw [if_neg (by omega)]
  | f+1,0,pos,_,h=>by unfold runeL;rw [if_neg (by omega)]
  | f+1,g+1,pos,h1,h2=>by
    have:=dec_pos s pos
    unfold runeL
    split
    · rw [runeL_fuel s f g _ (by omega) (by omega)]
    · rfl
def runesN (s:ByteArray):List Nat:=runeL s s.size 0
theorem runeL_step (s:ByteArray) {pos:Nat} (h:pos<s.size):runeL s s.size pos=(Utf8.decode s pos).1::runeL s s.size (pos+(Utf8.decode s pos).2):=by
  have:=dec_pos s pos
  rw [runeL_fuel s s.size (s.size+1) pos (by omega) (by omega)]
  show (if pos<s.size then _ else _)=_
  rw [if_pos h]
theorem runeL_end (s:ByteArray) {pos:Nat} (h:s.size≤pos) (f:Nat):runeL s f pos=[]:=by
  cases f with
  | zero=>rfl
  | succ f=>unfold runeL;rw [if_neg (by omega)]
theorem runeL_len (s:ByteArray):∀ f pos,(runeL s f pos).length≤f
  | 0,_=>Nat.le_refl _
  | f+1,pos=>by
    unfold runeL
    split
    · rw [List.length_cons];have:=runeL_len s f (pos+(Utf8.decode s pos).2);omega
    · simp
theorem runeL_le (s:ByteArray):∀ f pos,∀ r∈runeL s f pos,r≤1114111
  | 0,_,r,h=>by cases h
  | f+1,pos,r,h=>by
    unfold runeL at h
    split at h
    · rcases List.mem_cons.1 h with rfl | h
      · exact dec_r s pos
      · exact runeL_le s f _ r h
    · cases h
def hidN (r:Nat):Bool:=decide (r<32) || (decide (127≤r) && decide (r≤159)) || r == 8232 || r == 8233 || r == 65279
def nameN (s:ByteArray):Bool:=decide (1≤s.size) && decide (s.size≤64) && validN s && !(runesN s).any hidN
end Go.Proofs.YtmdgeknnhckgfaaGreatDoor
namespace Go.Proofs.YtmdgeknnhckgfaaGreatDoor
open Go Go.RowKit
section
variable {P:Program}
theorem append_block {w:World} (base:Nat) (t ty e:TypeId) (i:TypeInfo) (z:Value) (size bytes:Nat) (ht:P.underlying t=some (.slice e)) (hi:P.info? e=some i) (hz:i.zero=some z)
    (hsize:i.size=size) (hby:i.bytes=bytes) (v:Value) (n:Nat) (xs:List Value) (hown:w.ownsRow base e size v n xs)
    (a:Addr) (m c:Nat) (news:List Value) (hl:news.length=m*size) (hnews:∀ j u,news[j]?=some u→w.cell? (a.add j)=some u) (h1:∀ u∈news,u.oneCell'=true)
    (hm:0<m) (h63:n+m≤maxLen) (hbytes:(n+m)*bytes≤140737488355328) {v':Value} {w':World} (hr:(Builtin.append_ #[t,t] ty #[v,.slice (some a) m c]).run P w=.ok v' w') :
    ∀ g,v'.ownBlock=some g→v.ownBlock=some g∨w.heap.size≤g:=by
  subst hsize
  subst hby
  have hsm:n+m≤9223372036854775807:=by simp only [maxLen] at h63;omega
  intro g' hg'
  rcases hown.2 with ⟨rfl,rfl⟩ | ⟨g,cap,cur,rfl,hbg,hg,hnc,hcm,hcs,htake⟩
  · have hr2:=run_append_nil (P:=P) w t ty e i z ht hi hz a m c news hl hnews hm (by omega) (by have hb:=hbytes;simp only [Nat.zero_add] at hb;omega)
    rw [hr] at hr2
    cases hr2
    cases hg'
    exact .inr (Nat.le_refl _)
  · by_cases hroom:n+m≤cap
    · have hr2:=run_append_room (P:=P) w t ty e i ht hi g n cap cur hg a m c news hl hnews h1 hroom (by rw [hl,hcs,←Nat.add_mul];exact Nat.mul_le_mul_right _ hroom)
      rw [hr] at hr2
      cases hr2
      exact .inl hg'
    · have hr2:=run_append_grow (P:=P) w t ty e i z ht hi hz ⟨g,0,none⟩ n cap xs hown.1 (hown.cells (g:=g) rfl) a m c news hl hnews (by omega) (by omega) (growslice_fits (by omega) hbytes)
      rw [hr] at hr2
      cases hr2
      cases hg'
      exact .inr (Nat.le_refl _)
theorem run_append_src_nil (w:World) (t ty e:TypeId) (i:TypeInfo) (ht:P.underlying t=some (.slice e)) (hi:P.info? e=some i) (b:Addr) (n cap:Nat) (hn:n≤cap) :
    (Builtin.append_ #[t,t] ty #[.slice (some b) n cap,.slice none 0 0]).run P w=.ok (.slice (some b) n cap) w:=by
  simp [Builtin.append_,run_underlying ht,sizeOf,typeInfo,hi,Builtin.lenOf,Builtin.firstCells,loadCells,hn,storeCells]
theorem append_block_some {w:World} (base:Nat) (t ty e:TypeId) (i:TypeInfo) (z:Value) (size bytes:Nat) (ht:P.underlying t=some (.slice e)) (hi:P.info? e=some i) (hz:i.zero=some z)
    (hsize:i.size=size) (hby:i.bytes=bytes) (b n cap:Nat) (xs:List Value) (hown:w.ownsRow base e size (.slice (some ⟨b,0,none⟩) n cap) n xs)
    (a:Addr) (m c:Nat) (news:List Value) (hl:news.length=m*size) (hnews:∀ j u,news[j]?=some u→w.cell? (a.add j)=some u) (h1:∀ u∈news,u.oneCell'=true)
    (h63:n+m≤maxLen) (hbytes:(n+m)*bytes≤140737488355328) {v':Value} {w':World} (hr:(Builtin.append_ #[t,t] ty #[.slice (some ⟨b,0,none⟩) n cap,.slice (some a) m c]).run P w=.ok v' w') :
    ∀ g,v'.ownBlock=some g→g=b∨w.heap.size≤g:=by
  subst hsize
  subst hby
  have hsm:n+m≤9223372036854775807:=by simp only [maxLen] at h63;omega
  intro g' hg'
  rcases hown.2 with ⟨h,_⟩ | ⟨g,cap2,cur,hv,hbg,hg,hnc,hcm,hcs,htake⟩
  · cases h
  · cases hv
    by_cases hroom:n+m≤cap
    · have hr2:=run_append_room (P:=P) w t ty e i ht hi b n cap cur hg a m c news hl hnews h1 hroom (by rw [hl,hcs,←Nat.add_mul];exact Nat.mul_le_mul_right _ hroom)
      rw [hr] at hr2
      cases hr2
      cases hg'
      exact .inl rfl
    · have hr2:=run_append_grow (P:=P) w t ty e i z ht hi hz ⟨b,0,none⟩ n cap xs hown.1 (hown.cells (g:=b) rfl) a m c news hl hnews (by omega) (by omega) (growslice_fits (by omega) hbytes)
      rw [hr] at hr2
      cases hr2
      cases hg'
      exact .inr (Nat.le_refl _)
theorem wpList_append_any {w:World} {ops:Array Oper} {rest:List Oper} {o:Oper} {a:Act} {Q:Exit→Act→World→Prop} (hgd:o.guard=none) (s x:Operand) (t:TypeId)
    (ho:o.op=.call { callee:=.builtin .append,args:=#[s,x],argTypes:=#[t,t] })
    (base:Nat) (e:TypeId) (i:TypeInfo) (z:Value) (size bytes:Nat) (ht:P.underlying t=some (.slice e)) (hi:P.info? e=some i) (hz:i.zero=some z)
    (hsize:i.size=size) (hby:i.bytes=bytes) (hzs:z.cells.size=size) (hsz:0<size)
    (b n cap:Nat) (xs:List Value) (hs:a.eval s=.slice (some ⟨b,0,none⟩) n cap) (hown:w.ownsRow base e size (.slice (some ⟨b,0,none⟩) n cap) n xs)
    (m:Nat) (news:List Value) (hl:news.length=m*size) (hx:(a.eval x=.slice none 0 0∧m=0)∨∃ ad c,a.eval x=.slice (some ad) m c∧∀ j u,news[j]?=some u→w.cell? (ad.add j)=some u) (h1:∀ u∈news,u.oneCell'=true)
    (h63:n+m≤maxLen) (hbytes:(n+m)*bytes≤140737488355328) (hbase:base≤w.heap.size)
    (h:∀ g' cap' w',w'.ownsRow base e size (.slice (some ⟨g',0,none⟩) (n+m) cap') (n+m) (xs++news)→w.grownBy w' (some b)→(g'=b∨w.heap.size≤g')→wpList P ops Q rest (a.put o.dst (.slice (some ⟨g',0,none⟩) (n+m) cap')) w'):wpList P ops Q (o::rest) a w:=by
  have hnc:n≤cap:=by
    rcases hown.2 with ⟨h,_⟩ | ⟨g,cap',cur,h,_,_,hc,_⟩
    · cases h
    · cases h;exact hc
  rcases hx with ⟨hx,rfl⟩ | ⟨ad,c,hx,hnews⟩
  · have hne:news=[]:=List.eq_nil_of_length_eq_zero (by simpa using hl)
    subst hne
    refine wpList_plain hgd fun K hK=>?_
    have hr:=run_append_src_nil (P:=P) w t o.type e i ht hi ⟨b,0,none⟩ n cap hnc
    unfold Oper.wp execOp
    simp only [ho,resolve,invoke,builtin,Sem.run_bind,Sem.run_pure,Result.andThen_ok,List.map_toArray,List.map_cons,List.map_nil,hs,hx,hr]
    exact hK _ _ (h b cap w (by simpa using hown) ⟨rfl,rfl,rfl,Nat.le_refl _,fun _ _ _=>rfl⟩ (.inl rfl))
  · refine wpList_plain hgd fun K hK'=>?_
    obtain ⟨v',w',hrun,r1,r2,r3⟩:=run_append_own (P:=P) w base t o.type e i z size bytes ht hi hz hsize hby hzs hsz _ n xs hown ad m c news hl hnews h1 h63 hbytes hbase
    have r4:=append_block_some base t o.type e i z size bytes ht hi hz hsize hby b n cap xs hown ad m c news hl hnews h1 h63 hbytes hrun
    unfold Oper.wp execOp
    simp only [ho,resolve,invoke,builtin,Sem.run_bind,Sem.run_pure,Result.andThen_ok,List.map_toArray,List.map_cons,List.map_nil,hs,hx,hrun]
    refine hK' _ _ ?_
    rcases r1.2 with ⟨rfl,_⟩ | ⟨g,cap',cur,rfl,_⟩
    · have:=(r3.1 rfl).1;cases this
    · exact h g cap' w' r1 r2 (r4 g rfl)
theorem oper_append_any {w:World} {o:Oper} {a:Act} {K:Act→World→Prop} {Q:Exit→Act→World→Prop} (s x:Operand) (t:TypeId)
    (ho:o.op=.call { callee:=.builtin .append,args:=#[s,x],argTypes:=#[t,t] })
    (base:Nat) (e:TypeId) (i:TypeInfo) (z:Value) (size bytes:Nat) (ht:P.underlying t=some (.slice e)) (hi:P.info? e=some i) (hz:i.zero=some z)
    (hsize:i.size=size) (hby:i.bytes=bytes) (hzs:z.cells.size=size) (hsz:0<size)
    (b n cap:Nat) (xs:List Value) (hs:a.eval s=.slice (some ⟨b,0,none⟩) n cap) (hown:w.ownsRow base e size (.slice (some ⟨b,0,none⟩) n cap) n xs)
    (m:Nat) (news:List Value) (hl:news.length=m*size) (hx:(a.eval x=.slice none 0 0∧m=0)∨∃ ad c,a.eval x=.slice (some ad) m c∧∀ j u,news[j]?=some u→w.cell? (ad.add j)=some u) (h1:∀ u∈news,u.oneCell'=true)
    (h63:n+m≤maxLen) (hbytes:(n+m)*bytes≤140737488355328) (hbase:base≤w.heap.size)
    (h:∀ g' cap' w',w'.ownsRow base e size (.slice (some ⟨g',0,none⟩) (n+m) cap') (n+m) (xs++news)→w.grownBy w' (some b)→(g'=b∨w.heap.size≤g')→K (a.put o.dst (.slice (some ⟨g',0,none⟩) (n+m) cap')) w'):Oper.wp P o a w K Q:=by
  have hnc:n≤cap:=by
    rcases hown.2 with ⟨h,_⟩ | ⟨g,cap',cur,h,_,_,hc,_⟩
    · cases h
    · cases h;exact hc
  rcases hx with ⟨hx,rfl⟩ | ⟨ad,c,hx,hnews⟩
  · have hne:news=[]:=List.eq_nil_of_length_eq_zero (by simpa using hl)
    subst hne
    have hr:=run_append_src_nil (P:=P) w t o.type e i ht hi ⟨b,0,none⟩ n cap hnc
    unfold Oper.wp execOp
    simp only [ho,resolve,invoke,builtin,Sem.run_bind,Sem.run_pure,Result.andThen_ok,List.map_toArray,List.map_cons,List.map_nil,hs,hx,hr]
    exact (h b cap w (by simpa using hown) ⟨rfl,rfl,rfl,Nat.le_refl _,fun _ _ _=>rfl⟩ (.inl rfl))
  · obtain ⟨v',w',hrun,r1,r2,r3⟩:=run_append_own (P:=P) w base t o.type e i z size bytes ht hi hz hsize hby hzs hsz _ n xs hown ad m c news hl hnews h1 h63 hbytes hbase
    have r4:=append_block_some base t o.type e i z size bytes ht hi hz hsize hby b n cap xs hown ad m c news hl hnews h1 h63 hbytes hrun
    unfold Oper.wp execOp
    simp only [ho,resolve,invoke,builtin,Sem.run_bind,Sem.run_pure,Result.andThen_ok,List.map_toArray,List.map_cons,List.map_nil,hs,hx,hrun]
    rcases r1.2 with ⟨rfl,_⟩ | ⟨g,cap',cur,rfl,_⟩
    · have:=(r3.1 rfl).1;cases this
    · exact h g cap' w' r1 r2 (r4 g rfl)
theorem wpList_append_row {w:World} {ops:Array Oper} {rest:List Oper} {o:Oper} {a:Act} {Q:Exit→Act→World→Prop} (hgd:o.guard=none) (s x:Operand) (t:TypeId)
    (ho:o.op=.call { callee:=.builtin .append,args:=#[s,x],argTypes:=#[t,t] })
    (base:Nat) (e:TypeId) (i:TypeInfo) (z:Value) (size bytes:Nat) (ht:P.underlying t=some (.slice e)) (hi:P.info? e=some i) (hz:i.zero=some z)
    (hsize:i.size=size) (hby:i.bytes=bytes) (hzs:z.cells.size=size) (hsz:0<size)
    (v:Value) (n:Nat) (xs:List Value) (hs:a.eval s=v) (hown:w.ownsRow base e size v n xs)
    (ad:Addr) (m c:Nat) (news:List Value) (hx:a.eval x=.slice (some ad) m c) (hl:news.length=m*size) (hnews:∀ j u,news[j]?=some u→w.cell? (ad.add j)=some u) (h1:∀ u∈news,u.oneCell'=true)
    (h63:n+m≤maxLen) (hbytes:(n+m)*bytes≤140737488355328) (hbase:base≤w.heap.size)
    (h:∀ v' w',w'.ownsRow base e size v' (n+m) (xs++news)→w.grownBy w' v.ownBlock→(∀ g,v'.ownBlock=some g→v.ownBlock=some g∨w.heap.size≤g)→wpList P ops Q rest (a.put o.dst v') w'):wpList P ops Q (o::rest) a w:=by
  refine wpList_plain hgd fun K hK'=>?_
  obtain ⟨v',w',hrun,r1,r2,r3⟩:=run_append_own (P:=P) w base t o.type e i z size bytes ht hi hz hsize hby hzs hsz v n xs hown ad m c news hl hnews h1 h63 hbytes hbase
  have r4:∀ g,v'.ownBlock=some g→v.ownBlock=some g∨w.heap.size≤g:=by
    rcases Nat.eq_zero_or_pos m with hm | hm
    · rcases hown.2 with ⟨hv,_⟩ | ⟨g,cap,cur,hv,_⟩
      · intro g hg
        rw [r3.2 ⟨hv,hm⟩] at hg
        cases hg
      · subst hv
        intro g' hg'
        rcases append_block_some base t o.type e i z size bytes ht hi hz hsize hby g n cap xs hown ad m c news hl hnews h1 h63 hbytes hrun g' hg' with h | h
        · exact .inl (by rw [h];rfl)
        · exact .inr h
    · exact append_block base t o.type e i z size bytes ht hi hz hsize hby v n xs hown ad m c news hl hnews h1 hm h63 hbytes hrun
  unfold Oper.wp execOp
  simp only [ho,resolve,invoke,builtin,Sem.run_bind,Sem.run_pure,Result.andThen_ok,List.map_toArray,List.map_cons,List.map_nil,hs,hx,hrun]
  exact hK' _ _ (h v' w' r1 r2 r4)
theorem body_none {P:Program} {fn:Func} {R:Ending→World→Prop} {a:Act} {w:World} (hr:fn.results=#[]) (hd:a.defers=[]) (hR:R (.returned (.tuple #[])) w):bodyPost P fn R .normal a w :=
  ⟨hd,.tuple #[],by unfold results;rw [hr];simp [Sem.run_pure],hR⟩
def bv (l:List UInt8):List Value:=l.map fun b=>.int .u8 (b.toNat:Int)
theorem bv_len (l:List UInt8):(bv l).length=l.length:=by simp [bv]
theorem bv_append (a b:List UInt8):bv (a++b)=bv a++bv b:=by simp [bv]
theorem bv_one (l:List UInt8):∀ u∈bv l,u.oneCell'=true:=by
  intro u hu
  obtain ⟨b,_,rfl⟩:=List.mem_map.1 hu
  rfl
def SrcIs (w:World) (v:Value) (m:Nat) (news:List Value):Prop:=(v=.slice none 0 0∧m=0)∨∃ ad c,v=.slice (some ad) m c∧∀ j u,news[j]?=some u→w.cell? (ad.add j)=some u
theorem append_string_block {w:World} (base:Nat) (t u ty e:TypeId) (i:TypeInfo) (ht:P.underlying t=some (.slice e)) (hu:P.underlying u=some .string) (hi:P.info? e=some i) (hz:i.zero=some (.int .u8 0))
    (hsize:i.size=1) (hby:i.bytes=1) (v:Value) (n:Nat) (xs:List Value) (hown:w.ownsRow base e 1 v n xs) (s:ByteArray)
    (h63:n+s.size≤maxLen) (hbytes:n+s.size≤140737488355328) {v':Value} {w':World} (hr:(Builtin.append_ #[t,u] ty #[v,.string s]).run P w=.ok v' w') :
    ∀ g,v'.ownBlock=some g→v.ownBlock=some g∨w.heap.size≤g:=by
  have hsm:n+s.size≤9223372036854775807:=by simp only [maxLen] at h63;omega
  have hxl:xs.length=n:=by simpa using hown.1
  intro g' hg'
  rcases hown.2 with ⟨rfl,rfl⟩ | ⟨g,cap,cur,rfl,hbg,hg,hnc,hcm,hcs,htake⟩
  · by_cases hm:s.size=0
    · have hf:=Lib.run_firstCells_string (P:=P) w 1 s
      rw [hm] at hf
      have hr2:(Builtin.append_ #[t,u] ty #[.slice none 0 0,.string s]).run P w=.ok (.slice none 0 0) w:=by
        simp [Builtin.append_,run_underlying ht,run_underlying hu,sizeOf,typeInfo,hi,hsize,Builtin.lenOf,hm,hf]
      rw [hr] at hr2
      cases hr2
      cases hg'
    · have hr2:=run_append_nil_string (P:=P) w t u ty e i (.int .u8 0) ht hu hi hz s (by omega) (by omega) (by rw [hby];omega)
      rw [hr] at hr2
      cases hr2
      cases hg'
      exact .inr (Nat.le_refl _)
  · by_cases hroom:n+s.size≤cap
    · have hcs':cur.size=cap:=by simpa using hcs
      have hr2:=Lib.run_append_room_string (P:=P) w t u ty e i ht hu hi hsize g n cap cur hg s hroom (by omega)
      rw [hr] at hr2
      cases hr2
      exact .inl hg'
    · have holds:∀ j u,xs[j]?=some u→w.cell? ((⟨g,0,none⟩:Addr).add j)=some u:=hown.cells (g:=g) rfl
      have hr2:=Lib.run_append_grow_string (P:=P) w t u ty e i (.int .u8 0) ht hu hi hz ⟨g,0,none⟩ n cap xs (by rw [hsize];simpa using hxl) holds s (by omega) (by omega) (by rw [hby];exact growslice_fits (by omega) (by omega))
      rw [hr] at hr2
      cases hr2
      cases hg'
      exact .inr (Nat.le_refl _)
theorem wpList_append_text {w:World} {ops:Array Oper} {rest:List Oper} {o:Oper} {a:Act} {Q:Exit→Act→World→Prop} (hgd:o.guard=none) (sl x:Operand) (t u:TypeId)
    (ho:o.op=.call { callee:=.builtin .append,args:=#[sl,x],argTypes:=#[t,u] })
    (base:Nat) (e:TypeId) (i:TypeInfo) (ht:P.underlying t=some (.slice e)) (hu:P.underlying u=some .string) (hi:P.info? e=some i) (hz:i.zero=some (.int .u8 0))
    (hsize:i.size=1) (hby:i.bytes=1)
    (v:Value) (n:Nat) (xs:List Value) (hs:a.eval sl=v) (hown:w.ownsRow base e 1 v n xs) (s:ByteArray) (hx:a.eval x=.string s)
    (h63:n+s.size≤maxLen) (hbytes:n+s.size≤140737488355328) (hbase:base≤w.heap.size)
    (h:∀ v' w',w'.ownsRow base e 1 v' (n+s.size) (xs++bv s.data.toList)→w.grownBy w' v.ownBlock→(∀ g,v'.ownBlock=some g→v.ownBlock=some g∨w.heap.size≤g)→(v'=.slice none 0 0↔v=.slice none 0 0∧s.size=0)→wpList P ops Q rest (a.put o.dst v') w'):wpList P ops Q (o::rest) a w:=by
  refine wpList_plain hgd fun K hK=>?_
  obtain ⟨v',w',hr,h2,h3,h4⟩:=Lib.run_append_own_string (P:=P) w base t u o.type e i ht hu hi hz hsize hby v n xs hown s h63 hbytes hbase
  have h5:=append_string_block base t u o.type e i ht hu hi hz hsize hby v n xs hown s h63 hbytes hr
  unfold Oper.wp execOp
  simp only [ho,resolve,invoke,builtin,Sem.run_bind,Sem.run_pure,Result.andThen_ok,List.map_toArray,List.map_cons,List.map_nil,hs,hx,hr]
  exact hK _ _ (h v' w' h2 h3 h5 h4)
theorem SrcIs.kept {w w':World} {v:Value} {m:Nat} {xs:List Value} (h:SrcIs w v m xs) (hb:Below w.heap.size w w'):SrcIs w' v m xs:=by
  rcases h with h | ⟨ad,c,h1,h2⟩
  · exact .inl h
  · exact .inr ⟨ad,c,h1,fun j u hj=>cell_keep hb (h2 j u hj)⟩
theorem SrcIs.of_own {w:World} {base e n:Nat} {v:Value} {xs:List Value} (h:w.ownsRow base e 1 v n xs):SrcIs w v n xs:=by
  rcases h.2 with h1 | ⟨g,cap',cur,h1,_⟩
  · exact .inl h1
  · subst h1;exact .inr ⟨_,_,rfl,h.cells rfl⟩
theorem SrcIs.form {w:World} {v:Value} {n:Nat} {xs:List Value} (h:SrcIs w v n xs):∃ A c,v=.slice A n c:=by
  rcases h with ⟨h1,h2⟩ | ⟨ad,c,h1,_⟩
  · exact ⟨_,_,by rw [h1,h2]⟩
  · exact ⟨_,_,h1⟩
end
end Go.Proofs.YtmdgeknnhckgfaaGreatDoor
namespace Go.Proofs.YtmdgeknnhckgfaaGreatDoor
open Go Go.RowKit
section
variable {W:World}
theorem add_at {a:Addr} (ha:a.spot=none) (j:Nat):a.add j=⟨a.block,a.off+j,none⟩:=by
  cases a
  simp only at ha
  subst ha
  unfold Addr.add
  by_cases h:j=0<;>simp [h]
theorem spot_none {a:Addr} {v:Value} (h:W.cell? a=some v):a.spot=none:=by
  unfold World.cell? at h
  split at h
  · split at h
    · cases h
    · rename_i hs;simpa using hs
  · cases h
theorem reads_of {α:Type} {W:World} {f:α→List Value} {k:Nat} (hk:0<k) (hf:∀ x,(f x).length=k) {a:Addr} {len cap:Nat} {C:Nat→α} (hl:len≤9223372036854775807)
    (hC:∀ i,i<len→∀ j u,(f (C i))[j]?=some u→W.cell? (a.add (i*k+j))=some u):Reads W (.slice (some a) len cap) len k (((List.range len).map C).flatMap f):=by
  refine ⟨by rw [flatMap_len hf];simp,hl,some a,cap,rfl,?_⟩
  rcases Nat.eq_zero_or_pos len with h0 | h0
  · exact .inl h0
  · right
    obtain ⟨u0,hu0⟩:∃ u,(f (C 0))[0]?=some u:=⟨_,List.getElem?_eq_getElem (by rw [hf];exact hk)⟩
    have hc0:W.cell? a=some u0:=by simpa [Addr.add] using hC 0 h0 0 u0 hu0
    have hsp:a.spot=none:=spot_none hc0
    have ha:a=⟨a.block,a.off,none⟩:=by cases a;simp only at hsp;subst hsp;rfl
    refine ⟨a.block,a.off,by rw [←ha],World.block_lt_of_cell? W _ hc0,fun j u hj=>?_⟩
    obtain ⟨x,h1,h2⟩:=flatMap_get hk hf _ _ _ hj
    rw [List.getElem?_map] at h1
    obtain ⟨i,hi,rfl⟩:=Option.map_eq_some_iff.1 h1
    obtain ⟨hlt,hi2⟩:=List.getElem?_eq_some_iff.1 hi
    rw [List.getElem_range] at hi2
    rw [List.length_range] at hlt
    subst hi2
    have:=hC _ hlt _ _ h2
    rw [add_at hsp,Nat.mul_comm,Nat.div_add_mod] at this
    exact this
end
end Go.Proofs.YtmdgeknnhckgfaaGreatDoor
