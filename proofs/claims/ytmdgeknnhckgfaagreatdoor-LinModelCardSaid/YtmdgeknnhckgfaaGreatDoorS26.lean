/-
  Parts of the proof of the law LinModel: It, MKeys, MRep, MHou, MFnd, MRef, MGet.
-/
import Derived.Test.YtmdgeknnhckgfaaGreatDoorS09
import Derived.Test.YtmdgeknnhckgfaaGreatDoorS14
import Derived.Test.YtmdgeknnhckgfaaGreatDoorS15
import Derived.Test.YtmdgeknnhckgfaaGreatDoorS16
import Derived.Test.YtmdgeknnhckgfaaGreatDoorS17
import Derived.Test.YtmdgeknnhckgfaaGreatDoorS22
import Derived.Test.YtmdgeknnhckgfaaGreatDoorS25
import Derived.Test.YtmdgeknnhckgfaaGreatDoorProg
import Derived.Shelf.SlIter.Nil
import Derived.Shelf.SortM.Plain
import Derived.Shelf.SortM.SortNone
import Derived.Shelf.SlMaps.Clone
import Derived.Shelf.SlicesE.IndexFunc
import Derived.Ground.GgzProg
import Derived.Ground.SlgmProg
import Derived.Ground.SlmcProg
import Derived.Ground.SlgfProg
import Derived.Sort.Walk0
import Derived.Carry
set_option linter.unusedSimpArgs false
set_option linter.unusedVariables false
namespace Go.Proofs
open Go.Shelf Go.RowKit Go.Maps Go.Sort
def Tryz.keys75_ren:Go.Shelf.Ren:=⟨fun | 7=>75 | 10=>105 | n=>n,fun | 23=>122 | 26=>9 | 3=>90 | 28=>156 | 0=>0 | 27=>155 | 33=>105 | 4=>4 | n=>n,fun | n=>n⟩
theorem Tryz.keys75:Go.Proofs.SlLaysZ.n7 Tryz.prog Tryz.keys75_ren:={
  mixed:=by kernel_rfl
  f7:=⟨Tryz.f75.name,by decide,Tryz.func75.trans (congrArg some (by kernel_rfl))⟩
  f10:=⟨Tryz.f105.name,by decide,Tryz.func105.trans (congrArg some (by kernel_rfl))⟩
  t0:=Tryz.underlying0
  a0:=Tryz.isAgg0
  z0:=Tryz.sizeOf0
  v0:=Tryz.zeroValue0
  t4:=Tryz.underlying4
  a4:=Tryz.isAgg4
  z4:=Tryz.sizeOf4
  v4:=Tryz.zeroValue4
  t23:=Tryz.underlying122
  a23:=Tryz.isAgg122
  z23:=Tryz.sizeOf122
  v23:=Tryz.zeroValue122
  t26:=Tryz.underlying9
  a26:=Tryz.isAgg9
  z26:=Tryz.sizeOf9
  v26:=Tryz.zeroValue9
  t27:=Tryz.underlying155
  a27:=Tryz.isAgg155
  z27:=Tryz.sizeOf155
  v27:=Tryz.zeroValue155
  t28:=Tryz.underlying156
  a28:=Tryz.isAgg156
  z28:=Tryz.sizeOf156
  v28:=Tryz.zeroValue156
  t33:=Tryz.underlying105
  a33:=Tryz.isAgg105
  z33:=Tryz.sizeOf105
  v33:=Tryz.zeroValue105 }
def Tryz.sorted74_ren:Go.Shelf.Ren:=⟨fun | 6=>74 | 8=>103 | 9=>104 | 11=>128 | 13=>130 | 12=>129 | 23=>160 | 24=>161 | 14=>151 | 15=>152 | 16=>153 | 17=>154 | 18=>155 | 19=>156 | 20=>157 | 21=>158 | 22=>159 | 25=>174 | 26=>175 | 27=>176 | 28=>177 | 29=>178 | 30=>179 | 31=>191 | n=>n,fun | 26=>9 | 28=>156 | 24=>32 | 0=>0 | 3=>3 | 37=>179 | 48=>176 | 50=>31 | 4=>4 | 40=>219 | 39=>218 | 45=>224 | 5=>5 | 9=>9 | 51=>234 | 55=>238 | 57=>245 | 58=>246 | 33=>105 | n=>n,fun | n=>n⟩
theorem Tryz.sorted74:Go.Proofs.SlLaysZ.n6 Tryz.prog Tryz.sorted74_ren:={
  mixed:=by kernel_rfl
  f6:=⟨Tryz.f74.name,by decide,Tryz.func74.trans (congrArg some (by kernel_rfl))⟩
  f8:=⟨Tryz.f103.name,by decide,Tryz.func103.trans (congrArg some (by kernel_rfl))⟩
  f11:=⟨Tryz.f128.name,by decide,Tryz.func128.trans (congrArg some (by kernel_rfl))⟩
  t0:=Tryz.underlying0
  a0:=Tryz.isAgg0
  z0:=Tryz.sizeOf0
  v0:=Tryz.zeroValue0
  t24:=Tryz.underlying32
  a24:=Tryz.isAgg32
  z24:=Tryz.sizeOf32
  v24:=Tryz.zeroValue32
  t26:=Tryz.underlying9
  a26:=Tryz.isAgg9
  z26:=Tryz.sizeOf9
  v26:=Tryz.zeroValue9
  t28:=Tryz.underlying156
  a28:=Tryz.isAgg156
  z28:=Tryz.sizeOf156
  v28:=Tryz.zeroValue156
  i26:=by kernel_rfl }
def Tryz.sort104_ren:Go.Shelf.Ren:=⟨fun | 6=>104 | 8=>130 | 9=>129 | 19=>160 | 20=>161 | 21=>151 | 22=>152 | 23=>153 | 24=>154 | 25=>155 | 26=>156 | 27=>157 | 28=>158 | 29=>159 | 36=>174 | 31=>175 | 32=>176 | 37=>177 | 38=>178 | 39=>179 | 41=>191 | n=>n,fun | 27=>32 | 29=>9 | 3=>3 | 32=>179 | 26=>32 | 0=>0 | 44=>176 | 46=>31 | 4=>4 | 36=>219 | 35=>218 | 41=>224 | 5=>5 | 9=>9 | 53=>234 | 57=>238 | 63=>245 | 64=>246 | n=>n,fun | n=>n⟩
theorem Tryz.sort104:Go.Proofs.SlLaysM.n6 Tryz.prog Tryz.sort104_ren:={
  mixed:=by kernel_rfl
  f6:=⟨Tryz.f104.name,by decide,Tryz.func104.trans (congrArg some (by kernel_rfl))⟩
  f8:=Tryz.func130.trans (congrArg some (by kernel_rfl))
  f9:=⟨Tryz.f129.name,by decide,Tryz.func129.trans (congrArg some (by kernel_rfl))⟩
  f19:=Tryz.func160.trans (congrArg some (by kernel_rfl))
  f20:=Tryz.func161.trans (congrArg some (by kernel_rfl))
  f21:=⟨Tryz.f151.name,by decide,Tryz.func151.trans (congrArg some (by kernel_rfl))⟩
  f22:=⟨Tryz.f152.name,by decide,Tryz.func152.trans (congrArg some (by kernel_rfl))⟩
  f23:=⟨Tryz.f153.name,by decide,Tryz.func153.trans (congrArg some (by kernel_rfl))⟩
  f24:=⟨Tryz.f154.name,by decide,Tryz.func154.trans (congrArg some (by kernel_rfl))⟩
  f25:=⟨Tryz.f155.name,by decide,Tryz.func155.trans (congrArg some (by kernel_rfl))⟩
  f26:=⟨Tryz.f156.name,by decide,Tryz.func156.trans (congrArg some (by kernel_rfl))⟩
  f27:=⟨Tryz.f157.name,by decide,Tryz.func157.trans (congrArg some (by kernel_rfl))⟩
  f28:=⟨Tryz.f158.name,by decide,Tryz.func158.trans (congrArg some (by kernel_rfl))⟩
  f29:=⟨Tryz.f159.name,by decide,Tryz.func159.trans (congrArg some (by kernel_rfl))⟩
  f31:=Tryz.func175.trans (congrArg some (by kernel_rfl))
  f32:=Tryz.func176.trans (congrArg some (by kernel_rfl))
  f36:=⟨Tryz.f174.name,by decide,Tryz.func174.trans (congrArg some (by kernel_rfl))⟩
  f37:=⟨Tryz.f177.name,by decide,Tryz.func177.trans (congrArg some (by kernel_rfl))⟩
  f38:=⟨Tryz.f178.name,by decide,Tryz.func178.trans (congrArg some (by kernel_rfl))⟩
  f39:=⟨Tryz.f179.name,by decide,Tryz.func179.trans (congrArg some (by kernel_rfl))⟩
  f41:=⟨Tryz.f191.name,by decide,Tryz.func191.trans (congrArg some (by kernel_rfl))⟩
  t0:=Tryz.underlying0
  a0:=Tryz.isAgg0
  z0:=Tryz.sizeOf0
  v0:=Tryz.zeroValue0
  t3:=Tryz.underlying3
  a3:=Tryz.isAgg3
  z3:=Tryz.sizeOf3
  v3:=Tryz.zeroValue3
  t4:=Tryz.underlying4
  a4:=Tryz.isAgg4
  z4:=Tryz.sizeOf4
  v4:=Tryz.zeroValue4
  t5:=Tryz.underlying5
  a5:=Tryz.isAgg5
  z5:=Tryz.sizeOf5
  v5:=Tryz.zeroValue5
  t9:=Tryz.underlying9
  a9:=Tryz.isAgg9
  z9:=Tryz.sizeOf9
  v9:=Tryz.zeroValue9
  t26:=Tryz.underlying32
  a26:=Tryz.isAgg32
  z26:=Tryz.sizeOf32
  v26:=Tryz.zeroValue32
  t27:=Tryz.underlying32
  a27:=Tryz.isAgg32
  z27:=Tryz.sizeOf32
  v27:=Tryz.zeroValue32
  t29:=Tryz.underlying9
  a29:=Tryz.isAgg9
  z29:=Tryz.sizeOf9
  v29:=Tryz.zeroValue9
  t32:=Tryz.underlying179
  a32:=Tryz.isAgg179
  z32:=Tryz.sizeOf179
  v32:=Tryz.zeroValue179
  t35:=Tryz.underlying218
  a35:=Tryz.isAgg218
  z35:=Tryz.sizeOf218
  v35:=Tryz.zeroValue218
  t36:=Tryz.underlying219
  a36:=Tryz.isAgg219
  z36:=Tryz.sizeOf219
  v36:=Tryz.zeroValue219
  t41:=Tryz.underlying224
  a41:=Tryz.isAgg224
  z41:=Tryz.sizeOf224
  v41:=Tryz.zeroValue224
  t44:=Tryz.underlying176
  a44:=Tryz.isAgg176
  z44:=Tryz.sizeOf176
  v44:=Tryz.zeroValue176
  t46:=Tryz.underlying31
  a46:=Tryz.isAgg31
  z46:=Tryz.sizeOf31
  v46:=Tryz.zeroValue31
  t53:=Tryz.underlying234
  a53:=Tryz.isAgg234
  z53:=Tryz.sizeOf234
  v53:=Tryz.zeroValue234
  t57:=Tryz.underlying238
  a57:=Tryz.isAgg238
  z57:=Tryz.sizeOf238
  v57:=Tryz.zeroValue238
  t63:=Tryz.underlying245
  a63:=Tryz.isAgg245
  z63:=Tryz.sizeOf245
  v63:=Tryz.zeroValue245
  t64:=Tryz.underlying246
  a64:=Tryz.isAgg246
  z64:=Tryz.sizeOf246
  v64:=Tryz.zeroValue246 }
def Tryz.clone71_ren:Go.Shelf.Ren:=⟨fun | 5=>71 | 7=>93 | n=>n,fun | 23=>122 | 25=>9 | 3=>90 | 4=>4 | 20=>20 | n=>n,fun | n=>n⟩
theorem Tryz.clone71:Go.Proofs.SlLaysW.n5 Tryz.prog Tryz.clone71_ren:={
  mixed:=by kernel_rfl
  f5:=⟨Tryz.f71.name,by decide,Tryz.func71.trans (congrArg some (by kernel_rfl))⟩
  f7:=Tryz.func93.trans (congrArg some (by kernel_rfl))
  t4:=Tryz.underlying4
  a4:=Tryz.isAgg4
  z4:=Tryz.sizeOf4
  v4:=Tryz.zeroValue4
  t20:=Tryz.underlying20
  a20:=Tryz.isAgg20
  z20:=Tryz.sizeOf20
  v20:=Tryz.zeroValue20
  t23:=Tryz.underlying122
  a23:=Tryz.isAgg122
  z23:=Tryz.sizeOf122
  v23:=Tryz.zeroValue122 }
theorem Tryz.sorts74 (m:Nat):AnyZ.SortsIn Tryz.prog Tryz.sorted74_ren Fence.wide m :=
  ⟨fun blk off cap ss W hH hblk hsz=>callsIn_wide.2 (AnyM.slices_Sort_string Tryz.sort104 blk off cap ss W hH hblk hsz),
   fun p cap W=>callsIn_wide.2 (AnyM.slices_Sort_string_none Tryz.sort104 p cap W)⟩
theorem Tryz.maps_Keys_75 (mb:Option Nat) (W:World):CallsIn Fence.wide 5 Tryz.prog 75 #[.map mb] W fun e w'=>e=.returned (.func (.func 105) #[] #[.pointer (some ⟨W.heap.size,0,none⟩)])∧w'=W.alloc (.cells #[.map mb] 122) :=
  AnyZ.keys_in Tryz.keys75 Fence.wide 5 trivial rfl mb W
set_option maxHeartbeats 1000000 in
theorem Tryz.slices_Sorted_keys_74_75 {H:Type} (b nn:Nat) (D0:DataW H) (R:Value→Option (DataW H×List MemPlace)) (w:World) (hown:w.ownsMap Tryz.prog 9 R b nn D0) (hmax:Maps.size D0≤maxLen) (hbytes:Maps.size D0*16≤140737488355328) :
    CallsIn Fence.wide 5 Tryz.prog 74 #[.func (.func 105) #[] #[.pointer (some ⟨w.heap.size,0,none⟩)]] (w.alloc (.cells #[.map (some b)] 122)) fun e w'=>∃ (v:Value) (ss:List (List UInt8)),e=.returned v∧ss.Perm (strKeys D0) ∧
      w'.ownsRow (w.alloc (.cells #[.map (some b)] 122)).heap.size 9 1 v ss.length ((ss.mergeSort (fun x y=>decide (x≤y))).map encStr)∧(v=.slice none 0 0↔ss=[])∧Below (w.alloc (.cells #[.map (some b)] 122)).heap.size (w.alloc (.cells #[.map (some b)] 122)) w':=by
  have hbl:=hown.lt
  have hseq:SeqGives Fence.wide 2 Tryz.prog 105 #[.pointer (some ⟨w.heap.size,0,none⟩)] encStr (fun ss=>ss.Perm (strKeys D0)) (Maps.size D0) (w.alloc (.cells #[.map (some b)] 122)) :=
    AnyZ.keys_gives (ρ:=Tryz.keys75_ren) { Tryz.keys75 with } Fence.wide _ trivial rfl (by omega) w.heap.size b nn D0 _ (by simp) (by simp) (by
      obtain ⟨es,clock,hb,Ft,hs,hD⟩:=hown
      exact ⟨es,clock,(Below.heap_alloc _ _ b hbl).trans hb,Ft,hs,hD⟩)
  exact AnyZ.sorted_in Tryz.sorted74 Fence.wide 5 trivial trivial trivial trivial rfl (by omega) (Tryz.sorts74 _) (enters_of Tryz.func104 (by kernel_rfl) rfl) 105 #[.pointer (some ⟨w.heap.size,0,none⟩)] trivial (enters_of Tryz.func105 (by kernel_rfl) rfl) _ _ hmax hbytes _ hseq
theorem Tryz.maps_Clone_71 {H:Type} (R:Value→Option (DataW H×List MemPlace)) (b n:Nat) (D:DataW H) (w:World) (hown:w.ownsMap Tryz.prog 9 R b n D) :
    Calls Tryz.prog 71 #[.map (some b)] w fun e w'=>e=.returned (.map (some w.heap.size))∧w'.ownsMap Tryz.prog 9 R w.heap.size n D∧w'.ownsMap Tryz.prog 9 R b n D∧Below w.heap.size w w':=AnyW.maps_Clone_owns Tryz.clone71 9 R b n D w hown
end Go.Proofs
namespace Go.Proofs.YtmdgeknnhckgfaaGreatDoor
open Go Go.RowKit
theorem perm_sorted {α:Type} {r:α→α→Prop} (has:∀ x y,r x y→r y x→x=y):∀ {a b:List α},a.Perm b→a.Pairwise r→b.Pairwise r→a=b
  | [],b,hp,_,_=>by rw [List.nil_perm] at hp;exact hp.symm
  | x::a,[],hp,_,_=>by have:=hp.length_eq;simp at this
  | x::a,y::b,hp,ha,hb=>by
    rw [List.pairwise_cons] at ha hb
    have hxy:x=y:=by
      have h1:x∈y::b:=hp.subset (List.mem_cons_self ..)
      have h2:y∈x::a:=hp.symm.subset (List.mem_cons_self ..)
      rcases List.mem_cons.1 h1 with h | h
      · exact h
      · rcases List.mem_cons.1 h2 with h' | h'
        · exact h'.symm
        · exact has _ _ (ha.1 y h') (hb.1 x h)
    subst hxy
    rw [perm_sorted has ((List.perm_cons x).1 hp) ha.2 hb.2]
theorem sorted_toks {l:List Ses} (hs:Sorted l) {ss:List (List UInt8)} (hp:ss.Perm (strKeys (sesD l))):ss.mergeSort (fun x y=>decide (x≤y))=l.map fun s=>s.tok.data.toList:=by
  have hk:strKeys (sesD l)=l.map fun s=>s.tok.data.toList:=by
    unfold sesD strKeys
    simp only
    rw [List.map_map]
    rfl
  rw [hk] at hp
  refine perm_sorted (r:=fun x y=>x≤y) (fun x y h1 h2=>List.le_antisymm h1 h2) ((List.mergeSort_perm ss _).trans hp) ?_ ?_
  · have:=List.pairwise_mergeSort (le:=fun x y:List UInt8=>decide (x≤y)) (fun a b c h1 h2=>by
      simp only [decide_eq_true_eq] at *;exact List.le_trans h1 h2) (fun a b=>by
      simp only [Bool.or_eq_true,decide_eq_true_eq];exact List.le_total a b) ss
    exact this.imp (fun h=>by simpa using h)
  · rw [List.pairwise_map]
    refine hs.imp (fun {a b} h=>?_)
    unfold SLt at h
    rw [bytesLess_eq,decide_eq_true_eq] at h
    exact List.le_of_lt h
theorem mod_keys (b:Nat) (w:World):Calls Tryz.prog 75 #[.map (some b)] w fun e w'=>e=.returned (.func (.func 105) #[] #[.pointer (some ⟨w.heap.size,0,none⟩)])∧w'=w.alloc (.cells #[.map (some b)] 122) :=
  callsIn_wide.1 (Tryz.maps_Keys_75 (some b) w)
theorem mod_sorted {w:World} {b n:Nat} {l:List Ses} (h:SMap w b n l) (hs:Sorted l) (hl:l.length≤1000000) :
    Calls Tryz.prog 74 #[.func (.func 105) #[] #[.pointer (some ⟨w.heap.size,0,none⟩)]] (w.alloc (.cells #[.map (some b)] 122)) fun e w' =>
      ∃ v,e=.returned v∧w'.ownsRow (w.heap.size+1) 9 1 v l.length (strArgs (l.map (·.tok)))∧Below (w.heap.size+1) (w.alloc (.cells #[.map (some b)] 122)) w':=by
  have hz:=sesD_size l
  refine (callsIn_wide.1 (Tryz.slices_Sorted_keys_74_75 b n (sesD l) RSes w h (by rw [hz];unfold maxLen;omega) (by rw [hz];omega))).mono ?_
  rintro e w' ⟨v,ss,rfl,hp,hown,_,hb⟩
  rw [World.size_alloc] at hown hb
  rw [sorted_toks hs hp] at hown
  have hlen:ss.length=l.length:=by
    have:=hp.length_eq
    rw [this]
    unfold sesD strKeys
    simp
  rw [hlen] at hown
  refine ⟨v,rfl,?_,hb⟩
  have e1:(l.map fun s=>s.tok.data.toList).map encStr=strArgs (l.map (·.tok)):=by
    unfold strArgs
    rw [List.map_map,List.map_map]
    apply List.map_congr_left
    intro s _
    show Value.string ⟨s.tok.data.toList.toArray⟩=Value.string s.tok
    rw [Array.toArray_toList]
  rw [e1] at hown
  exact hown
end Go.Proofs.YtmdgeknnhckgfaaGreatDoor
namespace Go.Proofs.YtmdgeknnhckgfaaGreatDoor
open Go Go.RowKit
structure MD where
  g:Nat
  cap:Nat
  hb:Nat→Nat
  mb:Nat→Nat
  ev:Nat→Value
def hsArr (h:Hs) (mb:Nat) (ev:Value):Array Value:=#[.int .i64 h.quota,.map (some mb),.int .i64 (h.next:Nat),ev,.string ⟨(headN h.ents).toArray⟩]
def MD.own (d:MD) (n k:Nat):Prop:=∃ i,i<n∧(k=d.hb i∨k=d.mb i)
structure MIs (w:World) (p N:Nat) (L:List Hs) (d:MD):Prop where
  hp:Blk w p #[.slice (some ⟨d.g,0,none⟩) L.length d.cap] 120
  hg:∃ cur,Blk w d.g cur 121∧∀ i,i<L.length→cur[i]?=some (.pointer (some ⟨d.hb i,0,none⟩))
  hh:∀ i h,L[i]?=some h→Blk w (d.hb i) (hsArr h (d.mb i) (d.ev i)) 125
  hm:∀ i h,L[i]?=some h→∃ n,n≤N∧SMap w (d.mb i) n h.ses
  he:∀ i h,L[i]?=some h→Reads w (d.ev i) h.ents.length 4 (entArgs h.ents)
  ht:∀ i k,i<L.length→(d.ev i).ownBlock=some k→Of w k 103
  hc:∀ i A n c,i<L.length→d.ev i=.slice A n c→n≤c
  ih:∀ i j,i<L.length→j<L.length→d.hb i=d.hb j→i=j
  im:∀ i j,i<L.length→j<L.length→d.mb i=d.mb j→i=j
section
variable {w w':World} {p N:Nat} {L:List Hs} {d:MD}
theorem Of.lt {k:Nat} {t:TypeId} (h:Of w k t):k<w.heap.size:=by
  obtain ⟨c,f,h⟩:=h
  exact (Array.getElem?_eq_some_iff.1 h).1
theorem Of.map_ne {k b n:Nat} {t:TypeId} {l:List Ses} (h:Of w k t) (h':SMap w b n l):k≠b:=by
  rintro rfl
  obtain ⟨c,f,h⟩:=h
  obtain ⟨es,cl,h2,_⟩:=h'
  rw [h] at h2
  cases h2
theorem Of.block {k:Nat} {t:TypeId} (h:Of w k t) (e:w'.heap[k]?=w.heap[k]?):Of w' k t:=by
  obtain ⟨c,f,h⟩:=h
  exact ⟨c,f,e.trans h⟩
theorem Reads.block {v:Value} {n k:Nat} {xs:List Value} (h:Reads w v n k xs) (hs:w.heap.size≤w'.heap.size) (e:∀ b,v.ownBlock=some b→w'.heap[b]?=w.heap[b]?):Reads w' v n k xs:=by
  obtain ⟨h1,h2,A,cap,rfl,h3⟩:=h
  refine ⟨h1,h2,A,cap,rfl,?_⟩
  rcases h3 with h3 | ⟨b,o,rfl,h5,h6⟩
  · exact .inl h3
  · exact .inr ⟨b,o,rfl,Nat.lt_of_lt_of_le h5 hs,fun j u hj=>(World.cell?_of_block (a:=⟨b,o+j,none⟩) (e b rfl)).trans (h6 j u hj)⟩
theorem MIs.keep (r:MIs w p N L d) (hs:w.heap.size≤w'.heap.size) (h:∀ k,(k=p∨k=d.g∨d.own L.length k∨∃ i,i<L.length∧(d.ev i).ownBlock=some k)→w'.heap[k]?=w.heap[k]?):MIs w' p N L d:=by
  obtain ⟨cur,hb,hc⟩:=r.hg
  refine ⟨(h p (.inl rfl)).trans r.hp,⟨cur,(h d.g (.inr (.inl rfl))).trans hb,hc⟩,?_,?_,?_,?_,r.hc,r.ih,r.im⟩
  · intro i x hx
    exact (h _ (.inr (.inr (.inl ⟨i,(List.getElem?_eq_some_iff.1 hx).1,.inl rfl⟩)))).trans (r.hh i x hx)
  · intro i x hx
    obtain ⟨n,hn,hm⟩:=r.hm i x hx
    exact ⟨n,hn,hm.block (h _ (.inr (.inr (.inl ⟨i,(List.getElem?_eq_some_iff.1 hx).1,.inr rfl⟩))))⟩
  · intro i x hx
    exact Reads.block (r.he i x hx) hs (fun b hb=>h b (.inr (.inr (.inr ⟨i,(List.getElem?_eq_some_iff.1 hx).1,hb⟩))))
  · intro i k hi hk
    exact (r.ht i k hi hk).block (h k (.inr (.inr (.inr ⟨i,hi,hk⟩))))
theorem MIs.lt (r:MIs w p N L d) {k:Nat} (h:k=p∨k=d.g∨d.own L.length k∨∃ i,i<L.length∧(d.ev i).ownBlock=some k):k<w.heap.size:=by
  rcases h with rfl | rfl | ⟨i,hi,rfl | rfl⟩ | ⟨i,hi,hk⟩
  · exact r.hp.lt
  · obtain ⟨cur,hb,_⟩:=r.hg
    exact hb.lt
  · obtain ⟨x,hx⟩:=get_lt hi
    exact (r.hh i x hx).lt
  · obtain ⟨x,hx⟩:=get_lt hi
    obtain ⟨n,_,hm⟩:=r.hm i x hx
    exact hm.lt
  · exact (r.ht i k hi hk).lt
theorem MIs.kept (r:MIs w p N L d) (hb:Below w.heap.size w w'):MIs w' p N L d:=r.keep hb.size (fun k hk=>hb.block k (r.lt hk))
theorem MIs.alloc (r:MIs w p N L d) (o:Obj):MIs (w.alloc o) p N L d:=r.kept ((Below.refl _ w).alloc (Nat.le_refl _) _)
theorem MIs.mono {N':Nat} (r:MIs w p N L d) (h:N≤N'):MIs w p N' L d :=
  ⟨r.hp,r.hg,r.hh,fun i x hx=>by obtain ⟨n,hn,hm⟩:=r.hm i x hx;exact ⟨n,by omega,hm⟩,r.he,r.ht,r.hc,r.ih,r.im⟩
theorem MIs.upd {N':Nat} (r:MIs w p N L d) {i:Nat} {h h':Hs} (hi:L[i]?=some h) (hN:N≤N') (ev':Value)
    (ho:Only (fun k=>k=d.hb i∨k=d.mb i) w w') (hbk:Blk w' (d.hb i) (hsArr h' (d.mb i) ev') 125) (hm:∃ n,n≤N'∧SMap w' (d.mb i) n h'.ses)
    (hev:Reads w' ev' h'.ents.length 4 (entArgs h'.ents)) (het:∀ k,ev'.ownBlock=some k→Of w' k 103) (hec:∀ A n c,ev'=.slice A n c→n≤c):MIs w' p N' (L.set i h') { d with ev:=setAt d.ev i ev' }:=by
  have hil:=(List.getElem?_eq_some_iff.1 hi).1
  have obi:Of w (d.hb i) 125:=⟨_,_,r.hh i h hi⟩
  obtain ⟨n0,_,hm0⟩:=r.hm i h hi
  have away:∀ k t,Of w k t→t≠125→¬ (k=d.hb i∨k=d.mb i):=by
    rintro k t hk hn (rfl | rfl)
    · exact hk.ne obi hn rfl
    · exact hk.map_ne hm0 rfl
  have same:∀ k,k<w.heap.size→¬ (k=d.hb i∨k=d.mb i)→w'.heap[k]?=w.heap[k]?:=fun k hk hn=>ho.block k hk hn
  obtain ⟨cur,hb,hc⟩:=r.hg
  have set_at:∀ j x,(L.set i h')[j]?=some x→(j=i∧x=h')∨(j≠i∧L[j]?=some x):=by
    intro j x hx
    by_cases hj:j=i
    · subst hj
      rw [List.getElem?_set_self hil] at hx
      injection hx with hx
      exact .inl ⟨rfl,hx.symm⟩
    · rw [List.getElem?_set_ne (fun e=>hj e.symm)] at hx
      exact .inr ⟨hj,hx⟩
  have hlen:(L.set i h').length=L.length:=List.length_set ..
  have hbne:∀ j,j<L.length→j≠i→¬ (d.hb j=d.hb i∨d.hb j=d.mb i):=by
    rintro j hj hne (e | e)
    · exact hne (r.ih j i hj hil e)
    · obtain ⟨x,hx⟩:=get_lt hj
      exact (show Of w (d.hb j) 125 from ⟨_,_,r.hh j x hx⟩).map_ne hm0 e
  have mbne:∀ j,j<L.length→j≠i→¬ (d.mb j=d.hb i∨d.mb j=d.mb i):=by
    rintro j hj hne (e | e)
    · obtain ⟨x,hx⟩:=get_lt hj
      obtain ⟨_,_,hmj⟩:=r.hm j x hx
      exact obi.map_ne hmj e.symm
    · exact hne (r.im j i hj hil e)
  refine ⟨?_,⟨cur,(same _ hb.lt (away _ 121 ⟨_,_,hb⟩ (by decide))).trans hb,?_⟩,?_,?_,?_,?_,?_,?_,?_⟩
  · rw [hlen]
    exact (same _ r.hp.lt (away _ 120 ⟨_,_,r.hp⟩ (by decide))).trans r.hp
  · rw [hlen];exact hc
  · intro j x hx
    rcases set_at j x hx with ⟨rfl,rfl⟩ | ⟨hj,hx⟩
    · show Blk w' (d.hb j) (hsArr x (d.mb j) (setAt d.ev j ev' j)) 125
      rw [setAt_same]
      exact hbk
    · show Blk w' (d.hb j) (hsArr x (d.mb j) (setAt d.ev i ev' j)) 125
      rw [setAt_other _ _ hj]
      exact (same _ (r.hh j x hx).lt (hbne j (List.getElem?_eq_some_iff.1 hx).1 hj)).trans (r.hh j x hx)
  · intro j x hx
    rcases set_at j x hx with ⟨rfl,rfl⟩ | ⟨hj,hx⟩
    · exact hm
    · obtain ⟨n,hn,hmj⟩:=r.hm j x hx
      exact ⟨n,by omega,hmj.block (same _ hmj.lt (mbne j (List.getElem?_eq_some_iff.1 hx).1 hj))⟩
  · intro j x hx
    rcases set_at j x hx with ⟨rfl,rfl⟩ | ⟨hj,hx⟩
    · show Reads w' (setAt d.ev j ev' j) _ _ _
      rw [setAt_same]
      exact hev
    · show Reads w' (setAt d.ev i ev' j) _ _ _
      rw [setAt_other _ _ hj]
      exact Reads.block (r.he j x hx) ho.size (fun b hb'=>by
        have ho':=r.ht j b (List.getElem?_eq_some_iff.1 hx).1 hb'
        exact same b ho'.lt (away b 103 ho' (by decide)))
  · intro j k hj hk
    rw [hlen] at hj
    by_cases hji:j=i
    · subst hji
      have hk':(setAt d.ev j ev' j).ownBlock=some k:=hk
      rw [setAt_same] at hk'
      exact het k hk'
    · have hk':(setAt d.ev i ev' j).ownBlock=some k:=hk
      rw [setAt_other _ _ hji] at hk'
      have ho':=r.ht j k hj hk'
      exact ho'.block (same k ho'.lt (away k 103 ho' (by decide)))
  · intro j A n c hj hk
    rw [hlen] at hj
    by_cases hji:j=i
    · subst hji
      have hk':setAt d.ev j ev' j=.slice A n c:=hk
      rw [setAt_same] at hk'
      exact hec A n c hk'
    · have hk':setAt d.ev i ev' j=.slice A n c:=hk
      rw [setAt_other _ _ hji] at hk'
      exact r.hc j A n c hj hk'
  · rw [hlen];exact r.ih
  · rw [hlen];exact r.im
end
end Go.Proofs.YtmdgeknnhckgfaaGreatDoor
namespace Go.Proofs.YtmdgeknnhckgfaaGreatDoor
open Go Go.RowKit
variable {w:World} {p N:Nat} {L:List Hs} {d:MD}
def houV (L:List Hs) (d:MD) (t:Int):Value:=if 0≤t∧t<L.length then .pointer (some ⟨d.hb t.toNat,0,none⟩) else .pointer none
theorem mod_house (r:MIs w p N L d) (t:Int):Calls Tryz.prog 57 #[.pointer (some ⟨p,0,none⟩),.int .i64 t] w fun e w'=>e=.returned (houV L d t)∧w'=w:=by
  have c0:=r.hp.cell 0 (.slice (some ⟨d.g,0,none⟩) L.length d.cap) rfl
  by_cases h0:0≤t
  · by_cases h1:t<(L.length:Int)
    · obtain ⟨i,rfl⟩:∃ i:Nat,t=(i:Int):=⟨t.toNat,by omega⟩
      obtain ⟨cur,hb,hc⟩:=r.hg
      have g0:=hb.cell i _ (hc i (by omega))
      have hF:=Lib.hid (show houV L d (i:Int)=.pointer (some ⟨d.hb i,0,none⟩) by unfold houV;rw [if_pos ⟨h0,h1⟩];rfl)
      clear hb hc r
      rw [hF.out]
      go_enter Tryz.func57,Tryz.ntmps57
      go_wp2_with fail
      go_ret
      exact ⟨rfl,rfl⟩
    · have hF:=Lib.hid (show houV L d t=.pointer none by unfold houV;rw [if_neg (by omega)])
      rw [hF.out]
      have h2:(L.length:Int)≤t:=by omega
      clear r h1
      go_enter Tryz.func57,Tryz.ntmps57
      go_wp2_with fail
      go_ret
      exact ⟨rfl,rfl⟩
  · have hF:=Lib.hid (show houV L d t=.pointer none by unfold houV;rw [if_neg (by omega)])
    rw [hF.out]
    have h2:t<0:=by omega
    clear r h0
    go_enter Tryz.func57,Tryz.ntmps57
    go_wp2_with fail
    go_ret
    exact ⟨rfl,rfl⟩
end Go.Proofs.YtmdgeknnhckgfaaGreatDoor
namespace Go.Proofs.YtmdgeknnhckgfaaGreatDoor
open Go Go.RowKit
theorem body_cell_tmp {P:Program} {fn:Func} {R:Ending→World→Prop} {a:Act} {w:World} {p u:Tmp} {ty:TypeId} (hr:fn.results=#[.cell p ty,.tmp u]) (hd:a.defers=[]) {g:Nat} {cs:Array Value} {t:TypeId} {d:TypeDesc} {v:Value}
    (hp:a.tmps.getD p undef=.pointer (some ⟨g,0,none⟩)) (hg:Blk w g cs t) (hu:P.underlying ty=some d) (hdd:(match d with | .struct _ | .array _ _=>true | _=>false)=true) (hi:(P.info? ty).map (·.size)=some cs.size)
    (hv:a.tmps.getD u undef=v) (hR:R (.returned (.tuple #[.agg cs,v])) w):bodyPost P fn R .ret a w:=by
  have hp':a.tmps[p]?.getD undef=.pointer (some ⟨g,0,none⟩):=by simpa using hp
  have hv':a.tmps[u]?.getD undef=v:=by simpa using hv
  refine bodyPost_ret (v:=.tuple #[.agg cs,v]) ?_ hd hR
  simp [results,hr,hp',hv',asAddr,run_loadVar_row w g t ty cs (0,0) d hg hu hdd hi]
def sesArr (s:Ses):Array Value:=#[.string s.tok,.string s.usr,.string s.dat,.int .u64 (s.exp:Nat)]
variable {w:World} {p N:Nat} {L:List Hs} {d:MD}
set_option maxRecDepth 100000 in
theorem mod_find (r:MIs w p N L d) {i:Nat} {h:Hs} (hi:L[i]?=some h) (tok:ByteArray) (ht:tok.size≤maxLen) (now:Nat) :
    Calls Tryz.prog 122 #[.pointer (some ⟨d.hb i,0,none⟩),.string tok,.int .u64 (now:Nat)] w fun e w'=>e=.returned (.tuple #[sesV (getS h.ses tok),.bool (hasS h.ses tok && decide (now<(getS h.ses tok).exp))])∧Below w.heap.size w w':=by
  have c1:=(r.hh i h hi).cell 1 (.map (some (d.mb i))) rfl
  obtain ⟨n,_,hm⟩:=r.hm i h hi
  have hlk:=(hm.kept ((Below.refl _ w).alloc (Nat.le_refl _) (.cells zero4 90))).look_ok tok ht
  have hlt:=(r.hh i h hi).lt
  obtain ⟨s,hs⟩:∃ s,getS h.ses tok=s:=⟨_,rfl⟩
  obtain ⟨q,hq⟩:∃ q,hasS h.ses tok=q:=⟨_,rfl⟩
  rw [hs,hq] at hlk
  rw [hs,hq]
  have kA:Blk (w.alloc (.cells zero4 90)) w.heap.size zero4 90:=Blk.new w zero4 90
  have KA0:=Lib.hid kA
  have hb0:Below w.heap.size w (w.alloc (.cells zero4 90)):=(Below.refl _ w).alloc (Nat.le_refl _) _
  have c1':=cell_keep hb0 c1
  have HB0:=Lib.hid hb0
  have hz0:=Lib.hid (show (w.alloc (.cells zero4 90)).heap.size=w.heap.size+1 from World.size_alloc ..)
  clear r hm c1 kA hb0 hs hq
  unfold sesV at hlk
  go_enter Tryz.func122,Tryz.ntmps122
  go_upto_region 1 with fail
  change Code.wp _ _ _ _ (w.alloc (.cells zero4 90))
  generalize w.alloc (.cells zero4 90)=W0 at hlk KA0 HB0 hz0 c1' ⊢
  go_wp2_with (refine wpList_store_new rfl 90 (Operand.tmp 8) (Operand.tmp 17) rfl rfl (sesArr s) rfl (by exact Tryz.size90) rfl (by simp [sesArr,Value.oneCell']) ?_;intro w2 hk2 hb2 hs2)
  obtain ⟨sb,hsb⟩:∃ x,W0.heap.size=x:=⟨_,rfl⟩
  have hZ:=hz0.out
  have hb3:=HB0.out.trans (hb2.mono HB0.out.size)
  have KA:=KA0.out.kept hb2
  rw [hsb] at hk2 hZ
  have z0:=hk2.cell 0 (.string s.tok) rfl
  have z1:=hk2.cell 1 (.string s.usr) rfl
  have z2:=hk2.cell 2 (.string s.dat) rfl
  have z3:=hk2.cell 3 (.int .u64 (s.exp:Nat)) rfl
  rw [hsb]
  have HNE:=Lib.hid (show ¬ sb=w.heap.size by omega)
  clear hlk KA0 HB0 hz0 c1' hk2 hb2 hs2 hsb hZ
  have HB3:=Lib.hid hb3
  have HKA:=Lib.hid KA
  clear hb3 KA
  cases q with
  | true =>
    refine region_plan (S:=fun w':World=>w'.cell? ⟨sb,0,none⟩=some (.string s.tok)∧w'.cell? ⟨sb,1,none⟩=some (.string s.usr)∧w'.cell? ⟨sb,2,none⟩=some (.string s.dat)∧w'.cell? ⟨sb,3,none⟩=some (.int .u64 (s.exp:Nat)))
      ((0,true)::(1,true)::(2,true)::(3,true)::(4,true)::(5,true)::(6,true)::(7,true)::(8,false)::(9,true)::[])
      (by kernel_rfl) (by kernel_rfl) (by kernel_rfl) (by kernel_rfl) (fun _ _ _ dst _ h=>by cases dst<;>exact h) ⟨z0,z1,z2,z3⟩ (fun hH=>?_)
    clear hH
    (repeat (first | (refine plan_take (v:=?_) (by (simp only [ga1,ga2,ga3];exact rfl)) (by rfl) ?_ ?_;rotate_left;(focus (intro wS hS;(try dsimp only at hS);go_split_ands;go_simp;(try with_reducible rfl)));simp only [Act.put,pu1,pu2,pu3]) | (refine plan_skip (by (simp only [ga1,ga2,ga3];exact rfl)) (by rfl) ?_;simp only [Act.put,pu1,pu2,pu3])))
    (refine plan_solo (by (simp only [ga1,ga2,ga3];exact rfl)) (by rfl) ?_;intro K hK)
    refine oper_store_blk 90 (Operand.tmp 6) (Operand.tmp 19) rfl w.heap.size rfl zero4 (sesArr s) 90 rfl (HKA.out.drew) (by exact Tryz.size90) rfl (by simp [sesArr,Value.oneCell']) ?_
    intro w6 hk6 ho6 hs6
    have y0:w6.cell? ⟨sb,0,none⟩=some (.string s.tok):=(World.cell?_of_block (a:=⟨sb,0,none⟩) (ho6.block sb (World.block_lt_of_cell? _ _ z0) HNE.out)).trans z0
    have y1:w6.cell? ⟨sb,1,none⟩=some (.string s.usr):=(World.cell?_of_block (a:=⟨sb,1,none⟩) (ho6.block sb (World.block_lt_of_cell? _ _ z0) HNE.out)).trans z1
    have y2:w6.cell? ⟨sb,2,none⟩=some (.string s.dat):=(World.cell?_of_block (a:=⟨sb,2,none⟩) (ho6.block sb (World.block_lt_of_cell? _ _ z0) HNE.out)).trans z2
    have y3:w6.cell? ⟨sb,3,none⟩=some (.int .u64 (s.exp:Nat)):=(World.cell?_of_block (a:=⟨sb,3,none⟩) (ho6.block sb (World.block_lt_of_cell? _ _ z0) HNE.out)).trans z3
    refine hK.out _ _ ⟨y0,y1,y2,y3⟩ (fun hH=>?_)
    clear hK K hH
    (try simp only [Act.put,pu1,pu2,pu3])
    (repeat (first | (refine plan_take (v:=?_) (by (simp only [ga1,ga2,ga3];exact rfl)) (by rfl) ?_ ?_;rotate_left;(focus (intro wS hS;(try dsimp only at hS);go_split_ands;go_simp;(try with_reducible rfl)));simp only [Act.put,pu1,pu2,pu3]) | (refine plan_skip (by (simp only [ga1,ga2,ga3];exact rfl)) (by rfl) ?_;simp only [Act.put,pu1,pu2,pu3])))
    refine plan_nil ?_
    have hb6:Below w.heap.size w w6:=HB3.out.drew.trans (ho6.below HB3.out.size (fun j hj=>by rw [hj];exact Nat.le_refl _))
    go_wp2_with fail
    refine body_cell_tmp rfl rfl rfl hk6 Tryz.underlying90 rfl (by exact Tryz.size90) rfl ?_
    exact ⟨by simp [sesV,sesArr],hb6⟩
  | false =>
    refine region_plan (S:=fun w':World=>w'.cell? ⟨sb,0,none⟩=some (.string s.tok)∧w'.cell? ⟨sb,1,none⟩=some (.string s.usr)∧w'.cell? ⟨sb,2,none⟩=some (.string s.dat)∧w'.cell? ⟨sb,3,none⟩=some (.int .u64 (s.exp:Nat)))
      ((0,true)::(1,true)::(2,true)::(3,true)::(4,true)::(5,true)::(6,true)::(7,true)::(8,false)::(9,true)::[])
      (by kernel_rfl) (by kernel_rfl) (by kernel_rfl) (by kernel_rfl) (fun _ _ _ dst _ h=>by cases dst<;>exact h) ⟨z0,z1,z2,z3⟩ (fun hH=>?_)
    clear hH
    (repeat (first | (refine plan_take (v:=?_) (by (simp only [ga1,ga2,ga3];exact rfl)) (by rfl) ?_ ?_;rotate_left;(focus (intro wS hS;(try dsimp only at hS);go_split_ands;go_simp;(try with_reducible rfl)));simp only [Act.put,pu1,pu2,pu3]) | (refine plan_skip (by (simp only [ga1,ga2,ga3];exact rfl)) (by rfl) ?_;simp only [Act.put,pu1,pu2,pu3])))
    (refine plan_solo (by (simp only [ga1,ga2,ga3];exact rfl)) (by rfl) ?_;intro K hK)
    refine oper_store_blk 90 (Operand.tmp 6) (Operand.tmp 19) rfl w.heap.size rfl zero4 (sesArr s) 90 rfl (HKA.out.drew) (by exact Tryz.size90) rfl (by simp [sesArr,Value.oneCell']) ?_
    intro w6 hk6 ho6 hs6
    have y0:w6.cell? ⟨sb,0,none⟩=some (.string s.tok):=(World.cell?_of_block (a:=⟨sb,0,none⟩) (ho6.block sb (World.block_lt_of_cell? _ _ z0) HNE.out)).trans z0
    have y1:w6.cell? ⟨sb,1,none⟩=some (.string s.usr):=(World.cell?_of_block (a:=⟨sb,1,none⟩) (ho6.block sb (World.block_lt_of_cell? _ _ z0) HNE.out)).trans z1
    have y2:w6.cell? ⟨sb,2,none⟩=some (.string s.dat):=(World.cell?_of_block (a:=⟨sb,2,none⟩) (ho6.block sb (World.block_lt_of_cell? _ _ z0) HNE.out)).trans z2
    have y3:w6.cell? ⟨sb,3,none⟩=some (.int .u64 (s.exp:Nat)):=(World.cell?_of_block (a:=⟨sb,3,none⟩) (ho6.block sb (World.block_lt_of_cell? _ _ z0) HNE.out)).trans z3
    refine hK.out _ _ ⟨y0,y1,y2,y3⟩ (fun hH=>?_)
    clear hK K hH
    (try simp only [Act.put,pu1,pu2,pu3])
    (repeat (first | (refine plan_take (v:=?_) (by (simp only [ga1,ga2,ga3];exact rfl)) (by rfl) ?_ ?_;rotate_left;(focus (intro wS hS;(try dsimp only at hS);go_split_ands;go_simp;(try with_reducible rfl)));simp only [Act.put,pu1,pu2,pu3]) | (refine plan_skip (by (simp only [ga1,ga2,ga3];exact rfl)) (by rfl) ?_;simp only [Act.put,pu1,pu2,pu3])))
    refine plan_nil ?_
    have hb6:Below w.heap.size w w6:=HB3.out.drew.trans (ho6.below HB3.out.size (fun j hj=>by rw [hj];exact Nat.le_refl _))
    go_wp2_with fail
    refine body_cell_tmp rfl rfl rfl hk6 Tryz.underlying90 rfl (by exact Tryz.size90) rfl ?_
    exact ⟨by simp [sesV,sesArr],hb6⟩
end Go.Proofs.YtmdgeknnhckgfaaGreatDoor
namespace Go.Proofs.YtmdgeknnhckgfaaGreatDoor
open Go Go.RowKit
theorem refuse_look {w:World} {b:Nat} (g:IMap w b ([]++[((400:Int),Value.string ⟨#[98,97,100]⟩)]++[(404,.string ⟨#[109,105,115,115,105,110,103]⟩)]++[(429,.string ⟨#[113,117,111,116,97]⟩)])) (st:Int):(Instr.lookup 174 (.map (some b)) (.int .i64 st) false).run Tryz.prog w=.ok (.string (refN st)) w:=by
  rw [g.look Tryz.underlying174 Tryz.underlying3 (z:=.string ⟨#[]⟩) (fun w=>Tryz.zeroValue9 w) st]
  congr 1
  simp only [List.nil_append,List.cons_append,findL]
  unfold refN
  by_cases h1:st=400
  · simp [h1]
  · by_cases h2:st=404
    · simp [h2]
    · by_cases h3:st=429
      · simp [h3]
      · simp [h1,h2,h3]
set_option maxRecDepth 100000 in
theorem mod_refuse (st:Int) (w:World) :
    Calls Tryz.prog 73 #[.int .i64 st] w fun e w'=>e=.returned (.agg (ansArr { Ans.zero with status:=st,word:=refN st }))∧Below w.heap.size w w':=by
  have hLK:=fun (W:World) (b:Nat) (g:IMap W b ([]++[((400:Int),Value.string ⟨#[98,97,100]⟩)]++[(404,.string ⟨#[109,105,115,115,105,110,103]⟩)]++[(429,.string ⟨#[113,117,111,116,97]⟩)]))=>refuse_look g st
  have HLK:=Lib.hid hLK
  clear hLK
  obtain ⟨wd,hwd⟩:∃ x,refN st=x:=⟨_,rfl⟩
  rw [hwd] at HLK ⊢
  clear hwd
  have hmm:=@run_makeMap Tryz.prog
  go_enter Tryz.func73,Tryz.ntmps73
  go_upto_region 1 with fail
  have kA:Blk (w.alloc (.cells zero14 35)) w.heap.size zero14 35:=Blk.new w zero14 35
  have hb0:Below w.heap.size w (w.alloc (.cells zero14 35)):=(Below.refl _ w).alloc (Nat.le_refl _) _
  have hs0:(w.alloc (.cells zero14 35)).heap.size=w.heap.size+1:=by rw [World.size_alloc]
  change Code.wp _ _ _ _ (w.alloc (.cells zero14 35))
  generalize w.alloc (.cells zero14 35)=W0 at kA hb0 hs0 ⊢
  have HA:=Lib.hid kA
  have HB0:=Lib.hid hb0
  have HS0:=Lib.hid hs0
  have hne:=Lib.hid (show ¬ (w.heap.size=W0.heap.size) by omega)
  clear kA hb0 hs0
  go_wp2_with (first
    | (refine wpList_insert_I rfl _ _ _ rfl Tryz.underlying174 Tryz.underlying3 rfl (IMap.made W0) 400 rfl rfl (.string ⟨#[98,97,100]⟩) rfl ?_;intro w1 g1 m1)
    | (refine wpList_insert_I rfl _ _ _ rfl Tryz.underlying174 Tryz.underlying3 rfl g1 404 rfl rfl (.string ⟨#[109,105,115,115,105,110,103]⟩) rfl ?_;intro w2 g2 m2)
    | (refine wpList_insert_I rfl _ _ _ rfl Tryz.underlying174 Tryz.underlying3 rfl g2 429 rfl rfl (.string ⟨#[113,117,111,116,97]⟩) rfl ?_;intro w3 g3 m3;have hl:=HLK.out _ _ g3;have kA3:=(((HA.out.alloc (.map #[] 0)).only (turned_only m1) hne.out).only (turned_only m2) hne.out).only (turned_only m3) hne.out;have HK3:=Lib.hid kA3;clear kA3)
    | (refine wpList_store_blk rfl 35 (Operand.tmp 2) (Operand.tmp 10) rfl w.heap.size rfl zero14 (ansArr { Ans.zero with status:=st,word:=wd }) 35 rfl HK3.out (by exact Tryz.size35) rfl (by simp [ansArr,Ans.zero,Value.oneCell']) ?_;intro w11 hk11 ho11 hs11))
  refine body_cell rfl rfl rfl hk11 Tryz.underlying35 rfl (by exact Tryz.size35) ?_
  refine ⟨rfl,?_⟩
  have hz:=HS0.out
  have b1:Below w.heap.size w (W0.alloc (.map #[] 0)):=HB0.out.alloc HB0.out.size _
  have b2:=b1.trans (turned_below m1 (B:=w.heap.size) (by omega))
  have b3:=b2.trans (turned_below m2 (B:=w.heap.size) (by omega))
  have b4:=b3.trans (turned_below m3 (B:=w.heap.size) (by omega))
  exact b4.trans (ho11.below b4.size (fun j hj=>by rw [hj];exact Nat.le_refl _))
end Go.Proofs.YtmdgeknnhckgfaaGreatDoor
namespace Go.Proofs.YtmdgeknnhckgfaaGreatDoor
open Go Go.RowKit
theorem hitB_tok (tok:ByteArray) (now:Nat) (s:Ses):hitB tok now s=(decide (s.tok=tok) && decide (now<s.exp)):=by
  unfold hitB
  by_cases h:s.tok=tok
  · rw [str_beq.2 h];simp [h]
  · rw [str_beq_false.2 h];simp [h]
theorem find_plain:∀ {S:List Ses},Sorted S→∀ (tok:ByteArray) (now:Nat),(findN S tok now=none∧(hasS S tok && decide (now<(getS S tok).exp))=false)∨(findN S tok now=some (getS S tok)∧(hasS S tok && decide (now<(getS S tok).exp))=true)
  | [],_,tok,now=>.inl ⟨rfl,rfl⟩
  | x::S,hs,tok,now=>by
    have hs':Sorted S:=(List.pairwise_cons.1 hs).2
    have hlt:=(List.pairwise_cons.1 hs).1
    by_cases hx:x.tok=tok
    · have h1:hasS (x::S) tok=true:=by unfold hasS;simp [hx]
      have h2:getS (x::S) tok=x:=by unfold getS;simp [hx]
      rw [h1,h2]
      by_cases he:now<x.exp
      · right
        refine ⟨?_,by simp [he]⟩
        unfold findN
        rw [List.find?_cons,hitB_tok]
        simp [hx,he]
      · left
        refine ⟨?_,by simp [he]⟩
        unfold findN
        rw [List.find?_cons,hitB_tok]
        simp only [hx,he,decide_true,decide_false,Bool.and_false]
        rw [List.find?_eq_none]
        intro y hy
        rw [hitB_tok]
        have:¬ y.tok=tok:=fun e=>(hlt y hy).ne (by rw [hx,e])
        simp [this]
    · have h1:hasS (x::S) tok=hasS S tok:=by unfold hasS;simp [hx]
      have h2:getS (x::S) tok=getS S tok:=by unfold getS;simp [hx]
      have h3:findN (x::S) tok now=findN S tok now:=by
        unfold findN
        rw [List.find?_cons,hitB_tok]
        simp [hx]
      rw [h1,h2,h3]
      exact find_plain hs' tok now
def AnM (w:World) (a:An) (v:Value):Prop:=∃ tv ev,v=anV a tv ev∧Reads w tv a.toks.length 1 (strArgs a.toks)∧Reads w ev a.ents.length 4 (entArgs a.ents)∧(∀ k,tv.ownBlock=some k→Of w k 9)∧∀ k,ev.ownBlock=some k→Of w k 103
def MDo (w:World) (p N:Nat) (L:List Hs) (d:MD) (i:Nat) (r:An×List Hs) (e:Ending) (w':World):Prop :=
  ∃ v ev',e=.returned v∧MIs w' p (N+1) r.2 { d with ev:=setAt d.ev i ev' }∧Only (fun k=>k=d.hb i∨k=d.mb i) w w'∧AnM w' r.1 v
variable {w w':World} {p N:Nat} {L:List Hs} {d:MD}
theorem AnM.plain (w:World) (a:An) (h1:a.toks=[]) (h2:a.ents=[]):AnM w a (anV a (.slice none 0 0) (.slice none 0 0)):=by
  refine ⟨_,_,rfl,?_,?_,(fun k h=>by cases h),(fun k h=>by cases h)⟩
  · rw [h1];exact (ReadsP.nil w (fun _=>False) 1).1
  · rw [h2];exact (ReadsP.nil w (fun _=>False) 4).1
theorem setAt_id {α:Type} (f:Nat→α) (i:Nat):setAt f i (f i)=f:=by
  funext j
  unfold setAt
  split
  · rename_i h;rw [h]
  · rfl
theorem MDo.same (r:MIs w p N L d) (i:Nat) {a:An} {v:Value} (hb:Below w.heap.size w w') (h:AnM w' a v):MDo w p N L d i (a,L) (.returned v) w':=by
  refine ⟨v,d.ev i,rfl,?_,Only.of_below hb,h⟩
  rw [setAt_id]
  exact (r.kept hb).mono (Nat.le_succ _)
set_option maxRecDepth 100000 in
set_option maxHeartbeats 4000000 in
theorem mod_get (r:MIs w p N L d) {i:Nat} {h:Hs} (hi:L[i]?=some h) (hs:Sorted h.ses) (c:Cl) (hc:c.Ok) (now:Nat) :
    Calls Tryz.prog 95 #[.pointer (some ⟨d.hb i,0,none⟩),clV c,.int .u64 (now:Nat)] w (MDo w p N L d i ((getN h c now).1,L.set i (getN h c now).2)):=by
  have HR:=Lib.hid r
  have t1:=two_blocks w c.kind c.ten c.tok c.usr c.dat c.ttl c.frm c.draw
  have bx0:Box w _ c.kind c.ten c.tok c.usr c.dat c.ttl c.frm c.draw:=⟨t1.1,t1.2.1,t1.2.2⟩
  have B0:=Lib.hid bx0
  have HFd:=Lib.hid (mod_find (r.kept bx0.below) hi c.tok hc.tok now)
  have hfp:=find_plain hs c.tok now
  have hset:L.set i h=L:=set_self hi
  obtain ⟨s,hgs⟩:∃ s,getS h.ses c.tok=s:=⟨_,rfl⟩
  rw [hgs] at HFd hfp
  unfold clV
  clear t1 bx0 r
  rcases hfp with ⟨h1,h2⟩ | ⟨h1,h2⟩
  · have hF:=Lib.hid (show ((getN h c now).1,L.set i (getN h c now).2)=(badA 404,L) by unfold getN;rw [h1];simp only;rw [hset])
    rw [h2] at HFd
    clear h1 h2 hgs hset
    go_enter Tryz.func95,Tryz.ntmps95
    go_wp2_with fail
    refine HFd.out.mono ?_
    rintro e w1 ⟨rfl,hb1⟩
    have BX:=Lib.hid (B0.out.kept hb1)
    clear hb1 B0 HFd
    unfold sesV
    go_wp2_with (refine wpList_store_new rfl 90 (Operand.tmp 7) (Operand.tmp 15) rfl rfl (sesArr s) rfl (by exact Tryz.size90) rfl (by simp [sesArr,Value.oneCell']) ?_;intro w2 hk2 hb2 hs2;have BX2:=Lib.hid (BX.out.kept hb2);clear hk2 hb2 hs2 BX)
    refine (mod_refuse 404 _).mono ?_
    rintro e w9 ⟨rfl,hb9⟩
    have bx9:=BX2.out.kept hb9
    go_wp2_with (refine wpList_store_blk rfl 35 (Operand.tmp 6) (Operand.tmp 19) rfl (w.heap.size+1) rfl zero14 _ 35 rfl bx9.ans (by exact Tryz.size35) rfl (by simp [ansArr,Ans.zero,Value.oneCell']) ?_;intro w10 hk10 ho10 hs10)
    refine body_cell rfl rfl rfl hk10 Tryz.underlying35 rfl (by exact Tryz.size35) ?_
    have hbx:Below w.heap.size w w10:=bx9.below.trans (ho10.below bx9.below.size (fun k hk=>by rw [hk];exact Nat.le_succ _))
    rw [anV_bad 404 (refN 404) rfl,hF.out]
    exact MDo.same HR.out i hbx (AnM.plain _ _ rfl rfl)
  · have hF:=Lib.hid (show ((getN h c now).1,L.set i (getN h c now).2)=({ status:=200,usr:=s.usr,dat:=s.dat,exp:=s.exp },L) by unfold getN;rw [h1];simp only;rw [hset])
    rw [h2] at HFd
    clear h1 h2 hgs hset
    go_enter Tryz.func95,Tryz.ntmps95
    go_wp2_with fail
    refine HFd.out.mono ?_
    rintro e w1 ⟨rfl,hb1⟩
    have BX:=Lib.hid (B0.out.kept hb1)
    clear hb1 B0 HFd
    unfold sesV
    go_wp2_with (first
      | (refine wpList_store_new rfl 90 (Operand.tmp 7) (Operand.tmp 15) rfl rfl (sesArr s) rfl (by exact Tryz.size90) rfl (by simp [sesArr,Value.oneCell']) ?_;intro w2 hk2 hb2 hs2;have BX2:=Lib.hid (BX.out.kept hb2);have z1:=hk2.cell 1 (.string s.usr) rfl;have z2:=hk2.cell 2 (.string s.dat) rfl;have z3:=hk2.cell 3 (.int .u64 (s.exp:Nat)) rfl;clear hk2 hb2 hs2 BX)
      | (refine wpList_store_blk rfl 35 (Operand.tmp 6) (Operand.tmp 26) rfl (w.heap.size+1) rfl zero14 (ansArr { Ans.zero with status:=200,user:=s.usr,data:=s.dat,expires:=(s.exp:Nat) }) 35 rfl BX2.out.ans (by exact Tryz.size35) rfl (by simp [ansArr,Ans.zero,Value.oneCell']) ?_;intro w10 hk10 ho10 hs10))
    refine body_cell rfl rfl rfl hk10 Tryz.underlying35 rfl (by exact Tryz.size35) ?_
    have hbx:Below w.heap.size w w10:=BX2.out.below.trans (ho10.below BX2.out.below.size (fun k hk=>by rw [hk];exact Nat.le_succ _))
    rw [hF.out]
    exact MDo.same HR.out i hbx (AnM.plain _ { status:=200,usr:=s.usr,dat:=s.dat,exp:=s.exp } rfl rfl)
end Go.Proofs.YtmdgeknnhckgfaaGreatDoor
