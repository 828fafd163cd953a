/-
  Parts of the proof of the law LinModel: TxtX, CutZ, GMap, IMap, IMapOk, LMap, TenM, TenP.
-/
import Derived.Test.YtmdgeknnhckgfaaGreatDoorS00
import Derived.Test.YtmdgeknnhckgfaaGreatDoorS08
import Derived.Deep.CutBlock
import Derived.Deep.Onto
import Derived.Laws.OwnMore
import Derived.Maps.OwnSet
import Derived.WideMake
import Derived.Lib.ConvBytes
import Derived.Carry
set_option linter.unusedSimpArgs false
set_option linter.unusedVariables false
namespace Go.Proofs.YtmdgeknnhckgfaaGreatDoor
open Go Go.RowKit
def RNam (w:World) (l:List Nat) (iv:Value) (W:World):Prop:=∃ k:Nat,k≤l.length∧iv=.int .i64 (k:Nat)∧(l.take k).any hidN=false∧Below w.heap.size w W
theorem any_hit {l:List Nat} {k r:Nat} (h:l[k]?=some r) (hr:hidN r=true):l.any hidN=true:=List.any_eq_true.2 ⟨r,List.mem_of_getElem? h,hr⟩
theorem any_step {l:List Nat} {k r:Nat} (h:l[k]?=some r) (ha:(l.take k).any hidN=false) (hr:hidN r=false):(l.take (k+1)).any hidN=false:=by
  rw [take_snoc h,List.any_append,ha]
  simp [hr]
theorem hid_cases (r:Nat):(hidN r=true∧(r<32∨(127≤r∧r≤159)∨r=8232∨r=8233∨r=65279))∨(hidN r=false∧((32≤r∧r<127)∨159<r)∧((r:Int) == 8232)=false∧((r:Int) == 8233)=false∧((r:Int) == 65279)=false):=by
  by_cases h:hidN r=true
  · left
    refine ⟨h,?_⟩
    unfold hidN at h
    simp at h
    omega
  · right
    rw [Bool.not_eq_true] at h
    refine ⟨h,?_⟩
    unfold hidN at h
    simp at h
    refine ⟨by omega,?_,?_,?_⟩<;>simp<;>omega
theorem nameN_bad {s:ByteArray} (h:¬ (1≤s.size∧s.size≤64∧validN s=true)):nameN s=false:=by
  unfold nameN
  by_cases h1:1≤s.size
  · by_cases h2:s.size≤64
    · have h3:validN s=false:=by
        rw [←Bool.not_eq_true];intro h3;exact h ⟨h1,h2,h3⟩
      rw [h3];simp
    · rw [decide_eq_false h2];simp
  · rw [decide_eq_false h1];simp
theorem nameN_good {s:ByteArray} (h1:1≤s.size) (h2:s.size≤64) (h3:validN s=true):nameN s=!(runesN s).any hidN:=by
  unfold nameN
  rw [decide_eq_true h1,decide_eq_true h2,h3]
  rfl
set_option maxRecDepth 100000 in
set_option maxHeartbeats 4000000 in
theorem ref_Name (s:ByteArray) (hs:s.size≤maxLen) (w:World):Calls Tryz.prog 37 #[.string s] w fun e w'=>e=.returned (.bool (nameN s))∧Below w.heap.size w w':=by
  have HV:=Lib.hid (ref_Valid s hs)
  by_cases h1:1≤s.size
  · by_cases h2:s.size≤64
    · have h1':¬ (s.size:Int)<1:=by omega
      have h2':¬ (64:Int)<(s.size:Int):=by omega
      by_cases h3:validN s=true
      · rw [h3] at HV
        have hg:=Lib.hid (nameN_good h1 h2 h3)
        have HR:=Lib.hid (ref_Runes s (by omega))
        obtain ⟨l,hl⟩:∃ l,runesN s=l:=⟨_,rfl⟩
        have hll:l.length≤64:=by have:=runeL_len s s.size 0;rw [←hl];unfold runesN;omega
        have hle:∀ r∈l,r≤1114111:=by rw [←hl];exact runeL_le s s.size 0
        rw [hl] at hg HR
        have HLE:=Lib.hid hle
        clear hl h3 hs hle
        go_enter Tryz.func37,Tryz.ntmps37
        go_wp2_with fail
        refine (HV.out _).mono ?_
        rintro e w1 ⟨rfl,hb1⟩
        go_wp2_with fail
        refine (HR.out _).mono ?_
        rintro e w2 ⟨v,rfl,hown,hb2⟩
        have hb3:Below w.heap.size w w2:=hb1.trans (hb2.mono hb1.size)
        have hrd:=Reads.of_own hown
        obtain ⟨A,cap,rfl⟩:=hrd.form
        have HRD:=Lib.hid hrd
        clear hown hb1 hb2 hrd HR HV
        go_wp2_with fail
        go_loopw [4] (RNam w2 l) (fun i _=>l.length - (intOf i).toNat)
        case atStart=>exact ⟨0,Nat.zero_le _,rfl,rfl,Below.refl _ _⟩
        case round =>
          obtain ⟨k,hk,rfl,hany,hb⟩:=hrel
          by_cases hlt:k<l.length
          · obtain ⟨r,hr⟩:∃ r,l[k]?=some r:=⟨_,List.getElem?_eq_getElem hlt⟩
            obtain ⟨b,o,rfl,hbl,hcell⟩:=(HRD.out.kept hb).val_at (k:=k) (v:=.int .i32 (r:Int)) (by simp [rv,hr])
            have hr9:=HLE.out r (List.mem_of_getElem? hr)
            have w64:wrap64 (r:Int)=(r:Int):=by unfold wrap64;omega
            have hbw:=hb3.trans (hb.mono hb3.size)
            rcases hid_cases r with ⟨hh,hcs⟩ | ⟨hh,hcs,n1,n2,n3⟩
            · have hF:=Lib.hid (show nameN s=false by rw [hg.out,any_hit hr hh];rfl)
              clear hr hany hh
              rcases hcs with hcs | ⟨c1,c2⟩ | rfl | rfl | rfl
              · skip
                go_wp2_with fail
                go_ret
                exact ⟨by rw [hF.out];rfl,hbw⟩
              · have c3:¬ (r:Int)<32:=by omega
                go_wp2_with fail
                go_ret
                exact ⟨by rw [hF.out];rfl,hbw⟩
              · skip
                go_wp2_with fail
                go_ret
                exact ⟨by rw [hF.out];rfl,hbw⟩
              · skip
                go_wp2_with fail
                go_ret
                exact ⟨by rw [hF.out];rfl,hbw⟩
              · skip
                go_wp2_with fail
                go_ret
                exact ⟨by rw [hF.out];rfl,hbw⟩
            · have hST:=Lib.hid (any_step hr hany hh)
              clear hr hany hh
              rcases hcs with ⟨c1,c2⟩ | c1
              · have c3:¬ (r:Int)<32:=by omega
                have c4:¬ (127:Int)≤(r:Int):=by omega
                go_wp2_with fail
                go_roundw
                case rel=>exact ⟨k+1,hlt,rfl,hST.out,hb⟩
                case measure=>simp [intOf];omega
              · have c3:¬ (r:Int)<32:=by omega
                have c4:¬ (r:Int)≤159:=by omega
                go_wp2_with fail
                go_roundw
                case rel=>exact ⟨k+1,hlt,rfl,hST.out,hb⟩
                case measure=>simp [intOf];omega
          · have hK:k=l.length:=by omega
            rw [hK,List.take_length] at hany
            have hF:=Lib.hid (show nameN s=true by rw [hg.out,hany];rfl)
            have hb:=hb3.trans (hb.mono hb3.size)
            clear hany hK
            go_wp2_with fail
            go_ret
            exact ⟨by rw [hF.out];rfl,hb⟩
      · rw [Bool.not_eq_true] at h3
        rw [h3] at HV
        have hF:=Lib.hid (nameN_bad (s:=s) (by rw [h3];simp))
        clear h3
        go_enter Tryz.func37,Tryz.ntmps37
        go_wp2_with fail
        refine (HV.out _).mono ?_
        rintro e w1 ⟨rfl,hb⟩
        go_wp2_with fail
        go_ret
        exact ⟨by rw [hF.out];rfl,hb⟩
    · have h2':(64:Int)<(s.size:Int):=by omega
      have hF:=Lib.hid (nameN_bad (s:=s) (by omega))
      have hb:=Below.refl w.heap.size w
      go_enter Tryz.func37,Tryz.ntmps37
      go_wp2_with fail
      go_ret
      exact ⟨by rw [hF.out];rfl,hb⟩
  · have h1':(s.size:Int)<1:=by omega
    have hF:=Lib.hid (nameN_bad (s:=s) (by omega))
    have hb:=Below.refl w.heap.size w
    go_enter Tryz.func37,Tryz.ntmps37
    go_wp2_with fail
    go_ret
    exact ⟨by rw [hF.out];rfl,hb⟩
theorem own_cap {w:World} {base e size n m cap:Nat} {A:Option Addr} {xs:List Value} (h:w.ownsRow base e size (.slice A m cap) n xs):n≤cap:=by
  rcases h.2 with ⟨h1,h2⟩ | ⟨g,cap',cur,h1,_,_,hc,_⟩
  · omega
  · cases h1;exact hc
theorem src_sl {w:World} {base e size n cap:Nat} {A:Option Addr} {xs:List Value} (h:w.ownsRow base e size (.slice A n cap) n xs) {K T:Nat} (hK:K≤T) (hT:T≤n) :
    (sliced A K T cap size=.slice none 0 0∧T - K=0)∨∃ ad c,sliced A K T cap size=.slice (some ad) (T - K) c∧∀ (j:Nat) (u:Value),((xs.take (T*size)).drop (K*size))[j]?=some u→w.cell? (ad.add j)=some u:=by
  rcases h.2 with ⟨h1,h2⟩ | ⟨g,cap',cur,h1,_,_,hc,_⟩
  · cases h1
    refine .inl ⟨?_,by omega⟩
    have:T=0:=by omega
    subst this
    have:K=0:=by omega
    subst this
    simp [sliced]
  · cases h1
    by_cases hcK:cap=K
    · refine .inr ⟨⟨g,0,none⟩,cap - K,?_,fun j u hj=>?_⟩
      · simp [sliced,hcK]
      · have hlt:=(List.getElem?_eq_some_iff.1 hj).1
        rw [List.length_drop,List.length_take] at hlt
        have:T*size≤K*size:=Nat.mul_le_mul_right _ (by omega)
        omega
    · refine .inr ⟨(⟨g,0,none⟩:Addr).add (K*size),cap - K,?_,fun j u hj=>?_⟩
      · simp [sliced,hcK]
      · rw [List.getElem?_drop,List.getElem?_take] at hj
        split at hj
        · have:=h.cells rfl _ u hj
          rw [add_at rfl] at this
          rw [show (⟨g,0,none⟩:Addr).add (K*size)=⟨g,0+K*size,none⟩ from add_at rfl _,add_at rfl]
          simpa [Nat.add_assoc] using this
        · cases hj
def cutOf (a:Option Addr) (l h m s:Nat):Value:=sliced a l h m s
theorem cut_to {t:TypeId} (a:Option Addr) (len cap K n:Nat) (ht:Tryz.prog.underlying t=some (.slice (Tryz.prog.elem t))) (hs:∀ w,(sizeOf (Tryz.prog.elem t)).run Tryz.prog w=.ok n w) (h:K≤cap) (w:World) :
    (Instr.sliceAt t (.slice a len cap) none (some (.int .i64 K)) none).run Tryz.prog w=.ok (cutOf a 0 K cap n) w:=by
  rw [run_sliceAt_slice (P:=Tryz.prog) w t _ _ _ _ ht,run_slice_h w t a len cap ht .i64 K (by omega) (by omega),hs]
  rfl
theorem cut_from {t:TypeId} (a:Option Addr) (len cap K n:Nat) (ht:Tryz.prog.underlying t=some (.slice (Tryz.prog.elem t))) (hs:∀ w,(sizeOf (Tryz.prog.elem t)).run Tryz.prog w=.ok n w) (h:K≤len) (w:World) :
    (Instr.sliceAt t (.slice a len cap) (some (.int .i64 K)) none none).run Tryz.prog w=.ok (cutOf a K len cap n) w:=by
  rw [run_sliceAt_slice (P:=Tryz.prog) w t _ _ _ _ ht,run_slice_l w t a len cap ht .i64 K (by omega) (by omega),hs]
  rfl
theorem src_to {w:World} {base e size n cap:Nat} {A:Option Addr} {xs:List Value} (h:w.ownsRow base e size (.slice A n cap) n xs) {T:Nat} (hT:T≤n) :
    (cutOf A 0 T cap size=.slice none 0 0∧T=0)∨∃ ad c,cutOf A 0 T cap size=.slice (some ad) T c∧∀ (j:Nat) (u:Value),(xs.take (T*size))[j]?=some u→w.cell? (ad.add j)=some u:=by
  have:=src_sl h (Nat.zero_le T) hT
  simpa [cutOf] using this
theorem src_from {w:World} {base e size n cap:Nat} {A:Option Addr} {xs:List Value} (h:w.ownsRow base e size (.slice A n cap) n xs) {K:Nat} (hK:K≤n) :
    (cutOf A K n cap size=.slice none 0 0∧n - K=0)∨∃ ad c,cutOf A K n cap size=.slice (some ad) (n - K) c∧∀ (j:Nat) (u:Value),(xs.drop (K*size))[j]?=some u→w.cell? (ad.add j)=some u:=by
  have:=src_sl h hK (Nat.le_refl n)
  unfold cutOf
  rwa [List.take_of_length_le (by rw [h.1];exact Nat.le_refl _)] at this
end Go.Proofs.YtmdgeknnhckgfaaGreatDoor
namespace Go.Proofs.YtmdgeknnhckgfaaGreatDoor
open Go Go.RowKit
open Go.Maps (Keyed IsMap)
structure MapTy (P:Program) (t k e:TypeId) {α β:Type} (kv:α→Value) (kl:α→Lit) (okK:α→Prop) (ev:β→Value) (el:β→DataW Unit) (R:Value→Option (DataW Unit×List MemPlace)) (z:β):Prop where
  K:Keyed P k
  ht:P.underlying t=some (.map k e)
  hz:∀ w,(zeroValue e).run P w=.ok (ev z) w
  key:∀ x,okK x→keyOf P k (kv x)=some (kl x)
  lit:∀ x,WideAt.IsKeyLit (kl x)
  inj:∀ x y,kl x=kl y→x=y
  elem:∀ y,R (ev y)=some (el y,[])
  inv:∀ v y ps,R v=some (el y,ps)→v=ev y
section
variable {P:Program} {t k e:TypeId} {α β:Type} {kv:α→Value} {kl:α→Lit} {okK:α→Prop} {ev:β→Value} {el:β→DataW Unit} {R:Value→Option (DataW Unit×List MemPlace)} {z:β}
def GMap (P:Program) (k:TypeId) (kl:α→Lit) (el:β→DataW Unit) (R:Value→Option (DataW Unit×List MemPlace)) (z:β) (w:World) (b n:Nat) (h:α→Bool) (f:α→β):Prop :=
  ∃ D:DataW Unit,w.ownsMap P k R b n D∧(∀ x,D.atKey (kl x) (el z)=el (f x))∧∀ x,Maps.has D (kl x)=h x
theorem GMap.made (w:World):GMap P k kl el R z (w.alloc (.map #[] 0)) w.heap.size 0 (fun _:α=>false) (fun _=>z) :=
  ⟨.map [],World.ownsMap_made w P k R,fun x=>rfl,fun x=>rfl⟩
theorem GMap.look {w:World} {b n:Nat} {h:α→Bool} {f:α→β} (T:MapTy P t k e kv kl okK ev el R z) (g:GMap P k kl el R z w b n h f) (x:α) (hx:okK x) :
    (Instr.lookup t (.map (some b)) (kv x) false).run P w=.ok (ev (f x)) w:=by
  obtain ⟨D,h1,h2,h3⟩:=g
  obtain ⟨v,ps,hrun,hv⟩:=h1.lookup T.K T.ht (T.hz w) (T.elem z) (T.key x hx)
  rw [h2 x] at hv
  rw [hrun,T.inv v _ ps hv]
theorem GMap.look_ok {w:World} {b n:Nat} {h:α→Bool} {f:α→β} (T:MapTy P t k e kv kl okK ev el R z) (g:GMap P k kl el R z w b n h f) (x:α) (hx:okK x) :
    (Instr.lookup t (.map (some b)) (kv x) true).run P w=.ok (.tuple #[ev (f x),.bool (h x)]) w:=by
  obtain ⟨D,h1,h2,h3⟩:=g
  obtain ⟨v,ps,hrun,hv⟩:=h1.look_ok T.K T.ht (T.hz w) (T.elem z) (T.key x hx)
  rw [h2 x] at hv
  rw [hrun,T.inv v _ ps hv,h3 x]
theorem GMap.update [DecidableEq α] {w:World} {b n:Nat} {h:α→Bool} {f:α→β} (T:MapTy P t k e kv kl okK ev el R z) (g:GMap P k kl el R z w b n h f) (hn:n<maxLen) (x:α) (hx:okK x) (y:β) :
    ∃ w',(Instr.mapUpdate t (.map (some b)) (kv x) (ev y)).run P w=.ok () w'∧GMap P k kl el R z w' b (n+1) (fun x'=>if x'=x then true else h x') (fun x'=>if x'=x then y else f x')∧w.mapTurned w' b:=by
  obtain ⟨D,h1,h2,h3⟩:=g
  obtain ⟨w',hrun,r1,r2⟩:=h1.store T.K T.ht hn (T.key x hx) (T.elem y)
  refine ⟨w',hrun,⟨_,r1,?_,?_⟩,r2⟩
  · intro x'
    dsimp only
    by_cases hq:x'=x
    · subst hq
      rw [if_pos rfl]
      exact Maps.atKey_put_same h1.isMap (T.lit _) _ _
    · rw [if_neg hq,Maps.atKey_put_other (fun he=>hq (T.inj _ _ he))]
      exact h2 x'
  · intro x'
    dsimp only
    by_cases hq:x'=x
    · subst hq
      rw [if_pos rfl]
      exact Maps.has_put_same h1.isMap (T.lit _) _
    · rw [if_neg hq,Maps.has_put_other (fun he=>hq (T.inj _ _ he))]
      exact h3 x'
theorem turned_below {w w':World} {b B:Nat} (h:w.mapTurned w' b) (hB:B≤b):Below B w w':=by
  have g:=h.grown
  exact ⟨g.os,g.tape,g.output,g.size,fun i hi=>g.block i (by obtain ⟨es,c,es',c',hb,_⟩:=h;have:=(Array.getElem?_eq_some_iff.1 hb).1;omega) (by simp;omega)⟩
theorem turned_only {w w':World} {b:Nat} (h:w.mapTurned w' b):Only (fun j=>j=b) w w':=by
  have g:=h.grown
  exact ⟨g.os,g.tape,g.output,g.size,fun i hi hn=>g.block i hi (by simpa using hn)⟩
theorem GMap.lt {w:World} {b n:Nat} {h:α→Bool} {f:α→β} (g:GMap P k kl el R z w b n h f):b<w.heap.size:=by
  obtain ⟨D,h1,_⟩:=g
  exact h1.lt
theorem GMap.block {w w':World} {b n:Nat} {h:α→Bool} {f:α→β} (g:GMap P k kl el R z w b n h f) (e:w'.heap[b]?=w.heap[b]?):GMap P k kl el R z w' b n h f:=by
  obtain ⟨D,⟨es,clock,hb,r⟩,h2,h3⟩:=g
  exact ⟨D,⟨es,clock,e.trans hb,r⟩,h2,h3⟩
theorem GMap.kept {w w':World} {b n:Nat} {h:α→Bool} {f:α→β} (g:GMap P k kl el R z w b n h f) (hb:Below w.heap.size w w'):GMap P k kl el R z w' b n h f:=g.block (hb.block b g.lt)
theorem GMap.alloc {w:World} {b n:Nat} {h:α→Bool} {f:α→β} (g:GMap P k kl el R z w b n h f) (o:Obj):GMap P k kl el R z (w.alloc o) b n h f:=g.block (Below.heap_alloc w o b g.lt)
theorem GMap.drew {w:World} {b n:Nat} {h:α→Bool} {f:α→β} (g:GMap P k kl el R z w b n h f):GMap P k kl el R z w.drew b n h f:=g.block rfl
theorem wpList_mapUpdate_G [DecidableEq α] {w:World} {ops:Array Oper} {rest:List Oper} {o:Oper} {a:Act} {Q:Exit→Act→World→Prop} {b n:Nat} {h:α→Bool} {f:α→β} (T:MapTy P t k e kv kl okK ev el R z)
    (hg:o.guard=none) (m x v:Operand) (hop:o.op=Op.mapUpdate t m x v) (hm:a.eval m=.map (some b)) (g:GMap P k kl el R z w b n h f) (hn:n<maxLen) (x0:α) (hx0:okK x0) (y:β) (hx:a.eval x=kv x0) (hv:a.eval v=ev y)
    (hK:∀ w',GMap P k kl el R z w' b (n+1) (fun x'=>if x'=x0 then true else h x') (fun x'=>if x'=x0 then y else f x')→w.mapTurned w' b→wpList P ops Q rest (a.put o.dst undef) w'):wpList P ops Q (o::rest) a w:=by
  refine wpList_plain hg fun K' hK'=>?_
  obtain ⟨w',hrun,r1,r2⟩:=g.update T hn x0 hx0 y
  unfold Oper.wp
  simp [execOp,hop,hm,hx,hv,hrun,Result.andThen]
  exact hK' _ _ (hK w' r1 r2)
end
def kvS (s:ByteArray):Value:=.string s
def klS (s:ByteArray):Lit:=.string s.data.toList
def evB (b:Bool):Value:=.bool b
def elB (b:Bool):DataW Unit:=.lit (.bool b)
theorem klS_inj (x y:ByteArray) (h:klS x=klS y):x=y:=by
  unfold klS at h
  cases x;cases y
  simp only [Lit.string.injEq] at h
  rw [Array.toList_inj.1 h]
theorem plainB_inv {P:Program} {e:TypeId} (he:P.underlying e=some .bool) (v:Value) (y:Bool) (ps:List MemPlace) (h:plainElem (H:=Unit) P e v=some (elB y,ps)):v=.bool y:=by
  unfold plainElem at h
  rw [he] at h
  cases v<;>simp at h
  obtain ⟨h1,_⟩:=h
  unfold elB at h1
  simp at h1
  rw [h1]
end Go.Proofs.YtmdgeknnhckgfaaGreatDoor
namespace Go.Proofs.YtmdgeknnhckgfaaGreatDoor
open Go Go.RowKit Go.ChangeMaps
def findL (x:Int):List (Int×Value)→Nat→Option (Nat×Value)
  | [],_=>none
  | (k,v)::l,i=>if x=k then some (i,v) else findL x l (i+1)
theorem findNow_L (x:Int):∀ (es:List MapEntry) (l:List (Int×Value)) (i:Nat),es.map (fun e=>(e.key,e.val))=l.map (fun y=>(Value.int .i64 y.1,y.2))→Instr.findNow (.int .i64) (.int .i64 x) es i=some (findL x l i)
  | [],[],i,_=>rfl
  | [],_::_,i,h=>by simp at h
  | _::_,[],i,h=>by simp at h
  | e::es,(k,v)::l,i,h=>by
    simp only [List.map_cons,List.cons.injEq,Prod.mk.injEq] at h
    obtain ⟨⟨h1,h2⟩,h3⟩:=h
    have ih:=findNow_L x es l (i+1) h3
    unfold Instr.findNow findL
    rw [h1]
    simp only [Instr.sameNow,if_true]
    by_cases hx:x=k
    · subst hx
      simp [h2]
    · have:(x == k)=false:=by simp [hx]
      rw [this,if_neg hx]
      exact ih
def IMap (w:World) (b:Nat) (l:List (Int×Value)):Prop:=∃ es clock,w.heap[b]?=some (.map es clock)∧es.toList.map (fun e=>(e.key,e.val))=l.map (fun y=>(Value.int .i64 y.1,y.2))
section
variable {P:Program} {w:World} {b:Nat} {l:List (Int×Value)} {t k e:TypeId}
theorem IMap.lt (h:IMap w b l):b<w.heap.size:=by
  obtain ⟨es,c,h1,_⟩:=h
  exact (Array.getElem?_eq_some_iff.1 h1).1
theorem IMap.block {w':World} (h:IMap w b l) (e:w'.heap[b]?=w.heap[b]?):IMap w' b l:=by
  obtain ⟨es,c,h1,h2⟩:=h
  exact ⟨es,c,e.trans h1,h2⟩
theorem IMap.kept {w':World} (h:IMap w b l) (hb:Below w.heap.size w w'):IMap w' b l:=h.block (hb.block b h.lt)
theorem IMap.made (w:World):IMap (w.alloc (.map #[] 0)) w.heap.size []:=by
  refine ⟨#[],0,?_,rfl⟩
  show (w.heap.push _)[w.heap.size]?=_
  simp
theorem IMap.look (h:IMap w b l) (ht:P.underlying t=some (.map k e)) (hk:P.underlying k=some (.int .i64)) {z:Value} (hz:∀ w,(zeroValue e).run P w=.ok z w) (x:Int) :
    (Instr.lookup t (.map (some b)) (.int .i64 x) false).run P w=.ok (match findL x l 0 with | some (_,v)=>v | none=>z) w:=by
  obtain ⟨es,c,h1,h2⟩:=h
  have hf:=findNow_L x es.toList l 0 h2
  have hc:(Instr.checkKey es.isEmpty 10000 k (.int .i64 x)).run P w=.ok () w:=MapKept.run_checkKey (k:=.int .i64 x) hk (by simp [MapKept.IsKey]) _ 9999
  unfold Instr.lookup
  simp only [Sem.run_bind,run_underlying ht,Result.andThen_ok,MapKept.run_getObj_map h1,Sem.run_pure,hc,MapKept.run_findKey hk hf]
  cases findL x l 0 with
  | none=>simp [hz]
  | some y=>obtain ⟨_,v⟩:=y;simp
theorem IMap.put (h:IMap w b l) (ht:P.underlying t=some (.map k e)) (hk:P.underlying k=some (.int .i64)) (x:Int) (v:Value) (hx:findL x l 0=none) :
    ∃ w',(Instr.mapUpdate t (.map (some b)) (.int .i64 x) v).run P w=.ok () w'∧IMap w' b (l++[(x,v)])∧w.mapTurned w' b:=by
  obtain ⟨es,c,h1,h2⟩:=h
  have hf:=findNow_L x es.toList l 0 h2
  rw [hx] at hf
  have hc:(Instr.checkKey false 10000 k (.int .i64 x)).run P w=.ok () w:=MapKept.run_checkKey (k:=.int .i64 x) hk (by simp [MapKept.IsKey]) _ 9999
  refine ⟨setBlock w b (.map (es.push ⟨.int .i64 x,v,c⟩) (c+1)),?_,⟨es.push ⟨.int .i64 x,v,c⟩,c+1,?_,?_⟩,es,c,_,_,h1,rfl⟩
  · simp [Instr.mapUpdate,run_underlying ht,MapKept.run_getObj_map h1,hc,MapKept.run_findKey hk hf,MapKept.run_setObj_map _ h1,Result.andThen,setBlock]
  · exact (MapKept.heap_set h1).1
  · simp [h2]
end
theorem wpList_insert_I {P:Program} {w:World} {ops:Array Oper} {rest:List Oper} {o:Oper} {a:Act} {Q:Exit→Act→World→Prop} {b:Nat} {l:List (Int×Value)} {t k e:TypeId}
    (hg:o.guard=none) (m x v:Operand) (hop:o.op=Op.insert t m x v) (ht:P.underlying t=some (.map k e)) (hk:P.underlying k=some (.int .i64)) (hm:a.eval m=.map (some b)) (g:IMap w b l) (x0:Int) (hx:a.eval x=.int .i64 x0) (hn:findL x0 l 0=none) (y:Value) (hv:a.eval v=y)
    (hK:∀ w',IMap w' b (l++[(x0,y)])→w.mapTurned w' b→wpList P ops Q rest (a.put o.dst undef) w'):wpList P ops Q (o::rest) a w:=by
  refine wpList_plain hg fun K' hK'=>?_
  obtain ⟨w',hrun,r1,r2⟩:=g.put ht hk x0 y hn
  unfold Oper.wp
  simp [execOp,hop,hm,hx,hv,hrun,Result.andThen]
  exact hK' _ _ (hK w' r1 r2)
end Go.Proofs.YtmdgeknnhckgfaaGreatDoor
namespace Go.Proofs.YtmdgeknnhckgfaaGreatDoor
open Go Go.RowKit Go.ChangeMaps
variable {P:Program} {w:World} {b:Nat} {l:List (Int×Value)} {t k e:TypeId}
theorem IMap.look_ok (h:IMap w b l) (ht:P.underlying t=some (.map k e)) (hk:P.underlying k=some (.int .i64)) {z:Value} (hz:∀ w,(zeroValue e).run P w=.ok z w) (x:Int) :
    (Instr.lookup t (.map (some b)) (.int .i64 x) true).run P w=.ok (match findL x l 0 with | some (_,v)=>.tuple #[v,.bool true] | none=>.tuple #[z,.bool false]) w:=by
  obtain ⟨es,c,h1,h2⟩:=h
  have hf:=findNow_L x es.toList l 0 h2
  have hc:(Instr.checkKey es.isEmpty 10000 k (.int .i64 x)).run P w=.ok () w:=MapKept.run_checkKey (k:=.int .i64 x) hk (by simp [MapKept.IsKey]) _ 9999
  unfold Instr.lookup
  simp only [Sem.run_bind,run_underlying ht,Result.andThen_ok,MapKept.run_getObj_map h1,Sem.run_pure,hc,MapKept.run_findKey hk hf]
  cases findL x l 0 with
  | none=>simp [hz]
  | some y=>obtain ⟨_,v⟩:=y;simp
end Go.Proofs.YtmdgeknnhckgfaaGreatDoor
namespace Go.Proofs.YtmdgeknnhckgfaaGreatDoor
open Go Go.RowKit Go.ChangeMaps
section
variable {P:Program} {w:World} {b:Nat} {t k e:TypeId}
theorem IMap.set1 {x:Int} {v0:Value} (h:IMap w b [(x,v0)]) (ht:P.underlying t=some (.map k e)) (hk:P.underlying k=some (.int .i64)) (v:Value) :
    ∃ w',(Instr.mapUpdate t (.map (some b)) (.int .i64 x) v).run P w=.ok () w'∧IMap w' b [(x,v)]∧w.mapTurned w' b:=by
  obtain ⟨es,c,h1,h2⟩:=h
  have hl:es.toList.length=1:=by have:=congrArg List.length h2;simpa using this
  obtain ⟨y,hy⟩:∃ y,es=#[y]:=by
    obtain ⟨l⟩:=es
    match l,hl with
    | [y],_=>exact ⟨y,rfl⟩
  subst hy
  simp only [List.map_cons,List.map_nil,List.cons.injEq,Prod.mk.injEq,and_true] at h2
  obtain ⟨hk1,hv1⟩:=h2
  have hf:=findNow_L x [y] [(x,v0)] 0 (by simp [hk1,hv1])
  have hc:(Instr.checkKey false 10000 k (.int .i64 x)).run P w=.ok () w:=MapKept.run_checkKey (k:=.int .i64 x) hk (by simp [MapKept.IsKey]) _ 9999
  have hs:(Instr.keyThatStays (.int .i64 x) (.int .i64 x)).run P w=.ok (.int .i64 x) w:=MapKept.run_keyThatStays (k:=.int .i64 x) (d:=.int .i64) (by simp [MapKept.IsKey])
  have hf':Instr.findNow (.int .i64) (.int .i64 x) [y] 0=some (some (0,v0)):=by rw [hf];simp [findL]
  refine ⟨setBlock w b (.map (#[y].modify 0 fun e'=>{ e' with key:=.int .i64 x,val:=v }) c),?_,⟨_,c,(MapKept.heap_set h1).1,?_⟩,_,c,_,_,h1,rfl⟩
  · simp [Instr.mapUpdate,run_underlying ht,MapKept.run_getObj_map h1,hc,MapKept.run_findKey hk hf',hk1,hs,MapKept.run_setObj_map _ h1,Result.andThen,setBlock]
  · rfl
def nextL (x:Int) (n:Nat):List (Int×Value):=if n=0 then [] else [(x,.int .i64 (n:Nat))]
theorem next_look {x:Int} {n:Nat} (h:IMap w b (nextL x n)) (ht:P.underlying t=some (.map k e)) (hk:P.underlying k=some (.int .i64)) (hz:∀ w,(zeroValue e).run P w=.ok (.int .i64 0) w) :
    (Instr.lookup t (.map (some b)) (.int .i64 x) false).run P w=.ok (.int .i64 (n:Nat)) w:=by
  rw [h.look ht hk hz x]
  unfold nextL
  by_cases hn:n=0
  · subst hn;rfl
  · rw [if_neg hn];simp [findL]
theorem next_step {x:Int} {n:Nat} (h:IMap w b (nextL x n)) (ht:P.underlying t=some (.map k e)) (hk:P.underlying k=some (.int .i64)) :
    ∃ w',(Instr.mapUpdate t (.map (some b)) (.int .i64 x) (.int .i64 ((n:Int)+1))).run P w=.ok () w'∧IMap w' b (nextL x (n+1))∧w.mapTurned w' b:=by
  have e1:nextL x (n+1)=[(x,.int .i64 ((n:Int)+1))]:=by unfold nextL;rw [if_neg (by omega)];rfl
  rw [e1]
  by_cases hn:n=0
  · subst hn
    exact h.put ht hk x _ rfl
  · have h':IMap w b [(x,.int .i64 (n:Nat))]:=by unfold nextL at h;rw [if_neg hn] at h;exact h
    exact h'.set1 ht hk _
end
theorem findL_none {x:Int}:∀ {l:List (Int×Value)} {i:Nat},(∀ y∈l,y.1≠x)→findL x l i=none
  | [],_,_=>rfl
  | (k,v)::l,i,h=>by
    unfold findL
    rw [if_neg (fun e=>h (k,v) (List.mem_cons_self ..) e.symm)]
    exact findL_none (fun y hy=>h y (List.mem_cons_of_mem _ hy))
end Go.Proofs.YtmdgeknnhckgfaaGreatDoor
namespace Go.Proofs.YtmdgeknnhckgfaaGreatDoor
open Go Go.RowKit
def nameB (s:ByteArray):Bool:=(s.data.toList.all fun c=>charB c.toNat) && decide (1≤s.size) && decide (s.size≤32)
theorem below_bytesW (w:World) (s:ByteArray):Below w.heap.size w (Lib.bytesWorld w 5 s):=⟨rfl,rfl,rfl,by rw [Lib.bytesWorld_size];omega,fun j hj=>Lib.bytesWorld_at_old w 5 s j hj⟩
set_option maxRecDepth 100000 in
set_option maxHeartbeats 4000000 in
theorem mod_nameRight (s:ByteArray) (hs:s.size≤maxLen) (w:World):Calls Tryz.prog 48 #[.string s] w fun e w'=>e=.returned (.bool (nameB s))∧Below w.heap.size w w':=by
  unfold maxLen at hs
  have hcv:=Lib.run_convert_string_bytes (P:=Tryz.prog) w 9 123 5 s Tryz.underlying9 Tryz.underlying123 Tryz.underlying5
  have hcl:=fun j hj=>Lib.bytesWorld_cell w 5 s j hj
  have hb0:=below_bytesW w s
  have hsz:=Lib.bytesWorld_size w 5 s
  obtain ⟨W0,hW0⟩:∃ x,Lib.bytesWorld w 5 s=x:=⟨_,rfl⟩
  obtain ⟨cp,hcp⟩:∃ x,grownCap w s.size 0 5=x:=⟨_,rfl⟩
  rw [hW0] at hcv hcl hb0 hsz
  rw [hcp] at hcv
  have HCL:=Lib.hid hcl
  have HSZ:=Lib.hid hsz
  clear hW0 hcp hcl hsz
  go_enter Tryz.func48,Tryz.ntmps48
  go_wp2_with fail
  clear hcv
  go_loopw [8] (RMay W0 s) (fun i _=>s.size - (intOf i).toNat)
  case atStart=>exact ⟨0,Nat.zero_le _,rfl,rfl,rfl⟩
  case round =>
    obtain ⟨k,hk,rfl,hall,rfl⟩:=hrel
    by_cases hlt:k<s.size
    · obtain ⟨c,hc⟩:∃ c,s.data.toList[k]?=some c:=⟨_,List.getElem?_eq_getElem hlt⟩
      have hcell:=HCL.out k hlt
      have hgd:s.data.toList.getD k 0=c:=by simp [List.getD,hc]
      rw [hgd] at hcell
      have hlw:w.heap.size<W0.heap.size:=by rw [HSZ.out];omega
      have c256:=c.toNat_lt
      clear hgd
      rcases char_cases c.toNat with ⟨hh,hcs⟩ | ⟨hh,e45,hcs⟩
      · have hST:=Lib.hid (chars_step hc hall hh)
        clear hc hall hh
        generalize c.toNat=m at *
        rcases hcs with ⟨c1,c2⟩ | ⟨c1,c2⟩ | rfl
        · skip
          go_wp2_with fail
          go_roundw
          case rel=>exact ⟨k+1,hlt,rfl,hST.out,rfl⟩
          case measure=>simp [intOf];omega
        · have c3:¬ (97:Int)≤(m:Int):=by omega
          go_wp2_with fail
          go_roundw
          case rel=>exact ⟨k+1,hlt,rfl,hST.out,rfl⟩
          case measure=>simp [intOf];omega
        · skip
          go_wp2_with fail
          go_roundw
          case rel=>exact ⟨k+1,hlt,rfl,hST.out,rfl⟩
          case measure=>simp [intOf];omega
      · have hF:=Lib.hid (show nameB s=false by unfold nameB;rw [chars_bad hc hh];rfl)
        clear hc hall hh
        generalize c.toNat=m at *
        rcases hcs with c1 | ⟨c1,c2⟩ | c1
        · have c3:¬ (97:Int)≤(m:Int):=by omega
          have c4:¬ (48:Int)≤(m:Int):=by omega
          go_wp2_with fail
          go_ret
          exact ⟨by rw [hF.out];rfl,hb0⟩
        · have c3:¬ (97:Int)≤(m:Int):=by omega
          have c4:¬ (m:Int)≤57:=by omega
          go_wp2_with fail
          go_ret
          exact ⟨by rw [hF.out];rfl,hb0⟩
        · have c3:¬ (m:Int)≤122:=by omega
          have c4:¬ (m:Int)≤57:=by omega
          go_wp2_with fail
          go_ret
          exact ⟨by rw [hF.out];rfl,hb0⟩
    · have hK:k=s.data.toList.length:=by rw [size_list];omega
      rw [hK,List.take_length] at hall
      clear hK HCL HSZ
      by_cases h1:1≤s.size
      · by_cases h2:s.size≤32
        · have hF:=Lib.hid (show nameB s=true by unfold nameB;rw [hall,decide_eq_true h1,decide_eq_true h2];rfl)
          have d1:decide ((s.size:Int)≤32)=true:=decide_eq_true (by omega)
          clear hall
          go_wp2_with fail
          go_ret
          exact ⟨by rw [hF.out];rfl,hb0⟩
        · have hF:=Lib.hid (show nameB s=false by unfold nameB;rw [decide_eq_false h2,Bool.and_false])
          have d1:decide ((s.size:Int)≤32)=false:=decide_eq_false (by omega)
          have n2:¬ (s.size:Int)≤32:=by omega
          clear hall
          go_wp2_with fail
          go_ret
          exact ⟨by rw [hF.out];rfl,hb0⟩
      · have hF:=Lib.hid (show nameB s=false by unfold nameB;rw [decide_eq_false h1,Bool.and_false];rfl)
        have n2:¬ (1:Int)≤(s.size:Int):=by omega
        clear hall
        go_wp2_with fail
        go_ret
        exact ⟨by rw [hF.out];rfl,hb0⟩
theorem mayN_name (t:Ten):mayN t=(nameB t.name && decide (1≤t.key.size) && decide (t.key.size≤64) && decide (0≤t.quota) && decide (t.quota≤1048576)):=by
  unfold mayN sizesB nameB
  cases (t.name.data.toList.all fun c=>charB c.toNat)<;>cases decide (1≤t.name.size)<;>cases decide (t.name.size≤32)<;>cases decide (1≤t.key.size)<;>cases decide (t.key.size≤64)<;>cases decide (0≤t.quota)<;>cases decide (t.quota≤1048576)<;>rfl
set_option maxRecDepth 100000 in
set_option maxHeartbeats 4000000 in
theorem mod_right (t:Ten) (hs:t.name.size≤maxLen) (w:World):Calls Tryz.prog 29 #[.agg #[.string t.name,.string t.key,.int .i64 t.quota]] w fun e w'=>e=.returned (.bool (mayN t))∧Below w.heap.size w w':=by
  have hm:=mayN_name t
  obtain ⟨name,key,quota⟩:=t
  simp only at hm hs
  have HN:=Lib.hid (mod_nameRight name hs)
  have HM:=Lib.hid hm
  have hb0:Below w.heap.size w (w.alloc (.cells #[.string name,.string key,.int .i64 quota] 94)):=(Below.refl _ _).alloc (Nat.le_refl _) _
  have HB0:=Lib.hid hb0
  have hB:=Blk.new w #[.string name,.string key,.int .i64 quota] 94
  have HBK:=Lib.hid hB
  clear hm hb0 hB
  by_cases hn:nameB name=true
  · rw [hn] at HN
    by_cases g:1≤key.size∧key.size≤64∧0≤quota∧quota≤1048576
    · obtain ⟨g1,g2,g3,g4⟩:=g
      have hF:=Lib.hid (show mayN ⟨name,key,quota⟩=true by rw [HM.out,hn,decide_eq_true g1,decide_eq_true g2,decide_eq_true g3,decide_eq_true g4];rfl)
      have d1:decide (quota≤1048576)=true:=decide_eq_true g4
      clear hn
      go_enter Tryz.func29,Tryz.ntmps29
      go_wp2_with fail
      refine (HN.out _).mono ?_
      rintro e w1 ⟨rfl,hb1⟩
      have hk:=HBK.out.kept hb1
      have c1:=hk.cell 1 _ rfl
      have c2:=hk.cell 2 _ rfl
      have hb0:Below w.heap.size w w1:=HB0.out.trans (hb1.mono HB0.out.size)
      clear hk hb1 HN
      go_wp2_with fail
      go_ret
      exact ⟨by rw [hF.out];rfl,hb0⟩
    · have hF:=Lib.hid (show mayN ⟨name,key,quota⟩=false by
        rw [HM.out,←Bool.not_eq_true]
        simp only [Bool.and_eq_true,decide_eq_true_eq]
        rintro ⟨⟨⟨⟨_,a⟩,b⟩,c⟩,d⟩
        exact g ⟨a,b,c,d⟩)
      clear hn
      go_enter Tryz.func29,Tryz.ntmps29
      go_wp2_with fail
      refine (HN.out _).mono ?_
      rintro e w1 ⟨rfl,hb1⟩
      have hk:=HBK.out.kept hb1
      have c1:=hk.cell 1 _ rfl
      have c2:=hk.cell 2 _ rfl
      have hb0:Below w.heap.size w w1:=HB0.out.trans (hb1.mono HB0.out.size)
      clear hk hb1 HN
      go_wp2_with fail
      all_goals first
        | (go_ret;exact ⟨by rw [hF.out];rfl,hb0⟩)
        | (go_ret;refine ⟨?_,hb0⟩;rw [hF.out];show Ending.returned (Value.bool (decide _))=_;rw [decide_eq_false (by omega)])
        | (exfalso;omega)
  · rw [Bool.not_eq_true] at hn
    rw [hn] at HN
    have hF:=Lib.hid (show mayN ⟨name,key,quota⟩=false by rw [HM.out,hn];rfl)
    clear hn
    go_enter Tryz.func29,Tryz.ntmps29
    go_wp2_with fail
    refine (HN.out _).mono ?_
    rintro e w1 ⟨rfl,hb1⟩
    have hb0:Below w.heap.size w w1:=HB0.out.trans (hb1.mono HB0.out.size)
    clear hb1 HN
    go_wp2_with fail
    go_ret
    exact ⟨by rw [hF.out];rfl,hb0⟩
theorem Tryz.mapSB:MapTy Tryz.prog 96 9 4 kvS klS (fun s=>s.size≤maxLen) evB elB (plainElem Tryz.prog 4) false where
  K:=Maps.string_keyed Tryz.underlying9
  ht:=Tryz.underlying96
  hz:=fun w=>Tryz.zeroValue4 w
  key:=fun x hx=>Go.WideMaps.keyOf_string_mk Tryz.underlying9 hx
  lit:=fun x=>trivial
  inj:=klS_inj
  elem:=fun y=>plainElem_bool Tryz.underlying4 y
  inv:=fun v y ps h=>plainB_inv Tryz.underlying4 v y ps h
abbrev KnownM (w:World) (b n:Nat) (f:ByteArray→Bool):Prop:=GMap Tryz.prog 9 klS elB (plainElem Tryz.prog 4) false w b n f f
def namesB (l:List Ten) (s:ByteArray):Bool:=l.any fun u=>decide (s=u.name)
theorem namesB_snoc (l:List Ten) (t:Ten):namesB (l++[t])=fun s=>decide (s=t.name) || namesB l s:=by
  funext s
  unfold namesB
  rw [List.any_append,Bool.or_comm]
  simp
theorem names_apart {l:List Ten} {i:Nat} {t:Ten} (h:namesB (l.take i) t.name=false):apartB l i t:=by
  intro u hu he
  unfold namesB at h
  rw [List.any_eq_false] at h
  have:=h u hu
  simp at this
  exact this he.symm
theorem names_twice {l:List Ten} {i:Nat} {t:Ten} (ht:l[i]?=some t) (h:namesB (l.take i) t.name=true):firstB l=false:=by
  unfold namesB at h
  rw [List.any_eq_true] at h
  obtain ⟨u,hu,he⟩:=h
  simp at he
  obtain ⟨j,hj⟩:=List.mem_iff_getElem?.1 hu
  rw [List.getElem?_take] at hj
  split at hj
  · exact first_twice ht hj (by assumption) he.symm
  · cases hj
def RCm (w:World) (l:List Ten) (iv:Value) (W:World):Prop:=∃ k:Nat,k≤l.length∧iv=.int .i64 (k:Nat)∧firstB (l.take k)=true∧Below w.heap.size w W∧KnownM W w.heap.size k (namesB (l.take k))
set_option maxRecDepth 100000 in
set_option maxHeartbeats 4000000 in
theorem mod_Check (v:Value) (l:List Ten) (hs:∀ t∈l,t.name.size≤maxLen) (w:World) (hr:Reads w v l.length 3 (tenArgs l)):Calls Tryz.prog 14 #[v] w fun e w'=>e=.returned (.int .i64 (checkN l))∧Below w.heap.size w w':=by
  obtain ⟨A,cap,rfl⟩:=hr.form
  have HR:=Lib.hid hr
  have HS:=Lib.hid hs
  have h63:=hr.2.1
  clear hr hs
  by_cases h1:1≤l.length
  · by_cases h2:l.length≤16
    · have n1:¬ (l.length:Int)<1:=by omega
      have n2:¬ (16:Int)<(l.length:Int):=by omega
      have HL:=Lib.hid (show lenB l=true by unfold lenB;rw [decide_eq_true h1,decide_eq_true h2];rfl)
      clear h63
      have hmm:=@run_makeMap Tryz.prog
      go_enter Tryz.func14,Tryz.ntmps14
      go_wp2_with fail
      clear hmm
      go_loopw [17] (RCm w l) (fun i _=>l.length - (intOf i).toNat)
      case atStart=>exact ⟨0,Nat.zero_le _,rfl,rfl,(Below.refl _ _).alloc (Nat.le_refl _) _,GMap.made w⟩
      case round =>
        obtain ⟨i,hi,rfl,hf,hb,hkn⟩:=hrel
        by_cases hlt:i<l.length
        · obtain ⟨t,ht⟩:∃ t,l[i]?=some t:=⟨_,List.getElem?_eq_getElem hlt⟩
          obtain ⟨b,o,rfl,hbl,c0,c1,c2⟩:=(HR.out.kept hb).ten_at ht
          have hsz:=HS.out t (List.mem_of_getElem? ht)
          have HM:=Lib.hid (mod_right t hsz)
          have HT:=Lib.hid ht
          have HFF:=Lib.hid hf
          have HKN:=Lib.hid hkn
          have HSZ:=Lib.hid hsz
          by_cases hm:mayN t=true
          · rw [hm] at HM
            have hm':=Lib.hid hm
            clear ht hf hm hkn hsz
            go_wp2_with fail
            refine (HM.out _).mono ?_
            rintro e w1 ⟨rfl,hb1⟩
            have hb2:Below w.heap.size w w1:=(hb.alloc hb.size _).trans (hb1.mono (by rw [World.size_alloc];exact Nat.le_succ_of_le hb.size))
            have hkn1:=(HKN.out.alloc (.cells #[.string t.name,.string t.key,.int .i64 t.quota] 94)).kept hb1
            have hbk:=(Blk.new wr #[.string t.name,.string t.key,.int .i64 t.quota] 94).kept hb1
            have d0:=hbk.cell 0 _ rfl
            have dl:=hbk.lt
            have hlook:=hkn1.look Tryz.mapSB t.name HSZ.out
            have HK1:=Lib.hid hkn1
            clear HM hb1 c0 c1 c2 hbl hkn1 hbk HKN
            unfold kvS evB at hlook
            obtain ⟨kn,hkn⟩:∃ kn,namesB (l.take i) t.name=kn:=⟨_,rfl⟩
            rw [hkn] at hlook
            have HKK:=Lib.hid hkn
            clear hkn
            cases kn with
            | true =>
              have hF:=Lib.hid (checkN_bad (names_twice HT.out HKK.out))
              go_wp2_with fail
              go_ret
              exact ⟨by rw [hF.out];rfl,hb2⟩
            | false =>
              have HST:=Lib.hid (first_step HT.out HFF.out hm'.out (names_apart HKK.out))
              have HNM:=Lib.hid (show namesB (l.take (i+1))=_ by rw [take_snoc HT.out,namesB_snoc])
              go_wp2_with (at_mapUpdate;refine wpList_mapUpdate_G Tryz.mapSB rfl _ _ _ rfl rfl HK1.out (by unfold maxLen;omega) t.name HSZ.out true rfl rfl ?_)
              intro w2 hk2 ht2
              have hb3:Below w.heap.size w w2:=hb2.trans (turned_below ht2 (Nat.le_refl _))
              clear hlook d0 ht2
              go_wp2_with fail
              go_roundw
              case rel=>exact ⟨i+1,hlt,rfl,HST.out,hb3,by rw [HNM.out];exact hk2⟩
              case measure=>simp [intOf];omega
          · rw [Bool.not_eq_true] at hm
            rw [hm] at HM
            have hF:=Lib.hid (checkN_bad (first_may ht hm))
            clear ht hf hm hkn hsz
            go_wp2_with fail
            refine (HM.out _).mono ?_
            rintro e w1 ⟨rfl,hb1⟩
            have hb2:Below w.heap.size w w1:=(hb.alloc hb.size _).trans (hb1.mono (by rw [World.size_alloc];exact Nat.le_succ_of_le hb.size))
            clear HM hb1 c0 c1 c2 hbl
            go_wp2_with fail
            go_ret
            exact ⟨by rw [hF.out];rfl,hb2⟩
        · have hK:i=l.length:=by omega
          rw [hK,List.take_length] at hf
          have hF:=Lib.hid (checkN_good HL.out hf)
          clear hf hK
          go_wp2_with fail
          go_ret
          exact ⟨by rw [hF.out];rfl,hb⟩
    · have n2:(16:Int)<(l.length:Int):=by omega
      have n1:¬ (l.length:Int)<1:=by omega
      have hF:=Lib.hid (checkN_len (l:=l) (by unfold lenB;rw [decide_eq_false h2,Bool.and_false]))
      go_enter Tryz.func14,Tryz.ntmps14
      go_wp2_with fail
      go_ret
      exact ⟨by rw [hF.out];rfl,Below.refl _ _⟩
  · have n1:(l.length:Int)<1:=by omega
    have hF:=Lib.hid (checkN_len (l:=l) (by unfold lenB;rw [decide_eq_false h1];rfl))
    go_enter Tryz.func14,Tryz.ntmps14
    go_wp2_with fail
    go_ret
    exact ⟨by rw [hF.out];rfl,Below.refl _ _⟩
end Go.Proofs.YtmdgeknnhckgfaaGreatDoor
