/-
  Parts of the proof of the law LinModel: Tree, Sha0, ShaC, ShaK.
-/
import Derived.Test.YtmdgeknnhckgfaaGreatDoorS00
import Derived.Test.YtmdgeknnhckgfaaGreatDoorS01
import Derived.Deep.CutRange
import Derived.Laws.Closers25b
set_option linter.unusedSimpArgs false
set_option linter.unusedVariables false
namespace Go.Proofs.YtmdgeknnhckgfaaGreatDoor
open Go
inductive Tree where
  | nil:Tree
  | take (i:Nat) (t:Tree):Tree
  | one (i:Nat) (t:Tree):Tree
  | two (i:Nat) (t:Tree) (j:Nat) (u:Tree):Tree
section
variable {P:Program} {ops:Array Oper} {Q:Exit→Act→World→Prop} {S:World→Prop}
def wpTree (P:Program) (ops:Array Oper) (Q:Exit→Act→World→Prop) (S:World→Prop):Tree→Act→World→Prop
  | .nil,a,w=>Q .normal a w
  | .take i t,a,w=>∃ o v,ops[i]?=some o∧YieldsIf P ops S o v a∧wpTree P ops Q S t (a.put o.dst v) w
  | .one i t,a,w=>wpOp P ops Q i (fun a' w'=>S w'∧(S w'→wpTree P ops Q S t a' w')) a w
  | .two i t j u,a,w=>wpOp P ops Q i (fun a' w'=>S w'∧(S w'→wpTree P ops Q S t a' w')) a w∧wpOp P ops Q j (fun a' w'=>S w'∧(S w'→wpTree P ops Q S u a' w')) a w
def treeOK (ops:Array Oper):Nat→Tree→Array Bool→Bool
  | 0,.nil,listed=>Region.ready .any ops listed == []
  | n+1,.take i t,listed=>Region.free .any ops listed i && (Region.ready .any ops listed).contains i && treeOK ops n t (listed.setIfInBounds i true)
  | n+1,.one i t,listed=>Region.ready .any ops listed == [i] && treeOK ops n t (listed.setIfInBounds i true)
  | n+1,.two i t j u,listed=>Region.ready .any ops listed == [i,j] && treeOK ops n t (listed.setIfInBounds i true) && treeOK ops n u (listed.setIfInBounds j true)
  | _,_,_=>false
theorem tree_sound (hs:Region.noSelect ops=true) (hQ:∀ c a w (dst:Option Tmp) v,Q (.panic c) (a.put dst v) w→Q (.panic c) a w):∀ (n:Nat) (t:Tree) (listed:Array Bool) (a:Act) (w:World),treeOK ops n t listed=true→S w→wpTree P ops Q S t a w →
    wpAnyH P .any ops Q S n listed a w:=by
  intro n
  induction n with
  | zero =>
    intro t listed a w hp _ h
    cases t with
    | nil=>exact wpAnyH_done (by simpa [treeOK] using hp) h 0
    | take=>simp [treeOK] at hp
    | one=>simp [treeOK] at hp
    | two=>simp [treeOK] at hp
  | succ n ih =>
    intro t listed a w hp hS h
    cases t with
    | nil=>simp [treeOK] at hp
    | take i t =>
      simp only [treeOK,Bool.and_eq_true] at hp
      obtain ⟨o,v,hi,hy,hr⟩:=h
      exact wpAnyH_take hi hs hp.1.1 hp.1.2 (fun c a w hq=>hQ c a w _ _ hq) hy hS (ih _ _ _ _ hp.2 hS hr)
    | one i t =>
      simp only [treeOK,Bool.and_eq_true,beq_iff_eq] at hp
      refine wpAnyH_all hp.1 (by simp) ?_
      intro j hj
      obtain rfl:j=i:=by simpa using hj
      exact wpOp_mono (fun a' w' hk=>⟨hk.1,ih _ _ _ _ hp.2 hk.1 (hk.2 hk.1)⟩) h
    | two i t k u =>
      simp only [treeOK,Bool.and_eq_true,beq_iff_eq] at hp
      refine wpAnyH_all hp.1.1 (by simp) ?_
      intro j hj
      rcases List.mem_cons.1 hj with rfl | hj
      · exact wpOp_mono (fun a' w' hk=>⟨hk.1,ih _ _ _ _ hp.1.2 hk.1 (hk.2 hk.1)⟩) h.1
      · obtain rfl:j=k:=by simpa using hj
        exact wpOp_mono (fun a' w' hk=>⟨hk.1,ih _ _ _ _ hp.2 hk.1 (hk.2 hk.1)⟩) h.2
theorem region_tree {id:Nat} {a:Act} {w:World} (t:Tree) (hm:P.follows .mixedOrders=true) (hs:Region.noSelect ops=true) (hp:treeOK ops ops.size t (Array.replicate ops.size false)=true)
    (hQ:∀ c a w (dst:Option Tmp) v,Q (.panic c) (a.put dst v) w→Q (.panic c) a w) (hS:S w.drew) (h:S w.drew→wpTree P ops Q S t a w.drew):(Code.region id ops true).wp P Q a w:=by
  refine wp_region_held (S:=S) hm ?_
  exact tree_sound hs hQ _ _ _ _ _ hp hS (h hS)
theorem tree_nil {a:Act} {w:World} (h:Q .normal a w):wpTree P ops Q S .nil a w:=h
theorem tree_take {i:Nat} {t:Tree} {a:Act} {w:World} {o:Oper} {v:Value} (ho:ops[i]?=some o) (hw:Region.wanted o (yielded ops a.tmps)=true) (hv:∀ w',S w'→(execOp a.eval o).run P w'=.ok (.value v) w')
    (h:wpTree P ops Q S t (a.put o.dst v) w):wpTree P ops Q S (.take i t) a w:=⟨o,v,ho,.inl ⟨hw,hv⟩,h⟩
theorem tree_op {i:Nat} {t:Tree} {a:Act} {w:World} {o:Oper} (ho:ops[i]?=some o) (hw:Region.wanted o (yielded ops a.tmps)=true)
    (h:∀ K:Act→World→Prop,Shut (∀ a' w',S w'→(S w'→wpTree P ops Q S t a' w')→K a' w')→Oper.wp P o a w K Q):wpOp P ops Q i (fun a' w'=>S w'∧(S w'→wpTree P ops Q S t a' w')) a w:=by
  have h1:=h (fun a' w'=>S w'∧(S w'→wpTree P ops Q S t a' w')) (fun a' w' h1 h2=>⟨h1,h2⟩)
  unfold Go.wpOp
  simp only [ho,hw,if_true]
  exact .inl h1
theorem tree_one {i:Nat} {t:Tree} {a:Act} {w:World} {o:Oper} (ho:ops[i]?=some o) (hw:Region.wanted o (yielded ops a.tmps)=true)
    (h:∀ K:Act→World→Prop,Shut (∀ a' w',S w'→(S w'→wpTree P ops Q S t a' w')→K a' w')→Oper.wp P o a w K Q):wpTree P ops Q S (.one i t) a w:=tree_op ho hw h
theorem tree_two {i j:Nat} {t u:Tree} {a:Act} {w:World} {o o':Oper} (ho:ops[i]?=some o) (hw:Region.wanted o (yielded ops a.tmps)=true) (ho':ops[j]?=some o') (hw':Region.wanted o' (yielded ops a.tmps)=true)
    (h:∀ K:Act→World→Prop,Shut (∀ a' w',S w'→(S w'→wpTree P ops Q S t a' w')→K a' w')→Oper.wp P o a w K Q)
    (h':∀ K:Act→World→Prop,Shut (∀ a' w',S w'→(S w'→wpTree P ops Q S u a' w')→K a' w')→Oper.wp P o' a w K Q):wpTree P ops Q S (.two i t j u) a w:=⟨tree_op ho hw h,tree_op ho' hw' h'⟩
end
end Go.Proofs.YtmdgeknnhckgfaaGreatDoor
namespace Go.Proofs.YtmdgeknnhckgfaaGreatDoor
open Go Go.RowKit
def rorN (x:Int) (n:Nat):Int:=bits .or .u32 (x / 2 ^ n) (IntKind.u32.wrap (x*2 ^ (32 - n)))
def RorN (n:Int):Prop:=n=2∨n=6∨n=7∨n=11∨n=13∨n=17∨n=18∨n=19∨n=22∨n=25
set_option maxHeartbeats 1000000 in
theorem ref_ror (x:Int) (h0:0≤x) (h1:x<4294967296) (n:Int) (hn:RorN n) (w:World) :
    Calls Tryz.prog 131 #[.int .u32 x,.int .i64 n] w fun e w'=>e=.returned (.int .u32 (rorN x n.toNat))∧∃ q,w'=w.drewN q:=by
  rcases hn with rfl | rfl | rfl | rfl | rfl | rfl | rfl | rfl | rfl | rfl
  all_goals
    go_enter Tryz.func131,Tryz.ntmps131
    go_wp2_with fail
    go_quiet (fail)
    go_wp2_with fail
    go_ret
    first | exact ⟨rfl,_,rfl⟩ | (fail             )
theorem bits_or_comm (a b:Int):bits .or .u32 a b=bits .or .u32 b a:=by
  unfold bits
  first
    | (simp [Nat.or_comm];done)
    | (fail             )
set_option maxHeartbeats 1000000 in
theorem bits_rotl (x:Int) (h0:0≤x) (h1:x<4294967296) (n:Int) (hn:RorN n) (w:World) :
    Calls Tryz.prog 205 #[.int .u32 x,.int .i64 (-n)] w fun e w'=>e=.returned (.int .u32 (rorN x n.toNat))∧w'=w:=by
  rcases hn with rfl | rfl | rfl | rfl | rfl | rfl | rfl | rfl | rfl | rfl
  · have hb:bits BinOp.and IntKind.u64 (IntKind.u64.wrap (-2)) 31=30:=by decide
    go_enter Tryz.func205,Tryz.ntmps205
    go_wp2_with fail
    go_ret
    exact ⟨(ret_eq (bits_or_comm _ _)),rfl⟩
  · have hb:bits BinOp.and IntKind.u64 (IntKind.u64.wrap (-6)) 31=26:=by decide
    go_enter Tryz.func205,Tryz.ntmps205
    go_wp2_with fail
    go_ret
    exact ⟨(ret_eq (bits_or_comm _ _)),rfl⟩
  · have hb:bits BinOp.and IntKind.u64 (IntKind.u64.wrap (-7)) 31=25:=by decide
    go_enter Tryz.func205,Tryz.ntmps205
    go_wp2_with fail
    go_ret
    exact ⟨(ret_eq (bits_or_comm _ _)),rfl⟩
  · have hb:bits BinOp.and IntKind.u64 (IntKind.u64.wrap (-11)) 31=21:=by decide
    go_enter Tryz.func205,Tryz.ntmps205
    go_wp2_with fail
    go_ret
    exact ⟨(ret_eq (bits_or_comm _ _)),rfl⟩
  · have hb:bits BinOp.and IntKind.u64 (IntKind.u64.wrap (-13)) 31=19:=by decide
    go_enter Tryz.func205,Tryz.ntmps205
    go_wp2_with fail
    go_ret
    exact ⟨(ret_eq (bits_or_comm _ _)),rfl⟩
  · have hb:bits BinOp.and IntKind.u64 (IntKind.u64.wrap (-17)) 31=15:=by decide
    go_enter Tryz.func205,Tryz.ntmps205
    go_wp2_with fail
    go_ret
    exact ⟨(ret_eq (bits_or_comm _ _)),rfl⟩
  · have hb:bits BinOp.and IntKind.u64 (IntKind.u64.wrap (-18)) 31=14:=by decide
    go_enter Tryz.func205,Tryz.ntmps205
    go_wp2_with fail
    go_ret
    exact ⟨(ret_eq (bits_or_comm _ _)),rfl⟩
  · have hb:bits BinOp.and IntKind.u64 (IntKind.u64.wrap (-19)) 31=13:=by decide
    go_enter Tryz.func205,Tryz.ntmps205
    go_wp2_with fail
    go_ret
    exact ⟨(ret_eq (bits_or_comm _ _)),rfl⟩
  · have hb:bits BinOp.and IntKind.u64 (IntKind.u64.wrap (-22)) 31=10:=by decide
    go_enter Tryz.func205,Tryz.ntmps205
    go_wp2_with fail
    go_ret
    exact ⟨(ret_eq (bits_or_comm _ _)),rfl⟩
  · have hb:bits BinOp.and IntKind.u64 (IntKind.u64.wrap (-25)) 31=7:=by decide
    go_enter Tryz.func205,Tryz.ntmps205
    go_wp2_with fail
    go_ret
    exact ⟨(ret_eq (bits_or_comm _ _)),rfl⟩
set_option maxHeartbeats 1000000 in
theorem mod_ror (x:Int) (h0:0≤x) (h1:x<4294967296) (n:Int) (hn:RorN n) (w:World) :
    Calls Tryz.prog 200 #[.int .u32 x,.int .i64 n] w fun e w'=>e=.returned (.int .u32 (rorN x n.toNat))∧∃ q,w'=w.drewN q:=by
  have hw:IntKind.i64.wrap (-n) = -n:=by
    rcases hn with rfl | rfl | rfl | rfl | rfl | rfl | rfl | rfl | rfl | rfl<;>rfl
  go_enter Tryz.func200,Tryz.ntmps200
  go_wp2_with fail
  refine (bits_rotl x h0 h1 n hn _).mono ?_
  rintro e w' ⟨rfl,rfl⟩
  go_wp2_with fail
  go_ret
  exact ⟨rfl,0,rfl⟩
def arrN (n:Nat) (f:Nat→Int):Array Value:=((List.range n).map fun i=>Value.int .u32 (f i)).toArray
theorem arrN_get (n:Nat) (f:Nat→Int) {i:Nat} (h:i<n):(arrN n f)[i]?=some (.int .u32 (f i)):=by
  simp [arrN,h]
def put1 (f:Nat→Int) (i:Nat) (v:Int):Nat→Int:=fun l=>if l=i then v else f l
theorem arrN_set (n:Nat) (f:Nat→Int) {i:Nat} (h:i<n) (v:Int):(arrN n f).setIfInBounds i (.int .u32 v)=arrN n (put1 f i v):=by
  unfold arrN
  rw [pu1]
  congr 1
  apply List.ext_getElem?
  intro j
  rw [List.getElem?_set]
  simp only [List.getElem?_map,List.length_map,List.length_range]
  by_cases hj:i=j
  · subst hj
    simp [h,put1]
  · by_cases h2:j<n
    · simp [hj,h2,put1,Ne.symm hj]
    · simp [hj,h2]
def U32 (x:Int):Prop:=0≤x∧x<4294967296
theorem byte_at (s:ByteArray) {i j:Nat} (h:i<s.size) (e:i=j):s[i].toNat=(s.get! j).toNat:=by
  subst e
  congr 1
  exact (getElem!_pos s.data i h).symm
theorem blk_new {w:World} {b:Nat} {arr arr':Array Value} {t:TypeId} (h:w.heap.size=b) (e:arr=arr'):Blk (w.alloc (.cells arr t)) b arr' t:=by
  subst h;subst e;exact Blk.new _ _ _
theorem arrN_size (n:Nat) (f:Nat→Int):(arrN n f).size=n:=by simp [arrN]
theorem arrN_one (n:Nat) (f:Nat→Int):(arrN n f).all (·.oneCell')=true:=by
  simp [arrN,Value.oneCell']
theorem Tryz.size197:(Tryz.prog.info? 197).map (·.size)=some 64:=by kernel_rfl
theorem Tryz.size177:(Tryz.prog.info? 177).map (·.size)=some 8:=by kernel_rfl
theorem Tryz.size259:(Tryz.prog.info? 259).map (·.size)=some 8:=by kernel_rfl
def kL:List Int:=[1116352408,1899447441,3049323471,3921009573,961987163,1508970993,2453635748,2870763221,3624381080,310598401,607225278,1426881987,1925078388,2162078206,2614888103,3248222580,3835390401,4022224774,264347078,604807628,770255983,1249150122,1555081692,1996064986,2554220882,2821834349,2952996808,3210313671,3336571891,3584528711,113926993,338241895,666307205,773529912,1294757372,1396182291,1695183700,1986661051,2177026350,2456956037,2730485921,2820302411,3259730800,3345764771,3516065817,3600352804,4094571909,275423344,430227734,506948616,659060556,883997877,958139571,1322822218,1537002063,1747873779,1955562222,2024104815,2227730452,2361852424,2428436474,2756734187,3204031479,3329325298]
def kN (i:Nat):Int:=kL.getD i 0
structure Bk1 (w:World) (h f:Nat→Int) (wr:World):Prop where
  b0:Blk wr w.heap.size (arrN 8 h) 177
  b1:Blk wr (w.heap.size+1) (arrN 8 fun _=>0) 177
  b2:Blk wr (w.heap.size+1+1) (arrN 64 f) 197
  bel:Below w.heap.size w wr
theorem Bk1.only {w:World} {h f:Nat→Int} {a b:World} (hB:Bk1 w h f a) {S:Nat→Prop} (ho:Only S a b) (hS:∀ k,S k→a.heap.size≤k):Bk1 w h f b :=
  ⟨hB.b0.only ho (fun e=>by have:=hS _ e;have:=hB.b0.lt;omega),hB.b1.only ho (fun e=>by have:=hS _ e;have:=hB.b1.lt;omega),hB.b2.only ho (fun e=>by have:=hS _ e;have:=hB.b2.lt;omega),
    hB.bel.trans (ho.below (by have:=hB.bel.size;omega) (fun k hk=>by have:=hS _ hk;have:=hB.bel.size;omega))⟩
theorem Bk1.alloc {w:World} {h f:Nat→Int} {a:World} (hB:Bk1 w h f a) (o:Obj):Bk1 w h f (a.alloc o):=hB.only (S:=fun _=>False) ((Only.refl _ _).alloc o) (fun _ h=>h.elim)
def wordN (s:ByteArray) (k:Nat):Int :=
  bits .or .u32 (bits .or .u32 (bits .or .u32 (((s.get! (4*k)).toNat:Int)*16777216) (((s.get! (4*k+1)).toNat:Int)*65536)) (((s.get! (4*k+2)).toNat:Int)*256)) ((s.get! (4*k+3)).toNat:Int)
def loadN (s:ByteArray):Nat→Nat→Int
  | 0=>fun _=>0
  | k+1=>put1 (loadN s k) k (wordN s k)
def nextW (f:Nat→Int) (t:Nat):Int :=
  IntKind.u32.wrap (IntKind.u32.wrap (IntKind.u32.wrap (bits .xor .u32 (bits .xor .u32 (rorN (f (t - 2)) 17) (rorN (f (t - 2)) 19)) (f (t - 2) / 1024)+f (t - 7))+bits .xor .u32 (bits .xor .u32 (rorN (f (t - 15)) 7) (rorN (f (t - 15)) 18)) (f (t - 15) / 8))+f (t - 16))
def schedN (s:ByteArray):Nat→Nat→Int
  | 0=>loadN s 16
  | m+1=>put1 (schedN s m) (16+m) (nextW (schedN s m) (16+m))
theorem wrap_U32 (x:Int):U32 (IntKind.u32.wrap x):=by unfold U32;rw [IntKind.wrap_u32];omega
theorem put1_U32 {f:Nat→Int} (h:∀ i,U32 (f i)) (k:Nat) {x:Int} (hx:U32 x):∀ i,U32 (put1 f k x i):=by
  intro i
  unfold put1
  split
  · exact hx
  · exact h i
theorem below_drewN {B:Nat} {a b:World} (h:Below B a b) (n:Nat):Below B a (b.drewN n):=⟨h.os,h.tape,h.output,h.size,h.block⟩
theorem bits_U32 (op:BinOp) (a b:Int):U32 (bits op .u32 a b):=by
  have h:=bits_within op .u32 a b
  have h1:IntKind.u32.min=0:=by decide
  have h2:IntKind.u32.max=4294967295:=by decide
  rw [h1,h2] at h
  unfold U32
  omega
theorem wordN_U32 (s:ByteArray) (k:Nat):U32 (wordN s k):=bits_U32 _ _ _
theorem loadN_U32 (s:ByteArray):∀ k i,U32 (loadN s k i)
  | 0=>fun _=>⟨by simp [loadN],by simp [loadN]⟩
  | k+1=>put1_U32 (loadN_U32 s k) k (wordN_U32 s k)
theorem schedN_U32 (s:ByteArray):∀ k i,U32 (schedN s k i)
  | 0=>loadN_U32 s 16
  | k+1=>put1_U32 (schedN_U32 s k) _ (wrap_U32 _)
def t1N (V:Nat→Int) (k x:Int):Int :=
  IntKind.u32.wrap (IntKind.u32.wrap (IntKind.u32.wrap (IntKind.u32.wrap (V 7+bits .xor .u32 (bits .xor .u32 (rorN (V 4) 6) (rorN (V 4) 11)) (rorN (V 4) 25))+bits .xor .u32 (bits .and .u32 (V 4) (V 5)) (bits .and .u32 (bits .xor .u32 (if IntKind.u32.signed=true then -1 else IntKind.u32.max) (V 4)) (V 6)))+k)+x)
def t2N (V:Nat→Int):Int :=
  IntKind.u32.wrap (bits .xor .u32 (bits .xor .u32 (rorN (V 0) 2) (rorN (V 0) 13)) (rorN (V 0) 22)+bits .xor .u32 (bits .xor .u32 (bits .and .u32 (V 0) (V 1)) (bits .and .u32 (V 0) (V 2))) (bits .and .u32 (V 1) (V 2)))
def rndN (V:Nat→Int) (k x:Int):Nat→Int
  | 0=>IntKind.u32.wrap (t1N V k x+t2N V)
  | 1=>V 0
  | 2=>V 1
  | 3=>V 2
  | 4=>IntKind.u32.wrap (V 3+t1N V k x)
  | n+5=>V (n+4)
def roundsN (h:Nat→Int) (f:Nat→Int):Nat→Nat→Int
  | 0=>h
  | t+1=>rndN (roundsN h f t) (kN t) (f t)
theorem rndN_U32 {V:Nat→Int} (hV:∀ i,U32 (V i)) (k x:Int):∀ i,U32 (rndN V k x i)
  | 0=>wrap_U32 _
  | 1=>hV _
  | 2=>hV _
  | 3=>hV _
  | 4=>wrap_U32 _
  | n+5=>hV _
theorem roundsN_U32 {h:Nat→Int} (hh:∀ i,U32 (h i)) (f:Nat→Int):∀ t i,U32 (roundsN h f t i)
  | 0=>hh
  | t+1=>rndN_U32 (roundsN_U32 hh f t) _ _
def addN (h V:Nat→Int):Nat→Nat→Int
  | 0=>h
  | t+1=>put1 (addN h V t) t (IntKind.u32.wrap (h t+V t))
def blockN (h:Nat→Int) (s:ByteArray):Nat→Int:=addN h (roundsN h (schedN s 48) 64) 8
def Rel1 (w:World) (h:Nat→Int) (s:ByteArray) (i:Value) (wr:World):Prop:=∃ k:Nat,k≤16∧i=.int .i64 k∧Bk1 w h (loadN s k) wr
def Rel2 (w:World) (h:Nat→Int) (s:ByteArray) (i:Value) (wr:World):Prop:=∃ m:Nat,m≤48∧i=.int .i64 (16+m)∧Bk1 w h (schedN s m) wr
set_option maxRecDepth 100000 in
set_option maxHeartbeats 1000000 in
theorem ref_constants (w:World):Calls Tryz.prog 132 #[] w fun e w'=>e=.returned (.agg (arrN 64 kN))∧Below w.heap.size w w':=by
  go_enter Tryz.func132,Tryz.ntmps132
  go_wp2_with (first
    | (refine wpList_store_blk rfl 197 (Operand.tmp 0) (Operand.tmp 1) rfl w.heap.size rfl _ (arrN 64 kN) 197 rfl (blk_new rfl rfl) (by rw [arrN_size];exact Tryz.size197) (by rw [arrN_size];rfl) (arrN_one _ _) ?_
       intro w2 hk2 ho2 hs2))
  refine body_cell rfl rfl rfl hk2 Tryz.underlying197 rfl (by rw [arrN_size];exact Tryz.size197) ?_
  exact ⟨rfl,((Below.refl _ w).alloc (Nat.le_refl _) _).trans (ho2.below (by simp) (fun k hk=>by subst hk;exact Nat.le_refl _))⟩
set_option maxRecDepth 100000 in
set_option maxHeartbeats 1000000 in
theorem mod_constants (w:World):Calls Tryz.prog 199 #[] w fun e w'=>e=.returned (.agg (arrN 64 kN))∧Below w.heap.size w w':=by
  go_enter Tryz.func199,Tryz.ntmps199
  go_wp2_with (first
    | (refine wpList_store_blk rfl 197 (Operand.tmp 0) (Operand.tmp 1) rfl w.heap.size rfl _ (arrN 64 kN) 197 rfl (blk_new rfl rfl) (by rw [arrN_size];exact Tryz.size197) (by rw [arrN_size];rfl) (arrN_one _ _) ?_
       intro w2 hk2 ho2 hs2))
  refine body_cell rfl rfl rfl hk2 Tryz.underlying197 rfl (by rw [arrN_size];exact Tryz.size197) ?_
  exact ⟨rfl,((Below.refl _ w).alloc (Nat.le_refl _) _).trans (ho2.below (by simp) (fun k hk=>by subst hk;exact Nat.le_refl _))⟩
end Go.Proofs.YtmdgeknnhckgfaaGreatDoor
