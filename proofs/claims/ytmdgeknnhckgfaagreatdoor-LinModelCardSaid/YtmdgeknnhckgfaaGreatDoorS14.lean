/-
  Parts of the proof of the law LinModel: RHex, Tok, TokInj, Leaf, Mdl.
-/
import Derived.Test.YtmdgeknnhckgfaaGreatDoorS00
import Derived.Test.YtmdgeknnhckgfaaGreatDoorS02
import Derived.Test.YtmdgeknnhckgfaaGreatDoorS05
import Derived.Test.YtmdgeknnhckgfaaGreatDoorS12
import Derived.Test.YtmdgeknnhckgfaaGreatDoorS13
set_option linter.unusedSimpArgs false
set_option linter.unusedVariables false
namespace Go.Proofs.YtmdgeknnhckgfaaGreatDoor
open Go Go.RowKit
theorem oper_append_row {P:Program} {w:World} {o:Oper} {a:Act} {K:Act→World→Prop} {Q:Exit→Act→World→Prop} (s x:Operand) (t:TypeId)
    (ho:o.op=.call { callee:=.builtin .append,args:=#[s,x],argTypes:=#[t,t] })
    (base:Nat) (e:TypeId) (i:TypeInfo) (z:Value) (size bytes:Nat) (ht:P.underlying t=some (.slice e)) (hi:P.info? e=some i) (hz:i.zero=some z)
    (hsize:i.size=size) (hby:i.bytes=bytes) (hzs:z.cells.size=size) (hsz:0<size)
    (v:Value) (n:Nat) (xs:List Value) (hs:a.eval s=v) (hown:w.ownsRow base e size v n xs)
    (ad:Addr) (m c:Nat) (news:List Value) (hx:a.eval x=.slice (some ad) m c) (hl:news.length=m*size) (hnews:∀ j u,news[j]?=some u→w.cell? (ad.add j)=some u) (h1:∀ u∈news,u.oneCell'=true)
    (h63:n+m≤maxLen) (hbytes:(n+m)*bytes≤140737488355328) (hbase:base≤w.heap.size)
    (h:∀ v' w',w'.ownsRow base e size v' (n+m) (xs++news)→w.grownBy w' v.ownBlock→(∀ g,v'.ownBlock=some g→v.ownBlock=some g∨w.heap.size≤g)→K (a.put o.dst v') w'):Oper.wp P o a w K Q:=by
  obtain ⟨v',w',hrun,r1,r2,r3⟩:=run_append_own (P:=P) w base t o.type e i z size bytes ht hi hz hsize hby hzs hsz v n xs hown ad m c news hl hnews h1 h63 hbytes hbase
  have r4:∀ g,v'.ownBlock=some g→v.ownBlock=some g∨w.heap.size≤g:=by
    rcases Nat.eq_zero_or_pos m with hm | hm
    · rcases hown.2 with ⟨hv,_⟩ | ⟨g,cap,cur,hv,_⟩
      · intro g hg
        rw [r3.2 ⟨hv,hm⟩] at hg
        cases hg
      · subst hv
        intro g' hg'
        rcases append_block_some base t o.type e i z size bytes ht hi hz hsize hby g n cap xs hown ad m c news hl hnews h1 h63 hbytes hrun g' hg' with h | h
        · exact .inl (by rw [h];rfl)
        · exact .inr h
    · exact append_block base t o.type e i z size bytes ht hi hz hsize hby v n xs hown ad m c news hl hnews h1 hm h63 hbytes hrun
  unfold Oper.wp execOp
  simp only [ho,resolve,invoke,builtin,Sem.run_bind,Sem.run_pure,Result.andThen_ok,List.map_toArray,List.map_cons,List.map_nil,hs,hx,hrun]
  exact h v' w' r1 r2 r4
def RR (w:World) (l:List UInt8) (out i:Value) (W:World):Prop :=
  ∃ k:Nat,k≤l.length∧i=.int .i64 k∧W.ownsRow w.heap.size 5 1 out (hexN (l.take k)).length (bv (hexN (l.take k)))∧Below w.heap.size w W
theorem cells_two_new (w:World) (x y:Value) (t:TypeId):∀ j u,[x,y][j]?=some u→(w.alloc (.cells #[x,y] t)).cell? ((⟨w.heap.size,0,none⟩:Addr).add j)=some u:=by
  intro j u hj
  rw [add_at rfl]
  have:=(Blk.new w #[x,y] t).cell (0+j) u (by rw [Nat.zero_add];simpa using hj)
  exact this
theorem fact_len4 {out l:List UInt8} {k n:Nat} (h:out.length=2*k) (hk:k≤l.length) (hl:l.length=n) (hn:n≤1048576):out.length+2≤maxLen∧(out.length+2)*1≤140737488355328:=by
  unfold maxLen
  omega
set_option maxRecDepth 100000 in
set_option maxHeartbeats 4000000 in
theorem ref_hex (s:ByteArray) (hs:s.size≤1048576) (w:World) :
    Calls Tryz.prog 46 #[.string s] w fun e w'=>e=.returned (.string ⟨(hexN s.data.toList).toArray⟩)∧Below w.heap.size w w':=by
  obtain ⟨i0,hi,hz0,hz1,hz2⟩:=info_parts Tryz.infoByte
  obtain ⟨l,hl⟩:∃ l,s.data.toList=l:=⟨_,rfl⟩
  have hll:l.length=s.size:=by rw [←hl];rfl
  have hget:∀ i (h:i<s.size),s[i].toNat=(l.getD i 0).toNat:=by
    intro i h
    have h2:s.data.toList[i]?=some s[i]:=by
      rw [List.getElem?_eq_some_iff];exact ⟨h,rfl⟩
    rw [hl] at h2
    simp [List.getD,h2]
  have HLL:=Lib.hid hll
  have HG:=Lib.hid hget
  have HL:=Lib.hid hl
  rw [hl]
  clear hl hll hget
  go_enter Tryz.func46,Tryz.ntmps46
  go_wp2_with fail
  go_loopw [3,4] (RR w l) (fun _ i _=>l.length - (intOf i).toNat)
  case atStart=>exact ⟨0,Nat.zero_le _,rfl,World.ownsRow_nil _ _ _ _,Below.refl _ _⟩
  case round =>
    obtain ⟨k,hk,rfl,hown,hb⟩:=hrel
    by_cases hlt:k<s.size
    · have hkl:k<l.length:=by rw [HLL.out];exact hlt
      obtain ⟨b,hbk⟩:∃ b,l[k]?=some b:=⟨_,List.getElem?_eq_getElem hkl⟩
      have hsb:s[k].toNat=b.toNat:=by
        have:=HG.out k hlt
        rw [show l.getD k 0=b by simp [List.getD,hbk]] at this
        exact this
      have htk:hexN (l.take (k+1))=hexN (l.take k)++[L16 (b.toNat / 16),L16 (b.toNat % 16)]:=by rw [take_snoc hbk,hexN_snoc]
      have hlen:=hexN_len (l.take k)
      rw [List.length_take,Nat.min_eq_left hk] at hlen
      have hbt:=b.toNat_lt
      obtain ⟨X,Y,hX,hY,hO,wb,HF⟩:=fact_h b
      rw [hX,hY] at htk
      have HTK:=Lib.hid htk
      obtain ⟨out,hS⟩:∃ st,hexN (l.take k)=st:=⟨_,rfl⟩
      rw [hS] at hown hlen HTK
      have k0:(0:Int)≤(k:Int):=by omega
      have k1:(k:Int)<(s.size:Int):=by omega
      have wk:wrap64 ((k:Int)+1)=(k:Int)+1:=by unfold wrap64;omega
      have HP:=Lib.hid (fact_len4 hlen hk HLL.out hs)
      have HFF:=Lib.hid HF
      have BSZ:=Lib.hid hb.size
      clear htk hS hX hY hlen hO hbt wb HF
      go_wp2_with fail
      refine region_plan (S:=fun w':World=>wr.heap.size≤w'.heap.size)
        ((0,true)::(1,true)::(2,true)::(3,true)::(4,true)::(5,true)::(6,true)::(7,true)::(8,true)::(9,true)::(10,true)::(11,false)::(12,false)::(13,true)::[])
        (by kernel_rfl) (by kernel_rfl) (by kernel_rfl) (by kernel_rfl) (fun _ _ _ dst _ h=>by cases dst<;>exact h) (Nat.le_refl _) (fun hH=>?_)
      clear hH
      obtain ⟨d1,aN,e0,e1,a0,y0,y1,d2⟩:=HFF.out
      have hidx:∀ (i:Nat) (h:i<(⟨#[48,49,50,51,52,53,54,55,56,57,97,98,99,100,101,102]⟩:ByteArray).size),(⟨#[48,49,50,51,52,53,54,55,56,57,97,98,99,100,101,102]⟩:ByteArray)[i].toNat=(L16 i).toNat:=fun i h=>get_alph digitsB i h
      have t1:(b.toNat:Int).tdiv 16=(X:Int):=by rw [Int.tdiv_eq_ediv_of_nonneg (by omega)];exact d1
      have t2:(b.toNat:Int).tmod 16=(Y:Int):=by rw [Int.tmod_eq_emod_of_nonneg (by omega)];exact d2
      have x8:IntKind.u8.wrap (X:Int)=(X:Int):=by rw [IntKind.wrap_u8];omega
      have y8:IntKind.u8.wrap (Y:Int)=(Y:Int):=by rw [IntKind.wrap_u8];omega
      clear d1 d2 aN a0
      (repeat (first | (refine plan_take (v:=?_) (by (simp only [ga1,ga2,ga3];exact rfl)) (by rfl) ?_ ?_;rotate_left;(focus (intro wS hS;(try dsimp only at hS);go_split_ands;go_simp;(try with_reducible rfl)));simp only [Act.put,pu1,pu2,pu3]) | (refine plan_skip (by (simp only [ga1,ga2,ga3];exact rfl)) (by rfl) ?_;simp only [Act.put,pu1,pu2,pu3])))
      (refine plan_solo (by (simp only [ga1,ga2,ga3];exact rfl)) (by rfl) ?_;intro K hK;go_simp)
      refine hK.out _ _ (by show wr.heap.size≤(wr.alloc _).heap.size;rw [World.size_alloc];exact Nat.le_succ _) (fun hH=>?_)
      clear hK K hH
      (try simp only [Act.put,pu1,pu2,pu3])
      (repeat (first | (refine plan_take (v:=?_) (by (simp only [ga1,ga2,ga3];exact rfl)) (by rfl) ?_ ?_;rotate_left;(focus (intro wS hS;(try dsimp only at hS);go_split_ands;go_simp;(try with_reducible rfl)));simp only [Act.put,pu1,pu2,pu3]) | (refine plan_skip (by (simp only [ga1,ga2,ga3];exact rfl)) (by rfl) ?_;simp only [Act.put,pu1,pu2,pu3])))
      (refine plan_solo (by (simp only [ga1,ga2,ga3];exact rfl)) (by rfl) ?_;intro K hK)
      refine oper_append_row _ _ 123 rfl w.heap.size 5 i0 (.int .u8 0) 1 1 Tryz.underlying123 hi hz0 hz1 hz2 rfl (by decide) _ _ _ rfl (w:=(wr.alloc _).drew) (hown.alloc _) ⟨wr.heap.size,0,none⟩ 2 2 [.int .u8 ((L16 X).toNat:Int),.int .u8 ((L16 Y).toNat:Int)] rfl rfl (cells_two_new _ _ _ _) (by simp [Value.oneCell']) HP.out.1 HP.out.2 (by show w.heap.size≤(wr.alloc _).heap.size;rw [World.size_alloc];exact Nat.le_succ_of_le BSZ.out) ?_
      intro v1 w1 own1 hgr hfr
      have hb1:Below w.heap.size w w1:=((hb.alloc BSZ.out _).drew).grown hgr (by show w.heap.size≤(wr.alloc _).heap.size;rw [World.size_alloc];exact Nat.le_succ_of_le BSZ.out) (fun j hj=>(hown.lt j hj).1)
      refine hK.out _ _ (Nat.le_trans (by show wr.heap.size≤(wr.alloc _).heap.size;rw [World.size_alloc];exact Nat.le_succ _) hgr.size) (fun hH=>?_)
      clear hK K hH hgr hfr
      (try simp only [Act.put,pu1,pu2,pu3])
      (repeat (first | (refine plan_take (v:=?_) (by (simp only [ga1,ga2,ga3];exact rfl)) (by rfl) ?_ ?_;rotate_left;(focus (intro wS hS;(try dsimp only at hS);go_split_ands;go_simp;(try with_reducible rfl)));simp only [Act.put,pu1,pu2,pu3]) | (refine plan_skip (by (simp only [ga1,ga2,ga3];exact rfl)) (by rfl) ?_;simp only [Act.put,pu1,pu2,pu3])))
      refine plan_nil ?_
      clear e0 e1 y0 y1 t1 t2 x8 y8 hidx
      go_wp2_with fail
      go_roundw
      case rel =>
        refine ⟨k+1,hkl,by go_num,?_,hb1⟩
        rw [HTK.out]
        simpa [bv] using own1
      case measure =>
        simp [intOf]<;>omega
    · obtain rfl:k=l.length:=by have:=HLL.out;omega
      have hk1:¬ ((l.length:Nat):Int)<(s.size:Int):=by have:=HLL.out;omega
      rw [List.take_length] at hown
      have hcv:=conv_own hown
      clear hown hk hlt
      go_wp2_with fail
      go_ret
      exact ⟨rfl,hb⟩
def tokN (n draw:Nat):List UInt8:=b64N (be8 n++be8 draw)
theorem be8_len (n:Nat):(be8 n).length=8:=rfl
set_option maxRecDepth 100000 in
set_option maxHeartbeats 2000000 in
theorem ref_token (n draw:Nat) (w:World) :
    Calls Tryz.prog 40 #[.int .u64 n,.int .u64 draw] w fun e w'=>e=.returned (.string ⟨(tokN n draw).toArray⟩)∧Below w.heap.size w w':=by
  obtain ⟨a,ha⟩:∃ a,be8 n=a:=⟨_,rfl⟩
  obtain ⟨b,hb⟩:∃ a,be8 draw=a:=⟨_,rfl⟩
  have la:a.length=8:=by rw [←ha];rfl
  have lb:b.length=8:=by rw [←hb];rfl
  have h1:=Lib.hid (ref_number8 n)
  have h2:=Lib.hid (ref_number8 draw)
  rw [ha] at h1
  rw [hb] at h2
  have hT:tokN n draw=b64N (a++b):=by unfold tokN;rw [ha,hb]
  rw [hT]
  obtain ⟨c,hc⟩:∃ c,a++b=c:=⟨_,rfl⟩
  have lc:c.length=16:=by rw [←hc,List.length_append,la,lb]
  have e1:∀ W,(Op.stringOp .add ⟨a.toArray⟩ ⟨b.toArray⟩).run Tryz.prog W=.ok (.string ⟨c.toArray⟩) W:=fun W=>by rw [←hc];exact str_add _ _ (by omega) W
  have h3:=Lib.hid (ref_base64 ⟨c.toArray⟩ (by show c.toArray.size≤_;simp [lc]))
  rw [hc]
  clear ha hb la lb hT hc lc
  go_enter Tryz.func40,Tryz.ntmps40
  go_wp2_with fail
  refine (h1.out _).mono ?_
  rintro e w1 ⟨rfl,hb1⟩
  go_wp2_with fail
  refine (h2.out _).mono ?_
  rintro e w2 ⟨rfl,hb2⟩
  have b2:Below w.heap.size w w2:=hb1.trans (hb2.mono hb1.size)
  clear hb1 hb2
  go_wp2_with fail
  refine (h3.out _).mono ?_
  rintro e w3 ⟨rfl,hb3⟩
  have b3:Below w.heap.size w w3:=b2.trans (hb3.mono b2.size)
  clear hb3 b2 h1 h2 h3
  go_wp2_with fail
  go_ret
  exact ⟨rfl,b3⟩
set_option maxRecDepth 100000 in
set_option maxHeartbeats 2000000 in
theorem mod_token (n draw:Nat) (hn:n<18446744073709551616) (hd:draw<18446744073709551616) (w:World) :
    Calls Tryz.prog 119 #[.int .u64 n,.int .u64 draw] w fun e w'=>e=.returned (.string ⟨(tokN n draw).toArray⟩)∧Below w.heap.size w w':=by
  have Q1:=Lib.hid (show putW 16 (some []) (be8 n)=some (be8 n) from putW_nil _ (by rw [be8_len];decide))
  have Q2:=Lib.hid (show putW 16 (some (be8 n)) (be8 draw)=some (be8 n++be8 draw) by
    have e:some (be8 n)=putW 16 (some []) (be8 n):=(putW_nil _ (by rw [be8_len];decide)).symm
    rw [e,putW_append];exact putW_nil _ (by rw [List.length_append,be8_len,be8_len];decide))
  have h3:=Lib.hid (mod_base64 ⟨(be8 n++be8 draw).toArray⟩ (by show (be8 n++be8 draw).toArray.size≤_;simp [be8]))
  have HT:=Lib.hid (show tokN n draw=b64N (be8 n++be8 draw) from rfl)
  go_enter Tryz.func119,Tryz.ntmps119
  go_wp2_with fail
  have h16:(16:Int)=((16:Nat):Int):=rfl
  refine (writer_new (M:=16) (by decide) w).mono ?_
  rintro e W1 ⟨rfl,hw1,hb1,hs1⟩
  have AA1:=Lib.hid (show WrAt 16 w w.heap.size (some []) W1 from ⟨_,hw1,hb1⟩)
  have BB1:=Lib.hid hb1
  clear hw1 hb1 hs1
  go_wp2_with fail
  refine (AA1.out.puts (st':=some (be8 n)) (fun F hF hB=>by rw [←Q1.out];exact writer_u64 hF hB n hn)).mono ?_
  rintro e W2 ⟨rfl,A2,o2⟩
  have BB2:=Lib.hid (BB1.out.trans (o2.below BB1.out.size (fun k hk=>hk)))
  have AA2:=Lib.hid A2
  clear A2 o2
  go_wp2_with fail
  refine (AA2.out.puts (st':=some (be8 n++be8 draw)) (fun F hF hB=>by rw [←Q2.out];exact writer_u64 hF hB draw hd)).mono ?_
  rintro e W3 ⟨rfl,A3,o3⟩
  have BB3:=Lib.hid (BB2.out.trans (o3.below BB2.out.size (fun k hk=>hk)))
  have AA3:=Lib.hid A3
  clear A3 o3
  go_wp2_with fail
  have bend:=BB3.out
  obtain ⟨F3,hF3,_⟩:=AA3.out
  refine (writer_done hF3).mono ?_
  rintro e W6 ⟨rfl,hu⟩
  obtain rfl:=hu.symm
  have hst:strW (some (be8 n++be8 draw))=⟨(be8 n++be8 draw).toArray⟩:=rfl
  rw [hst]
  clear hst hF3
  go_wp2_with fail
  refine (h3.out _).mono ?_
  rintro e W7 ⟨rfl,hb7⟩
  have b7:Below w.heap.size w W7:=bend.trans (hb7.mono bend.size)
  clear hb7 h3
  go_wp2_with fail
  go_ret
  exact ⟨by rw [HT.out];rfl,b7⟩
theorem L64_fin:∀ i j:Fin 64,L64 i.val=L64 j.val→i=j:=by decide +kernel
theorem L64_inj {i j:Nat} (hi:i<64) (hj:j<64) (h:L64 i=L64 j):i=j:=by
  have:=L64_fin ⟨i,hi⟩ ⟨j,hj⟩ h
  exact congrArg Fin.val this
theorem be8_inj {n m:Nat} (hn:n<18446744073709551616) (hm:m<18446744073709551616) (h:be8 n=be8 m):n=m:=by
  unfold be8 at h
  simp only [List.cons.injEq,and_true] at h
  obtain ⟨h7,h6,h5,h4,h3,h2,h1,h0⟩:=h
  have e:∀ {a b:Nat},UInt8.ofNat a=UInt8.ofNat b→a % 256=b % 256:=by
    intro a b h
    have:=congrArg UInt8.toNat h
    simpa [UInt8.toNat_ofNat'] using this
  have g7:=e h7
  have g6:=e h6
  have g5:=e h5
  have g4:=e h4
  have g3:=e h3
  have g2:=e h2
  have g1:=e h1
  have g0:=e h0
  clear h7 h6 h5 h4 h3 h2 h1 h0 e
  omega
theorem bfold_three (out:List UInt8) (a b c:UInt8) (r:List UInt8):List.foldl bstep (out,0,0) (a::b::c::r) =
    List.foldl bstep (out++[L64 (a.toNat / 4),L64 ((a.toNat % 4*256+b.toNat) / 16),L64 ((b.toNat % 16*256+c.toNat) / 64),L64 (c.toNat % 64)],0,0) r:=by
  simp only [List.foldl_cons,bstep_0,bstep_2,bstep_4,List.append_assoc,List.cons_append,List.nil_append]
def four (a b c:UInt8):List UInt8:=[L64 (a.toNat / 4),L64 ((a.toNat % 4*256+b.toNat) / 16),L64 ((b.toNat % 16*256+c.toNat) / 64),L64 (c.toNat % 64)]
theorem b64_all (x0 x1 x2 x3 x4 x5 x6 x7 y0 y1 y2 y3 y4 y5 y6 y7:UInt8):b64N [x0,x1,x2,x3,x4,x5,x6,x7,y0,y1,y2,y3,y4,y5,y6,y7] =
    []++four x0 x1 x2++four x3 x4 x5++four x6 x7 y0++four y1 y2 y3++four y4 y5 y6++[L64 (y7.toNat / 4)]++[L64 (y7.toNat % 4*2 ^ (6 - 2))]:=by
  have e:bfold [x0,x1,x2,x3,x4,x5,x6,x7,y0,y1,y2,y3,y4,y5,y6,y7]=([]++four x0 x1 x2++four x3 x4 x5++four x6 x7 y0++four y1 y2 y3++four y4 y5 y6++[L64 (y7.toNat / 4)],y7.toNat % 4,2):=by
    unfold bfold
    rw [bfold_three,bfold_three,bfold_three,bfold_three,bfold_three,List.foldl_cons,bstep_0,List.foldl_nil]
    rfl
  unfold b64N
  rw [e]
  rfl
theorem b64_head (x0 x1 x2 x3 x4 x5 x6 x7 y0 y1 y2 y3 y4 y5 y6 y7:UInt8):∃ r,b64N [x0,x1,x2,x3,x4,x5,x6,x7,y0,y1,y2,y3,y4,y5,y6,y7] =
    L64 (x0.toNat / 4)::L64 ((x0.toNat % 4*256+x1.toNat) / 16)::L64 ((x1.toNat % 16*256+x2.toNat) / 64)::L64 (x2.toNat % 64) ::
    L64 (x3.toNat / 4)::L64 ((x3.toNat % 4*256+x4.toNat) / 16)::L64 ((x4.toNat % 16*256+x5.toNat) / 64)::L64 (x5.toNat % 64) ::
    L64 (x6.toNat / 4)::L64 ((x6.toNat % 4*256+x7.toNat) / 16)::L64 ((x7.toNat % 16*256+y0.toNat) / 64)::r:=by
  rw [b64_all]
  simp only [four,List.nil_append,List.cons_append]
  exact ⟨_,rfl⟩
theorem three_inj {a b c a' b' c':UInt8} (h1:L64 (a.toNat / 4)=L64 (a'.toNat / 4)) (h2:L64 ((a.toNat % 4*256+b.toNat) / 16)=L64 ((a'.toNat % 4*256+b'.toNat) / 16))
    (h3:L64 ((b.toNat % 16*256+c.toNat) / 64)=L64 ((b'.toNat % 16*256+c'.toNat) / 64)):a=a'∧b=b'∧c.toNat / 64=c'.toNat / 64:=by
  have e1:=a.toNat_lt;have e2:=b.toNat_lt;have e3:=c.toNat_lt
  have f1:=a'.toNat_lt;have f2:=b'.toNat_lt;have f3:=c'.toNat_lt
  have g1:=L64_inj (by omega) (by omega) h1
  have g2:=L64_inj (by omega) (by omega) h2
  have g3:=L64_inj (by omega) (by omega) h3
  clear h1 h2 h3
  have k1:a.toNat=a'.toNat:=by omega
  have k2:b.toNat=b'.toNat:=by omega
  have k3:c.toNat / 64=c'.toNat / 64:=by omega
  exact ⟨UInt8.toNat_inj.1 k1,UInt8.toNat_inj.1 k2,k3⟩
theorem last_inj {c c':UInt8} (h:c.toNat / 64=c'.toNat / 64) (h4:L64 (c.toNat % 64)=L64 (c'.toNat % 64)):c=c':=by
  have g4:=L64_inj (by omega) (by omega) h4
  exact UInt8.toNat_inj.1 (by omega)
theorem list8 {x:List UInt8} (h:x.length=8):∃ x0 x1 x2 x3 x4 x5 x6 x7,x=[x0,x1,x2,x3,x4,x5,x6,x7]:=by
  match x,h with
  | [x0,x1,x2,x3,x4,x5,x6,x7],_=>exact ⟨x0,x1,x2,x3,x4,x5,x6,x7,rfl⟩
theorem tok_inj {n m d e:Nat} (hn:n<18446744073709551616) (hm:m<18446744073709551616) (h:tokN n d=tokN m e):n=m:=by
  refine be8_inj hn hm ?_
  unfold tokN at h
  have hx:=be8_len n
  have hy:=be8_len m
  have hp:=be8_len d
  have hq:=be8_len e
  generalize be8 n=x at *
  generalize be8 m=y at *
  generalize be8 d=p at *
  generalize be8 e=q at *
  obtain ⟨x0,x1,x2,x3,x4,x5,x6,x7,rfl⟩:=list8 hx
  obtain ⟨z0,z1,z2,z3,z4,z5,z6,z7,rfl⟩:=list8 hy
  obtain ⟨p0,p1,p2,p3,p4,p5,p6,p7,rfl⟩:=list8 hp
  obtain ⟨q0,q1,q2,q3,q4,q5,q6,q7,rfl⟩:=list8 hq
  obtain ⟨r,hr⟩:=b64_head x0 x1 x2 x3 x4 x5 x6 x7 p0 p1 p2 p3 p4 p5 p6 p7
  obtain ⟨r',hr'⟩:=b64_head z0 z1 z2 z3 z4 z5 z6 z7 q0 q1 q2 q3 q4 q5 q6 q7
  simp only [List.cons_append,List.nil_append] at h
  rw [hr,hr'] at h
  simp only [List.cons.injEq] at h
  obtain ⟨a1,a2,a3,a4,a5,a6,a7,a8,a9,a10,a11,_⟩:=h
  obtain ⟨b1,b2,b3⟩:=three_inj a1 a2 a3
  obtain ⟨b5,b6,b7⟩:=three_inj a5 a6 a7
  obtain ⟨b9,b10,_⟩:=three_inj a9 a10 a11
  rw [b1,b2,last_inj b3 a4,b5,b6,last_inj b7 a8,b9,b10]
theorem tok_len (n d:Nat):(tokN n d).length=22:=by
  have key:∀ (x p:List UInt8),x.length=8→p.length=8→(b64N (x++p)).length=22:=by
    intro x p hx hp
    match x,hx,p,hp with
    | [x0,x1,x2,x3,x4,x5,x6,x7],_,[p0,p1,p2,p3,p4,p5,p6,p7],_ =>
      have h:=b64_all x0 x1 x2 x3 x4 x5 x6 x7 p0 p1 p2 p3 p4 p5 p6 p7
      show (b64N [x0,x1,x2,x3,x4,x5,x6,x7,p0,p1,p2,p3,p4,p5,p6,p7]).length=22
      rw [h]
      simp [four]
  exact key _ _ rfl rfl
def ttlN (n:Int):Bool:=decide (1≤n) && decide (n≤2147483647)
theorem ref_ttl (n:Int) (w:World):Calls Tryz.prog 39 #[.int .i64 n] w fun e w'=>e=.returned (.bool (ttlN n))∧w'=w:=by
  unfold ttlN
  by_cases h1:1≤n
  · by_cases h2:n≤2147483647
    all_goals
      go_enter Tryz.func39,Tryz.ntmps39
      go_wp2_with fail
      go_ret
      exact ⟨by simp [h1,h2],rfl⟩
  · go_enter Tryz.func39,Tryz.ntmps39
    go_wp2_with fail
    go_ret
    exact ⟨by rw [show decide (1≤n)=false from decide_eq_false (by omega)];rfl,rfl⟩
theorem mod_ttl (n:Int) (w:World):Calls Tryz.prog 118 #[.int .i64 n] w fun e w'=>e=.returned (.bool (ttlN n))∧w'=w:=by
  unfold ttlN
  by_cases h1:1≤n
  · by_cases h2:n≤2147483647
    all_goals
      go_enter Tryz.func118,Tryz.ntmps118
      go_wp2_with fail
      go_ret
      exact ⟨by simp [h1,h2],rfl⟩
  · go_enter Tryz.func118,Tryz.ntmps118
    go_wp2_with fail
    go_ret
    exact ⟨by rw [show decide (1≤n)=false from decide_eq_false (by omega)];rfl,rfl⟩
def untilN (now ttl:Nat):Nat:=if 9223372036854775807 - ttl<now then 9223372036854775807 else now+ttl
theorem untilN_pos {now ttl:Nat} (h:1≤ttl):0<untilN now ttl:=by unfold untilN;split<;>omega
theorem untilN_lt {now ttl:Nat} (h:ttl≤2147483647):untilN now ttl<18446744073709551616:=by unfold untilN;split<;>omega
theorem ref_until (now ttl:Nat) (ht:ttl≤2147483647) (w:World):Calls Tryz.prog 41 #[.int .u64 now,.int .i64 ttl] w fun e w'=>e=.returned (.int .u64 (untilN now ttl:Nat))∧w'=w:=by
  have w1:IntKind.u64.wrap (ttl:Int)=(ttl:Int):=by rw [IntKind.wrap_u64];omega
  have w2:IntKind.u64.wrap (9223372036854775807 - (ttl:Int))=9223372036854775807 - (ttl:Int):=by rw [IntKind.wrap_u64];omega
  by_cases h:9223372036854775807 - ttl<now
  · have h':9223372036854775807 - (ttl:Int)<(now:Int):=by omega
    have e:untilN now ttl=9223372036854775807:=by unfold untilN;rw [if_pos h]
    rw [e]
    clear h e
    go_enter Tryz.func41,Tryz.ntmps41
    go_wp2_with fail
    go_ret
    exact ⟨rfl,rfl⟩
  · have h':¬ 9223372036854775807 - (ttl:Int)<(now:Int):=by omega
    have w3:IntKind.u64.wrap ((now:Int)+(ttl:Int))=(now:Int)+(ttl:Int):=by rw [IntKind.wrap_u64];omega
    have e:untilN now ttl=now+ttl:=by unfold untilN;rw [if_neg h]
    rw [e]
    clear h e
    go_enter Tryz.func41,Tryz.ntmps41
    go_wp2_with fail
    go_ret
    exact ⟨by simp,rfl⟩
theorem mod_until (now ttl:Nat) (ht:ttl≤2147483647) (w:World):Calls Tryz.prog 120 #[.int .u64 now,.int .i64 ttl] w fun e w'=>e=.returned (.int .u64 (untilN now ttl:Nat))∧w'=w:=by
  have w1:IntKind.u64.wrap (ttl:Int)=(ttl:Int):=by rw [IntKind.wrap_u64];omega
  have w2:IntKind.u64.wrap (9223372036854775807 - (ttl:Int))=9223372036854775807 - (ttl:Int):=by rw [IntKind.wrap_u64];omega
  by_cases h:9223372036854775807 - ttl<now
  · have h':9223372036854775807 - (ttl:Int)<(now:Int):=by omega
    have e:untilN now ttl=9223372036854775807:=by unfold untilN;rw [if_pos h]
    rw [e]
    clear h e
    go_enter Tryz.func120,Tryz.ntmps120
    go_wp2_with fail
    go_ret
    exact ⟨rfl,rfl⟩
  · have h':¬ 9223372036854775807 - (ttl:Int)<(now:Int):=by omega
    have w3:IntKind.u64.wrap ((now:Int)+(ttl:Int))=(now:Int)+(ttl:Int):=by rw [IntKind.wrap_u64];omega
    have e:untilN now ttl=now+ttl:=by unfold untilN;rw [if_neg h]
    rw [e]
    clear h e
    go_enter Tryz.func120,Tryz.ntmps120
    go_wp2_with fail
    go_ret
    exact ⟨by simp,rfl⟩
structure Ans where
  status:Int
  word:ByteArray
  token:ByteArray
  user:ByteArray
  data:ByteArray
  expires:Int
  revoked:Int
  tokens:Value
  entries:Value
  head:ByteArray
  live:Int
  users:Int
  total:Int
  next:Int
def ansArr (a:Ans):Array Value:=#[.int .i64 a.status,.string a.word,.string a.token,.string a.user,.string a.data,.int .u64 a.expires,.int .i64 a.revoked,a.tokens,a.entries,.string a.head,.int .i64 a.live,.int .i64 a.users,.int .i64 a.total,.int .i64 a.next]
def Ans.zero:Ans:=⟨0,⟨#[]⟩,⟨#[]⟩,⟨#[]⟩,⟨#[]⟩,0,0,.slice none 0 0,.slice none 0 0,⟨#[]⟩,0,0,0,0⟩
theorem Tryz.size35:(Tryz.prog.info? 35).map (·.size)=some 14:=by kernel_rfl
set_option maxRecDepth 100000 in
set_option maxHeartbeats 1000000 in
theorem ref_bad (st:Int) (word:ByteArray) (w:World):Calls Tryz.prog 20 #[.int .i64 st,.string word] w fun e w'=>e=.returned (.agg (ansArr { Ans.zero with status:=st,word:=word }))∧Below w.heap.size w w':=by
  go_enter Tryz.func20,Tryz.ntmps20
  go_wp2_with (refine wpList_store_new rfl 35 (Operand.tmp 4) (Operand.tmp 7) rfl rfl (ansArr { Ans.zero with status:=st,word:=word }) rfl (by exact Tryz.size35) rfl (by simp [ansArr,Ans.zero,Value.oneCell']) ?_;intro w2 hk2 hb2 hs2)
  refine body_cell rfl rfl rfl hk2 Tryz.underlying35 rfl (by exact Tryz.size35) ?_
  exact ⟨rfl,hb2⟩
def refN (st:Int):ByteArray:=if st=400 then ⟨#[98,97,100]⟩ else if st=404 then ⟨#[109,105,115,115,105,110,103]⟩ else if st=429 then ⟨#[113,117,111,116,97]⟩ else ⟨#[]⟩
theorem str_ext {a b:ByteArray} (h:a.data.toList=b.data.toList):a=b:=by
  cases a;cases b
  simp only [ByteArray.mk.injEq]
  exact Array.toList_inj.1 h
theorem str_beq {a b:ByteArray}:(a.toList == b.toList)=true↔a=b:=by
  rw [beq_iff_eq,Lib.toList_data,Lib.toList_data]
  exact ⟨fun h=>str_ext h,by rintro rfl;rfl⟩
theorem str_beq_false {a b:ByteArray}:(a.toList == b.toList)=false↔a≠b:=by
  rw [Bool.eq_false_iff,Ne,str_beq]
def SLt (a b:ByteArray):Prop:=Op.bytesLess a.data.toList b.data.toList=true
instance (a b:ByteArray):Decidable (SLt a b):=by unfold SLt;infer_instance
theorem less_irrefl (a:List UInt8):Op.bytesLess a a=false:=by
  induction a with
  | nil=>rfl
  | cons x a ih=>simp [Op.bytesLess,ih]
theorem less_trans:∀ {a b c:List UInt8},Op.bytesLess a b=true→Op.bytesLess b c=true→Op.bytesLess a c=true:=by
  intro a
  induction a with
  | nil=>intro b c h1 h2;cases b with
    | nil=>simp [Op.bytesLess] at h1
    | cons y b=>cases c with
      | nil=>simp [Op.bytesLess] at h2
      | cons z c=>rfl
  | cons x a ih=>intro b c h1 h2;cases b with
    | nil=>simp [Op.bytesLess] at h1
    | cons y b=>cases c with
      | nil=>simp [Op.bytesLess] at h2
      | cons z c =>
        simp only [Op.bytesLess,Bool.or_eq_true,Bool.and_eq_true,decide_eq_true_eq,beq_iff_eq] at *
        rcases h1 with h1 | ⟨rfl,h1⟩
        · rcases h2 with h2 | ⟨rfl,_⟩
          · exact .inl (UInt8.lt_trans h1 h2)
          · exact .inl h1
        · rcases h2 with h2 | ⟨rfl,h2⟩
          · exact .inl h2
          · exact .inr ⟨rfl,ih h1 h2⟩
theorem less_total:∀ (a b:List UInt8),Op.bytesLess a b=true∨a=b∨Op.bytesLess b a=true:=by
  intro a
  induction a with
  | nil=>intro b;cases b with
    | nil=>exact .inr (.inl rfl)
    | cons y b=>exact .inl rfl
  | cons x a ih=>intro b;cases b with
    | nil=>exact .inr (.inr rfl)
    | cons y b =>
      simp only [Op.bytesLess,Bool.or_eq_true,Bool.and_eq_true,decide_eq_true_eq,beq_iff_eq]
      rcases UInt8.lt_or_lt_of_ne (a:=x) (b:=y) |> fun h=>Classical.em (x=y) |>.imp id h with rfl | h | h
      · rcases ih b with h | rfl | h
        · exact .inl (.inr ⟨rfl,h⟩)
        · exact .inr (.inl rfl)
        · exact .inr (.inr (.inr ⟨rfl,h⟩))
      · exact .inl (.inl h)
      · exact .inr (.inr (.inl h))
theorem SLt.irrefl (a:ByteArray):¬ SLt a a:=by unfold SLt;rw [less_irrefl];simp
theorem SLt.trans {a b c:ByteArray} (h:SLt a b) (k:SLt b c):SLt a c:=less_trans h k
theorem SLt.total (a b:ByteArray):SLt a b∨a=b∨SLt b a:=by
  rcases less_total a.data.toList b.data.toList with h | h | h
  · exact .inl h
  · exact .inr (.inl (str_ext h))
  · exact .inr (.inr h)
theorem SLt.ne {a b:ByteArray} (h:SLt a b):a≠b:=by rintro rfl;exact SLt.irrefl _ h
structure Ses where
  tok:ByteArray
  usr:ByteArray
  dat:ByteArray
  exp:Nat
structure Hs where
  quota:Int
  ses:List Ses
  next:Nat
  ents:List Ent
structure Cl where
  kind:Int
  ten:Int
  tok:ByteArray
  usr:ByteArray
  dat:ByteArray
  ttl:Int
  frm:Int
  draw:Nat
structure Cl.Ok (c:Cl):Prop where
  kind:-9223372036854775808≤c.kind∧c.kind<9223372036854775808
  ten:-9223372036854775808≤c.ten∧c.ten<9223372036854775808
  tok:c.tok.size≤maxLen
  usr:c.usr.size≤maxLen
  dat:c.dat.size≤maxLen
  ttl:-9223372036854775808≤c.ttl∧c.ttl<9223372036854775808
  frm:-9223372036854775808≤c.frm∧c.frm<9223372036854775808
  draw:c.draw<18446744073709551616
structure An where
  status:Int:=0
  word:ByteArray:=⟨#[]⟩
  tok:ByteArray:=⟨#[]⟩
  usr:ByteArray:=⟨#[]⟩
  dat:ByteArray:=⟨#[]⟩
  exp:Nat:=0
  rev:Nat:=0
  toks:List ByteArray:=[]
  ents:List Ent:=[]
  head:ByteArray:=⟨#[]⟩
  live:Nat:=0
  users:Nat:=0
  total:Nat:=0
  next:Nat:=0
def badA (st:Int):An:={ status:=st,word:=refN st }
def liveN (S:List Ses) (now:Nat):List Ses:=S.filter fun s=>decide (now<s.exp)
def hitB (tok:ByteArray) (now:Nat) (s:Ses):Bool:=s.tok.toList == tok.toList && decide (now<s.exp)
def findN (S:List Ses) (tok:ByteArray) (now:Nat):Option Ses:=S.find? (hitB tok now)
def insN (s:Ses):List Ses→List Ses
  | []=>[s]
  | x::l=>if SLt x.tok s.tok then x::insN s l else s::x::l
def noteN (es:List Ent) (kind now:Nat) (sub:ByteArray):List Ent:=es++[⟨es.length+1,kind,now,sub⟩]
def tokB (n d:Nat):ByteArray:=⟨(tokN n d).toArray⟩
def createB (c:Cl):Bool:=nameN c.usr && decide (c.dat.size≤512) && validN c.dat && ttlN c.ttl
def createN (h:Hs) (c:Cl) (now:Nat):An×Hs :=
  if createB c=false then (badA 400,h)
  else if h.quota≤((liveN h.ses now).length:Int) then (badA 429,h)
  else ({ status:=201,tok:=tokB h.next c.draw,exp:=untilN now c.ttl.toNat },
    { h with ses:=insN ⟨tokB h.next c.draw,c.usr,c.dat,untilN now c.ttl.toNat⟩ h.ses,next:=h.next+1,ents:=noteN h.ents 1 now (tokB h.next c.draw) })
def getN (h:Hs) (c:Cl) (now:Nat):An×Hs :=
  match findN h.ses c.tok now with
  | none=>(badA 404,h)
  | some s=>({ status:=200,usr:=s.usr,dat:=s.dat,exp:=s.exp },h)
def setExp (tok:ByteArray) (e:Nat) (s:Ses):Ses:=if s.tok.toList == tok.toList then { s with exp:=e } else s
def touchN (h:Hs) (c:Cl) (now:Nat):An×Hs :=
  if ttlN c.ttl=false then (badA 400,h)
  else match findN h.ses c.tok now with
  | none=>(badA 404,h)
  | some s=>({ status:=200,exp:=untilN now c.ttl.toNat },{ h with ses:=h.ses.map (setExp c.tok (untilN now c.ttl.toNat)),ents:=noteN h.ents 3 now c.tok })
def revokeN (h:Hs) (c:Cl) (now:Nat):An×Hs :=
  match findN h.ses c.tok now with
  | none=>(badA 404,h)
  | some s=>({ status:=204 },{ h with ses:=h.ses.filter (fun s=>!(s.tok.toList == c.tok.toList)),ents:=noteN h.ents 4 now c.tok })
def usrB (usr:ByteArray) (now:Nat) (s:Ses):Bool:=s.usr.toList == usr.toList && decide (now<s.exp)
def liveB (now:Nat) (s:Ses):Bool:=decide (now<s.exp)
def takesN (h:Hs) (p:Ses→Bool) (kind now:Nat) (sub:ByteArray):An×Hs :=
  ({ status:=200,rev:=(h.ses.filter p).length },{ h with ses:=h.ses.filter (fun s=>!p s),ents:=if 0<(h.ses.filter p).length then noteN h.ents kind now sub else h.ents })
def revokeUserN (h:Hs) (c:Cl) (now:Nat):An×Hs :=
  if nameN c.usr=false then (badA 400,h) else takesN h (usrB c.usr now) 5 now c.usr
def revokeAllN (h:Hs) (c:Cl) (now:Nat):An×Hs:=takesN h (liveB now) 6 now ⟨#[]⟩
def listN (h:Hs) (c:Cl) (now:Nat):An×Hs :=
  if nameN c.usr=false then (badA 400,h) else ({ status:=200,toks:=(h.ses.filter (usrB c.usr now)).map (·.tok) },h)
def auditN (h:Hs) (c:Cl):An×Hs :=
  if c.frm<1 then (badA 400,h) else ({ status:=200,head:=⟨(hexN (headN h.ents)).toArray⟩,ents:=(h.ents.drop (c.frm.toNat - 1)).take 16 },h)
def usersN:List Ses→List ByteArray
  | []=>[]
  | s::l=>let r:=usersN l;if r.any (fun u=>u.toList == s.usr.toList) then r else s.usr::r
def statsN (h:Hs) (now:Nat):An×Hs :=
  ({ status:=200,live:=(liveN h.ses now).length,users:=(usersN (liveN h.ses now).reverse).length,total:=h.ents.length,next:=h.next },h)
def doH (h:Hs) (c:Cl) (now:Nat):An×Hs :=
  if c.kind=1 then createN h c now else if c.kind=2 then getN h c now else if c.kind=3 then touchN h c now else if c.kind=4 then revokeN h c now
  else if c.kind=5 then revokeUserN h c now else if c.kind=6 then revokeAllN h c now else if c.kind=7 then listN h c now else if c.kind=8 then auditN h c
  else if c.kind=9 then statsN h now else (badA 400,h)
def houseN (L:List Hs) (t:Int):Option Hs:=if 0≤t then L[t.toNat]? else none
def doN (L:List Hs) (c:Cl) (now:Nat):An×List Hs :=
  match houseN L c.ten with
  | none=>(badA 400,L)
  | some h=>((doH h c now).1,L.set c.ten.toNat (doH h c now).2)
end Go.Proofs.YtmdgeknnhckgfaaGreatDoor
