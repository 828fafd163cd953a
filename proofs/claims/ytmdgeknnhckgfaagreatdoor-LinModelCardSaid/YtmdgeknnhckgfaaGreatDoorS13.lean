/-
  Parts of the proof of the law LinModel: B64, Gr, Hex.
-/
import Derived.Test.YtmdgeknnhckgfaaGreatDoorS01
import Derived.Test.YtmdgeknnhckgfaaGreatDoorS12
set_option linter.unusedSimpArgs false
set_option linter.unusedVariables false
namespace Go.Proofs.YtmdgeknnhckgfaaGreatDoor
open Go Go.RowKit
theorem wraps62 (n:Int) (h0:0≤n) (h1:n<2 ^ 62):IntKind.i64.wrap n=n:=IntWalk.i64_in n (by omega)
theorem and_mask (x:Nat) (h:x<4611686018427387904) (i:Nat) (hi:i≤62):bits .and .i64 (x:Int) (2 ^ i - 1)=((x % 2 ^ i:Nat):Int):=by
  rw [bits_mask .i64 62 (by decide) wraps62 i hi (x:Int) (by omega) (by omega)]
  simp
theorem and3 (x:Nat) (h:x<4611686018427387904):bits .and .i64 (x:Int) 3=((x % 4:Nat):Int):=and_mask x h 2 (by decide)
theorem and15 (x:Nat) (h:x<4611686018427387904):bits .and .i64 (x:Int) 15=((x % 16:Nat):Int):=and_mask x h 4 (by decide)
theorem and63 (x:Nat) (h:x<4611686018427387904):bits .and .i64 (x:Int) 63=((x % 64:Nat):Int):=and_mask x h 6 (by decide)
theorem and0 (x:Nat) (h:x<4611686018427387904):bits .and .i64 (x:Int) 0=0:=by
  have:=and_mask x h 0 (by decide)
  simpa [Nat.mod_one] using this
def lettersB:ByteArray:=⟨#[65,66,67,68,69,70,71,72,73,74,75,76,77,78,79,80,81,82,83,84,85,86,87,88,89,90,97,98,99,100,101,102,103,104,105,106,107,108,109,110,111,112,113,114,115,116,117,118,119,120,121,122,48,49,50,51,52,53,54,55,56,57,45,95]⟩
def digitsB:ByteArray:=⟨#[48,49,50,51,52,53,54,55,56,57,97,98,99,100,101,102]⟩
def L64 (i:Nat):UInt8:=lettersB.get! i
def L16 (i:Nat):UInt8:=digitsB.get! i
def bstep (st:List UInt8×Nat×Nat) (b:UInt8):List UInt8×Nat×Nat :=
  if st.2.2=0 then (st.1++[L64 (b.toNat / 4)],b.toNat % 4,2)
  else if st.2.2=2 then (st.1++[L64 ((st.2.1*256+b.toNat) / 16)],b.toNat % 16,4)
  else (st.1++[L64 ((st.2.1*256+b.toNat) / 64),L64 (b.toNat % 64)],0,0)
def bfold (l:List UInt8):List UInt8×Nat×Nat:=l.foldl bstep ([],0,0)
def b64N (l:List UInt8):List UInt8 :=
  let st:=bfold l
  if st.2.2=0 then st.1 else st.1++[L64 (st.2.1*2 ^ (6 - st.2.2))]
theorem bfold_snoc (l:List UInt8) (b:UInt8):bfold (l++[b])=bstep (bfold l) b:=by
  unfold bfold;rw [List.foldl_append];rfl
def StOk (st:List UInt8×Nat×Nat):Prop:=(st.2.2=0∧st.2.1=0)∨(st.2.2=2∧st.2.1<4)∨(st.2.2=4∧st.2.1<16)
theorem bstep_ok {st:List UInt8×Nat×Nat} (h:StOk st) (b:UInt8):StOk (bstep st b):=by
  have hb:=b.toNat_lt
  unfold StOk bstep at *
  rcases h with ⟨h1,h2⟩ | ⟨h1,h2⟩ | ⟨h1,h2⟩
  · rw [if_pos h1];right;left;exact ⟨rfl,by show b.toNat % 4<4;omega⟩
  · rw [if_neg (by omega),if_pos h1];right;right;exact ⟨rfl,by show b.toNat % 16<16;omega⟩
  · rw [if_neg (by omega),if_neg (by omega)];left;exact ⟨rfl,rfl⟩
theorem bfold_ok:∀ l:List UInt8,StOk (l.foldl bstep ([],0,0)):=by
  intro l
  have:∀ (l:List UInt8) (st:List UInt8×Nat×Nat),StOk st→StOk (l.foldl bstep st):=by
    intro l
    induction l with
    | nil=>intro st h;exact h
    | cons b l ih=>intro st h;exact ih _ (bstep_ok h b)
  exact this l _ (.inl ⟨rfl,rfl⟩)
theorem bstep_len (st:List UInt8×Nat×Nat) (b:UInt8):(bstep st b).1.length≤st.1.length+2:=by
  unfold bstep;split
  · simp
  · split<;>simp
theorem bfold_len (l:List UInt8):(bfold l).1.length≤2*l.length:=by
  have:∀ (l:List UInt8) (st:List UInt8×Nat×Nat),(l.foldl bstep st).1.length≤st.1.length+2*l.length:=by
    intro l
    induction l with
    | nil=>intro st;simp
    | cons b l ih=>intro st;have:=ih (bstep st b);have:=bstep_len st b;simp only [List.foldl_cons,List.length_cons];omega
  have:=this l ([],0,0)
  simpa [bfold] using this
def hexN (l:List UInt8):List UInt8:=l.flatMap fun b=>[L16 (b.toNat / 16),L16 (b.toNat % 16)]
theorem letters_size:lettersB.size=64:=by decide
theorem digits_size:digitsB.size=16:=by decide
theorem get_alph (s:ByteArray) (i:Nat) (h:i<s.size):s[i].toNat=(s.get! i).toNat:=by
  congr 1
  exact (getElem!_pos s.data i h).symm
theorem fact_len {out l:List UInt8} {k n:Nat} (h:out.length≤2*k) (hk:k≤l.length) (hl:l.length=n) (hn:n≤1048576):out.length+1≤maxLen∧(out.length+1)*1≤140737488355328∧out.length+1+1≤maxLen∧(out.length+1+1)*1≤140737488355328:=by
  unfold maxLen
  omega
theorem fact_0 (b:UInt8):bits .and .i64 (b.toNat:Int) 3=((b.toNat % 4:Nat):Int)∧((b.toNat:Int) / 4).toNat=b.toNat / 4∧(0:Int)≤(b.toNat:Int) / 4∧(b.toNat:Int) / 4<64:=by
  have hbt:=b.toNat_lt
  exact ⟨and3 _ (by omega),by omega,by omega,by omega⟩
theorem fact_2 (m:Nat) (b:UInt8) (h:m<4):∃ X:Nat,m*256+b.toNat=X∧(m:Int)*256+(b.toNat:Int)=(X:Int)∧wrap64 ((m:Int)*256)=(m:Int)*256∧wrap64 (X:Int)=(X:Int) ∧
    bits .and .i64 (X:Int) 15=((b.toNat % 16:Nat):Int)∧((X:Int) / 16).toNat=X / 16∧(0:Int)≤(X:Int) / 16∧(X:Int) / 16<64:=by
  have hbt:=b.toNat_lt
  refine ⟨_,rfl,by omega,by unfold wrap64;omega,by unfold wrap64;omega,?_,by omega,by omega,by omega⟩
  rw [and15 _ (by omega)]
  congr 1;omega
theorem fact_4 (m:Nat) (b:UInt8) (h:m<16):∃ X Y:Nat,m*256+b.toNat=X∧b.toNat % 64=Y∧(m:Int)*256+(b.toNat:Int)=(X:Int)∧wrap64 ((m:Int)*256)=(m:Int)*256∧wrap64 (X:Int)=(X:Int) ∧
    bits .and .i64 (X:Int) 63=(Y:Int)∧((X:Int) / 64).toNat=X / 64∧(0:Int)≤(X:Int) / 64∧(X:Int) / 64<64∧bits .and .i64 (Y:Int) 0=0∧(0:Int)≤(Y:Int)∧(Y:Int)<64:=by
  have hbt:=b.toNat_lt
  refine ⟨_,_,rfl,rfl,by omega,by unfold wrap64;omega,by unfold wrap64;omega,?_,by omega,by omega,by omega,and0 _ (by omega),by omega,by omega⟩
  rw [and63 _ (by omega)]
  congr 1;omega
theorem bstep_0 (out:List UInt8) (m:Nat) (b:UInt8):bstep (out,m,0) b=(out++[L64 (b.toNat / 4)],b.toNat % 4,2):=rfl
theorem bstep_2 (out:List UInt8) (m:Nat) (b:UInt8):bstep (out,m,2) b=(out++[L64 ((m*256+b.toNat) / 16)],b.toNat % 16,4):=rfl
theorem bstep_4 (out:List UInt8) (m:Nat) (b:UInt8):bstep (out,m,4) b=(out++[L64 ((m*256+b.toNat) / 64),L64 (b.toNat % 64)],0,0):=rfl
def RB (w:World) (l:List UInt8) (out bits n i:Value) (W:World):Prop :=
  ∃ k:Nat,k≤l.length∧i=.int .i64 k∧bits=.int .i64 ((bfold (l.take k)).2.1:Nat)∧n=.int .i64 ((bfold (l.take k)).2.2:Nat) ∧
    W.ownsRow w.heap.size 5 1 out (bfold (l.take k)).1.length (bv (bfold (l.take k)).1)∧Below w.heap.size w W
set_option maxRecDepth 100000 in
set_option maxHeartbeats 4000000 in
theorem ref_base64 (s:ByteArray) (hs:s.size≤1048576) (w:World) :
    Calls Tryz.prog 62 #[.string s] w fun e w'=>e=.returned (.string ⟨(b64N s.data.toList).toArray⟩)∧Below w.heap.size w w':=by
  obtain ⟨i0,hi,hz0,hz1,hz2⟩:=info_parts Tryz.infoByte
  obtain ⟨l,hl⟩:∃ l,s.data.toList=l:=⟨_,rfl⟩
  have hll:l.length=s.size:=by rw [←hl];rfl
  have hget:∀ i (h:i<s.size),s[i].toNat=(l.getD i 0).toNat:=by
    intro i h
    have h2:s.data.toList[i]?=some s[i]:=by
      rw [List.getElem?_eq_some_iff];exact ⟨h,rfl⟩
    rw [hl] at h2
    simp [List.getD,h2]
  have HLL:=Lib.hid hll
  have HG:=Lib.hid hget
  have HL:=Lib.hid hl
  rw [hl]
  clear hl hll hget
  go_enter Tryz.func62,Tryz.ntmps62
  go_wp2_with fail
  go_loopw [3,4,5,6] (RB w l) (fun _ _ _ i _=>l.length - (intOf i).toNat)
  case atStart=>exact ⟨0,Nat.zero_le _,rfl,rfl,rfl,World.ownsRow_nil _ _ _ _,Below.refl _ _⟩
  case round =>
    obtain ⟨k,hk,rfl,rfl,rfl,hown,hb⟩:=hrel
    by_cases hlt:k<s.size
    · have hkl:k<l.length:=by rw [HLL.out];exact hlt
      obtain ⟨b,hbk⟩:∃ b,l[k]?=some b:=⟨_,List.getElem?_eq_getElem hkl⟩
      have hsb:s[k].toNat=b.toNat:=by
        have:=HG.out k hlt
        rw [show l.getD k 0=b by simp [List.getD,hbk]] at this
        exact this
      have htk:bfold (l.take (k+1))=bstep (bfold (l.take k)) b:=by rw [take_snoc hbk,bfold_snoc]
      have hst:=bfold_ok (l.take k)
      change StOk (bfold (l.take k)) at hst
      have hlen:=bfold_len (l.take k)
      rw [List.length_take,Nat.min_eq_left hk] at hlen
      have HTK:=Lib.hid htk
      obtain ⟨⟨out,m,n⟩,hS⟩:∃ st,bfold (l.take k)=st:=⟨_,rfl⟩
      rw [hS] at hown hst hlen HTK ⊢
      simp only at hown hlen ⊢
      have hbt:=b.toNat_lt
      have k0:(0:Int)≤(k:Int):=by omega
      have k1:(k:Int)<(s.size:Int):=by omega
      have wk:wrap64 ((k:Int)+1)=(k:Int)+1:=by unfold wrap64;omega
      clear htk hS
      have hidx:∀ (i:Nat) (h:i<(⟨#[65,66,67,68,69,70,71,72,73,74,75,76,77,78,79,80,81,82,83,84,85,86,87,88,89,90,97,98,99,100,101,102,103,104,105,106,107,108,109,110,111,112,113,114,115,116,117,118,119,120,121,122,48,49,50,51,52,53,54,55,56,57,45,95]⟩:ByteArray).size),(⟨#[65,66,67,68,69,70,71,72,73,74,75,76,77,78,79,80,81,82,83,84,85,86,87,88,89,90,97,98,99,100,101,102,103,104,105,106,107,108,109,110,111,112,113,114,115,116,117,118,119,120,121,122,48,49,50,51,52,53,54,55,56,57,45,95]⟩:ByteArray)[i].toNat=(L64 i).toNat:=fun i h=>get_alph lettersB i h
      have HP:=Lib.hid (fact_len hlen hk HLL.out hs)
      have wb:wrap64 (b.toNat:Int)=(b.toNat:Int):=by unfold wrap64;omega
      rcases hst with ⟨h1,h2⟩ | ⟨h1,h2⟩ | ⟨h1,h2⟩
      · simp only at h1 h2
        subst h1
        subst h2
        rw [bstep_0] at HTK
        obtain ⟨aN,d1,e0,e1⟩:=fact_0 b
        clear hbt hlen
        go_wp2_with fail
        refine wp_loop_rounds 3 ?_
        rw [rounds_succ]
        go_wp2_with (at_builtin;refine wpList_append_row rfl _ _ 123 rfl w.heap.size 5 i0 (.int .u8 0) 1 1 Tryz.underlying123 hi hz0 hz1 hz2 rfl (by decide) _ (out.length) _ rfl (hown.alloc _) ⟨wr.heap.size,0,none⟩ 1 1 [.int .u8 ((L64 (b.toNat / 4)).toNat:Int)] rfl rfl (cell_one_new _ _ _) (by simp [Value.oneCell']) HP.out.1 HP.out.2.1 (by rw [World.size_alloc];exact Nat.le_succ_of_le hb.size) ?_)
        intro v1 w1 own1 hgr hfr
        have hb_w1:Below w.heap.size w w1:=(hb.alloc hb.size _).grown hgr (by rw [World.size_alloc];exact Nat.le_succ_of_le hb.size) (fun j hj=>(hown.lt j hj).1)
        clear hgr hfr
        go_wp2_with fail
        rw [rounds_succ]
        go_wp2_with fail
        go_roundw
        case rel =>
          refine ⟨k+1,hkl,by go_num,?_,?_,?_,hb_w1⟩
          · rw [HTK.out];rfl
          · rw [HTK.out];rfl
          · rw [HTK.out]
            simp only [bv_append,List.length_append,List.length_cons,List.length_nil]
            simpa [bv] using own1
        case measure =>
          have hkl2:=hkl
          clear aN d1 e0 e1
          simp [intOf]<;>omega
      · simp only at h1 h2
        subst h1
        rw [bstep_2] at HTK
        obtain ⟨X,hX,hXI,wm,wX,HF⟩:=fact_2 m b h2
        have HFF:=Lib.hid HF
        rw [hX] at HTK
        clear hX h2 HF
        clear hbt hlen
        go_wp2_with fail
        refine wp_loop_rounds 3 ?_
        rw [rounds_succ]
        clear hXI wm wX
        obtain ⟨aN,d1,e0,e1⟩:=HFF.out
        go_wp2_with (at_builtin;refine wpList_append_row rfl _ _ 123 rfl w.heap.size 5 i0 (.int .u8 0) 1 1 Tryz.underlying123 hi hz0 hz1 hz2 rfl (by decide) _ (out.length) _ rfl (hown.alloc _) ⟨wr.heap.size,0,none⟩ 1 1 [.int .u8 ((L64 (X / 16)).toNat:Int)] rfl rfl (cell_one_new _ _ _) (by simp [Value.oneCell']) HP.out.1 HP.out.2.1 (by rw [World.size_alloc];exact Nat.le_succ_of_le hb.size) ?_)
        intro v1 w1 own1 hgr hfr
        have hb_w1:Below w.heap.size w w1:=(hb.alloc hb.size _).grown hgr (by rw [World.size_alloc];exact Nat.le_succ_of_le hb.size) (fun j hj=>(hown.lt j hj).1)
        clear hgr hfr
        go_wp2_with fail
        rw [rounds_succ]
        go_wp2_with fail
        go_roundw
        case rel =>
          refine ⟨k+1,hkl,by go_num,?_,?_,?_,hb_w1⟩
          · rw [HTK.out];rfl
          · rw [HTK.out];rfl
          · rw [HTK.out]
            simp only [bv_append,List.length_append,List.length_cons,List.length_nil]
            simpa [bv] using own1
        case measure =>
          have hkl2:=hkl
          clear aN d1 e0 e1
          simp [intOf]<;>omega
      · simp only at h1 h2
        subst h1
        rw [bstep_4] at HTK
        obtain ⟨X,Y,hX,hY,hXI,wm,wX,HF⟩:=fact_4 m b h2
        have HFF:=Lib.hid HF
        rw [hX,hY] at HTK
        clear hX hY h2 HF
        clear hbt hlen
        go_wp2_with fail
        refine wp_loop_rounds 4 ?_
        rw [rounds_succ]
        clear hXI wm wX
        obtain ⟨aN,d1,e0,e1,a0,y0,y1⟩:=HFF.out
        go_wp2_with (at_builtin;refine wpList_append_row rfl _ _ 123 rfl w.heap.size 5 i0 (.int .u8 0) 1 1 Tryz.underlying123 hi hz0 hz1 hz2 rfl (by decide) _ (out.length) _ rfl (hown.alloc _) ⟨wr.heap.size,0,none⟩ 1 1 [.int .u8 ((L64 (X / 64)).toNat:Int)] rfl rfl (cell_one_new _ _ _) (by simp [Value.oneCell']) HP.out.1 HP.out.2.1 (by rw [World.size_alloc];exact Nat.le_succ_of_le hb.size) ?_)
        intro v1 w1 own1 hgr hfr
        have hb_w1:Below w.heap.size w w1:=(hb.alloc hb.size _).grown hgr (by rw [World.size_alloc];exact Nat.le_succ_of_le hb.size) (fun j hj=>(hown.lt j hj).1)
        clear hgr hfr
        go_wp2_with fail
        rw [rounds_succ]
        go_wp2_with (at_builtin;refine wpList_append_row rfl _ _ 123 rfl w.heap.size 5 i0 (.int .u8 0) 1 1 Tryz.underlying123 hi hz0 hz1 hz2 rfl (by decide) _ (out.length+1) _ rfl (own1.alloc _) ⟨w1.heap.size,0,none⟩ 1 1 [.int .u8 ((L64 Y).toNat:Int)] rfl rfl (cell_one_new _ _ _) (by simp [Value.oneCell']) HP.out.2.2.1 HP.out.2.2.2 (by rw [World.size_alloc];exact Nat.le_succ_of_le hb_w1.size) ?_)
        intro v2 w2 own2 hgr hfr
        have hb_w2:Below w.heap.size w w2:=(hb_w1.alloc hb_w1.size _).grown hgr (by rw [World.size_alloc];exact Nat.le_succ_of_le hb_w1.size) (fun j hj=>(own1.lt j hj).1)
        clear hgr hfr
        go_wp2_with fail
        rw [rounds_succ]
        go_wp2_with fail
        go_roundw
        case rel =>
          refine ⟨k+1,hkl,by go_num,?_,?_,?_,hb_w2⟩
          · rw [HTK.out];rfl
          · rw [HTK.out];rfl
          · rw [HTK.out]
            simp only [bv_append,List.length_append,List.length_cons,List.length_nil]
            simpa [bv] using own2
        case measure =>
          have hkl2:=hkl
          clear aN d1 e0 e1
          simp [intOf]<;>omega
    · obtain rfl:k=l.length:=by have:=HLL.out;omega
      have hk1:¬ ((l.length:Nat):Int)<(s.size:Int):=by have:=HLL.out;omega
      have hst:=bfold_ok l
      change StOk (bfold l) at hst
      have hlen:=bfold_len l
      have hN:=Lib.hid (show b64N l=if (bfold l).2.2=0 then (bfold l).1 else (bfold l).1++[L64 ((bfold l).2.1*2 ^ (6 - (bfold l).2.2))] from rfl)
      rw [List.take_length] at hown ⊢
      obtain ⟨⟨out,m,n⟩,hS⟩:∃ st,bfold l=st:=⟨_,rfl⟩
      rw [hS] at hown hst hlen hN ⊢
      simp only at hown hlen ⊢
      have HP:=Lib.hid (fact_len hlen (Nat.le_refl _) HLL.out hs)
      clear hlen hS hk
      have hidx:∀ (i:Nat) (h:i<(⟨#[65,66,67,68,69,70,71,72,73,74,75,76,77,78,79,80,81,82,83,84,85,86,87,88,89,90,97,98,99,100,101,102,103,104,105,106,107,108,109,110,111,112,113,114,115,116,117,118,119,120,121,122,48,49,50,51,52,53,54,55,56,57,45,95]⟩:ByteArray).size),(⟨#[65,66,67,68,69,70,71,72,73,74,75,76,77,78,79,80,81,82,83,84,85,86,87,88,89,90,97,98,99,100,101,102,103,104,105,106,107,108,109,110,111,112,113,114,115,116,117,118,119,120,121,122,48,49,50,51,52,53,54,55,56,57,45,95]⟩:ByteArray)[i].toNat=(L64 i).toNat:=fun i h=>get_alph lettersB i h
      rcases hst with ⟨h1,h2⟩ | ⟨h1,h2⟩ | ⟨h1,h2⟩
      · simp only at h1 h2
        subst h1;subst h2
        have e:b64N l=out:=by rw [hN.out];rfl
        have E:=Lib.hid e
        have hcv:=conv_own hown
        clear hN hown e
        go_wp2_with fail
        go_ret
        exact ⟨by rw [E.out];rfl,hb⟩
      · simp only at h1 h2
        subst h1
        have e:b64N l=out++[L64 (m*16)]:=by rw [hN.out];rfl
        have E:=Lib.hid e
        obtain ⟨wm,d1,e0,e1⟩:wrap64 ((m:Int)*16)=(m:Int)*16∧((m:Int)*16).toNat=m*16∧(0:Int)≤(m:Int)*16∧(m:Int)*16<64:=⟨by unfold wrap64;omega,by omega,by omega,by omega⟩
        clear hN e h2 hlt
        go_wp2_with (at_builtin;refine wpList_append_row rfl _ _ 123 rfl w.heap.size 5 i0 (.int .u8 0) 1 1 Tryz.underlying123 hi hz0 hz1 hz2 rfl (by decide) _ (out.length) _ rfl (hown.alloc _) ⟨wr.heap.size,0,none⟩ 1 1 [.int .u8 ((L64 (m*16)).toNat:Int)] rfl rfl (cell_one_new _ _ _) (by simp [Value.oneCell']) HP.out.1 HP.out.2.1 (by rw [World.size_alloc];exact Nat.le_succ_of_le hb.size) ?_)
        intro v1 w1 own1 hgr hfr
        have hb1:Below w.heap.size w w1:=(hb.alloc hb.size _).grown hgr (by rw [World.size_alloc];exact Nat.le_succ_of_le hb.size) (fun j hj=>(hown.lt j hj).1)
        have own2:w1.ownsRow w.heap.size 5 1 v1 (out.length+1) (bv (out++[L64 (m*16)])):=by rw [bv_append];exact own1
        have hcv:=conv_own own2
        clear hgr hfr own1 own2 hown e0 e1 d1
        go_wp2_with fail
        go_ret
        exact ⟨by rw [E.out];rfl,hb1⟩
      · simp only at h1 h2
        subst h1
        have e:b64N l=out++[L64 (m*4)]:=by rw [hN.out];rfl
        have E:=Lib.hid e
        obtain ⟨wm,d1,e0,e1⟩:wrap64 ((m:Int)*4)=(m:Int)*4∧((m:Int)*4).toNat=m*4∧(0:Int)≤(m:Int)*4∧(m:Int)*4<64:=⟨by unfold wrap64;omega,by omega,by omega,by omega⟩
        clear hN e h2 hlt
        go_wp2_with (at_builtin;refine wpList_append_row rfl _ _ 123 rfl w.heap.size 5 i0 (.int .u8 0) 1 1 Tryz.underlying123 hi hz0 hz1 hz2 rfl (by decide) _ (out.length) _ rfl (hown.alloc _) ⟨wr.heap.size,0,none⟩ 1 1 [.int .u8 ((L64 (m*4)).toNat:Int)] rfl rfl (cell_one_new _ _ _) (by simp [Value.oneCell']) HP.out.1 HP.out.2.1 (by rw [World.size_alloc];exact Nat.le_succ_of_le hb.size) ?_)
        intro v1 w1 own1 hgr hfr
        have hb1:Below w.heap.size w w1:=(hb.alloc hb.size _).grown hgr (by rw [World.size_alloc];exact Nat.le_succ_of_le hb.size) (fun j hj=>(hown.lt j hj).1)
        have own2:w1.ownsRow w.heap.size 5 1 v1 (out.length+1) (bv (out++[L64 (m*4)])):=by rw [bv_append];exact own1
        have hcv:=conv_own own2
        clear hgr hfr own1 own2 hown e0 e1 d1
        go_wp2_with fail
        go_ret
        exact ⟨by rw [E.out];rfl,hb1⟩
theorem or_join (m:Nat) (b:UInt8) (h:m<65536):bits .or .i64 ((m:Int)*256) (b.toNat:Int)=((m*256+b.toNat:Nat):Int):=by
  have hb:=b.toNat_lt
  have e:((m:Int)*256)=((m*256:Nat):Int):=by omega
  rw [e,bits_join .i64 62 (by decide) wraps62 8 _ _ (by omega) (by omega) (by omega) (by omega) (by omega) (by omega)]
  omega
theorem fact_2o (m:Nat) (b:UInt8) (h:m<4):∃ X:Nat,m*256+b.toNat=X∧bits .or .i64 ((m:Int)*256) (b.toNat:Int)=(X:Int)∧wrap64 ((m:Int)*256)=(m:Int)*256∧wrap64 (X:Int)=(X:Int) ∧
    bits .and .i64 (X:Int) 15=((b.toNat % 16:Nat):Int)∧((X:Int) / 16).toNat=X / 16∧(0:Int)≤(X:Int) / 16∧(X:Int) / 16<64:=by
  obtain ⟨X,h1,_,h3,h4,h5⟩:=fact_2 m b h
  exact ⟨X,h1,(or_join m b (by omega)).trans (by rw [h1]),h3,h4,h5⟩
theorem fact_4o (m:Nat) (b:UInt8) (h:m<16):∃ X Y:Nat,m*256+b.toNat=X∧b.toNat % 64=Y∧bits .or .i64 ((m:Int)*256) (b.toNat:Int)=(X:Int)∧wrap64 ((m:Int)*256)=(m:Int)*256∧wrap64 (X:Int)=(X:Int) ∧
    bits .and .i64 (X:Int) 63=(Y:Int)∧((X:Int) / 64).toNat=X / 64∧(0:Int)≤(X:Int) / 64∧(X:Int) / 64<64∧bits .and .i64 (Y:Int) 0=0∧(0:Int)≤(Y:Int)∧(Y:Int)<64:=by
  obtain ⟨X,Y,h1,h2,_,h3,h4,h5⟩:=fact_4 m b h
  exact ⟨X,Y,h1,h2,(or_join m b (by omega)).trans (by rw [h1]),h3,h4,h5⟩
theorem fact_0o (b:UInt8):bits .or .i64 (0:Int) (b.toNat:Int)=(b.toNat:Int):=by
  have:=or_join 0 b (by decide)
  simpa using this
def RG (w:World) (l:List UInt8) (now have_ i:Value) (W:World):Prop :=
  ∃ k:Nat,k≤l.length∧i=.int .i64 k∧now=.int .i64 ((bfold (l.take k)).2.1:Nat)∧have_=.int .i64 ((bfold (l.take k)).2.2:Nat) ∧
    Lib.IsBuilderF 164 5 w.heap.size w.heap.size (bv (bfold (l.take k)).1) W∧Below w.heap.size w W
theorem fact_len2 {out l:List UInt8} {k n:Nat} (h:out.length≤2*k) (hk:k≤l.length) (hl:l.length=n) (hn:n≤1048576):(bv out).length+1≤140737488355328∧∀ x,(bv out++[x]).length+1≤140737488355328:=by
  rw [bv_len]
  refine ⟨by omega,fun x=>?_⟩
  rw [List.length_append,bv_len,List.length_singleton]
  omega
theorem bv_byteCells (l:List UInt8):bv l=Lib.byteCells l:=rfl
set_option maxRecDepth 100000 in
set_option maxHeartbeats 4000000 in
theorem mod_groups6 (s:ByteArray) (hs:s.size≤1048576) (alph:ByteArray) (ha:alph=lettersB) (w:World) :
    Calls Tryz.prog 150 #[.string s,.int .i64 6,.string alph] w fun e w'=>e=.returned (.string ⟨(b64N s.data.toList).toArray⟩)∧Below w.heap.size w w':=by
  have has:alph.size=64:=by rw [ha];exact letters_size
  have hidx:∀ (i:Nat) (h:i<alph.size),alph[i].toNat=(L64 i).toNat:=by
    intro i h
    subst ha
    exact get_alph lettersB i h
  have HA:=Lib.hid ha
  clear ha
  obtain ⟨l,hl⟩:∃ l,s.data.toList=l:=⟨_,rfl⟩
  have hll:l.length=s.size:=by rw [←hl];rfl
  have hget:∀ i (h:i<s.size),s[i].toNat=(l.getD i 0).toNat:=by
    intro i h
    have h2:s.data.toList[i]?=some s[i]:=by
      rw [List.getElem?_eq_some_iff];exact ⟨h,rfl⟩
    rw [hl] at h2
    simp [List.getD,h2]
  have HLL:=Lib.hid hll
  have HG:=Lib.hid hget
  have HL:=Lib.hid hl
  rw [hl]
  clear hl hll hget
  go_enter Tryz.func150,Tryz.ntmps150
  go_wp2_with fail
  go_loopw [8,9,10,13] (fun a b _ i W=>RG w l a b i W) (fun _ _ _ i _=>l.length - (intOf i).toNat)
  case atStart =>
    exact ⟨0,Nat.zero_le _,rfl,rfl,rfl,Lib.IsBuilderF.of (Lib.fresh_isBuilder 164 5 w),(Below.refl _ _).alloc (Nat.le_refl _) _⟩
  case round =>
    obtain ⟨k,hk,rfl,rfl,rfl,hown,hb⟩:=hrel
    by_cases hlt:k<s.size
    · have hkl:k<l.length:=by rw [HLL.out];exact hlt
      obtain ⟨b,hbk⟩:∃ b,l[k]?=some b:=⟨_,List.getElem?_eq_getElem hkl⟩
      have hsb:s[k].toNat=b.toNat:=by
        have:=HG.out k hlt
        rw [show l.getD k 0=b by simp [List.getD,hbk]] at this
        exact this
      have htk:bfold (l.take (k+1))=bstep (bfold (l.take k)) b:=by rw [take_snoc hbk,bfold_snoc]
      have hst:=bfold_ok (l.take k)
      change StOk (bfold (l.take k)) at hst
      have hlen:=bfold_len (l.take k)
      rw [List.length_take,Nat.min_eq_left hk] at hlen
      have HTK:=Lib.hid htk
      obtain ⟨⟨out,m,n⟩,hS⟩:∃ st,bfold (l.take k)=st:=⟨_,rfl⟩
      rw [hS] at hown hst hlen HTK ⊢
      simp only at hown hlen ⊢
      have hbt:=b.toNat_lt
      have k0:(0:Int)≤(k:Int):=by omega
      have k1:(k:Int)<(s.size:Int):=by omega
      have wk:wrap64 ((k:Int)+1)=(k:Int)+1:=by unfold wrap64;omega
      have HP:=Lib.hid (fact_len2 hlen hk HLL.out hs)
      clear htk hS
      have HI:=Lib.hid hidx
      have wb:wrap64 (b.toNat:Int)=(b.toNat:Int):=by unfold wrap64;omega
      have hbs:=Lib.hid hb.size
      clear hidx
      rcases hst with ⟨h1,h2⟩ | ⟨h1,h2⟩ | ⟨h1,h2⟩
      · simp only at h1 h2
        subst h1
        subst h2
        rw [bstep_0] at HTK
        have HFF:=Lib.hid (fact_0 b)
        have o0:=fact_0o b
        clear hbt hlen
        go_wp2_with fail
        refine wp_loop_rounds 3 ?_
        rw [rounds_succ]
        have hidx:=HI.out
        clear o0
        obtain ⟨aN,d1,e0,e1⟩:=HFF.out
        go_wp2_with fail
        refine (Tryz.bld_WriteByte w.heap.size w.heap.size (bv out) ((L64 (b.toNat / 4)).toNat:Int) wr hown HP.out.1 hb.size).mono ?_
        rintro e w1 ⟨rfl,hbld_w1,hbel_w1,_⟩
        have own1:Lib.IsBuilderF 164 5 w.heap.size w.heap.size ((bv out)++[.int .u8 ((L64 (b.toNat / 4)).toNat:Int)]) w1:=.inr hbld_w1
        have hb_w1:Below w.heap.size w w1:=hb.trans hbel_w1
        clear hbld_w1 hbel_w1
        go_wp2_with fail
        rw [rounds_succ]
        go_wp2_with fail
        go_roundw
        case rel =>
          refine ⟨k+1,hkl,by go_num,?_,?_,?_,hb_w1⟩
          · rw [HTK.out];rfl
          · rw [HTK.out];rfl
          · rw [HTK.out]
            simpa [bv] using own1
        case measure =>
          have hkl2:=hkl
          clear aN d1 e0 e1
          simp [intOf]<;>omega
      · simp only at h1 h2
        subst h1
        rw [bstep_2] at HTK
        obtain ⟨X,hX,hXI,wm,wX,HF⟩:=fact_2o m b h2
        have HFF:=Lib.hid HF
        rw [hX] at HTK
        clear hX h2 HF
        clear hbt hlen
        go_wp2_with fail
        refine wp_loop_rounds 3 ?_
        rw [rounds_succ]
        have hidx:=HI.out
        clear hXI wm wX
        obtain ⟨aN,d1,e0,e1⟩:=HFF.out
        go_wp2_with fail
        refine (Tryz.bld_WriteByte w.heap.size w.heap.size (bv out) ((L64 (X / 16)).toNat:Int) wr hown HP.out.1 hb.size).mono ?_
        rintro e w1 ⟨rfl,hbld_w1,hbel_w1,_⟩
        have own1:Lib.IsBuilderF 164 5 w.heap.size w.heap.size ((bv out)++[.int .u8 ((L64 (X / 16)).toNat:Int)]) w1:=.inr hbld_w1
        have hb_w1:Below w.heap.size w w1:=hb.trans hbel_w1
        clear hbld_w1 hbel_w1
        go_wp2_with fail
        rw [rounds_succ]
        go_wp2_with fail
        go_roundw
        case rel =>
          refine ⟨k+1,hkl,by go_num,?_,?_,?_,hb_w1⟩
          · rw [HTK.out];rfl
          · rw [HTK.out];rfl
          · rw [HTK.out]
            simpa [bv] using own1
        case measure =>
          have hkl2:=hkl
          clear aN d1 e0 e1
          simp [intOf]<;>omega
      · simp only at h1 h2
        subst h1
        rw [bstep_4] at HTK
        obtain ⟨X,Y,hX,hY,hXI,wm,wX,HF⟩:=fact_4o m b h2
        have HFF:=Lib.hid HF
        rw [hX,hY] at HTK
        clear hX hY h2 HF
        clear hbt hlen
        go_wp2_with fail
        refine wp_loop_rounds 4 ?_
        rw [rounds_succ]
        have hidx:=HI.out
        clear hXI wm wX
        obtain ⟨aN,d1,e0,e1,a0,y0,y1⟩:=HFF.out
        go_wp2_with fail
        refine (Tryz.bld_WriteByte w.heap.size w.heap.size (bv out) ((L64 (X / 64)).toNat:Int) wr hown HP.out.1 hb.size).mono ?_
        rintro e w1 ⟨rfl,hbld_w1,hbel_w1,_⟩
        have own1:Lib.IsBuilderF 164 5 w.heap.size w.heap.size ((bv out)++[.int .u8 ((L64 (X / 64)).toNat:Int)]) w1:=.inr hbld_w1
        have hb_w1:Below w.heap.size w w1:=hb.trans hbel_w1
        clear hbld_w1 hbel_w1
        go_wp2_with fail
        rw [rounds_succ]
        go_wp2_with fail
        refine (Tryz.bld_WriteByte w.heap.size w.heap.size (bv out++[.int .u8 ((L64 (X / 64)).toNat:Int)]) ((L64 Y).toNat:Int) w1 own1 (HP.out.2 _) hb_w1.size).mono ?_
        rintro e w2 ⟨rfl,hbld_w2,hbel_w2,_⟩
        have own2:Lib.IsBuilderF 164 5 w.heap.size w.heap.size ((bv out++[.int .u8 ((L64 (X / 64)).toNat:Int)])++[.int .u8 ((L64 Y).toNat:Int)]) w2:=.inr hbld_w2
        have hb_w2:Below w.heap.size w w2:=hb_w1.trans hbel_w2
        clear hbld_w2 hbel_w2
        go_wp2_with fail
        rw [rounds_succ]
        go_wp2_with fail
        go_roundw
        case rel =>
          refine ⟨k+1,hkl,by go_num,?_,?_,?_,hb_w2⟩
          · rw [HTK.out];rfl
          · rw [HTK.out];rfl
          · rw [HTK.out]
            simpa [bv] using own2
        case measure =>
          have hkl2:=hkl
          clear aN d1 e0 e1
          simp [intOf]<;>omega
    · obtain rfl:k=l.length:=by have:=HLL.out;omega
      have hst:=bfold_ok l
      change StOk (bfold l) at hst
      have hlen:=bfold_len l
      have hN:=Lib.hid (show b64N l=if (bfold l).2.2=0 then (bfold l).1 else (bfold l).1++[L64 ((bfold l).2.1*2 ^ (6 - (bfold l).2.2))] from rfl)
      rw [List.take_length] at hown ⊢
      obtain ⟨⟨out,m,n⟩,hS⟩:∃ st,bfold l=st:=⟨_,rfl⟩
      rw [hS] at hown hst hlen hN ⊢
      simp only at hown hlen ⊢
      have HP:=Lib.hid (fact_len2 hlen (Nat.le_refl _) HLL.out hs)
      have hk1:¬ ((l.length:Nat):Int)<(s.size:Int):=by have:=HLL.out;omega
      clear hlen hS hk
      rcases hst with ⟨h1,h2⟩ | ⟨h1,h2⟩ | ⟨h1,h2⟩
      · simp only at h1 h2
        subst h1;subst h2
        have e:b64N l=out:=by rw [hN.out];rfl
        have E:=Lib.hid e
        have hcs:=Lib.hid (Tryz.Builder_String_any_k w.heap.size w.heap.size out wr hown hb.size)
        clear hN e
        go_wp2_with fail
        refine hcs.out.mono ?_
        rintro e w1 ⟨rfl,_,hb1,_⟩
        have hend:Below w.heap.size w w1:=hb.trans hb1
        clear hb1 hcs
        go_wp2_with fail
        go_ret
        exact ⟨by rw [E.out];rfl,hend⟩
      · simp only at h1 h2
        subst h1
        have e:b64N l=out++[L64 (m*16)]:=by rw [hN.out];rfl
        have E:=Lib.hid e
        obtain ⟨wm,d1,e0,e1⟩:wrap64 ((m:Int)*16)=(m:Int)*16∧((m:Int)*16).toNat=m*16∧(0:Int)≤(m:Int)*16∧(m:Int)*16<64:=⟨by unfold wrap64;omega,by omega,by omega,by omega⟩
        have hsz:=Lib.hid hb.size
        clear hN e h2 hlt
        go_wp2_with fail
        refine (Tryz.bld_WriteByte w.heap.size w.heap.size (bv out) ((L64 (m*16)).toNat:Int) wr hown HP.out.1 hsz.out).mono ?_
        rintro e w1 ⟨rfl,hbld,hbel,_⟩
        have hcs:=Lib.hid (Tryz.Builder_String_any_k w.heap.size w.heap.size (out++[L64 (m*16)]) w1 (by have h0:Lib.IsBuilderF 164 5 w.heap.size w.heap.size (bv out++[.int .u8 ((L64 (m*16)).toNat:Int)]) w1:=.inr hbld;rw [←bv_byteCells,bv_append];exact h0) (hb.trans hbel).size)
        have hb1:Below w.heap.size w w1:=hb.trans hbel
        clear hbld hbel e0 e1 d1 wm
        go_wp2_with fail
        refine hcs.out.mono ?_
        rintro e w2 ⟨rfl,_,hb2,_⟩
        have hend:Below w.heap.size w w2:=hb1.trans hb2
        clear hb2 hcs
        go_wp2_with fail
        go_ret
        exact ⟨by rw [E.out];rfl,hend⟩
      · simp only at h1 h2
        subst h1
        have e:b64N l=out++[L64 (m*4)]:=by rw [hN.out];rfl
        have E:=Lib.hid e
        obtain ⟨wm,d1,e0,e1⟩:wrap64 ((m:Int)*4)=(m:Int)*4∧((m:Int)*4).toNat=m*4∧(0:Int)≤(m:Int)*4∧(m:Int)*4<64:=⟨by unfold wrap64;omega,by omega,by omega,by omega⟩
        have hsz:=Lib.hid hb.size
        clear hN e h2 hlt
        go_wp2_with fail
        refine (Tryz.bld_WriteByte w.heap.size w.heap.size (bv out) ((L64 (m*4)).toNat:Int) wr hown HP.out.1 hsz.out).mono ?_
        rintro e w1 ⟨rfl,hbld,hbel,_⟩
        have hcs:=Lib.hid (Tryz.Builder_String_any_k w.heap.size w.heap.size (out++[L64 (m*4)]) w1 (by have h0:Lib.IsBuilderF 164 5 w.heap.size w.heap.size (bv out++[.int .u8 ((L64 (m*4)).toNat:Int)]) w1:=.inr hbld;rw [←bv_byteCells,bv_append];exact h0) (hb.trans hbel).size)
        have hb1:Below w.heap.size w w1:=hb.trans hbel
        clear hbld hbel e0 e1 d1 wm
        go_wp2_with fail
        refine hcs.out.mono ?_
        rintro e w2 ⟨rfl,_,hb2,_⟩
        have hend:Below w.heap.size w w2:=hb1.trans hb2
        clear hb2 hcs
        go_wp2_with fail
        go_ret
        exact ⟨by rw [E.out];rfl,hend⟩
set_option maxRecDepth 100000 in
theorem mod_base64 (s:ByteArray) (hs:s.size≤1048576) (w:World) :
    Calls Tryz.prog 147 #[.string s] w fun e w'=>e=.returned (.string ⟨(b64N s.data.toList).toArray⟩)∧Below w.heap.size w w':=by
  have hc:=Lib.hid (mod_groups6 s hs lettersB rfl)
  go_enter Tryz.func147,Tryz.ntmps147
  go_wp2_with fail
  refine (hc.out _).mono ?_
  rintro e w1 ⟨rfl,hb⟩
  clear hc
  go_wp2_with fail
  go_ret
  exact ⟨rfl,hb⟩
theorem hexN_snoc (l:List UInt8) (b:UInt8):hexN (l++[b])=hexN l++[L16 (b.toNat / 16),L16 (b.toNat % 16)]:=by
  unfold hexN;rw [List.flatMap_append];rfl
theorem hexN_len (l:List UInt8):(hexN l).length=2*l.length:=by
  unfold hexN
  induction l with
  | nil=>rfl
  | cons b l ih=>rw [List.flatMap_cons,List.length_append,ih];simp;omega
theorem fact_h (b:UInt8):∃ X Y:Nat,b.toNat / 16=X∧b.toNat % 16=Y∧bits .or .i64 (0:Int) (b.toNat:Int)=(b.toNat:Int)∧wrap64 (b.toNat:Int)=(b.toNat:Int) ∧
    ((b.toNat:Int) / 16=(X:Int)∧bits .and .i64 (b.toNat:Int) 15=(Y:Int)∧(0:Int)≤(X:Int)∧(X:Int)<16∧bits .and .i64 (Y:Int) 0=0∧(0:Int)≤(Y:Int)∧(Y:Int)<16∧(b.toNat:Int) % 16=(Y:Int)):=by
  have hb:=b.toNat_lt
  refine ⟨_,_,rfl,rfl,fact_0o b,by unfold wrap64;omega,by omega,?_,by omega,by omega,and0 _ (by omega),by omega,by omega,by omega⟩
  rw [and15 _ (by omega)]
def RH (w:World) (l:List UInt8) (now have_ i:Value) (W:World):Prop :=
  ∃ k:Nat,k≤l.length∧i=.int .i64 k∧now=.int .i64 0∧have_=.int .i64 0 ∧
    Lib.IsBuilderF 164 5 w.heap.size w.heap.size (bv (hexN (l.take k))) W∧Below w.heap.size w W
theorem fact_len3 {out l:List UInt8} {k n:Nat} (h:out.length=2*k) (hk:k≤l.length) (hl:l.length=n) (hn:n≤1048576):(bv out).length+1≤140737488355328∧∀ x,(bv out++[x]).length+1≤140737488355328 :=
  fact_len2 (Nat.le_of_eq h) hk hl hn
set_option maxRecDepth 100000 in
set_option maxHeartbeats 4000000 in
theorem mod_groups4 (s:ByteArray) (hs:s.size≤1048576) (alph:ByteArray) (ha:alph=digitsB) (w:World) :
    Calls Tryz.prog 150 #[.string s,.int .i64 4,.string alph] w fun e w'=>e=.returned (.string ⟨(hexN s.data.toList).toArray⟩)∧Below w.heap.size w w':=by
  have has:alph.size=16:=by rw [ha];exact digits_size
  have hidx:∀ (i:Nat) (h:i<alph.size),alph[i].toNat=(L16 i).toNat:=by
    intro i h
    subst ha
    exact get_alph digitsB i h
  have HA:=Lib.hid ha
  clear ha
  obtain ⟨l,hl⟩:∃ l,s.data.toList=l:=⟨_,rfl⟩
  have hll:l.length=s.size:=by rw [←hl];rfl
  have hget:∀ i (h:i<s.size),s[i].toNat=(l.getD i 0).toNat:=by
    intro i h
    have h2:s.data.toList[i]?=some s[i]:=by
      rw [List.getElem?_eq_some_iff];exact ⟨h,rfl⟩
    rw [hl] at h2
    simp [List.getD,h2]
  have HLL:=Lib.hid hll
  have HG:=Lib.hid hget
  have HL:=Lib.hid hl
  rw [hl]
  clear hl hll hget
  go_enter Tryz.func150,Tryz.ntmps150
  go_wp2_with fail
  go_loopw [8,9,10,13] (fun a b _ i W=>RH w l a b i W) (fun _ _ _ i _=>l.length - (intOf i).toNat)
  case atStart =>
    exact ⟨0,Nat.zero_le _,rfl,rfl,rfl,Lib.IsBuilderF.of (Lib.fresh_isBuilder 164 5 w),(Below.refl _ _).alloc (Nat.le_refl _) _⟩
  case round =>
    obtain ⟨k,hk,rfl,rfl,rfl,hown,hb⟩:=hrel
    by_cases hlt:k<s.size
    · have hkl:k<l.length:=by rw [HLL.out];exact hlt
      obtain ⟨b,hbk⟩:∃ b,l[k]?=some b:=⟨_,List.getElem?_eq_getElem hkl⟩
      have hsb:s[k].toNat=b.toNat:=by
        have:=HG.out k hlt
        rw [show l.getD k 0=b by simp [List.getD,hbk]] at this
        exact this
      have htk:hexN (l.take (k+1))=hexN (l.take k)++[L16 (b.toNat / 16),L16 (b.toNat % 16)]:=by rw [take_snoc hbk,hexN_snoc]
      have hlen:=hexN_len (l.take k)
      rw [List.length_take,Nat.min_eq_left hk] at hlen
      obtain ⟨X,Y,hX,hY,hO,wb,HF⟩:=fact_h b
      rw [hX,hY] at htk
      have HTK:=Lib.hid htk
      obtain ⟨out,hS⟩:∃ st,hexN (l.take k)=st:=⟨_,rfl⟩
      rw [hS] at hown hlen HTK
      have k0:(0:Int)≤(k:Int):=by omega
      have k1:(k:Int)<(s.size:Int):=by omega
      have wk:wrap64 ((k:Int)+1)=(k:Int)+1:=by unfold wrap64;omega
      have HP:=Lib.hid (fact_len3 hlen hk HLL.out hs)
      have HI:=Lib.hid hidx
      have HFF:=Lib.hid HF
      clear htk hS hidx hX hY HF hlen
      go_wp2_with fail
      refine wp_loop_rounds 4 ?_
      rw [rounds_succ]
      have hidx:=HI.out
      obtain ⟨d1,aN,e0,e1,a0,y0,y1,d2⟩:=HFF.out
      go_wp2_with fail
      refine (Tryz.bld_WriteByte w.heap.size w.heap.size (bv out) ((L16 X).toNat:Int) wr hown HP.out.1 hb.size).mono ?_
      rintro e w1 ⟨rfl,hbld_w1,hbel_w1,_⟩
      have own1:Lib.IsBuilderF 164 5 w.heap.size w.heap.size ((bv out)++[.int .u8 ((L16 X).toNat:Int)]) w1:=.inr hbld_w1
      have hb_w1:Below w.heap.size w w1:=hb.trans hbel_w1
      clear hbld_w1 hbel_w1
      go_wp2_with fail
      rw [rounds_succ]
      go_wp2_with fail
      refine (Tryz.bld_WriteByte w.heap.size w.heap.size (bv out++[.int .u8 ((L16 X).toNat:Int)]) ((L16 Y).toNat:Int) w1 own1 (HP.out.2 _) hb_w1.size).mono ?_
      rintro e w2 ⟨rfl,hbld_w2,hbel_w2,_⟩
      have own2:Lib.IsBuilderF 164 5 w.heap.size w.heap.size ((bv out++[.int .u8 ((L16 X).toNat:Int)])++[.int .u8 ((L16 Y).toNat:Int)]) w2:=.inr hbld_w2
      have hb_w2:Below w.heap.size w w2:=hb_w1.trans hbel_w2
      clear hbld_w2 hbel_w2
      go_wp2_with fail
      rw [rounds_succ]
      go_wp2_with fail
      go_roundw
      case rel =>
        refine ⟨k+1,hkl,by go_num,rfl,rfl,?_,hb_w2⟩
        rw [HTK.out]
        simpa [bv] using own2
      case measure =>
        have hkl2:=hkl
        clear aN d1 e0 e1 d2 a0 y0 y1
        simp [intOf]<;>omega
    · obtain rfl:k=l.length:=by have:=HLL.out;omega
      have hk1:¬ ((l.length:Nat):Int)<(s.size:Int):=by have:=HLL.out;omega
      rw [List.take_length] at hown
      obtain ⟨out,hS⟩:∃ st,hexN l=st:=⟨_,rfl⟩
      rw [hS] at hown
      have E:=Lib.hid hS
      have hcs:=Lib.hid (Tryz.Builder_String_any_k w.heap.size w.heap.size out wr hown hb.size)
      clear hS hk
      go_wp2_with fail
      refine hcs.out.mono ?_
      rintro e w1 ⟨rfl,_,hb1,_⟩
      have hend:Below w.heap.size w w1:=hb.trans hb1
      clear hb1 hcs
      go_wp2_with fail
      go_ret
      exact ⟨by rw [E.out];rfl,hend⟩
set_option maxRecDepth 100000 in
theorem mod_hex (s:ByteArray) (hs:s.size≤1048576) (w:World) :
    Calls Tryz.prog 126 #[.string s] w fun e w'=>e=.returned (.string ⟨(hexN s.data.toList).toArray⟩)∧Below w.heap.size w w':=by
  have hc:=Lib.hid (mod_groups4 s hs digitsB rfl)
  go_enter Tryz.func126,Tryz.ntmps126
  go_wp2_with fail
  refine (hc.out _).mono ?_
  rintro e w1 ⟨rfl,hb⟩
  clear hc
  go_wp2_with fail
  go_ret
  exact ⟨rfl,hb⟩
end Go.Proofs.YtmdgeknnhckgfaaGreatDoor
