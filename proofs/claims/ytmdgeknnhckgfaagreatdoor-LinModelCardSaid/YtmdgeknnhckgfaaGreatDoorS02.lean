/-
  Parts of the proof of the law LinModel: Wr, Text, OwnB.
-/
import Derived.Test.YtmdgeknnhckgfaaGreatDoorS01
import Derived.Lib.ConvBytes
set_option linter.unusedSimpArgs false
set_option linter.unusedVariables false
namespace Go.Proofs.YtmdgeknnhckgfaaGreatDoor
open Go Go.RowKit
section
variable {M:Nat}
theorem some_form {w:World} {base e n:Nat} {v:Value} {xs:List Value} (h:w.ownsRow base e 1 v n xs) (hne:¬ v=.slice none 0 0):∃ A c,v=.slice (some A) n c:=by
  rcases h.2 with ⟨h1,_⟩ | ⟨g,cap,cur,h1,_⟩
  · exact absurd h1 hne
  · exact ⟨_,_,h1⟩
def putW (M:Nat) (st:Option (List UInt8)) (d:List UInt8):Option (List UInt8):=st.bind fun l=>if (M:Int) - l.length<d.length then none else some (l++d)
structure WrIs (M:Nat) (w:World) (base p:Nat) (F:Nat→Prop) (st:Option (List UInt8)):Prop where
  ex:∃ v l,Blk w p #[.int .i64 (M:Nat),v,.bool st.isNone] 209∧w.ownsRow base 5 1 v l.length (bv l)∧(st=none∨st=some l)∧(l.length≤M∧M≤1099511627776)∧F p∧∀ g,v.ownBlock=some g→F g
  lt:∀ k,F k→base≤k∧k<w.heap.size
theorem WrIs.only {w w':World} {base p:Nat} {F S:Nat→Prop} {st:Option (List UInt8)} (h:WrIs M w base p F st) (ho:Only S w w') (hS:∀ k,F k→¬ S k):WrIs M w' base p F st:=by
  obtain ⟨v,l,h1,h2,h3,⟨h4,hM40⟩,h5,h6⟩:=h.ex
  refine ⟨⟨v,l,h1.only ho (hS p h5),?_,h3,⟨h4,hM40⟩,h5,h6⟩,fun k hk=>⟨(h.lt k hk).1,Nat.lt_of_lt_of_le (h.lt k hk).2 ho.size⟩⟩
  refine ⟨h2.1,?_⟩
  rcases h2.2 with h3 | ⟨g,cap',cur,e1,hb,hg,hr2⟩
  · exact .inl h3
  · exact .inr ⟨g,cap',cur,e1,hb,Blk.only (show Blk w g cur 5 from hg) ho (hS g (h6 g (by rw [e1];rfl))),hr2⟩
theorem WrIs.kept {w w':World} {base p:Nat} {F:Nat→Prop} {st:Option (List UInt8)} (h:WrIs M w base p F st) (hb:Below w.heap.size w w'):WrIs M w' base p F st:=h.only (Only.of_below (S:=fun _=>False) hb) fun _ _ h=>h
def PutsW (M:Nat) (w:World) (base p:Nat) (F:Nat→Prop) (st':Option (List UInt8)) (e:Ending) (w':World):Prop :=
  e=.returned (.tuple #[])∧∃ F',WrIs M w' base p F' st'∧(∀ k,F' k→F k∨w.heap.size≤k)∧Only F w w'
set_option maxRecDepth 100000 in
set_option maxHeartbeats 1000000 in
theorem writer_put {w:World} {base p:Nat} {F:Nat→Prop} {st:Option (List UInt8)} (h:WrIs M w base p F st) (hB:base≤w.heap.size) {ad:Addr} {d:List UInt8} {c:Nat} (hd:∀ j u,(bv d)[j]?=some u→w.cell? (ad.add j)=some u) :
    Calls Tryz.prog 140 #[.pointer (some ⟨p,0,none⟩),.slice (some ad) d.length c] w (PutsW M w base p F (putW M st d)):=by
  obtain ⟨v,l,h1,h2,h3,⟨h4,hM40⟩,h5,h6⟩:=h.ex
  obtain ⟨i0,hi,hz0,hz1,hz2⟩:=info_parts Tryz.infoByte
  obtain ⟨A,cap,rfl⟩:=(Reads.of_own h2).form
  have c0:w.cell? ⟨p,0,none⟩=some (.int .i64 (M:Nat)):=h1.cell 0 _ rfl
  have c1:w.cell? ⟨p,1,none⟩=some (.slice A l.length cap):=h1.cell 1 _ rfl
  have c2:w.cell? ⟨p,2,none⟩=some (.bool st.isNone):=h1.cell 2 _ rfl
  have cf:=h1.frozen
  have pl:=h1.lt
  have HW:=Lib.hid h
  have H1:=Lib.hid h1
  have H2:=Lib.hid h2
  have HD:=Lib.hid hd
  clear h h1 h2 hd
  rcases h3 with rfl | rfl
  · have c2':w.cell? ⟨p,2,none⟩=some (.bool true):=c2
    clear c2
    go_enter Tryz.func140,Tryz.ntmps140
    go_wp2_with fail
    exact body_none rfl rfl ⟨rfl,F,HW.out,fun k hk=>.inl hk,Only.refl _ _⟩
  · have c2':w.cell? ⟨p,2,none⟩=some (.bool false):=c2
    clear c2
    by_cases hr:(M:Int) - (l.length:Int)<(d.length:Int)
    · have hp:putW M (some l) d=none:=by simp [putW,hr]
      have HP:=Lib.hid hp
      have hw:IntKind.i64.wrap ((M:Int) - (l.length:Int))=(M:Int) - (l.length:Int):=IntWalk.i64_in _ (by omega)
      clear hp
      go_enter Tryz.func140,Tryz.ntmps140
      go_wp2_with fail
      go_quiet (fail)
      go_wp2_with fail
      refine body_none rfl rfl ⟨rfl,F,⟨⟨_,l,(by rw [HP.out];exact (H1.out.drewN nq).setCell 2 (.bool true)),own_set (w:=w.drewN nq) H2.out (H1.out.drewN nq) (by decide) 2 _,.inl (by simp [putW,hr]),by omega,h5,h6⟩,?_⟩,fun k hk=>.inl hk,?_⟩
      · intro k hk
        exact ⟨(HW.out.lt k hk).1,by rw [World.size_setCell];exact (HW.out.lt k hk).2⟩
      · exact (Only.of_below (Go.below_drewN (Below.refl _ _) nq)).setCell (.inl h5) 2 _
    · have hp:putW M (some l) d=some (l++d):=by
        unfold putW
        simp only [Option.bind_some]
        rw [if_neg (by omega)]
      have HP:=Lib.hid hp
      have hw:IntKind.i64.wrap ((M:Int) - (l.length:Int))=(M:Int) - (l.length:Int):=IntWalk.i64_in _ (by omega)
      have hr':¬ (M:Int) - (l.length:Int)<(d.length:Int):=hr
      have hpF:=HW.out.lt p h5
      have hdr:Below w.heap.size w w.drew:=(Below.refl _ _).drew
      have p1:l.length+d.length≤maxLen:=by unfold maxLen;omega
      have p2:(l.length+d.length)*1≤140737488355328:=by omega
      have hld:d.length≤(M:Int) - l.length:=by omega
      clear hp
      go_enter Tryz.func140,Tryz.ntmps140
      go_wp2_with fail
      go_quiet (fail)
      go_wp2_with (at_builtin;refine wpList_append_row rfl _ _ 123 rfl base 5 i0 (.int .u8 0) 1 1 Tryz.underlying123 hi hz0 hz1 hz2 rfl (by decide) _ _ (bv l) rfl (w:=w.drewN nq) H2.out ad d.length c (bv d) rfl (by rw [bv_len,Nat.mul_one]) HD.out (bv_one d) p1 p2 hB ?_)
      intro v' w1 own1 hgr hfr
      obtain ⟨A',cap',rfl⟩:=(Reads.of_own own1).form
      have hb1:w.heap.size≤w1.heap.size:=hgr.size
      have hne:some p≠(Value.slice A l.length cap).ownBlock:=by
        intro e
        rcases H2.out.2 with ⟨h1,_⟩ | ⟨g,cap',cur,h1,_,hg,_⟩
        · rw [h1] at e;cases e
        · rw [h1] at e
          cases e
          have:=hg.symm.trans H1.out
          injection this with this
          injection this with _ e2 _
          exact absurd e2 (by decide)
      have hk1:Blk w1 p #[.int .i64 (M:Nat),.slice A l.length cap,.bool false] 209:=(hgr.block p pl hne).trans H1.out
      have r1:=hk1.cell 1 _ rfl
      have rf:=hk1.frozen
      have rl:=hk1.lt
      have own1':=own_set own1 hk1 (by decide) 1 (.slice A' (l.length+d.length) cap')
      have hne':∀ k,(Value.slice A' (l.length+d.length) cap').ownBlock=some k→k<w1.heap.size∧base≤k:=fun k hk=>⟨(own1.lt k hk).2,(own1.lt k hk).1⟩
      clear cf c0 c1 c2'
      go_wp2_with fail
      refine body_none rfl rfl ⟨rfl,fun k=>k=p∨(Value.slice A' (l.length+d.length) cap').ownBlock=some k,⟨⟨_,l++d,?_,?_,.inr HP.out,?_,.inl rfl,fun g hg=>.inr hg⟩,?_⟩,?_,?_⟩
      · rw [HP.out];exact hk1.setCell 1 (.slice A' (l.length+d.length) cap')
      · rw [bv_append,List.length_append];exact own1'
      · rw [List.length_append];omega
      · intro k hk
        rw [World.size_setCell]
        rcases hk with rfl | hk
        · exact ⟨hpF.1,rl⟩
        · exact ⟨(hne' k hk).2,(hne' k hk).1⟩
      · intro k hk
        rcases hk with rfl | hk
        · exact .inl h5
        · exact (hfr k hk).imp (h6 k) id
      · refine (Only.of_below (Go.below_drewN (Below.refl _ _) nq)).trans (Only.setCell (w:=w1) (a:=w.drewN nq) ⟨hgr.os,hgr.tape,hgr.output,hgr.size,fun k hk hn=>hgr.block k hk (fun e=>hn (h6 k e.symm))⟩ (.inl h5) 1 (.slice A' (l.length+d.length) cap'))
theorem PutsW.pre {w w1 w':World} {base p:Nat} {F:Nat→Prop} {st:Option (List UInt8)} {e:Ending} (hb:Below w.heap.size w w1) (h:PutsW M w1 base p F st e w'):PutsW M w base p F st e w':=by
  obtain ⟨h1,F',h2,h3,h4⟩:=h
  exact ⟨h1,F',h2,fun k hk=>(h3 k hk).imp id (fun h=>Nat.le_trans hb.size h),(Only.of_below hb).trans h4⟩
set_option maxRecDepth 100000 in
set_option maxHeartbeats 1000000 in
theorem writer_varint {w:World} {base p:Nat} {F:Nat→Prop} {st:Option (List UInt8)} (h:WrIs M w base p F st) (hB:base≤w.heap.size) (n:Nat) (hn:n<18446744073709551616) :
    Calls Tryz.prog 113 #[.pointer (some ⟨p,0,none⟩),.int .u64 n] w (PutsW M w base p F (putW M st (varN n))):=by
  have HW:=Lib.hid h
  clear h
  go_enter Tryz.func113,Tryz.ntmps113
  go_wp2_with fail
  refine (varint_spec n hn w).mono ?_
  rintro e w1 ⟨A,c,rfl,hown,hb1⟩
  have HO:=Lib.hid hown
  clear hown
  go_wp2_with fail
  refine (writer_put (HW.out.kept hb1) (Nat.le_trans hB hb1.size) (own_src HO.out)).mono ?_
  rintro e w2 h2
  have h3:=h2.pre hb1
  obtain ⟨rfl,h4⟩:=h3
  clear h2
  go_wp2_with fail
  exact body_none rfl rfl ⟨rfl,h4⟩
theorem put_new_bytes {w:World} {base p:Nat} {F:Nat→Prop} {st:Option (List UInt8)} (h:WrIs M w base p F st) (hB:base≤w.heap.size) (d:List UInt8) (arr:Array Value) (ha:arr=(bv d).toArray) (c:Nat) :
    Calls Tryz.prog 140 #[.pointer (some ⟨p,0,none⟩),.slice (some ⟨w.heap.size,0,none⟩) d.length c] (w.alloc (.cells arr 5)) (PutsW M w base p F (putW M st d)):=by
  subst ha
  have hb:Below w.heap.size w (w.alloc (.cells (bv d).toArray 5)):=(Below.refl _ _).alloc (Nat.le_refl _) _
  refine (writer_put (h.kept hb) (Nat.le_trans hB hb.size) (fun j u hj=>?_)).mono fun e w' h2=>h2.pre hb
  rw [add_at rfl]
  have:=(Blk.new w (bv d).toArray 5).cell j u (by simpa using hj)
  simpa using this
set_option maxRecDepth 100000 in
set_option maxHeartbeats 1000000 in
theorem number_u64 {w:World} {base p:Nat} {F:Nat→Prop} {st:Option (List UInt8)} (h:WrIs M w base p F st) (hB:base≤w.heap.size) (n:Nat) (hn:n<18446744073709551616) :
    Calls Tryz.prog 170 #[.pointer (some ⟨p,0,none⟩),.int .u64 n,.int .i64 8] w (PutsW M w base p F (putW M st (be8 n))):=by
  have HW:=Lib.hid h
  clear h
  have hmk:∀ W,(Instr.makeSlice 123 (.int .i64 8) (.int .i64 8)).run Tryz.prog W=.ok (.slice (some ⟨W.heap.size,0,none⟩) 8 8) (W.alloc (.cells #[.int .u8 0,.int .u8 0,.int .u8 0,.int .u8 0,.int .u8 0,.int .u8 0,.int .u8 0,.int .u8 0] 5)):=fun W=>by
    have:=make_bytes 8 (by decide) W
    rw [show madeCells #[.int .u8 0] 8=#[.int .u8 0,.int .u8 0,.int .u8 0,.int .u8 0,.int .u8 0,.int .u8 0,.int .u8 0,.int .u8 0] from by kernel_rfl] at this
    exact this
  go_enter Tryz.func170,Tryz.ntmps170
  go_wp2_with fail
  refine wp_loop_rounds 10 ?_
  rw [rounds_succ]
  go_wp2_with fail
  rw [rounds_succ]
  go_wp2_with fail
  rw [rounds_succ]
  go_wp2_with fail
  rw [rounds_succ]
  go_wp2_with fail
  rw [rounds_succ]
  go_wp2_with fail
  rw [rounds_succ]
  go_wp2_with fail
  rw [rounds_succ]
  go_wp2_with fail
  rw [rounds_succ]
  go_wp2_with fail
  rw [rounds_succ]
  go_wp2_with fail
  refine (put_new_bytes HW.out hB (be8 n) _ ?_ 8).mono ?_
  · simp [bv,be8,UInt8.toNat_ofNat'];omega
  rintro e w2 ⟨rfl,h4⟩
  go_wp2_with fail
  exact body_none rfl rfl ⟨rfl,h4⟩
set_option maxRecDepth 100000 in
theorem writer_u64 {w:World} {base p:Nat} {F:Nat→Prop} {st:Option (List UInt8)} (h:WrIs M w base p F st) (hB:base≤w.heap.size) (n:Nat) (hn:n<18446744073709551616) :
    Calls Tryz.prog 146 #[.pointer (some ⟨p,0,none⟩),.int .u64 n] w (PutsW M w base p F (putW M st (be8 n))):=by
  have HN:=Lib.hid (number_u64 h hB n hn)
  clear h
  go_enter Tryz.func146,Tryz.ntmps146
  go_wp2_with fail
  refine HN.out.mono ?_
  rintro e w2 ⟨rfl,h4⟩
  go_wp2_with fail
  exact body_none rfl rfl ⟨rfl,h4⟩
def strW (st:Option (List UInt8)):ByteArray:=⟨(st.getD []).toArray⟩
def errW (st:Option (List UInt8)):Int:=if st.isNone then 3 else 0
set_option maxRecDepth 100000 in
theorem writer_done {w:World} {base p:Nat} {F:Nat→Prop} {st:Option (List UInt8)} (h:WrIs M w base p F st) :
    Calls Tryz.prog 115 #[.pointer (some ⟨p,0,none⟩)] w fun e w'=>e=.returned (.tuple #[.string (strW st),.int .i64 (errW st)])∧w=w':=by
  obtain ⟨v,l,h1,h2,h3,⟨h4,hM40⟩,h5,h6⟩:=h.ex
  have hcv:=conv_own h2
  obtain ⟨A,cap,rfl⟩:=(Reads.of_own h2).form
  have c1:w.cell? ⟨p,1,none⟩=some (.slice A l.length cap):=h1.cell 1 _ rfl
  have c2:w.cell? ⟨p,2,none⟩=some (.bool st.isNone):=h1.cell 2 _ rfl
  have pl:=h1.lt
  clear h h1 h2 h4
  rcases h3 with rfl | rfl
  · have c2':w.cell? ⟨p,2,none⟩=some (.bool true):=c2
    clear c2
    go_enter Tryz.func115,Tryz.ntmps115
    go_wp2_with fail
    go_ret2
    exact ⟨rfl,rfl⟩
  · have c2':w.cell? ⟨p,2,none⟩=some (.bool false):=c2
    clear c2
    go_enter Tryz.func115,Tryz.ntmps115
    go_wp2_with fail
    go_ret2
    exact ⟨rfl,rfl⟩
set_option maxRecDepth 100000 in
theorem writer_new (hM:M≤1099511627776) (w:World):Calls Tryz.prog 112 #[.int .i64 (M:Nat)] w fun e w'=>e=.returned (.pointer (some ⟨w.heap.size,0,none⟩))∧WrIs M w' w.heap.size w.heap.size (fun k=>k=w.heap.size) (some [])∧Below w.heap.size w w'∧w'.heap.size=w.heap.size+1:=by
  go_enter Tryz.func112,Tryz.ntmps112
  go_wp2_with fail
  go_ret
  exact ⟨rfl,⟨⟨.slice none 0 0,[],Blk.new _ _ _,World.ownsRow_nil _ _ _ _,.inr rfl,⟨by simp,hM⟩,rfl,fun g hg=>by cases hg⟩,fun k hk=>by subst hk;simp⟩,(Below.refl _ _).alloc (Nat.le_refl _) _,by simp⟩
theorem putW_append (st:Option (List UInt8)) (a b:List UInt8):putW M (putW M st a) b=putW M st (a++b):=by
  cases st with
  | none=>rfl
  | some l =>
    simp only [putW,Option.bind_some]
    by_cases h:(M:Int) - l.length<a.length
    · rw [if_pos h,if_pos (by rw [List.length_append];omega)];rfl
    · rw [if_neg h]
      simp only [Option.bind_some,List.length_append]
      by_cases h2:(M:Int) - ((l.length+a.length:Nat):Int)<b.length
      · rw [if_pos h2,if_pos (by omega)]
      · rw [if_neg h2,if_neg (by omega),List.append_assoc]
theorem putW_nil (l:List UInt8) (h:l.length≤M):putW M (some []) l=some l:=by
  unfold putW
  simp only [Option.bind_some]
  rw [if_neg (by simp;omega)]
  simp
def textN (s:ByteArray):List UInt8:=varN s.size++s.data.toList
set_option maxRecDepth 100000 in
set_option maxHeartbeats 1000000 in
theorem writer_text {w:World} {base p:Nat} {F:Nat→Prop} {st:Option (List UInt8)} (h:WrIs M w base p F st) (hB:base≤w.heap.size) (s:ByteArray) (hs:s.size≤1099511627776) :
    Calls Tryz.prog 114 #[.pointer (some ⟨p,0,none⟩),.string s] w (PutsW M w base p F (putW M st (textN s))):=by
  obtain ⟨i0,hi,hz0,hz1,hz2⟩:=info_parts Tryz.infoByte
  have HW:=Lib.hid h
  have hvl:=varN_len 9 s.size (by omega)
  have hu:IntKind.u64.wrap (s.size:Int)=(s.size:Int):=by rw [IntKind.wrap_u64];omega
  have p1:(varN s.size).length+s.size≤maxLen:=by unfold maxLen;omega
  have p2:(varN s.size).length+s.size≤140737488355328:=by omega
  clear h
  go_enter Tryz.func114,Tryz.ntmps114
  go_wp2_with fail
  refine (varint_spec s.size (by omega) w).mono ?_
  rintro e w1 ⟨A,c,rfl,hown,hb1⟩
  have HO:=Lib.hid hown
  have h1s:=hb1.size
  have htl:(textN s).length=(varN s.size).length+s.size:=by unfold textN;rw [List.length_append];rfl
  have HT:=Lib.hid htl
  clear hown htl
  go_wp2_with (at_builtin;refine wpList_append_text rfl _ _ 123 9 rfl w.heap.size 5 i0 Tryz.underlying123 Tryz.underlying9 hi hz0 hz1 hz2 _ _ _ rfl HO.out s rfl p1 p2 h1s ?_;intro v2 w2 own2 hgr hfr hn;obtain ⟨B,cB,rfl⟩:=some_form own2 (fun e=>nomatch (hn.1 e).1);have HO2:=Lib.hid own2;have hb2:=hb1.grown hgr h1s (fun z hz=>(HO.out.lt z hz).1);clear own2 hn hfr;rw [←HT.out])
  refine (writer_put (d:=textN s) (HW.out.kept hb2) (Nat.le_trans hB hb2.size) (fun j u hj=>own_src HO2.out j u (by unfold textN at hj;rw [bv_append] at hj;exact hj))).mono ?_
  rintro e w3 h3
  have h4:=h3.pre hb2
  obtain ⟨rfl,h5⟩:=h4
  clear h3
  go_wp2_with fail
  exact body_none rfl rfl ⟨rfl,h5⟩
end
end Go.Proofs.YtmdgeknnhckgfaaGreatDoor
namespace Go.Proofs.YtmdgeknnhckgfaaGreatDoor
open Go Go.RowKit
theorem str_add (x y:List UInt8) (h:x.length+y.length≤9223372036854775807) (W:World):(Op.stringOp .add ⟨x.toArray⟩ ⟨y.toArray⟩).run Tryz.prog W=.ok (.string ⟨(x++y).toArray⟩) W:=by
  rw [run_string_add_sum W _ _ (by simp [ByteArray.size];omega),ByteArray.mk_append_mk]
theorem str_add_s (x:List UInt8) (s:ByteArray) (h:x.length+s.size≤9223372036854775807) (W:World):(Op.stringOp .add ⟨x.toArray⟩ s).run Tryz.prog W=.ok (.string ⟨(x++s.data.toList).toArray⟩) W:=str_add x s.data.toList h W
set_option maxRecDepth 100000 in
set_option maxHeartbeats 1000000 in
theorem ref_text02 (s:ByteArray) (hs:s.size≤1099511627776) (w:World) :
    Calls Tryz.prog 81 #[.string s] w fun e w'=>e=.returned (.string ⟨(textN s).toArray⟩)∧Below w.heap.size w w':=by
  have hw:IntKind.u64.wrap (s.size:Int)=(s.size:Int):=by rw [IntKind.wrap_u64];omega
  have hc:∀ W,(Op.stringOp .add ⟨(varN s.size).toArray⟩ s).run Tryz.prog W=.ok (.string ⟨(textN s).toArray⟩) W:=fun W =>
    str_add_s (varN s.size) s (by have:=varN_len 9 s.size (by omega);omega) W
  go_enter Tryz.func81,Tryz.ntmps81
  go_wp2_with fail
  refine (ref_varint s.size (by omega) w).mono ?_
  rintro e w1 ⟨rfl,hb1⟩
  go_wp2_with fail
  go_ret
  exact ⟨rfl,hb1⟩
structure Ent where
  num:Nat
  kind:Nat
  tick:Nat
  sub:ByteArray
structure Ent.Ok (e:Ent):Prop where
  num:e.num<9223372036854775808
  kind:e.kind<9223372036854775808
  tick:e.tick<18446744073709551616
  sub:e.sub.size≤900000
def entCells (e:Ent):List Value:=[.int .i64 (e.num:Nat),.int .i64 (e.kind:Nat),.int .u64 (e.tick:Nat),.string e.sub]
def entV (e:Ent):Value:=.agg #[.int .i64 (e.num:Nat),.int .i64 (e.kind:Nat),.int .u64 (e.tick:Nat),.string e.sub]
def entN (e:Ent):List UInt8:=varN e.num++varN e.kind++varN e.tick++textN e.sub
theorem varN_len10 {n:Nat} (h:n<18446744073709551616):(varN n).length≤10:=varN_len 9 n (by omega)
theorem textN_len {s:ByteArray} (h:s.size≤1099511627776):(textN s).length≤10+s.size:=by
  unfold textN
  rw [List.length_append]
  have:=varN_len10 (n:=s.size) (by omega)
  have:s.data.toList.length=s.size:=rfl
  omega
set_option maxRecDepth 100000 in
set_option maxHeartbeats 2000000 in
theorem ref_Text (x:Ent) (hx:x.Ok) (w:World) :
    Calls Tryz.prog 65 #[entV x] w fun e w'=>e=.returned (.string ⟨(entN x).toArray⟩)∧Below w.heap.size w w':=by
  obtain ⟨num,kind,tick,sub⟩:=x
  obtain ⟨h1,h2,h3,h4⟩:=hx
  simp only at h1 h2 h3 h4
  have u1:IntKind.u64.wrap (num:Int)=(num:Int):=by rw [IntKind.wrap_u64];omega
  have u2:IntKind.u64.wrap (kind:Int)=(kind:Int):=by rw [IntKind.wrap_u64];omega
  have hN:=Lib.hid (ref_varint num (by omega))
  have hK2:=Lib.hid (ref_varint kind (by omega))
  have hT:=Lib.hid (ref_varint tick h3)
  have hS:=Lib.hid (ref_text02 sub (by omega))
  obtain ⟨a,ha⟩:∃ a,varN num=a:=⟨_,rfl⟩
  obtain ⟨b,hb⟩:∃ a,varN kind=a:=⟨_,rfl⟩
  obtain ⟨c,hc⟩:∃ a,varN tick=a:=⟨_,rfl⟩
  obtain ⟨d,hd⟩:∃ a,textN sub=a:=⟨_,rfl⟩
  have la:a.length≤10:=by rw [←ha];exact varN_len10 (by omega)
  have lb:b.length≤10:=by rw [←hb];exact varN_len10 (by omega)
  have lc:c.length≤10:=by rw [←hc];exact varN_len10 h3
  have ld:d.length≤10+sub.size:=by rw [←hd];exact textN_len (by omega)
  have hE:entN ⟨num,kind,tick,sub⟩=a++b++c++d:=by unfold entN;rw [ha,hb,hc,hd]
  obtain ⟨s1,hs1⟩:∃ s,s=a++b:=⟨_,rfl⟩
  obtain ⟨s2,hs2⟩:∃ s,s=s1++c:=⟨_,rfl⟩
  obtain ⟨s3,hs3⟩:∃ s,s=s2++d:=⟨_,rfl⟩
  have e1:∀ W,(Op.stringOp .add ⟨a.toArray⟩ ⟨b.toArray⟩).run Tryz.prog W=.ok (.string ⟨s1.toArray⟩) W:=fun W=>by rw [hs1];exact str_add _ _ (by omega) W
  have l1:s1.length=a.length+b.length:=by rw [hs1,List.length_append]
  have e2:∀ W,(Op.stringOp .add ⟨s1.toArray⟩ ⟨c.toArray⟩).run Tryz.prog W=.ok (.string ⟨s2.toArray⟩) W:=fun W=>by rw [hs2];exact str_add _ _ (by omega) W
  have l2:s2.length=s1.length+c.length:=by rw [hs2,List.length_append]
  have e3:∀ W,(Op.stringOp .add ⟨s2.toArray⟩ ⟨d.toArray⟩).run Tryz.prog W=.ok (.string ⟨s3.toArray⟩) W:=fun W=>by rw [hs3];exact str_add _ _ (by omega) W
  rw [ha] at hN
  rw [hb] at hK2
  rw [hc] at hT
  rw [hd] at hS
  rw [hE,←hs1,←hs2,←hs3]
  clear ha hb hc hd hE hs1 hs2 hs3 l1 l2 la lb lc ld
  unfold entV
  go_enter Tryz.func65,Tryz.ntmps65
  go_wp2_with fail
  have B:=Blk.new w #[.int .i64 (num:Nat),.int .i64 (kind:Nat),.int .u64 (tick:Nat),.string sub] 103
  have bl0:Below w.heap.size w (w.alloc (.cells #[.int .i64 (num:Nat),.int .i64 (kind:Nat),.int .u64 (tick:Nat),.string sub] 103)):=(Below.refl _ _).alloc (Nat.le_refl _) _
  obtain ⟨W0,hW0⟩:∃ W,w.alloc (.cells #[.int .i64 (num:Nat),.int .i64 (kind:Nat),.int .u64 (tick:Nat),.string sub] 103)=W:=⟨_,rfl⟩
  obtain ⟨q,hq⟩:∃ q,w.heap.size=q:=⟨_,rfl⟩
  rw [hW0] at B bl0 ⊢
  rw [hq] at B
  have c0:=B.cell 0 (.int .i64 (num:Nat)) rfl
  have c1:=B.cell 1 (.int .i64 (kind:Nat)) rfl
  have c2:=B.cell 2 (.int .u64 (tick:Nat)) rfl
  have c3:=B.cell 3 (.string sub) rfl
  have BB:=Lib.hid B
  have BL:=Lib.hid bl0
  simp only [hq]
  have HQ:=Lib.hid hq
  clear hW0 hq B bl0
  refine region_plan (S:=fun w':World=>w'.cell? ⟨q,0,none⟩=some (.int .i64 (num:Nat))∧w'.cell? ⟨q,1,none⟩=some (.int .i64 (kind:Nat))∧w'.cell? ⟨q,2,none⟩=some (.int .u64 (tick:Nat))∧w'.cell? ⟨q,3,none⟩=some (.string sub))
    ((0,true)::(1,true)::(2,true)::(4,true)::(5,true)::(6,true)::(9,true)::(10,true)::(13,true)::(14,true)::(3,false)::(7,false)::(8,true)::(11,false)::(12,true)::(15,false)::(16,true)::(17,true)::[])
    (by kernel_rfl) (by kernel_rfl) (by kernel_rfl) (by kernel_rfl) (fun _ _ _ dst _ h=>by cases dst<;>exact h) ⟨c0,c1,c2,c3⟩ (fun hH=>?_)
  clear hH
  (repeat (first | (refine plan_take (v:=?_) (by (simp only [ga1,ga2,ga3];exact rfl)) (by rfl) ?_ ?_;rotate_left;(focus (intro wS hS;(try dsimp only at hS);go_split_ands;go_simp;(try with_reducible rfl)));simp only [Act.put,pu1,pu2,pu3]) | (refine plan_skip (by (simp only [ga1,ga2,ga3];exact rfl)) (by rfl) ?_;simp only [Act.put,pu1,pu2,pu3])))
  (refine plan_solo (by (simp only [ga1,ga2,ga3];exact rfl)) (by rfl) ?_;intro K hK;go_simp)
  refine (hN.out _).mono ?_
  rintro e w1 ⟨rfl,hb1⟩
  have bb1:Below W0.heap.size W0 w1:=(Below.refl _ W0).drew.trans hb1
  refine hK.out _ _ ⟨cell_keep bb1 c0,cell_keep bb1 c1,cell_keep bb1 c2,cell_keep bb1 c3⟩ (fun hH=>?_)
  clear hK K hH
  (try simp only [Act.put,pu1,pu2,pu3])
  (repeat (first | (refine plan_take (v:=?_) (by (simp only [ga1,ga2,ga3];exact rfl)) (by rfl) ?_ ?_;rotate_left;(focus (intro wS hS;(try dsimp only at hS);go_split_ands;go_simp;(try with_reducible rfl)));simp only [Act.put,pu1,pu2,pu3]) | (refine plan_skip (by (simp only [ga1,ga2,ga3];exact rfl)) (by rfl) ?_;simp only [Act.put,pu1,pu2,pu3])))
  (refine plan_solo (by (simp only [ga1,ga2,ga3];exact rfl)) (by rfl) ?_;intro K hK;go_simp)
  refine (hK2.out _).mono ?_
  rintro e w2 ⟨rfl,hb2⟩
  have bb2:Below W0.heap.size W0 w2:=bb1.trans (hb2.mono bb1.size)
  refine hK.out _ _ ⟨cell_keep bb2 c0,cell_keep bb2 c1,cell_keep bb2 c2,cell_keep bb2 c3⟩ (fun hH=>?_)
  clear hK K hH
  (try simp only [Act.put,pu1,pu2,pu3])
  (repeat (first | (refine plan_take (v:=?_) (by (simp only [ga1,ga2,ga3];exact rfl)) (by rfl) ?_ ?_;rotate_left;(focus (intro wS hS;(try dsimp only at hS);go_split_ands;go_simp;(try with_reducible rfl)));simp only [Act.put,pu1,pu2,pu3]) | (refine plan_skip (by (simp only [ga1,ga2,ga3];exact rfl)) (by rfl) ?_;simp only [Act.put,pu1,pu2,pu3])))
  (refine plan_solo (by (simp only [ga1,ga2,ga3];exact rfl)) (by rfl) ?_;intro K hK;go_simp)
  refine (hT.out _).mono ?_
  rintro e w3 ⟨rfl,hb3⟩
  have bb3:Below W0.heap.size W0 w3:=bb2.trans (hb3.mono bb2.size)
  refine hK.out _ _ ⟨cell_keep bb3 c0,cell_keep bb3 c1,cell_keep bb3 c2,cell_keep bb3 c3⟩ (fun hH=>?_)
  clear hK K hH
  (try simp only [Act.put,pu1,pu2,pu3])
  (repeat (first | (refine plan_take (v:=?_) (by (simp only [ga1,ga2,ga3];exact rfl)) (by rfl) ?_ ?_;rotate_left;(focus (intro wS hS;(try dsimp only at hS);go_split_ands;go_simp;(try with_reducible rfl)));simp only [Act.put,pu1,pu2,pu3]) | (refine plan_skip (by (simp only [ga1,ga2,ga3];exact rfl)) (by rfl) ?_;simp only [Act.put,pu1,pu2,pu3])))
  (refine plan_solo (by (simp only [ga1,ga2,ga3];exact rfl)) (by rfl) ?_;intro K hK;go_simp)
  refine (hS.out _).mono ?_
  rintro e w4 ⟨rfl,hb4⟩
  have bb4:Below W0.heap.size W0 w4:=bb3.trans (hb4.mono bb3.size)
  refine hK.out _ _ ⟨cell_keep bb4 c0,cell_keep bb4 c1,cell_keep bb4 c2,cell_keep bb4 c3⟩ (fun hH=>?_)
  clear hK K hH
  (try simp only [Act.put,pu1,pu2,pu3])
  (repeat (first | (refine plan_take (v:=?_) (by (simp only [ga1,ga2,ga3];exact rfl)) (by rfl) ?_ ?_;rotate_left;(focus (intro wS hS;(try dsimp only at hS);go_split_ands;go_simp;(try with_reducible rfl)));simp only [Act.put,pu1,pu2,pu3]) | (refine plan_skip (by (simp only [ga1,ga2,ga3];exact rfl)) (by rfl) ?_;simp only [Act.put,pu1,pu2,pu3])))
  refine plan_nil ?_
  have bend:Below w.heap.size w w4:=BL.out.trans (bb4.mono BL.out.size)
  clear hN hK2 hT hS
  go_wp2_with fail
  go_ret
  exact ⟨rfl,bend⟩
def WrAt (M:Nat) (w:World) (p:Nat) (st:Option (List UInt8)) (W:World):Prop:=∃ F,WrIs M W w.heap.size p F st∧Below w.heap.size w W
theorem WrAt.puts {M:Nat} {w W:World} {p f:Nat} {st st':Option (List UInt8)} {args:Array Value} (h:WrAt M w p st W) (hc:∀ F,WrIs M W w.heap.size p F st→w.heap.size≤W.heap.size→Calls Tryz.prog f args W (PutsW M W w.heap.size p F st')) :
    Calls Tryz.prog f args W fun e W'=>e=.returned (.tuple #[])∧WrAt M w p st' W'∧Only (fun k=>w.heap.size≤k) W W':=by
  obtain ⟨F,h1,h2⟩:=h
  refine (hc F h1 h2.size).mono ?_
  rintro e W' ⟨rfl,F',h3,h4,h5⟩
  have h6:Only (fun k=>w.heap.size≤k) W W':=h5.mono (fun k _ hk=>(h1.lt k hk).1)
  exact ⟨rfl,⟨F',h3,h2.trans (h6.below h2.size (fun k hk=>hk))⟩,h6⟩
set_option maxRecDepth 100000 in
set_option maxHeartbeats 2000000 in
theorem mod_Text (x:Ent) (hx:x.Ok) (hl:(entN x).length≤x.sub.size+64) (w:World) :
    Calls Tryz.prog 91 #[entV x] w fun e w'=>e=.returned (.string ⟨(entN x).toArray⟩)∧Below w.heap.size w w':=by
  obtain ⟨num,kind,tick,sub⟩:=x
  obtain ⟨h1,h2,h3,h4⟩:=hx
  simp only at h1 h2 h3 h4 hl
  have u1:IntKind.u64.wrap (num:Int)=(num:Int):=by rw [IntKind.wrap_u64];omega
  have u2:IntKind.u64.wrap (kind:Int)=(kind:Int):=by rw [IntKind.wrap_u64];omega
  have u3:IntKind.i64.wrap ((sub.size:Int)+64)=((sub.size+64:Nat):Int):=(IntWalk.i64_in _ (by omega)).trans (by omega)
  obtain ⟨M,hM⟩:∃ M,M=sub.size+64:=⟨_,rfl⟩
  rw [←hM] at u3 hl
  have hM2:M≤1099511627776:=by omega
  have HM:=Lib.hid hM
  have q1:putW M (some []) (varN num)=some (varN num):=putW_nil _ (by unfold entN at hl;simp only [List.length_append] at hl;omega)
  have q2:putW M (some (varN num)) (varN kind)=some (varN num++varN kind):=by
    rw [←q1,putW_append];exact putW_nil _ (by unfold entN at hl;simp only [List.length_append] at hl ⊢;omega)
  have q3:putW M (some (varN num++varN kind)) (varN tick)=some (varN num++varN kind++varN tick):=by
    rw [←q2,←q1,putW_append,putW_append];exact (putW_nil _ (by unfold entN at hl;simp only [List.length_append] at hl ⊢;omega)).trans (by rw [List.append_assoc])
  have q4:putW M (some (varN num++varN kind++varN tick)) (textN sub)=some (entN ⟨num,kind,tick,sub⟩):=by
    have e:some (varN num++varN kind++varN tick)=putW M (some []) (varN num++varN kind++varN tick):=(putW_nil _ (by unfold entN at hl;simp only [List.length_append] at hl ⊢;omega)).symm
    rw [e,putW_append];exact putW_nil _ hl
  have Q1:=Lib.hid q1
  have Q2:=Lib.hid q2
  have Q3:=Lib.hid q3
  have Q4:=Lib.hid q4
  clear q1 q2 q3 q4 hl
  unfold entV
  go_enter Tryz.func91,Tryz.ntmps91
  go_wp2_with fail
  have B:=Blk.new w #[.int .i64 (num:Nat),.int .i64 (kind:Nat),.int .u64 (tick:Nat),.string sub] 103
  have bl0:Below w.heap.size w (w.alloc (.cells #[.int .i64 (num:Nat),.int .i64 (kind:Nat),.int .u64 (tick:Nat),.string sub] 103)):=(Below.refl _ _).alloc (Nat.le_refl _) _
  obtain ⟨V,hV⟩:∃ W,w.alloc (.cells #[.int .i64 (num:Nat),.int .i64 (kind:Nat),.int .u64 (tick:Nat),.string sub] 103)=W:=⟨_,rfl⟩
  obtain ⟨q,hq⟩:∃ q,w.heap.size=q:=⟨_,rfl⟩
  rw [hV] at B bl0 ⊢
  rw [hq] at B
  have c0:=B.cell 0 (.int .i64 (num:Nat)) rfl
  have c1:=B.cell 1 (.int .i64 (kind:Nat)) rfl
  have c2:=B.cell 2 (.int .u64 (tick:Nat)) rfl
  have c3:=B.cell 3 (.string sub) rfl
  have BB:=Lib.hid B
  have BL:=Lib.hid bl0
  simp only [hq]
  have HQ:=Lib.hid hq
  have eM:(sub.size:Int)+64=((M:Nat):Int):=by omega
  rw [eM]
  clear hV hq B bl0 u3 eM hM
  refine (writer_new hM2 V).mono ?_
  rintro e W1 ⟨rfl,hw1,hb1,hs1⟩
  obtain ⟨p,hp⟩:∃ p,V.heap.size=p:=⟨_,rfl⟩
  have A1:WrAt M V p (some []) W1:=⟨_,by rw [←hp];exact hw1,hb1⟩
  have bb1:Below V.heap.size V W1:=hb1
  simp only [hp]
  have k0:=cell_keep bb1 c0
  have k1:=cell_keep bb1 c1
  have BB1:=Lib.hid bb1
  have AA1:=Lib.hid A1
  have HP:=Lib.hid hp
  clear hp hw1 hb1 hs1 A1 bb1
  go_wp2_with fail
  refine (AA1.out.puts (st':=some (varN num)) (fun F hF hB=>by rw [←Q1.out];exact writer_varint hF hB num (by omega))).mono ?_
  rintro e W2 ⟨rfl,A2,o2⟩
  have bb2:Below V.heap.size V W2:=BB1.out.trans (o2.below BB1.out.size (fun k hk=>hk))
  have k1':=cell_keep bb2 c1
  have k2:=cell_keep bb2 c2
  have k3:=cell_keep bb2 c3
  have BB2:=Lib.hid bb2
  have AA2:=Lib.hid A2
  clear A2 o2 bb2 k0 k1
  go_wp2_with fail
  refine (AA2.out.puts (st':=some (varN num++varN kind)) (fun F hF hB=>by rw [←Q2.out];exact writer_varint hF hB kind (by omega))).mono ?_
  rintro e W3 ⟨rfl,A3,o3⟩
  have bb3:Below V.heap.size V W3:=BB2.out.trans (o3.below BB2.out.size (fun k hk=>hk))
  have k2':=cell_keep bb3 c2
  have BB3:=Lib.hid bb3
  have AA3:=Lib.hid A3
  clear A3 o3 bb3 k1' k2 k3
  go_wp2_with fail
  refine (AA3.out.puts (st':=some (varN num++varN kind++varN tick)) (fun F hF hB=>by rw [←Q3.out];exact writer_varint hF hB tick h3)).mono ?_
  rintro e W4 ⟨rfl,A4,o4⟩
  have bb4:Below V.heap.size V W4:=BB3.out.trans (o4.below BB3.out.size (fun k hk=>hk))
  have k3':=cell_keep bb4 c3
  have BB4:=Lib.hid bb4
  have AA4:=Lib.hid A4
  clear A4 o4 bb4 k2'
  go_wp2_with fail
  refine (AA4.out.puts (st':=some (entN ⟨num,kind,tick,sub⟩)) (fun F hF hB=>by rw [←Q4.out];exact writer_text hF hB sub (by omega))).mono ?_
  rintro e W5 ⟨rfl,A5,o5⟩
  have bb5:Below V.heap.size V W5:=BB4.out.trans (o5.below BB4.out.size (fun k hk=>hk))
  have BB5:=Lib.hid bb5
  have AA5:=Lib.hid A5
  clear A5 o5 bb5 k3'
  go_wp2_with fail
  have bend:Below w.heap.size w W5:=BL.out.trans (BB5.out.mono BL.out.size)
  obtain ⟨F5,hF5,_⟩:=AA5.out
  refine (writer_done hF5).mono ?_
  rintro e W6 ⟨rfl,hu⟩
  obtain rfl:=hu.symm
  have hst:strW (some (entN ⟨num,kind,tick,sub⟩))=⟨(entN ⟨num,kind,tick,sub⟩).toArray⟩:=rfl
  rw [hst]
  clear hst hF5
  go_wp2_with fail
  go_ret
  exact ⟨rfl,bend⟩
def OwnB (w:World) (base:Nat) (v:Value) (l:List UInt8):Prop :=
  ∃ g cap cur fz,v=.slice (some ⟨g,0,none⟩) l.length cap∧base≤g∧w.heap[g]?=some (.cells cur 5 fz)∧(fz=(0,0)∨fz=(cur.size,cur.size+1))∧l.length≤cap∧cap≤maxLen∧cur.size=cap∧cur.toList.take l.length=bv l
theorem OwnB.of_own {w:World} {base g cap:Nat} {l:List UInt8} (h:w.ownsRow base 5 1 (.slice (some ⟨g,0,none⟩) l.length cap) l.length (bv l)):OwnB w base (.slice (some ⟨g,0,none⟩) l.length cap) l:=by
  rcases h.2 with ⟨h1,_⟩ | ⟨g',cap',cur,h1,h2,h3,h4,h5,h6,h7⟩
  · cases h1
  · cases h1
    exact ⟨g,cap,cur,(0,0),rfl,h2,h3,.inl rfl,h4,h5,by omega,by rw [Nat.mul_one] at h7;exact h7⟩
theorem OwnB.conv {w:World} (s:ByteArray) (hc:grownCap w s.size 0 5≤maxLen) (hge:s.size≤grownCap w s.size 0 5) (hz:(Lib.bytesCells w 5 s).size=grownCap w s.size 0 5) (ht:(Lib.bytesCells w 5 s).toList.take s.size=bv s.data.toList) :
    OwnB (Lib.bytesWorld w 5 s) w.heap.size (.slice (some ⟨w.heap.size,0,none⟩) s.size (grownCap w s.size 0 5)) s.data.toList :=
  ⟨w.heap.size,_,_,_,rfl,Nat.le_refl _,Lib.bytesWorld_at_new w 5 s,.inr rfl,hge,hc,hz,ht⟩
theorem OwnB.cells {w:World} {base g n cap:Nat} {l:List UInt8} (h:OwnB w base (.slice (some ⟨g,0,none⟩) n cap) l):∀ j u,(bv l)[j]?=some u→w.cell? ((⟨g,0,none⟩:Addr).add j)=some u:=by
  obtain ⟨g',cap',cur,fz,h1,_,h3,_,_,_,_,h7⟩:=h
  cases h1
  intro j u hu
  rw [add_at rfl]
  show w.cell? ⟨g,0+j,none⟩=_
  rw [Nat.zero_add,cell_of_row w g j cur 5 fz h3]
  rw [←h7,List.getElem?_take] at hu
  split at hu
  · simpa using hu
  · cases hu
theorem run_append_one_room {w:World} {g n cap:Nat} {cur:Array Value} {fz:Nat×Nat} (i:TypeInfo) (hi:Tryz.prog.info? 5=some i) (hs:i.size=1) (hg:w.heap[g]?=some (.cells cur 5 fz)) (hfz:fz=(cur.size,cur.size+1)) (hr:n+1≤cap) (hc:cur.size=cap)
    (ad:Addr) (c:Nat) (x:Value) (hx:w.cell? (ad.add 0)=some x) (h1:x.oneCell'=true) (ty:TypeId) :
    (Builtin.append_ #[123,123] ty #[.slice (some ⟨g,0,none⟩) n cap,.slice (some ad) 1 c]).run Tryz.prog w=.ok (.slice (some ⟨g,0,none⟩) (n+1) cap) (w.setCell ⟨g,n,none⟩ x):=by
  have hf:=run_firstCells_some (P:=Tryz.prog) w i.size 1 ad 1 c [x] (by rw [hs];rfl) (by
    intro j u hj
    match j,hj with
    | 0,hj=>simp at hj;rw [←hj];exact hx)
  rw [hs] at hf
  have hst:(storeCells (⟨g,n,none⟩:Addr) [x] 0).run Tryz.prog w=.ok () (w.setCell ⟨g,n,none⟩ x):=by
    have ha:(⟨g,n,none⟩:Addr).add 0=⟨g,n,none⟩:=rfl
    have hcell:w.cell? ⟨g,n,none⟩=some (cur[n]'(by omega)):=by
      rw [cell_of_row w g n cur 5 fz hg];exact Array.getElem?_eq_getElem (by omega)
    have hfr:w.frozen? ⟨g,n,none⟩=false:=by
      subst hfz
      simp [World.frozen?,hg]
      omega
    simp only [storeCells,Sem.run_bind,ha]
    rw [run_store _ w _ x _ h1,hcell]
    simp [hfr]
  simp [Builtin.append_,run_underlying Tryz.underlying123,sizeOf,typeInfo,hi,Builtin.lenOf,hr,hf,hs,Addr.add_lit,hst]
theorem OwnB.app {w:World} {base:Nat} {v:Value} {l:List UInt8} (h:OwnB w base v l) (hb:base≤w.heap.size) (hl:l.length+1≤140737488355328) (ad:Addr) (c:Nat) (b:UInt8) (hx:w.cell? (ad.add 0)=some (.int .u8 (b.toNat:Int))) (ty:TypeId) :
    ∃ v' w',(Builtin.append_ #[123,123] ty #[v,.slice (some ad) 1 c]).run Tryz.prog w=.ok v' w'∧OwnB w' base v' (l++[b])∧Below base w w':=by
  obtain ⟨i,hi,hz0,hz1,hz2⟩:=info_parts Tryz.infoByte
  have hcells:=h
  obtain ⟨g,cap,cur,fz,rfl,h2,h3,h4,h5,h6,h7,h8⟩:=h
  have hnews:∀ j u,[Value.int .u8 (b.toNat:Int)][j]?=some u→w.cell? (ad.add j)=some u:=by
    intro j u hj
    match j,hj with
    | 0,hj=>simp at hj;rw [←hj];exact hx
  have hbl:(bv l).length=l.length:=bv_len l
  rcases h4 with rfl | hfz
  · have own:w.ownsRow base 5 1 (.slice (some ⟨g,0,none⟩) l.length cap) l.length (bv l):=⟨by rw [hbl];omega,.inr ⟨g,cap,cur,rfl,h2,h3,h5,h6,by omega,by rw [Nat.mul_one];exact h8⟩⟩
    obtain ⟨v',w',r1,r2,r3,r4⟩:=run_append_own (P:=Tryz.prog) w base 123 ty 5 i (.int .u8 0) 1 1 Tryz.underlying123 hi hz0 hz1 hz2 rfl (by decide) _ l.length (bv l) own ad 1 c [.int .u8 (b.toNat:Int)] rfl hnews (by simp [Value.oneCell']) (by unfold maxLen;omega) (by omega) hb
    obtain ⟨A,cap',rfl⟩:=(Reads.of_own r2).form
    refine ⟨_,w',r1,?_,⟨r3.os,r3.tape,r3.output,r3.size,fun k hk=>r3.block k (by omega) (fun e=>absurd (show k=g by simpa [Value.ownBlock] using e) (by omega))⟩⟩
    rcases r2.2 with ⟨e1,e2⟩ | ⟨g',cap'',cur',e1,e2,e3,e4,e5,e6,e7⟩
    · omega
    · cases e1
      refine ⟨g',cap',cur',(0,0),by rw [List.length_append];rfl,e2,e3,.inl rfl,by rw [List.length_append];exact e4,e5,by omega,?_⟩
      rw [Nat.mul_one] at e7
      rw [List.length_append,bv_append]
      exact e7
  · by_cases hr:l.length+1≤cap
    · have hrun:=run_append_one_room (w:=w) i hi hz1 h3 hfz hr h7 ad c _ hx (by rfl) ty
      refine ⟨_,_,hrun,⟨g,cap,cur.setIfInBounds l.length (.int .u8 (b.toNat:Int)),fz,by rw [List.length_append];rfl,h2,?_,?_,by rw [List.length_append];exact hr,h6,by simpa using h7,?_⟩,?_⟩
      · rw [setCell_eq_setRow w g l.length cur 5 fz _ h3]
        exact setRow_heap w g cur _ 5 fz h3
      · right;simpa using hfz
      · rw [List.length_append,List.length_singleton,bv_append]
        have hcl:cur.toList.length=cap:=h7
        have hlt:l.length<cur.toList.length:=by rw [hcl];omega
        have e1:(cur.setIfInBounds l.length (.int .u8 (b.toNat:Int))).toList=cur.toList.set l.length (.int .u8 (b.toNat:Int)):=Array.toList_setIfInBounds ..
        rw [e1,take_snoc (List.getElem?_set_self hlt),List.take_set_of_le (Nat.le_refl _),h8]
        rfl
      · exact ⟨rfl,rfl,rfl,by rw [World.size_setCell];exact Nat.le_refl _,fun k hk=>by rw [Below.heap_setCell _ _ _ _ (show k≠g by omega)]⟩
    · have hr':cap<l.length+1:=by omega
      have hrun:=run_append_grow (P:=Tryz.prog) w 123 ty 5 i (.int .u8 0) Tryz.underlying123 hi hz0 ⟨g,0,none⟩ l.length cap (bv l) (by rw [hbl,hz1];omega) hcells.cells ad 1 c [.int .u8 (b.toNat:Int)] (by rw [hz1];rfl) hnews hr' (by omega) (growslice_fits (by omega) (by rw [hz2];omega))
      refine ⟨_,_,hrun,⟨w.heap.size,_,_,(0,0),by rw [List.length_append];rfl,hb,heap_alloc_new w.drew _,.inl rfl,?_,?_,?_,?_⟩,((Below.refl base w).drew).alloc hb _⟩
      · rw [List.length_append];exact grownCap_ge w (l.length+1) cap 5
      · exact grownCap_le_maxLen w (l.length+1) cap 5 (by unfold maxLen;omega)
      · have hge:=grownCap_ge w (l.length+1) cap 5
        simp only [Array.size_append,List.size_toArray,size_zeroCells,hbl,List.length_singleton]
        simp [Value.cells]
        omega
      · rw [List.length_append,List.length_singleton,bv_append]
        simp only [Array.toList_append,List.append_assoc]
        rw [←List.append_assoc]
        have e:l.length+1=(bv l++bv [b]).length:=by rw [List.length_append,hbl];rfl
        rw [e]
        exact List.take_left
end Go.Proofs.YtmdgeknnhckgfaaGreatDoor
