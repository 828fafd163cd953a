/-
  Parts of the proof of the law LinModel: TxtV, TxtW, Ten, TenC, TreeCut.
-/
import Derived.Test.YtmdgeknnhckgfaaGreatDoorS00
import Derived.Test.YtmdgeknnhckgfaaGreatDoorS03
import Derived.Test.YtmdgeknnhckgfaaGreatDoorS07
set_option linter.unusedSimpArgs false
set_option linter.unusedVariables false
namespace Go.Proofs.YtmdgeknnhckgfaaGreatDoor
open Go Go.RowKit
theorem dec_tail (s:ByteArray) (k:Nat) (h:k<s.size):Dec.decR (tailB s k)=(((Utf8.decode s k).1:Int),(Utf8.decode s k).2):=by
  rw [Dec.decR_eq _ (by rw [tailB_size];omega),tailB_dec]
def RVal (w:World) (s:ByteArray) (sv:Value) (W:World):Prop:=∃ k:Nat,k≤s.size∧sv=.string (tailB s k)∧validN s=validFrom s s.size k∧Below w.heap.size w W
def strLenV:Value→Nat
  | .string s=>s.size
  | _=>0
theorem tail_isEmpty {s:ByteArray} {k:Nat}:(tailB s k).toList.isEmpty=decide (s.size≤k):=by
  rw [Lib.toList_data,Bool.eq_iff_iff,List.isEmpty_iff,decide_eq_true_eq]
  have:(tailB s k).data.toList.length=s.size - k:=tailB_size s k
  constructor
  · intro h;rw [h] at this;simp at this;omega
  · intro h;apply List.eq_nil_of_length_eq_zero;omega
theorem ref_Decode_tail (s:ByteArray) (k:Nat) (h:k<s.size) (w:World) :
    Calls Tryz.prog 61 #[.string (tailB s k)] w fun e w'=>e=.returned (.tuple #[.int .i32 ((Utf8.decode s k).1:Nat),.int .i64 ((Utf8.decode s k).2:Nat)])∧Below w.heap.size w w':=by
  have:=ref_Decode (tailB s k) (by rw [tailB_size];omega) w
  rw [dec_tail s k h] at this
  exact this
theorem tail_extract (s:ByteArray) (k n:Nat):(tailB s k).extract n (tailB s k).size=tailB s (k+n):=by rw [tailB_extract,tailB_tailB]
set_option maxRecDepth 100000 in
set_option maxHeartbeats 4000000 in
theorem ref_Valid (s:ByteArray) (hs:s.size≤maxLen) (w:World):Calls Tryz.prog 38 #[.string s] w fun e w'=>e=.returned (.bool (validN s))∧Below w.heap.size w w':=by
  unfold maxLen at hs
  go_enter Tryz.func38,Tryz.ntmps38
  go_wp2_with fail
  go_loopw [0] (RVal w s) (fun v _=>strLenV v)
  case atStart=>exact ⟨0,Nat.zero_le _,by rw [tailB_zero],rfl,Below.refl _ _⟩
  case round =>
    obtain ⟨k,hk,rfl,hv,hb⟩:=hrel
    have hem:=tail_isEmpty (s:=s) (k:=k)
    by_cases hlt:k<s.size
    · rw [decide_eq_false (by omega)] at hem
      have HC:=Lib.hid (ref_Decode_tail s k hlt)
      have hst:=validFrom_step s hlt
      have hp:=dec_pos s k
      have hl:=dec_le s k hlt
      have hr:=dec_r s k
      have HX:=Lib.hid (tail_extract s k)
      have HZ:=Lib.hid (tailB_size s k)
      have HZ2:=Lib.hid (tailB_size s)
      unfold badR at hst
      obtain ⟨r,hr1⟩:∃ r,(Utf8.decode s k).1=r:=⟨_,rfl⟩
      obtain ⟨n,hn1⟩:∃ r,(Utf8.decode s k).2=r:=⟨_,rfl⟩
      rw [hr1,hn1] at HC
      rw [hn1] at hp hl
      rw [hr1] at hr
      rw [hr1,hn1] at hst
      clear hr1 hn1
      by_cases hbad:r=65533∧n=1
      · obtain ⟨rfl,rfl⟩:=hbad
        have hV:=Lib.hid (show validN s=false from hv.trans hst)
        clear hv hst HX HZ HZ2
        go_wp2_with fail
        refine (HC.out _).mono ?_
        rintro e w1 ⟨rfl,hb1⟩
        go_wp2_with fail
        go_ret
        exact ⟨by rw [hV.out];rfl,hb.trans (hb1.mono hb.size)⟩
      · have hb0:(r == 65533 && n == 1)=false:=by
          rw [Bool.and_eq_false_iff]
          by_cases h:r=65533
          · right;simp;intro h';exact hbad ⟨h,h'⟩
          · left;simp [h]
        rw [if_neg (by rw [hb0];simp)] at hst
        have hV:=Lib.hid (hv.trans hst)
        clear hv hst hb0
        have zk:(n:Int)≤((tailB s k).size:Int):=by rw [HZ.out];omega
        by_cases hr5:r=65533
        · have hn5:¬ n=1:=fun h=>hbad ⟨hr5,h⟩
          have q1:((n:Int) == 1)=false:=by simp;omega
          subst hr5
          clear hbad
          go_wp2_with fail
          refine (HC.out _).mono ?_
          rintro e w1 ⟨rfl,hb1⟩
          go_wp2_with fail
          go_roundw
          case rel=>exact ⟨k+n,by omega,by rw [HX.out],hV.out,hb.trans (hb1.mono hb.size)⟩
          case measure=>show (ByteArray.extract (tailB s k) n (tailB s k).size).size<(tailB s k).size;rw [HX.out,HZ2.out,HZ.out];omega
        · have q1:((r:Int) == 65533)=false:=by simp;omega
          clear hbad
          go_wp2_with fail
          refine (HC.out _).mono ?_
          rintro e w1 ⟨rfl,hb1⟩
          go_wp2_with fail
          go_roundw
          case rel=>exact ⟨k+n,by omega,by rw [HX.out],hV.out,hb.trans (hb1.mono hb.size)⟩
          case measure=>show (ByteArray.extract (tailB s k) n (tailB s k).size).size<(tailB s k).size;rw [HX.out,HZ2.out,HZ.out];omega
    · rw [decide_eq_true (by omega)] at hem
      have hV:=Lib.hid (show validN s=true from hv.trans (validFrom_end s (by omega) _))
      clear hv
      go_wp2_with fail
      go_ret
      exact ⟨by rw [hV.out];rfl,hb⟩
theorem Tryz.info21:(Tryz.prog.info? 21).map (fun i=>(i.zero,i.size,i.bytes))=some (some (.int .i32 0),1,4):=by kernel_rfl
theorem cell_one_at (w:World) (v:Value) (t:TypeId):∀ (j:Nat) (u:Value),[v][j]?=some u→(w.alloc (.cells #[v] t)).cell? ((⟨w.heap.size,0,none⟩:Addr).add j)=some u:=by
  intro j u h
  cases j with
  | zero =>
    simp at h;subst h
    exact (Blk.new w #[v] t).cell 0 v rfl
  | succ j=>simp at h
def rv (l:List Nat):List Value:=l.map fun r:Nat=>.int .i32 (r:Int)
theorem own_below {w w':World} {base e size n:Nat} {v:Value} {xs:List Value} (h:w.ownsRow base e size v n xs) (hb:Below w.heap.size w w'):w'.ownsRow base e size v n xs :=
  h.kept (row:=none) ⟨hb.os,hb.tape,hb.output,hb.size,fun i hi _=>hb.block i hi⟩ (by cases hv:v.ownBlock<;>simp)
def RRun (w:World) (s:ByteArray) (sv ov:Value) (W:World):Prop :=
  ∃ (k:Nat) (L:List Nat),k≤s.size∧sv=.string (tailB s k)∧L++runeL s s.size k=runesN s∧L.length≤k∧W.ownsRow w.heap.size 21 1 ov L.length (rv L)∧Below w.heap.size w W
set_option maxRecDepth 100000 in
set_option maxHeartbeats 4000000 in
theorem ref_Runes (s:ByteArray) (hs:s.size≤1099511627776) (w:World):Calls Tryz.prog 60 #[.string s] w fun e w'=>∃ v,e=.returned v∧w'.ownsRow w.heap.size 21 1 v (runesN s).length (rv (runesN s))∧Below w.heap.size w w':=by
  obtain ⟨i0,hi,hz0,hz1,hz2⟩:=info_parts Tryz.info21
  go_enter Tryz.func60,Tryz.ntmps60
  go_wp2_with fail
  go_loopw [0,3] (RRun w s) (fun v _ _=>strLenV v)
  case atStart=>exact ⟨0,[],Nat.zero_le _,by rw [tailB_zero],rfl,Nat.le_refl _,World.ownsRow_nil _ _ _ _,Below.refl _ _⟩
  case round =>
    obtain ⟨k,L,hk,rfl,hL,hLk,hown,hb⟩:=hrel
    have hem:=tail_isEmpty (s:=s) (k:=k)
    by_cases hlt:k<s.size
    · rw [decide_eq_false (by omega)] at hem
      have HC:=Lib.hid (ref_Decode_tail s k hlt)
      have hst:=runeL_step s hlt
      have hp:=dec_pos s k
      have hl:=dec_le s k hlt
      have HX:=Lib.hid (tail_extract s k)
      have HZ:=Lib.hid (tailB_size s k)
      have HZ2:=Lib.hid (tailB_size s)
      obtain ⟨r,hr1⟩:∃ r,(Utf8.decode s k).1=r:=⟨_,rfl⟩
      obtain ⟨n,hn1⟩:∃ r,(Utf8.decode s k).2=r:=⟨_,rfl⟩
      rw [hr1,hn1] at HC
      rw [hn1] at hp hl
      rw [hr1,hn1] at hst
      clear hr1 hn1
      have hV:=Lib.hid (show (L++[r])++runeL s s.size (k+n)=runesN s by rw [←hL,hst,List.append_assoc];rfl)
      have zk:(n:Int)≤((tailB s k).size:Int):=by rw [HZ.out];omega
      have p1:=Lib.hid (show L.length+1≤maxLen by unfold maxLen;omega)
      have p2:=Lib.hid (show (L.length+1)*4≤140737488355328 by omega)
      have HO:=Lib.hid hown
      clear hL hst hown
      go_wp2_with fail
      refine (HC.out _).mono ?_
      rintro e w1 ⟨rfl,hb1⟩
      have hb2:Below w.heap.size w w1:=hb.trans (hb1.mono hb.size)
      have hown1:w1.ownsRow w.heap.size 21 1 u3 L.length (rv L):=own_below HO.out hb1
      have q2:=Lib.hid (show w.heap.size≤w1.heap.size+1 by have:=hb2.size;omega)
      have HO1:=Lib.hid hown1
      clear hown1 hb1 HC HO
      go_wp2_with (at_builtin;refine wpList_append_row rfl _ _ 136 rfl w.heap.size 21 i0 (.int .i32 0) 1 4 Tryz.underlying136 hi hz0 hz1 hz2 rfl (by decide) _ _ _ rfl (HO1.out.alloc _) ⟨w1.heap.size,0,none⟩ 1 1 [.int .i32 (r:Int)] rfl rfl (cell_one_at _ _ _) (by simp [Value.oneCell']) p1.out p2.out (by rw [World.size_alloc];exact q2.out) ?_)
      intro v' w2 own2 hgr hfr
      have hb3:Below w.heap.size w w2:=(hb2.alloc hb2.size _).grown hgr (by rw [World.size_alloc];exact q2.out) (fun j hj=>(HO1.out.lt j hj).1)
      clear hgr hfr HO1
      go_wp2_with fail
      go_roundw
      case rel=>exact ⟨k+n,L++[r],by omega,by rw [HX.out],hV.out,by rw [List.length_append];simp;omega,by rw [List.length_append];simpa [rv] using own2,hb3⟩
      case measure=>show (ByteArray.extract (tailB s k) n (tailB s k).size).size<(tailB s k).size;rw [HX.out,HZ2.out,HZ.out];omega
    · rw [decide_eq_true (by omega)] at hem
      rw [runeL_end s (by omega),List.append_nil] at hL
      subst hL
      go_wp2_with fail
      go_ret
      exact ⟨_,rfl,hown,hb⟩
structure Ten where
  name:ByteArray
  key:ByteArray
  quota:Int
def tenCells (t:Ten):List Value:=[.string t.name,.string t.key,.int .i64 t.quota]
def charB (c:Nat):Bool:=(decide (97≤c) && decide (c≤122)) || (decide (48≤c) && decide (c≤57)) || c == 45
def sizesB (t:Ten):Bool:=decide (1≤t.name.size) && decide (t.name.size≤32) && decide (1≤t.key.size) && decide (t.key.size≤64) && decide (0≤t.quota) && decide (t.quota≤1048576)
def mayN (t:Ten):Bool:=sizesB t && t.name.data.toList.all fun c=>charB c.toNat
def lenB (l:List Ten):Bool:=decide (1≤l.length) && decide (l.length≤16)
def firstB (l:List Ten):Bool:=l.all mayN && decide (l.Pairwise fun a b=>a.name≠b.name)
def checkB (l:List Ten):Bool:=lenB l && firstB l
def checkN (l:List Ten):Int:=if checkB l=true then 0 else 1
theorem char_cases (c:Nat):(charB c=true∧((97≤c∧c≤122)∨(48≤c∧c≤57)∨c=45))∨(charB c=false∧(((c:Int) == 45)=false)∧(c<48∨(57<c∧c<97)∨122<c)):=by
  by_cases h:charB c=true
  · left
    refine ⟨h,?_⟩
    unfold charB at h
    simp at h
    omega
  · right
    rw [Bool.not_eq_true] at h
    refine ⟨h,?_⟩
    unfold charB at h
    simp at h
    refine ⟨by simp;omega,by omega⟩
theorem sizesB_iff (t:Ten):sizesB t=true↔(1≤t.name.size∧t.name.size≤32∧1≤t.key.size∧t.key.size≤64∧0≤t.quota∧t.quota≤1048576):=by
  unfold sizesB
  simp only [Bool.and_eq_true,decide_eq_true_eq]
  constructor
  · rintro ⟨⟨⟨⟨⟨a,b⟩,c⟩,d⟩,e⟩,f⟩;exact ⟨a,b,c,d,e,f⟩
  · rintro ⟨a,b,c,d,e,f⟩;exact ⟨⟨⟨⟨⟨a,b⟩,c⟩,d⟩,e⟩,f⟩
theorem size_list (s:ByteArray):s.data.toList.length=s.size:=rfl
theorem chars_bad {s:ByteArray} {k:Nat} {c:UInt8} (h:s.data.toList[k]?=some c) (hc:charB c.toNat=false):(s.data.toList.all fun c=>charB c.toNat)=false:=by
  rw [List.all_eq_false]
  exact ⟨c,List.mem_of_getElem? h,by rw [hc];simp⟩
theorem chars_step {s:ByteArray} {k:Nat} {c:UInt8} (h:s.data.toList[k]?=some c) (ha:((s.data.toList.take k).all fun c=>charB c.toNat)=true) (hc:charB c.toNat=true):((s.data.toList.take (k+1)).all fun c=>charB c.toNat)=true:=by
  rw [take_snoc h,List.all_append,ha]
  simp [hc]
def RMay (w:World) (s:ByteArray) (iv:Value) (W:World):Prop:=∃ k:Nat,k≤s.size∧iv=.int .i64 (k:Nat)∧((s.data.toList.take k).all fun c=>charB c.toNat)=true∧w=W
set_option maxRecDepth 100000 in
set_option maxHeartbeats 4000000 in
theorem ref_may (t:Ten) (w:World):Calls Tryz.prog 26 #[.agg #[.string t.name,.string t.key,.int .i64 t.quota]] w fun e w'=>e=.returned (.bool (mayN t))∧Below w.heap.size w w':=by
  obtain ⟨name,key,quota⟩:=t
  have hsi:=sizesB_iff ⟨name,key,quota⟩
  simp only at hsi
  by_cases hs:sizesB ⟨name,key,quota⟩=true
  · obtain ⟨s1,s2,s3,s4,s5,s6⟩:=hsi.1 hs
    have n1:¬ (name.size:Int)<1:=by omega
    have n2:¬ (32:Int)<(name.size:Int):=by omega
    have n3:¬ (key.size:Int)<1:=by omega
    have n4:¬ (64:Int)<(key.size:Int):=by omega
    have n5:¬ quota<0:=by omega
    have n6:¬ 1048576<quota:=by omega
    have hm:mayN ⟨name,key,quota⟩=name.data.toList.all fun c=>charB c.toNat:=by unfold mayN;rw [hs];rfl
    have HM:=Lib.hid hm
    clear hsi hs hm s1 s2 s3 s4 s5 s6
    go_enter Tryz.func26,Tryz.ntmps26
    go_wp2_with fail
    have hbw:Below w.heap.size w (w.alloc (.cells #[.string name,.string key,.int .i64 quota] 94)):=(Below.refl _ _).alloc (Nat.le_refl _) _
    go_loopw [3] (RMay (w.alloc (.cells #[.string name,.string key,.int .i64 quota] 94)) name) (fun i _=>name.size - (intOf i).toNat)
    case atStart=>exact ⟨0,Nat.zero_le _,rfl,rfl,rfl⟩
    case round =>
      obtain ⟨k,hk,rfl,hall,rfl⟩:=hrel
      by_cases hlt:k<name.size
      · obtain ⟨c,hc⟩:∃ c,name.data.toList[k]?=some c:=⟨_,List.getElem?_eq_getElem hlt⟩
        have hcc:(name[k]'hlt).toNat=c.toNat:=by
          have:=(List.getElem?_eq_some_iff.1 hc).2
          rw [←this];rfl
        have c256:=c.toNat_lt
        rcases char_cases c.toNat with ⟨hh,hcs⟩ | ⟨hh,e45,hcs⟩
        · have hST:=Lib.hid (chars_step hc hall hh)
          clear hc hall hh
          generalize c.toNat=m at *
          rcases hcs with ⟨c1,c2⟩ | ⟨c1,c2⟩ | rfl
          · skip
            go_wp2_with fail
            go_roundw
            case rel=>exact ⟨k+1,hlt,rfl,hST.out,rfl⟩
            case measure=>simp [intOf];omega
          · have c3:¬ (97:Int)≤(m:Int):=by omega
            go_wp2_with fail
            go_roundw
            case rel=>exact ⟨k+1,hlt,rfl,hST.out,rfl⟩
            case measure=>simp [intOf];omega
          · skip
            go_wp2_with fail
            go_roundw
            case rel=>exact ⟨k+1,hlt,rfl,hST.out,rfl⟩
            case measure=>simp [intOf];omega
        · have hF:=Lib.hid (show mayN ⟨name,key,quota⟩=false from HM.out.trans (chars_bad hc hh))
          clear hc hall hh
          generalize c.toNat=m at *
          rcases hcs with c1 | ⟨c1,c2⟩ | c1
          · have c3:¬ (97:Int)≤(m:Int):=by omega
            have c4:¬ (48:Int)≤(m:Int):=by omega
            go_wp2_with fail
            go_ret
            exact ⟨by rw [hF.out];rfl,hbw⟩
          · have c3:¬ (97:Int)≤(m:Int):=by omega
            have c4:¬ (m:Int)≤57:=by omega
            go_wp2_with fail
            go_ret
            exact ⟨by rw [hF.out];rfl,hbw⟩
          · have c3:¬ (m:Int)≤122:=by omega
            have c4:¬ (m:Int)≤57:=by omega
            go_wp2_with fail
            go_ret
            exact ⟨by rw [hF.out];rfl,hbw⟩
      · have hK:k=name.data.toList.length:=by rw [size_list];omega
        rw [hK,List.take_length] at hall
        have hF:=Lib.hid (show mayN ⟨name,key,quota⟩=true from HM.out.trans hall)
        clear hall hK
        go_wp2_with fail
        go_ret
        exact ⟨by rw [hF.out];rfl,hbw⟩
  · have hn:¬ (1≤name.size∧name.size≤32∧1≤key.size∧key.size≤64∧0≤quota∧quota≤1048576):=fun h=>hs (hsi.2 h)
    rw [Bool.not_eq_true] at hs
    have hF:=Lib.hid (show mayN ⟨name,key,quota⟩=false by unfold mayN;rw [hs];rfl)
    have hbw:Below w.heap.size w (w.alloc (.cells #[.string name,.string key,.int .i64 quota] 94)):=(Below.refl _ _).alloc (Nat.le_refl _) _
    clear hsi hs
    go_enter Tryz.func26,Tryz.ntmps26
    go_wp2_with fail
    all_goals first
      | (go_ret;exact ⟨by rw [hF.out];rfl,hbw⟩)
      | (exfalso;omega)
def tenArgs (l:List Ten):List Value:=l.flatMap tenCells
theorem Reads.ten_at {w:World} {A:Option Addr} {n cap:Nat} {l:List Ten} (h:Reads w (.slice A n cap) n 3 (tenArgs l)) {k:Nat} {t:Ten} (hk:l[k]?=some t) :
    ∃ b o,A=some ⟨b,o,none⟩∧b<w.heap.size∧w.cell? ⟨b,o+k*3,none⟩=some (.string t.name)∧w.cell? ⟨b,o+k*3+1,none⟩=some (.string t.key)∧w.cell? ⟨b,o+k*3+2,none⟩=some (.int .i64 t.quota):=by
  have hl:=h.1
  have hlen:(tenArgs l).length=l.length*3:=flatMap_len (f:=tenCells) (k:=3) (fun _=>rfl) l
  have hlt:=(List.getElem?_eq_some_iff.1 hk).1
  obtain ⟨b,o,rfl,hb,hc⟩:=h.some_at (by omega)
  have hat:=flatMap_at (f:=tenCells) (k:=3) (fun _=>rfl) l k t hk
  refine ⟨b,o,rfl,hb,?_,?_,?_⟩
  · have:=hc (k*3+0) _ (by unfold tenArgs;rw [hat 0 (by decide)];rfl);rw [←Nat.add_assoc] at this;exact this
  · have:=hc (k*3+1) _ (by unfold tenArgs;rw [hat 1 (by decide)];rfl);rw [←Nat.add_assoc] at this;exact this
  · have:=hc (k*3+2) _ (by unfold tenArgs;rw [hat 2 (by decide)];rfl);rw [←Nat.add_assoc] at this;exact this
theorem str_eqb {a b:ByteArray}:(a.toList == b.toList)=decide (a=b):=by
  rw [Bool.eq_iff_iff,decide_eq_true_eq,beq_iff_eq,Lib.toList_data,Lib.toList_data]
  constructor
  · intro h
    cases a;cases b
    simp only [ByteArray.mk.injEq]
    exact Array.toList_inj.1 h
  · rintro rfl;rfl
def apartB (l:List Ten) (j:Nat) (t:Ten):Prop:=∀ u∈l.take j,u.name≠t.name
theorem first_step {l:List Ten} {i:Nat} {t:Ten} (h:l[i]?=some t) (hf:firstB (l.take i)=true) (hm:mayN t=true) (ha:apartB l i t):firstB (l.take (i+1))=true:=by
  rw [take_snoc h]
  unfold firstB at hf ⊢
  simp only [Bool.and_eq_true,decide_eq_true_eq,List.all_append,List.all_cons,List.all_nil,Bool.and_true,hm] at hf ⊢
  refine ⟨hf.1,?_⟩
  rw [List.pairwise_append]
  refine ⟨hf.2,by simp,?_⟩
  intro a ha' b hb
  simp at hb
  subst hb
  exact ha a ha'
theorem first_may {l:List Ten} {i:Nat} {t:Ten} (h:l[i]?=some t) (hm:mayN t=false):firstB l=false:=by
  unfold firstB
  rw [Bool.and_eq_false_iff]
  left
  rw [List.all_eq_false]
  exact ⟨t,List.mem_of_getElem? h,by rw [hm];simp⟩
theorem first_twice {l:List Ten} {i j:Nat} {t u:Ten} (h:l[i]?=some t) (hu:l[j]?=some u) (hj:j<i) (he:u.name=t.name):firstB l=false:=by
  unfold firstB
  rw [Bool.and_eq_false_iff]
  right
  rw [decide_eq_false_iff_not]
  intro hp
  rw [List.pairwise_iff_getElem] at hp
  obtain ⟨h1,h2⟩:=List.getElem?_eq_some_iff.1 h
  obtain ⟨u1,u2⟩:=List.getElem?_eq_some_iff.1 hu
  have:=hp j i u1 h1 hj
  rw [u2,h2] at this
  exact this he
theorem checkN_len {l:List Ten} (h:lenB l=false):checkN l=1:=by unfold checkN checkB;rw [h];rfl
theorem checkN_bad {l:List Ten} (h:firstB l=false):checkN l=1:=by unfold checkN checkB;rw [h,Bool.and_false];rfl
theorem checkN_good {l:List Ten} (h:lenB l=true) (hf:firstB l=true):checkN l=0:=by unfold checkN checkB;rw [h,hf];rfl
def RChk (w:World) (l:List Ten) (iv:Value) (W:World):Prop:=∃ k:Nat,k≤l.length∧iv=.int .i64 (k:Nat)∧firstB (l.take k)=true∧Below w.heap.size w W
def RChk2 (w:World) (l:List Ten) (i:Nat) (t:Ten) (jv:Value) (W:World):Prop:=∃ j:Nat,j≤i∧jv=.int .i64 (j:Nat)∧apartB l j t∧Below w.heap.size w W
set_option maxRecDepth 100000 in
set_option maxHeartbeats 4000000 in
theorem ref_Check (v:Value) (l:List Ten) (w:World) (hr:Reads w v l.length 3 (tenArgs l)):Calls Tryz.prog 10 #[v] w fun e w'=>e=.returned (.int .i64 (checkN l))∧Below w.heap.size w w':=by
  obtain ⟨A,cap,rfl⟩:=hr.form
  have HR:=Lib.hid hr
  have h63:=hr.2.1
  clear hr
  by_cases h1:1≤l.length
  · by_cases h2:l.length≤16
    · have n1:¬ (l.length:Int)<1:=by omega
      have n2:¬ (16:Int)<(l.length:Int):=by omega
      have HL:=Lib.hid (show lenB l=true by unfold lenB;rw [decide_eq_true h1,decide_eq_true h2];rfl)
      clear h63
      go_enter Tryz.func10,Tryz.ntmps10
      go_wp2_with fail
      go_loopw [3] (RChk w l) (fun i _=>l.length - (intOf i).toNat)
      case atStart=>exact ⟨0,Nat.zero_le _,rfl,rfl,Below.refl _ _⟩
      case round =>
        obtain ⟨i,hi,rfl,hf,hb⟩:=hrel
        by_cases hlt:i<l.length
        · obtain ⟨t,ht⟩:∃ t,l[i]?=some t:=⟨_,List.getElem?_eq_getElem hlt⟩
          obtain ⟨b,o,rfl,hbl,c0,c1,c2⟩:=(HR.out.kept hb).ten_at ht
          have HM:=Lib.hid (ref_may t)
          have HT:=Lib.hid ht
          have HFF:=Lib.hid hf
          by_cases hm:mayN t=true
          · rw [hm] at HM
            have hm':=Lib.hid hm
            clear ht hf hm
            go_wp2_with fail
            refine (HM.out _).mono ?_
            rintro e w1 ⟨rfl,hb1⟩
            have hb2:Below w.heap.size w w1:=hb.trans (hb1.mono hb.size)
            clear HM hb1 c0 c1 c2 hbl
            go_wp2_with fail
            go_loopw [4] (RChk2 w l i t) (fun j _=>i - (intOf j).toNat)
            case atStart=>exact ⟨0,Nat.zero_le _,rfl,by intro u hu;simp at hu,hb2⟩
            case round =>
              clear hb2
              obtain ⟨j,hj,rfl,ha,hb3⟩:=hrel
              by_cases hjl:j<i
              · obtain ⟨u,hu⟩:∃ u,l[j]?=some u:=⟨_,List.getElem?_eq_getElem (by omega)⟩
                obtain ⟨b',o',e',hbl',d0,d1,d2⟩:=(HR.out.kept hb3).ten_at hu
                cases e'
                obtain ⟨b',o',e',hbl2,c0,c1,c2⟩:=(HR.out.kept hb3).ten_at HT.out
                cases e'
                clear hbl2 d1 d2 c1 c2
                have jl:(j:Int)<(l.length:Int):=by omega
                by_cases he:u.name=t.name
                · have hF:=Lib.hid (checkN_bad (first_twice HT.out hu hjl he))
                  have q1:(u.name.toList == t.name.toList)=true:=by rw [str_eqb,decide_eq_true he]
                  clear he hu ha
                  go_wp2_with fail
                  go_quiet (fail)
                  go_wp2_with fail
                  go_ret
                  exact ⟨by rw [hF.out];rfl,⟨hb3.os,hb3.tape,hb3.output,hb3.size,hb3.block⟩⟩
                · have q1:(u.name.toList == t.name.toList)=false:=by rw [str_eqb,decide_eq_false he]
                  have HA:=Lib.hid (show apartB l (j+1) t from by
                    intro x hx
                    rw [take_snoc hu] at hx
                    rcases List.mem_append.1 hx with hx | hx
                    · exact ha x hx
                    · simp at hx;subst hx;exact he)
                  clear he hu ha
                  go_wp2_with fail
                  go_quiet (fail)
                  go_wp2_with fail
                  go_roundw
                  case rel=>exact ⟨j+1,hjl,rfl,HA.out,⟨hb3.os,hb3.tape,hb3.output,hb3.size,hb3.block⟩⟩
                  case measure=>simp [intOf];omega
              · obtain rfl:j=i:=by omega
                have HST:=Lib.hid (first_step HT.out HFF.out hm'.out ha)
                clear ha
                go_wp2_with fail
                go_roundw
                case rel=>exact ⟨j+1,hlt,rfl,HST.out,hb3⟩
                case measure=>simp [intOf];omega
          · rw [Bool.not_eq_true] at hm
            rw [hm] at HM
            have hF:=Lib.hid (checkN_bad (first_may ht hm))
            clear ht hf hm
            go_wp2_with fail
            refine (HM.out _).mono ?_
            rintro e w1 ⟨rfl,hb1⟩
            have hb2:Below w.heap.size w w1:=hb.trans (hb1.mono hb.size)
            clear HM hb1 c0 c1 c2 hbl
            go_wp2_with fail
            go_ret
            exact ⟨by rw [hF.out];rfl,hb2⟩
        · have hK:i=l.length:=by omega
          rw [hK,List.take_length] at hf
          have hF:=Lib.hid (checkN_good HL.out hf)
          clear hf hK
          go_wp2_with fail
          go_ret
          exact ⟨by rw [hF.out];rfl,hb⟩
    · have n2:(16:Int)<(l.length:Int):=by omega
      have n1:¬ (l.length:Int)<1:=by omega
      have hF:=Lib.hid (checkN_len (l:=l) (by unfold lenB;rw [decide_eq_false h2,Bool.and_false]))
      go_enter Tryz.func10,Tryz.ntmps10
      go_wp2_with fail
      go_ret
      exact ⟨by rw [hF.out];rfl,Below.refl _ _⟩
  · have n1:(l.length:Int)<1:=by omega
    have hF:=Lib.hid (checkN_len (l:=l) (by unfold lenB;rw [decide_eq_false h1];rfl))
    go_enter Tryz.func10,Tryz.ntmps10
    go_wp2_with fail
    go_ret
    exact ⟨by rw [hF.out];rfl,Below.refl _ _⟩
end Go.Proofs.YtmdgeknnhckgfaaGreatDoor
namespace Go.Proofs.YtmdgeknnhckgfaaGreatDoor
open Go
section
variable {P:Program} {ops:Array Oper} {Q:Exit→Act→World→Prop} {md:Region.Mode} {S:World→Prop} {m:Nat}
def wpAnyM (P:Program) (md:Region.Mode) (ops:Array Oper) (Q:Exit→Act→World→Prop) (S:World→Prop) (m:Nat):Nat→Array Bool→Act→World→Prop
  | 0,listed,a,w=>Region.ready md ops listed=[]∧Q .normal a w
  | fuel+1,listed,a,w =>
    (Region.ready md ops listed=[]→Q .normal a w) ∧
    ∀ i∈Region.ready md ops listed,wpOp P ops Q i (fun a' w'=>if i=m then wpAnyH P md ops Q (fun _=>True) fuel (listed.setIfInBounds i true) a' w' else S w'∧wpAnyM P md ops Q S m fuel (listed.setIfInBounds i true) a' w') a w
theorem wpAny_of_M:∀ (fuel:Nat) (listed:Array Bool) (a:Act) (w:World),wpAnyM P md ops Q S m fuel listed a w→wpAny P md ops Q fuel listed a w
  | 0,_,_,_,h=>h
  | fuel+1,_,_,_,h=>⟨h.1,fun i hi=>wpOp_mono (fun a' w' h'=>by
      by_cases he:i=m
      · rw [if_pos he] at h';exact wpAny_of_held _ _ _ _ h'
      · rw [if_neg he] at h';exact wpAny_of_M fuel _ a' w' h'.2) (h.2 i hi)⟩
theorem getD_ft {listed:Array Bool} {k:Nat} (h:listed.getD k false=true):listed.getD k true=true:=by
  by_cases hb:k<listed.size
  · simp [Array.getD,hb] at h ⊢;exact h
  · simp [Array.getD,hb]
def Closed (ops:Array Oper) (listed:Array Bool):Prop:=∀ j o,ops[j]?=some o→listed.getD j true=true→∀ e∈o.after,Region.binds .any e=true→listed.getD e.on true=true
theorem Closed.step {listed:Array Bool} (h:Closed ops listed) {i:Nat} (hi:i∈Region.ready .any ops listed):Closed ops (listed.setIfInBounds i true):=by
  obtain ⟨hun,oi,hoi,hall⟩:=mem_ready.1 hi
  have hmono:∀ k,listed.getD k true=true→(listed.setIfInBounds i true).getD k true=true:=by
    intro k hk
    by_cases hik:i=k
    · subst hik
      by_cases hb:i<listed.size
      · simp [Array.getD,hb]
      · simp [Array.getD,hb]
    · rw [getD_set_ne true hik];exact hk
  intro j o ho hj e he hb
  by_cases hij:i=j
  · subst hij
    rw [ho] at hoi
    cases hoi
    exact hmono _ (getD_ft (hall e he hb))
  · rw [getD_set_ne true hij] at hj
    exact hmono _ (h j o ho hj e he hb)
def waitsT (ops:Array Oper) (i:Nat):Nat→Nat→Bool
  | 0,m=>decide (m=i)
  | n+1,m=>decide (m=i) || (match ops[m]? with
    | none=>false
    | some o=>o.after.toList.any fun e=>Region.binds .any e && waitsT ops i n e.on)
theorem waitsT_listed {i:Nat} {listed:Array Bool} (h:Closed ops listed):∀ (n m:Nat),waitsT ops i n m=true→listed.getD m true=true→listed.getD i true=true:=by
  intro n
  induction n with
  | zero =>
    intro m hw hm
    have:m=i:=by simpa [waitsT] using hw
    rw [←this];exact hm
  | succ n ih =>
    intro m hw hm
    simp only [waitsT,Bool.or_eq_true,decide_eq_true_eq] at hw
    rcases hw with rfl | hw
    · exact hm
    · cases ho:ops[m]? with
      | none=>rw [ho] at hw;cases hw
      | some o =>
        rw [ho] at hw
        simp only [List.any_eq_true,Bool.and_eq_true] at hw
        obtain ⟨e,he,hb,hw⟩:=hw
        exact ih e.on hw (h m o ho hm e (by simpa using he) hb)
theorem wpAnyM_first {i:Nat} {oi:Oper} {v:Value} (hi:ops[i]?=some oi) (hsel:∀ (j:Nat) (o:Oper) cs b,ops[j]?=some o→o.op≠.select cs b) (him:i≠m) {d:Nat}
    (hw:waitsT ops i d m=true)
    (hQ:∀ c a w,Q (.panic c) (a.put oi.dst v) w→Q (.panic c) a w) :
    ∀ (fuel:Nat) (listed:Array Bool) (a:Act) (w:World),Closed ops listed →
      (∀ j oj,ops[j]?=some oj→j≠i→listed.getD j true=false→(∀ e∈oj.after,Region.binds .any e=true→e.on≠i)→oi.apart ops oj=true) →
      i∈Region.ready .any ops listed→YieldsIf P ops S oi v a→S w →
      wpAnyM P .any ops Q S m fuel (listed.setIfInBounds i true) (a.put oi.dst v) w→wpAnyM P .any ops Q S m (fuel+1) listed a w:=by
  intro fuel
  induction fuel with
  | zero =>
    intro listed a w _ _ hr hy hS H
    refine ⟨fun h=>(by rw [h] at hr;cases hr),fun j hj=>?_⟩
    by_cases hji:j=i
    · subst hji;exact hy.wpOp hi hS (by rw [if_neg him];exact ⟨hS,H⟩)
    · have:=ready_mono hj hji
      rw [H.1] at this
      cases this
  | succ fuel ih =>
    intro listed a w hcl hfree hr hy hS H
    refine ⟨fun h=>(by rw [h] at hr;cases hr),fun j hj=>?_⟩
    by_cases hji:j=i
    · subst hji;exact hy.wpOp hi hS (by rw [if_neg him];exact ⟨hS,H⟩)
    · have h1:=H.2 j (ready_mono hj hji)
      obtain ⟨hjun,oj,hoj,hall⟩:=mem_ready.1 hj
      have hiun:listed.getD i true=false:=(mem_ready.1 hr).1
      have hnot:∀ e∈oj.after,Region.binds .any e=true→e.on≠i:=fun e he hb heq=>by
        have h1:=hall e he hb
        have h0:=(mem_ready.1 hr).1
        rw [heq] at h1
        rcases Nat.lt_or_ge i listed.size with h' | h'
        · simp [h'] at h0 h1;rw [h0] at h1;cases h1
        · simp [Array.getElem?_eq_none h'] at h1
      have hjm:j≠m:=by
        rintro rfl
        cases d with
        | zero=>exact hji (by simpa [waitsT] using hw)
        | succ d =>
          simp only [waitsT,Bool.or_eq_true,decide_eq_true_eq,hoj] at hw
          rcases hw with h | h
          · exact hji h
          · simp only [List.any_eq_true,Bool.and_eq_true] at h
            obtain ⟨e,he,hb,h⟩:=h
            have h3:=getD_ft (hall e (by simpa using he) hb)
            have:=waitsT_listed hcl d e.on h h3
            rw [hiun] at this
            cases this
      simp only [if_neg hjm] at h1 ⊢
      have h2:=wpOp_putIf hoj (hfree j oj hoj hji hjun hnot) (fun cs b=>hsel i oi cs b hi) (fun cs b=>hsel j oj cs b hoj) hQ hy h1
      have hfree':∀ k ok,ops[k]?=some ok→k≠i→(listed.setIfInBounds j true).getD k true=false →
          (∀ e∈ok.after,Region.binds .any e=true→e.on≠i)→oi.apart ops ok=true:=fun k ok hk hki hun hno=>by
        refine hfree k ok hk hki ?_ hno
        by_cases hjk:j=k
        · subst hjk;exact hjun
        · rw [getD_set_ne true hjk] at hun;exact hun
      refine wpOp_mono (fun a' w' h3=>⟨h3.2.1,ih (listed.setIfInBounds j true) a' w' (hcl.step hj) hfree' (ready_mono hr (Ne.symm hji)) h3.1 h3.2.1 ?_⟩) h2
      rw [Array.setIfInBounds_comm _ _ hji]
      exact h3.2.2
theorem wpAnyM_any {i:Nat} {oi:Oper} {v:Value} (hi:ops[i]?=some oi) (hsel:∀ (j:Nat) (o:Oper) cs b,ops[j]?=some o→o.op≠.select cs b) (him:i≠m)
    (hQ:∀ c a w,Q (.panic c) (a.put oi.dst v) w→Q (.panic c) a w) :
    ∀ (fuel:Nat) (listed:Array Bool) (a:Act) (w:World),
      (∀ j oj,ops[j]?=some oj→j≠i→listed.getD j true=false→(∀ e∈oj.after,Region.binds .any e=true→e.on≠i)→oi.apart ops oj=true) →
      i∈Region.ready .any ops listed→YieldsIf P ops (fun _=>True) oi v a→S w →
      wpAnyM P .any ops Q S m fuel (listed.setIfInBounds i true) (a.put oi.dst v) w→wpAnyM P .any ops Q S m (fuel+1) listed a w:=by
  intro fuel
  induction fuel with
  | zero =>
    intro listed a w _ hr hy hS H
    refine ⟨fun h=>(by rw [h] at hr;cases hr),fun j hj=>?_⟩
    by_cases hji:j=i
    · subst hji;exact hy.wpOp hi trivial (by rw [if_neg him];exact ⟨hS,H⟩)
    · have:=ready_mono hj hji
      rw [H.1] at this
      cases this
  | succ fuel ih =>
    intro listed a w hfree hr hy hS H
    refine ⟨fun h=>(by rw [h] at hr;cases hr),fun j hj=>?_⟩
    by_cases hji:j=i
    · subst hji;exact hy.wpOp hi trivial (by rw [if_neg him];exact ⟨hS,H⟩)
    · have h1:=H.2 j (ready_mono hj hji)
      obtain ⟨hjun,oj,hoj,hall⟩:=mem_ready.1 hj
      have hnot:∀ e∈oj.after,Region.binds .any e=true→e.on≠i:=fun e he hb heq=>by
        have h1:=hall e he hb
        have h0:=(mem_ready.1 hr).1
        rw [heq] at h1
        rcases Nat.lt_or_ge i listed.size with h' | h'
        · simp [h'] at h0 h1;rw [h0] at h1;cases h1
        · simp [Array.getElem?_eq_none h'] at h1
      have hfree':∀ k ok,ops[k]?=some ok→k≠i→(listed.setIfInBounds j true).getD k true=false →
          (∀ e∈ok.after,Region.binds .any e=true→e.on≠i)→oi.apart ops ok=true:=fun k ok hk hki hun hno=>by
        refine hfree k ok hk hki ?_ hno
        by_cases hjk:j=k
        · subst hjk;exact hjun
        · rw [getD_set_ne true hjk] at hun;exact hun
      by_cases hjm:j=m
      · simp only [if_pos hjm] at h1 ⊢
        have h2:=wpOp_putIf hoj (hfree j oj hoj hji hjun hnot) (fun cs b=>hsel i oi cs b hi) (fun cs b=>hsel j oj cs b hoj) hQ hy h1
        refine wpOp_mono (fun a' w' h3=>wpAnyH_first hi hsel hQ fuel (listed.setIfInBounds j true) a' w' hfree' (ready_mono hr (Ne.symm hji)) h3.1 trivial ?_) h2
        rw [Array.setIfInBounds_comm _ _ hji]
        exact h3.2
      · simp only [if_neg hjm] at h1 ⊢
        have h2:=wpOp_putIf hoj (hfree j oj hoj hji hjun hnot) (fun cs b=>hsel i oi cs b hi) (fun cs b=>hsel j oj cs b hoj) hQ hy h1
        refine wpOp_mono (fun a' w' h3=>⟨h3.2.1,ih (listed.setIfInBounds j true) a' w' hfree' (ready_mono hr (Ne.symm hji)) h3.1 h3.2.1 ?_⟩) h2
        rw [Array.setIfInBounds_comm _ _ hji]
        exact h3.2.2
def wpCut (P:Program) (ops:Array Oper) (Q:Exit→Act→World→Prop) (S:World→Prop) (m:Nat):Tree→Act→World→Prop
  | .nil,_,_=>False
  | .take i t,a,w=>∃ o v,ops[i]?=some o∧YieldsIf P ops (if waitsT ops i ops.size m=true then S else fun _=>True) o v a∧wpCut P ops Q S m t (a.put o.dst v) w
  | .one i t,a,w=>if i=m then wpOp P ops Q i (fun a' w'=>wpTree P ops Q (fun _=>True) t a' w') a w else wpOp P ops Q i (fun a' w'=>S w'∧(S w'→wpCut P ops Q S m t a' w')) a w
  | .two i t j u,a,w=>wpOp P ops Q i (fun a' w'=>S w'∧(S w'→wpCut P ops Q S m t a' w')) a w∧wpOp P ops Q j (fun a' w'=>S w'∧(S w'→wpCut P ops Q S m u a' w')) a w
def cutOK (ops:Array Oper) (m:Nat):Nat→Tree→Array Bool→Bool
  | n+1,.take i t,listed=>decide (i≠m) && Region.free .any ops listed i && (Region.ready .any ops listed).contains i && cutOK ops m n t (listed.setIfInBounds i true)
  | n+1,.one i t,listed=>Region.ready .any ops listed == [i] && (if i=m then treeOK ops n t (listed.setIfInBounds i true) else cutOK ops m n t (listed.setIfInBounds i true))
  | n+1,.two i t j u,listed=>decide (i≠m) && decide (j≠m) && Region.ready .any ops listed == [i,j] && cutOK ops m n t (listed.setIfInBounds i true) && cutOK ops m n u (listed.setIfInBounds j true)
  | _,_,_=>false
theorem cut_sound (hs:Region.noSelect ops=true) (hQ:∀ c a w (dst:Option Tmp) v,Q (.panic c) (a.put dst v) w→Q (.panic c) a w):∀ (n:Nat) (t:Tree) (listed:Array Bool) (a:Act) (w:World),cutOK ops m n t listed=true→Closed ops listed→S w→wpCut P ops Q S m t a w →
    wpAnyM P .any ops Q S m n listed a w:=by
  intro n
  induction n with
  | zero =>
    intro t listed a w hp _ _ h
    cases t<;>simp [cutOK] at hp
  | succ n ih =>
    intro t listed a w hp hcl hS h
    cases t with
    | nil=>simp [cutOK] at hp
    | take i t =>
      simp only [cutOK,Bool.and_eq_true,decide_eq_true_eq] at hp
      obtain ⟨o,v,hi,hy,hr⟩:=h
      have hrd:i∈Region.ready .any ops listed:=by simpa using hp.1.2
      by_cases hw:waitsT ops i ops.size m=true
      · rw [if_pos hw] at hy
        exact wpAnyM_first hi (Region.noSelect_spec hs) hp.1.1.1 hw (fun c a w hq=>hQ c a w _ _ hq) n listed a w hcl (Region.free_spec hi hp.1.1.2) hrd hy hS (ih _ _ _ _ hp.2 (hcl.step hrd) hS hr)
      · rw [if_neg hw] at hy
        exact wpAnyM_any hi (Region.noSelect_spec hs) hp.1.1.1 (fun c a w hq=>hQ c a w _ _ hq) n listed a w (Region.free_spec hi hp.1.1.2) hrd hy hS (ih _ _ _ _ hp.2 (hcl.step hrd) hS hr)
    | one i t =>
      simp only [cutOK,Bool.and_eq_true,beq_iff_eq] at hp
      refine ⟨fun h0=>(by rw [hp.1] at h0;cases h0),?_⟩
      intro j hj
      have hj0:=hj
      rw [hp.1] at hj
      obtain rfl:j=i:=by simpa using hj
      by_cases he:j=m
      · have hp2:=hp.2
        rw [if_pos he] at hp2
        simp only [wpCut,if_pos he] at h
        simp only [if_pos he]
        exact wpOp_mono (fun a' w' hk=>tree_sound hs hQ n t _ a' w' hp2 trivial hk) h
      · have hp2:=hp.2
        rw [if_neg he] at hp2
        simp only [wpCut,if_neg he] at h
        simp only [if_neg he]
        exact wpOp_mono (fun a' w' hk=>⟨hk.1,ih _ _ _ _ hp2 (hcl.step hj0) hk.1 (hk.2 hk.1)⟩) h
    | two i t k u =>
      simp only [cutOK,Bool.and_eq_true,beq_iff_eq,decide_eq_true_eq] at hp
      refine ⟨fun h0=>(by rw [hp.1.1.2] at h0;cases h0),?_⟩
      intro j hj
      have hj0:=hj
      rw [hp.1.1.2] at hj
      rcases List.mem_cons.1 hj with rfl | hj
      · simp only [if_neg hp.1.1.1.1]
        exact wpOp_mono (fun a' w' hk=>⟨hk.1,ih _ _ _ _ hp.1.2 (hcl.step hj0) hk.1 (hk.2 hk.1)⟩) h.1
      · obtain rfl:j=k:=by simpa using hj
        simp only [if_neg hp.1.1.1.2]
        exact wpOp_mono (fun a' w' hk=>⟨hk.1,ih _ _ _ _ hp.2 (hcl.step hj0) hk.1 (hk.2 hk.1)⟩) h.2
theorem closed_start:Closed ops (Array.replicate ops.size false):=by
  intro j o ho hj e he hb
  have hlt:=(Array.getElem?_eq_some_iff.1 ho).1
  simp [Array.getD,hlt] at hj
theorem region_cut {id:Nat} {a:Act} {w:World} (m:Nat) (t:Tree) (hm:P.follows .mixedOrders=true) (hs:Region.noSelect ops=true) (hp:cutOK ops m ops.size t (Array.replicate ops.size false)=true)
    (hQ:∀ c a w (dst:Option Tmp) v,Q (.panic c) (a.put dst v) w→Q (.panic c) a w) (hS:S w.drew) (h:S w.drew→wpCut P ops Q S m t a w.drew):(Code.region id ops true).wp P Q a w :=
  wp_region_any hm (wpAny_of_M _ _ _ _ (cut_sound hs hQ _ _ _ _ _ hp closed_start hS (h hS)))
theorem cut_take {i:Nat} {t:Tree} {a:Act} {w:World} {o:Oper} {v:Value} (hb:waitsT ops i ops.size m=true) (ho:ops[i]?=some o) (hw:Region.wanted o (yielded ops a.tmps)=true) (hv:∀ w',S w'→(execOp a.eval o).run P w'=.ok (.value v) w')
    (h:wpCut P ops Q S m t (a.put o.dst v) w):wpCut P ops Q S m (.take i t) a w:=⟨o,v,ho,by rw [if_pos hb];exact .inl ⟨hw,hv⟩,h⟩
theorem cut_free {i:Nat} {t:Tree} {a:Act} {w:World} {o:Oper} {v:Value} (ho:ops[i]?=some o) (hw:Region.wanted o (yielded ops a.tmps)=true) (hv:∀ w',(execOp a.eval o).run P w'=.ok (.value v) w')
    (h:wpCut P ops Q S m t (a.put o.dst v) w):wpCut P ops Q S m (.take i t) a w:=⟨o,v,ho,by split<;>exact .inl ⟨hw,fun w' _=>hv w'⟩,h⟩
theorem cut_op {i:Nat} {t:Tree} {a:Act} {w:World} {o:Oper} (ho:ops[i]?=some o) (hw:Region.wanted o (yielded ops a.tmps)=true)
    (h:∀ K:Act→World→Prop,Shut (∀ a' w',S w'→(S w'→wpCut P ops Q S m t a' w')→K a' w')→Oper.wp P o a w K Q):wpOp P ops Q i (fun a' w'=>S w'∧(S w'→wpCut P ops Q S m t a' w')) a w:=by
  have h1:=h (fun a' w'=>S w'∧(S w'→wpCut P ops Q S m t a' w')) (fun a' w' h1 h2=>⟨h1,h2⟩)
  unfold Go.wpOp
  simp only [ho,hw,if_true]
  exact .inl h1
theorem cut_one {i:Nat} {t:Tree} {a:Act} {w:World} {o:Oper} (hn:¬ i=m) (ho:ops[i]?=some o) (hw:Region.wanted o (yielded ops a.tmps)=true)
    (h:∀ K:Act→World→Prop,Shut (∀ a' w',S w'→(S w'→wpCut P ops Q S m t a' w')→K a' w')→Oper.wp P o a w K Q):wpCut P ops Q S m (.one i t) a w:=by
  show if _ then _ else _
  rw [if_neg hn]
  exact cut_op ho hw h
theorem cut_here {t:Tree} {a:Act} {w:World} {o:Oper} (ho:ops[m]?=some o) (hw:Region.wanted o (yielded ops a.tmps)=true)
    (h:∀ K:Act→World→Prop,Shut (∀ a' w',wpTree P ops Q (fun _=>True) t a' w'→K a' w')→Oper.wp P o a w K Q):wpCut P ops Q S m (.one m t) a w:=by
  show if _ then _ else _
  rw [if_pos rfl]
  have h1:=h (fun a' w'=>wpTree P ops Q (fun _=>True) t a' w') (fun a' w' h1=>h1)
  unfold Go.wpOp
  simp only [ho,hw,if_true]
  exact .inl h1
theorem cut_two {i j:Nat} {t u:Tree} {a:Act} {w:World} {o o':Oper} (ho:ops[i]?=some o) (hw:Region.wanted o (yielded ops a.tmps)=true) (ho':ops[j]?=some o') (hw':Region.wanted o' (yielded ops a.tmps)=true)
    (h:∀ K:Act→World→Prop,Shut (∀ a' w',S w'→(S w'→wpCut P ops Q S m t a' w')→K a' w')→Oper.wp P o a w K Q)
    (h':∀ K:Act→World→Prop,Shut (∀ a' w',S w'→(S w'→wpCut P ops Q S m u a' w')→K a' w')→Oper.wp P o' a w K Q):wpCut P ops Q S m (.two i t j u) a w:=⟨cut_op ho hw h,cut_op ho' hw' h'⟩
end
end Go.Proofs.YtmdgeknnhckgfaaGreatDoor
