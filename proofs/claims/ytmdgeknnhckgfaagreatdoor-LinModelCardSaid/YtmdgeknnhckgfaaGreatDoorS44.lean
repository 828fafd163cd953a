/-
  Parts of the proof of the law LinModel: LLaw.
-/
import Derived.Test.YtmdgeknnhckgfaaGreatDoorS33
import Derived.Test.YtmdgeknnhckgfaaGreatDoorS42
import Derived.Test.YtmdgeknnhckgfaaGreatDoorS43
import Derived.ChangeVars
import Derived.JoinedOf
import Derived.RowKitTokens
import Derived.Stop.Joined
set_option linter.unusedSimpArgs false
set_option linter.unusedVariables false
namespace Go.Proofs.YtmdgeknnhckgfaaGreatDoor
open Go Go.ChangeShapes Go.WideShapes Go.ChangeAt Go.RowKit Go.Deep Go.Joins
theorem law_walk {T:Lib.PrintTabs} {w:World} (ht:Tabs T w) {Ts:List Ten} {TA:Option Addr} {TC:Nat} {CA:Option Addr} {CC:Nat} {cls:List Cl} {KA:Option Addr} {KC:Nat} {tks:List Nat} {wh:Int} {oth:AG} {otv oev:Value} (h:LArg w Ts TA TC CA CC cls KA KC tks wh oth otv oev) (o:Cf) :
    Calls Tryz.prog 3 #[.agg (cfArr (.slice TA Ts.length TC) o),.slice CA cls.length CC,.slice KA tks.length KC,.int .i64 wh,.agg (agArr oth otv oev)] w fun e w'=>e=.returned (.bool true)∧Below w.heap.size w w':=by
  by_cases hck:checkN Ts=0
  · have hp:=(check_parts hck).1
    exact law_yes h o hck hp.2 (lok_new hck) (fun va vb a b W ha hb=>ref_Same va vb a b W ha hb) (fun W hb=>mod_lives (ht.kept hb)) (fun W hb LB lc ta tc EA ec E v l LA LC steps h1 h2 h3 =>
      mod_Explain Ts h.tn hp.1 hp.2 hck (lok_new hck) TA TC o (h.kept hb).tr (by rw [newN_len];exact key_all (ht.kept hb) Ts.length (by omega) _ _ _) LB lc ta tc EA ec E v l LA LC steps h1 h2 h3)
  · exact law_no ht h o (check01 hck)
section
variable {H:Type} {enc:TypeId×Value→H} {W:World}
theorem trodAll_below {W':World} (hb:Below W.heap.size W W'):∀ {ts:List TypeId} {vs:List Value} {ds:List (DataW H)} {ps:List MemPlace},(∀ t∈ts,Tryz.prog.readableRec t=true∧t<Tryz.prog.types.size) →
    DataW.TrodAll enc Tryz.prog W 0 (fun _=>true) true ts vs ds ps→(∀ x∈ps,x.block<W.heap.size)→DataW.TrodAll enc Tryz.prog W' 0 (fun b=>decide (b<W.heap.size)) true ts vs ds ps:=by
  intro ts
  induction ts with
  | nil =>
    intro vs ds ps _ h _
    obtain ⟨rfl,rfl,rfl⟩:=trodAll_nil h
    exact trodAll_mk0
  | cons t ts ih =>
    intro vs ds ps hr h hlt
    obtain ⟨v,vs',d,ds',p,q,rfl,rfl,rfl,h0,r0⟩:=trodAll_cons h
    exact trodAll_cons_mk (Below.trod Tryz.laidOut (hr t (by simp)).1 (hr t (by simp)).2 h0 hb fun x hx=>hlt x (by simp [hx])) (ih (fun t' ht'=>hr t' (by simp [ht'])) r0 fun x hx=>hlt x (by simp [hx]))
theorem law_post {f:Func} {s:ChangeSpec} {W':World} {args:Array Value} {ds gs:List (DataW H)} {p:List MemPlace} (hvars:s.vars=[])
    (hW:DataW.Whole enc Tryz.prog f.params.toList s.vars false W args.toList ds gs p) (hres:f.resultTypes=#[4]) (hr:(s.fn H (ds++gs)).results=[.lit (.bool true)]) (ha:(s.fn H (ds++gs)).args=ds) (hvs:(s.fn H (ds++gs)).vars=[])
    (hread:∀ t∈f.params.toList,Tryz.prog.readableRec t=true∧t<Tryz.prog.types.size) (hb:Below W.heap.size W W') :
    s.post enc Tryz.prog f false true false false W args (.bool true) W':=by
  have hW0:=hW
  obtain ⟨p1,q1,hA,hV,rfl,hfz,hnd⟩:=hW
  rw [hvars] at hV
  obtain ⟨rfl,rfl⟩:=trodVars_none hV
  refine ⟨_,_,_,[],p1,[],hW0,?_,?_,?_,hb.frame _,fun h=>by cases h⟩
  · rw [hr,hres];exact trodAll_mk1 (shut_bool Tryz.underlying4 true)
  · rw [ha];exact trodAll_below hb hread hA fun x hx=>hW0.lt x (by simpa using hx)
  · rw [hvs,hvars];rfl
end
theorem witness_ref {H:Type} {enc:TypeId×Value→H} {C:Checked} {os:Os} {f:FuncId} {fn:Func} {s:ChangeSpec} {conds:List PathCond} {apart:Bool} {X:World→Array Value→Prop} (w0:World) (args:Array Value) (fuel:Nat) (hos:w0.os=os)
    (hv:(w0.forCall (fun _ _=>0) ⟨#[],args,[]⟩).variablesRefB C.prog=true)
    (hr:((w0.forCall (fun _ _=>0) ⟨#[],args,[]⟩).heap.toList.drop C.prog.globals.size).take ((begin C.prog (fun _ _=>0) default).world.heap.size - C.prog.globals.size) =
      (begin C.prog (fun _ _=>0) default).world.heap.toList.drop C.prog.globals.size)
    (hok:Input.okWideB C.prog (w0.forCall (fun _ _=>0) ⟨#[],args,[]⟩) f ⟨#[],args,[]⟩=true)
    (hpre:s.preB enc C.prog fn conds apart (w0.forCall (fun _ _=>0) ⟨#[],args,[]⟩).memory args fuel=true)
    (hsz:s.sizedB enc C.prog fn apart (w0.forCall (fun _ _=>0) ⟨#[],args,[]⟩).memory args fuel=true)
    (hx:X (w0.forCall (fun _ _=>0) ⟨#[],args,[]⟩).memory args) :
    ∃ (w:World) (tape:Tape) (i:Input),w.os=os∧(w.forCall tape i).Shaped C.prog∧i.vars=[]∧Input.okWide C.prog (w.forCall tape i) .any w.heap.size f i ∧
      ((s.pre enc C.prog fn conds apart (w.forCall tape i).memory i.args∧X (w.forCall tape i).memory i.args)∧sizedMet enc C.prog fn (OpenSpec.ofChange s) apart (w.forCall tape i).memory i.args)∧({ modest:=false }:Assume).holds C.prog (lone (Frame.enter C.prog f i.args .normal) [] (w.forCall tape i)) :=
  ⟨w0,fun _ _=>0,⟨#[],args,[]⟩,hos,World.shaped_of_RefB hv hr,(Input.okWide_of_okWideB (base:=0) hok).1,(Input.okWide_of_okWideB hok).2,⟨⟨ChangeSpec.pre_of_preB hpre,hx⟩,sizedMet_of_sizedB hsz⟩,by
    simp only [Assume.holds]
    exact ⟨by simp,by simp,fun _=>Modest.zero,by simp,by simp⟩⟩
set_option maxRecDepth 100000 in
theorem law_witness (os:Os) {H:Type} (enc:TypeId×Value→H):∃ (w:World) (tape:Tape) (i:Input),w.os=os∧(w.forCall tape i).Shaped Tryz.checked.prog∧i.vars=[]∧Input.okWide Tryz.checked.prog (w.forCall tape i) .any w.heap.size 3 i ∧
      ((Rows.linModelSpec.pre enc Tryz.checked.prog Tryz.f3 [] false (w.forCall tape i).memory i.args∧laidMetH Tryz.prog Rows.linModelRow.laid (w.forCall tape i).memory)∧sizedMet enc Tryz.checked.prog Tryz.f3 (OpenSpec.ofChange Rows.linModelSpec) false (w.forCall tape i).memory i.args)∧({ modest:=false }:Assume).holds Tryz.checked.prog (lone (Frame.enter Tryz.checked.prog 3 i.args .normal) [] (w.forCall tape i)) :=
  witness_ref (enc:=enc) (C:=Tryz.checked) (os:=os) (X:=fun w _=>laidMetH Tryz.prog Rows.linModelRow.laid w) (laidWorld os)
    #[.agg #[.slice none 0 0,.int .i64 0,.int .i64 0,.int .i64 0,.int .i64 0,.int .i64 0,.int .i64 0,.int .i64 0,.int .i64 0],.slice none 0 0,.slice none 0 0,.int .i64 0,
      .agg #[.int .i64 0,.string ⟨#[]⟩,.string ⟨#[]⟩,.string ⟨#[]⟩,.string ⟨#[]⟩,.int .u64 0,.int .i64 0,.slice none 0 0,.slice none 0 0,.string ⟨#[]⟩,.int .i64 0,.int .i64 0,.int .i64 0,.int .i64 0]] 8 rfl (by kernel_rfl) (by kernel_rfl) (by kernel_rfl) (by kernel_rfl) (by kernel_rfl) ((laidH_iff _).2 (laid_met os _))
set_option maxRecDepth 100000 in
theorem linModel_lifted (os:Os) (started:os.Started) (H:Type) (enc:TypeId×Value→H) :
    ReturnsInHanded {} Tryz.checked os 3 .any (fun w args=>(Rows.linModelSpec.pre enc Tryz.prog Tryz.f3 [] false w args∧laidMetH Tryz.prog Rows.linModelRow.laid w)∧sizedMet enc Tryz.prog Tryz.f3 (OpenSpec.ofChange Rows.linModelSpec) false w args)
      (Rows.linModelSpec.post enc Tryz.prog Tryz.f3 false true false false):=by
  refine returnsInHanded_of_change_and (C:=Tryz.checked) (X:=fun w _=>laidMetH Tryz.prog Rows.linModelRow.laid w) (fun _ _ _ hh h=>h.of_heap hh) Tryz.own started (by kernel_rfl) Tryz.func3 (law_witness os enc) ?_
  intro W base args ds gs before hval0 hW _ _ hL _
  have hval:∀ (j:Nat) t v,Tryz.f3.params[j]?=some t→args[j]?=some v→Value.okWide Tryz.prog W .any base t v:=hval0
  have hW':DataW.Whole enc Tryz.prog Tryz.f3.params.toList Rows.linModelSpec.vars false W args.toList ds gs before:=hW
  obtain ⟨p,q,hA0,hV,rfl,hfz,hnd⟩:=hW
  have hA:DataW.TrodAll enc Tryz.prog W 0 (fun _=>true) true Tryz.f3.params.toList args.toList ds p:=hA0
  rw [Tryz.params3] at hA hval
  obtain ⟨v0,vs0,d0,ds0,p0,q0,e0,rfl,rfl,h0,r0⟩:=trodAll_cons hA
  obtain ⟨v1,vs1,d1,ds1,p1,q1,rfl,rfl,rfl,h1,r1⟩:=trodAll_cons r0
  obtain ⟨v2,vs2,d2,ds2,p2,q2,rfl,rfl,rfl,h2,r2⟩:=trodAll_cons r1
  obtain ⟨v3,vs3,d3,ds3,p3,q3,rfl,rfl,rfl,h3,r3⟩:=trodAll_cons r2
  obtain ⟨v4,vs4,d4,ds4,p4,q4,rfl,rfl,rfl,h4,r4⟩:=trodAll_cons r3
  obtain ⟨rfl,rfl,rfl⟩:=trodAll_nil r4
  obtain ⟨rfl,rfl⟩:=trodVars_none hV
  have e1:args=#[v0,v1,v2,v3,v4]:=by rw [←Array.toList_inj];exact e0
  subst e1
  obtain ⟨Ts,TA,TC,o,rfl,hr0,hn0⟩:=open_cfg (hval 0 28 v0 rfl rfl) h0
  obtain ⟨a1,n1,c1,rfl⟩:=okWide_slice Tryz.underlying29 (hval 1 29 v1 rfl rfl)
  obtain ⟨a2,n2,c2,rfl⟩:=okWide_slice Tryz.underlying30 (hval 2 30 v2 rfl rfl)
  obtain ⟨m3,rfl⟩:=okWide_int Tryz.underlying3 (hval 3 3 v3 rfl rfl)
  obtain ⟨oth,otv,oev,rfl,hr4,hr5⟩:=open_other (hval 4 35 v4 rfl rfl) h4
  obtain ⟨f1,hf1⟩:=h1
  obtain ⟨f2,hf2⟩:=h2
  obtain ⟨f3,hf3⟩:=h3
  obtain ⟨cls,A1,k1,e1,hc1,hok1⟩:=open_calls hf1
  obtain ⟨tks,A2,k2,e2,hc2,hok2⟩:=open_ticks hf2
  obtain ⟨m,e3,hm⟩:=open_i64c hf3
  simp only [Value.cells,List.cons.injEq,and_true,Value.slice.injEq,Value.int.injEq,true_and] at e1 e2 e3
  obtain ⟨rfl,rfl,rfl⟩:=e1
  obtain ⟨rfl,rfl,rfl⟩:=e2
  subst e3
  have hT:=tabs_of ((laidH_iff W).1 hL)
  refine (law_walk hT ⟨hn0,hr0,hc1,hok1,hc2,hok2,⟨hm.1,by omega⟩,hr4,hr5⟩ o).mono fun e W' ⟨he,hb⟩=>?_
  subst he
  exact ⟨_,rfl,law_post rfl hW' rfl rfl rfl rfl (by rw [Tryz.params3];intro t ht;simp at ht;rcases ht with rfl | rfl | rfl | rfl | rfl<;>exact ⟨by kernel_rfl,of_decide_eq_true (by kernel_rfl)⟩) hb⟩
theorem linModel_said:Rows.LinModelSaid :=
  OpenClaim.holds_of_wide 3 Tryz.f3 rfl rfl rfl rfl rfl rfl rfl ⟨rfl,rfl,rfl,rfl,rfl⟩ rfl rfl rfl rfl rfl (by kernel_rfl) Tryz.func3 (by kernel_rfl)
    (of_decide_eq_true (by kernel_rfl)) (by unfold Func.isWrapper;rw [if_neg (of_decide_eq_false (by kernel_rfl))];exact ⟨rfl,rfl⟩)
    (fun os started H enc _=>linModel_lifted os started H enc)
end Go.Proofs.YtmdgeknnhckgfaaGreatDoor
