/-
  Parts of the proof of the law LinModel: MSam.
-/
import Derived.Test.YtmdgeknnhckgfaaGreatDoorS34
set_option linter.unusedSimpArgs false
set_option linter.unusedVariables false
namespace Go.Proofs.YtmdgeknnhckgfaaGreatDoor
open Go Go.RowKit
set_option maxRecDepth 100000 in
set_option maxHeartbeats 16000000 in
theorem mod_Same (va vb:Value) (a b:AG) (w:World) (ha:AGIs w a va) (hb:AGIs w b vb) :
    Calls Tryz.prog 66 #[va,vb] w fun e w'=>e=.returned (.bool (decide (a=b)))∧Below w.heap.size w w':=by
  obtain ⟨ta,ea,rfl,ha1,ha2⟩:=ha
  obtain ⟨tb,eb,rfl,hb1,hb2⟩:=hb
  obtain ⟨A1,c1,rfl⟩:=ha1.form
  obtain ⟨A2,c2,rfl⟩:=ha2.form
  obtain ⟨A3,c3,rfl⟩:=hb1.form
  obtain ⟨A4,c4,rfl⟩:=hb2.form
  have HA1:=Lib.hid ha1
  have HA2:=Lib.hid ha2
  have HB1:=Lib.hid hb1
  have HB2:=Lib.hid hb2
  have t:=two35 w (agArr a (.slice A1 a.toks.length c1) (.slice A2 a.ents.length c2)) (agArr b (.slice A3 b.toks.length c3) (.slice A4 b.ents.length c4))
  clear ha1 ha2 hb1 hb2
  go_enter Tryz.func66,Tryz.ntmps66
  go_upto_region 1 with fail
  generalize (w.alloc (.cells (agArr a (.slice A1 a.toks.length c1) (.slice A2 a.ents.length c2)) 35)).alloc (.cells (agArr b (.slice A3 b.toks.length c3) (.slice A4 b.ents.length c4)) 35)=W at t ⊢
  obtain ⟨K1,K2,hbw⟩:=t
  obtain ⟨p0,p1,p2,p3,p4,p5,p6,p7,p8,p9,p10,p11,p12,p13⟩:=a
  obtain ⟨q0,q1,q2,q3,q4,q5,q6,q7,q8,q9,q10,q11,q12,q13⟩:=b
  simp only at K1 K2 HA1 HA2 HB1 HB2
  have K1:Blk W w.heap.size #[.int .i64 p0,.string p1,.string p2,.string p3,.string p4,.int .u64 (p5:Nat),.int .i64 p6,.slice A1 p7.length c1,.slice A2 p8.length c2,.string p9,.int .i64 p10,.int .i64 p11,.int .i64 p12,.int .i64 p13] 35:=K1
  have K2:Blk W (w.heap.size+1) #[.int .i64 q0,.string q1,.string q2,.string q3,.string q4,.int .u64 (q5:Nat),.int .i64 q6,.slice A3 q7.length c3,.slice A4 q8.length c4,.string q9,.int .i64 q10,.int .i64 q11,.int .i64 q12,.int .i64 q13] 35:=K2
  by_cases h0:p0=q0
  rotate_left
  · have hF:=Lib.hid (show decide ((⟨p0,p1,p2,p3,p4,p5,p6,p7,p8,p9,p10,p11,p12,p13⟩:AG)=⟨q0,q1,q2,q3,q4,q5,q6,q7,q8,q9,q10,q11,q12,q13⟩)=false from decide_eq_false (fun e=>h0 (by injection e)))
    have x0:=K1.cell 0 (.int .i64 p0) rfl
    have y0:=K2.cell 0 (.int .i64 q0) rfl
    clear K1 K2 HA1 HA2 HB1 HB2
    go_wp2_with fail
    go_ret
    exact ⟨by rw [hF.out];rfl,hbw⟩
  subst h0
  by_cases h1:p1=q1
  rotate_left
  · have hF:=Lib.hid (show decide ((⟨p0,p1,p2,p3,p4,p5,p6,p7,p8,p9,p10,p11,p12,p13⟩:AG)=⟨p0,q1,q2,q3,q4,q5,q6,q7,q8,q9,q10,q11,q12,q13⟩)=false from decide_eq_false (fun e=>h1 (by injection e)))
    have g1:=str_beq_false.2 h1
    clear h1
    have x0:=K1.cell 0 (.int .i64 p0) rfl
    have y0:=K2.cell 0 (.int .i64 p0) rfl
    have x1:=K1.cell 1 (.string p1) rfl
    have y1:=K2.cell 1 (.string q1) rfl
    clear K1 K2 HA1 HA2 HB1 HB2
    go_wp2_with fail
    go_ret
    exact ⟨by rw [hF.out];rfl,hbw⟩
  subst h1
  by_cases h2:p2=q2
  rotate_left
  · have hF:=Lib.hid (show decide ((⟨p0,p1,p2,p3,p4,p5,p6,p7,p8,p9,p10,p11,p12,p13⟩:AG)=⟨p0,p1,q2,q3,q4,q5,q6,q7,q8,q9,q10,q11,q12,q13⟩)=false from decide_eq_false (fun e=>h2 (by injection e)))
    have g2:=str_beq_false.2 h2
    clear h2
    have x0:=K1.cell 0 (.int .i64 p0) rfl
    have y0:=K2.cell 0 (.int .i64 p0) rfl
    have x1:=K1.cell 1 (.string p1) rfl
    have y1:=K2.cell 1 (.string p1) rfl
    have x2:=K1.cell 2 (.string p2) rfl
    have y2:=K2.cell 2 (.string q2) rfl
    clear K1 K2 HA1 HA2 HB1 HB2
    go_wp2_with fail
    go_ret
    exact ⟨by rw [hF.out];rfl,hbw⟩
  subst h2
  by_cases h3:p3=q3
  rotate_left
  · have hF:=Lib.hid (show decide ((⟨p0,p1,p2,p3,p4,p5,p6,p7,p8,p9,p10,p11,p12,p13⟩:AG)=⟨p0,p1,p2,q3,q4,q5,q6,q7,q8,q9,q10,q11,q12,q13⟩)=false from decide_eq_false (fun e=>h3 (by injection e)))
    have g3:=str_beq_false.2 h3
    clear h3
    have x0:=K1.cell 0 (.int .i64 p0) rfl
    have y0:=K2.cell 0 (.int .i64 p0) rfl
    have x1:=K1.cell 1 (.string p1) rfl
    have y1:=K2.cell 1 (.string p1) rfl
    have x2:=K1.cell 2 (.string p2) rfl
    have y2:=K2.cell 2 (.string p2) rfl
    have x3:=K1.cell 3 (.string p3) rfl
    have y3:=K2.cell 3 (.string q3) rfl
    clear K1 K2 HA1 HA2 HB1 HB2
    go_wp2_with fail
    go_ret
    exact ⟨by rw [hF.out];rfl,hbw⟩
  subst h3
  by_cases h4:p4=q4
  rotate_left
  · have hF:=Lib.hid (show decide ((⟨p0,p1,p2,p3,p4,p5,p6,p7,p8,p9,p10,p11,p12,p13⟩:AG)=⟨p0,p1,p2,p3,q4,q5,q6,q7,q8,q9,q10,q11,q12,q13⟩)=false from decide_eq_false (fun e=>h4 (by injection e)))
    have g4:=str_beq_false.2 h4
    clear h4
    have x0:=K1.cell 0 (.int .i64 p0) rfl
    have y0:=K2.cell 0 (.int .i64 p0) rfl
    have x1:=K1.cell 1 (.string p1) rfl
    have y1:=K2.cell 1 (.string p1) rfl
    have x2:=K1.cell 2 (.string p2) rfl
    have y2:=K2.cell 2 (.string p2) rfl
    have x3:=K1.cell 3 (.string p3) rfl
    have y3:=K2.cell 3 (.string p3) rfl
    have x4:=K1.cell 4 (.string p4) rfl
    have y4:=K2.cell 4 (.string q4) rfl
    clear K1 K2 HA1 HA2 HB1 HB2
    go_wp2_with fail
    go_ret
    exact ⟨by rw [hF.out];rfl,hbw⟩
  subst h4
  by_cases h5:p5=q5
  rotate_left
  · have hF:=Lib.hid (show decide ((⟨p0,p1,p2,p3,p4,p5,p6,p7,p8,p9,p10,p11,p12,p13⟩:AG)=⟨p0,p1,p2,p3,p4,q5,q6,q7,q8,q9,q10,q11,q12,q13⟩)=false from decide_eq_false (fun e=>h5 (by injection e)))
    have g5:¬ (p5:Int)=(q5:Int):=by omega
    clear h5
    have x0:=K1.cell 0 (.int .i64 p0) rfl
    have y0:=K2.cell 0 (.int .i64 p0) rfl
    have x1:=K1.cell 1 (.string p1) rfl
    have y1:=K2.cell 1 (.string p1) rfl
    have x2:=K1.cell 2 (.string p2) rfl
    have y2:=K2.cell 2 (.string p2) rfl
    have x3:=K1.cell 3 (.string p3) rfl
    have y3:=K2.cell 3 (.string p3) rfl
    have x4:=K1.cell 4 (.string p4) rfl
    have y4:=K2.cell 4 (.string p4) rfl
    have x5:=K1.cell 5 (.int .u64 (p5:Nat)) rfl
    have y5:=K2.cell 5 (.int .u64 (q5:Nat)) rfl
    clear K1 K2 HA1 HA2 HB1 HB2
    go_wp2_with fail
    go_ret
    exact ⟨by rw [hF.out];rfl,hbw⟩
  subst h5
  by_cases h6:p6=q6
  rotate_left
  · have hF:=Lib.hid (show decide ((⟨p0,p1,p2,p3,p4,p5,p6,p7,p8,p9,p10,p11,p12,p13⟩:AG)=⟨p0,p1,p2,p3,p4,p5,q6,q7,q8,q9,q10,q11,q12,q13⟩)=false from decide_eq_false (fun e=>h6 (by injection e)))
    have x0:=K1.cell 0 (.int .i64 p0) rfl
    have y0:=K2.cell 0 (.int .i64 p0) rfl
    have x1:=K1.cell 1 (.string p1) rfl
    have y1:=K2.cell 1 (.string p1) rfl
    have x2:=K1.cell 2 (.string p2) rfl
    have y2:=K2.cell 2 (.string p2) rfl
    have x3:=K1.cell 3 (.string p3) rfl
    have y3:=K2.cell 3 (.string p3) rfl
    have x4:=K1.cell 4 (.string p4) rfl
    have y4:=K2.cell 4 (.string p4) rfl
    have x5:=K1.cell 5 (.int .u64 (p5:Nat)) rfl
    have y5:=K2.cell 5 (.int .u64 (p5:Nat)) rfl
    have x6:=K1.cell 6 (.int .i64 p6) rfl
    have y6:=K2.cell 6 (.int .i64 q6) rfl
    clear K1 K2 HA1 HA2 HB1 HB2
    go_wp2_with fail
    go_ret
    exact ⟨by rw [hF.out];rfl,hbw⟩
  subst h6
  by_cases h9:p9=q9
  rotate_left
  · have hF:=Lib.hid (show decide ((⟨p0,p1,p2,p3,p4,p5,p6,p7,p8,p9,p10,p11,p12,p13⟩:AG)=⟨p0,p1,p2,p3,p4,p5,p6,q7,q8,q9,q10,q11,q12,q13⟩)=false from decide_eq_false (fun e=>h9 (by injection e)))
    have g9:=str_beq_false.2 h9
    clear h9
    have x0:=K1.cell 0 (.int .i64 p0) rfl
    have y0:=K2.cell 0 (.int .i64 p0) rfl
    have x1:=K1.cell 1 (.string p1) rfl
    have y1:=K2.cell 1 (.string p1) rfl
    have x2:=K1.cell 2 (.string p2) rfl
    have y2:=K2.cell 2 (.string p2) rfl
    have x3:=K1.cell 3 (.string p3) rfl
    have y3:=K2.cell 3 (.string p3) rfl
    have x4:=K1.cell 4 (.string p4) rfl
    have y4:=K2.cell 4 (.string p4) rfl
    have x5:=K1.cell 5 (.int .u64 (p5:Nat)) rfl
    have y5:=K2.cell 5 (.int .u64 (p5:Nat)) rfl
    have x6:=K1.cell 6 (.int .i64 p6) rfl
    have y6:=K2.cell 6 (.int .i64 p6) rfl
    have x9:=K1.cell 9 (.string p9) rfl
    have y9:=K2.cell 9 (.string q9) rfl
    clear K1 K2 HA1 HA2 HB1 HB2
    go_wp2_with fail
    go_ret
    exact ⟨by rw [hF.out];rfl,hbw⟩
  subst h9
  by_cases h10:p10=q10
  rotate_left
  · have hF:=Lib.hid (show decide ((⟨p0,p1,p2,p3,p4,p5,p6,p7,p8,p9,p10,p11,p12,p13⟩:AG)=⟨p0,p1,p2,p3,p4,p5,p6,q7,q8,p9,q10,q11,q12,q13⟩)=false from decide_eq_false (fun e=>h10 (by injection e)))
    have x0:=K1.cell 0 (.int .i64 p0) rfl
    have y0:=K2.cell 0 (.int .i64 p0) rfl
    have x1:=K1.cell 1 (.string p1) rfl
    have y1:=K2.cell 1 (.string p1) rfl
    have x2:=K1.cell 2 (.string p2) rfl
    have y2:=K2.cell 2 (.string p2) rfl
    have x3:=K1.cell 3 (.string p3) rfl
    have y3:=K2.cell 3 (.string p3) rfl
    have x4:=K1.cell 4 (.string p4) rfl
    have y4:=K2.cell 4 (.string p4) rfl
    have x5:=K1.cell 5 (.int .u64 (p5:Nat)) rfl
    have y5:=K2.cell 5 (.int .u64 (p5:Nat)) rfl
    have x6:=K1.cell 6 (.int .i64 p6) rfl
    have y6:=K2.cell 6 (.int .i64 p6) rfl
    have x9:=K1.cell 9 (.string p9) rfl
    have y9:=K2.cell 9 (.string p9) rfl
    have x10:=K1.cell 10 (.int .i64 p10) rfl
    have y10:=K2.cell 10 (.int .i64 q10) rfl
    clear K1 K2 HA1 HA2 HB1 HB2
    go_wp2_with fail
    go_ret
    exact ⟨by rw [hF.out];rfl,hbw⟩
  subst h10
  by_cases h11:p11=q11
  rotate_left
  · have hF:=Lib.hid (show decide ((⟨p0,p1,p2,p3,p4,p5,p6,p7,p8,p9,p10,p11,p12,p13⟩:AG)=⟨p0,p1,p2,p3,p4,p5,p6,q7,q8,p9,p10,q11,q12,q13⟩)=false from decide_eq_false (fun e=>h11 (by injection e)))
    have x0:=K1.cell 0 (.int .i64 p0) rfl
    have y0:=K2.cell 0 (.int .i64 p0) rfl
    have x1:=K1.cell 1 (.string p1) rfl
    have y1:=K2.cell 1 (.string p1) rfl
    have x2:=K1.cell 2 (.string p2) rfl
    have y2:=K2.cell 2 (.string p2) rfl
    have x3:=K1.cell 3 (.string p3) rfl
    have y3:=K2.cell 3 (.string p3) rfl
    have x4:=K1.cell 4 (.string p4) rfl
    have y4:=K2.cell 4 (.string p4) rfl
    have x5:=K1.cell 5 (.int .u64 (p5:Nat)) rfl
    have y5:=K2.cell 5 (.int .u64 (p5:Nat)) rfl
    have x6:=K1.cell 6 (.int .i64 p6) rfl
    have y6:=K2.cell 6 (.int .i64 p6) rfl
    have x9:=K1.cell 9 (.string p9) rfl
    have y9:=K2.cell 9 (.string p9) rfl
    have x10:=K1.cell 10 (.int .i64 p10) rfl
    have y10:=K2.cell 10 (.int .i64 p10) rfl
    have x11:=K1.cell 11 (.int .i64 p11) rfl
    have y11:=K2.cell 11 (.int .i64 q11) rfl
    clear K1 K2 HA1 HA2 HB1 HB2
    go_wp2_with fail
    go_ret
    exact ⟨by rw [hF.out];rfl,hbw⟩
  subst h11
  by_cases h12:p12=q12
  rotate_left
  · have hF:=Lib.hid (show decide ((⟨p0,p1,p2,p3,p4,p5,p6,p7,p8,p9,p10,p11,p12,p13⟩:AG)=⟨p0,p1,p2,p3,p4,p5,p6,q7,q8,p9,p10,p11,q12,q13⟩)=false from decide_eq_false (fun e=>h12 (by injection e)))
    have x0:=K1.cell 0 (.int .i64 p0) rfl
    have y0:=K2.cell 0 (.int .i64 p0) rfl
    have x1:=K1.cell 1 (.string p1) rfl
    have y1:=K2.cell 1 (.string p1) rfl
    have x2:=K1.cell 2 (.string p2) rfl
    have y2:=K2.cell 2 (.string p2) rfl
    have x3:=K1.cell 3 (.string p3) rfl
    have y3:=K2.cell 3 (.string p3) rfl
    have x4:=K1.cell 4 (.string p4) rfl
    have y4:=K2.cell 4 (.string p4) rfl
    have x5:=K1.cell 5 (.int .u64 (p5:Nat)) rfl
    have y5:=K2.cell 5 (.int .u64 (p5:Nat)) rfl
    have x6:=K1.cell 6 (.int .i64 p6) rfl
    have y6:=K2.cell 6 (.int .i64 p6) rfl
    have x9:=K1.cell 9 (.string p9) rfl
    have y9:=K2.cell 9 (.string p9) rfl
    have x10:=K1.cell 10 (.int .i64 p10) rfl
    have y10:=K2.cell 10 (.int .i64 p10) rfl
    have x11:=K1.cell 11 (.int .i64 p11) rfl
    have y11:=K2.cell 11 (.int .i64 p11) rfl
    have x12:=K1.cell 12 (.int .i64 p12) rfl
    have y12:=K2.cell 12 (.int .i64 q12) rfl
    clear K1 K2 HA1 HA2 HB1 HB2
    go_wp2_with fail
    go_ret
    exact ⟨by rw [hF.out];rfl,hbw⟩
  subst h12
  by_cases h13:p13=q13
  rotate_left
  · have hF:=Lib.hid (show decide ((⟨p0,p1,p2,p3,p4,p5,p6,p7,p8,p9,p10,p11,p12,p13⟩:AG)=⟨p0,p1,p2,p3,p4,p5,p6,q7,q8,p9,p10,p11,p12,q13⟩)=false from decide_eq_false (fun e=>h13 (by injection e)))
    have x0:=K1.cell 0 (.int .i64 p0) rfl
    have y0:=K2.cell 0 (.int .i64 p0) rfl
    have x1:=K1.cell 1 (.string p1) rfl
    have y1:=K2.cell 1 (.string p1) rfl
    have x2:=K1.cell 2 (.string p2) rfl
    have y2:=K2.cell 2 (.string p2) rfl
    have x3:=K1.cell 3 (.string p3) rfl
    have y3:=K2.cell 3 (.string p3) rfl
    have x4:=K1.cell 4 (.string p4) rfl
    have y4:=K2.cell 4 (.string p4) rfl
    have x5:=K1.cell 5 (.int .u64 (p5:Nat)) rfl
    have y5:=K2.cell 5 (.int .u64 (p5:Nat)) rfl
    have x6:=K1.cell 6 (.int .i64 p6) rfl
    have y6:=K2.cell 6 (.int .i64 p6) rfl
    have x9:=K1.cell 9 (.string p9) rfl
    have y9:=K2.cell 9 (.string p9) rfl
    have x10:=K1.cell 10 (.int .i64 p10) rfl
    have y10:=K2.cell 10 (.int .i64 p10) rfl
    have x11:=K1.cell 11 (.int .i64 p11) rfl
    have y11:=K2.cell 11 (.int .i64 p11) rfl
    have x12:=K1.cell 12 (.int .i64 p12) rfl
    have y12:=K2.cell 12 (.int .i64 p12) rfl
    have x13:=K1.cell 13 (.int .i64 p13) rfl
    have y13:=K2.cell 13 (.int .i64 q13) rfl
    clear K1 K2 HA1 HA2 HB1 HB2
    go_wp2_with fail
    go_ret
    exact ⟨by rw [hF.out];rfl,hbw⟩
  subst h13
  have x0:=K1.cell 0 (.int .i64 p0) rfl
  have y0:=K2.cell 0 (.int .i64 p0) rfl
  have x1:=K1.cell 1 (.string p1) rfl
  have y1:=K2.cell 1 (.string p1) rfl
  have x2:=K1.cell 2 (.string p2) rfl
  have y2:=K2.cell 2 (.string p2) rfl
  have x3:=K1.cell 3 (.string p3) rfl
  have y3:=K2.cell 3 (.string p3) rfl
  have x4:=K1.cell 4 (.string p4) rfl
  have y4:=K2.cell 4 (.string p4) rfl
  have x5:=K1.cell 5 (.int .u64 (p5:Nat)) rfl
  have y5:=K2.cell 5 (.int .u64 (p5:Nat)) rfl
  have x6:=K1.cell 6 (.int .i64 p6) rfl
  have y6:=K2.cell 6 (.int .i64 p6) rfl
  have x9:=K1.cell 9 (.string p9) rfl
  have y9:=K2.cell 9 (.string p9) rfl
  have x10:=K1.cell 10 (.int .i64 p10) rfl
  have y10:=K2.cell 10 (.int .i64 p10) rfl
  have x11:=K1.cell 11 (.int .i64 p11) rfl
  have y11:=K2.cell 11 (.int .i64 p11) rfl
  have x12:=K1.cell 12 (.int .i64 p12) rfl
  have y12:=K2.cell 12 (.int .i64 p12) rfl
  have x13:=K1.cell 13 (.int .i64 p13) rfl
  have y13:=K2.cell 13 (.int .i64 p13) rfl
  have x7:=K1.cell 7 (.slice A1 p7.length c1) rfl
  have y7:=K2.cell 7 (.slice A3 q7.length c3) rfl
  have HT:=Lib.hid (mod_EqT _ _ p7 q7 W (HA1.out.kept hbw) (HB1.out.kept hbw))
  have HK1:=Lib.hid K1
  have HK2:=Lib.hid K2
  have HBW:=Lib.hid hbw
  clear K1 K2 HA1 HB1 hbw
  by_cases ht:p7=q7
  rotate_left
  · have hF:=Lib.hid (show decide ((⟨p0,p1,p2,p3,p4,p5,p6,p7,p8,p9,p10,p11,p12,p13⟩:AG)=⟨p0,p1,p2,p3,p4,p5,p6,q7,q8,p9,p10,p11,p12,p13⟩)=false from decide_eq_false (fun e=>ht (by injection e)))
    rw [decide_eq_false ht] at HT
    clear HA2 HB2 HK1 HK2 ht
    go_wp2_with fail
    refine HT.out.mono ?_
    rintro e w1 ⟨rfl,hb1⟩
    clear x0 y0 x1 y1 x2 y2 x3 y3 x4 y4 x5 y5 x6 y6 x9 y9 x10 y10 x11 y11 x12 y12 x13 y13 x7 y7
    go_wp2_with fail
    go_ret
    exact ⟨by rw [hF.out];rfl,HBW.out.trans (hb1.mono HBW.out.size)⟩
  · rw [decide_eq_true ht] at HT
    subst ht
    go_wp2_with fail
    refine HT.out.mono ?_
    rintro e w1 ⟨rfl,hb1⟩
    clear x0 y0 x1 y1 x2 y2 x3 y3 x4 y4 x5 y5 x6 y6 x9 y9 x10 y10 x11 y11 x12 y12 x13 y13 x7 y7
    have x8:=(HK1.out.kept hb1).cell 8 (.slice A2 p8.length c2) rfl
    have y8:=(HK2.out.kept hb1).cell 8 (.slice A4 q8.length c4) rfl
    have HE:=Lib.hid (mod_EqE _ _ p8 q8 w1 ((HA2.out.kept HBW.out).kept hb1) ((HB2.out.kept HBW.out).kept hb1))
    have hF:=Lib.hid (show decide ((⟨p0,p1,p2,p3,p4,p5,p6,p7,p8,p9,p10,p11,p12,p13⟩:AG)=⟨p0,p1,p2,p3,p4,p5,p6,p7,q8,p9,p10,p11,p12,p13⟩)=decide (p8=q8) by simp)
    have HB1:=Lib.hid (HBW.out.trans (hb1.mono HBW.out.size))
    clear hb1 HT HK1 HK2 HA2 HB2 HBW
    go_wp2_with fail
    refine HE.out.mono ?_
    rintro e w2 ⟨rfl,hb2⟩
    go_wp2_with fail
    go_ret
    exact ⟨by rw [hF.out];rfl,HB1.out.trans (hb2.mono HB1.out.size)⟩
end Go.Proofs.YtmdgeknnhckgfaaGreatDoor
