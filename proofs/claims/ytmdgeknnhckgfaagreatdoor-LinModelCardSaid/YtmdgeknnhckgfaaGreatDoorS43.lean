/-
  Parts of the proof of the law LinModel: RSam.
-/
import Derived.Test.YtmdgeknnhckgfaaGreatDoorS22
set_option linter.unusedSimpArgs false
set_option linter.unusedVariables false
namespace Go.Proofs.YtmdgeknnhckgfaaGreatDoor
open Go Go.RowKit
set_option maxRecDepth 100000 in
set_option maxHeartbeats 8000000 in
theorem ref_Same (va vb:Value) (a b:AG) (w:World) (ha:AGIs w a va) (hb:AGIs w b vb) :
    Calls Tryz.prog 9 #[va,vb] w fun e w'=>e=.returned (.bool (decide (a=b)))∧Below w.heap.size w w':=by
  obtain ⟨ta,ea,rfl,ha1,ha2⟩:=ha
  obtain ⟨tb,eb,rfl,hb1,hb2⟩:=hb
  obtain ⟨A1,c1,rfl⟩:=ha1.form
  obtain ⟨A2,c2,rfl⟩:=ha2.form
  obtain ⟨A3,c3,rfl⟩:=hb1.form
  obtain ⟨A4,c4,rfl⟩:=hb2.form
  have HA1:=Lib.hid ha1
  have HA2:=Lib.hid ha2
  have HB1:=Lib.hid hb1
  have HB2:=Lib.hid hb2
  have t:=two35 w (agArr a (.slice A1 a.toks.length c1) (.slice A2 a.ents.length c2)) (agArr b (.slice A3 b.toks.length c3) (.slice A4 b.ents.length c4))
  clear ha1 ha2 hb1 hb2
  go_enter Tryz.func9,Tryz.ntmps9
  go_upto_region 1 with fail
  generalize (w.alloc (.cells (agArr a (.slice A1 a.toks.length c1) (.slice A2 a.ents.length c2)) 35)).alloc (.cells (agArr b (.slice A3 b.toks.length c3) (.slice A4 b.ents.length c4)) 35)=W at t ⊢
  obtain ⟨K1,K2,hbw⟩:=t
  go_cut [96] from 6 to 120 (fun v W'=>v=.bool (!sameH a b)∧W'=W)
  case first =>
    obtain ⟨p0,p1,p2,p3,p4,p5,p6,p7,p8,p9,p10,p11,p12,p13⟩:=a
    obtain ⟨q0,q1,q2,q3,q4,q5,q6,q7,q8,q9,q10,q11,q12,q13⟩:=b
    simp only at K1 K2
    have K1:Blk W w.heap.size #[.int .i64 p0,.string p1,.string p2,.string p3,.string p4,.int .u64 (p5:Nat),.int .i64 p6,.slice A1 p7.length c1,.slice A2 p8.length c2,.string p9,.int .i64 p10,.int .i64 p11,.int .i64 p12,.int .i64 p13] 35:=K1
    have K2:Blk W (w.heap.size+1) #[.int .i64 q0,.string q1,.string q2,.string q3,.string q4,.int .u64 (q5:Nat),.int .i64 q6,.slice A3 q7.length c3,.slice A4 q8.length c4,.string q9,.int .i64 q10,.int .i64 q11,.int .i64 q12,.int .i64 q13] 35:=K2
    clear HA1 HA2 HB1 HB2 hbw
    by_cases h0:p0=q0
    rotate_left
    · have hF:=Lib.hid (show sameH ⟨p0,p1,p2,p3,p4,p5,p6,p7,p8,p9,p10,p11,p12,p13⟩ ⟨q0,q1,q2,q3,q4,q5,q6,q7,q8,q9,q10,q11,q12,q13⟩=false by simp [sameH,h0])
      have x0:=K1.cell 0 (.int .i64 p0) rfl
      have y0:=K2.cell 0 (.int .i64 q0) rfl
      clear K1 K2
      go_wp2_with fail
      go_meet
      case rel=>exact ⟨by rw [hF.out];rfl,rfl⟩
    subst h0
    by_cases h1:p1=q1
    rotate_left
    · have hF:=Lib.hid (show sameH ⟨p0,p1,p2,p3,p4,p5,p6,p7,p8,p9,p10,p11,p12,p13⟩ ⟨p0,q1,q2,q3,q4,q5,q6,q7,q8,q9,q10,q11,q12,q13⟩=false by simp [sameH,h1])
      have g1:=str_beq_false.2 h1
      clear h1
      have x0:=K1.cell 0 (.int .i64 p0) rfl
      have y0:=K2.cell 0 (.int .i64 p0) rfl
      have x1:=K1.cell 1 (.string p1) rfl
      have y1:=K2.cell 1 (.string q1) rfl
      clear K1 K2
      go_wp2_with fail
      go_meet
      case rel=>exact ⟨by rw [hF.out];rfl,rfl⟩
    subst h1
    by_cases h2:p2=q2
    rotate_left
    · have hF:=Lib.hid (show sameH ⟨p0,p1,p2,p3,p4,p5,p6,p7,p8,p9,p10,p11,p12,p13⟩ ⟨p0,p1,q2,q3,q4,q5,q6,q7,q8,q9,q10,q11,q12,q13⟩=false by simp [sameH,h2])
      have g2:=str_beq_false.2 h2
      clear h2
      have x0:=K1.cell 0 (.int .i64 p0) rfl
      have y0:=K2.cell 0 (.int .i64 p0) rfl
      have x1:=K1.cell 1 (.string p1) rfl
      have y1:=K2.cell 1 (.string p1) rfl
      have x2:=K1.cell 2 (.string p2) rfl
      have y2:=K2.cell 2 (.string q2) rfl
      clear K1 K2
      go_wp2_with fail
      go_meet
      case rel=>exact ⟨by rw [hF.out];rfl,rfl⟩
    subst h2
    by_cases h3:p3=q3
    rotate_left
    · have hF:=Lib.hid (show sameH ⟨p0,p1,p2,p3,p4,p5,p6,p7,p8,p9,p10,p11,p12,p13⟩ ⟨p0,p1,p2,q3,q4,q5,q6,q7,q8,q9,q10,q11,q12,q13⟩=false by simp [sameH,h3])
      have g3:=str_beq_false.2 h3
      clear h3
      have x0:=K1.cell 0 (.int .i64 p0) rfl
      have y0:=K2.cell 0 (.int .i64 p0) rfl
      have x1:=K1.cell 1 (.string p1) rfl
      have y1:=K2.cell 1 (.string p1) rfl
      have x2:=K1.cell 2 (.string p2) rfl
      have y2:=K2.cell 2 (.string p2) rfl
      have x3:=K1.cell 3 (.string p3) rfl
      have y3:=K2.cell 3 (.string q3) rfl
      clear K1 K2
      go_wp2_with fail
      go_meet
      case rel=>exact ⟨by rw [hF.out];rfl,rfl⟩
    subst h3
    by_cases h4:p4=q4
    rotate_left
    · have hF:=Lib.hid (show sameH ⟨p0,p1,p2,p3,p4,p5,p6,p7,p8,p9,p10,p11,p12,p13⟩ ⟨p0,p1,p2,p3,q4,q5,q6,q7,q8,q9,q10,q11,q12,q13⟩=false by simp [sameH,h4])
      have g4:=str_beq_false.2 h4
      clear h4
      have x0:=K1.cell 0 (.int .i64 p0) rfl
      have y0:=K2.cell 0 (.int .i64 p0) rfl
      have x1:=K1.cell 1 (.string p1) rfl
      have y1:=K2.cell 1 (.string p1) rfl
      have x2:=K1.cell 2 (.string p2) rfl
      have y2:=K2.cell 2 (.string p2) rfl
      have x3:=K1.cell 3 (.string p3) rfl
      have y3:=K2.cell 3 (.string p3) rfl
      have x4:=K1.cell 4 (.string p4) rfl
      have y4:=K2.cell 4 (.string q4) rfl
      clear K1 K2
      go_wp2_with fail
      go_meet
      case rel=>exact ⟨by rw [hF.out];rfl,rfl⟩
    subst h4
    by_cases h5:p5=q5
    rotate_left
    · have hF:=Lib.hid (show sameH ⟨p0,p1,p2,p3,p4,p5,p6,p7,p8,p9,p10,p11,p12,p13⟩ ⟨p0,p1,p2,p3,p4,q5,q6,q7,q8,q9,q10,q11,q12,q13⟩=false by simp [sameH,h5])
      have g5:¬ (p5:Int)=(q5:Int):=by omega
      clear h5
      have x0:=K1.cell 0 (.int .i64 p0) rfl
      have y0:=K2.cell 0 (.int .i64 p0) rfl
      have x1:=K1.cell 1 (.string p1) rfl
      have y1:=K2.cell 1 (.string p1) rfl
      have x2:=K1.cell 2 (.string p2) rfl
      have y2:=K2.cell 2 (.string p2) rfl
      have x3:=K1.cell 3 (.string p3) rfl
      have y3:=K2.cell 3 (.string p3) rfl
      have x4:=K1.cell 4 (.string p4) rfl
      have y4:=K2.cell 4 (.string p4) rfl
      have x5:=K1.cell 5 (.int .u64 (p5:Nat)) rfl
      have y5:=K2.cell 5 (.int .u64 (q5:Nat)) rfl
      clear K1 K2
      go_wp2_with fail
      go_meet
      case rel=>exact ⟨by rw [hF.out];rfl,rfl⟩
    subst h5
    by_cases h6:p6=q6
    rotate_left
    · have hF:=Lib.hid (show sameH ⟨p0,p1,p2,p3,p4,p5,p6,p7,p8,p9,p10,p11,p12,p13⟩ ⟨p0,p1,p2,p3,p4,p5,q6,q7,q8,q9,q10,q11,q12,q13⟩=false by simp [sameH,h6])
      have x0:=K1.cell 0 (.int .i64 p0) rfl
      have y0:=K2.cell 0 (.int .i64 p0) rfl
      have x1:=K1.cell 1 (.string p1) rfl
      have y1:=K2.cell 1 (.string p1) rfl
      have x2:=K1.cell 2 (.string p2) rfl
      have y2:=K2.cell 2 (.string p2) rfl
      have x3:=K1.cell 3 (.string p3) rfl
      have y3:=K2.cell 3 (.string p3) rfl
      have x4:=K1.cell 4 (.string p4) rfl
      have y4:=K2.cell 4 (.string p4) rfl
      have x5:=K1.cell 5 (.int .u64 (p5:Nat)) rfl
      have y5:=K2.cell 5 (.int .u64 (p5:Nat)) rfl
      have x6:=K1.cell 6 (.int .i64 p6) rfl
      have y6:=K2.cell 6 (.int .i64 q6) rfl
      clear K1 K2
      go_wp2_with fail
      go_meet
      case rel=>exact ⟨by rw [hF.out];rfl,rfl⟩
    subst h6
    by_cases h9:p9=q9
    rotate_left
    · have hF:=Lib.hid (show sameH ⟨p0,p1,p2,p3,p4,p5,p6,p7,p8,p9,p10,p11,p12,p13⟩ ⟨p0,p1,p2,p3,p4,p5,p6,q7,q8,q9,q10,q11,q12,q13⟩=false by simp [sameH,h9])
      have g9:=str_beq_false.2 h9
      clear h9
      have x0:=K1.cell 0 (.int .i64 p0) rfl
      have y0:=K2.cell 0 (.int .i64 p0) rfl
      have x1:=K1.cell 1 (.string p1) rfl
      have y1:=K2.cell 1 (.string p1) rfl
      have x2:=K1.cell 2 (.string p2) rfl
      have y2:=K2.cell 2 (.string p2) rfl
      have x3:=K1.cell 3 (.string p3) rfl
      have y3:=K2.cell 3 (.string p3) rfl
      have x4:=K1.cell 4 (.string p4) rfl
      have y4:=K2.cell 4 (.string p4) rfl
      have x5:=K1.cell 5 (.int .u64 (p5:Nat)) rfl
      have y5:=K2.cell 5 (.int .u64 (p5:Nat)) rfl
      have x6:=K1.cell 6 (.int .i64 p6) rfl
      have y6:=K2.cell 6 (.int .i64 p6) rfl
      have x9:=K1.cell 9 (.string p9) rfl
      have y9:=K2.cell 9 (.string q9) rfl
      clear K1 K2
      go_wp2_with fail
      go_meet
      case rel=>exact ⟨by rw [hF.out];rfl,rfl⟩
    subst h9
    by_cases h10:p10=q10
    rotate_left
    · have hF:=Lib.hid (show sameH ⟨p0,p1,p2,p3,p4,p5,p6,p7,p8,p9,p10,p11,p12,p13⟩ ⟨p0,p1,p2,p3,p4,p5,p6,q7,q8,p9,q10,q11,q12,q13⟩=false by simp [sameH,h10])
      have x0:=K1.cell 0 (.int .i64 p0) rfl
      have y0:=K2.cell 0 (.int .i64 p0) rfl
      have x1:=K1.cell 1 (.string p1) rfl
      have y1:=K2.cell 1 (.string p1) rfl
      have x2:=K1.cell 2 (.string p2) rfl
      have y2:=K2.cell 2 (.string p2) rfl
      have x3:=K1.cell 3 (.string p3) rfl
      have y3:=K2.cell 3 (.string p3) rfl
      have x4:=K1.cell 4 (.string p4) rfl
      have y4:=K2.cell 4 (.string p4) rfl
      have x5:=K1.cell 5 (.int .u64 (p5:Nat)) rfl
      have y5:=K2.cell 5 (.int .u64 (p5:Nat)) rfl
      have x6:=K1.cell 6 (.int .i64 p6) rfl
      have y6:=K2.cell 6 (.int .i64 p6) rfl
      have x9:=K1.cell 9 (.string p9) rfl
      have y9:=K2.cell 9 (.string p9) rfl
      have x10:=K1.cell 10 (.int .i64 p10) rfl
      have y10:=K2.cell 10 (.int .i64 q10) rfl
      clear K1 K2
      go_wp2_with fail
      go_meet
      case rel=>exact ⟨by rw [hF.out];rfl,rfl⟩
    subst h10
    by_cases h11:p11=q11
    rotate_left
    · have hF:=Lib.hid (show sameH ⟨p0,p1,p2,p3,p4,p5,p6,p7,p8,p9,p10,p11,p12,p13⟩ ⟨p0,p1,p2,p3,p4,p5,p6,q7,q8,p9,p10,q11,q12,q13⟩=false by simp [sameH,h11])
      have x0:=K1.cell 0 (.int .i64 p0) rfl
      have y0:=K2.cell 0 (.int .i64 p0) rfl
      have x1:=K1.cell 1 (.string p1) rfl
      have y1:=K2.cell 1 (.string p1) rfl
      have x2:=K1.cell 2 (.string p2) rfl
      have y2:=K2.cell 2 (.string p2) rfl
      have x3:=K1.cell 3 (.string p3) rfl
      have y3:=K2.cell 3 (.string p3) rfl
      have x4:=K1.cell 4 (.string p4) rfl
      have y4:=K2.cell 4 (.string p4) rfl
      have x5:=K1.cell 5 (.int .u64 (p5:Nat)) rfl
      have y5:=K2.cell 5 (.int .u64 (p5:Nat)) rfl
      have x6:=K1.cell 6 (.int .i64 p6) rfl
      have y6:=K2.cell 6 (.int .i64 p6) rfl
      have x9:=K1.cell 9 (.string p9) rfl
      have y9:=K2.cell 9 (.string p9) rfl
      have x10:=K1.cell 10 (.int .i64 p10) rfl
      have y10:=K2.cell 10 (.int .i64 p10) rfl
      have x11:=K1.cell 11 (.int .i64 p11) rfl
      have y11:=K2.cell 11 (.int .i64 q11) rfl
      clear K1 K2
      go_wp2_with fail
      go_meet
      case rel=>exact ⟨by rw [hF.out];rfl,rfl⟩
    subst h11
    by_cases h12:p12=q12
    rotate_left
    · have hF:=Lib.hid (show sameH ⟨p0,p1,p2,p3,p4,p5,p6,p7,p8,p9,p10,p11,p12,p13⟩ ⟨p0,p1,p2,p3,p4,p5,p6,q7,q8,p9,p10,p11,q12,q13⟩=false by simp [sameH,h12])
      have x0:=K1.cell 0 (.int .i64 p0) rfl
      have y0:=K2.cell 0 (.int .i64 p0) rfl
      have x1:=K1.cell 1 (.string p1) rfl
      have y1:=K2.cell 1 (.string p1) rfl
      have x2:=K1.cell 2 (.string p2) rfl
      have y2:=K2.cell 2 (.string p2) rfl
      have x3:=K1.cell 3 (.string p3) rfl
      have y3:=K2.cell 3 (.string p3) rfl
      have x4:=K1.cell 4 (.string p4) rfl
      have y4:=K2.cell 4 (.string p4) rfl
      have x5:=K1.cell 5 (.int .u64 (p5:Nat)) rfl
      have y5:=K2.cell 5 (.int .u64 (p5:Nat)) rfl
      have x6:=K1.cell 6 (.int .i64 p6) rfl
      have y6:=K2.cell 6 (.int .i64 p6) rfl
      have x9:=K1.cell 9 (.string p9) rfl
      have y9:=K2.cell 9 (.string p9) rfl
      have x10:=K1.cell 10 (.int .i64 p10) rfl
      have y10:=K2.cell 10 (.int .i64 p10) rfl
      have x11:=K1.cell 11 (.int .i64 p11) rfl
      have y11:=K2.cell 11 (.int .i64 p11) rfl
      have x12:=K1.cell 12 (.int .i64 p12) rfl
      have y12:=K2.cell 12 (.int .i64 q12) rfl
      clear K1 K2
      go_wp2_with fail
      go_meet
      case rel=>exact ⟨by rw [hF.out];rfl,rfl⟩
    subst h12
    by_cases h13:p13=q13
    rotate_left
    · have hF:=Lib.hid (show sameH ⟨p0,p1,p2,p3,p4,p5,p6,p7,p8,p9,p10,p11,p12,p13⟩ ⟨p0,p1,p2,p3,p4,p5,p6,q7,q8,p9,p10,p11,p12,q13⟩=false by simp [sameH,h13])
      have x0:=K1.cell 0 (.int .i64 p0) rfl
      have y0:=K2.cell 0 (.int .i64 p0) rfl
      have x1:=K1.cell 1 (.string p1) rfl
      have y1:=K2.cell 1 (.string p1) rfl
      have x2:=K1.cell 2 (.string p2) rfl
      have y2:=K2.cell 2 (.string p2) rfl
      have x3:=K1.cell 3 (.string p3) rfl
      have y3:=K2.cell 3 (.string p3) rfl
      have x4:=K1.cell 4 (.string p4) rfl
      have y4:=K2.cell 4 (.string p4) rfl
      have x5:=K1.cell 5 (.int .u64 (p5:Nat)) rfl
      have y5:=K2.cell 5 (.int .u64 (p5:Nat)) rfl
      have x6:=K1.cell 6 (.int .i64 p6) rfl
      have y6:=K2.cell 6 (.int .i64 p6) rfl
      have x9:=K1.cell 9 (.string p9) rfl
      have y9:=K2.cell 9 (.string p9) rfl
      have x10:=K1.cell 10 (.int .i64 p10) rfl
      have y10:=K2.cell 10 (.int .i64 p10) rfl
      have x11:=K1.cell 11 (.int .i64 p11) rfl
      have y11:=K2.cell 11 (.int .i64 p11) rfl
      have x12:=K1.cell 12 (.int .i64 p12) rfl
      have y12:=K2.cell 12 (.int .i64 p12) rfl
      have x13:=K1.cell 13 (.int .i64 p13) rfl
      have y13:=K2.cell 13 (.int .i64 q13) rfl
      clear K1 K2
      go_wp2_with fail
      go_meet
      case rel=>exact ⟨by rw [hF.out];rfl,rfl⟩
    subst h13
    by_cases hl:p7.length=q7.length
    rotate_left
    · have hF:=Lib.hid (show sameH ⟨p0,p1,p2,p3,p4,p5,p6,p7,p8,p9,p10,p11,p12,p13⟩ ⟨p0,p1,p2,p3,p4,p5,p6,q7,q8,p9,p10,p11,p12,p13⟩=false by simp [sameH,hl])
      have gl:¬ (p7.length:Int)=(q7.length:Int):=by omega
      have x0:=K1.cell 0 (.int .i64 p0) rfl
      have y0:=K2.cell 0 (.int .i64 p0) rfl
      have x1:=K1.cell 1 (.string p1) rfl
      have y1:=K2.cell 1 (.string p1) rfl
      have x2:=K1.cell 2 (.string p2) rfl
      have y2:=K2.cell 2 (.string p2) rfl
      have x3:=K1.cell 3 (.string p3) rfl
      have y3:=K2.cell 3 (.string p3) rfl
      have x4:=K1.cell 4 (.string p4) rfl
      have y4:=K2.cell 4 (.string p4) rfl
      have x5:=K1.cell 5 (.int .u64 (p5:Nat)) rfl
      have y5:=K2.cell 5 (.int .u64 (p5:Nat)) rfl
      have x6:=K1.cell 6 (.int .i64 p6) rfl
      have y6:=K2.cell 6 (.int .i64 p6) rfl
      have x9:=K1.cell 9 (.string p9) rfl
      have y9:=K2.cell 9 (.string p9) rfl
      have x10:=K1.cell 10 (.int .i64 p10) rfl
      have y10:=K2.cell 10 (.int .i64 p10) rfl
      have x11:=K1.cell 11 (.int .i64 p11) rfl
      have y11:=K2.cell 11 (.int .i64 p11) rfl
      have x12:=K1.cell 12 (.int .i64 p12) rfl
      have y12:=K2.cell 12 (.int .i64 p12) rfl
      have x13:=K1.cell 13 (.int .i64 p13) rfl
      have y13:=K2.cell 13 (.int .i64 p13) rfl
      have x7:=K1.cell 7 (.slice A1 p7.length c1) rfl
      have y7:=K2.cell 7 (.slice A3 q7.length c3) rfl
      clear hl K1 K2
      go_wp2_with fail
      go_meet
      case rel=>exact ⟨by rw [hF.out,show ((p7.length:Int) != (q7.length:Int))=true from by simpa using gl];rfl,rfl⟩
    · have hF:=Lib.hid (show sameH ⟨p0,p1,p2,p3,p4,p5,p6,p7,p8,p9,p10,p11,p12,p13⟩ ⟨p0,p1,p2,p3,p4,p5,p6,q7,q8,p9,p10,p11,p12,p13⟩=true by simp [sameH,hl])
      rw [hl] at K1
      have x0:=K1.cell 0 (.int .i64 p0) rfl
      have y0:=K2.cell 0 (.int .i64 p0) rfl
      have x1:=K1.cell 1 (.string p1) rfl
      have y1:=K2.cell 1 (.string p1) rfl
      have x2:=K1.cell 2 (.string p2) rfl
      have y2:=K2.cell 2 (.string p2) rfl
      have x3:=K1.cell 3 (.string p3) rfl
      have y3:=K2.cell 3 (.string p3) rfl
      have x4:=K1.cell 4 (.string p4) rfl
      have y4:=K2.cell 4 (.string p4) rfl
      have x5:=K1.cell 5 (.int .u64 (p5:Nat)) rfl
      have y5:=K2.cell 5 (.int .u64 (p5:Nat)) rfl
      have x6:=K1.cell 6 (.int .i64 p6) rfl
      have y6:=K2.cell 6 (.int .i64 p6) rfl
      have x9:=K1.cell 9 (.string p9) rfl
      have y9:=K2.cell 9 (.string p9) rfl
      have x10:=K1.cell 10 (.int .i64 p10) rfl
      have y10:=K2.cell 10 (.int .i64 p10) rfl
      have x11:=K1.cell 11 (.int .i64 p11) rfl
      have y11:=K2.cell 11 (.int .i64 p11) rfl
      have x12:=K1.cell 12 (.int .i64 p12) rfl
      have y12:=K2.cell 12 (.int .i64 p12) rfl
      have x13:=K1.cell 13 (.int .i64 p13) rfl
      have y13:=K2.cell 13 (.int .i64 p13) rfl
      have x7:=K1.cell 7 (.slice A1 q7.length c1) rfl
      have y7:=K2.cell 7 (.slice A3 q7.length c3) rfl
      clear hl K1 K2
      go_wp2_with fail
      go_meet
      case rel=>exact ⟨by rw [hF.out];rfl,rfl⟩
  case rest =>
    obtain ⟨rfl,hu⟩:=hcut
    obtain rfl:=hu.symm
    clear hu
    cases hH:sameH a b with
    | false =>
      have hF:=Lib.hid (show decide (a=b)=false from decide_eq_false (fun h=>by subst h;simp [sameH] at hH))
      have HBW:=Lib.hid hbw
      clear hH K1 K2 HA1 HA2 HB1 HB2 hbw
      go_wp2_with fail
      go_ret
      exact ⟨by rw [hF.out];rfl,HBW.out⟩
    | true =>
      have hl:a.toks.length=b.toks.length:=by simp [sameH] at hH;omega
      have hab:decide (a=b)=(decide (a.toks=b.toks) && decide (a.ents=b.ents)):=by
        obtain ⟨p0,p1,p2,p3,p4,p5,p6,p7,p8,p9,p10,p11,p12,p13⟩:=a
        obtain ⟨q0,q1,q2,q3,q4,q5,q6,q7,q8,q9,q10,q11,q12,q13⟩:=b
        simp [sameH] at hH
        simp only [AG.mk.injEq]
        by_cases h7:p7=q7<;>by_cases h8:p8=q8<;>simp_all
      have HAB:=Lib.hid hab
      have HK1:=Lib.hid K1
      have HK2:=Lib.hid K2
      have HBW:=Lib.hid hbw
      have HL:=Lib.hid hl
      clear hH hab K1 K2 hbw hl
      go_wp2_with fail
      go_loopw [5] (RSm w W a b) (fun v _=>a.toks.length - (intOf v).toNat)
      case atStart=>exact ⟨0,Nat.zero_le _,rfl,by simp,Below.refl _ _⟩
      case round =>
        obtain ⟨k,hk,rfl,heq,hb⟩:=hrel
        have x7:=(HK1.out.kept hb).cell 7 (.slice A1 a.toks.length c1) rfl
        have lt7:=(HA1.out).2.1
        have HWB:=Lib.hid (HBW.out.trans (hb.mono HBW.out.size))
        by_cases hlt:k<a.toks.length
        · have y7:=(HK2.out.kept hb).cell 7 (.slice A3 b.toks.length c3) rfl
          have kl:(k:Int)<(a.toks.length:Int):=by omega
          obtain ⟨x,hx⟩:=get_lt hlt
          obtain ⟨y,hy⟩:=get_lt (show k<b.toks.length by rw [←HL.out];exact hlt)
          obtain ⟨b1,o1,rfl,_,c0⟩:=Reads.str_at (HA1.out.kept HWB.out) hx
          obtain ⟨b2,o2,rfl,_,d0⟩:=Reads.str_at (HB1.out.kept HWB.out) hy
          rw [←HL.out] at y7
          have HEQ:=Lib.hid heq
          have HBB:=Lib.hid hb
          clear heq hb
          cases hq:(x.toList == y.toList) with
          | true =>
            have HXY:=Lib.hid (str_beq.1 hq)
            go_wp2_with fail
            go_quiet (fail)
            have hbq:Below wr.heap.size wr (wr.drewN nq):=⟨rfl,rfl,rfl,Nat.le_refl _,fun _ _=>rfl⟩
            go_wp2_with fail
            go_roundw
            case rel=>exact ⟨k+1,hlt,rfl,by rw [take_snoc hx,take_snoc hy,HEQ.out,HXY.out],HBB.out.trans (hbq.mono HBB.out.size)⟩
            case measure=>simp [intOf];omega
          | false =>
            have hxy:=str_beq_false.1 hq
            have hF:=Lib.hid (show decide (a=b)=false by
              rw [HAB.out,decide_eq_false (show ¬ a.toks=b.toks from fun h=>hxy (by rw [h] at hx;rw [hx] at hy;injection hy)),Bool.false_and])
            clear hxy
            go_wp2_with fail
            go_quiet (fail)
            have hbq:Below wr.heap.size wr (wr.drewN nq):=⟨rfl,rfl,rfl,Nat.le_refl _,fun _ _=>rfl⟩
            go_wp2_with fail
            go_ret
            exact ⟨by rw [hF.out];rfl,HWB.out.trans (hbq.mono HWB.out.size)⟩
        · have hK:k=a.toks.length:=by omega
          have hF:=Lib.hid (show decide (a=b)=decide (a.ents=b.ents) by
            have h1:a.toks.take k=a.toks:=List.take_of_length_le (by omega)
            have h2:b.toks.take k=b.toks:=List.take_of_length_le (by have:=HL.out;omega)
            rw [h1,h2] at heq
            rw [HAB.out,decide_eq_true heq,Bool.true_and])
          have kl:¬ (k:Int)<(a.toks.length:Int):=by omega
          have x8:=(HK1.out.kept hb).cell 8 (.slice A2 a.ents.length c2) rfl
          have y8:=(HK2.out.kept hb).cell 8 (.slice A4 b.ents.length c4) rfl
          have HC:=Lib.hid (ref_SameE _ _ a.ents b.ents wr (HA2.out.kept HWB.out) (HB2.out.kept HWB.out))
          clear heq hb hK
          go_wp2_with fail
          refine HC.out.mono ?_
          rintro e w2 ⟨rfl,hb2⟩
          have HB2:=Lib.hid (HWB.out.trans (hb2.mono HWB.out.size))
          clear hb2
          go_wp2_with fail
          go_ret
          exact ⟨by rw [hF.out];rfl,HB2.out⟩
end Go.Proofs.YtmdgeknnhckgfaaGreatDoor
