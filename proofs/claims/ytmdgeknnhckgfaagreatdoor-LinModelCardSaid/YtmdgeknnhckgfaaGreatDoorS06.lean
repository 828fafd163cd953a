/-
  Parts of the proof of the law LinModel: TxtR.
-/
import Derived.Test.YtmdgeknnhckgfaaGreatDoorS00
import Derived.Test.YtmdgeknnhckgfaaGreatDoorS01
set_option linter.unusedSimpArgs false
set_option linter.unusedVariables false
namespace Go.Proofs.YtmdgeknnhckgfaaGreatDoor
open Go Go.RowKit
def isRuneB (n:Int):Bool:=decide (0≤n) && decide (n≤1114111) && (decide (n<55296) || decide (57343<n))
theorem isRuneB_valid (n:Int):isRuneB n=Utf8.valid n:=by
  rw [Bool.eq_iff_iff]
  simp [isRuneB,Utf8.valid]
  omega
theorem ref_isRune (n:Int) (w:World):Calls Tryz.prog 76 #[.int .i64 n] w fun e w'=>e=.returned (.bool (isRuneB n))∧w'=w:=by
  unfold isRuneB
  go_enter Tryz.func76,Tryz.ntmps76
  go_wp2_with fail
  all_goals
    go_ret
    refine ⟨?_,rfl⟩
    simp [*]
    try omega
theorem conv_new (w:World) (l:List Int) (h:∀ x∈l,0≤x∧x<256):(convert 123 9 (.slice (some ⟨w.heap.size,0,none⟩) l.length l.length)).run Tryz.prog (w.alloc (.cells (l.map (Value.int .u8)).toArray 5))=.ok (.string (strOfNums l)) (w.alloc (.cells (l.map (Value.int .u8)).toArray 5)):=by
  have hb:=Blk.new w (l.map (Value.int .u8)).toArray 5
  exact run_convert_bytes_arg (P:=Tryz.prog) _ 123 5 Tryz.underlying123 Tryz.underlying5 w.heap.size 0 l.length l.length l rfl (fun i hi=>by
    rw [Nat.zero_add]
    refine hb.cell _ _ ?_
    simp [List.getD,hi]) 9 Tryz.underlying9
def encL (n:Int):List Int :=
  if n<128 then [n] else if n<2048 then [192+n / 64,128+n % 64] else if n<65536 then [224+n / 4096,128+n / 64 % 64,128+n % 64]
  else [240+n / 262144,128+n / 4096 % 64,128+n / 64 % 64,128+n % 64]
theorem encL_eq (n:Int) (h:Utf8.valid n=true):strOfNums (encL n)=Utf8.encode n:=by
  have hr:=Dec.enc_of h
  obtain ⟨m,rfl⟩:∃ m:Nat,n=m:=⟨n.toNat,by omega⟩
  simp only [Utf8.encode,h,if_true,Int.toNat_natCast,encL]
  apply ByteArray.ext
  have e0:((m:Int)).toNat=m:=by omega
  have e1:(192+(m:Int) / 64).toNat=192+m / 64:=by omega
  have e2:(128+(m:Int) % 64).toNat=128+m % 64:=by omega
  have e3:(224+(m:Int) / 4096).toNat=224+m / 4096:=by omega
  have e4:(128+(m:Int) / 64 % 64).toNat=128+m / 64 % 64:=by omega
  have e5:(240+(m:Int) / 262144).toNat=240+m / 262144:=by omega
  have e6:(128+(m:Int) / 4096 % 64).toNat=128+m / 4096 % 64:=by omega
  by_cases h1:m<128
  · rw [if_pos (by omega),if_pos h1];simp only [strOfNums,List.map_cons,List.map_nil,e0]
  rw [if_neg (by omega),if_neg h1]
  by_cases h2:m<2048
  · rw [if_pos (by omega),if_pos h2];simp only [strOfNums,List.map_cons,List.map_nil,e1,e2]
  rw [if_neg (by omega),if_neg h2]
  by_cases h3:m<65536
  · rw [if_pos (by omega),if_pos h3];simp only [strOfNums,List.map_cons,List.map_nil,e2,e3,e4]
  rw [if_neg (by omega),if_neg h3]
  simp only [strOfNums,List.map_cons,List.map_nil,e2,e4,e5,e6]
set_option maxRecDepth 100000 in
set_option maxHeartbeats 1000000 in
theorem ref_bytes (n:Int) (h0:0≤n) (h9:n≤1114111) (w:World):Calls Tryz.prog 77 #[.int .i64 n] w fun e w'=>e=.returned (.string (strOfNums (encL n)))∧Below w.heap.size w w':=by
  have hv:=conv_new w (encL n) (by intro x hx;unfold encL at hx;split at hx<;>(try split at hx)<;>(try split at hx)<;>simp at hx<;>omega)
  obtain ⟨S,hS⟩:∃ S,strOfNums (encL n)=S:=⟨_,rfl⟩
  rw [hS] at hv ⊢
  unfold encL at hv
  clear hS
  have u8:∀ x:Int,0≤x→x<256→IntKind.u8.wrap x=x:=fun x a b=>by rw [IntKind.wrap_u8];omega
  by_cases h1:n<128
  · rw [if_pos h1] at hv
    have w1:=u8 n h0 (by omega)
    simp only [List.map_cons,List.map_nil,List.length_cons,List.length_nil,Nat.zero_add,Nat.reduceAdd] at hv
    go_enter Tryz.func77,Tryz.ntmps77
    go_wp2_with fail
    go_ret
    exact ⟨rfl,(Below.refl _ _).alloc (Nat.le_refl _) _⟩
  rw [if_neg h1] at hv
  by_cases h2:n<2048
  · rw [if_pos h2] at hv
    have w1:=u8 (192+n / 64) (by omega) (by omega)
    have w2:=u8 (128+n % 64) (by omega) (by omega)
    simp only [List.map_cons,List.map_nil,List.length_cons,List.length_nil,Nat.zero_add,Nat.reduceAdd] at hv
    go_enter Tryz.func77,Tryz.ntmps77
    go_wp2_with fail
    go_ret
    exact ⟨rfl,(Below.refl _ _).alloc (Nat.le_refl _) _⟩
  rw [if_neg h2] at hv
  by_cases h3:n<65536
  · rw [if_pos h3] at hv
    have w1:=u8 (224+n / 4096) (by omega) (by omega)
    have w2:=u8 (128+n / 64 % 64) (by omega) (by omega)
    have w3:=u8 (128+n % 64) (by omega) (by omega)
    simp only [List.map_cons,List.map_nil,List.length_cons,List.length_nil,Nat.zero_add,Nat.reduceAdd] at hv
    go_enter Tryz.func77,Tryz.ntmps77
    go_wp2_with fail
    go_ret
    exact ⟨rfl,(Below.refl _ _).alloc (Nat.le_refl _) _⟩
  rw [if_neg h3] at hv
  have w1:=u8 (240+n / 262144) (by omega) (by omega)
  have w2:=u8 (128+n / 4096 % 64) (by omega) (by omega)
  have w3:=u8 (128+n / 64 % 64) (by omega) (by omega)
  have w4:=u8 (128+n % 64) (by omega) (by omega)
  simp only [List.map_cons,List.map_nil,List.length_cons,List.length_nil,Nat.zero_add,Nat.reduceAdd] at hv
  go_enter Tryz.func77,Tryz.ntmps77
  go_wp2_with fail
  go_ret
  exact ⟨rfl,(Below.refl _ _).alloc (Nat.le_refl _) _⟩
end Go.Proofs.YtmdgeknnhckgfaaGreatDoor
