/- bit: part by part. -/
import Derived.Test.YtjhdodkagchhkaaGreatDoorRailA
import Derived.Test.YtjhdodkagchhkaaGreatDoorAC7C11
set_option linter.unusedSimpArgs false
set_option linter.unusedVariables false
namespace Go.Rail
open Go Go.Proofs Tryz
set_option maxHeartbeats 400000
set_option maxRecDepth 4000
attribute [local irreducible] OpK G W LW wpListIn Exit.then Exit.inBlock Post rounds opRun bodyPostM intOp
set_option maxHeartbeats 4000000
attribute [local irreducible] lexN cmpW Word.nat subW mulW
abbrev pt (n i:Nat):Nat:=n/18446744073709551616^i%18446744073709551616
theorem each_spec (f:FuncId) [HasFn prog f] (g:Nat→Nat→Nat) (hf : ∀ p q:Nat,p<18446744073709551616→q<18446744073709551616→FnV prog f [.int .u64 (p:Int),.int .u64 (q:Int)] [] (.int .u64 ((g p q:Nat):Int))) (x y:Nat) :
  FnV prog 207 [.agg (numC 4 x).toArray,.agg (numC 4 y).toArray,.func (.func f) #[] #[]] [] (.agg [.int .u64 ((g (pt x 0) (pt y 0):Nat):Int),.int .u64 ((g (pt x 1) (pt y 1):Nat):Int),.int .u64 ((g (pt x 2) (pt y 2):Nat):Int),.int .u64 ((g (pt x 3) (pt y 3):Nat):Int)].toArray):=by
 have hf' : ∀ n m:Nat,FnV prog f [.int .u64 ((n%18446744073709551616:Nat):Int),.int .u64 ((m%18446744073709551616:Nat):Int)] [] (.int .u64 ((g (n%18446744073709551616) (m%18446744073709551616):Nat):Int)):=fun n m=>hf _ _ (Nat.mod_lt _ oE) (Nat.mod_lt _ oE)
 refine Fn.enter func207 rfl ntmps207 oI (fun I0 w0 => ?_)
 repeat refine st ?_;try intro
 refine W.loopN 5 ?_
 iterate 4
  repeat refine st ?_;try intro
  refine W.drawA 9 [dq _,dq _,dq _,dq _,dq _,dq _,dq _,dq _,dq _] [[],[],[],[2],[3],[],[5],[6],[1,4,7]] [0,8] (hrest:=fun c=>nrm ?_) (hops:=by
   iterate 8 refine AllQ.au ?_
   refine AllQ.mk (by intro c z0 Φr Lr K;refine nrm ?_;intro hK;refine cV (hf' _ _) ?_;exact hK z0) ?_
   exact AllQ.nil)
  repeat refine st ?_;try intro
 repeat refine st ?_;try intro
 refine G.retV ?_
 rfl
theorem pt_and (x y i:Nat):pt (x&&&y) i=pt x i&&&pt y i:=by
 simp only [pt,show (18446744073709551616:Nat)=2^64 from rfl,← Nat.pow_mul,Nat.and_mod_two_pow,← Nat.shiftRight_eq_div_pow,Nat.shiftRight_and_distrib]
theorem pt_or (x y i:Nat):pt (x|||y) i=pt x i|||pt y i:=by
 simp only [pt,show (18446744073709551616:Nat)=2^64 from rfl,← Nat.pow_mul,Nat.or_mod_two_pow,← Nat.shiftRight_eq_div_pow,Nat.shiftRight_or_distrib]
theorem pt_xor (x y i:Nat):pt (x^^^y) i=pt x i^^^pt y i:=by
 simp only [pt,show (18446744073709551616:Nat)=2^64 from rfl,← Nat.pow_mul,Nat.xor_mod_two_pow,← Nat.shiftRight_eq_div_pow,Nat.shiftRight_xor_distrib]
theorem numC_pt (n:Nat):numC 4 n=[.int .u64 ((pt n 0:Nat):Int),.int .u64 ((pt n 1:Nat):Int),.int .u64 ((pt n 2:Nat):Int),.int .u64 ((pt n 3:Nat):Int)]:=rfl
theorem v_pt {n p q r s:Nat} (hp:p=pt n 0) (hq:q=pt n 1) (hr:r=pt n 2) (hs:s=pt n 3):Value.agg [.int .u64 (p:Int),.int .u64 (q:Int),.int .u64 (r:Int),.int .u64 (s:Int)].toArray=(Word.nat n).v:=by
 rw [v_nat,numC_pt,hp,hq,hr,hs]
def andW (a b:Word):Word := .nat (a.num&&&b.num)
def orW (a b:Word):Word := .nat (a.num|||b.num)
def xorW (a b:Word):Word := .nat (a.num^^^b.num)
def notW (a:Word):Word := .nat (top256-1-a.num)
theorem and1_spec (p q:Nat) (hp:p<18446744073709551616) (hq:q<18446744073709551616):FnV prog 220 [.int .u64 (p:Int),.int .u64 (q:Int)] [] (.int .u64 ((p&&&q:Nat):Int)):=by
 refine Fn.enter func220 rfl ntmps220 oI (fun I0 w0 => ?_)
 repeat refine st ?_;try intro
 refine G.retV ?_
 rfl
theorem or1_spec (p q:Nat) (hp:p<18446744073709551616) (hq:q<18446744073709551616):FnV prog 221 [.int .u64 (p:Int),.int .u64 (q:Int)] [] (.int .u64 ((p|||q:Nat):Int)):=by
 refine Fn.enter func221 rfl ntmps221 oI (fun I0 w0 => ?_)
 repeat refine st ?_;try intro
 refine G.retV ?_
 rfl
theorem xor1_spec (p q:Nat) (hp:p<18446744073709551616) (hq:q<18446744073709551616):FnV prog 222 [.int .u64 (p:Int),.int .u64 (q:Int)] [] (.int .u64 ((p^^^q:Nat):Int)):=by
 refine Fn.enter func222 rfl ntmps222 oI (fun I0 w0 => ?_)
 repeat refine st ?_;try intro
 refine G.retV ?_
 rfl
theorem not1_spec (p q:Nat) (hp:p<18446744073709551616) (hq:q<18446744073709551616):FnV prog 208 [.int .u64 (p:Int),.int .u64 (q:Int)] [] (.int .u64 ((18446744073709551616-1-p:Nat):Int)):=by
 refine Fn.enter func208 rfl ntmps208 oI (fun I0 w0 => ?_)
 repeat refine st ?_;try intro
 refine o_bnot rfl rfl rfl hp ?_
 repeat refine st ?_;try intro
 refine G.retV ?_
 rfl
theorem band_spec (a b:Word):FnV prog 124 [a.v,b.v] [] (andW a b).v:=by
 have hc:=each_spec 220 (fun p q=>p&&&q) and1_spec a.num b.num
 rw [v_num a,v_num b]
 refine Fn.enter func124 rfl ntmps124 oI (fun I0 w0 => ?_)
 repeat refine st ?_;try intro
 refine o_callV rfl rfl rfl rfl hc (v_pt (n:=a.num&&&b.num) (pt_and _ _ _).symm (pt_and _ _ _).symm (pt_and _ _ _).symm (pt_and _ _ _).symm) ?_
 repeat refine st ?_;try intro
 refine G.retV ?_
 rfl
theorem bor_spec (a b:Word):FnV prog 125 [a.v,b.v] [] (orW a b).v:=by
 have hc:=each_spec 221 (fun p q=>p|||q) or1_spec a.num b.num
 rw [v_num a,v_num b]
 refine Fn.enter func125 rfl ntmps125 oI (fun I0 w0 => ?_)
 repeat refine st ?_;try intro
 refine o_callV rfl rfl rfl rfl hc (v_pt (n:=a.num|||b.num) (pt_or _ _ _).symm (pt_or _ _ _).symm (pt_or _ _ _).symm (pt_or _ _ _).symm) ?_
 repeat refine st ?_;try intro
 refine G.retV ?_
 rfl
theorem bxor_spec (a b:Word):FnV prog 126 [a.v,b.v] [] (xorW a b).v:=by
 have hc:=each_spec 222 (fun p q=>p^^^q) xor1_spec a.num b.num
 rw [v_num a,v_num b]
 refine Fn.enter func126 rfl ntmps126 oI (fun I0 w0 => ?_)
 repeat refine st ?_;try intro
 refine o_callV rfl rfl rfl rfl hc (v_pt (n:=a.num^^^b.num) (pt_xor _ _ _).symm (pt_xor _ _ _).symm (pt_xor _ _ _).symm (pt_xor _ _ _).symm) ?_
 repeat refine st ?_;try intro
 refine G.retV ?_
 rfl
theorem bnot_spec (a:Word):FnV prog 107 [a.v] [] (notW a).v:=by
 have ha:=a.num_lt
 have hc:=each_spec 208 (fun p _=>18446744073709551616-1-p) not1_spec a.num a.num
 rw [v_num a]
 simp only [top256] at ha
 refine Fn.enter func107 rfl ntmps107 oI (fun I0 w0 => ?_)
 repeat refine st ?_;try intro
 refine o_callV rfl rfl rfl rfl hc (v_pt (n:=top256-1-a.num) ?_ ?_ ?_ ?_) ?_
 ·simp only [pt,top256];omega
 ·simp only [pt,top256];omega
 ·simp only [pt,top256];omega
 ·simp only [pt,top256];omega
 repeat refine st ?_;try intro
 refine G.retV ?_
 rfl
instance (a b:Word) {Φ:List Fa}:CV prog 124 [a.v,b.v] Φ (andW a b).v:=⟨Fn.weaken (band_spec a b)⟩
instance (a:Word) {Φ:List Fa}:CV prog 107 [a.v] Φ (notW a).v:=⟨Fn.weaken (bnot_spec a)⟩
instance (a:Word) {Φ:List Fa}:CV prog 224 [a.v] Φ (.bool (negW a)):=⟨Fn.weaken (below_spec a)⟩
end Go.Rail
