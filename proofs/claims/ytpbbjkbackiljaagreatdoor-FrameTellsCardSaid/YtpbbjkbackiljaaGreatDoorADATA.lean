/- The document's numbers: shifts, bytes, signs. -/
import Derived.Test.YtpbbjkbackiljaaGreatDoorRailA
import Derived.Test.YtpbbjkbackiljaaGreatDoorRailI
import Derived.Test.YtpbbjkbackiljaaGreatDoorAC10D9
import Derived.Test.YtpbbjkbackiljaaGreatDoorAK2K4
set_option linter.unusedSimpArgs false
set_option linter.unusedVariables false
namespace Go.Rail
open Go Go.Proofs Tryz
set_option maxHeartbeats 400000
set_option maxRecDepth 4000
attribute [local irreducible] OpK G W LW wpListIn Exit.then Exit.inBlock Post rounds opRun bodyPostM intOp
set_option maxHeartbeats 4000000
attribute [local irreducible] Word.num Word.nat
theorem bt_num {x i:Nat} (hi:i<256):bt (Word.nat x).num i=bt x i:=by
 rw [Word.num_nat,show top256=2^256 from by kernel_rfl]
 exact dig_mod oE hi
theorem bt_mul (x n i:Nat):bt (x*2^n) i=if n≤i then bt x (i-n) else 0:=by
 rw [bt_test,← Nat.shiftLeft_eq,Nat.testBit_shiftLeft]
 by_cases h:n≤i
 ·rw [if_pos h,decide_eq_true h,Bool.true_and,bt_test]
 ·rw [if_neg h,decide_eq_false h,Bool.false_and];rfl
theorem bt_div (x n i:Nat):bt (x/2^n) i=bt x (i+n):=by
 show x/2^n/2^i%2=x/2^(i+n)%2
 rw [Nat.div_div_eq_div_mul,← Nat.pow_add,Nat.add_comm]
theorem shr_bits (a:Word) (n i:Nat) (hi:i<256):bt (a.num/2^n) i=mvF a.num (-(n:Int)) 0 i:=by
 rw [bt_div]
 unfold mvF
 by_cases h:i+n<256
 ·rw [if_pos oM,show ((i:Int) - -(n:Int)).toNat=i+n from by omega]
 ·rw [if_neg oM,bt_top a.num_lt oM]
theorem rshl_spec (b a:Word):FnV prog 222 [b.v,a.v] [] (shlW b a).v:=by
 have hs:=small_spec b 256 oE
 have h:=moved_spec a ((min b.num 256:Nat):Int) 0 oM oE
 rw [sum_bits (y:=a.num*2^min b.num 256) (fun i hi=>by
  rw [bt_mul]
  unfold mvF
  by_cases h:min b.num 256≤i
  ·rw [if_pos h,if_pos oM,show ((i:Int)-((min b.num 256:Nat):Int)).toNat=i-min b.num 256 from by omega]
  ·rw [if_neg h,if_neg oM])] at h
 refine Fn.enter func222 rfl ntmps222 oI (fun I0 w0 => ?_)
 repeat refine sq ?_;try intro
 refine W.drawA 3 [dq _,dq _,dq _] [[],[],[1]] [0,2] (hrest:=fun c=>nrm ?_) (hops:=by
  iterate 2 refine AllQ.az ?_
  refine AllQ.mk (by intro c z0 Φr Lr K;refine nrm ?_;intro hK;refine cV hs ?_;exact hK z0) ?_
  exact AllQ.nil)
 repeat refine sq ?_;try intro
 refine cV h ?_
 repeat refine sq ?_;try intro
 refine G.retV ?_
 rfl
theorem rshr_spec (b a:Word):FnV prog 223 [b.v,a.v] [] (shrW b a).v:=by
 have hs:=small_spec b 256 oE
 have h:=moved_spec a (-((min b.num 256:Nat):Int)) 0 oM oE
 rw [sum_bits (y:=a.num/2^min b.num 256) (fun i hi=>shr_bits a _ i hi)] at h
 refine Fn.enter func223 rfl ntmps223 oI (fun I0 w0 => ?_)
 repeat refine sq ?_;try intro
 refine W.drawA 4 [dq _,dq _,dq _,dq _] [[],[],[1],[2]] [0,3] (hrest:=fun c=>nrm ?_) (hops:=by
  iterate 2 refine AllQ.az ?_
  refine AllQ.mk (by intro c z0 Φr Lr K;refine nrm ?_;intro hK;refine cV hs ?_;exact hK z0) ?_
  iterate 1 refine AllQ.az ?_
  exact AllQ.nil)
 repeat refine sq ?_;try intro
 refine cV h ?_
 repeat refine sq ?_;try intro
 refine G.retV ?_
 rfl
theorem neg_bt (a:Word):bt a.num 255=if negW a then 1 else 0:=by
 have h:=over_iff a
 have hl:=a.num_lt
 have e:negW a=decide (top256≤2*a.num):=decide_eq_decide.2 h
 rw [e]
 show a.num/2^255%2=_
 have e2:top256=2*2^255:=by kernel_rfl
 have hd:a.num/2^255<2:=Nat.div_lt_of_lt_mul (by rw [Nat.mul_comm,← e2];exact hl)
 rw [Nat.mod_eq_of_lt hd]
 by_cases h2:top256≤2*a.num
 ·rw [decide_eq_true h2,if_pos rfl]
  have:1≤a.num/2^255:=(Nat.le_div_iff_mul_le (Nat.pow_pos oE)).2 (by rw [e2] at h2;omega)
  omega
 ·rw [decide_eq_false h2,if_neg oE]
  exact Nat.div_eq_of_lt (by rw [e2] at h2;omega)
theorem not_bits (w:Word) {i:Nat} (hi:i<256):bt (notW w).num i=1-bt w.num i:=by
 unfold notW
 rw [bt_num hi,bt_test,bt_test,not_test w.num_lt hi]
 cases w.num.testBit i<;>rfl
theorem sar_bits (b a:Word) (i:Nat) (hi:i<256):bt (sarW b a).num i=mvF a.num (-((min b.num 256:Nat):Int)) (bt a.num 255) i:=by
 rw [neg_bt]
 unfold sarW
 cases hn:negW a
 ·rw [if_neg oE,if_neg oE]
  unfold shrW
  rw [bt_num hi,shr_bits a _ i hi]
 ·rw [if_pos rfl,if_pos rfl,not_bits _ hi]
  unfold shrW
  rw [bt_num hi,shr_bits (notW a) _ i hi]
  unfold mvF
  by_cases h:0≤(i:Int) - -((min b.num 256:Nat):Int)∧(i:Int) - -((min b.num 256:Nat):Int)<256
  ·rw [if_pos h,if_pos h,not_bits _ oM]
   have:=bt_lt a.num (((i:Int) - -((min b.num 256:Nat):Int)).toNat)
   omega
  ·rw [if_neg h,if_neg h]
theorem bits_given (w:Word):FnD prog 284 [w.v] [] (fun v=>[fRp v (rowN 256 (bt w.num))]):=Fn.given (bits_spec w)
theorem rsar_spec (b a:Word):FnV prog 224 [b.v,a.v] [] (sarW b a).v:=by
 have hs:=small_spec b 256 oE
 have h:=moved_spec a (-((min b.num 256:Nat):Int)) (bt a.num 255) oM (bt_lt _ _)
 rw [sum_bits (y:=(sarW b a).num) (fun i hi=>sar_bits b a i hi),Word.nat_num] at h
 refine Fn.enter func224 rfl ntmps224 oI (fun I0 w0 => ?_)
 repeat refine sq ?_;try intro
 refine W.drawA 8 [dq _,dq _,dq _,dq _,dq _,dk _,dk _,dq _] [[],[],[1],[2],[],[4],[5],[6]] [0,3,7] (hrest:=fun c=>nrm ?_) (hops:=by
  iterate 2 refine AllQ.az ?_
  refine AllQ.mk (by intro c z0 Φr Lr K;refine nrm ?_;intro hK;refine cV hs ?_;exact hK z0) ?_
  iterate 2 refine AllQ.az ?_
  refine AllQ.mk (by intro c z0 Φr Lr K;refine nrm ?_;intro hK;refine o_callD rfl rfl rfl rfl (bits_given a) ?_;exact hK) ?_
  iterate 2 refine AllQ.az ?_
  exact AllQ.nil)
 repeat refine sq ?_;try intro
 refine cV h ?_
 repeat refine sq ?_;try intro
 refine G.retV ?_
 rfl
theorem pow256 (k:Nat):(256:Nat)^k=2^(8*k):=by rw [show (256:Nat)=2^8 from rfl,← Nat.pow_mul]
theorem dgB (n k:Nat):(UInt8.ofNat (dg n k)).toNat=dg n k:=by
 rw [UInt8.toNat_ofNat']
 exact Nat.mod_eq_of_lt (Nat.mod_lt _ oE)
def bD (n k:Nat):Nat:=(UInt8.ofNat (dg n k)).toNat
instance fvBD (n k:Nat):FV (.int .u8 ((bD n k:Nat):Int)) UInt8 (UInt8.ofNat (dg n k)):=⟨rfl⟩
theorem rbytes_spec (a:Word):FnV prog 28 [a.v] [] (.string (ba (byN a.num))):=by
 have hlen:=byN_len a.num
 refine Fn.enter func28 rfl ntmps28 oI (fun I0 w0 => ?_)
 repeat refine sq ?_;try intro
 rename_i b1
 refine o_callO rfl rfl rfl rfl (digits_spec a) ?_
 intro vx ox hox
 refine G.giveOwn2 vx (rowN 32 (dg a.num)) ox 3 hox oY oP ?_
 rw [show rowN 32 (dg a.num)=rowN 32 (bD a.num) from rowZ_congr (fun k _=>congrArg Int.ofNat (dgB a.num k).symm)]
 repeat refine sq ?_;try intro
 refine W.lp (S:=Nat × Value × OR) (fun s=>([fRow (ocells s.2.2) ((byN a.num).take (32-s.1)),fRp vx (rowN 32 (bD a.num))],[(5,.int .i64 ((s.1:Int)-1)),(4,s.2.1),(3,vx)],ownM 5 s.2.2)) (fun s=>s.1≤32∧IsOwn 1 s.2.1 ((byN a.num).take (32-s.1)).length s.2.2) (fun s=>s.1) (32,.slice none 0 0,none) ?_ (h0:=⟨Nat.le_refl _,rfl,rfl⟩) (hM:=List.nil_sublist _) (hΦ:=by show Ents _ [fRow [] ([]:List UInt8),fRp vx (rowN 32 (bD a.num))];infer_instance)
 rintro ⟨s,w,o⟩ ⟨hi,hown⟩
 dsimp only at hi hown ⊢
 cases s with
 | zero =>
  rw [Nat.sub_zero,← hlen,List.take_length] at hown ⊢
  refine W.bare (G.giveOwn2 (Mr:=[]) w (byN a.num) o 5 hown oY oP ?_)
  refine G.code ?_
  repeat refine sq ?_;try intro
  refine G.retV ?_
  rfl
 | succ m =>
  have hb:bD a.num m<256:=(UInt8.ofNat (dg a.num m)).toNat_lt
  have he:(byN a.num).take (32-m)=(byN a.num).take (32-(m+1))++[UInt8.ofNat (dg a.num m)]:=by
   have h1:=byN_at a.num (32-(m+1)) oM
   obtain ⟨h2,h3⟩:=List.getElem?_eq_some_iff.1 h1
   rw [show 32-m=32-(m+1)+1 from by omega,List.take_succ_eq_append_getElem h2,h3,show 31-(32-(m+1))=m from by omega,← pow256]
  have hl2:((byN a.num).take (32-(m+1))).length=31-m:=by rw [List.length_take];omega
  rw [show ((m+1:Nat):Int)-1=(m:Int) from by omega]
  repeat refine sq ?_;try intro
  refine o_app2 (Mr:=[]) o (xs:=(byN a.num).take (32-(m+1))) (ys:=[UInt8.ofNat (dg a.num m)]) hown ⟨by simp [hl2];omega,by simp [hl2];omega,rfl⟩ rfl rfl rfl rfl oY oY oP ?_
  intro w' o' hown'
  rw [← he] at hown' ⊢
  dsimp only [List.nil_append]
  repeat refine sq ?_;try intro
  exact G.ag (S:=Nat × Value × OR) (m,w',o') (hpre:=⟨by dsimp only;omega,hown'⟩)
theorem of_nat0 (t:Nat) (ht:t<256):Word.of (t:Int)=Word.nat t:=by
 have h : ∀ k:Fin 256,Word.of ((k.val:Nat):Int)=Word.nat k.val:=by decide +kernel
 exact h ⟨t,ht⟩
theorem rbyte_spec (a b:Word):FnV prog 221 [a.v,b.v] [] (byteW a b).v:=by
 have hl:=small_spec a 32 oE
 have hb:=rbytes_spec b
 refine Fn.enter func221 rfl ntmps221 oI (fun I0 w0 => ?_)
 by_cases h:32≤a.num
 ·rw [show min a.num 32=32 from by omega] at hl
  repeat refine sq ?_;try intro
  refine cV hl ?_
  repeat refine sq ?_;try intro
  refine G.retV ?_
  rw [byteW,if_pos h];rfl
 ·rw [show min a.num 32=a.num from by omega] at hl
  obtain ⟨hlt,he⟩:=List.getElem?_eq_some_iff.1 (byN_at b.num a.num oM)
  have hof:=of_spec ((b.num/2^(8*(31-a.num))%256:Nat):Int)
  have e1:(UInt8.ofNat (b.num/2^(8*(31-a.num))%256)).toNat=b.num/2^(8*(31-a.num))%256:=by
   rw [UInt8.toNat_ofNat',Nat.mod_mod]
  have hlt2:b.num/2^(8*(31-a.num))%256<256:=Nat.mod_lt _ oE
  have hw:Word.of ((b.num/2^(8*(31-a.num))%256:Nat):Int)=Word.nat (b.num/2^(8*(31-a.num))%256):=by
   generalize b.num/2^(8*(31-a.num))%256=t at hlt2
   exact of_nat0 t oM
  rw [hw] at hof
  repeat refine sq ?_;try intro
  refine cV hl ?_
  repeat refine sq ?_;try intro
  refine cV hb ?_
  repeat refine sq ?_;try intro
  rw [he,e1]
  repeat refine sq ?_;try intro
  refine G.retV ?_
  rw [byteW,if_neg h,← hw];rfl
end Go.Rail
namespace Go.Rail
open Go Go.Proofs
set_option maxHeartbeats 400000
set_option maxRecDepth 4000
attribute [local irreducible] OpK G W LW wpListIn Exit.then Exit.inBlock Post rounds opRun bodyPostM intOp
theorem bt_xor (x y z:Nat):bt (x^^^y) z=(bt x z+bt y z)%2:=by
 rw [bt_test,bt_test,bt_test,Nat.testBit_xor]
 cases x.testBit z<;>cases y.testBit z<;>rfl
theorem bt_rot {a k z:Nat} (ha:a<18446744073709551616) (hz:z<64):bt (rotN a k) z=bt a ((z+64-k%64)%64):=by
 have hk:k%64<64:=Nat.mod_lt _ oE
 unfold rotN
 generalize k%64=r at hk ⊢
 rw [bt_test,bt_test,Nat.testBit_or,show (18446744073709551616:Nat)=2^64 from rfl,Nat.testBit_mod_two_pow,← Nat.shiftLeft_eq,Nat.testBit_shiftLeft,Nat.testBit_div_two_pow,decide_eq_true hz,Bool.true_and]
 by_cases h:r≤z
 ·have hf:a.testBit (z+(64-r))=false:=Nat.testBit_lt_two_pow (Nat.lt_of_lt_of_le ha (show (2:Nat)^64≤2^(z+(64-r)) from Nat.pow_le_pow_right oE oM))
  rw [hf,Bool.or_false,decide_eq_true h,Bool.true_and,show (z+64-r)%64=z-r from by omega]
 ·rw [decide_eq_false h,Bool.false_and,Bool.false_or,show (z+64-r)%64=z+(64-r) from by omega]
theorem bt_not {w z:Nat} (hw:w<18446744073709551616) (hz:z<64):bt (18446744073709551615-w) z=1-bt w z:=by
 rw [bt_test,bt_test,show 18446744073709551615-w=2^64-(w+1) from by omega,Nat.testBit_two_pow_sub_succ (n:=64) hw,decide_eq_true hz,Bool.true_and]
 cases w.testBit z<;>rfl
theorem bt_and (x y z:Nat):bt (x&&&y) z=bt x z*bt y z:=by
 rw [bt_test,bt_test,bt_test,Nat.testBit_and]
 cases x.testBit z<;>cases y.testBit z<;>rfl
def tsB (A:Nat→Nat→Nat) (x z:Nat):Nat→Nat
 | 0=>0
 | y+1=>tsB A x z y+A (5*y+x) z
def tcB (A:Nat→Nat→Nat) (x z:Nat):Nat:=tsB A x z 5%2
def thB (A:Nat→Nat→Nat) (k z:Nat):Nat:=(A k z+(tcB A ((k%5+4)%5) z+tcB A ((k%5+1)%5) ((z+63)%64)))%2
def rhB (A:Nat→Nat→Nat):Nat→Nat→Nat→Nat
 | 0=>A
 | t+1=>fun k z=>if k=5*(xyT t).2+(xyT t).1 then A k ((z+64-(t+1)*(t+2)/2%64)%64) else rhB A t k z
def piB (A:Nat→Nat→Nat) (k z:Nat):Nat:=A (5*(k%5)+(k%5+3*(k/5))%5) z
def chB (A:Nat→Nat→Nat) (k z:Nat):Nat:=(A k z+(A (5*(k/5)+(k%5+1)%5) z+1)%2*A (5*(k/5)+(k%5+2)%5) z)%2
def lfB:Nat→Nat→Nat
 | 0=>fun k=>if k=0 then 1 else 0
 | t+1=>fun k=>if k=0 then (0+lfB t 7)%2 else if k=4 then (lfB t 3+lfB t 7)%2 else if k=5 then (lfB t 4+lfB t 7)%2 else if k=6 then (lfB t 5+lfB t 7)%2 else lfB t (k-1)
def rcB (t:Nat):Nat:=lfB t 0
def ioB (A:Nat→Nat→Nat) (i:Nat):Nat→Nat→Nat→Nat
 | 0=>A
 | j+1=>fun k z=>if k=0∧z=2^j-1 then (ioB A i j 0 z+rcB (j+7*i))%2 else ioB A i j k z
def OnB (a:Nat→Nat) (A:Nat→Nat→Nat):Prop:=∀ k<25,∀ z<64,A k z=bt (a k) z
theorem thA_at (a:Nat→Nat) (k:Nat) : ∀ i,thA a i k=if k<i then a k^^^(thC a 25 ((k%5+5-1)%5)^^^rotN (thC a 25 ((k%5+1)%5)) 1) else a k
 | 0=>by rw [if_neg (Nat.not_lt_zero _)];rfl
 | i+1=>by
  show (if k=i then _ else _)=_
  by_cases h:k=i
  ·subst h
   rw [if_pos rfl,if_pos (Nat.lt_succ_self _),thA_at a k k,if_neg (Nat.lt_irrefl _)]
  ·rw [if_neg h,thA_at a k i]
   by_cases h2:k<i
   ·rw [if_pos h2,if_pos oM]
   ·rw [if_neg h2,if_neg oM]
theorem thC_at (a:Nat→Nat) : ∀ x<5,thC a 25 x=(((((0^^^a x)^^^a (x+5))^^^a (x+10))^^^a (x+15))^^^a (x+20))
 | 0,_=>rfl
 | 1,_=>rfl
 | 2,_=>rfl
 | 3,_=>rfl
 | 4,_=>rfl
 | n+5,h=>absurd h oM
theorem tc_ok {a:Nat→Nat} {A:Nat→Nat→Nat} (h:OnB a A) {x z:Nat} (hx:x<5) (hz:z<64):tcB A x z=bt (thC a 25 x) z:=by
 unfold tcB
 simp only [tsB]
 rw [show 5*0+x=x from by omega,show 5*1+x=x+5 from by omega,show 5*2+x=x+10 from by omega,show 5*3+x=x+15 from by omega,show 5*4+x=x+20 from by omega,thC_at a x hx,bt_xor,bt_xor,bt_xor,bt_xor,bt_xor,h x oM z hz,h (x+5) oM z hz,h (x+10) oM z hz,h (x+15) oM z hz,h (x+20) oM z hz,show bt 0 z=0 from by unfold bt;rw [Nat.zero_div]]
 omega
theorem th_ok {a:Nat→Nat} {A:Nat→Nat→Nat} (ha : ∀ k,a k<18446744073709551616) (h:OnB a A):OnB (thA a 25) (thB A):=by
 intro k hk z hz
 unfold thB
 rw [thA_at,if_pos hk,bt_xor,bt_xor,bt_rot (thC_lt a ha 25 _) hz,h k hk z hz,tc_ok h (Nat.mod_lt _ oE) hz,tc_ok h (Nat.mod_lt _ oE) (Nat.mod_lt _ oE),show (k%5+5-1)%5=(k%5+4)%5 from by omega,show (z+64-1%64)%64=(z+63)%64 from by omega]
 omega
def xyL:List (Nat × Nat):=[(1,0),(0,2),(2,1),(1,2),(2,3),(3,3),(3,0),(0,1),(1,3),(3,1),(1,4),(4,4),(4,0),(0,3),(3,4),(4,3),(3,2),(2,2),(2,0),(0,4),(4,2),(2,4),(4,1),(1,1),(1,0),(0,2)]
def xyG (t:Nat):Nat × Nat:=xyL.getD t (0,0)
theorem xyG_s : ∀ t<25,((xyG t).2,(2*(xyG t).1+3*(xyG t).2)%5)=xyG (t+1):=of_decide_eq_true kR
theorem xyT_G : ∀ t≤25,xyT t=xyG t
 | 0,_=>rfl
 | t+1,h=>by
  show ((xyT t).2,(2*(xyT t).1+3*(xyT t).2)%5)=_
  rw [xyT_G t oM]
  exact xyG_s t oM
def dsT (t:Nat):Nat:=5*((xyG (t+1)).2%5)+(xyG t).2%5
def srG (t:Nat):Nat:=5*((xyG t).2%5)+(xyG t).1%5
theorem srG_eq : ∀ t<24,5*(xyG t).2+(xyG t).1=srG t:=of_decide_eq_true kR
def srT:List Nat:=[0,6,12,18,24,3,9,10,16,22,1,7,13,19,20,4,5,11,17,23,2,8,14,15,21]
theorem sr_ok : ∀ k<25,5*(k%5)+(k%5+3*(k/5))%5=srT.getD k 0:=of_decide_eq_true kR
theorem sr_lt : ∀ k<25,srT.getD k 0<25:=of_decide_eq_true kR
def tiT (k:Nat):Nat:=[0,23,17,5,11,6,22,1,8,21,0,2,16,15,19,12,7,3,4,14,18,9,20,13,10].getD k 0
theorem ti_ok : ∀ k<25,k≠0→dsT (tiT k)=k∧tiT k<24∧srG (tiT k)=srT.getD k 0:=of_decide_eq_true kR
theorem ds_one : ∀ t<24,∀ t'<24,t<t'→dsT t'≠dsT t∧srG t'≠srG t:=of_decide_eq_true kR
theorem ds_nz : ∀ t<24,0≠dsT t∧0≠srG t:=of_decide_eq_true kR
theorem tuL_s (a:Nat→Nat) (t k:Nat) (h:t<24):tuL a (t+1) k=if k=dsT t then rotN (a (srG t)) ((t+1)*(t+2)/2) else tuL a t k:=by
 show (if k=5*((xyT (t+1)).2%5)+(xyT t).2%5 then rotN (a (5*((xyT t).2%5)+(xyT t).1%5)) ((t+1)*(t+2)/2) else tuL a t k)=_
 rw [xyT_G t oM,xyT_G (t+1) oM]
 rfl
theorem rhB_s (A:Nat→Nat→Nat) (t k z:Nat) (h:t<24):rhB A (t+1) k z=if k=srG t then A k ((z+64-(t+1)*(t+2)/2%64)%64) else rhB A t k z:=by
 show (if k=5*(xyT t).2+(xyT t).1 then A k ((z+64-(t+1)*(t+2)/2%64)%64) else rhB A t k z)=_
 rw [xyT_G t oM,srG_eq t h]
theorem tu_hit (a:Nat→Nat) (t:Nat) : ∀ n,t<n→n≤24→tuL a n (dsT t)=rotN (a (srG t)) ((t+1)*(t+2)/2)
 | 0,h,_=>absurd h (Nat.not_lt_zero _)
 | n+1,h,h2=>by
  rw [tuL_s a n _ oM]
  by_cases e:t=n
  ·subst e;rw [if_pos rfl]
  ·rw [if_neg (fun q=>(ds_one t oM n oM oM).1 q.symm)]
   exact tu_hit a t n oM oM
theorem rh_hit (A:Nat→Nat→Nat) (t z:Nat) : ∀ n,t<n→n≤24→rhB A n (srG t) z=A (srG t) ((z+64-(t+1)*(t+2)/2%64)%64)
 | 0,h,_=>absurd h (Nat.not_lt_zero _)
 | n+1,h,h2=>by
  rw [rhB_s A n _ z oM]
  by_cases e:t=n
  ·subst e;rw [if_pos rfl]
  ·rw [if_neg (fun q=>(ds_one t oM n oM oM).2 q.symm)]
   exact rh_hit A t z n oM oM
theorem tu_nz (a:Nat→Nat) : ∀ n≤24,tuL a n 0=a 0
 | 0,_=>rfl
 | n+1,h=>by rw [tuL_s a n 0 oM,if_neg (ds_nz n oM).1,tu_nz a n oM]
theorem rh_nz (A:Nat→Nat→Nat) (z:Nat) : ∀ n≤24,rhB A n 0 z=A 0 z
 | 0,_=>rfl
 | n+1,h=>by rw [rhB_s A n 0 z oM,if_neg (ds_nz n oM).2,rh_nz A z n oM]
theorem rp_ok {a:Nat→Nat} {A:Nat→Nat→Nat} (ha : ∀ k,a k<18446744073709551616) (h:OnB a A):OnB (tuL a 24) (piB (rhB A 24)):=by
 intro k hk z hz
 unfold piB
 rw [sr_ok k hk]
 by_cases h0:k=0
 ·subst h0
  rw [tu_nz a 24 (Nat.le_refl _),show srT.getD 0 0=0 from rfl,rh_nz A z 24 (Nat.le_refl _)]
  exact h 0 oE z hz
 ·obtain ⟨e1,e2,e3⟩:=ti_ok k hk h0
  have h1:=tu_hit a (tiT k) 24 e2 (Nat.le_refl _)
  have h2:=rh_hit A (tiT k) z 24 e2 (Nat.le_refl _)
  rw [e1] at h1
  rw [h1,← e3,h2,bt_rot (ha _) hz]
  exact h _ (by rw [e3];exact sr_lt k hk) _ (Nat.mod_lt _ oE)
theorem chA_at (a:Nat→Nat) (k:Nat) : ∀ i,chA a i k=if k<i then a k^^^(a (5*(k/5%5)+(k%5+2)%5)&&&(18446744073709551615-a (5*(k/5%5)+(k%5+1)%5))) else 0
 | 0=>by rw [if_neg (Nat.not_lt_zero _)];rfl
 | i+1=>by
  show (if k=i then _ else _)=_
  by_cases h:k=i
  ·subst h
   rw [if_pos rfl,if_pos (Nat.lt_succ_self _)]
  ·rw [if_neg h,chA_at a k i]
   by_cases h2:k<i
   ·rw [if_pos h2,if_pos oM]
   ·rw [if_neg h2,if_neg oM]
theorem ch_ok {a:Nat→Nat} {A:Nat→Nat→Nat} (ha : ∀ k,a k<18446744073709551616) (h:OnB a A):OnB (chA a 25) (chB A):=by
 intro k hk z hz
 unfold chB
 rw [chA_at,if_pos hk,show k/5%5=k/5 from by omega,bt_xor,bt_and,bt_not (ha _) hz,h k hk z hz,h _ oM z hz,h _ oM z hz]
 have h1:=bt_lt (a (5*(k/5)+(k%5+1)%5)) z
 have h2:=bt_lt (a (5*(k/5)+(k%5+2)%5)) z
 generalize bt (a (5*(k/5)+(k%5+1)%5)) z=p at h1 ⊢
 generalize bt (a (5*(k/5)+(k%5+2)%5)) z=q at h2 ⊢
 rw [show (p+1)%2=1-p from by omega,Nat.mul_comm q]
def rgL:List Nat:=[1,2,4,8,16,32,64,128,113,226,181,27,54,108,216,193,243,151,95,190,13,26,52,104,208,209,211,215,223,207,239,175,47,94,188,9,18,36,72,144,81,162,53,106,212,217,195,247,159,79,158,77,154,69,138,101,202,229,187,7,14,28,56,112,224,177,19,38,76,152,65,130,117,234,165,59,118,236,169,35,70,140,105,210,213,219,199,255,143,111,222,205,235,167,63,126,252,137,99,198,253,139,103,206,237,171,39,78,156,73,146,85,170,37,74,148,89,178,21,42,84,168,33,66,132,121,242,149,91,182,29,58,116,232,161,51,102,204,233,163,55,110,220,201,227,183,31,62,124,248,129,115,230,189,11,22,44,88,176,17,34,68,136,97,194,245,155,71,142]
def rgB (t k:Nat):Nat:=bt (rgL.getD t 0) k
theorem rgB_s : ∀ t<168,∀ k<8,(if k=0 then (0+rgB t 7)%2 else if k=4 then (rgB t 3+rgB t 7)%2 else if k=5 then (rgB t 4+rgB t 7)%2 else if k=6 then (rgB t 5+rgB t 7)%2 else rgB t (k-1))=rgB (t+1) k:=of_decide_eq_true kR
theorem lfB_rg : ∀ t≤168,∀ k<8,lfB t k=rgB t k
 | 0,_,k,hk=>(of_decide_eq_true kR : ∀ k<8,lfB 0 k=rgB 0 k) k hk
 | t+1,h,k,hk=>by
  have ih:=lfB_rg t oM
  have h7:=ih 7 oE
  have h3:=ih 3 oE
  have h4:=ih 4 oE
  have h5:=ih 5 oE
  have h1:=ih (k-1) oM
  show (if k=0 then (0+lfB t 7)%2 else if k=4 then (lfB t 3+lfB t 7)%2 else if k=5 then (lfB t 4+lfB t 7)%2 else if k=6 then (lfB t 5+lfB t 7)%2 else lfB t (k-1))=_
  rw [h7,h3,h4,h5,h1]
  exact rgB_s t oM k hk
theorem rcB_rg (t:Nat) (h:t≤168):rcB t=rgB t 0:=lfB_rg t h 0 oE
theorem kc_rg : ∀ i<24,∀ z<64,bt (kcN i) z=if z=63 then rgB (6+7*i) 0 else if z=31 then rgB (5+7*i) 0 else if z=15 then rgB (4+7*i) 0 else if z=7 then rgB (3+7*i) 0 else if z=3 then rgB (2+7*i) 0 else if z=1 then rgB (1+7*i) 0 else if z=0 then rgB (0+7*i) 0 else 0:=of_decide_eq_true kR
theorem kc_bits : ∀ i<24,∀ z<64,bt (kcN i) z=if z=63 then rcB (6+7*i) else if z=31 then rcB (5+7*i) else if z=15 then rcB (4+7*i) else if z=7 then rcB (3+7*i) else if z=3 then rcB (2+7*i) else if z=1 then rcB (1+7*i) else if z=0 then rcB (0+7*i) else 0:=by
 intro i hi z hz
 rw [kc_rg i hi z hz,rcB_rg (6+7*i) oM,rcB_rg (5+7*i) oM,rcB_rg (4+7*i) oM,rcB_rg (3+7*i) oM,rcB_rg (2+7*i) oM,rcB_rg (1+7*i) oM,rcB_rg (0+7*i) oM]
theorem io_ok {a:Nat→Nat} {A:Nat→Nat→Nat} {i:Nat} (hi:i<24) (h:OnB a A):OnB (fun k=>if k=0 then a 0^^^kcN i else a k) (ioB A i 7):=by
 intro k hk z hz
 by_cases h0:k=0
 ·subst h0
  show _=bt (a 0^^^kcN i) z
  have h1:=h 0 oE z hz
  have h2:=bt_lt (a 0) z
  rw [bt_xor,kc_bits i hi z hz,← h1]
  rw [← h1] at h2
  simp only [ioB,true_and,Nat.reducePow,Nat.reduceSub]
  repeat' split
  all_goals omega
 ·show _=bt (if k=0 then _ else _) z
  rw [if_neg h0,← h k hk z hz]
  simp only [ioB,h0,false_and,if_false]
theorem pe_ok {a:Nat→Nat} {A:Nat→Nat→Nat} {i:Nat} (hi:i<24) (ha : ∀ k,a k<18446744073709551616) (h:OnB (peL a i) A):OnB (peL a (i+1)) (ioB (chB (piB (rhB (thB A) 24))) i 7) :=
 io_ok hi (ch_ok (tuL_lt _ (thA_lt _ (peL_lt a ha i) 25) 24) (rp_ok (thA_lt _ (peL_lt a ha i) 25) (th_ok (peL_lt a ha i) h)))
def peB (A:Nat→Nat→Nat):Nat→Nat→Nat→Nat
 | 0=>A
 | i+1=>ioB (chB (piB (rhB (thB (peB A i)) 24))) i 7
theorem peB_ok {a:Nat→Nat} {A:Nat→Nat→Nat} (ha : ∀ k,a k<18446744073709551616) (h:OnB a A) : ∀ i≤24,OnB (peL a i) (peB A i)
 | 0,_=>h
 | i+1,hi=>pe_ok oM ha (peB_ok ha h i oM)
theorem lane_step (q m:Nat):q/2^m=2*(q/2^(m+1))+bt q m:=by
 rw [Nat.pow_succ,← Nat.div_div_eq_div_mul]
 show _=2*(q/2^m/2)+q/2^m%2
 omega
def moD (n:Nat):List UInt8:=(List.replicate n 0).set 0 1
theorem pad_eq (s:List UInt8):s++(moD (136-s.length%136)).set (136-s.length%136-1) ((moD (136-s.length%136)).getD (136-s.length%136-1) 0+128)=padL s:=by
 have hz:136-s.length%136=padZ s.length+1:=by unfold padZ;omega
 unfold padL
 rw [padB_len,hz]
 unfold padB moD
 generalize padZ s.length=z
 rw [show s.length+1+z-1=s.length+z from by omega,List.set_append_right _ _ oM,Nat.add_sub_cancel_left,Nat.add_sub_cancel,List.replicate_succ,List.set_cons_zero]
 refine congrArg (fun t=>s++t) ?_
 have e:(s++1::List.replicate z (0:UInt8)).getD (s.length+z) 0=(1::List.replicate z (0:UInt8)).getD z 0:=by
  rw [List.getD_eq_getElem?_getD,List.getElem?_append_right oM,Nat.add_sub_cancel_left,← List.getD_eq_getElem?_getD]
 rw [e]
 cases z with
 | zero=>rfl
 | succ z =>
  have e2:(1::List.replicate (z+1) (0:UInt8)).getD (z+1) 0=0:=by
   rw [List.getD_eq_getElem?_getD,List.getElem?_cons_succ,List.getElem?_replicate]
   split<;>rfl
  rw [e2]
  rfl
def hiD (l:List UInt8):Nat→Nat
 | 0=>0
 | j+1=>256*hiD l j+(l.getD (7-j) 0).toNat
theorem hiD_lt (l:List UInt8) : ∀ j,hiD l j<256^j
 | 0=>Nat.lt_succ_self 0
 | j+1=>by
  have h:=hiD_lt l j
  have h2:=(l.getD (7-j) 0).toNat_lt
  show 256*hiD l j+_<_
  rw [Nat.pow_succ]
  omega
theorem low_step (l:List UInt8) (i:Nat) (hi:i<8) (h:lowS l i<2^(8*i)):lowS l (i+1)=lowS l i+(l.getD i 0).toNat*2^(8*i)∧lowS l (i+1)<2^(8*(i+1)):=by
 have h2:=(l.getD i 0).toNat_lt
 have hp:2^(8*(i+1))=2^(8*i)*256:=by rw [show 8*(i+1)=8*i+8 from by omega,Nat.pow_add]
 have h3:(l.getD i 0).toNat*2^(8*i)+2^(8*i)≤256*2^(8*i):=by rw [← Nat.succ_mul];exact Nat.mul_le_mul_right _ h2
 have h4:(2:Nat)^(8*(i+1))≤2^64:=Nat.pow_le_pow_right oE oM
 have e:lowS l (i+1)=lowS l i+(l.getD i 0).toNat*2^(8*i):=by
  show lowS l i|||_=_
  rw [Nat.mod_eq_of_lt oM,Nat.or_comm,Nat.mul_comm,← Nat.two_pow_add_eq_or_of_lt h,Nat.mul_comm,Nat.add_comm]
 rw [e]
 exact ⟨rfl,by omega⟩
theorem hi_low (l:List UInt8):hiD l 8=lowS l 8:=by
 have h0:lowS l 0<2^(8*0):=Nat.lt_succ_self 0
 obtain ⟨e1,h1⟩:=low_step l 0 oE h0
 obtain ⟨e2,h2⟩:=low_step l 1 oE h1
 obtain ⟨e3,h3⟩:=low_step l 2 oE h2
 obtain ⟨e4,h4⟩:=low_step l 3 oE h3
 obtain ⟨e5,h5⟩:=low_step l 4 oE h4
 obtain ⟨e6,h6⟩:=low_step l 5 oE h5
 obtain ⟨e7,h7⟩:=low_step l 6 oE h6
 obtain ⟨e8,h8⟩:=low_step l 7 oE h7
 rw [e8,e7,e6,e5,e4,e3,e2,e1,show lowS l 0=0 from rfl]
 simp only [hiD,Nat.reducePow,Nat.reduceMul,Nat.reduceSub]
 omega
end Go.Rail
