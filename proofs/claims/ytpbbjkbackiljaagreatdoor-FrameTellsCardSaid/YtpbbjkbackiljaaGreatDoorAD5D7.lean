/- The document's quotients. -/
import Derived.Test.YtpbbjkbackiljaaGreatDoorRailA
import Derived.Test.YtpbbjkbackiljaaGreatDoorRailI
import Derived.Test.YtpbbjkbackiljaaGreatDoorAD3One
import Derived.Test.YtpbbjkbackiljaaGreatDoorRailC
import Derived.Test.YtpbbjkbackiljaaGreatDoorRailH
set_option linter.unusedSimpArgs false
set_option linter.unusedVariables false
namespace Go.Rail
open Go Go.Proofs Tryz
set_option maxHeartbeats 400000
set_option maxRecDepth 4000
attribute [local irreducible] OpK G W LW wpListIn Exit.then Exit.inBlock Post rounds opRun bodyPostM intOp
set_option maxHeartbeats 4000000
attribute [local irreducible] Word.num Word.nat
instance cvD5_1 (a b:Word) {Φ:List Fa}:CV prog 203 [a.v,b.v] Φ (addW a b).v:=⟨Fn.weaken (radd_spec a b)⟩
instance cvD5_2 (a b:Word) {Φ:List Fa}:CV prog 205 [a.v,b.v] Φ (subW a b).v:=⟨Fn.weaken (rsub_spec a b)⟩
instance cvD5_3 (a b:Word) {Φ:List Fa}:CV prog 204 [a.v,b.v] Φ (mulW a b).v:=⟨Fn.weaken (rmul_spec a b)⟩
instance cvD5_4 (a b:Word) {Φ:List Fa}:CV prog 215 [a.v,b.v] Φ (.int .i64 (cmpW a b)):=⟨Fn.weaken (cmp_spec a b)⟩
instance (priority:=low) cvD5_5 (n:Int) {Φ:List Fa}:CV prog 29 [.int .i64 n] Φ (Word.of n).v:=⟨Fn.weaken (of_spec n)⟩
theorem none_spec (w:Word):FnV prog 278 [w.v] [] (.bool (decide (w = .zero))):=by
 refine Fn.enter func278 rfl ntmps278 oI (fun I0 w0 => ?_)
 repeat refine sq ?_;try intro
 refine G.retV ?_
 rfl
instance cvD5_6 (a:Word) {Φ:List Fa}:CV prog 278 [a.v] Φ (.bool (decide (a = .zero))):=⟨Fn.weaken (none_spec a)⟩
theorem rbelow_spec (w:Word):FnV prog 281 [w.v] [] (.bool (negW w)):=by
 refine Fn.enter func281 rfl ntmps281 oI (fun I0 w0 => ?_)
 repeat refine sq ?_;try intro
 refine G.retV ?_
 refine congrArg Value.bool (decide_eq_decide.2 ?_)
 omega
instance cvD5_7 (a:Word) {Φ:List Fa}:CV prog 281 [a.v] Φ (.bool (negW a)):=⟨Fn.weaken (rbelow_spec a)⟩
theorem minus_spec (w:Word):FnV prog 282 [w.v] [] (minusW w).v:=by
 refine Fn.enter func282 rfl ntmps282 oI (fun I0 w0 => ?_)
 repeat refine sq ?_;try intro
 refine G.retV ?_
 rfl
instance cvD5_8 (a:Word) {Φ:List Fa}:CV prog 282 [a.v] Φ (minusW a).v:=⟨Fn.weaken (minus_spec a)⟩
theorem size_spec (w:Word):FnV prog 280 [w.v] [] (sizeW w).v:=by
 refine Fn.enter func280 rfl ntmps280 oI (fun I0 w0 => ?_)
 unfold sizeW
 cases h:negW w
 ·rw [if_neg oE]
  repeat refine sq ?_;try intro
  refine G.retV ?_
  rfl
 ·rw [if_pos rfl]
  repeat refine sq ?_;try intro
  refine G.retV ?_
  rfl
instance cvD5_9 (a:Word) {Φ:List Fa}:CV prog 280 [a.v] Φ (sizeW a).v:=⟨Fn.weaken (size_spec a)⟩
def subP (w n:Word) (over:Bool):Word:=if over||decide (n.num≤w.num) then subW w n else w
theorem rless_spec (w n:Word) (over:Bool):FnV prog 283 [w.v,.bool over,n.v] [] (.tuple #[(subP w n over).v,.bool (over||decide (n.num≤w.num))]):=by
 have hc:=cmpW_num w n
 refine Fn.enter func283 rfl ntmps283 oI (fun I0 w0 => ?_)
 unfold subP
 cases over
 ·by_cases h:n.num≤w.num
  ·rw [decide_eq_true h]
   have h2:0≤cmpW w n:=by rw [hc,if_neg oM];split<;>decide
   repeat refine sq ?_;try intro
   refine G.retV ?_
   rfl
  ·rw [decide_eq_false h]
   have h2:cmpW w n<0:=by rw [hc,if_pos oM];decide
   repeat refine sq ?_;try intro
   refine G.retV ?_
   rfl
 ·repeat refine sq ?_;try intro
  refine G.retV ?_
  rfl
theorem num_add (a b:Word):(addW a b).num=(a.num+b.num)%top256:=Word.num_nat _
theorem num_of1:(Word.of 1).num=1:=by kernel_rfl
theorem over_iff (w:Word):9223372036854775808≤w.d.toNat↔top256≤2*w.num:=by
 have:=w.a.toNat_lt;have:=w.b.toNat_lt;have:=w.c.toNat_lt;have:=w.d.toNat_lt
 unfold Word.num
 simp only [top256]
 omega
def dblX (w:Word) (b:Bool):Word:=if b then addW (addW w w) (Word.of 1) else addW w w
theorem dblX_num (w:Word) (b:Bool):(dblX w b).num=(2*w.num+b.toNat)%top256:=by
 have:=w.num_lt
 unfold dblX
 cases b
 ·rw [if_neg oE,num_add,show w.num+w.num=2*w.num+0 from by omega];rfl
 ·rw [if_pos rfl,num_add,num_add,num_of1];simp only [Bool.toNat_true,top256] at *;omega
theorem dbl_law (w n:Word) (b:Bool) (h:w.num<n.num) (over:Bool) (ho:over=decide (9223372036854775808≤w.d.toNat)) :
  Value.tuple #[(subP (dblX w b) n over).v,.bool (over||decide (n.num≤(dblX w b).num))] = .tuple #[(Word.nat ((2*w.num+b.toNat)%n.num)).v,.bool (decide (n.num≤2*w.num+b.toNat))]:=by
 have hn:=n.num_lt
 have hb:b.toNat≤1:=by cases b<;>decide
 have hx:=dblX_num w b
 have key:(over||decide (n.num≤(dblX w b).num))=decide (n.num≤2*w.num+b.toNat):=by
  subst ho
  by_cases h1:9223372036854775808≤w.d.toNat
  ·rw [decide_eq_true h1,Bool.true_or]
   have:=(over_iff w).1 h1
   rw [decide_eq_true oM]
  ·rw [decide_eq_false h1,Bool.false_or,hx]
   have:=mt (over_iff w).2 h1
   simp only [top256] at *
   rw [Nat.mod_eq_of_lt oM]
 have key2:subP (dblX w b) n over=Word.nat ((2*w.num+b.toNat)%n.num):=by
  unfold subP
  rw [key]
  by_cases h2:n.num≤2*w.num+b.toNat
  ·rw [if_pos (decide_eq_true h2),Nat.mod_eq_sub_mod h2,Nat.mod_eq_of_lt (a:=2*w.num+b.toNat-n.num) oM]
   refine Word.nat_eq ?_
   rw [hx]
   simp only [top256] at *
   omega
  ·rw [if_neg (by rw [decide_eq_false h2];decide),Nat.mod_eq_of_lt (a:=2*w.num+b.toNat) oM]
   refine Word.num_inj.1 ?_
   rw [Word.num_nat,hx]
 rw [key,key2]
theorem double_spec (w n:Word) (b:Bool) (h:w.num<n.num):FnV prog 285 [w.v,.bool b,n.v] [] (.tuple #[(Word.nat ((2*w.num+b.toNat)%n.num)).v,.bool (decide (n.num≤2*w.num+b.toNat))]):=by
 have hl:=fun over=>dbl_law w n b h over
 have hs:=fun over=>rless_spec (dblX w b) n over
 refine Fn.enter func285 rfl ntmps285 oI (fun I0 w0 => ?_)
 unfold dblX at hl hs
 by_cases ho:9223372036854775808≤w.d.toNat
 ·have hl:=hl true (decide_eq_true ho).symm
  have hs:=hs true
  cases b
  ·rw [if_neg oE] at hl hs
   repeat refine sq ?_;try intro
   refine o_callV rfl rfl rfl rfl hs hl ?_
   repeat refine sq ?_;try intro
   refine G.retV ?_
   rfl
  ·rw [if_pos rfl] at hl hs
   repeat refine sq ?_;try intro
   refine W.drawA 2 [dq _,dq _] [[],[]] [0,1] (hrest:=fun c=>nrm ?_) (hops:=by
    iterate 2 refine AllQ.az ?_
    exact AllQ.nil)
   repeat refine sq ?_;try intro
   refine o_callV rfl rfl rfl rfl hs hl ?_
   repeat refine sq ?_;try intro
   refine G.retV ?_
   rfl
 ·have hl:=hl false (decide_eq_false ho).symm
  have hs:=hs false
  cases b
  ·rw [if_neg oE] at hl hs
   repeat refine sq ?_;try intro
   refine o_callV rfl rfl rfl rfl hs hl ?_
   repeat refine sq ?_;try intro
   refine G.retV ?_
   rfl
  ·rw [if_pos rfl] at hl hs
   repeat refine sq ?_;try intro
   refine W.drawA 2 [dq _,dq _] [[],[]] [0,1] (hrest:=fun c=>nrm ?_) (hops:=by
    iterate 2 refine AllQ.az ?_
    exact AllQ.nil)
   repeat refine sq ?_;try intro
   refine o_callV rfl rfl rfl rfl hs hl ?_
   repeat refine sq ?_;try intro
   refine G.retV ?_
   rfl
end Go.Rail
namespace Go.Rail
open Go Go.Proofs Tryz
set_option maxHeartbeats 400000
set_option maxRecDepth 4000
attribute [local irreducible] OpK G W LW wpListIn Exit.then Exit.inBlock Post rounds opRun bodyPostM intOp
set_option maxHeartbeats 4000000
attribute [local irreducible] Word.num Word.nat
def qF (x s k:Nat):Int:=if s≤k then ((bt x k:Nat):Int) else 0
theorem qF_top (x:Nat):rowZ 256 (fun _=>0)=rowZ 256 (qF x 256):=rowZ_congr (fun i hi=>by unfold qF;rw [if_neg oM])
theorem qF_zero (x:Nat):rowZ 256 (qF x 0)=rowN 256 (bt x):=rowZ_congr (fun i hi=>by unfold qF;rw [if_pos (Nat.zero_le _)])
theorem qF_one {x m:Nat} (h:bt x m=1):(fun k=>if k=m then (1:Int) else qF x (m+1) k)=qF x m:=by
 funext k
 unfold qF
 by_cases hk:k=m
 ·subst hk;rw [if_pos rfl,if_pos (Nat.le_refl _),h];rfl
 ·rw [if_neg hk]
  by_cases h2:m+1≤k
  ·rw [if_pos h2,if_pos oM]
  ·rw [if_neg h2,if_neg oM]
theorem qF_none {x m:Nat} (h:bt x m=0):qF x (m+1)=qF x m:=by
 funext k
 unfold qF
 by_cases hk:k=m
 ·subst hk;rw [if_neg oM,if_pos (Nat.le_refl _),h];rfl
 ·by_cases h2:m+1≤k
  ·rw [if_pos h2,if_pos oM]
  ·rw [if_neg h2,if_neg oM]
theorem divb_step (a b m:Nat) (hb:0<b):a/2^m%b=(2*(a/2^(m+1)%b)+bt a m)%b∧bt (a/b) m=if b≤2*(a/2^(m+1)%b)+bt a m then 1 else 0:=by
 have h1:a/2^m=2*(a/2^(m+1))+bt a m:=by
  rw [Nat.pow_succ,← Nat.div_div_eq_div_mul]
  show _=_+a/2^m%2
  omega
 have h2:a/b/2^m=a/2^m/b:=by rw [Nat.div_div_eq_div_mul,Nat.mul_comm,← Nat.div_div_eq_div_mul]
 have hbt:bt a m<2:=Nat.mod_lt _ oE
 show _∧a/b/2^m%2=_
 rw [h2,h1]
 generalize bt a m=t at *
 generalize a/2^(m+1)=A at *
 have h3:=Nat.div_add_mod A b
 have hr:A%b<b:=Nat.mod_lt _ hb
 generalize A/b=u at *
 generalize A%b=r at *
 subst h3
 have e:2*(b*u+r)+t=2*r+t+b*(2*u):=by rw [Nat.mul_add,Nat.mul_left_comm];omega
 rw [e,Nat.add_mul_mod_self_left,Nat.add_mul_div_left _ _ hb]
 refine ⟨rfl,?_⟩
 by_cases h:b≤2*r+t
 ·rw [if_pos h,Nat.div_eq_of_lt_le (m:=2*r+t) (k:=1) oM oM];omega
 ·rw [if_neg h,Nat.div_eq_of_lt oM];omega
theorem divided_spec (a b:Word) (hb:b ≠ .zero):FnV prog 279 [a.v,b.v] [] (.tuple #[(Word.nat (a.num/b.num)).v,(Word.nat (a.num%b.num)).v]):=by
 have hb0:0<b.num:=by
  rcases Nat.eq_zero_or_pos b.num with h|h
  ·exact absurd (Word.num_inj.1 (h.trans Word.zero_num.symm)) hb
  ·exact h
 have hbl:=b.num_lt
 have hal:=a.num_lt
 refine Fn.enter func279 rfl ntmps279 oI (fun I0 w0 => ?_)
 repeat refine sq ?_;try intro
 rename_i b2 b3 b4 b5
 refine o_callO rfl rfl rfl rfl (bits_spec a) ?_
 intro vx ox hox
 refine G.giveOwn2 vx (rowN 256 (bt a.num)) ox 3 hox oY oP ?_
 repeat refine sq ?_;try intro
 rename_i b7
 refine o_makeI 256 rfl rfl rfl rfl rfl rfl oE ?_
 intro bz
 rw [rowZ_const,qF_top (a.num/b.num),show cI (rowZ 256 (qF (a.num/b.num) 256))=cIx (rowZ 256 (qF (a.num/b.num) 256)) [] from by rw [cIx,List.append_nil]]
 repeat refine sq ?_;try intro
 refine W.lp (S:=Nat × Word) (fun s=>([fRp vx (rowN 256 (bt a.num))],[(9,.int .i64 ((s.1:Int)-1)),(8,.slice (some ⟨bz,0,none⟩) 256 256),(7,.pointer (some ⟨b7,0,none⟩)),(6,vx),(5,.pointer (some ⟨b5,0,none⟩)),(4,.pointer (some ⟨b4,0,none⟩)),(3,.pointer (some ⟨b3,0,none⟩))],[(bz,Ob (cIx (rowZ 256 (qF (a.num/b.num) s.1)) []) 3),(b7,Ob (cellsL s.2.v) 49),(b5,Ob Word.zero.cells 49),(b4,Ob Word.zero.cells 49),(b3,Ob (cellsL b.v) 49)])) (fun s=>s.1≤256∧s.2.num=a.num/2^s.1%b.num) (fun s=>s.1) (256,.zero) ?_ (hM:=by (repeat (first|exact List.nil_sublist _|apply List.Sublist.cons_cons))) (h0:=⟨Nat.le_refl _,by dsimp only;rw [Word.zero_num,Nat.div_eq_of_lt (Nat.lt_of_lt_of_eq hal kR),Nat.zero_mod]⟩)
 rintro ⟨s,r⟩ ⟨hs,hr⟩
 dsimp only at hs hr ⊢
 cases s with
 | zero =>
  refine W.bare (G.giveZ bz 256 rfl ?_)
  rw [qF_zero]
  have hbits:=fromBits_spec (.slice (some ⟨bz,0,none⟩) 256 256) (bt (a.num/b.num)) (fun i _=>Nat.mod_lt _ oE)
  have hq:sumB 2 (bt (a.num/b.num)) 256=a.num/b.num:=by
   have h:=sumB_bt (a.num/b.num) 256
   rw [Nat.mod_eq_of_lt (Nat.lt_of_le_of_lt (Nat.div_le_self _ _) (Nat.lt_of_lt_of_eq hal kR))] at h
   exact h
  rw [hq] at hbits
  rw [Nat.pow_zero,Nat.div_one] at hr
  have hrw:r=Word.nat (a.num%b.num):=by rw [← hr,Word.nat_num]
  subst hrw
  refine G.code ?_
  repeat refine sq ?_;try intro
  refine W.any kR ?_
  refine G.anyStep [0,2] kR kR kR ?_
  refine ⟨?_,?_,trivial⟩
  ·show OpK _ _ _ (List.getD (_::_) _ _) _ _ _ _;simp only [getD_s,getD_z]
   refine st ?_
   refine G.anyStep [1,2] kR kR kR ?_
   refine ⟨?_,?_,trivial⟩
   ·show OpK _ _ _ (List.getD (_::_) _ _) _ _ _ _;simp only [getD_s,getD_z]
    refine cV hbits ?_
    refine G.anyStep [2,3] kR kR kR ?_
    refine ⟨?_,?_,trivial⟩
    ·show OpK _ _ _ (List.getD (_::_) _ _) _ _ _ _;simp only [getD_s,getD_z]
     refine st ?_
     refine G.anyStep [3] kR kR kR ?_
     refine ⟨?_,trivial⟩
     ·show OpK _ _ _ (List.getD (_::_) _ _) _ _ _ _;simp only [getD_s,getD_z]
      refine st ?_
      refine G.anyStep [4] kR kR kR ?_
      refine ⟨?_,trivial⟩
      ·show OpK _ _ _ (List.getD (_::_) _ _) _ _ _ _;simp only [getD_s,getD_z]
       refine st ?_
       refine G.anyEnd kR ?_
       repeat refine sq ?_;try intro
       refine G.retV ?_
       rfl
    ·show OpK _ _ _ (List.getD (_::_) _ _) _ _ _ _;simp only [getD_s,getD_z]
     refine st ?_
     refine G.anyStep [2] kR kR kR ?_
     refine ⟨?_,trivial⟩
     ·show OpK _ _ _ (List.getD (_::_) _ _) _ _ _ _;simp only [getD_s,getD_z]
      refine st ?_
      refine G.anyStep [4] kR kR kR ?_
      refine ⟨?_,trivial⟩
      ·show OpK _ _ _ (List.getD (_::_) _ _) _ _ _ _;simp only [getD_s,getD_z]
       refine st ?_
       refine G.anyEnd kR ?_
       repeat refine sq ?_;try intro
       refine G.retV ?_
       rfl
   ·show OpK _ _ _ (List.getD (_::_) _ _) _ _ _ _;simp only [getD_s,getD_z]
    refine st ?_
    refine G.anyStep [1] kR kR kR ?_
    refine ⟨?_,trivial⟩
    ·show OpK _ _ _ (List.getD (_::_) _ _) _ _ _ _;simp only [getD_s,getD_z]
     refine cV hbits ?_
     refine G.anyStep [3] kR kR kR ?_
     refine ⟨?_,trivial⟩
     ·show OpK _ _ _ (List.getD (_::_) _ _) _ _ _ _;simp only [getD_s,getD_z]
      refine st ?_
      refine G.anyStep [4] kR kR kR ?_
      refine ⟨?_,trivial⟩
      ·show OpK _ _ _ (List.getD (_::_) _ _) _ _ _ _;simp only [getD_s,getD_z]
       refine st ?_
       refine G.anyEnd kR ?_
       repeat refine sq ?_;try intro
       refine G.retV ?_
       rfl
  ·show OpK _ _ _ (List.getD (_::_) _ _) _ _ _ _;simp only [getD_s,getD_z]
   refine st ?_
   refine G.anyStep [0] kR kR kR ?_
   refine ⟨?_,trivial⟩
   ·show OpK _ _ _ (List.getD (_::_) _ _) _ _ _ _;simp only [getD_s,getD_z]
    refine st ?_
    refine G.anyStep [1] kR kR kR ?_
    refine ⟨?_,trivial⟩
    ·show OpK _ _ _ (List.getD (_::_) _ _) _ _ _ _;simp only [getD_s,getD_z]
     refine cV hbits ?_
     refine G.anyStep [3] kR kR kR ?_
     refine ⟨?_,trivial⟩
     ·show OpK _ _ _ (List.getD (_::_) _ _) _ _ _ _;simp only [getD_s,getD_z]
      refine st ?_
      refine G.anyStep [4] kR kR kR ?_
      refine ⟨?_,trivial⟩
      ·show OpK _ _ _ (List.getD (_::_) _ _) _ _ _ _;simp only [getD_s,getD_z]
       refine st ?_
       refine G.anyEnd kR ?_
       repeat refine sq ?_;try intro
       refine G.retV ?_
       rfl
 | succ m =>
  rw [show ((m+1:Nat):Int)-1=(m:Int) from by omega]
  obtain ⟨d1,d2⟩:=divb_step a.num b.num m hb0
  rw [← hr] at d1 d2
  have hrl:r.num<b.num:=by rw [hr];exact Nat.mod_lt _ hb0
  have hbt:bt a.num m<2:=Nat.mod_lt _ oE
  have hds:=double_spec r b (decide (bt a.num m=1)) hrl
  have htn:(decide (bt a.num m=1)).toNat=bt a.num m:=by
   generalize bt a.num m=t at hbt
   by_cases h:t=1
   ·subst h;rfl
   ·rw [decide_eq_false h];obtain rfl:t=0:=by omega
    rfl
  rw [htn,← d1] at hds
  have hn:(Word.nat (a.num/2^m%b.num)).num=a.num/2^m%b.num:=by
   rw [Word.num_nat,Nat.mod_eq_of_lt (Nat.lt_trans (Nat.mod_lt _ hb0) hbl)]
  repeat refine sq ?_;try intro
  refine W.drawSt 12 11 b7 (Ob (Word.nat (a.num/2^m%b.num)).cells 49) [dq _,dq _,dq _,dk _,dq _,dq _,dq _,dq _,dq _,dq _,dq _,(dq fun _ _ => .bool false)] [[],[],[],[1,2],[3],[4],[],[0,5,6],[7],[8],[8],[9]] [10] (hrest:=fun c=>nrmX ?_) (hops:=by
   refine AllX.a0 ?_ rfl kR
   refine AllX.a0 ?_ rfl kR
   refine AllX.a0 ?_ rfl kR
   refine AllX.a0 ?_ rfl kR
   refine AllX.a0 ?_ rfl kR
   refine AllX.a0 ?_ rfl kR (by intro c z0 Φr Lr K;refine nrmX ?_;intro hK;refine o_int rfl rfl rfl rfl i_eqlN ?_;exact hK z0)
   refine AllX.a0 ?_ rfl kR
   refine AllX.a0 ?_ rfl kR (by intro c z0 Φr Lr K;refine nrmX ?_;intro hK;refine cV hds ?_;exact hK z0)
   refine AllX.a0 ?_ rfl kR
   refine AllX.a0 ?_ rfl kR
   refine AllX.a01 ?_ rfl
   refine AllX.ai ?_
   exact AllX.end)
  by_cases hq:b.num≤2*r.num+bt a.num m
  ·rw [if_pos hq] at d2
   repeat refine sq ?_;try intro
   rw [qF_one d2]
   repeat refine sq ?_;try intro
   exact G.ag (S:=Nat × Word) (m,_) (hpre:=⟨by dsimp only;omega,hn⟩)
  ·rw [if_neg hq] at d2
   rw [qF_none d2]
   repeat refine sq ?_;try intro
   exact G.ag (S:=Nat × Word) (m,_) (hpre:=⟨by dsimp only;omega,hn⟩)
end Go.Rail
namespace Go.Rail
open Go Go.Proofs Tryz
set_option maxHeartbeats 400000
set_option maxRecDepth 4000
attribute [local irreducible] OpK G W LW wpListIn Exit.then Exit.inBlock Post rounds opRun bodyPostM intOp
set_option maxHeartbeats 4000000
attribute [local irreducible] Word.num Word.nat
theorem rdiv_spec (a b:Word):FnV prog 206 [a.v,b.v] [] (divW a b).v:=by
 refine Fn.enter func206 rfl ntmps206 oI (fun I0 w0 => ?_)
 by_cases hb:b = .zero
 ·subst hb
  repeat refine sq ?_;try intro
  refine G.retV ?_
  unfold divW
  rw [Word.zero_num,Nat.div_zero,Word.nat_zero]
  rfl
 ·have hd:=divided_spec a b hb
  repeat refine sq ?_;try intro
  refine cV hd ?_
  repeat refine sq ?_;try intro
  refine G.retV ?_
  rfl
theorem rmod_spec (a b:Word):FnV prog 208 [a.v,b.v] [] (modW a b).v:=by
 refine Fn.enter func208 rfl ntmps208 oI (fun I0 w0 => ?_)
 unfold modW
 by_cases hb:b = .zero
 ·subst hb
  rw [if_pos rfl]
  repeat refine sq ?_;try intro
  refine G.retV ?_
  rfl
 ·rw [if_neg hb]
  have hd:=divided_spec a b hb
  repeat refine sq ?_;try intro
  refine cV hd ?_
  repeat refine sq ?_;try intro
  refine G.retV ?_
  rfl
instance cvD7_1 (a b:Word) {Φ:List Fa}:CV prog 206 [a.v,b.v] Φ (divW a b).v:=⟨Fn.weaken (rdiv_spec a b)⟩
instance cvD7_2 (a b:Word) {Φ:List Fa}:CV prog 208 [a.v,b.v] Φ (modW a b).v:=⟨Fn.weaken (rmod_spec a b)⟩
theorem rsdiv_spec (a b:Word):FnV prog 207 [a.v,b.v] [] (sdivW a b).v:=by
 refine Fn.enter func207 rfl ntmps207 oI (fun I0 w0 => ?_)
 unfold sdivW
 repeat refine sq ?_;try intro
 refine W.drawAl 6 5 49 [dq _,dq _,dq _,dq _,dq _,dp] [[],[0],[],[2],[1,3],[]] [4,5] (hrest:=fun c=>nrmX ?_) (hops:=by
  refine AllX.a01 ?_ rfl
  refine AllX.a01 ?_ rfl
  refine AllX.a01 ?_ rfl
  refine AllX.a01 ?_ rfl
  refine AllX.a01 ?_ rfl
  refine AllX.ai ?_
  exact AllX.end)
 repeat refine sq ?_;try intro
 refine W.drawA 3 [dq _,dq _,dq _] [[],[0],[]] [1,2] (hrest:=fun c=>nrm ?_) (hops:=by
  iterate 3 refine AllQ.az ?_
  exact AllQ.nil)
 by_cases h:negW a=negW b
 ·rw [if_neg (fun e=>e h)]
  repeat refine sq ?_;try intro
  refine G.retV ?_
  rfl
 ·rw [if_pos h]
  repeat refine sq ?_;try intro
  refine G.retV ?_
  rfl
theorem rsmod_spec (a b:Word):FnV prog 209 [a.v,b.v] [] (smodW a b).v:=by
 refine Fn.enter func209 rfl ntmps209 oI (fun I0 w0 => ?_)
 unfold smodW
 repeat refine sq ?_;try intro
 refine W.drawAl 6 5 49 [dq _,dq _,dq _,dq _,dq _,dp] [[],[0],[],[2],[1,3],[]] [4,5] (hrest:=fun c=>nrmX ?_) (hops:=by
  refine AllX.a01 ?_ rfl
  refine AllX.a01 ?_ rfl
  refine AllX.a01 ?_ rfl
  refine AllX.a01 ?_ rfl
  refine AllX.a01 ?_ rfl
  refine AllX.ai ?_
  exact AllX.end)
 cases h:negW a
 ·rw [if_neg oE]
  repeat refine sq ?_;try intro
  refine G.retV ?_
  rfl
 ·rw [if_pos rfl]
  repeat refine sq ?_;try intro
  refine G.retV ?_
  rfl
theorem addP (x y n:Word) (hx:x.num<n.num) (hy:y.num<n.num):subP (addW x y) n (decide (cmpW (addW x y) x<0))=Word.nat ((x.num+y.num)%n.num):=by
 have hn:=n.num_lt
 have ha:=num_add x y
 have hc:(cmpW (addW x y) x<0)↔(addW x y).num<x.num:=by
  rw [cmpW_num]
  by_cases h:(addW x y).num<x.num
  ·rw [if_pos h];simp [h]
  ·rw [if_neg h];split<;>simp [h]
 rw [decide_eq_decide.2 hc]
 unfold subP
 by_cases hov:top256≤x.num+y.num
 ·have e:(addW x y).num=x.num+y.num-top256:=by rw [ha];simp only [top256] at *;omega
  rw [decide_eq_true (by rw [e];omega),Bool.true_or,if_pos rfl,Nat.mod_eq_sub_mod oM,Nat.mod_eq_of_lt (a:=x.num+y.num-n.num) oM]
  refine Word.nat_eq ?_
  rw [e]
  simp only [top256] at *
  omega
 ·have e:(addW x y).num=x.num+y.num:=by rw [ha,Nat.mod_eq_of_lt oM]
  rw [e,decide_eq_false oM,Bool.false_or]
  by_cases h:n.num≤x.num+y.num
  ·rw [if_pos (decide_eq_true h),Nat.mod_eq_sub_mod h,Nat.mod_eq_of_lt (a:=x.num+y.num-n.num) oM]
   refine Word.nat_eq ?_
   rw [e]
   simp only [top256] at *
   omega
  ·rw [if_neg (by rw [decide_eq_false h];decide),Nat.mod_eq_of_lt (a:=x.num+y.num) oM,← e,Word.nat_num]
theorem modW_num {a n:Word} (hn:n ≠ .zero):(modW a n).num=a.num%n.num∧(modW a n).num<n.num:=by
 have hn0:0<n.num:=by
  rcases Nat.eq_zero_or_pos n.num with h|h
  ·exact absurd (Word.num_inj.1 (h.trans Word.zero_num.symm)) hn
  ·exact h
 have h:=Nat.mod_lt a.num hn0
 have e:(modW a n).num=a.num%n.num:=by
  unfold modW
  rw [if_neg hn,Word.num_nat,Nat.mod_eq_of_lt (Nat.lt_trans h n.num_lt)]
 exact ⟨e,by rw [e];exact h⟩
theorem raddmod_spec (a b n:Word):FnV prog 210 [a.v,b.v,n.v] [] (addmodW a b n).v:=by
 refine Fn.enter func210 rfl ntmps210 oI (fun I0 w0 => ?_)
 unfold addmodW
 by_cases hn:n = .zero
 ·subst hn
  rw [if_pos rfl]
  repeat refine sq ?_;try intro
  refine G.retV ?_
  rfl
 ·rw [if_neg hn]
  obtain ⟨x1,x2⟩:=modW_num (a:=a) hn
  obtain ⟨y1,y2⟩:=modW_num (a:=b) hn
  have hp:=addP (modW a n) (modW b n) n x2 y2
  rw [x1,y1,← Nat.add_mod] at hp
  repeat refine sq ?_;try intro
  refine W.drawAS 12 10 11 49 ((Word.nat ((a.num+b.num)%n.num)).cells) [dq _,dq _,dq _,dq _,dq _,dq _,dq _,dq _,dq _,dq _,dp,(dq fun _ _ => .bool false)] [[],[],[],[1,2],[3],[],[0,4,5],[6],[7],[7],[],[8,10]] [9,10] (hrest:=fun c=>nrmX ?_) (hops:=by
   refine AllX.b01 ?_ rfl rfl kR kR
   refine AllX.b01 ?_ rfl rfl kR kR
   refine AllX.b01 ?_ rfl rfl kR kR
   refine AllX.b01 ?_ rfl rfl kR kR
   refine AllX.b01 ?_ rfl rfl kR kR
   refine AllX.b01 ?_ rfl rfl kR kR
   refine AllX.b01 ?_ rfl rfl kR kR (by intro c z0 Φr Lr K;refine nrmX ?_;intro hK;refine o_callV rfl rfl rfl rfl (rless_spec _ _ _) (by rw [hp]) ?_;exact hK z0) (by intro c z0 Φr Lr K;refine nrmX ?_;intro hK;refine o_callV rfl rfl rfl rfl (rless_spec _ _ _) (by rw [hp]) ?_;exact hK z0)
   refine AllX.b01 ?_ rfl rfl kR kR
   refine AllX.b01 ?_ rfl rfl kR kR
   refine AllX.b012 ?_ rfl rfl kR
   refine AllX.bi rfl kR ?_
   refine AllX.bj rfl kR ?_
   exact AllX.end)
  repeat refine sq ?_;try intro
  refine G.retV ?_
  rfl
theorem mul_step (a b m n:Nat):(2*(a*(b/2^(m+1))%n)+bt b m*(a%n))%n=a*(b/2^m)%n:=by
 have h1:b/2^m=2*(b/2^(m+1))+bt b m:=by
  rw [Nat.pow_succ,← Nat.div_div_eq_div_mul]
  show _=_+b/2^m%2
  omega
 rw [h1]
 generalize b/2^(m+1)=B
 generalize bt b m=t
 rw [Nat.mul_add,Nat.add_mod,Nat.mul_mod 2,Nat.mod_mod,← Nat.mul_mod,Nat.mul_mod t,Nat.mod_mod,← Nat.mul_mod,← Nat.add_mod]
 congr 1
 rw [Nat.mul_left_comm,Nat.mul_comm t a]
theorem rmulmod_spec (a b n:Word):FnV prog 211 [a.v,b.v,n.v] [] (mulmodW a b n).v:=by
 refine Fn.enter func211 rfl ntmps211 oI (fun I0 w0 => ?_)
 unfold mulmodW
 by_cases hn:n = .zero
 ·subst hn
  rw [if_pos rfl]
  repeat refine sq ?_;try intro
  refine G.retV ?_
  rfl
 rw [if_neg hn]
 obtain ⟨x1,x2⟩:=modW_num (a:=a) hn
 have hn0:0<n.num:=by omega
 have hnl:=n.num_lt
 have hbl:=b.num_lt
 repeat refine sq ?_;try intro
 rename_i b7 b8 b9 b10
 refine o_callO rfl rfl rfl rfl (bits_spec b) ?_
 intro vx ox hox
 refine G.giveOwn2 vx (rowN 256 (bt b.num)) ox 3 hox oY oP ?_
 repeat refine sq ?_;try intro
 rename_i b11
 refine W.lp (S:=Nat × Word) (fun s=>([fRp vx (rowN 256 (bt b.num))],[(10,.int .i64 ((s.1:Int)-1)),(9,.pointer (some ⟨b11,0,none⟩)),(8,vx),(7,.pointer (some ⟨b10,0,none⟩)),(6,.pointer (some ⟨b9,0,none⟩)),(5,.pointer (some ⟨b8,0,none⟩))],[(b11,Ob (cellsL s.2.v) 49),(b10,Ob (cellsL (modW a n).v) 49),(b9,Ob Word.zero.cells 49),(b8,Ob (cellsL n.v) 49)])) (fun s=>s.1≤256∧s.2.num=a.num*(b.num/2^s.1)%n.num) (fun s=>s.1) (256,.zero) ?_ (hM:=by (repeat (first|exact List.nil_sublist _|apply List.Sublist.cons_cons))) (h0:=⟨Nat.le_refl _,by dsimp only;rw [Word.zero_num,Nat.div_eq_of_lt (Nat.lt_of_lt_of_eq hbl kR),Nat.mul_zero,Nat.zero_mod]⟩)
 rintro ⟨s,r⟩ ⟨hs,hr⟩
 dsimp only at hs hr ⊢
 cases s with
 | zero =>
  rw [Nat.pow_zero,Nat.div_one] at hr
  have hrw:r=Word.nat (a.num*b.num%n.num):=by rw [← hr,Word.nat_num]
  subst hrw
  repeat refine sq ?_;try intro
  refine G.retV ?_
  rfl
 | succ m =>
  rw [show ((m+1:Nat):Int)-1=(m:Int) from by omega]
  have hst:=mul_step a.num b.num m n.num
  rw [← hr,← x1] at hst
  have hrl:r.num<n.num:=by rw [hr];exact Nat.mod_lt _ hn0
  have hbt:bt b.num m<2:=Nat.mod_lt _ oE
  have hds:=double_spec r n false hrl
  rw [show 2*r.num+false.toNat=2*r.num from rfl] at hds
  obtain ⟨r1,hr1⟩ : ∃ r1,r1=Word.nat (2*r.num%n.num):=⟨_,rfl⟩
  have hn1:r1.num=2*r.num%n.num:=by rw [hr1,Word.num_nat,Nat.mod_eq_of_lt (Nat.lt_trans (Nat.mod_lt _ hn0) hnl)]
  rw [← hr1] at hds
  have hl1:r1.num<n.num:=by rw [hn1];exact Nat.mod_lt _ hn0
  by_cases hb1:bt b.num m=1
  ·repeat refine sq ?_;try intro
   refine cV hds ?_
   have hp:=addP r1 (modW a n) n hl1 x2
   rw [hb1,Nat.one_mul,Nat.add_mod,← hn1,Nat.mod_eq_of_lt x2] at hst
   repeat refine sq ?_;try intro
   rename_i b12
   refine W.drawSt 11 10 b11 (Ob (Word.nat ((r1.num+(modW a n).num)%n.num)).cells 49) [dq _,dq _,dq _,dq _,dq _,dq _,dq _,dq _,dq _,dq _,(dq fun _ _ => .bool false)] [[],[],[],[1,2],[3],[],[0,4,5],[6],[7],[7],[8]] [] (hrest:=fun c=>nrmX ?_) (hops:=by
    refine AllX.a0 ?_ rfl kR
    refine AllX.a0 ?_ rfl kR
    refine AllX.a0 ?_ rfl kR
    refine AllX.a0 ?_ rfl kR
    refine AllX.a0 ?_ rfl kR
    refine AllX.a0 ?_ rfl kR
    refine AllX.a0 ?_ rfl kR (by intro c z0 Φr Lr K;refine nrmX ?_;intro hK;refine o_callV rfl rfl rfl rfl (rless_spec _ _ _) (by rw [hp]) ?_;exact hK z0)
    refine AllX.a0 ?_ rfl kR
    refine AllX.a0 ?_ rfl kR
    refine AllX.a01 ?_ rfl
    refine AllX.ai ?_
    exact AllX.end)
   repeat refine sq ?_;try intro
   refine G.ag (S:=Nat × Word) (m,Word.nat ((r1.num+(modW a n).num)%n.num)) (hpre:=⟨by dsimp only;omega,?_⟩) (hM:=List.Sublist.cons _ oZ)
   dsimp only
   rw [hst,Word.num_nat,Nat.mod_eq_of_lt (Nat.lt_trans (Nat.mod_lt _ hn0) hnl)]
  ·repeat refine sq ?_;try intro
   refine cV hds ?_
   have hb0:bt b.num m=0:=by omega
   rw [hb0,Nat.zero_mul,Nat.add_zero,← hn1] at hst
   repeat refine sq ?_;try intro
   exact G.ag (S:=Nat × Word) (m,r1) (hpre:=⟨by dsimp only;omega,hst⟩)
theorem rmulW_nat (x y:Nat):mulW (Word.nat x) (Word.nat y)=Word.nat (x*y):=by
 unfold mulW
 refine Word.nat_eq ?_
 rw [Word.num_nat,Word.num_nat,← Nat.mul_mod]
theorem rexp_spec (a b:Word):FnV prog 212 [a.v,b.v] [] (expW a b).v:=by
 refine Fn.enter func212 rfl ntmps212 oI (fun I0 w0 => ?_)
 have hbl:=b.num_lt
 repeat refine sq ?_;try intro
 rename_i b2 b3 b4
 refine o_callO rfl rfl rfl rfl (bits_spec b) ?_
 intro vx ox hox
 refine G.giveOwn2 vx (rowN 256 (bt b.num)) ox 3 hox oY oP ?_
 repeat refine sq ?_;try intro
 rename_i b6
 have e0:Word.of 1=Word.nat (a.num^(b.num/2^256)):=by
  rw [Nat.div_eq_of_lt (Nat.lt_of_lt_of_eq hbl kR),Nat.pow_zero];kernel_rfl
 rw [e0]
 refine W.lp (fun (s:Nat)=>([fRp vx (rowN 256 (bt b.num))],[(7,.int .i64 ((s:Int)-1)),(6,.pointer (some ⟨b6,0,none⟩)),(5,vx),(4,.pointer (some ⟨b4,0,none⟩)),(2,.pointer (some ⟨b2,0,none⟩))],[(b6,Ob (cellsL (Word.nat (a.num^(b.num/2^s))).v) 49),(b4,Ob Word.zero.cells 49),(b2,Ob (cellsL a.v) 49)])) (fun s=>s≤256) (fun s=>s) 256 ?_ (hM := .cons_cons _ (.cons_cons _ (.cons _ (.refl _))))
 intro s hs
 dsimp only
 cases s with
 | zero =>
  rw [Nat.pow_zero,Nat.div_one]
  repeat refine sq ?_;try intro
  refine G.retV ?_
  rfl
 | succ m =>
  rw [show ((m+1:Nat):Int)-1=(m:Int) from by omega]
  have h1:b.num/2^m=2*(b.num/2^(m+1))+bt b.num m:=by
   rw [Nat.pow_succ,← Nat.div_div_eq_div_mul]
   show _=_+b.num/2^m%2
   omega
  have hbt:bt b.num m<2:=Nat.mod_lt _ oE
  generalize b.num/2^(m+1)=B at h1 ⊢
  have em:mulW (Word.nat (a.num^B)) (Word.nat (a.num^B))=Word.nat (a.num^(2*B)):=by
   rw [rmulW_nat,← Nat.pow_add,show B+B=2*B from by omega]
  by_cases hb1:bt b.num m=1
  ·rw [hb1] at h1
   have e:mulW (Word.nat (a.num^(2*B))) a=Word.nat (a.num^(b.num/2^m)):=by
    have h:=rmulW_nat (a.num^(2*B)) a.num
    rw [Word.nat_num] at h
    rw [h,h1,Nat.pow_succ]
   repeat refine sq ?_;try intro
   rw [em,e]
   exact G.ag m
  ·have hb0:bt b.num m=0:=by omega
   rw [hb0,Nat.add_zero] at h1
   repeat refine sq ?_;try intro
   rw [em,← h1]
   exact G.ag m
end Go.Rail
