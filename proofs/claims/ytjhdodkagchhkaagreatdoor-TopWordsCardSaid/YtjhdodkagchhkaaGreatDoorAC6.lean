/- divide: whole products, and what is left of them. -/
import Derived.Test.YtjhdodkagchhkaaGreatDoorRailA
import Derived.Test.YtjhdodkagchhkaaGreatDoorRailC
import Derived.Test.YtjhdodkagchhkaaGreatDoorAC5
set_option linter.unusedSimpArgs false
set_option linter.unusedVariables false
namespace Go.Rail
open Go Go.Proofs Tryz
set_option maxHeartbeats 400000
set_option maxRecDepth 4000
attribute [local irreducible] OpK G W LW wpListIn Exit.then Exit.inBlock Post rounds opRun bodyPostM intOp
set_option maxHeartbeats 16000000
attribute [local irreducible] lexN cmpW Word.nat subW mulW
theorem numX {n p0 p1 p2 p3 p4 p5 p6 p7:Nat} (h:p0+18446744073709551616*p1+340282366920938463463374607431768211456*p2+6277101735386680763835789423207666416102355444464034512896*p3+115792089237316195423570985008687907853269984665640564039457584007913129639936*p4+2135987035920910082395021706169552114602704522356652769947041607822219725780640550022962086936576*p5+39402006196394479212279040100143613805079739270465446667948293404245721771497210611414266254884915640806627990306816*p6+726838724295606890549323807888004534353641360687318060281490199180639288113397923326191050713763565560762521606266177933534601628614656*p7=n) (h0:p0<18446744073709551616) (h1:p1<18446744073709551616) (h2:p2<18446744073709551616) (h3:p3<18446744073709551616) (h4:p4<18446744073709551616) (h5:p5<18446744073709551616) (h6:p6<18446744073709551616) (h7:p7<18446744073709551616) :
  [.int .u64 (p0:Int),.int .u64 (p1:Int),.int .u64 (p2:Int),.int .u64 (p3:Int),.int .u64 (p4:Int),.int .u64 (p5:Int),.int .u64 (p6:Int),.int .u64 (p7:Int)]=numC 8 n:=by
 show _=[Value.int .u64 ((n/18446744073709551616^0%18446744073709551616:Nat):Int),Value.int .u64 ((n/18446744073709551616^1%18446744073709551616:Nat):Int),Value.int .u64 ((n/18446744073709551616^2%18446744073709551616:Nat):Int),Value.int .u64 ((n/18446744073709551616^3%18446744073709551616:Nat):Int),Value.int .u64 ((n/18446744073709551616^4%18446744073709551616:Nat):Int),Value.int .u64 ((n/18446744073709551616^5%18446744073709551616:Nat):Int),Value.int .u64 ((n/18446744073709551616^6%18446744073709551616:Nat):Int),Value.int .u64 ((n/18446744073709551616^7%18446744073709551616:Nat):Int)]
 rw [show n/18446744073709551616^0%18446744073709551616=p0 from by omega,show n/18446744073709551616^1%18446744073709551616=p1 from by omega,show n/18446744073709551616^2%18446744073709551616=p2 from by omega,show n/18446744073709551616^3%18446744073709551616=p3 from by omega,show n/18446744073709551616^4%18446744073709551616=p4 from by omega,show n/18446744073709551616^5%18446744073709551616=p5 from by omega,show n/18446744073709551616^6%18446744073709551616=p6 from by omega,show n/18446744073709551616^7%18446744073709551616=p7 from by omega]
theorem product_spec (a b:Word):FnV prog 226 [a.v,b.v] [] (.agg (numC 8 (a.num*b.num)).toArray):=by
 have la0:Hid (a.a.toNat<18446744073709551616):=a.a.toNat_lt
 have la1:Hid (a.b.toNat<18446744073709551616):=a.b.toNat_lt
 have la2:Hid (a.c.toNat<18446744073709551616):=a.c.toNat_lt
 have la3:Hid (a.d.toNat<18446744073709551616):=a.d.toNat_lt
 have lb0:Hid (b.a.toNat<18446744073709551616):=b.a.toNat_lt
 have lb1:Hid (b.b.toNat<18446744073709551616):=b.b.toNat_lt
 have lb2:Hid (b.c.toNat<18446744073709551616):=b.c.toNat_lt
 have lb3:Hid (b.d.toNat<18446744073709551616):=b.d.toNat_lt
 refine Fn.enter func226 rfl ntmps226 oI (fun I0 w0 => ?_)
 repeat refine s4 ?_;try intro
 refine W.loopN 5 ?_
 repeat refine s4 ?_;try intro
 refine o_indexV (i:=0) rfl rfl rfl rfl oE rfl ?_
 repeat refine s4 ?_;try intro
 refine W.loopN 5 ?_
 repeat refine s4 ?_;try intro
 refine o_indexV (i:=0) rfl rfl rfl rfl oE rfl ?_
 repeat refine s4 ?_;try intro
 refine cV (mul64_spec a.a.toNat b.a.toNat la0 lb0) ?_
 repeat refine s4 ?_;try intro
 refine o_add64 (b:=0) (c:=0) rfl rfl rfl rfl rfl rfl oE ?_
 repeat refine s4 ?_;try intro
 refine o_int rfl rfl rfl rfl (u_add _ _ (mac1 a.a.toNat b.a.toNat 0 la0 lb0 oE)) ?_
 repeat refine s4 ?_;try intro
 refine o_add64 (b:=0) (c:=0) rfl rfl rfl rfl rfl rfl oE ?_
 repeat refine s4 ?_;try intro
 refine o_int rfl rfl rfl rfl (u_add _ _ (mac2 a.a.toNat b.a.toNat 0 0 la0 lb0 oE oE)) ?_
 repeat ((fail_if_success (refine W.region ?_));first|refine stp ?_|(refine sti ?_;intro _)|refine stf ?_|(refine stb ?_;intro _))
 have e00:Hid _:=mac3 a.a.toNat b.a.toNat 0 0
 have lw00:Hid (((a.a.toNat*b.a.toNat%18446744073709551616+0+0)%18446744073709551616+0+0)%18446744073709551616<18446744073709551616):=Nat.mod_lt _ oE
 have lc00:Hid (a.a.toNat*b.a.toNat/18446744073709551616+(a.a.toNat*b.a.toNat%18446744073709551616+0+0)/18446744073709551616+((a.a.toNat*b.a.toNat%18446744073709551616+0+0)%18446744073709551616+0+0)/18446744073709551616<18446744073709551616):=mac2 a.a.toNat b.a.toNat 0 0 la0 lb0 oE oE
 generalize ((a.a.toNat*b.a.toNat%18446744073709551616+0+0)%18446744073709551616+0+0)%18446744073709551616=w00 at e00 lw00 ⊢
 generalize a.a.toNat*b.a.toNat/18446744073709551616+(a.a.toNat*b.a.toNat%18446744073709551616+0+0)/18446744073709551616+((a.a.toNat*b.a.toNat%18446744073709551616+0+0)%18446744073709551616+0+0)/18446744073709551616=c00 at e00 lc00 ⊢
 refine W.keep (lC (k:=2) rfl (lC (k:=3) rfl (lC (k:=4) rfl (lC (k:=5) rfl (lC (k:=6) rfl (lC (k:=7) rfl (lC (k:=13) rfl (lC (k:=14) rfl (lC (k:=18) rfl (lC (k:=19) rfl lN)))))))))) ?_
 repeat refine s4 ?_;try intro
 refine o_indexV (i:=1) rfl rfl rfl rfl oE rfl ?_
 repeat refine s4 ?_;try intro
 refine cV (mul64_spec a.a.toNat b.b.toNat la0 lb1) ?_
 repeat refine s4 ?_;try intro
 refine o_add64 (b:=0) (c:=0) rfl rfl rfl rfl rfl rfl oE ?_
 repeat refine s4 ?_;try intro
 refine o_int rfl rfl rfl rfl (u_add _ _ (mac1 a.a.toNat b.b.toNat 0 la0 lb1 oE)) ?_
 repeat refine s4 ?_;try intro
 refine o_add64  (c:=0) rfl rfl rfl rfl rfl rfl oE ?_
 repeat refine s4 ?_;try intro
 refine o_int rfl rfl rfl rfl (u_add _ _ (mac2 a.a.toNat b.b.toNat 0 c00 la0 lb1 oE lc00)) ?_
 repeat ((fail_if_success (refine W.region ?_));first|refine stp ?_|(refine sti ?_;intro _)|refine stf ?_|(refine stb ?_;intro _))
 have e01:Hid _:=mac3 a.a.toNat b.b.toNat 0 c00
 have lw01:Hid (((a.a.toNat*b.b.toNat%18446744073709551616+0+0)%18446744073709551616+c00+0)%18446744073709551616<18446744073709551616):=Nat.mod_lt _ oE
 have lc01:Hid (a.a.toNat*b.b.toNat/18446744073709551616+(a.a.toNat*b.b.toNat%18446744073709551616+0+0)/18446744073709551616+((a.a.toNat*b.b.toNat%18446744073709551616+0+0)%18446744073709551616+c00+0)/18446744073709551616<18446744073709551616):=mac2 a.a.toNat b.b.toNat 0 c00 la0 lb1 oE lc00
 generalize ((a.a.toNat*b.b.toNat%18446744073709551616+0+0)%18446744073709551616+c00+0)%18446744073709551616=w01 at e01 lw01 ⊢
 generalize a.a.toNat*b.b.toNat/18446744073709551616+(a.a.toNat*b.b.toNat%18446744073709551616+0+0)/18446744073709551616+((a.a.toNat*b.b.toNat%18446744073709551616+0+0)%18446744073709551616+c00+0)/18446744073709551616=c01 at e01 lc01 ⊢
 refine W.keep (lC (k:=2) rfl (lC (k:=3) rfl (lC (k:=4) rfl (lC (k:=5) rfl (lC (k:=6) rfl (lC (k:=7) rfl (lC (k:=13) rfl (lC (k:=14) rfl (lC (k:=18) rfl (lC (k:=19) rfl lN)))))))))) ?_
 repeat refine s4 ?_;try intro
 refine o_indexV (i:=2) rfl rfl rfl rfl oE rfl ?_
 repeat refine s4 ?_;try intro
 refine cV (mul64_spec a.a.toNat b.c.toNat la0 lb2) ?_
 repeat refine s4 ?_;try intro
 refine o_add64 (b:=0) (c:=0) rfl rfl rfl rfl rfl rfl oE ?_
 repeat refine s4 ?_;try intro
 refine o_int rfl rfl rfl rfl (u_add _ _ (mac1 a.a.toNat b.c.toNat 0 la0 lb2 oE)) ?_
 repeat refine s4 ?_;try intro
 refine o_add64  (c:=0) rfl rfl rfl rfl rfl rfl oE ?_
 repeat refine s4 ?_;try intro
 refine o_int rfl rfl rfl rfl (u_add _ _ (mac2 a.a.toNat b.c.toNat 0 c01 la0 lb2 oE lc01)) ?_
 repeat ((fail_if_success (refine W.region ?_));first|refine stp ?_|(refine sti ?_;intro _)|refine stf ?_|(refine stb ?_;intro _))
 have e02:Hid _:=mac3 a.a.toNat b.c.toNat 0 c01
 have lw02:Hid (((a.a.toNat*b.c.toNat%18446744073709551616+0+0)%18446744073709551616+c01+0)%18446744073709551616<18446744073709551616):=Nat.mod_lt _ oE
 have lc02:Hid (a.a.toNat*b.c.toNat/18446744073709551616+(a.a.toNat*b.c.toNat%18446744073709551616+0+0)/18446744073709551616+((a.a.toNat*b.c.toNat%18446744073709551616+0+0)%18446744073709551616+c01+0)/18446744073709551616<18446744073709551616):=mac2 a.a.toNat b.c.toNat 0 c01 la0 lb2 oE lc01
 generalize ((a.a.toNat*b.c.toNat%18446744073709551616+0+0)%18446744073709551616+c01+0)%18446744073709551616=w02 at e02 lw02 ⊢
 generalize a.a.toNat*b.c.toNat/18446744073709551616+(a.a.toNat*b.c.toNat%18446744073709551616+0+0)/18446744073709551616+((a.a.toNat*b.c.toNat%18446744073709551616+0+0)%18446744073709551616+c01+0)/18446744073709551616=c02 at e02 lc02 ⊢
 refine W.keep (lC (k:=2) rfl (lC (k:=3) rfl (lC (k:=4) rfl (lC (k:=5) rfl (lC (k:=6) rfl (lC (k:=7) rfl (lC (k:=13) rfl (lC (k:=14) rfl (lC (k:=18) rfl (lC (k:=19) rfl lN)))))))))) ?_
 repeat refine s4 ?_;try intro
 refine o_indexV (i:=3) rfl rfl rfl rfl oE rfl ?_
 repeat refine s4 ?_;try intro
 refine cV (mul64_spec a.a.toNat b.d.toNat la0 lb3) ?_
 repeat refine s4 ?_;try intro
 refine o_add64 (b:=0) (c:=0) rfl rfl rfl rfl rfl rfl oE ?_
 repeat refine s4 ?_;try intro
 refine o_int rfl rfl rfl rfl (u_add _ _ (mac1 a.a.toNat b.d.toNat 0 la0 lb3 oE)) ?_
 repeat refine s4 ?_;try intro
 refine o_add64  (c:=0) rfl rfl rfl rfl rfl rfl oE ?_
 repeat refine s4 ?_;try intro
 refine o_int rfl rfl rfl rfl (u_add _ _ (mac2 a.a.toNat b.d.toNat 0 c02 la0 lb3 oE lc02)) ?_
 repeat ((fail_if_success (refine W.region ?_));first|refine stp ?_|(refine sti ?_;intro _)|refine stf ?_|(refine stb ?_;intro _))
 have e03:Hid _:=mac3 a.a.toNat b.d.toNat 0 c02
 have lw03:Hid (((a.a.toNat*b.d.toNat%18446744073709551616+0+0)%18446744073709551616+c02+0)%18446744073709551616<18446744073709551616):=Nat.mod_lt _ oE
 have lc03:Hid (a.a.toNat*b.d.toNat/18446744073709551616+(a.a.toNat*b.d.toNat%18446744073709551616+0+0)/18446744073709551616+((a.a.toNat*b.d.toNat%18446744073709551616+0+0)%18446744073709551616+c02+0)/18446744073709551616<18446744073709551616):=mac2 a.a.toNat b.d.toNat 0 c02 la0 lb3 oE lc02
 generalize ((a.a.toNat*b.d.toNat%18446744073709551616+0+0)%18446744073709551616+c02+0)%18446744073709551616=w03 at e03 lw03 ⊢
 generalize a.a.toNat*b.d.toNat/18446744073709551616+(a.a.toNat*b.d.toNat%18446744073709551616+0+0)/18446744073709551616+((a.a.toNat*b.d.toNat%18446744073709551616+0+0)%18446744073709551616+c02+0)/18446744073709551616=c03 at e03 lc03 ⊢
 refine W.keep (lC (k:=2) rfl (lC (k:=3) rfl (lC (k:=4) rfl (lC (k:=5) rfl (lC (k:=6) rfl (lC (k:=7) rfl (lC (k:=13) rfl (lC (k:=14) rfl (lC (k:=18) rfl (lC (k:=19) rfl lN)))))))))) ?_
 have r0:Hid (w00+18446744073709551616*w01+340282366920938463463374607431768211456*w02+6277101735386680763835789423207666416102355444464034512896*w03+115792089237316195423570985008687907853269984665640564039457584007913129639936*c03=1*(a.a.toNat*b.a.toNat)+18446744073709551616*(a.a.toNat*b.b.toNat)+340282366920938463463374607431768211456*(a.a.toNat*b.c.toNat)+6277101735386680763835789423207666416102355444464034512896*(a.a.toNat*b.d.toNat)+(0+18446744073709551616*0+340282366920938463463374607431768211456*0+6277101735386680763835789423207666416102355444464034512896*0)):=by
  simp only [Hid] at e00 e01 e02 e03 ⊢
  omega
 clear e00 e01 e02 e03
 repeat refine s4 ?_;try intro
 repeat refine s4 ?_;try intro
 refine o_indexV (i:=1) rfl rfl rfl rfl oE rfl ?_
 repeat refine s4 ?_;try intro
 refine W.loopN 5 ?_
 repeat refine s4 ?_;try intro
 refine o_indexV (i:=0) rfl rfl rfl rfl oE rfl ?_
 repeat refine s4 ?_;try intro
 refine cV (mul64_spec a.b.toNat b.a.toNat la1 lb0) ?_
 repeat refine s4 ?_;try intro
 refine o_add64  (c:=0) rfl rfl rfl rfl rfl rfl oE ?_
 repeat refine s4 ?_;try intro
 refine o_int rfl rfl rfl rfl (u_add _ _ (mac1 a.b.toNat b.a.toNat w01 la1 lb0 lw01)) ?_
 repeat refine s4 ?_;try intro
 refine o_add64 (b:=0) (c:=0) rfl rfl rfl rfl rfl rfl oE ?_
 repeat refine s4 ?_;try intro
 refine o_int rfl rfl rfl rfl (u_add _ _ (mac2 a.b.toNat b.a.toNat w01 0 la1 lb0 lw01 oE)) ?_
 repeat ((fail_if_success (refine W.region ?_));first|refine stp ?_|(refine sti ?_;intro _)|refine stf ?_|(refine stb ?_;intro _))
 have e10:Hid _:=mac3 a.b.toNat b.a.toNat w01 0
 have lw10:Hid (((a.b.toNat*b.a.toNat%18446744073709551616+w01+0)%18446744073709551616+0+0)%18446744073709551616<18446744073709551616):=Nat.mod_lt _ oE
 have lc10:Hid (a.b.toNat*b.a.toNat/18446744073709551616+(a.b.toNat*b.a.toNat%18446744073709551616+w01+0)/18446744073709551616+((a.b.toNat*b.a.toNat%18446744073709551616+w01+0)%18446744073709551616+0+0)/18446744073709551616<18446744073709551616):=mac2 a.b.toNat b.a.toNat w01 0 la1 lb0 lw01 oE
 generalize ((a.b.toNat*b.a.toNat%18446744073709551616+w01+0)%18446744073709551616+0+0)%18446744073709551616=w10 at e10 lw10 ⊢
 generalize a.b.toNat*b.a.toNat/18446744073709551616+(a.b.toNat*b.a.toNat%18446744073709551616+w01+0)/18446744073709551616+((a.b.toNat*b.a.toNat%18446744073709551616+w01+0)%18446744073709551616+0+0)/18446744073709551616=c10 at e10 lc10 ⊢
 refine W.keep (lC (k:=2) rfl (lC (k:=3) rfl (lC (k:=4) rfl (lC (k:=5) rfl (lC (k:=6) rfl (lC (k:=7) rfl (lC (k:=13) rfl (lC (k:=14) rfl (lC (k:=18) rfl (lC (k:=19) rfl lN)))))))))) ?_
 repeat refine s4 ?_;try intro
 refine o_indexV (i:=1) rfl rfl rfl rfl oE rfl ?_
 repeat refine s4 ?_;try intro
 refine cV (mul64_spec a.b.toNat b.b.toNat la1 lb1) ?_
 repeat refine s4 ?_;try intro
 refine o_add64  (c:=0) rfl rfl rfl rfl rfl rfl oE ?_
 repeat refine s4 ?_;try intro
 refine o_int rfl rfl rfl rfl (u_add _ _ (mac1 a.b.toNat b.b.toNat w02 la1 lb1 lw02)) ?_
 repeat refine s4 ?_;try intro
 refine o_add64  (c:=0) rfl rfl rfl rfl rfl rfl oE ?_
 repeat refine s4 ?_;try intro
 refine o_int rfl rfl rfl rfl (u_add _ _ (mac2 a.b.toNat b.b.toNat w02 c10 la1 lb1 lw02 lc10)) ?_
 repeat ((fail_if_success (refine W.region ?_));first|refine stp ?_|(refine sti ?_;intro _)|refine stf ?_|(refine stb ?_;intro _))
 have e11:Hid _:=mac3 a.b.toNat b.b.toNat w02 c10
 have lw11:Hid (((a.b.toNat*b.b.toNat%18446744073709551616+w02+0)%18446744073709551616+c10+0)%18446744073709551616<18446744073709551616):=Nat.mod_lt _ oE
 have lc11:Hid (a.b.toNat*b.b.toNat/18446744073709551616+(a.b.toNat*b.b.toNat%18446744073709551616+w02+0)/18446744073709551616+((a.b.toNat*b.b.toNat%18446744073709551616+w02+0)%18446744073709551616+c10+0)/18446744073709551616<18446744073709551616):=mac2 a.b.toNat b.b.toNat w02 c10 la1 lb1 lw02 lc10
 generalize ((a.b.toNat*b.b.toNat%18446744073709551616+w02+0)%18446744073709551616+c10+0)%18446744073709551616=w11 at e11 lw11 ⊢
 generalize a.b.toNat*b.b.toNat/18446744073709551616+(a.b.toNat*b.b.toNat%18446744073709551616+w02+0)/18446744073709551616+((a.b.toNat*b.b.toNat%18446744073709551616+w02+0)%18446744073709551616+c10+0)/18446744073709551616=c11 at e11 lc11 ⊢
 refine W.keep (lC (k:=2) rfl (lC (k:=3) rfl (lC (k:=4) rfl (lC (k:=5) rfl (lC (k:=6) rfl (lC (k:=7) rfl (lC (k:=13) rfl (lC (k:=14) rfl (lC (k:=18) rfl (lC (k:=19) rfl lN)))))))))) ?_
 repeat refine s4 ?_;try intro
 refine o_indexV (i:=2) rfl rfl rfl rfl oE rfl ?_
 repeat refine s4 ?_;try intro
 refine cV (mul64_spec a.b.toNat b.c.toNat la1 lb2) ?_
 repeat refine s4 ?_;try intro
 refine o_add64  (c:=0) rfl rfl rfl rfl rfl rfl oE ?_
 repeat refine s4 ?_;try intro
 refine o_int rfl rfl rfl rfl (u_add _ _ (mac1 a.b.toNat b.c.toNat w03 la1 lb2 lw03)) ?_
 repeat refine s4 ?_;try intro
 refine o_add64  (c:=0) rfl rfl rfl rfl rfl rfl oE ?_
 repeat refine s4 ?_;try intro
 refine o_int rfl rfl rfl rfl (u_add _ _ (mac2 a.b.toNat b.c.toNat w03 c11 la1 lb2 lw03 lc11)) ?_
 repeat ((fail_if_success (refine W.region ?_));first|refine stp ?_|(refine sti ?_;intro _)|refine stf ?_|(refine stb ?_;intro _))
 have e12:Hid _:=mac3 a.b.toNat b.c.toNat w03 c11
 have lw12:Hid (((a.b.toNat*b.c.toNat%18446744073709551616+w03+0)%18446744073709551616+c11+0)%18446744073709551616<18446744073709551616):=Nat.mod_lt _ oE
 have lc12:Hid (a.b.toNat*b.c.toNat/18446744073709551616+(a.b.toNat*b.c.toNat%18446744073709551616+w03+0)/18446744073709551616+((a.b.toNat*b.c.toNat%18446744073709551616+w03+0)%18446744073709551616+c11+0)/18446744073709551616<18446744073709551616):=mac2 a.b.toNat b.c.toNat w03 c11 la1 lb2 lw03 lc11
 generalize ((a.b.toNat*b.c.toNat%18446744073709551616+w03+0)%18446744073709551616+c11+0)%18446744073709551616=w12 at e12 lw12 ⊢
 generalize a.b.toNat*b.c.toNat/18446744073709551616+(a.b.toNat*b.c.toNat%18446744073709551616+w03+0)/18446744073709551616+((a.b.toNat*b.c.toNat%18446744073709551616+w03+0)%18446744073709551616+c11+0)/18446744073709551616=c12 at e12 lc12 ⊢
 refine W.keep (lC (k:=2) rfl (lC (k:=3) rfl (lC (k:=4) rfl (lC (k:=5) rfl (lC (k:=6) rfl (lC (k:=7) rfl (lC (k:=13) rfl (lC (k:=14) rfl (lC (k:=18) rfl (lC (k:=19) rfl lN)))))))))) ?_
 repeat refine s4 ?_;try intro
 refine o_indexV (i:=3) rfl rfl rfl rfl oE rfl ?_
 repeat refine s4 ?_;try intro
 refine cV (mul64_spec a.b.toNat b.d.toNat la1 lb3) ?_
 repeat refine s4 ?_;try intro
 refine o_add64  (c:=0) rfl rfl rfl rfl rfl rfl oE ?_
 repeat refine s4 ?_;try intro
 refine o_int rfl rfl rfl rfl (u_add _ _ (mac1 a.b.toNat b.d.toNat c03 la1 lb3 lc03)) ?_
 repeat refine s4 ?_;try intro
 refine o_add64  (c:=0) rfl rfl rfl rfl rfl rfl oE ?_
 repeat refine s4 ?_;try intro
 refine o_int rfl rfl rfl rfl (u_add _ _ (mac2 a.b.toNat b.d.toNat c03 c12 la1 lb3 lc03 lc12)) ?_
 repeat ((fail_if_success (refine W.region ?_));first|refine stp ?_|(refine sti ?_;intro _)|refine stf ?_|(refine stb ?_;intro _))
 have e13:Hid _:=mac3 a.b.toNat b.d.toNat c03 c12
 have lw13:Hid (((a.b.toNat*b.d.toNat%18446744073709551616+c03+0)%18446744073709551616+c12+0)%18446744073709551616<18446744073709551616):=Nat.mod_lt _ oE
 have lc13:Hid (a.b.toNat*b.d.toNat/18446744073709551616+(a.b.toNat*b.d.toNat%18446744073709551616+c03+0)/18446744073709551616+((a.b.toNat*b.d.toNat%18446744073709551616+c03+0)%18446744073709551616+c12+0)/18446744073709551616<18446744073709551616):=mac2 a.b.toNat b.d.toNat c03 c12 la1 lb3 lc03 lc12
 generalize ((a.b.toNat*b.d.toNat%18446744073709551616+c03+0)%18446744073709551616+c12+0)%18446744073709551616=w13 at e13 lw13 ⊢
 generalize a.b.toNat*b.d.toNat/18446744073709551616+(a.b.toNat*b.d.toNat%18446744073709551616+c03+0)/18446744073709551616+((a.b.toNat*b.d.toNat%18446744073709551616+c03+0)%18446744073709551616+c12+0)/18446744073709551616=c13 at e13 lc13 ⊢
 refine W.keep (lC (k:=2) rfl (lC (k:=3) rfl (lC (k:=4) rfl (lC (k:=5) rfl (lC (k:=6) rfl (lC (k:=7) rfl (lC (k:=13) rfl (lC (k:=14) rfl (lC (k:=18) rfl (lC (k:=19) rfl lN)))))))))) ?_
 have r1:Hid (w10+18446744073709551616*w11+340282366920938463463374607431768211456*w12+6277101735386680763835789423207666416102355444464034512896*w13+115792089237316195423570985008687907853269984665640564039457584007913129639936*c13=1*(a.b.toNat*b.a.toNat)+18446744073709551616*(a.b.toNat*b.b.toNat)+340282366920938463463374607431768211456*(a.b.toNat*b.c.toNat)+6277101735386680763835789423207666416102355444464034512896*(a.b.toNat*b.d.toNat)+(w01+18446744073709551616*w02+340282366920938463463374607431768211456*w03+6277101735386680763835789423207666416102355444464034512896*c03)):=by
  simp only [Hid] at e10 e11 e12 e13 ⊢
  omega
 clear e10 e11 e12 e13
 repeat refine s4 ?_;try intro
 repeat refine s4 ?_;try intro
 refine o_indexV (i:=2) rfl rfl rfl rfl oE rfl ?_
 repeat refine s4 ?_;try intro
 refine W.loopN 5 ?_
 repeat refine s4 ?_;try intro
 refine o_indexV (i:=0) rfl rfl rfl rfl oE rfl ?_
 repeat refine s4 ?_;try intro
 refine cV (mul64_spec a.c.toNat b.a.toNat la2 lb0) ?_
 repeat refine s4 ?_;try intro
 refine o_add64  (c:=0) rfl rfl rfl rfl rfl rfl oE ?_
 repeat refine s4 ?_;try intro
 refine o_int rfl rfl rfl rfl (u_add _ _ (mac1 a.c.toNat b.a.toNat w11 la2 lb0 lw11)) ?_
 repeat refine s4 ?_;try intro
 refine o_add64 (b:=0) (c:=0) rfl rfl rfl rfl rfl rfl oE ?_
 repeat refine s4 ?_;try intro
 refine o_int rfl rfl rfl rfl (u_add _ _ (mac2 a.c.toNat b.a.toNat w11 0 la2 lb0 lw11 oE)) ?_
 repeat ((fail_if_success (refine W.region ?_));first|refine stp ?_|(refine sti ?_;intro _)|refine stf ?_|(refine stb ?_;intro _))
 have e20:Hid _:=mac3 a.c.toNat b.a.toNat w11 0
 have lw20:Hid (((a.c.toNat*b.a.toNat%18446744073709551616+w11+0)%18446744073709551616+0+0)%18446744073709551616<18446744073709551616):=Nat.mod_lt _ oE
 have lc20:Hid (a.c.toNat*b.a.toNat/18446744073709551616+(a.c.toNat*b.a.toNat%18446744073709551616+w11+0)/18446744073709551616+((a.c.toNat*b.a.toNat%18446744073709551616+w11+0)%18446744073709551616+0+0)/18446744073709551616<18446744073709551616):=mac2 a.c.toNat b.a.toNat w11 0 la2 lb0 lw11 oE
 generalize ((a.c.toNat*b.a.toNat%18446744073709551616+w11+0)%18446744073709551616+0+0)%18446744073709551616=w20 at e20 lw20 ⊢
 generalize a.c.toNat*b.a.toNat/18446744073709551616+(a.c.toNat*b.a.toNat%18446744073709551616+w11+0)/18446744073709551616+((a.c.toNat*b.a.toNat%18446744073709551616+w11+0)%18446744073709551616+0+0)/18446744073709551616=c20 at e20 lc20 ⊢
 refine W.keep (lC (k:=2) rfl (lC (k:=3) rfl (lC (k:=4) rfl (lC (k:=5) rfl (lC (k:=6) rfl (lC (k:=7) rfl (lC (k:=13) rfl (lC (k:=14) rfl (lC (k:=18) rfl (lC (k:=19) rfl lN)))))))))) ?_
 repeat refine s4 ?_;try intro
 refine o_indexV (i:=1) rfl rfl rfl rfl oE rfl ?_
 repeat refine s4 ?_;try intro
 refine cV (mul64_spec a.c.toNat b.b.toNat la2 lb1) ?_
 repeat refine s4 ?_;try intro
 refine o_add64  (c:=0) rfl rfl rfl rfl rfl rfl oE ?_
 repeat refine s4 ?_;try intro
 refine o_int rfl rfl rfl rfl (u_add _ _ (mac1 a.c.toNat b.b.toNat w12 la2 lb1 lw12)) ?_
 repeat refine s4 ?_;try intro
 refine o_add64  (c:=0) rfl rfl rfl rfl rfl rfl oE ?_
 repeat refine s4 ?_;try intro
 refine o_int rfl rfl rfl rfl (u_add _ _ (mac2 a.c.toNat b.b.toNat w12 c20 la2 lb1 lw12 lc20)) ?_
 repeat ((fail_if_success (refine W.region ?_));first|refine stp ?_|(refine sti ?_;intro _)|refine stf ?_|(refine stb ?_;intro _))
 have e21:Hid _:=mac3 a.c.toNat b.b.toNat w12 c20
 have lw21:Hid (((a.c.toNat*b.b.toNat%18446744073709551616+w12+0)%18446744073709551616+c20+0)%18446744073709551616<18446744073709551616):=Nat.mod_lt _ oE
 have lc21:Hid (a.c.toNat*b.b.toNat/18446744073709551616+(a.c.toNat*b.b.toNat%18446744073709551616+w12+0)/18446744073709551616+((a.c.toNat*b.b.toNat%18446744073709551616+w12+0)%18446744073709551616+c20+0)/18446744073709551616<18446744073709551616):=mac2 a.c.toNat b.b.toNat w12 c20 la2 lb1 lw12 lc20
 generalize ((a.c.toNat*b.b.toNat%18446744073709551616+w12+0)%18446744073709551616+c20+0)%18446744073709551616=w21 at e21 lw21 ⊢
 generalize a.c.toNat*b.b.toNat/18446744073709551616+(a.c.toNat*b.b.toNat%18446744073709551616+w12+0)/18446744073709551616+((a.c.toNat*b.b.toNat%18446744073709551616+w12+0)%18446744073709551616+c20+0)/18446744073709551616=c21 at e21 lc21 ⊢
 refine W.keep (lC (k:=2) rfl (lC (k:=3) rfl (lC (k:=4) rfl (lC (k:=5) rfl (lC (k:=6) rfl (lC (k:=7) rfl (lC (k:=13) rfl (lC (k:=14) rfl (lC (k:=18) rfl (lC (k:=19) rfl lN)))))))))) ?_
 repeat refine s4 ?_;try intro
 refine o_indexV (i:=2) rfl rfl rfl rfl oE rfl ?_
 repeat refine s4 ?_;try intro
 refine cV (mul64_spec a.c.toNat b.c.toNat la2 lb2) ?_
 repeat refine s4 ?_;try intro
 refine o_add64  (c:=0) rfl rfl rfl rfl rfl rfl oE ?_
 repeat refine s4 ?_;try intro
 refine o_int rfl rfl rfl rfl (u_add _ _ (mac1 a.c.toNat b.c.toNat w13 la2 lb2 lw13)) ?_
 repeat refine s4 ?_;try intro
 refine o_add64  (c:=0) rfl rfl rfl rfl rfl rfl oE ?_
 repeat refine s4 ?_;try intro
 refine o_int rfl rfl rfl rfl (u_add _ _ (mac2 a.c.toNat b.c.toNat w13 c21 la2 lb2 lw13 lc21)) ?_
 repeat ((fail_if_success (refine W.region ?_));first|refine stp ?_|(refine sti ?_;intro _)|refine stf ?_|(refine stb ?_;intro _))
 have e22:Hid _:=mac3 a.c.toNat b.c.toNat w13 c21
 have lw22:Hid (((a.c.toNat*b.c.toNat%18446744073709551616+w13+0)%18446744073709551616+c21+0)%18446744073709551616<18446744073709551616):=Nat.mod_lt _ oE
 have lc22:Hid (a.c.toNat*b.c.toNat/18446744073709551616+(a.c.toNat*b.c.toNat%18446744073709551616+w13+0)/18446744073709551616+((a.c.toNat*b.c.toNat%18446744073709551616+w13+0)%18446744073709551616+c21+0)/18446744073709551616<18446744073709551616):=mac2 a.c.toNat b.c.toNat w13 c21 la2 lb2 lw13 lc21
 generalize ((a.c.toNat*b.c.toNat%18446744073709551616+w13+0)%18446744073709551616+c21+0)%18446744073709551616=w22 at e22 lw22 ⊢
 generalize a.c.toNat*b.c.toNat/18446744073709551616+(a.c.toNat*b.c.toNat%18446744073709551616+w13+0)/18446744073709551616+((a.c.toNat*b.c.toNat%18446744073709551616+w13+0)%18446744073709551616+c21+0)/18446744073709551616=c22 at e22 lc22 ⊢
 refine W.keep (lC (k:=2) rfl (lC (k:=3) rfl (lC (k:=4) rfl (lC (k:=5) rfl (lC (k:=6) rfl (lC (k:=7) rfl (lC (k:=13) rfl (lC (k:=14) rfl (lC (k:=18) rfl (lC (k:=19) rfl lN)))))))))) ?_
 repeat refine s4 ?_;try intro
 refine o_indexV (i:=3) rfl rfl rfl rfl oE rfl ?_
 repeat refine s4 ?_;try intro
 refine cV (mul64_spec a.c.toNat b.d.toNat la2 lb3) ?_
 repeat refine s4 ?_;try intro
 refine o_add64  (c:=0) rfl rfl rfl rfl rfl rfl oE ?_
 repeat refine s4 ?_;try intro
 refine o_int rfl rfl rfl rfl (u_add _ _ (mac1 a.c.toNat b.d.toNat c13 la2 lb3 lc13)) ?_
 repeat refine s4 ?_;try intro
 refine o_add64  (c:=0) rfl rfl rfl rfl rfl rfl oE ?_
 repeat refine s4 ?_;try intro
 refine o_int rfl rfl rfl rfl (u_add _ _ (mac2 a.c.toNat b.d.toNat c13 c22 la2 lb3 lc13 lc22)) ?_
 repeat ((fail_if_success (refine W.region ?_));first|refine stp ?_|(refine sti ?_;intro _)|refine stf ?_|(refine stb ?_;intro _))
 have e23:Hid _:=mac3 a.c.toNat b.d.toNat c13 c22
 have lw23:Hid (((a.c.toNat*b.d.toNat%18446744073709551616+c13+0)%18446744073709551616+c22+0)%18446744073709551616<18446744073709551616):=Nat.mod_lt _ oE
 have lc23:Hid (a.c.toNat*b.d.toNat/18446744073709551616+(a.c.toNat*b.d.toNat%18446744073709551616+c13+0)/18446744073709551616+((a.c.toNat*b.d.toNat%18446744073709551616+c13+0)%18446744073709551616+c22+0)/18446744073709551616<18446744073709551616):=mac2 a.c.toNat b.d.toNat c13 c22 la2 lb3 lc13 lc22
 generalize ((a.c.toNat*b.d.toNat%18446744073709551616+c13+0)%18446744073709551616+c22+0)%18446744073709551616=w23 at e23 lw23 ⊢
 generalize a.c.toNat*b.d.toNat/18446744073709551616+(a.c.toNat*b.d.toNat%18446744073709551616+c13+0)/18446744073709551616+((a.c.toNat*b.d.toNat%18446744073709551616+c13+0)%18446744073709551616+c22+0)/18446744073709551616=c23 at e23 lc23 ⊢
 refine W.keep (lC (k:=2) rfl (lC (k:=3) rfl (lC (k:=4) rfl (lC (k:=5) rfl (lC (k:=6) rfl (lC (k:=7) rfl (lC (k:=13) rfl (lC (k:=14) rfl (lC (k:=18) rfl (lC (k:=19) rfl lN)))))))))) ?_
 have r2:Hid (w20+18446744073709551616*w21+340282366920938463463374607431768211456*w22+6277101735386680763835789423207666416102355444464034512896*w23+115792089237316195423570985008687907853269984665640564039457584007913129639936*c23=1*(a.c.toNat*b.a.toNat)+18446744073709551616*(a.c.toNat*b.b.toNat)+340282366920938463463374607431768211456*(a.c.toNat*b.c.toNat)+6277101735386680763835789423207666416102355444464034512896*(a.c.toNat*b.d.toNat)+(w11+18446744073709551616*w12+340282366920938463463374607431768211456*w13+6277101735386680763835789423207666416102355444464034512896*c13)):=by
  simp only [Hid] at e20 e21 e22 e23 ⊢
  omega
 clear e20 e21 e22 e23
 repeat refine s4 ?_;try intro
 repeat refine s4 ?_;try intro
 refine o_indexV (i:=3) rfl rfl rfl rfl oE rfl ?_
 repeat refine s4 ?_;try intro
 refine W.loopN 5 ?_
 repeat refine s4 ?_;try intro
 refine o_indexV (i:=0) rfl rfl rfl rfl oE rfl ?_
 repeat refine s4 ?_;try intro
 refine cV (mul64_spec a.d.toNat b.a.toNat la3 lb0) ?_
 repeat refine s4 ?_;try intro
 refine o_add64  (c:=0) rfl rfl rfl rfl rfl rfl oE ?_
 repeat refine s4 ?_;try intro
 refine o_int rfl rfl rfl rfl (u_add _ _ (mac1 a.d.toNat b.a.toNat w21 la3 lb0 lw21)) ?_
 repeat refine s4 ?_;try intro
 refine o_add64 (b:=0) (c:=0) rfl rfl rfl rfl rfl rfl oE ?_
 repeat refine s4 ?_;try intro
 refine o_int rfl rfl rfl rfl (u_add _ _ (mac2 a.d.toNat b.a.toNat w21 0 la3 lb0 lw21 oE)) ?_
 repeat ((fail_if_success (refine W.region ?_));first|refine stp ?_|(refine sti ?_;intro _)|refine stf ?_|(refine stb ?_;intro _))
 have e30:Hid _:=mac3 a.d.toNat b.a.toNat w21 0
 have lw30:Hid (((a.d.toNat*b.a.toNat%18446744073709551616+w21+0)%18446744073709551616+0+0)%18446744073709551616<18446744073709551616):=Nat.mod_lt _ oE
 have lc30:Hid (a.d.toNat*b.a.toNat/18446744073709551616+(a.d.toNat*b.a.toNat%18446744073709551616+w21+0)/18446744073709551616+((a.d.toNat*b.a.toNat%18446744073709551616+w21+0)%18446744073709551616+0+0)/18446744073709551616<18446744073709551616):=mac2 a.d.toNat b.a.toNat w21 0 la3 lb0 lw21 oE
 generalize ((a.d.toNat*b.a.toNat%18446744073709551616+w21+0)%18446744073709551616+0+0)%18446744073709551616=w30 at e30 lw30 ⊢
 generalize a.d.toNat*b.a.toNat/18446744073709551616+(a.d.toNat*b.a.toNat%18446744073709551616+w21+0)/18446744073709551616+((a.d.toNat*b.a.toNat%18446744073709551616+w21+0)%18446744073709551616+0+0)/18446744073709551616=c30 at e30 lc30 ⊢
 refine W.keep (lC (k:=2) rfl (lC (k:=3) rfl (lC (k:=4) rfl (lC (k:=5) rfl (lC (k:=6) rfl (lC (k:=7) rfl (lC (k:=13) rfl (lC (k:=14) rfl (lC (k:=18) rfl (lC (k:=19) rfl lN)))))))))) ?_
 repeat refine s4 ?_;try intro
 refine o_indexV (i:=1) rfl rfl rfl rfl oE rfl ?_
 repeat refine s4 ?_;try intro
 refine cV (mul64_spec a.d.toNat b.b.toNat la3 lb1) ?_
 repeat refine s4 ?_;try intro
 refine o_add64  (c:=0) rfl rfl rfl rfl rfl rfl oE ?_
 repeat refine s4 ?_;try intro
 refine o_int rfl rfl rfl rfl (u_add _ _ (mac1 a.d.toNat b.b.toNat w22 la3 lb1 lw22)) ?_
 repeat refine s4 ?_;try intro
 refine o_add64  (c:=0) rfl rfl rfl rfl rfl rfl oE ?_
 repeat refine s4 ?_;try intro
 refine o_int rfl rfl rfl rfl (u_add _ _ (mac2 a.d.toNat b.b.toNat w22 c30 la3 lb1 lw22 lc30)) ?_
 repeat ((fail_if_success (refine W.region ?_));first|refine stp ?_|(refine sti ?_;intro _)|refine stf ?_|(refine stb ?_;intro _))
 have e31:Hid _:=mac3 a.d.toNat b.b.toNat w22 c30
 have lw31:Hid (((a.d.toNat*b.b.toNat%18446744073709551616+w22+0)%18446744073709551616+c30+0)%18446744073709551616<18446744073709551616):=Nat.mod_lt _ oE
 have lc31:Hid (a.d.toNat*b.b.toNat/18446744073709551616+(a.d.toNat*b.b.toNat%18446744073709551616+w22+0)/18446744073709551616+((a.d.toNat*b.b.toNat%18446744073709551616+w22+0)%18446744073709551616+c30+0)/18446744073709551616<18446744073709551616):=mac2 a.d.toNat b.b.toNat w22 c30 la3 lb1 lw22 lc30
 generalize ((a.d.toNat*b.b.toNat%18446744073709551616+w22+0)%18446744073709551616+c30+0)%18446744073709551616=w31 at e31 lw31 ⊢
 generalize a.d.toNat*b.b.toNat/18446744073709551616+(a.d.toNat*b.b.toNat%18446744073709551616+w22+0)/18446744073709551616+((a.d.toNat*b.b.toNat%18446744073709551616+w22+0)%18446744073709551616+c30+0)/18446744073709551616=c31 at e31 lc31 ⊢
 refine W.keep (lC (k:=2) rfl (lC (k:=3) rfl (lC (k:=4) rfl (lC (k:=5) rfl (lC (k:=6) rfl (lC (k:=7) rfl (lC (k:=13) rfl (lC (k:=14) rfl (lC (k:=18) rfl (lC (k:=19) rfl lN)))))))))) ?_
 repeat refine s4 ?_;try intro
 refine o_indexV (i:=2) rfl rfl rfl rfl oE rfl ?_
 repeat refine s4 ?_;try intro
 refine cV (mul64_spec a.d.toNat b.c.toNat la3 lb2) ?_
 repeat refine s4 ?_;try intro
 refine o_add64  (c:=0) rfl rfl rfl rfl rfl rfl oE ?_
 repeat refine s4 ?_;try intro
 refine o_int rfl rfl rfl rfl (u_add _ _ (mac1 a.d.toNat b.c.toNat w23 la3 lb2 lw23)) ?_
 repeat refine s4 ?_;try intro
 refine o_add64  (c:=0) rfl rfl rfl rfl rfl rfl oE ?_
 repeat refine s4 ?_;try intro
 refine o_int rfl rfl rfl rfl (u_add _ _ (mac2 a.d.toNat b.c.toNat w23 c31 la3 lb2 lw23 lc31)) ?_
 repeat ((fail_if_success (refine W.region ?_));first|refine stp ?_|(refine sti ?_;intro _)|refine stf ?_|(refine stb ?_;intro _))
 have e32:Hid _:=mac3 a.d.toNat b.c.toNat w23 c31
 have lw32:Hid (((a.d.toNat*b.c.toNat%18446744073709551616+w23+0)%18446744073709551616+c31+0)%18446744073709551616<18446744073709551616):=Nat.mod_lt _ oE
 have lc32:Hid (a.d.toNat*b.c.toNat/18446744073709551616+(a.d.toNat*b.c.toNat%18446744073709551616+w23+0)/18446744073709551616+((a.d.toNat*b.c.toNat%18446744073709551616+w23+0)%18446744073709551616+c31+0)/18446744073709551616<18446744073709551616):=mac2 a.d.toNat b.c.toNat w23 c31 la3 lb2 lw23 lc31
 generalize ((a.d.toNat*b.c.toNat%18446744073709551616+w23+0)%18446744073709551616+c31+0)%18446744073709551616=w32 at e32 lw32 ⊢
 generalize a.d.toNat*b.c.toNat/18446744073709551616+(a.d.toNat*b.c.toNat%18446744073709551616+w23+0)/18446744073709551616+((a.d.toNat*b.c.toNat%18446744073709551616+w23+0)%18446744073709551616+c31+0)/18446744073709551616=c32 at e32 lc32 ⊢
 refine W.keep (lC (k:=2) rfl (lC (k:=3) rfl (lC (k:=4) rfl (lC (k:=5) rfl (lC (k:=6) rfl (lC (k:=7) rfl (lC (k:=13) rfl (lC (k:=14) rfl (lC (k:=18) rfl (lC (k:=19) rfl lN)))))))))) ?_
 repeat refine s4 ?_;try intro
 refine o_indexV (i:=3) rfl rfl rfl rfl oE rfl ?_
 repeat refine s4 ?_;try intro
 refine cV (mul64_spec a.d.toNat b.d.toNat la3 lb3) ?_
 repeat refine s4 ?_;try intro
 refine o_add64  (c:=0) rfl rfl rfl rfl rfl rfl oE ?_
 repeat refine s4 ?_;try intro
 refine o_int rfl rfl rfl rfl (u_add _ _ (mac1 a.d.toNat b.d.toNat c23 la3 lb3 lc23)) ?_
 repeat refine s4 ?_;try intro
 refine o_add64  (c:=0) rfl rfl rfl rfl rfl rfl oE ?_
 repeat refine s4 ?_;try intro
 refine o_int rfl rfl rfl rfl (u_add _ _ (mac2 a.d.toNat b.d.toNat c23 c32 la3 lb3 lc23 lc32)) ?_
 repeat ((fail_if_success (refine W.region ?_));first|refine stp ?_|(refine sti ?_;intro _)|refine stf ?_|(refine stb ?_;intro _))
 have e33:Hid _:=mac3 a.d.toNat b.d.toNat c23 c32
 have lw33:Hid (((a.d.toNat*b.d.toNat%18446744073709551616+c23+0)%18446744073709551616+c32+0)%18446744073709551616<18446744073709551616):=Nat.mod_lt _ oE
 have lc33:Hid (a.d.toNat*b.d.toNat/18446744073709551616+(a.d.toNat*b.d.toNat%18446744073709551616+c23+0)/18446744073709551616+((a.d.toNat*b.d.toNat%18446744073709551616+c23+0)%18446744073709551616+c32+0)/18446744073709551616<18446744073709551616):=mac2 a.d.toNat b.d.toNat c23 c32 la3 lb3 lc23 lc32
 generalize ((a.d.toNat*b.d.toNat%18446744073709551616+c23+0)%18446744073709551616+c32+0)%18446744073709551616=w33 at e33 lw33 ⊢
 generalize a.d.toNat*b.d.toNat/18446744073709551616+(a.d.toNat*b.d.toNat%18446744073709551616+c23+0)/18446744073709551616+((a.d.toNat*b.d.toNat%18446744073709551616+c23+0)%18446744073709551616+c32+0)/18446744073709551616=c33 at e33 lc33 ⊢
 refine W.keep (lC (k:=2) rfl (lC (k:=3) rfl (lC (k:=4) rfl (lC (k:=5) rfl (lC (k:=6) rfl (lC (k:=7) rfl (lC (k:=13) rfl (lC (k:=14) rfl (lC (k:=18) rfl (lC (k:=19) rfl lN)))))))))) ?_
 have r3:Hid (w30+18446744073709551616*w31+340282366920938463463374607431768211456*w32+6277101735386680763835789423207666416102355444464034512896*w33+115792089237316195423570985008687907853269984665640564039457584007913129639936*c33=1*(a.d.toNat*b.a.toNat)+18446744073709551616*(a.d.toNat*b.b.toNat)+340282366920938463463374607431768211456*(a.d.toNat*b.c.toNat)+6277101735386680763835789423207666416102355444464034512896*(a.d.toNat*b.d.toNat)+(w21+18446744073709551616*w22+340282366920938463463374607431768211456*w23+6277101735386680763835789423207666416102355444464034512896*c23)):=by
  simp only [Hid] at e30 e31 e32 e33 ⊢
  omega
 clear e30 e31 e32 e33
 repeat refine s4 ?_;try intro
 repeat refine s4 ?_;try intro
 refine G.ret rfl (.cons (.cellA rfl rfl) .nil) (Φ':=[]) (M':=[]) oY oN ⟨?_,rfl,rfl⟩
 simp only [Hid] at r0 r1 r2 r3
 exact congrArg (fun (l:List Value)=>Value.agg l.toArray) (numX (n:=a.num*b.num) (by rw [mul_parts];omega) lw00 lw10 lw20 lw30 lw31 lw32 lw33 lc33)
theorem mulmod_spec (a b n:Word):FnV prog 132 [a.v,b.v,n.v] [] (mulmodW a b n).v:=by
 have ha:=a.num_lt;have hb:=b.num_lt
 refine Fn.enter func132 rfl ntmps132 oI (fun I0 w0 => ?_)
 by_cases hn:n=Word.zero
 ·repeat refine s4 ?_;try intro
  refine o_eql (u:=n.v) (v:=Word.zero.v) rfl rfl rfl rfl (r:=true) (by simp [hn]) ?_
  repeat refine s4 ?_;try intro
  refine G.ret rfl (.cons (.cellA rfl rfl) .nil) (Φ':=[]) (M':=[]) oY oN ⟨?_,rfl,rfl⟩
  rw [mulmodW,if_pos hn];rfl
 ·have hd:=dividedX_spec (a.num*b.num) n (lt512 (Nat.mul_lt_mul'' ha hb)) hn
  repeat refine s4 ?_;try intro
  refine o_eql (u:=n.v) (v:=Word.zero.v) rfl rfl rfl rfl (r:=false) (by simp [hn]) ?_
  repeat refine s4 ?_;try intro
  refine W.draw 8 [⟨?v0_1,fun _ z=>[]⟩,⟨?v1_1,fun _ z=>[]⟩,⟨?v2_1,fun _ z=>[]⟩,⟨?v3_1,fun _ z=>[]⟩,⟨?v4_1,fun _ z=>[]⟩,⟨?v5_1,fun _ z=>[]⟩,⟨?v6_1,fun _ z=>[]⟩,⟨?v7_1,fun _ z=>[]⟩] [[],[],[0,1],[],[2,3],[4],[5],[5]] [7] kR kR kR kR ?loc_1 ?ops_1 ?rest_1
  case ops_1 =>
   simp only [AllQ,Nat.reduceAdd,and_true]
   refine ⟨?_,?_,?_,?_,?_,?_,?_,?_⟩
   all_goals (intro c z0 Φr Lr K hK;dsimp only [dstOf,kval,kfac,ancE,ancF,getD_z,getD_s,List.getElem?_cons_zero,List.getElem?_cons_succ,List.getElem?_nil,Option.getD_some,Option.getD_none,List.nil_append,List.cons_append,Option.getD] at hK ⊢)
   ·(first|refine stp ?_|refine stf ?_);exact hK z0
   ·(first|refine stp ?_|refine stf ?_);exact hK z0
   ·refine cV (product_spec a b) ?_;exact hK z0
   ·(first|refine stp ?_|refine stf ?_);exact hK z0
   ·refine cV hd ?_;exact hK z0
   iterate 3 (refine stp ?_;exact hK z0)
  case loc_1 =>
   simp only [AllL,Nat.reduceAdd,and_true]
   refine ⟨?_,?_,?_,?_,?_,?_,?_,?_⟩
   all_goals exact fun _ _ _ _=>⟨rfl,rfl⟩
  intro c
  dsimp only [dstOf,kval,kfac,ancE,ancF,getD_z,getD_s,List.getElem?_cons_zero,List.getElem?_cons_succ,List.getElem?_nil,Option.getD_some,Option.getD_none,List.nil_append,List.cons_append,List.drop_succ_cons,List.drop_zero,Option.getD]
  repeat refine s4 ?_;try intro
  refine G.ret rfl (.cons (.cellA rfl rfl) .nil) (Φ':=[]) (M':=[]) oY oN ⟨?_,rfl,rfl⟩
  rw [mulmodW,if_neg hn];rfl
end Go.Rail
