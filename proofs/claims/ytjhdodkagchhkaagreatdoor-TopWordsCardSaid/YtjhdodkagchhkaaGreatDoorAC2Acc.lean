/- word.Mul: a product. -/
import Derived.Test.YtjhdodkagchhkaaGreatDoorRailA
import Derived.Test.YtjhdodkagchhkaaGreatDoorRailC
import Derived.Test.YtjhdodkagchhkaaGreatDoorAC1Mul
import Derived.Test.YtjhdodkagchhkaaGreatDoorAEq
import Derived.Test.YtjhdodkagchhkaaGreatDoorRailB
set_option linter.unusedSimpArgs false
set_option linter.unusedVariables false
namespace Go.Rail
open Go Go.Proofs Tryz
set_option maxHeartbeats 400000
set_option maxRecDepth 4000
attribute [local irreducible] OpK G W LW wpListIn Exit.then Exit.inBlock Post rounds opRun bodyPostM intOp
set_option maxHeartbeats 4000000
theorem wmul_spec (a b:Word):FnV prog 109 [a.v,b.v] [] (mulW a b).v:=by
 have la0:Hid (a.a.toNat<18446744073709551616):=a.a.toNat_lt
 have la1:Hid (a.b.toNat<18446744073709551616):=a.b.toNat_lt
 have la2:Hid (a.c.toNat<18446744073709551616):=a.c.toNat_lt
 have la3:Hid (a.d.toNat<18446744073709551616):=a.d.toNat_lt
 have lb0:Hid (b.a.toNat<18446744073709551616):=b.a.toNat_lt
 have lb1:Hid (b.b.toNat<18446744073709551616):=b.b.toNat_lt
 have lb2:Hid (b.c.toNat<18446744073709551616):=b.c.toNat_lt
 have lb3:Hid (b.d.toNat<18446744073709551616):=b.d.toNat_lt
 refine Fn.enter func109 rfl ntmps109 oI (fun I0 w0 => ?_)
 repeat refine s4 ?_;try intro
 refine W.loopN 5 ?_
 repeat refine s4 ?_;try intro
 refine o_indexV (i:=0) rfl rfl rfl rfl oE rfl ?_
 repeat refine s4 ?_;try intro
 refine W.loopN 5 ?_
 repeat refine s4 ?_;try intro
 refine cV (mul64_spec a.a.toNat b.a.toNat la0 lb0) ?_
 repeat refine s4 ?_;try intro
 refine o_add64 (b:=0) (c:=0) rfl rfl rfl rfl rfl rfl oE ?_
 repeat refine s4 ?_;try intro
 refine o_int rfl rfl rfl rfl (u_add _ _ (mac1 a.a.toNat b.a.toNat 0 la0 lb0 oE)) ?_
 repeat refine s4 ?_;try intro
 refine o_add64 (b:=0) (c:=0) rfl rfl rfl rfl rfl rfl oE ?_
 repeat refine s4 ?_;try intro
 refine o_int rfl rfl rfl rfl (u_add _ _ (mac2 a.a.toNat b.a.toNat 0 0 la0 lb0 oE oE)) ?_
 repeat ((fail_if_success (refine W.region ?_));first|refine stp ?_|(refine sti ?_;intro _)|refine stf ?_|(refine stb ?_;intro _))
 have e00:Hid _:=mac3 a.a.toNat b.a.toNat 0 0
 have lw00:Hid (((a.a.toNat*b.a.toNat%18446744073709551616+0+0)%18446744073709551616+0+0)%18446744073709551616<18446744073709551616):=Nat.mod_lt _ oE
 have lc00:Hid (a.a.toNat*b.a.toNat/18446744073709551616+(a.a.toNat*b.a.toNat%18446744073709551616+0+0)/18446744073709551616+((a.a.toNat*b.a.toNat%18446744073709551616+0+0)%18446744073709551616+0+0)/18446744073709551616<18446744073709551616):=mac2 a.a.toNat b.a.toNat 0 0 la0 lb0 oE oE
 generalize ((a.a.toNat*b.a.toNat%18446744073709551616+0+0)%18446744073709551616+0+0)%18446744073709551616=w00 at e00 lw00 ⊢
 generalize a.a.toNat*b.a.toNat/18446744073709551616+(a.a.toNat*b.a.toNat%18446744073709551616+0+0)/18446744073709551616+((a.a.toNat*b.a.toNat%18446744073709551616+0+0)%18446744073709551616+0+0)/18446744073709551616=c00 at e00 lc00 ⊢
 refine W.keep (lC (k:=2) rfl (lC (k:=3) rfl (lC (k:=4) rfl (lC (k:=5) rfl (lC (k:=6) rfl (lC (k:=7) rfl (lC (k:=8) rfl (lC (k:=12) rfl (lC (k:=13) rfl lN))))))))) ?_
 repeat refine s4 ?_;try intro
 refine cV (mul64_spec a.a.toNat b.b.toNat la0 lb1) ?_
 repeat refine s4 ?_;try intro
 refine o_add64 (b:=0) (c:=0) rfl rfl rfl rfl rfl rfl oE ?_
 repeat refine s4 ?_;try intro
 refine o_int rfl rfl rfl rfl (u_add _ _ (mac1 a.a.toNat b.b.toNat 0 la0 lb1 oE)) ?_
 repeat refine s4 ?_;try intro
 refine o_add64  (c:=0) rfl rfl rfl rfl rfl rfl oE ?_
 repeat refine s4 ?_;try intro
 refine o_int rfl rfl rfl rfl (u_add _ _ (mac2 a.a.toNat b.b.toNat 0 c00 la0 lb1 oE lc00)) ?_
 repeat ((fail_if_success (refine W.region ?_));first|refine stp ?_|(refine sti ?_;intro _)|refine stf ?_|(refine stb ?_;intro _))
 have e01:Hid _:=mac3 a.a.toNat b.b.toNat 0 c00
 have lw01:Hid (((a.a.toNat*b.b.toNat%18446744073709551616+0+0)%18446744073709551616+c00+0)%18446744073709551616<18446744073709551616):=Nat.mod_lt _ oE
 have lc01:Hid (a.a.toNat*b.b.toNat/18446744073709551616+(a.a.toNat*b.b.toNat%18446744073709551616+0+0)/18446744073709551616+((a.a.toNat*b.b.toNat%18446744073709551616+0+0)%18446744073709551616+c00+0)/18446744073709551616<18446744073709551616):=mac2 a.a.toNat b.b.toNat 0 c00 la0 lb1 oE lc00
 generalize ((a.a.toNat*b.b.toNat%18446744073709551616+0+0)%18446744073709551616+c00+0)%18446744073709551616=w01 at e01 lw01 ⊢
 generalize a.a.toNat*b.b.toNat/18446744073709551616+(a.a.toNat*b.b.toNat%18446744073709551616+0+0)/18446744073709551616+((a.a.toNat*b.b.toNat%18446744073709551616+0+0)%18446744073709551616+c00+0)/18446744073709551616=c01 at e01 lc01 ⊢
 refine W.keep (lC (k:=2) rfl (lC (k:=3) rfl (lC (k:=4) rfl (lC (k:=5) rfl (lC (k:=6) rfl (lC (k:=7) rfl (lC (k:=8) rfl (lC (k:=12) rfl (lC (k:=13) rfl lN))))))))) ?_
 repeat refine s4 ?_;try intro
 refine cV (mul64_spec a.a.toNat b.c.toNat la0 lb2) ?_
 repeat refine s4 ?_;try intro
 refine o_add64 (b:=0) (c:=0) rfl rfl rfl rfl rfl rfl oE ?_
 repeat refine s4 ?_;try intro
 refine o_int rfl rfl rfl rfl (u_add _ _ (mac1 a.a.toNat b.c.toNat 0 la0 lb2 oE)) ?_
 repeat refine s4 ?_;try intro
 refine o_add64  (c:=0) rfl rfl rfl rfl rfl rfl oE ?_
 repeat refine s4 ?_;try intro
 refine o_int rfl rfl rfl rfl (u_add _ _ (mac2 a.a.toNat b.c.toNat 0 c01 la0 lb2 oE lc01)) ?_
 repeat ((fail_if_success (refine W.region ?_));first|refine stp ?_|(refine sti ?_;intro _)|refine stf ?_|(refine stb ?_;intro _))
 have e02:Hid _:=mac3 a.a.toNat b.c.toNat 0 c01
 have lw02:Hid (((a.a.toNat*b.c.toNat%18446744073709551616+0+0)%18446744073709551616+c01+0)%18446744073709551616<18446744073709551616):=Nat.mod_lt _ oE
 have lc02:Hid (a.a.toNat*b.c.toNat/18446744073709551616+(a.a.toNat*b.c.toNat%18446744073709551616+0+0)/18446744073709551616+((a.a.toNat*b.c.toNat%18446744073709551616+0+0)%18446744073709551616+c01+0)/18446744073709551616<18446744073709551616):=mac2 a.a.toNat b.c.toNat 0 c01 la0 lb2 oE lc01
 generalize ((a.a.toNat*b.c.toNat%18446744073709551616+0+0)%18446744073709551616+c01+0)%18446744073709551616=w02 at e02 lw02 ⊢
 generalize a.a.toNat*b.c.toNat/18446744073709551616+(a.a.toNat*b.c.toNat%18446744073709551616+0+0)/18446744073709551616+((a.a.toNat*b.c.toNat%18446744073709551616+0+0)%18446744073709551616+c01+0)/18446744073709551616=c02 at e02 lc02 ⊢
 refine W.keep (lC (k:=2) rfl (lC (k:=3) rfl (lC (k:=4) rfl (lC (k:=5) rfl (lC (k:=6) rfl (lC (k:=7) rfl (lC (k:=8) rfl (lC (k:=12) rfl (lC (k:=13) rfl lN))))))))) ?_
 repeat refine s4 ?_;try intro
 refine cV (mul64_spec a.a.toNat b.d.toNat la0 lb3) ?_
 repeat refine s4 ?_;try intro
 refine o_add64 (b:=0) (c:=0) rfl rfl rfl rfl rfl rfl oE ?_
 repeat refine s4 ?_;try intro
 refine o_int rfl rfl rfl rfl (u_add _ _ (mac1 a.a.toNat b.d.toNat 0 la0 lb3 oE)) ?_
 repeat refine s4 ?_;try intro
 refine o_add64  (c:=0) rfl rfl rfl rfl rfl rfl oE ?_
 repeat refine s4 ?_;try intro
 refine o_int rfl rfl rfl rfl (u_add _ _ (mac2 a.a.toNat b.d.toNat 0 c02 la0 lb3 oE lc02)) ?_
 repeat ((fail_if_success (refine W.region ?_));first|refine stp ?_|(refine sti ?_;intro _)|refine stf ?_|(refine stb ?_;intro _))
 have e03:Hid _:=mac3 a.a.toNat b.d.toNat 0 c02
 have lw03:Hid (((a.a.toNat*b.d.toNat%18446744073709551616+0+0)%18446744073709551616+c02+0)%18446744073709551616<18446744073709551616):=Nat.mod_lt _ oE
 have lc03:Hid (a.a.toNat*b.d.toNat/18446744073709551616+(a.a.toNat*b.d.toNat%18446744073709551616+0+0)/18446744073709551616+((a.a.toNat*b.d.toNat%18446744073709551616+0+0)%18446744073709551616+c02+0)/18446744073709551616<18446744073709551616):=mac2 a.a.toNat b.d.toNat 0 c02 la0 lb3 oE lc02
 generalize ((a.a.toNat*b.d.toNat%18446744073709551616+0+0)%18446744073709551616+c02+0)%18446744073709551616=w03 at e03 lw03 ⊢
 generalize a.a.toNat*b.d.toNat/18446744073709551616+(a.a.toNat*b.d.toNat%18446744073709551616+0+0)/18446744073709551616+((a.a.toNat*b.d.toNat%18446744073709551616+0+0)%18446744073709551616+c02+0)/18446744073709551616=c03 at e03 lc03 ⊢
 refine W.keep (lC (k:=2) rfl (lC (k:=3) rfl (lC (k:=4) rfl (lC (k:=5) rfl (lC (k:=6) rfl (lC (k:=7) rfl (lC (k:=8) rfl (lC (k:=12) rfl (lC (k:=13) rfl lN))))))))) ?_
 repeat refine s4 ?_;try intro
 refine o_indexV (i:=1) rfl rfl rfl rfl oE rfl ?_
 repeat refine s4 ?_;try intro
 refine W.loopN 4 ?_
 repeat refine s4 ?_;try intro
 refine cV (mul64_spec a.b.toNat b.a.toNat la1 lb0) ?_
 repeat refine s4 ?_;try intro
 refine o_add64  (c:=0) rfl rfl rfl rfl rfl rfl oE ?_
 repeat refine s4 ?_;try intro
 refine o_int rfl rfl rfl rfl (u_add _ _ (mac1 a.b.toNat b.a.toNat w01 la1 lb0 lw01)) ?_
 repeat refine s4 ?_;try intro
 refine o_add64 (b:=0) (c:=0) rfl rfl rfl rfl rfl rfl oE ?_
 repeat refine s4 ?_;try intro
 refine o_int rfl rfl rfl rfl (u_add _ _ (mac2 a.b.toNat b.a.toNat w01 0 la1 lb0 lw01 oE)) ?_
 repeat ((fail_if_success (refine W.region ?_));first|refine stp ?_|(refine sti ?_;intro _)|refine stf ?_|(refine stb ?_;intro _))
 have e10:Hid _:=mac3 a.b.toNat b.a.toNat w01 0
 have lw10:Hid (((a.b.toNat*b.a.toNat%18446744073709551616+w01+0)%18446744073709551616+0+0)%18446744073709551616<18446744073709551616):=Nat.mod_lt _ oE
 have lc10:Hid (a.b.toNat*b.a.toNat/18446744073709551616+(a.b.toNat*b.a.toNat%18446744073709551616+w01+0)/18446744073709551616+((a.b.toNat*b.a.toNat%18446744073709551616+w01+0)%18446744073709551616+0+0)/18446744073709551616<18446744073709551616):=mac2 a.b.toNat b.a.toNat w01 0 la1 lb0 lw01 oE
 generalize ((a.b.toNat*b.a.toNat%18446744073709551616+w01+0)%18446744073709551616+0+0)%18446744073709551616=w10 at e10 lw10 ⊢
 generalize a.b.toNat*b.a.toNat/18446744073709551616+(a.b.toNat*b.a.toNat%18446744073709551616+w01+0)/18446744073709551616+((a.b.toNat*b.a.toNat%18446744073709551616+w01+0)%18446744073709551616+0+0)/18446744073709551616=c10 at e10 lc10 ⊢
 refine W.keep (lC (k:=2) rfl (lC (k:=3) rfl (lC (k:=4) rfl (lC (k:=5) rfl (lC (k:=6) rfl (lC (k:=7) rfl (lC (k:=8) rfl (lC (k:=12) rfl (lC (k:=13) rfl lN))))))))) ?_
 repeat refine s4 ?_;try intro
 refine cV (mul64_spec a.b.toNat b.b.toNat la1 lb1) ?_
 repeat refine s4 ?_;try intro
 refine o_add64  (c:=0) rfl rfl rfl rfl rfl rfl oE ?_
 repeat refine s4 ?_;try intro
 refine o_int rfl rfl rfl rfl (u_add _ _ (mac1 a.b.toNat b.b.toNat w02 la1 lb1 lw02)) ?_
 repeat refine s4 ?_;try intro
 refine o_add64  (c:=0) rfl rfl rfl rfl rfl rfl oE ?_
 repeat refine s4 ?_;try intro
 refine o_int rfl rfl rfl rfl (u_add _ _ (mac2 a.b.toNat b.b.toNat w02 c10 la1 lb1 lw02 lc10)) ?_
 repeat ((fail_if_success (refine W.region ?_));first|refine stp ?_|(refine sti ?_;intro _)|refine stf ?_|(refine stb ?_;intro _))
 have e11:Hid _:=mac3 a.b.toNat b.b.toNat w02 c10
 have lw11:Hid (((a.b.toNat*b.b.toNat%18446744073709551616+w02+0)%18446744073709551616+c10+0)%18446744073709551616<18446744073709551616):=Nat.mod_lt _ oE
 have lc11:Hid (a.b.toNat*b.b.toNat/18446744073709551616+(a.b.toNat*b.b.toNat%18446744073709551616+w02+0)/18446744073709551616+((a.b.toNat*b.b.toNat%18446744073709551616+w02+0)%18446744073709551616+c10+0)/18446744073709551616<18446744073709551616):=mac2 a.b.toNat b.b.toNat w02 c10 la1 lb1 lw02 lc10
 generalize ((a.b.toNat*b.b.toNat%18446744073709551616+w02+0)%18446744073709551616+c10+0)%18446744073709551616=w11 at e11 lw11 ⊢
 generalize a.b.toNat*b.b.toNat/18446744073709551616+(a.b.toNat*b.b.toNat%18446744073709551616+w02+0)/18446744073709551616+((a.b.toNat*b.b.toNat%18446744073709551616+w02+0)%18446744073709551616+c10+0)/18446744073709551616=c11 at e11 lc11 ⊢
 refine W.keep (lC (k:=2) rfl (lC (k:=3) rfl (lC (k:=4) rfl (lC (k:=5) rfl (lC (k:=6) rfl (lC (k:=7) rfl (lC (k:=8) rfl (lC (k:=12) rfl (lC (k:=13) rfl lN))))))))) ?_
 repeat refine s4 ?_;try intro
 refine cV (mul64_spec a.b.toNat b.c.toNat la1 lb2) ?_
 repeat refine s4 ?_;try intro
 refine o_add64  (c:=0) rfl rfl rfl rfl rfl rfl oE ?_
 repeat refine s4 ?_;try intro
 refine o_int rfl rfl rfl rfl (u_add _ _ (mac1 a.b.toNat b.c.toNat w03 la1 lb2 lw03)) ?_
 repeat refine s4 ?_;try intro
 refine o_add64  (c:=0) rfl rfl rfl rfl rfl rfl oE ?_
 repeat refine s4 ?_;try intro
 refine o_int rfl rfl rfl rfl (u_add _ _ (mac2 a.b.toNat b.c.toNat w03 c11 la1 lb2 lw03 lc11)) ?_
 repeat ((fail_if_success (refine W.region ?_));first|refine stp ?_|(refine sti ?_;intro _)|refine stf ?_|(refine stb ?_;intro _))
 have e12:Hid _:=mac3 a.b.toNat b.c.toNat w03 c11
 have lw12:Hid (((a.b.toNat*b.c.toNat%18446744073709551616+w03+0)%18446744073709551616+c11+0)%18446744073709551616<18446744073709551616):=Nat.mod_lt _ oE
 have lc12:Hid (a.b.toNat*b.c.toNat/18446744073709551616+(a.b.toNat*b.c.toNat%18446744073709551616+w03+0)/18446744073709551616+((a.b.toNat*b.c.toNat%18446744073709551616+w03+0)%18446744073709551616+c11+0)/18446744073709551616<18446744073709551616):=mac2 a.b.toNat b.c.toNat w03 c11 la1 lb2 lw03 lc11
 generalize ((a.b.toNat*b.c.toNat%18446744073709551616+w03+0)%18446744073709551616+c11+0)%18446744073709551616=w12 at e12 lw12 ⊢
 generalize a.b.toNat*b.c.toNat/18446744073709551616+(a.b.toNat*b.c.toNat%18446744073709551616+w03+0)/18446744073709551616+((a.b.toNat*b.c.toNat%18446744073709551616+w03+0)%18446744073709551616+c11+0)/18446744073709551616=c12 at e12 lc12 ⊢
 refine W.keep (lC (k:=2) rfl (lC (k:=3) rfl (lC (k:=4) rfl (lC (k:=5) rfl (lC (k:=6) rfl (lC (k:=7) rfl (lC (k:=8) rfl (lC (k:=12) rfl (lC (k:=13) rfl lN))))))))) ?_
 repeat refine s4 ?_;try intro
 refine o_indexV (i:=2) rfl rfl rfl rfl oE rfl ?_
 repeat refine s4 ?_;try intro
 refine W.loopN 3 ?_
 repeat refine s4 ?_;try intro
 refine cV (mul64_spec a.c.toNat b.a.toNat la2 lb0) ?_
 repeat refine s4 ?_;try intro
 refine o_add64  (c:=0) rfl rfl rfl rfl rfl rfl oE ?_
 repeat refine s4 ?_;try intro
 refine o_int rfl rfl rfl rfl (u_add _ _ (mac1 a.c.toNat b.a.toNat w11 la2 lb0 lw11)) ?_
 repeat refine s4 ?_;try intro
 refine o_add64 (b:=0) (c:=0) rfl rfl rfl rfl rfl rfl oE ?_
 repeat refine s4 ?_;try intro
 refine o_int rfl rfl rfl rfl (u_add _ _ (mac2 a.c.toNat b.a.toNat w11 0 la2 lb0 lw11 oE)) ?_
 repeat ((fail_if_success (refine W.region ?_));first|refine stp ?_|(refine sti ?_;intro _)|refine stf ?_|(refine stb ?_;intro _))
 have e20:Hid _:=mac3 a.c.toNat b.a.toNat w11 0
 have lw20:Hid (((a.c.toNat*b.a.toNat%18446744073709551616+w11+0)%18446744073709551616+0+0)%18446744073709551616<18446744073709551616):=Nat.mod_lt _ oE
 have lc20:Hid (a.c.toNat*b.a.toNat/18446744073709551616+(a.c.toNat*b.a.toNat%18446744073709551616+w11+0)/18446744073709551616+((a.c.toNat*b.a.toNat%18446744073709551616+w11+0)%18446744073709551616+0+0)/18446744073709551616<18446744073709551616):=mac2 a.c.toNat b.a.toNat w11 0 la2 lb0 lw11 oE
 generalize ((a.c.toNat*b.a.toNat%18446744073709551616+w11+0)%18446744073709551616+0+0)%18446744073709551616=w20 at e20 lw20 ⊢
 generalize a.c.toNat*b.a.toNat/18446744073709551616+(a.c.toNat*b.a.toNat%18446744073709551616+w11+0)/18446744073709551616+((a.c.toNat*b.a.toNat%18446744073709551616+w11+0)%18446744073709551616+0+0)/18446744073709551616=c20 at e20 lc20 ⊢
 refine W.keep (lC (k:=2) rfl (lC (k:=3) rfl (lC (k:=4) rfl (lC (k:=5) rfl (lC (k:=6) rfl (lC (k:=7) rfl (lC (k:=8) rfl (lC (k:=12) rfl (lC (k:=13) rfl lN))))))))) ?_
 repeat refine s4 ?_;try intro
 refine cV (mul64_spec a.c.toNat b.b.toNat la2 lb1) ?_
 repeat refine s4 ?_;try intro
 refine o_add64  (c:=0) rfl rfl rfl rfl rfl rfl oE ?_
 repeat refine s4 ?_;try intro
 refine o_int rfl rfl rfl rfl (u_add _ _ (mac1 a.c.toNat b.b.toNat w12 la2 lb1 lw12)) ?_
 repeat refine s4 ?_;try intro
 refine o_add64  (c:=0) rfl rfl rfl rfl rfl rfl oE ?_
 repeat refine s4 ?_;try intro
 refine o_int rfl rfl rfl rfl (u_add _ _ (mac2 a.c.toNat b.b.toNat w12 c20 la2 lb1 lw12 lc20)) ?_
 repeat ((fail_if_success (refine W.region ?_));first|refine stp ?_|(refine sti ?_;intro _)|refine stf ?_|(refine stb ?_;intro _))
 have e21:Hid _:=mac3 a.c.toNat b.b.toNat w12 c20
 have lw21:Hid (((a.c.toNat*b.b.toNat%18446744073709551616+w12+0)%18446744073709551616+c20+0)%18446744073709551616<18446744073709551616):=Nat.mod_lt _ oE
 have lc21:Hid (a.c.toNat*b.b.toNat/18446744073709551616+(a.c.toNat*b.b.toNat%18446744073709551616+w12+0)/18446744073709551616+((a.c.toNat*b.b.toNat%18446744073709551616+w12+0)%18446744073709551616+c20+0)/18446744073709551616<18446744073709551616):=mac2 a.c.toNat b.b.toNat w12 c20 la2 lb1 lw12 lc20
 generalize ((a.c.toNat*b.b.toNat%18446744073709551616+w12+0)%18446744073709551616+c20+0)%18446744073709551616=w21 at e21 lw21 ⊢
 generalize a.c.toNat*b.b.toNat/18446744073709551616+(a.c.toNat*b.b.toNat%18446744073709551616+w12+0)/18446744073709551616+((a.c.toNat*b.b.toNat%18446744073709551616+w12+0)%18446744073709551616+c20+0)/18446744073709551616=c21 at e21 lc21 ⊢
 refine W.keep (lC (k:=2) rfl (lC (k:=3) rfl (lC (k:=4) rfl (lC (k:=5) rfl (lC (k:=6) rfl (lC (k:=7) rfl (lC (k:=8) rfl (lC (k:=12) rfl (lC (k:=13) rfl lN))))))))) ?_
 repeat refine s4 ?_;try intro
 refine o_indexV (i:=3) rfl rfl rfl rfl oE rfl ?_
 repeat refine s4 ?_;try intro
 refine W.loopN 2 ?_
 repeat refine s4 ?_;try intro
 refine cV (mul64_spec a.d.toNat b.a.toNat la3 lb0) ?_
 repeat refine s4 ?_;try intro
 refine o_add64  (c:=0) rfl rfl rfl rfl rfl rfl oE ?_
 repeat refine s4 ?_;try intro
 refine o_int rfl rfl rfl rfl (u_add _ _ (mac1 a.d.toNat b.a.toNat w21 la3 lb0 lw21)) ?_
 repeat refine s4 ?_;try intro
 refine o_add64 (b:=0) (c:=0) rfl rfl rfl rfl rfl rfl oE ?_
 repeat refine s4 ?_;try intro
 refine o_int rfl rfl rfl rfl (u_add _ _ (mac2 a.d.toNat b.a.toNat w21 0 la3 lb0 lw21 oE)) ?_
 repeat ((fail_if_success (refine W.region ?_));first|refine stp ?_|(refine sti ?_;intro _)|refine stf ?_|(refine stb ?_;intro _))
 have e30:Hid _:=mac3 a.d.toNat b.a.toNat w21 0
 have lw30:Hid (((a.d.toNat*b.a.toNat%18446744073709551616+w21+0)%18446744073709551616+0+0)%18446744073709551616<18446744073709551616):=Nat.mod_lt _ oE
 have lc30:Hid (a.d.toNat*b.a.toNat/18446744073709551616+(a.d.toNat*b.a.toNat%18446744073709551616+w21+0)/18446744073709551616+((a.d.toNat*b.a.toNat%18446744073709551616+w21+0)%18446744073709551616+0+0)/18446744073709551616<18446744073709551616):=mac2 a.d.toNat b.a.toNat w21 0 la3 lb0 lw21 oE
 generalize ((a.d.toNat*b.a.toNat%18446744073709551616+w21+0)%18446744073709551616+0+0)%18446744073709551616=w30 at e30 lw30 ⊢
 generalize a.d.toNat*b.a.toNat/18446744073709551616+(a.d.toNat*b.a.toNat%18446744073709551616+w21+0)/18446744073709551616+((a.d.toNat*b.a.toNat%18446744073709551616+w21+0)%18446744073709551616+0+0)/18446744073709551616=c30 at e30 lc30 ⊢
 refine W.keep (lC (k:=2) rfl (lC (k:=3) rfl (lC (k:=4) rfl (lC (k:=5) rfl (lC (k:=6) rfl (lC (k:=7) rfl (lC (k:=8) rfl (lC (k:=12) rfl (lC (k:=13) rfl lN))))))))) ?_
 repeat refine s4 ?_;try intro
 refine G.ret rfl (.cons (.cellA rfl rfl) .nil) (Φ':=[]) (M':=[]) oY oN ⟨?_,rfl,rfl⟩
 simp only [Hid] at *
 exact Word.v_nat (n:=a.num*b.num) (by rw [mul_parts];simp only [top256];omega) oM oM oM oM
end Go.Rail
namespace Go.Rail
open Go Go.Proofs
set_option maxHeartbeats 400000
set_option maxRecDepth 4000
attribute [local irreducible] OpK G W LW wpListIn Exit.then Exit.inBlock Post rounds opRun bodyPostM intOp
attribute [local irreducible] lexN cmpW cmpK
def RSets (s:Sets × Int):Value→List Fa→Own→Prop:=fun u Φ' M' => ∃ sv,u = .tuple #[sv,.int .i64 s.2]∧Φ'=[fRp sv s.1]∧M'=[]
theorem RSets.mk {s:Sets × Int} {s1:Sets} {e:Int} {sv:Value} (h:s=(s1,e)):RSets s (tup [sv,.int .i64 e]) [fRp sv s1] []:=by subst h;exact ⟨sv,rfl,rfl,rfl⟩
end Go.Rail
namespace Go.Rail
open Go Go.Proofs Tryz
set_option maxHeartbeats 400000
set_option maxRecDepth 4000
attribute [local irreducible] OpK G W LW wpListIn Exit.then Exit.inBlock Post rounds opRun bodyPostM intOp
attribute [local irreducible] lexN cmpW cmpK
theorem nan_spec (n:Int):FnV prog 366 [.int .i64 n] [] (.bool false):=by
 refine Fn.enter func366 rfl ntmps366 oI (fun I0 w0 => ?_)
 repeat refine s4 ?_;try intro
 refine G.ret rfl (.cons (.tmp rfl) .nil) (Φ':=[]) (M':=[]) oY oN ⟨?_,rfl,rfl⟩
 rfl
theorem nan64_spec (n:Int):FnV prog 290 [.int .u64 n] [] (.bool false):=by
 refine Fn.enter func290 rfl ntmps290 oI (fun I0 w0 => ?_)
 repeat refine s4 ?_;try intro
 refine G.ret rfl (.cons (.tmp rfl) .nil) (Φ':=[]) (M':=[]) oY oN ⟨?_,rfl,rfl⟩
 rfl
def cmpI (p q:Int):Int:=if p<q then -1 else if q<p then 1 else 0
theorem compare64_spec (p q:Int):FnV prog 219 [.int .u64 p,.int .u64 q] [] (.int .i64 (cmpI p q)):=by
 refine Fn.enter func219 rfl ntmps219 oI (fun I0 w0 => ?_)
 unfold cmpI
 rcases Int.lt_trichotomy p q with h|h|h
 all_goals
  repeat refine s4 ?_;try intro
  refine cV (nan64_spec p) ?_
  repeat refine s4 ?_;try intro
  refine cV (nan64_spec q) ?_
  repeat refine s4 ?_;try intro
  refine G.ret rfl (.cons (.tmp rfl) .nil) (Φ':=[]) (M':=[]) oY oN ⟨?_,rfl,rfl⟩
 ·rw [if_pos h];rfl
 ·rw [if_neg oM,if_neg oM];rfl
 ·rw [if_neg oM,if_pos h];rfl
end Go.Rail
