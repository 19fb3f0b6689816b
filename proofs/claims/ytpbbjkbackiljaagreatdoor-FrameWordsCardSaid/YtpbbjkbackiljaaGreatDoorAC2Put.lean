/- word.Mul: a product. -/
import Derived.Test.YtpbbjkbackiljaaGreatDoorAEqMul
import Derived.Test.YtpbbjkbackiljaaGreatDoorRailB
set_option linter.unusedSimpArgs false
set_option linter.unusedVariables false
namespace Go.Rail
open Go Go.Proofs
set_option maxHeartbeats 400000
set_option maxRecDepth 4000
attribute [local irreducible] OpK G W LW wpListIn Exit.then Exit.inBlock Post rounds opRun bodyPostM intOp
set_option maxHeartbeats 4000000
theorem wmul_spec (a b : Word) : FnV Tryz.prog 141 [a.v, b.v] [] (mulW a b).v := by
  have la0 : Hid (a.a.toNat < 18446744073709551616) := a.a.toNat_lt
  have la1 : Hid (a.b.toNat < 18446744073709551616) := a.b.toNat_lt
  have la2 : Hid (a.c.toNat < 18446744073709551616) := a.c.toNat_lt
  have la3 : Hid (a.d.toNat < 18446744073709551616) := a.d.toNat_lt
  have lb0 : Hid (b.a.toNat < 18446744073709551616) := b.a.toNat_lt
  have lb1 : Hid (b.b.toNat < 18446744073709551616) := b.b.toNat_lt
  have lb2 : Hid (b.c.toNat < 18446744073709551616) := b.c.toNat_lt
  have lb3 : Hid (b.d.toNat < 18446744073709551616) := b.d.toNat_lt
  refine Fn.enter Tryz.func141 rfl Tryz.ntmps141 (by simp) (fun I0 w0 => ?_)
  repeat (first | refine stp ?_ | (refine sti ?_; intro _) | refine stf ?_ | (refine stb ?_; intro _))
  refine W.loopN 5 ?_
  repeat (first | refine stp ?_ | (refine sti ?_; intro _) | refine stf ?_ | (refine stb ?_; intro _))
  refine o_indexV (i := 0) rfl rfl rfl rfl (by decide) rfl ?_
  repeat (first | refine stp ?_ | (refine sti ?_; intro _) | refine stf ?_ | (refine stb ?_; intro _))
  refine W.loopN 5 ?_
  repeat (first | refine stp ?_ | (refine sti ?_; intro _) | refine stf ?_ | (refine stb ?_; intro _))
  refine o_callV rfl rfl rfl rfl (mul64_spec a.a.toNat b.a.toNat la0 lb0) rfl ?_
  repeat (first | refine stp ?_ | (refine sti ?_; intro _) | refine stf ?_ | (refine stb ?_; intro _))
  refine o_add64 (b := 0) (c := 0) rfl rfl rfl rfl rfl rfl (by decide) ?_
  repeat (first | refine stp ?_ | (refine sti ?_; intro _) | refine stf ?_ | (refine stb ?_; intro _))
  refine o_int rfl rfl rfl rfl (u_add _ _ (mac1 a.a.toNat b.a.toNat 0 la0 lb0 (by decide))) ?_
  repeat (first | refine stp ?_ | (refine sti ?_; intro _) | refine stf ?_ | (refine stb ?_; intro _))
  refine o_add64 (b := 0) (c := 0) rfl rfl rfl rfl rfl rfl (by decide) ?_
  repeat (first | refine stp ?_ | (refine sti ?_; intro _) | refine stf ?_ | (refine stb ?_; intro _))
  refine o_int rfl rfl rfl rfl (u_add _ _ (mac2 a.a.toNat b.a.toNat 0 0 la0 lb0 (by decide) (by decide))) ?_
  repeat ((fail_if_success (refine W.region ?_)); first | refine stp ?_ | (refine sti ?_; intro _) | refine stf ?_ | (refine stb ?_; intro _))
  have e00 : Hid _ := mac3 a.a.toNat b.a.toNat 0 0
  have lw00 : Hid (((a.a.toNat * b.a.toNat % 18446744073709551616 + 0 + 0) % 18446744073709551616 + 0 + 0) % 18446744073709551616 < 18446744073709551616) := Nat.mod_lt _ (by decide)
  have lc00 : Hid (a.a.toNat * b.a.toNat / 18446744073709551616 + (a.a.toNat * b.a.toNat % 18446744073709551616 + 0 + 0) / 18446744073709551616 + ((a.a.toNat * b.a.toNat % 18446744073709551616 + 0 + 0) % 18446744073709551616 + 0 + 0) / 18446744073709551616 < 18446744073709551616) := mac2 a.a.toNat b.a.toNat 0 0 la0 lb0 (by decide) (by decide)
  generalize ((a.a.toNat * b.a.toNat % 18446744073709551616 + 0 + 0) % 18446744073709551616 + 0 + 0) % 18446744073709551616 = w00 at e00 lw00 ⊢
  generalize a.a.toNat * b.a.toNat / 18446744073709551616 + (a.a.toNat * b.a.toNat % 18446744073709551616 + 0 + 0) / 18446744073709551616 + ((a.a.toNat * b.a.toNat % 18446744073709551616 + 0 + 0) % 18446744073709551616 + 0 + 0) / 18446744073709551616 = c00 at e00 lc00 ⊢
  refine W.keep (look_sub_cons (k := 2) rfl (look_sub_cons (k := 3) rfl (look_sub_cons (k := 4) rfl (look_sub_cons (k := 5) rfl (look_sub_cons (k := 6) rfl (look_sub_cons (k := 7) rfl (look_sub_cons (k := 8) rfl (look_sub_cons (k := 12) rfl (look_sub_cons (k := 13) rfl look_sub_nil))))))))) ?_
  repeat (first | refine stp ?_ | (refine sti ?_; intro _) | refine stf ?_ | (refine stb ?_; intro _))
  refine o_callV rfl rfl rfl rfl (mul64_spec a.a.toNat b.b.toNat la0 lb1) rfl ?_
  repeat (first | refine stp ?_ | (refine sti ?_; intro _) | refine stf ?_ | (refine stb ?_; intro _))
  refine o_add64 (b := 0) (c := 0) rfl rfl rfl rfl rfl rfl (by decide) ?_
  repeat (first | refine stp ?_ | (refine sti ?_; intro _) | refine stf ?_ | (refine stb ?_; intro _))
  refine o_int rfl rfl rfl rfl (u_add _ _ (mac1 a.a.toNat b.b.toNat 0 la0 lb1 (by decide))) ?_
  repeat (first | refine stp ?_ | (refine sti ?_; intro _) | refine stf ?_ | (refine stb ?_; intro _))
  refine o_add64  (c := 0) rfl rfl rfl rfl rfl rfl (by decide) ?_
  repeat (first | refine stp ?_ | (refine sti ?_; intro _) | refine stf ?_ | (refine stb ?_; intro _))
  refine o_int rfl rfl rfl rfl (u_add _ _ (mac2 a.a.toNat b.b.toNat 0 c00 la0 lb1 (by decide) lc00)) ?_
  repeat ((fail_if_success (refine W.region ?_)); first | refine stp ?_ | (refine sti ?_; intro _) | refine stf ?_ | (refine stb ?_; intro _))
  have e01 : Hid _ := mac3 a.a.toNat b.b.toNat 0 c00
  have lw01 : Hid (((a.a.toNat * b.b.toNat % 18446744073709551616 + 0 + 0) % 18446744073709551616 + c00 + 0) % 18446744073709551616 < 18446744073709551616) := Nat.mod_lt _ (by decide)
  have lc01 : Hid (a.a.toNat * b.b.toNat / 18446744073709551616 + (a.a.toNat * b.b.toNat % 18446744073709551616 + 0 + 0) / 18446744073709551616 + ((a.a.toNat * b.b.toNat % 18446744073709551616 + 0 + 0) % 18446744073709551616 + c00 + 0) / 18446744073709551616 < 18446744073709551616) := mac2 a.a.toNat b.b.toNat 0 c00 la0 lb1 (by decide) lc00
  generalize ((a.a.toNat * b.b.toNat % 18446744073709551616 + 0 + 0) % 18446744073709551616 + c00 + 0) % 18446744073709551616 = w01 at e01 lw01 ⊢
  generalize a.a.toNat * b.b.toNat / 18446744073709551616 + (a.a.toNat * b.b.toNat % 18446744073709551616 + 0 + 0) / 18446744073709551616 + ((a.a.toNat * b.b.toNat % 18446744073709551616 + 0 + 0) % 18446744073709551616 + c00 + 0) / 18446744073709551616 = c01 at e01 lc01 ⊢
  refine W.keep (look_sub_cons (k := 2) rfl (look_sub_cons (k := 3) rfl (look_sub_cons (k := 4) rfl (look_sub_cons (k := 5) rfl (look_sub_cons (k := 6) rfl (look_sub_cons (k := 7) rfl (look_sub_cons (k := 8) rfl (look_sub_cons (k := 12) rfl (look_sub_cons (k := 13) rfl look_sub_nil))))))))) ?_
  repeat (first | refine stp ?_ | (refine sti ?_; intro _) | refine stf ?_ | (refine stb ?_; intro _))
  refine o_callV rfl rfl rfl rfl (mul64_spec a.a.toNat b.c.toNat la0 lb2) rfl ?_
  repeat (first | refine stp ?_ | (refine sti ?_; intro _) | refine stf ?_ | (refine stb ?_; intro _))
  refine o_add64 (b := 0) (c := 0) rfl rfl rfl rfl rfl rfl (by decide) ?_
  repeat (first | refine stp ?_ | (refine sti ?_; intro _) | refine stf ?_ | (refine stb ?_; intro _))
  refine o_int rfl rfl rfl rfl (u_add _ _ (mac1 a.a.toNat b.c.toNat 0 la0 lb2 (by decide))) ?_
  repeat (first | refine stp ?_ | (refine sti ?_; intro _) | refine stf ?_ | (refine stb ?_; intro _))
  refine o_add64  (c := 0) rfl rfl rfl rfl rfl rfl (by decide) ?_
  repeat (first | refine stp ?_ | (refine sti ?_; intro _) | refine stf ?_ | (refine stb ?_; intro _))
  refine o_int rfl rfl rfl rfl (u_add _ _ (mac2 a.a.toNat b.c.toNat 0 c01 la0 lb2 (by decide) lc01)) ?_
  repeat ((fail_if_success (refine W.region ?_)); first | refine stp ?_ | (refine sti ?_; intro _) | refine stf ?_ | (refine stb ?_; intro _))
  have e02 : Hid _ := mac3 a.a.toNat b.c.toNat 0 c01
  have lw02 : Hid (((a.a.toNat * b.c.toNat % 18446744073709551616 + 0 + 0) % 18446744073709551616 + c01 + 0) % 18446744073709551616 < 18446744073709551616) := Nat.mod_lt _ (by decide)
  have lc02 : Hid (a.a.toNat * b.c.toNat / 18446744073709551616 + (a.a.toNat * b.c.toNat % 18446744073709551616 + 0 + 0) / 18446744073709551616 + ((a.a.toNat * b.c.toNat % 18446744073709551616 + 0 + 0) % 18446744073709551616 + c01 + 0) / 18446744073709551616 < 18446744073709551616) := mac2 a.a.toNat b.c.toNat 0 c01 la0 lb2 (by decide) lc01
  generalize ((a.a.toNat * b.c.toNat % 18446744073709551616 + 0 + 0) % 18446744073709551616 + c01 + 0) % 18446744073709551616 = w02 at e02 lw02 ⊢
  generalize a.a.toNat * b.c.toNat / 18446744073709551616 + (a.a.toNat * b.c.toNat % 18446744073709551616 + 0 + 0) / 18446744073709551616 + ((a.a.toNat * b.c.toNat % 18446744073709551616 + 0 + 0) % 18446744073709551616 + c01 + 0) / 18446744073709551616 = c02 at e02 lc02 ⊢
  refine W.keep (look_sub_cons (k := 2) rfl (look_sub_cons (k := 3) rfl (look_sub_cons (k := 4) rfl (look_sub_cons (k := 5) rfl (look_sub_cons (k := 6) rfl (look_sub_cons (k := 7) rfl (look_sub_cons (k := 8) rfl (look_sub_cons (k := 12) rfl (look_sub_cons (k := 13) rfl look_sub_nil))))))))) ?_
  repeat (first | refine stp ?_ | (refine sti ?_; intro _) | refine stf ?_ | (refine stb ?_; intro _))
  refine o_callV rfl rfl rfl rfl (mul64_spec a.a.toNat b.d.toNat la0 lb3) rfl ?_
  repeat (first | refine stp ?_ | (refine sti ?_; intro _) | refine stf ?_ | (refine stb ?_; intro _))
  refine o_add64 (b := 0) (c := 0) rfl rfl rfl rfl rfl rfl (by decide) ?_
  repeat (first | refine stp ?_ | (refine sti ?_; intro _) | refine stf ?_ | (refine stb ?_; intro _))
  refine o_int rfl rfl rfl rfl (u_add _ _ (mac1 a.a.toNat b.d.toNat 0 la0 lb3 (by decide))) ?_
  repeat (first | refine stp ?_ | (refine sti ?_; intro _) | refine stf ?_ | (refine stb ?_; intro _))
  refine o_add64  (c := 0) rfl rfl rfl rfl rfl rfl (by decide) ?_
  repeat (first | refine stp ?_ | (refine sti ?_; intro _) | refine stf ?_ | (refine stb ?_; intro _))
  refine o_int rfl rfl rfl rfl (u_add _ _ (mac2 a.a.toNat b.d.toNat 0 c02 la0 lb3 (by decide) lc02)) ?_
  repeat ((fail_if_success (refine W.region ?_)); first | refine stp ?_ | (refine sti ?_; intro _) | refine stf ?_ | (refine stb ?_; intro _))
  have e03 : Hid _ := mac3 a.a.toNat b.d.toNat 0 c02
  have lw03 : Hid (((a.a.toNat * b.d.toNat % 18446744073709551616 + 0 + 0) % 18446744073709551616 + c02 + 0) % 18446744073709551616 < 18446744073709551616) := Nat.mod_lt _ (by decide)
  have lc03 : Hid (a.a.toNat * b.d.toNat / 18446744073709551616 + (a.a.toNat * b.d.toNat % 18446744073709551616 + 0 + 0) / 18446744073709551616 + ((a.a.toNat * b.d.toNat % 18446744073709551616 + 0 + 0) % 18446744073709551616 + c02 + 0) / 18446744073709551616 < 18446744073709551616) := mac2 a.a.toNat b.d.toNat 0 c02 la0 lb3 (by decide) lc02
  generalize ((a.a.toNat * b.d.toNat % 18446744073709551616 + 0 + 0) % 18446744073709551616 + c02 + 0) % 18446744073709551616 = w03 at e03 lw03 ⊢
  generalize a.a.toNat * b.d.toNat / 18446744073709551616 + (a.a.toNat * b.d.toNat % 18446744073709551616 + 0 + 0) / 18446744073709551616 + ((a.a.toNat * b.d.toNat % 18446744073709551616 + 0 + 0) % 18446744073709551616 + c02 + 0) / 18446744073709551616 = c03 at e03 lc03 ⊢
  refine W.keep (look_sub_cons (k := 2) rfl (look_sub_cons (k := 3) rfl (look_sub_cons (k := 4) rfl (look_sub_cons (k := 5) rfl (look_sub_cons (k := 6) rfl (look_sub_cons (k := 7) rfl (look_sub_cons (k := 8) rfl (look_sub_cons (k := 12) rfl (look_sub_cons (k := 13) rfl look_sub_nil))))))))) ?_
  repeat (first | refine stp ?_ | (refine sti ?_; intro _) | refine stf ?_ | (refine stb ?_; intro _))
  refine o_indexV (i := 1) rfl rfl rfl rfl (by decide) rfl ?_
  repeat (first | refine stp ?_ | (refine sti ?_; intro _) | refine stf ?_ | (refine stb ?_; intro _))
  refine W.loopN 4 ?_
  repeat (first | refine stp ?_ | (refine sti ?_; intro _) | refine stf ?_ | (refine stb ?_; intro _))
  refine o_callV rfl rfl rfl rfl (mul64_spec a.b.toNat b.a.toNat la1 lb0) rfl ?_
  repeat (first | refine stp ?_ | (refine sti ?_; intro _) | refine stf ?_ | (refine stb ?_; intro _))
  refine o_add64  (c := 0) rfl rfl rfl rfl rfl rfl (by decide) ?_
  repeat (first | refine stp ?_ | (refine sti ?_; intro _) | refine stf ?_ | (refine stb ?_; intro _))
  refine o_int rfl rfl rfl rfl (u_add _ _ (mac1 a.b.toNat b.a.toNat w01 la1 lb0 lw01)) ?_
  repeat (first | refine stp ?_ | (refine sti ?_; intro _) | refine stf ?_ | (refine stb ?_; intro _))
  refine o_add64 (b := 0) (c := 0) rfl rfl rfl rfl rfl rfl (by decide) ?_
  repeat (first | refine stp ?_ | (refine sti ?_; intro _) | refine stf ?_ | (refine stb ?_; intro _))
  refine o_int rfl rfl rfl rfl (u_add _ _ (mac2 a.b.toNat b.a.toNat w01 0 la1 lb0 lw01 (by decide))) ?_
  repeat ((fail_if_success (refine W.region ?_)); first | refine stp ?_ | (refine sti ?_; intro _) | refine stf ?_ | (refine stb ?_; intro _))
  have e10 : Hid _ := mac3 a.b.toNat b.a.toNat w01 0
  have lw10 : Hid (((a.b.toNat * b.a.toNat % 18446744073709551616 + w01 + 0) % 18446744073709551616 + 0 + 0) % 18446744073709551616 < 18446744073709551616) := Nat.mod_lt _ (by decide)
  have lc10 : Hid (a.b.toNat * b.a.toNat / 18446744073709551616 + (a.b.toNat * b.a.toNat % 18446744073709551616 + w01 + 0) / 18446744073709551616 + ((a.b.toNat * b.a.toNat % 18446744073709551616 + w01 + 0) % 18446744073709551616 + 0 + 0) / 18446744073709551616 < 18446744073709551616) := mac2 a.b.toNat b.a.toNat w01 0 la1 lb0 lw01 (by decide)
  generalize ((a.b.toNat * b.a.toNat % 18446744073709551616 + w01 + 0) % 18446744073709551616 + 0 + 0) % 18446744073709551616 = w10 at e10 lw10 ⊢
  generalize a.b.toNat * b.a.toNat / 18446744073709551616 + (a.b.toNat * b.a.toNat % 18446744073709551616 + w01 + 0) / 18446744073709551616 + ((a.b.toNat * b.a.toNat % 18446744073709551616 + w01 + 0) % 18446744073709551616 + 0 + 0) / 18446744073709551616 = c10 at e10 lc10 ⊢
  refine W.keep (look_sub_cons (k := 2) rfl (look_sub_cons (k := 3) rfl (look_sub_cons (k := 4) rfl (look_sub_cons (k := 5) rfl (look_sub_cons (k := 6) rfl (look_sub_cons (k := 7) rfl (look_sub_cons (k := 8) rfl (look_sub_cons (k := 12) rfl (look_sub_cons (k := 13) rfl look_sub_nil))))))))) ?_
  repeat (first | refine stp ?_ | (refine sti ?_; intro _) | refine stf ?_ | (refine stb ?_; intro _))
  refine o_callV rfl rfl rfl rfl (mul64_spec a.b.toNat b.b.toNat la1 lb1) rfl ?_
  repeat (first | refine stp ?_ | (refine sti ?_; intro _) | refine stf ?_ | (refine stb ?_; intro _))
  refine o_add64  (c := 0) rfl rfl rfl rfl rfl rfl (by decide) ?_
  repeat (first | refine stp ?_ | (refine sti ?_; intro _) | refine stf ?_ | (refine stb ?_; intro _))
  refine o_int rfl rfl rfl rfl (u_add _ _ (mac1 a.b.toNat b.b.toNat w02 la1 lb1 lw02)) ?_
  repeat (first | refine stp ?_ | (refine sti ?_; intro _) | refine stf ?_ | (refine stb ?_; intro _))
  refine o_add64  (c := 0) rfl rfl rfl rfl rfl rfl (by decide) ?_
  repeat (first | refine stp ?_ | (refine sti ?_; intro _) | refine stf ?_ | (refine stb ?_; intro _))
  refine o_int rfl rfl rfl rfl (u_add _ _ (mac2 a.b.toNat b.b.toNat w02 c10 la1 lb1 lw02 lc10)) ?_
  repeat ((fail_if_success (refine W.region ?_)); first | refine stp ?_ | (refine sti ?_; intro _) | refine stf ?_ | (refine stb ?_; intro _))
  have e11 : Hid _ := mac3 a.b.toNat b.b.toNat w02 c10
  have lw11 : Hid (((a.b.toNat * b.b.toNat % 18446744073709551616 + w02 + 0) % 18446744073709551616 + c10 + 0) % 18446744073709551616 < 18446744073709551616) := Nat.mod_lt _ (by decide)
  have lc11 : Hid (a.b.toNat * b.b.toNat / 18446744073709551616 + (a.b.toNat * b.b.toNat % 18446744073709551616 + w02 + 0) / 18446744073709551616 + ((a.b.toNat * b.b.toNat % 18446744073709551616 + w02 + 0) % 18446744073709551616 + c10 + 0) / 18446744073709551616 < 18446744073709551616) := mac2 a.b.toNat b.b.toNat w02 c10 la1 lb1 lw02 lc10
  generalize ((a.b.toNat * b.b.toNat % 18446744073709551616 + w02 + 0) % 18446744073709551616 + c10 + 0) % 18446744073709551616 = w11 at e11 lw11 ⊢
  generalize a.b.toNat * b.b.toNat / 18446744073709551616 + (a.b.toNat * b.b.toNat % 18446744073709551616 + w02 + 0) / 18446744073709551616 + ((a.b.toNat * b.b.toNat % 18446744073709551616 + w02 + 0) % 18446744073709551616 + c10 + 0) / 18446744073709551616 = c11 at e11 lc11 ⊢
  refine W.keep (look_sub_cons (k := 2) rfl (look_sub_cons (k := 3) rfl (look_sub_cons (k := 4) rfl (look_sub_cons (k := 5) rfl (look_sub_cons (k := 6) rfl (look_sub_cons (k := 7) rfl (look_sub_cons (k := 8) rfl (look_sub_cons (k := 12) rfl (look_sub_cons (k := 13) rfl look_sub_nil))))))))) ?_
  repeat (first | refine stp ?_ | (refine sti ?_; intro _) | refine stf ?_ | (refine stb ?_; intro _))
  refine o_callV rfl rfl rfl rfl (mul64_spec a.b.toNat b.c.toNat la1 lb2) rfl ?_
  repeat (first | refine stp ?_ | (refine sti ?_; intro _) | refine stf ?_ | (refine stb ?_; intro _))
  refine o_add64  (c := 0) rfl rfl rfl rfl rfl rfl (by decide) ?_
  repeat (first | refine stp ?_ | (refine sti ?_; intro _) | refine stf ?_ | (refine stb ?_; intro _))
  refine o_int rfl rfl rfl rfl (u_add _ _ (mac1 a.b.toNat b.c.toNat w03 la1 lb2 lw03)) ?_
  repeat (first | refine stp ?_ | (refine sti ?_; intro _) | refine stf ?_ | (refine stb ?_; intro _))
  refine o_add64  (c := 0) rfl rfl rfl rfl rfl rfl (by decide) ?_
  repeat (first | refine stp ?_ | (refine sti ?_; intro _) | refine stf ?_ | (refine stb ?_; intro _))
  refine o_int rfl rfl rfl rfl (u_add _ _ (mac2 a.b.toNat b.c.toNat w03 c11 la1 lb2 lw03 lc11)) ?_
  repeat ((fail_if_success (refine W.region ?_)); first | refine stp ?_ | (refine sti ?_; intro _) | refine stf ?_ | (refine stb ?_; intro _))
  have e12 : Hid _ := mac3 a.b.toNat b.c.toNat w03 c11
  have lw12 : Hid (((a.b.toNat * b.c.toNat % 18446744073709551616 + w03 + 0) % 18446744073709551616 + c11 + 0) % 18446744073709551616 < 18446744073709551616) := Nat.mod_lt _ (by decide)
  have lc12 : Hid (a.b.toNat * b.c.toNat / 18446744073709551616 + (a.b.toNat * b.c.toNat % 18446744073709551616 + w03 + 0) / 18446744073709551616 + ((a.b.toNat * b.c.toNat % 18446744073709551616 + w03 + 0) % 18446744073709551616 + c11 + 0) / 18446744073709551616 < 18446744073709551616) := mac2 a.b.toNat b.c.toNat w03 c11 la1 lb2 lw03 lc11
  generalize ((a.b.toNat * b.c.toNat % 18446744073709551616 + w03 + 0) % 18446744073709551616 + c11 + 0) % 18446744073709551616 = w12 at e12 lw12 ⊢
  generalize a.b.toNat * b.c.toNat / 18446744073709551616 + (a.b.toNat * b.c.toNat % 18446744073709551616 + w03 + 0) / 18446744073709551616 + ((a.b.toNat * b.c.toNat % 18446744073709551616 + w03 + 0) % 18446744073709551616 + c11 + 0) / 18446744073709551616 = c12 at e12 lc12 ⊢
  refine W.keep (look_sub_cons (k := 2) rfl (look_sub_cons (k := 3) rfl (look_sub_cons (k := 4) rfl (look_sub_cons (k := 5) rfl (look_sub_cons (k := 6) rfl (look_sub_cons (k := 7) rfl (look_sub_cons (k := 8) rfl (look_sub_cons (k := 12) rfl (look_sub_cons (k := 13) rfl look_sub_nil))))))))) ?_
  repeat (first | refine stp ?_ | (refine sti ?_; intro _) | refine stf ?_ | (refine stb ?_; intro _))
  refine o_indexV (i := 2) rfl rfl rfl rfl (by decide) rfl ?_
  repeat (first | refine stp ?_ | (refine sti ?_; intro _) | refine stf ?_ | (refine stb ?_; intro _))
  refine W.loopN 3 ?_
  repeat (first | refine stp ?_ | (refine sti ?_; intro _) | refine stf ?_ | (refine stb ?_; intro _))
  refine o_callV rfl rfl rfl rfl (mul64_spec a.c.toNat b.a.toNat la2 lb0) rfl ?_
  repeat (first | refine stp ?_ | (refine sti ?_; intro _) | refine stf ?_ | (refine stb ?_; intro _))
  refine o_add64  (c := 0) rfl rfl rfl rfl rfl rfl (by decide) ?_
  repeat (first | refine stp ?_ | (refine sti ?_; intro _) | refine stf ?_ | (refine stb ?_; intro _))
  refine o_int rfl rfl rfl rfl (u_add _ _ (mac1 a.c.toNat b.a.toNat w11 la2 lb0 lw11)) ?_
  repeat (first | refine stp ?_ | (refine sti ?_; intro _) | refine stf ?_ | (refine stb ?_; intro _))
  refine o_add64 (b := 0) (c := 0) rfl rfl rfl rfl rfl rfl (by decide) ?_
  repeat (first | refine stp ?_ | (refine sti ?_; intro _) | refine stf ?_ | (refine stb ?_; intro _))
  refine o_int rfl rfl rfl rfl (u_add _ _ (mac2 a.c.toNat b.a.toNat w11 0 la2 lb0 lw11 (by decide))) ?_
  repeat ((fail_if_success (refine W.region ?_)); first | refine stp ?_ | (refine sti ?_; intro _) | refine stf ?_ | (refine stb ?_; intro _))
  have e20 : Hid _ := mac3 a.c.toNat b.a.toNat w11 0
  have lw20 : Hid (((a.c.toNat * b.a.toNat % 18446744073709551616 + w11 + 0) % 18446744073709551616 + 0 + 0) % 18446744073709551616 < 18446744073709551616) := Nat.mod_lt _ (by decide)
  have lc20 : Hid (a.c.toNat * b.a.toNat / 18446744073709551616 + (a.c.toNat * b.a.toNat % 18446744073709551616 + w11 + 0) / 18446744073709551616 + ((a.c.toNat * b.a.toNat % 18446744073709551616 + w11 + 0) % 18446744073709551616 + 0 + 0) / 18446744073709551616 < 18446744073709551616) := mac2 a.c.toNat b.a.toNat w11 0 la2 lb0 lw11 (by decide)
  generalize ((a.c.toNat * b.a.toNat % 18446744073709551616 + w11 + 0) % 18446744073709551616 + 0 + 0) % 18446744073709551616 = w20 at e20 lw20 ⊢
  generalize a.c.toNat * b.a.toNat / 18446744073709551616 + (a.c.toNat * b.a.toNat % 18446744073709551616 + w11 + 0) / 18446744073709551616 + ((a.c.toNat * b.a.toNat % 18446744073709551616 + w11 + 0) % 18446744073709551616 + 0 + 0) / 18446744073709551616 = c20 at e20 lc20 ⊢
  refine W.keep (look_sub_cons (k := 2) rfl (look_sub_cons (k := 3) rfl (look_sub_cons (k := 4) rfl (look_sub_cons (k := 5) rfl (look_sub_cons (k := 6) rfl (look_sub_cons (k := 7) rfl (look_sub_cons (k := 8) rfl (look_sub_cons (k := 12) rfl (look_sub_cons (k := 13) rfl look_sub_nil))))))))) ?_
  repeat (first | refine stp ?_ | (refine sti ?_; intro _) | refine stf ?_ | (refine stb ?_; intro _))
  refine o_callV rfl rfl rfl rfl (mul64_spec a.c.toNat b.b.toNat la2 lb1) rfl ?_
  repeat (first | refine stp ?_ | (refine sti ?_; intro _) | refine stf ?_ | (refine stb ?_; intro _))
  refine o_add64  (c := 0) rfl rfl rfl rfl rfl rfl (by decide) ?_
  repeat (first | refine stp ?_ | (refine sti ?_; intro _) | refine stf ?_ | (refine stb ?_; intro _))
  refine o_int rfl rfl rfl rfl (u_add _ _ (mac1 a.c.toNat b.b.toNat w12 la2 lb1 lw12)) ?_
  repeat (first | refine stp ?_ | (refine sti ?_; intro _) | refine stf ?_ | (refine stb ?_; intro _))
  refine o_add64  (c := 0) rfl rfl rfl rfl rfl rfl (by decide) ?_
  repeat (first | refine stp ?_ | (refine sti ?_; intro _) | refine stf ?_ | (refine stb ?_; intro _))
  refine o_int rfl rfl rfl rfl (u_add _ _ (mac2 a.c.toNat b.b.toNat w12 c20 la2 lb1 lw12 lc20)) ?_
  repeat ((fail_if_success (refine W.region ?_)); first | refine stp ?_ | (refine sti ?_; intro _) | refine stf ?_ | (refine stb ?_; intro _))
  have e21 : Hid _ := mac3 a.c.toNat b.b.toNat w12 c20
  have lw21 : Hid (((a.c.toNat * b.b.toNat % 18446744073709551616 + w12 + 0) % 18446744073709551616 + c20 + 0) % 18446744073709551616 < 18446744073709551616) := Nat.mod_lt _ (by decide)
  have lc21 : Hid (a.c.toNat * b.b.toNat / 18446744073709551616 + (a.c.toNat * b.b.toNat % 18446744073709551616 + w12 + 0) / 18446744073709551616 + ((a.c.toNat * b.b.toNat % 18446744073709551616 + w12 + 0) % 18446744073709551616 + c20 + 0) / 18446744073709551616 < 18446744073709551616) := mac2 a.c.toNat b.b.toNat w12 c20 la2 lb1 lw12 lc20
  generalize ((a.c.toNat * b.b.toNat % 18446744073709551616 + w12 + 0) % 18446744073709551616 + c20 + 0) % 18446744073709551616 = w21 at e21 lw21 ⊢
  generalize a.c.toNat * b.b.toNat / 18446744073709551616 + (a.c.toNat * b.b.toNat % 18446744073709551616 + w12 + 0) / 18446744073709551616 + ((a.c.toNat * b.b.toNat % 18446744073709551616 + w12 + 0) % 18446744073709551616 + c20 + 0) / 18446744073709551616 = c21 at e21 lc21 ⊢
  refine W.keep (look_sub_cons (k := 2) rfl (look_sub_cons (k := 3) rfl (look_sub_cons (k := 4) rfl (look_sub_cons (k := 5) rfl (look_sub_cons (k := 6) rfl (look_sub_cons (k := 7) rfl (look_sub_cons (k := 8) rfl (look_sub_cons (k := 12) rfl (look_sub_cons (k := 13) rfl look_sub_nil))))))))) ?_
  repeat (first | refine stp ?_ | (refine sti ?_; intro _) | refine stf ?_ | (refine stb ?_; intro _))
  refine o_indexV (i := 3) rfl rfl rfl rfl (by decide) rfl ?_
  repeat (first | refine stp ?_ | (refine sti ?_; intro _) | refine stf ?_ | (refine stb ?_; intro _))
  refine W.loopN 2 ?_
  repeat (first | refine stp ?_ | (refine sti ?_; intro _) | refine stf ?_ | (refine stb ?_; intro _))
  refine o_callV rfl rfl rfl rfl (mul64_spec a.d.toNat b.a.toNat la3 lb0) rfl ?_
  repeat (first | refine stp ?_ | (refine sti ?_; intro _) | refine stf ?_ | (refine stb ?_; intro _))
  refine o_add64  (c := 0) rfl rfl rfl rfl rfl rfl (by decide) ?_
  repeat (first | refine stp ?_ | (refine sti ?_; intro _) | refine stf ?_ | (refine stb ?_; intro _))
  refine o_int rfl rfl rfl rfl (u_add _ _ (mac1 a.d.toNat b.a.toNat w21 la3 lb0 lw21)) ?_
  repeat (first | refine stp ?_ | (refine sti ?_; intro _) | refine stf ?_ | (refine stb ?_; intro _))
  refine o_add64 (b := 0) (c := 0) rfl rfl rfl rfl rfl rfl (by decide) ?_
  repeat (first | refine stp ?_ | (refine sti ?_; intro _) | refine stf ?_ | (refine stb ?_; intro _))
  refine o_int rfl rfl rfl rfl (u_add _ _ (mac2 a.d.toNat b.a.toNat w21 0 la3 lb0 lw21 (by decide))) ?_
  repeat ((fail_if_success (refine W.region ?_)); first | refine stp ?_ | (refine sti ?_; intro _) | refine stf ?_ | (refine stb ?_; intro _))
  have e30 : Hid _ := mac3 a.d.toNat b.a.toNat w21 0
  have lw30 : Hid (((a.d.toNat * b.a.toNat % 18446744073709551616 + w21 + 0) % 18446744073709551616 + 0 + 0) % 18446744073709551616 < 18446744073709551616) := Nat.mod_lt _ (by decide)
  have lc30 : Hid (a.d.toNat * b.a.toNat / 18446744073709551616 + (a.d.toNat * b.a.toNat % 18446744073709551616 + w21 + 0) / 18446744073709551616 + ((a.d.toNat * b.a.toNat % 18446744073709551616 + w21 + 0) % 18446744073709551616 + 0 + 0) / 18446744073709551616 < 18446744073709551616) := mac2 a.d.toNat b.a.toNat w21 0 la3 lb0 lw21 (by decide)
  generalize ((a.d.toNat * b.a.toNat % 18446744073709551616 + w21 + 0) % 18446744073709551616 + 0 + 0) % 18446744073709551616 = w30 at e30 lw30 ⊢
  generalize a.d.toNat * b.a.toNat / 18446744073709551616 + (a.d.toNat * b.a.toNat % 18446744073709551616 + w21 + 0) / 18446744073709551616 + ((a.d.toNat * b.a.toNat % 18446744073709551616 + w21 + 0) % 18446744073709551616 + 0 + 0) / 18446744073709551616 = c30 at e30 lc30 ⊢
  refine W.keep (look_sub_cons (k := 2) rfl (look_sub_cons (k := 3) rfl (look_sub_cons (k := 4) rfl (look_sub_cons (k := 5) rfl (look_sub_cons (k := 6) rfl (look_sub_cons (k := 7) rfl (look_sub_cons (k := 8) rfl (look_sub_cons (k := 12) rfl (look_sub_cons (k := 13) rfl look_sub_nil))))))))) ?_
  repeat (first | refine stp ?_ | (refine sti ?_; intro _) | refine stf ?_ | (refine stb ?_; intro _))
  refine G.ret rfl (.cons (.cellA rfl rfl) .nil) (Φ' := []) (M' := []) inferInstance (List.nil_sublist _) ⟨?_, rfl, rfl⟩
  simp only [Hid] at *
  exact Word.v_nat (n := a.num * b.num) (by rw [mul_parts]; simp only [top256]; omega) (by omega) (by omega) (by omega) (by omega)
end Go.Rail
namespace Go.Rail
open Go Go.Proofs
set_option maxHeartbeats 400000
set_option maxRecDepth 4000
attribute [local irreducible] OpK G W LW wpListIn Exit.then Exit.inBlock Post rounds opRun bodyPostM intOp
attribute [local irreducible] u8 u64
attribute [local irreducible] pickI
theorem of_spec (n : Int) : FnV Tryz.prog 29 [.int .i64 n] [] (Word.of n).v := by
  refine Fn.enter Tryz.func29 rfl Tryz.ntmps29 (by simp) (fun I0 w0 => ?_)
  by_cases hc : n < 0
  · repeat (first | refine stp ?_ | (refine sti ?_; intro _) | refine stf ?_ | (refine stb ?_; intro _))
    refine W.loopN 4 ?_
    repeat (first | refine stp ?_ | (refine sti ?_; intro _) | refine stf ?_ | (refine stb ?_; intro _))
    refine G.ret rfl (.cons (.cellA rfl rfl) .nil) (Φ' := []) (M' := []) inferInstance (List.nil_sublist _) ⟨?_, rfl, rfl⟩
    simp [tup, Word.of, hc, Word.v, Word.cells, cellsL]
  · repeat (first | refine stp ?_ | (refine sti ?_; intro _) | refine stf ?_ | (refine stb ?_; intro _))
    refine G.ret rfl (.cons (.cellA rfl rfl) .nil) (Φ' := []) (M' := []) inferInstance (List.nil_sublist _) ⟨?_, rfl, rfl⟩
    simp [tup, Word.of, hc, Word.v, Word.cells, cellsL]
end Go.Rail
namespace Go.Rail
open Go Go.Proofs
set_option maxHeartbeats 400000
set_option maxRecDepth 4000
attribute [local irreducible] OpK G W LW wpListIn Exit.then Exit.inBlock Post rounds opRun bodyPostM intOp
attribute [local irreducible] lexN cmpW cmpK
def RSets (s : Sets × Int) : Value → List Fa → Own → Prop := fun u Φ' M' => ∃ sv, u = .tuple #[sv, .int .i64 s.2] ∧ Φ' = [fRp sv s.1] ∧ M' = []
theorem RSets.mk {s : Sets × Int} {s1 : Sets} {e : Int} {sv : Value} (h : s = (s1, e)) : RSets s (tup [sv, .int .i64 e]) [fRp sv s1] [] := by subst h; exact ⟨sv, rfl, rfl, rfl⟩
end Go.Rail
