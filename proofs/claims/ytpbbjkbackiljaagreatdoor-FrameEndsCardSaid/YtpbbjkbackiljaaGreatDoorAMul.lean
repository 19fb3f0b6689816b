/- math/bits: the product of two words of 64 bits, whole. -/
import Derived.Test.YtpbbjkbackiljaaGreatDoorAEqC1
import Derived.Lib.Mul64
import Derived.Laws.Bits64b
namespace Go.Rail
open Go Go.Proofs
set_option linter.unusedSimpArgs false
set_option linter.unusedVariables false
set_option maxHeartbeats 400000
set_option maxRecDepth 4000
attribute [local irreducible] OpK G W LW wpListIn Exit.then Exit.inBlock Post rounds opRun bodyPostM intOp
theorem u_mask (a : Nat) (ha : a < 18446744073709551616) : intOp .and .u64 (a : Int) 4294967295 = some (.int .u64 ((a % 4294967296 : Nat) : Int)) := by
  have h := bits_and_u64_nat a 4294967295 ha (by omega)
  have e : a &&& 4294967295 = a % 4294967296 := Nat.and_two_pow_sub_one_eq_mod a 32
  rw [e] at h
  unfold intOp
  exact congrArg (fun v => some (Value.int .u64 v)) h
theorem u_mul (a b : Nat) (h : a * b < 18446744073709551616) : intOp .mul .u64 (a : Int) (b : Int) = some (.int .u64 ((a * b : Nat) : Int)) := by
  unfold intOp
  refine congrArg (fun v => some (Value.int .u64 v)) ?_
  rw [← Int.natCast_mul, IntKind.wrap_u64]
  omega
theorem u_mulw (a b : Nat) : intOp .mul .u64 (a : Int) (b : Int) = some (.int .u64 ((a * b % 18446744073709551616 : Nat) : Int)) := by
  unfold intOp
  refine congrArg (fun v => some (Value.int .u64 v)) ?_
  rw [← Int.natCast_mul, IntKind.wrap_u64]
  omega
theorem u_add (a b : Nat) (h : a + b < 18446744073709551616) : intOp .add .u64 (a : Int) (b : Int) = some (.int .u64 ((a + b : Nat) : Int)) := by
  unfold intOp
  refine congrArg (fun v => some (Value.int .u64 v)) ?_
  rw [← Int.natCast_add, IntKind.wrap_u64]
  omega
theorem u_half (a : Nat) : Value.int .u64 ((a : Int).fdiv (2 ^ (min (32 : Int).toNat IntKind.u64.bits))) = .int .u64 ((a / 4294967296 : Nat) : Int) := by
  refine congrArg (Value.int .u64) ?_
  have e : (2 : Int) ^ (min (32 : Int).toNat IntKind.u64.bits) = 4294967296 := by decide
  rw [e, Int.fdiv_eq_ediv_of_nonneg _ (by omega)]
  omega
theorem mul64_spec (x y : Nat) (hx : x < 18446744073709551616) (hy : y < 18446744073709551616) : FnV Tryz.prog 232 [.int .u64 x, .int .u64 y] [] (.tuple #[.int .u64 ((x * y / 18446744073709551616 : Nat) : Int), .int .u64 ((x * y % 18446744073709551616 : Nat) : Int)]) := by
  obtain ⟨bd, bt, bw, hhi⟩ := Lib.mul64_hi x y hx hy
  have ba := Lib.half_mul_le (a := x / 4294967296) (b := y / 4294967296) (by omega) (by omega)
  have bb := Lib.half_mul_le (a := x / 4294967296) (b := y % 4294967296) (by omega) (by omega)
  have bc := Lib.half_mul_le (a := x % 4294967296) (b := y / 4294967296) (by omega) (by omega)
  refine Fn.enter Tryz.func232 rfl Tryz.ntmps232 (by simp) (fun I0 w0 => ?_)
  repeat (first | refine stp ?_ | (refine sti ?_; intro _) | refine stf ?_ | (refine stb ?_; intro _))
  refine o_int rfl rfl rfl rfl (u_mask x hx) ?_
  repeat (first | refine stp ?_ | (refine sti ?_; intro _) | refine stf ?_ | (refine stb ?_; intro _))
  refine o_shr rfl rfl rfl rfl (by decide) (u_half x) ?_
  repeat (first | refine stp ?_ | (refine sti ?_; intro _) | refine stf ?_ | (refine stb ?_; intro _))
  refine o_int rfl rfl rfl rfl (u_mask y hy) ?_
  repeat (first | refine stp ?_ | (refine sti ?_; intro _) | refine stf ?_ | (refine stb ?_; intro _))
  refine o_shr rfl rfl rfl rfl (by decide) (u_half y) ?_
  repeat (first | refine stp ?_ | (refine sti ?_; intro _) | refine stf ?_ | (refine stb ?_; intro _))
  refine o_int rfl rfl rfl rfl (u_mul _ _ (by omega)) ?_
  repeat (first | refine stp ?_ | (refine sti ?_; intro _) | refine stf ?_ | (refine stb ?_; intro _))
  refine o_int rfl rfl rfl rfl (u_mul _ _ (by omega)) ?_
  repeat (first | refine stp ?_ | (refine sti ?_; intro _) | refine stf ?_ | (refine stb ?_; intro _))
  refine o_shr rfl rfl rfl rfl (by decide) (u_half _) ?_
  repeat (first | refine stp ?_ | (refine sti ?_; intro _) | refine stf ?_ | (refine stb ?_; intro _))
  refine o_int rfl rfl rfl rfl (u_add _ _ (by omega)) ?_
  repeat (first | refine stp ?_ | (refine sti ?_; intro _) | refine stf ?_ | (refine stb ?_; intro _))
  refine o_int rfl rfl rfl rfl (u_mask _ (by omega)) ?_
  repeat (first | refine stp ?_ | (refine sti ?_; intro _) | refine stf ?_ | (refine stb ?_; intro _))
  refine o_shr rfl rfl rfl rfl (by decide) (u_half _) ?_
  repeat (first | refine stp ?_ | (refine sti ?_; intro _) | refine stf ?_ | (refine stb ?_; intro _))
  refine o_int rfl rfl rfl rfl (u_mul _ _ (by omega)) ?_
  repeat (first | refine stp ?_ | (refine sti ?_; intro _) | refine stf ?_ | (refine stb ?_; intro _))
  refine o_int rfl rfl rfl rfl (u_add _ _ (by omega)) ?_
  repeat (first | refine stp ?_ | (refine sti ?_; intro _) | refine stf ?_ | (refine stb ?_; intro _))
  refine o_int rfl rfl rfl rfl (u_mul _ _ (by omega)) ?_
  repeat (first | refine stp ?_ | (refine sti ?_; intro _) | refine stf ?_ | (refine stb ?_; intro _))
  refine o_int rfl rfl rfl rfl (u_add _ _ (by omega)) ?_
  repeat (first | refine stp ?_ | (refine sti ?_; intro _) | refine stf ?_ | (refine stb ?_; intro _))
  refine o_shr rfl rfl rfl rfl (by decide) (u_half _) ?_
  repeat (first | refine stp ?_ | (refine sti ?_; intro _) | refine stf ?_ | (refine stb ?_; intro _))
  refine o_int rfl rfl rfl rfl (u_add _ _ (by omega)) ?_
  repeat (first | refine stp ?_ | (refine sti ?_; intro _) | refine stf ?_ | (refine stb ?_; intro _))
  refine o_int rfl rfl rfl rfl (u_mulw x y) ?_
  repeat (first | refine stp ?_ | (refine sti ?_; intro _) | refine stf ?_ | (refine stb ?_; intro _))
  refine G.ret rfl (.cons (.tmp rfl) (.cons (.tmp rfl) .nil)) (Φ' := []) (M' := []) inferInstance (List.nil_sublist _) ⟨?_, rfl, rfl⟩
  rw [hhi]; rfl
end Go.Rail
