/- divide: what the program divides, multiplies and raises. -/
import Derived.Test.YtpbbjkbackiljaaGreatDoorAC4
namespace Go.Rail
open Go Go.Proofs
set_option linter.unusedSimpArgs false
set_option linter.unusedVariables false
set_option maxHeartbeats 400000
set_option maxRecDepth 4000
attribute [local irreducible] OpK G W LW wpListIn Exit.then Exit.inBlock Post rounds opRun bodyPostM intOp
set_option maxHeartbeats 4000000
attribute [local irreducible] lexN cmpW Word.nat subW mulW
theorem wof_spec (n : Nat) (h : n < 9223372036854775808) : FnV Tryz.prog 101 [.int .i64 n] [] (Word.nat n).v := by
  refine Fn.enter Tryz.func101 rfl Tryz.ntmps101 (by simp) (fun I0 w0 => ?_)
  repeat (first | refine stp ?_ | (refine sti ?_; intro _) | refine stf ?_ | (refine stb ?_; intro _))
  refine o_shr (v := .int .i64 0) rfl rfl rfl rfl (by decide) (by
    refine congrArg (Value.int .i64) ?_
    show (n : Int).fdiv (2 ^ 63) = 0
    rw [Int.fdiv_eq_ediv_of_nonneg _ (by decide)]; omega) ?_
  repeat (first | refine stp ?_ | (refine sti ?_; intro _) | refine stf ?_ | (refine stb ?_; intro _))
  refine G.ret rfl (.cons (.cellA rfl rfl) .nil) (Φ' := []) (M' := []) inferInstance (List.nil_sublist _) ⟨?_, rfl, rfl⟩
  have e1 := u64_toNat (n : Int)
  have e0 : (u64 0).toNat = 0 := by decide
  exact Word.v_nat (n := n) (by simp only [top256]; omega) (by omega) (by omega) (by omega) (by omega)
theorem div_spec (a b : Word) : FnV Tryz.prog 143 [a.v, b.v] [] (divW a b).v := by
  have ha := a.num_lt
  refine Fn.enter Tryz.func143 rfl Tryz.ntmps143 (by simp) (fun I0 w0 => ?_)
  by_cases hb : b = Word.zero
  · repeat (first | refine stp ?_ | (refine sti ?_; intro _) | refine stf ?_ | (refine stb ?_; intro _))
    refine o_neq (u := b.v) (v := Word.zero.v) rfl rfl rfl rfl (r := false) (by simp [hb]) ?_
    repeat (first | refine stp ?_ | (refine sti ?_; intro _) | refine stf ?_ | (refine stb ?_; intro _))
    refine G.ret rfl (.cons (.cellA rfl rfl) .nil) (Φ' := []) (M' := []) inferInstance (List.nil_sublist _) ⟨?_, rfl, rfl⟩
    rw [divW, hb, Word.zero_num, Nat.div_zero]; with_unfolding_all rfl
  · have hd := dividedW_spec a.num b (by simpa [top256] using ha) hb
    rw [← Word.cells_num] at hd
    repeat (first | refine stp ?_ | (refine sti ?_; intro _) | refine stf ?_ | (refine stb ?_; intro _))
    refine o_neq (u := b.v) (v := Word.zero.v) rfl rfl rfl rfl (r := true) (by simp [hb]) ?_
    repeat (first | refine stp ?_ | (refine sti ?_; intro _) | refine stf ?_ | (refine stb ?_; intro _))
    refine o_callV rfl rfl rfl rfl hd rfl ?_
    repeat (first | refine stp ?_ | (refine sti ?_; intro _) | refine stf ?_ | (refine stb ?_; intro _))
    refine G.ret rfl (.cons (.cellA rfl rfl) .nil) (Φ' := []) (M' := []) inferInstance (List.nil_sublist _) ⟨?_, rfl, rfl⟩
    rfl
theorem mod_spec (a b : Word) : FnV Tryz.prog 145 [a.v, b.v] [] (modW a b).v := by
  have ha := a.num_lt
  refine Fn.enter Tryz.func145 rfl Tryz.ntmps145 (by simp) (fun I0 w0 => ?_)
  by_cases hb : b = Word.zero
  · repeat (first | refine stp ?_ | (refine sti ?_; intro _) | refine stf ?_ | (refine stb ?_; intro _))
    refine o_neq (u := b.v) (v := Word.zero.v) rfl rfl rfl rfl (r := false) (by simp [hb]) ?_
    repeat (first | refine stp ?_ | (refine sti ?_; intro _) | refine stf ?_ | (refine stb ?_; intro _))
    refine G.ret rfl (.cons (.cellA rfl rfl) .nil) (Φ' := []) (M' := []) inferInstance (List.nil_sublist _) ⟨?_, rfl, rfl⟩
    rw [modW, if_pos hb]; rfl
  · have hd := dividedW_spec a.num b (by simpa [top256] using ha) hb
    rw [← Word.cells_num] at hd
    repeat (first | refine stp ?_ | (refine sti ?_; intro _) | refine stf ?_ | (refine stb ?_; intro _))
    refine o_neq (u := b.v) (v := Word.zero.v) rfl rfl rfl rfl (r := true) (by simp [hb]) ?_
    repeat (first | refine stp ?_ | (refine sti ?_; intro _) | refine stf ?_ | (refine stb ?_; intro _))
    refine o_callV rfl rfl rfl rfl hd rfl ?_
    repeat (first | refine stp ?_ | (refine sti ?_; intro _) | refine stf ?_ | (refine stb ?_; intro _))
    refine G.ret rfl (.cons (.cellA rfl rfl) .nil) (Φ' := []) (M' := []) inferInstance (List.nil_sublist _) ⟨?_, rfl, rfl⟩
    rw [modW, if_neg hb]; rfl
theorem signed_spec (w : Word) : FnV Tryz.prog 235 [w.v] [] (.tuple #[(sizeW w).v, .bool (negW w)]) := by
  refine Fn.enter Tryz.func235 rfl Tryz.ntmps235 (by simp) (fun I0 w0 => ?_)
  unfold sizeW
  by_cases h : 9223372036854775808 ≤ w.d.toNat
  · have e : negW w = true := by simp [negW, h]
    rw [e, if_pos rfl]
    repeat (first | refine stp ?_ | (refine sti ?_; intro _) | refine stf ?_ | (refine stb ?_; intro _))
    refine o_callV rfl rfl rfl rfl (wsub_spec Word.zero w) rfl ?_
    repeat (first | refine stp ?_ | (refine sti ?_; intro _) | refine stf ?_ | (refine stb ?_; intro _))
    refine G.ret rfl (.cons (.cellA rfl rfl) (.cons (.tmp rfl) .nil)) (Φ' := []) (M' := []) inferInstance (List.nil_sublist _) ⟨?_, rfl, rfl⟩
    rfl
  · have e : negW w = false := by simp [negW]; omega
    rw [e, if_neg (by simp)]
    repeat (first | refine stp ?_ | (refine sti ?_; intro _) | refine stf ?_ | (refine stb ?_; intro _))
    refine G.ret rfl (.cons (.cellA rfl rfl) (.cons (.tmp rfl) .nil)) (Φ' := []) (M' := []) inferInstance (List.nil_sublist _) ⟨?_, rfl, rfl⟩
    rfl
theorem with_spec (w : Word) (b : Bool) : FnV Tryz.prog 236 [w.v, .bool b] [] (if b then minusW w else w).v := by
  refine Fn.enter Tryz.func236 rfl Tryz.ntmps236 (by simp) (fun I0 w0 => ?_)
  cases b with
  | true =>
    repeat (first | refine stp ?_ | (refine sti ?_; intro _) | refine stf ?_ | (refine stb ?_; intro _))
    refine o_callV rfl rfl rfl rfl (wsub_spec Word.zero w) rfl ?_
    repeat (first | refine stp ?_ | (refine sti ?_; intro _) | refine stf ?_ | (refine stb ?_; intro _))
    refine G.ret rfl (.cons (.cellA rfl rfl) .nil) (Φ' := []) (M' := []) inferInstance (List.nil_sublist _) ⟨?_, rfl, rfl⟩
    rfl
  | false =>
    repeat (first | refine stp ?_ | (refine sti ?_; intro _) | refine stf ?_ | (refine stb ?_; intro _))
    refine G.ret rfl (.cons (.cellA rfl rfl) .nil) (Φ' := []) (M' := []) inferInstance (List.nil_sublist _) ⟨?_, rfl, rfl⟩
    rfl
theorem sdiv_spec (a b : Word) : FnV Tryz.prog 144 [a.v, b.v] [] (sdivW a b).v := by
  refine Fn.enter Tryz.func144 rfl Tryz.ntmps144 (by simp) (fun I0 w0 => ?_)
  repeat (first | refine stp ?_ | (refine sti ?_; intro _) | refine stf ?_ | (refine stb ?_; intro _))
  refine o_callV rfl rfl rfl rfl (signed_spec a) rfl ?_
  repeat (first | refine stp ?_ | (refine sti ?_; intro _) | refine stf ?_ | (refine stb ?_; intro _))
  refine o_callV rfl rfl rfl rfl (signed_spec b) rfl ?_
  repeat (first | refine stp ?_ | (refine sti ?_; intro _) | refine stf ?_ | (refine stb ?_; intro _))
  refine o_callV rfl rfl rfl rfl (div_spec (sizeW a) (sizeW b)) rfl ?_
  repeat (first | refine stp ?_ | (refine sti ?_; intro _) | refine stf ?_ | (refine stb ?_; intro _))
  refine o_callV rfl rfl rfl rfl (with_spec (divW (sizeW a) (sizeW b)) (negW a != negW b)) rfl ?_
  repeat (first | refine stp ?_ | (refine sti ?_; intro _) | refine stf ?_ | (refine stb ?_; intro _))
  refine G.ret rfl (.cons (.cellA rfl rfl) .nil) (Φ' := []) (M' := []) inferInstance (List.nil_sublist _) ⟨?_, rfl, rfl⟩
  unfold sdivW
  cases negW a <;> cases negW b <;> rfl
theorem smod_spec (a b : Word) : FnV Tryz.prog 146 [a.v, b.v] [] (smodW a b).v := by
  refine Fn.enter Tryz.func146 rfl Tryz.ntmps146 (by simp) (fun I0 w0 => ?_)
  repeat (first | refine stp ?_ | (refine sti ?_; intro _) | refine stf ?_ | (refine stb ?_; intro _))
  refine o_callV rfl rfl rfl rfl (signed_spec a) rfl ?_
  repeat (first | refine stp ?_ | (refine sti ?_; intro _) | refine stf ?_ | (refine stb ?_; intro _))
  refine o_callV rfl rfl rfl rfl (signed_spec b) rfl ?_
  repeat (first | refine stp ?_ | (refine sti ?_; intro _) | refine stf ?_ | (refine stb ?_; intro _))
  refine o_callV rfl rfl rfl rfl (mod_spec (sizeW a) (sizeW b)) rfl ?_
  repeat (first | refine stp ?_ | (refine sti ?_; intro _) | refine stf ?_ | (refine stb ?_; intro _))
  refine o_callV rfl rfl rfl rfl (with_spec (modW (sizeW a) (sizeW b)) (negW a)) rfl ?_
  repeat (first | refine stp ?_ | (refine sti ?_; intro _) | refine stf ?_ | (refine stb ?_; intro _))
  refine G.ret rfl (.cons (.cellA rfl rfl) .nil) (Φ' := []) (M' := []) inferInstance (List.nil_sublist _) ⟨?_, rfl, rfl⟩
  rfl
end Go.Rail
