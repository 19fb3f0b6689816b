/- The steps of a walk, each by one theorem: what a step wants is sought by its own default. -/
import Derived.Test.YtoiepfapghnccaaRailTypes
import Derived.Test.YtoiepfapghnccaaRailSlice
set_option linter.unusedSimpArgs false
set_option linter.unusedVariables false
namespace Go.Rail
open Go
section
variable {x : Cx} {Q : Exit → Act → World → Prop} {Φ : List Fa} {L : Env} {M : Own} {ops : Array Oper} {K : Act → World → Prop}
variable {d : Option Nat} {ty t t' : TypeId} {pos : String} {af : Array Edge} {g : Option (Nat × Bool)} {y z c : Operand} {o : Oper}

theorem kf_op {pp : Prop} (h : pp → OpK x ops Q o Φ L M K) : pp → OpK x ops Q o Φ L M K := h
theorem kf_g {F : Act → World → Prop} {pp : Prop} (h : pp → G x Φ L M F) : pp → G x Φ L M F := h
theorem kf_w {c : Code} {pp : Prop} (h : pp → W x c Q Φ L M) : pp → W x c Q Φ L M := h
theorem kf_lw {l : List Oper} {pp : Prop} (h : pp → LW x ops Q l Φ L M) : pp → LW x ops Q l Φ L M := h
theorem kf_move {pp : Prop} (h : pp → OpK x ops Q ⟨d, .move y, ty, pos, af, g⟩ Φ L M K) : pp → OpK x ops Q ⟨d, .move y, ty, pos, af, g⟩ Φ L M K := h
theorem kf_assign {pp : Prop} (h : pp → OpK x ops Q ⟨d, .assign y, ty, pos, af, g⟩ Φ L M K) : pp → OpK x ops Q ⟨d, .assign y, ty, pos, af, g⟩ Φ L M K := h
theorem kf_load {pp : Prop} (h : pp → OpK x ops Q ⟨d, .load t y, ty, pos, af, g⟩ Φ L M K) : pp → OpK x ops Q ⟨d, .load t y, ty, pos, af, g⟩ Φ L M K := h
theorem kf_store {pp : Prop} (h : pp → OpK x ops Q ⟨d, .store t y z, ty, pos, af, g⟩ Φ L M K) : pp → OpK x ops Q ⟨d, .store t y z, ty, pos, af, g⟩ Φ L M K := h
theorem kf_indexAddr {pp : Prop} (h : pp → OpK x ops Q ⟨d, .indexAddr t y z, ty, pos, af, g⟩ Φ L M K) : pp → OpK x ops Q ⟨d, .indexAddr t y z, ty, pos, af, g⟩ Φ L M K := h
theorem kf_fieldAddr {i : Nat} {pp : Prop} (h : pp → OpK x ops Q ⟨d, .fieldAddr t y i, ty, pos, af, g⟩ Φ L M K) : pp → OpK x ops Q ⟨d, .fieldAddr t y i, ty, pos, af, g⟩ Φ L M K := h
theorem kf_binOp {op : BinOp} {pp : Prop} (h : pp → OpK x ops Q ⟨d, .binOp op t y z t', ty, pos, af, g⟩ Φ L M K) : pp → OpK x ops Q ⟨d, .binOp op t y z t', ty, pos, af, g⟩ Φ L M K := h
theorem kf_unOp {op : UnOp} {pp : Prop} (h : pp → OpK x ops Q ⟨d, .unOp op t y, ty, pos, af, g⟩ Φ L M K) : pp → OpK x ops Q ⟨d, .unOp op t y, ty, pos, af, g⟩ Φ L M K := h
theorem kf_pick {pp : Prop} (h : pp → OpK x ops Q ⟨d, .pick c y z, ty, pos, af, g⟩ Φ L M K) : pp → OpK x ops Q ⟨d, .pick c y z, ty, pos, af, g⟩ Φ L M K := h
theorem kf_extract {i : Nat} {pp : Prop} (h : pp → OpK x ops Q ⟨d, .extract y i, ty, pos, af, g⟩ Φ L M K) : pp → OpK x ops Q ⟨d, .extract y i, ty, pos, af, g⟩ Φ L M K := h
theorem kf_build {ps : Array (Nat × Operand)} {pp : Prop} (h : pp → OpK x ops Q ⟨d, .build t ps, ty, pos, af, g⟩ Φ L M K) : pp → OpK x ops Q ⟨d, .build t ps, ty, pos, af, g⟩ Φ L M K := h
theorem kf_convert {pp : Prop} (h : pp → OpK x ops Q ⟨d, .convert t t' y, ty, pos, af, g⟩ Φ L M K) : pp → OpK x ops Q ⟨d, .convert t t' y, ty, pos, af, g⟩ Φ L M K := h
theorem kf_box {pp : Prop} (h : pp → OpK x ops Q ⟨d, .box t y, ty, pos, af, g⟩ Φ L M K) : pp → OpK x ops Q ⟨d, .box t y, ty, pos, af, g⟩ Φ L M K := h
theorem kf_alloc {pp : Prop} (h : pp → OpK x ops Q ⟨d, .alloc t, ty, pos, af, g⟩ Φ L M K) : pp → OpK x ops Q ⟨d, .alloc t, ty, pos, af, g⟩ Φ L M K := h
theorem kf_call {cl : Call} {pp : Prop} (h : pp → OpK x ops Q ⟨d, .call cl, ty, pos, af, g⟩ Φ L M K) : pp → OpK x ops Q ⟨d, .call cl, ty, pos, af, g⟩ Φ L M K := h
end
theorem stp {p q : Prop} (hp : p) (s : p → q := by
  first
    | (apply kf_op; first
      | exact OpK.pass rfl rfl rfl
      | (apply kf_move; first | exact o_move rfl rfl rfl)
      | (apply kf_assign; first | exact o_assign rfl rfl rfl)
      | (apply kf_pick; first | exact o_pick rfl rfl rfl rfl)
      | (apply kf_extract; first | exact o_extract rfl rfl rfl rfl)
      | (apply kf_load; first | exact o_load1 rfl rfl rfl rfl | (refine o_loadN (vs := ?_) rfl rfl rfl rfl ?_; rotate_left; (focus (repeat (first | exact NormL.nil rfl | (refine NormL.cons (t' := ?_) rfl ?_; rotate_left))); done)) | exact o_loadT (α := Key) _ rfl rfl rfl rfl (Key.le_all _) (Key.cells_all _) | exact o_loadT (α := Word) _ rfl rfl rfl rfl (Key.le_key _) (Key.cells_key _) | exact o_loadA rfl rfl rfl (by first | exact rfl | exact Nat.le_of_ble_eq_true rfl | decide | (simp; done) | omega) rfl)
      | (apply kf_indexAddr; first | exact o_index rfl rfl rfl rfl (by first | exact rfl | exact Nat.le_of_ble_eq_true rfl | decide | (simp; done) | omega) (by first | exact rfl | exact Nat.le_of_ble_eq_true rfl | decide | (simp; done) | omega) rfl)
      | (apply kf_fieldAddr; first | exact o_field rfl rfl rfl)
      | (apply kf_build; first | (refine o_build (cs := ?_) rfl rfl rfl ?_; rotate_left; (focus (repeat (first | exact FillR.nil | (refine FillR.cons (cs1 := ?_) rfl rfl (by first | exact rfl | exact Nat.le_of_ble_eq_true rfl | decide | (simp; done) | omega) (by first | exact rfl | exact Nat.le_of_ble_eq_true rfl | decide | (simp; done) | omega) ?_ ?_; rotate_left; (focus (repeat (first | exact NormL.nil rfl | (refine NormL.cons (t' := ?_) rfl ?_; rotate_left))); done)))))))
      | (apply kf_convert; first | exact o_conv rfl rfl rfl (by first | exact u64_wrap _ | exact u8_wrap _ | (rw [wrap_i64 (by omega) (by omega)]; rfl)))
      | (apply kf_store; first | (refine o_storeN (cs' := ?_) (M' := ?_) rfl rfl rfl rfl rfl rfl rfl ?_ ?_; rotate_left; rotate_left; (focus (repeat (first | exact NormL.nil rfl | (refine NormL.cons (t' := ?_) rfl ?_; rotate_left))); done); (focus infer_instance)) | exact o_store rfl rfl rfl rfl (by first | exact rfl | exact Nat.le_of_ble_eq_true rfl | decide | (simp; done) | omega) (by first | exact rfl | exact Nat.le_of_ble_eq_true rfl | decide | (simp; done) | omega) (by first | exact rfl | exact Nat.le_of_ble_eq_true rfl | decide | (simp; done) | omega) rfl)
      | (apply kf_binOp; first | exact o_int rfl rfl rfl rfl (by first | exact i_lss_t (by omega) | exact i_lss_f (by omega) | exact i_leq_t (by omega) | exact i_leq_f (by omega) | exact i_gtr_t (by omega) | exact i_gtr_f (by omega) | exact i_geq_t (by omega) | exact i_geq_f (by omega) | exact i_eql_t (by omega) | exact i_eql_f (by omega) | exact i_neq_t (by omega) | exact i_neq_f (by omega) | exact i_add (by omega) (by omega) | exact i_sub (by omega) (by omega) | exact i_mul (by omega) (by omega) | exact i_rem (by omega) | exact i_lss_d | exact i_leq_d | exact i_gtr_d | exact i_geq_d | exact i_eql_d | exact i_neq_d) | exact o_eql rfl rfl rfl rfl rfl  | exact o_neq rfl rfl rfl rfl rfl )
      | (apply kf_unOp; first | exact o_not rfl rfl rfl rfl  | exact o_neg rfl rfl rfl (neg_in (by omega) (by omega)))
      | (apply kf_call; first | exact o_len rfl rfl rfl  | exact o_lenS rfl rfl rfl ))
    | (apply kf_g; first | exact G.cons | exact G.then_normal | exact G.nil | exact G.in_normal | exact G.then_normalG | exact G.then_ret | exact G.in_ret | exact G.in_exit | exact G.in_exit_ne rfl | exact G.then_exit | exact G.round | exact G.code)
    | (apply kf_w; first | exact W.seq | exact W.region | exact W.cond_true rfl | exact W.cond_false rfl | exact W.block | exact W.skip | exact W.ret | exact W.exit)
    | (apply kf_lw; first | exact LW.cons | exact LW.nil)) : q := s hp
theorem stb {F : Nat → Prop} {q : Prop} (hp : ∀ b, F b) (s : (∀ b, F b) → q := by
  first
    | (apply kf_op; first
      | (apply kf_box; first | exact o_box rfl rfl rfl rfl)
      | (apply kf_alloc; first | exact o_alloc rfl rfl))) : q := s hp
theorem stl {F : Value → Prop} {q : Prop} (hp : ∀ v, F v) (s : (∀ v, F v) → q := by
  first
    | (apply kf_op; apply kf_load; exact o_loadR rfl rfl rfl rfl)) : q := s hp
section
variable {x : Cx} {Q : Exit → Act → World → Prop} {Φ : List Fa} {L : Env} {M : Own} {ops : Array Oper} {K : Act → World → Prop}
variable {d : Nat} {ty : TypeId} {pos : String} {af : Array Edge} {g : Option (Nat × Bool)}
theorem o_ixA {α : Type} [GoTy α] {t e : TypeId} {y z : Operand} {k : IntKind} {n : Int} {v : Value} {xs : List α} (i : Nat) [ht : SlTy x.P t e] [hs : Siz x.P e (GoTy.sz α)] [kr : KRp Φ v xs] (hdN : Nat.blt d x.N = true) (hg : gd ops L g = some true) (hy : ev L y = some v) (hz : ev L z = some (.int k n)) (hn : n = (i : Int))
    (hi : i < xs.length := by first | exact rfl | exact Nat.le_of_ble_eq_true rfl | decide | (simp; done) | omega) (h : ∀ p, G x (fPt p xs[i] :: Φ) ((d, p) :: L) M K) : OpK x ops Q ⟨some d, .indexAddr t y z, ty, pos, af, g⟩ Φ L M K := o_idxN i hdN hg hy hz hn hi h
theorem o_ixB {α : Type} [GoTy α] {t e : TypeId} {y z : Operand} {k : IntKind} {n : Int} {v : Value} {xs : List α} [ht : SlTy x.P t e] [hs : Siz x.P e (GoTy.sz α)] [kr : KRp Φ v xs] (hdN : Nat.blt d x.N = true) (hg : gd ops L g = some true) (hy : ev L y = some v) (hz : ev L z = some (.int k n))
    (h0 : 0 ≤ n := by first | exact rfl | exact Nat.le_of_ble_eq_true rfl | decide | (simp; done) | omega) (hi : n.toNat < xs.length := by first | exact rfl | exact Nat.le_of_ble_eq_true rfl | decide | (simp; done) | omega) (h : ∀ p, G x (fPt p xs[n.toNat] :: Φ) ((d, p) :: L) M K) : OpK x ops Q ⟨some d, .indexAddr t y z, ty, pos, af, g⟩ Φ L M K := o_idx hdN hg hy hz h0 hi h
end
end Go.Rail
