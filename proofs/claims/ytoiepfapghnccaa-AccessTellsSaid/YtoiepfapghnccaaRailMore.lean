/- More operations: conversions, literals, appends, slices of slices. -/
import Derived.Test.YtoiepfapghnccaaRailDraw
set_option linter.unusedSimpArgs false
set_option linter.unusedVariables false
namespace Go.Rail
open Go

/-- The cells of v laid over others, from off on. -/
def splice (cs : List Value) (off : Nat) (vs : List Value) : List Value := cs.take off ++ vs ++ cs.drop (off + vs.length)

theorem foldl_splice : ∀ (vs : List Value) (cs : List Value) (off k : Nat), off + k + vs.length ≤ cs.length →
    (vs.toArray.zipIdx k).foldl (fun (a : Array Value) (p : Value × Nat) => a.setIfInBounds (off + p.2) p.1) cs.toArray = (splice cs (off + k) vs).toArray := by
  intro vs
  induction vs with
  | nil => intro cs off k h; rw [← Array.foldl_toList]; simp [splice]
  | cons v vs ih =>
    intro cs off k h
    simp only [List.length_cons] at h
    rw [← Array.foldl_toList]
    simp only [Array.toList_zipIdx, List.zipIdx_cons, List.foldl_cons]
    have := ih (cs.set (off + k) v) off (k + 1) (by simp; omega)
    rw [← Array.foldl_toList] at this
    simp only [Array.toList_zipIdx] at this
    have e : cs.toArray.setIfInBounds (off + k) v = (cs.set (off + k) v).toArray := by simp
    rw [e, this]
    congr 1
    unfold splice
    have e1 : (cs.set (off + k) v).take (off + (k + 1)) = cs.take (off + k) ++ [v] := by
      rw [show off + (k + 1) = (off + k) + 1 from by omega, List.take_succ_eq_append_getElem (by simp; omega)]
      simp [List.take_set_of_le]
    have e2 : (cs.set (off + k) v).drop (off + (k + 1) + vs.length) = cs.drop (off + k + (v :: vs).length) := by
      rw [List.drop_set_of_lt (by omega)]
      congr 1
      simp; omega
    rw [e1, e2]; simp

/-- A struct or an array laid out of parts. -/
inductive FillR (place : Nat → Option (Nat × Nat)) : List Value → List (Nat × Value) → List Value → Prop
  | nil {cs : List Value} : FillR place cs [] cs
  | cons {cs cs' vs : List Value} {i off size : Nat} {v : Value} {rest : List (Nat × Value)} (hp : place i = some (off, size)) (hv : cellsL v = vs) (hl : vs.length = size) (hle : off + size ≤ cs.length)
      {cs1 : List Value} (hs : NormL (splice cs off vs) cs1) (h : FillR place cs1 rest cs') : FillR place cs ((i, v) :: rest) cs'
theorem NormL.refl {α : Type} : ∀ (l : List α), NormL l l
  | [] => .nil rfl
  | _ :: l => .cons rfl (NormL.refl l)
theorem FillR.run {place : Nat → Option (Nat × Nat)} {cs cs' : List Value} {parts : List (Nat × Value)} (h : FillR place cs parts cs') : Instr.fill place cs.toArray parts = some cs'.toArray := by
  induction h with
  | nil => rfl
  | @cons cs cs' vs i off size v rest hp hv hl hle cs1 hs _ ih =>
    have hs := hs.eq
    subst hv hs
    have hsz : v.cells.size = size := by rw [← Array.length_toList, cells_toList, hl]
    simp only [Instr.fill, hp]
    rw [if_neg (by simp [hsz]; omega)]
    have h5 := foldl_splice (cellsL v) cs off 0 (by omega)
    rw [Nat.add_zero] at h5
    rw [← ih, ← h5]
    have e : v.cells = (cellsL v).toArray := by rw [← cells_toList, Array.toArray_toList]
    rw [e]
class Places (P : Program) (t : TypeId) (place : outParam (Nat → Option (Nat × Nat))) (zs : outParam (List Value)) : Prop where
  h : ∀ parts cs w, FillR place zs parts cs → (Instr.build t parts.toArray).run P w = .ok (.agg cs.toArray) w
instance Places.array {P : Program} {t n e sz : Nat} {zs : List Value} [ht : ArTy P t n e] [hs : Siz P e sz] [hz : Zer P t zs] : Places P t (fun i => some (i * sz, sz)) zs := ⟨fun parts cs w h => by
  obtain ⟨z, h1, rfl⟩ := hz.h w
  have hf := h.run
  rw [← cells_toList, Array.toArray_toList] at hf
  simp [Instr.build, h1, run_underlying ht.h, hs.h, Sem.run_bind, Result.andThen, hf, Sem.run_pure]⟩
/-- The places of a struct's fields. -/
inductive FieldsAt (P : Program) : List Field → List (Nat × Nat) → Prop
  | nil : FieldsAt P [] []
  | cons {f : Field} {fs : List Field} {l : List (Nat × Nat)} {n : Nat} (h : ∀ w, (sizeOf f.type).run P w = .ok n w) (t : FieldsAt P fs l) : FieldsAt P (f :: fs) ((f.offset, n) :: l)
theorem FieldsAt.run {P : Program} {fs : List Field} {l : List (Nat × Nat)} (h : FieldsAt P fs l) (w : World) : (fs.mapM fun (f : Field) => (do pure (f.offset, ← sizeOf f.type) : Sem (Nat × Nat))).run P w = .ok l w := by
  induction h with
  | nil => simp [Sem.run_pure]
  | cons h _ ih => simp only [List.mapM_cons, Sem.run_bind, h, Result.andThen, Sem.run_pure, ih]
class StPl (P : Program) (t : TypeId) (pl : outParam (List (Nat × Nat))) : Prop where h : ∃ fs : List Field, P.underlying t = some (.struct fs.toArray) ∧ FieldsAt P fs pl
instance Places.struct {P : Program} {t : Nat} {pl : List (Nat × Nat)} {zs : List Value} [ht : StPl P t pl] [hz : Zer P t zs] : Places P t (fun i => pl[i]?) zs := ⟨fun parts cs w h => by
  obtain ⟨z, h1, rfl⟩ := hz.h w
  obtain ⟨fs, h2, h3⟩ := ht.h
  have hf := h.run
  rw [← cells_toList, Array.toArray_toList] at hf
  have hp := h3.run w
  simp only [Instr.build, Sem.run_bind, h1, run_underlying h2, Result.andThen]
  rw [List.mapM_toArray, Sem.run_map, hp]
  simp [Sem.run_bind, Result.andThen, hf, Sem.run_pure]⟩

section
variable {x : Cx} {Q : Exit → Act → World → Prop} {Φ : List Fa} {L : Env} {M : Own} {ops : Array Oper} {K : Act → World → Prop}
variable {d : Nat} {ty : TypeId} {pos : String} {af : Array Edge} {g : Option (Nat × Bool)}

/-- The parts' values. -/
def evParts (L : Env) : List (Nat × Operand) → Option (List (Nat × Value))
  | [] => some []
  | (i, o) :: l => match ev L o, evParts L l with
    | some v, some vs => some ((i, v) :: vs)
    | _, _ => none
theorem evParts_map {N : Nat} {ds : List Deferred} {a : Act} (hk : Kn N L ds a) : ∀ {l : List (Nat × Operand)} {vs : List (Nat × Value)}, evParts L l = some vs → l.map (fun p => (p.1, a.eval p.2)) = vs := by
  intro l
  induction l with
  | nil => intro vs h; simp [evParts] at h; simp [h]
  | cons p l ih =>
    obtain ⟨i, o⟩ := p
    intro vs h
    simp only [evParts] at h
    cases hv : ev L o with
    | none => rw [hv] at h; cases h
    | some v =>
      cases hvs : evParts L l with
      | none => rw [hv, hvs] at h; cases h
      | some vs' =>
        rw [hv, hvs] at h
        simp only [Option.some.injEq] at h
        subst h
        simp [hk.eval hv, ih hvs]
theorem o_build {t : TypeId} {parts : List (Nat × Operand)} {vs : List (Nat × Value)} {place : Nat → Option (Nat × Nat)} {zs cs : List Value} [hP : Places x.P t place zs] (hdN : Nat.blt d x.N = true) (hg : gd ops L g = some true)
    (hv : evParts L parts = some vs) (hf : FillR place zs vs cs) (h : G x Φ ((d, .agg cs.toArray) :: L) M K) : OpK x ops Q ⟨some d, .build t parts.toArray, ty, pos, af, g⟩ Φ L M K :=
  OpK.val rfl hdN hg (by simp) (fun I a w hp hk hw => by
    have := hP.h vs cs w hf
    have e : (parts.map fun p => (p.1, a.eval p.2)) = vs := evParts_map hk hv
    simp only [execOp, List.map_toArray]
    rw [show (parts.map fun (x : Nat × Operand) => match x with | (i, x) => (i, a.eval x)) = vs from e]
    simp [this, Sem.run_bind, Result.andThen, Sem.run_pure]) h
class IntTy (P : Program) (t : TypeId) (k : outParam IntKind) : Prop where h : P.underlying t = some (.int k)
theorem o_conv {s t : TypeId} {y : Operand} {k k' ks : IntKind} {n : Int} {v : Value} [hs : IntTy x.P s ks] [ht : IntTy x.P t k] (hdN : Nat.blt d x.N = true) (hg : gd ops L g = some true) (hy : ev L y = some (.int k' n)) (hv : Value.int k (k.wrap n) = v)
    (h : G x Φ ((d, v) :: L) M K) : OpK x ops Q ⟨some d, .convert s t y, ty, pos, af, g⟩ Φ L M K :=
  OpK.val rfl hdN hg (by simp) (fun I a w hp hk hw => by
    subst hv
    simp [execOp, hk.eval hy, convert, run_underlying hs.h, run_underlying ht.h, Conv.intToInt, Sem.run_bind, Result.andThen, Sem.run_pure]) h
end
end Go.Rail
namespace Go.Rail
section
variable {x : Cx} {Q : Exit → Act → World → Prop} {Φ : List Fa} {L : Env} {M : Own} {ops : Array Oper}
theorem G.cons {o : Oper} {rest : List Oper} (h : OpK x ops Q o Φ L M (wpListIn (FR x.r) 0 x.P ops Q rest)) : G x Φ L M (wpListIn (FR x.r) 0 x.P ops Q (o :: rest)) := h
theorem G.nil (h : G x Φ L M (Q .normal)) : G x Φ L M (wpListIn (FR x.r) 0 x.P ops Q []) := h
theorem W.bare {c : Code} (h : G x Φ L M (fun a w => c.wpIn (FR x.r) 0 x.P Q a w)) : W x c Q Φ L M := h
theorem G.code {c : Code} (h : W x c Q Φ L M) : G x Φ L M (fun a w => c.wpIn (FR x.r) 0 x.P Q a w) := h

/-- So many rounds of a loop, and no more. -/
def rounds (x : Cx) (c : Code) (Q : Exit → Act → World → Prop) : Nat → Act → World → Prop
  | 0 => fun _ _ => False
  | n + 1 => fun a w => c.wpIn (FR x.r) 0 x.P (Exit.then (rounds x c Q n) Q) a w
theorem W.loopN {c : Code} (n : Nat) (h : G x Φ L M (rounds x c Q n)) : W x (.loop c) Q Φ L M := by
  intro I a w hp hk hw
  refine wpIn_loop (fun a w => ∃ n, rounds x c Q n a w) (fun a w => least fun n => rounds x c Q n a w) ⟨n, h I a w hp hk hw⟩ ?_
  rintro a w hn
  have hl := least_spec hn
  cases hm : least (fun n => rounds x c Q n a w) with
  | zero => rw [hm] at hl; exact hl.1.elim
  | succ m =>
    rw [hm] at hl
    refine wpIn_mono hl.1 ?_
    intro e a' w' hq
    cases e with
    | normal =>
      have hq : rounds x c Q m a' w' := hq
      exact ⟨⟨m, hq⟩, by have := (least_spec (P := fun n => rounds x c Q n a' w') ⟨m, hq⟩).2 m hq; omega⟩
    | exit id => exact hq
    | goto l => exact hq
    | ret => exact hq
    | panic ch => exact hq
    | outgrown => exact hq
theorem G.round {c : Code} {n : Nat} (h : W x c (Exit.then (rounds x c Q n) Q) Φ L M) : G x Φ L M (rounds x c Q (n + 1)) := h

/-- The end of a round of a loop that has an invariant. -/
theorem G.again {S : Type} {f : S → List Fa × Env × Own} {pre lt : S → Prop} (s' : S) (hμ : lt s') (hpre : pre s') (hΦ : Ents Φ (f s').1) (hL : ∀ t v, look (f s').2.1 t = some v → look L t = some v) (hM : (f s').2.2.Sublist M) :
    G x Φ L M (fun a w => ∃ s', lt s' ∧ Inv x f pre s' a w) :=
  fun I a w hp hk hw => ⟨s', hμ, hpre, I, hΦ.h I hp, ⟨hk.sz, fun t v e => hk.val t v (hL t v e), hk.df⟩, hw.sub hM⟩
theorem W.loopI {c : Code} {S : Type} (f : S → List Fa × Env × Own) (pre : S → Prop) (μ : S → Nat) (s0 : S) (h0 : pre s0) (hΦ : Ents Φ (f s0).1) (hL : ∀ t v, look (f s0).2.1 t = some v → look L t = some v) (hM : (f s0).2.2.Sublist M)
    (hround : ∀ s, pre s → W x c (Exit.then (fun a w => ∃ s', μ s' < μ s ∧ Inv x f pre s' a w) Q) (f s).1 (f s).2.1 (f s).2.2) : W x (.loop c) Q Φ L M :=
  W.loop f pre μ s0 h0 (fun I a w hp hk hw => ⟨h0, I, hΦ.h I hp, ⟨hk.sz, fun t v e => hk.val t v (hL t v e), hk.df⟩, hw.sub hM⟩) hround
/-- A shorter list of slots. -/
theorem look_sub_nil {L : Env} : ∀ t v, look [] t = some v → look L t = some v := fun _ _ h => by cases h
theorem look_sub_cons {L L' : Env} {k : Nat} {u : Value} (h : look L k = some u) (t : ∀ t v, look L' t = some v → look L t = some v) : ∀ t v, look ((k, u) :: L') t = some v → look L t = some v := by
  intro t' v hv
  by_cases e : k = t'
  · subst e; rw [look_cons_eq] at hv; cases hv; exact h
  · rw [look_cons_ne e] at hv; exact t t' v hv
end

/-! ### Which rule to try: the goal as it is, told by its head -/
section
variable {x : Cx} {Q : Exit → Act → World → Prop} {Φ : List Fa} {L : Env} {M : Own} {ops : Array Oper} {K : Act → World → Prop}
variable {d : Option Nat} {ty t t' : TypeId} {pos : String} {af : Array Edge} {g : Option (Nat × Bool)} {y z c : Operand} {o : Oper}
theorem k_op (h : OpK x ops Q o Φ L M K) : OpK x ops Q o Φ L M K := h
theorem k_g {F : Act → World → Prop} (h : G x Φ L M F) : G x Φ L M F := h
theorem k_w {c : Code} (h : W x c Q Φ L M) : W x c Q Φ L M := h
theorem k_lw {l : List Oper} (h : LW x ops Q l Φ L M) : LW x ops Q l Φ L M := h
theorem k_move (h : OpK x ops Q ⟨d, .move y, ty, pos, af, g⟩ Φ L M K) : OpK x ops Q ⟨d, .move y, ty, pos, af, g⟩ Φ L M K := h
theorem k_assign (h : OpK x ops Q ⟨d, .assign y, ty, pos, af, g⟩ Φ L M K) : OpK x ops Q ⟨d, .assign y, ty, pos, af, g⟩ Φ L M K := h
theorem k_load (h : OpK x ops Q ⟨d, .load t y, ty, pos, af, g⟩ Φ L M K) : OpK x ops Q ⟨d, .load t y, ty, pos, af, g⟩ Φ L M K := h
theorem k_store (h : OpK x ops Q ⟨d, .store t y z, ty, pos, af, g⟩ Φ L M K) : OpK x ops Q ⟨d, .store t y z, ty, pos, af, g⟩ Φ L M K := h
theorem k_indexAddr (h : OpK x ops Q ⟨d, .indexAddr t y z, ty, pos, af, g⟩ Φ L M K) : OpK x ops Q ⟨d, .indexAddr t y z, ty, pos, af, g⟩ Φ L M K := h
theorem k_fieldAddr {i : Nat} (h : OpK x ops Q ⟨d, .fieldAddr t y i, ty, pos, af, g⟩ Φ L M K) : OpK x ops Q ⟨d, .fieldAddr t y i, ty, pos, af, g⟩ Φ L M K := h
theorem k_binOp {op : BinOp} (h : OpK x ops Q ⟨d, .binOp op t y z t', ty, pos, af, g⟩ Φ L M K) : OpK x ops Q ⟨d, .binOp op t y z t', ty, pos, af, g⟩ Φ L M K := h
theorem k_unOp {op : UnOp} (h : OpK x ops Q ⟨d, .unOp op t y, ty, pos, af, g⟩ Φ L M K) : OpK x ops Q ⟨d, .unOp op t y, ty, pos, af, g⟩ Φ L M K := h
theorem k_pick (h : OpK x ops Q ⟨d, .pick c y z, ty, pos, af, g⟩ Φ L M K) : OpK x ops Q ⟨d, .pick c y z, ty, pos, af, g⟩ Φ L M K := h
theorem k_extract {i : Nat} (h : OpK x ops Q ⟨d, .extract y i, ty, pos, af, g⟩ Φ L M K) : OpK x ops Q ⟨d, .extract y i, ty, pos, af, g⟩ Φ L M K := h
theorem k_build {ps : Array (Nat × Operand)} (h : OpK x ops Q ⟨d, .build t ps, ty, pos, af, g⟩ Φ L M K) : OpK x ops Q ⟨d, .build t ps, ty, pos, af, g⟩ Φ L M K := h
theorem k_convert (h : OpK x ops Q ⟨d, .convert t t' y, ty, pos, af, g⟩ Φ L M K) : OpK x ops Q ⟨d, .convert t t' y, ty, pos, af, g⟩ Φ L M K := h
theorem k_box (h : OpK x ops Q ⟨d, .box t y, ty, pos, af, g⟩ Φ L M K) : OpK x ops Q ⟨d, .box t y, ty, pos, af, g⟩ Φ L M K := h
theorem k_alloc (h : OpK x ops Q ⟨d, .alloc t, ty, pos, af, g⟩ Φ L M K) : OpK x ops Q ⟨d, .alloc t, ty, pos, af, g⟩ Φ L M K := h
theorem k_call {cl : Call} (h : OpK x ops Q ⟨d, .call cl, ty, pos, af, g⟩ Φ L M K) : OpK x ops Q ⟨d, .call cl, ty, pos, af, g⟩ Φ L M K := h
end

/-! ### Integers -/
section
variable {k : IntKind} {p q : Int}
theorem i_lss_t (h : p < q) : intOp .lss k p q = some (.bool true) := by simp [intOp, h]
theorem i_lss_f (h : q ≤ p) : intOp .lss k p q = some (.bool false) := by simp [intOp]; omega
theorem i_leq_t (h : p ≤ q) : intOp .leq k p q = some (.bool true) := by simp [intOp, h]
theorem i_leq_f (h : q < p) : intOp .leq k p q = some (.bool false) := by simp [intOp]; omega
theorem i_gtr_t (h : q < p) : intOp .gtr k p q = some (.bool true) := by simp [intOp, h]
theorem i_gtr_f (h : p ≤ q) : intOp .gtr k p q = some (.bool false) := by simp [intOp]; omega
theorem i_geq_t (h : q ≤ p) : intOp .geq k p q = some (.bool true) := by simp [intOp, h]
theorem i_geq_f (h : p < q) : intOp .geq k p q = some (.bool false) := by simp [intOp]; omega
theorem i_eql_t (h : p = q) : intOp .eql k p q = some (.bool true) := by simp [intOp, h]
theorem i_eql_f (h : p ≠ q) : intOp .eql k p q = some (.bool false) := by simp [intOp, h]
theorem i_neq_t (h : p ≠ q) : intOp .neq k p q = some (.bool true) := by simp [intOp, h]
theorem i_neq_f (h : p = q) : intOp .neq k p q = some (.bool false) := by simp [intOp, h]
theorem i_lss_d : intOp .lss k p q = some (.bool (decide (p < q))) := rfl
theorem i_leq_d : intOp .leq k p q = some (.bool (decide (p ≤ q))) := rfl
theorem i_gtr_d : intOp .gtr k p q = some (.bool (decide (q < p))) := rfl
theorem i_geq_d : intOp .geq k p q = some (.bool (decide (q ≤ p))) := rfl
theorem i_eql_d : intOp .eql k p q = some (.bool (decide (p = q))) := by simp [intOp]; rfl
theorem i_neq_d : intOp .neq k p q = some (.bool (decide (p ≠ q))) := by simp [intOp]; by_cases h : p = q <;> simp [h]
theorem wrap_i64 {n : Int} (h1 : -9223372036854775808 ≤ n) (h2 : n < 9223372036854775808) : IntKind.i64.wrap n = n := by
  simp only [IntKind.wrap, IntKind.signed, IntKind.bits, if_true]
  simp [IntKind.min, IntKind.max]
  omega
theorem i_add (h1 : -9223372036854775808 ≤ p + q) (h2 : p + q < 9223372036854775808) : intOp .add .i64 p q = some (.int .i64 (p + q)) := by simp [intOp, wrap_i64 h1 h2]
theorem i_sub (h1 : -9223372036854775808 ≤ p - q) (h2 : p - q < 9223372036854775808) : intOp .sub .i64 p q = some (.int .i64 (p - q)) := by simp [intOp, wrap_i64 h1 h2]
theorem i_mul (h1 : -9223372036854775808 ≤ p * q) (h2 : p * q < 9223372036854775808) : intOp .mul .i64 p q = some (.int .i64 (p * q)) := by simp [intOp, wrap_i64 h1 h2]
theorem i_rem (h : q ≠ 0) : intOp .rem k p q = some (.int k (p.tmod q)) := by simp [intOp, h]
end
end Go.Rail
