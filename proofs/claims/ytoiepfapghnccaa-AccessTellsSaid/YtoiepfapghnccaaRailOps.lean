/- The operations, one by one. -/
import Derived.Test.YtoiepfapghnccaaRailCode
import Derived.Laws.Rows
set_option linter.unusedSimpArgs false
set_option linter.unusedVariables false
namespace Go.Rail
open Go

/-! ### What is asked of a program's types -/
class SlTy (P : Program) (t : TypeId) (e : outParam TypeId) : Prop where h : P.underlying t = some (.slice e)
class ArTy (P : Program) (t : TypeId) (n : outParam Nat) (e : outParam TypeId) : Prop where h : P.underlying t = some (.array n e)
class StTy (P : Program) (t : TypeId) : Prop where h : ∃ fs, P.underlying t = some (.struct fs)
class Siz (P : Program) (t : TypeId) (n : outParam Nat) : Prop where h : ∀ w, (sizeOf t).run P w = .ok n w
class IsAg (P : Program) (t : TypeId) (b : outParam Bool) : Prop where h : ∀ w, (isAgg t).run P w = .ok b w
class Fld (P : Program) (s : TypeId) (i : Nat) (off : outParam Nat) (ty : outParam TypeId) : Prop where
  h : ∃ fs f, P.underlying s = some (.struct fs) ∧ fs[i]? = some f ∧ f.offset = off ∧ f.type = ty

def cellsL : Value → List Value
  | .agg cs => cs.toList
  | v => [v]
theorem cells_toList (v : Value) : v.cells.toList = cellsL v := by cases v <;> rfl
class Zer (P : Program) (t : TypeId) (zs : outParam (List Value)) : Prop where h : ∀ w, ∃ z, (zeroValue t).run P w = .ok z w ∧ cellsL z = zs

/-- A block of cells. -/
def Ob (cs : List Value) (t : TypeId) : Obj := .cells cs.toArray t (0, 0)
def ones (cs : List Value) : Bool := cs.all Value.oneCell'

/-! ### Guards -/
def gd (ops : Array Oper) (L : Env) : Option (Nat × Bool) → Option Bool
  | none => some true
  | some (j, b) => match (ops[j]?).bind (·.dst) with
    | some t => match look L t with
      | some (.bool c) => some (c == b)
      | some (.tuple _) => some false
      | _ => none
    | none => none

section
variable {x : Cx} {Q : Exit → Act → World → Prop} {Φ : List Fa} {L : Env} {M : Own} {ops : Array Oper} {K : Act → World → Prop}

theorem gd_wanted {o : Oper} {b : Bool} {N : Nat} {ds : List Deferred} {a : Act} (hk : Kn N L ds a) (h : gd ops L o.guard = some b) : Region.wanted o (yielded ops a.tmps) = b := by
  unfold Region.wanted
  unfold gd at h
  cases hg : o.guard with
  | none => rw [hg] at h; simpa using h
  | some p =>
    obtain ⟨j, c⟩ := p
    rw [hg] at h
    simp only at h ⊢
    unfold yielded
    cases ht : (ops[j]?).bind (·.dst) with
    | none => rw [ht] at h; cases h
    | some t =>
      rw [ht] at h
      simp only at h
      cases hl : look L t with
      | none => rw [hl] at h; cases h
      | some u =>
        rw [hl] at h
        have := hk.val t u hl
        simp only [Option.bind_some, this]
        cases u <;> simp only [Option.some.injEq] at h <;> first | (cases h; done) | skip
        · subst h; simp
        · subst h; simp

/-- An operation that yields a value, memory as it was. -/
theorem OpK.val {o : Oper} {d : Nat} {v : Value} (hd : o.dst = some d) (hdN : Nat.blt d x.N = true) (hg : gd ops L o.guard = some true) (hnd : ∀ c, o.op ≠ .defer c)
    (hrun : ∀ I a w, (∀ φ ∈ Φ, φ.p I) → Kn x.N L x.ds a → Wd x.E I M w → (execOp a.eval o).run x.P w = .ok (.value v) w) (h : G x Φ ((d, v) :: L) M K) : OpK x ops Q o Φ L M K := by
  intro I a w hp hk hw
  unfold opRun
  rw [if_pos (gd_wanted hk hg)]
  refine ⟨fun f _ => FR_fn _ f, ?_⟩
  rw [Oper.semAt_eq _ _ _ hnd, hrun I a w hp hk hw]
  simp only [Oper.uponIn, hd]
  exact h I _ w hp (hk.put v hdN) hw

/-- An operation that is passed over. -/
theorem OpK.pass {o : Oper} {d : Nat} (hd : o.dst = some d) (hdN : Nat.blt d x.N = true) (hg : gd ops L o.guard = some false) (h : G x Φ ((d, undef) :: L) M K) : OpK x ops Q o Φ L M K := by
  intro I a w hp hk hw
  unfold opRun
  rw [gd_wanted hk hg]
  simp only [Bool.false_eq_true, if_false]
  refine ⟨fun f _ => FR_fn _ f, ?_⟩
  rw [hd]
  exact h I _ w hp (hk.put undef hdN) hw
theorem OpK.pass0 {o : Oper} (hd : o.dst = none) (hg : gd ops L o.guard = some false) (h : G x Φ L M K) : OpK x ops Q o Φ L M K := by
  intro I a w hp hk hw
  unfold opRun
  rw [gd_wanted hk hg]
  simp only [Bool.false_eq_true, if_false]
  refine ⟨fun f _ => FR_fn _ f, ?_⟩
  rw [hd]
  exact h I _ w hp hk hw

/-- An operation that turns memory and yields a value. -/
theorem OpK.mem {o : Oper} {d : Nat} (hd : o.dst = some d) (hdN : Nat.blt d x.N = true) (hg : gd ops L o.guard = some true) (hnd : ∀ c, o.op ≠ .defer c)
    (h : ∀ I a w, (∀ φ ∈ Φ, φ.p I) → Kn x.N L x.ds a → Wd x.E I M w → ∃ v w' Φ' M' I', (execOp a.eval o).run x.P w = .ok (.value v) w' ∧ (∀ φ ∈ Φ', φ.p I') ∧ Wd x.E I' M' w' ∧ G x Φ' ((d, v) :: L) M' K) : OpK x ops Q o Φ L M K := by
  intro I a w hp hk hw
  unfold opRun
  rw [if_pos (gd_wanted hk hg)]
  refine ⟨fun f _ => FR_fn _ f, ?_⟩
  obtain ⟨v, w', Φ', M', I', hr, hp', hw', hG⟩ := h I a w hp hk hw
  rw [Oper.semAt_eq _ _ _ hnd, hr]
  simp only [Oper.uponIn, hd]
  exact hG I' _ w' hp' (hk.put v hdN) hw'
theorem OpK.mem0 {o : Oper} (hd : o.dst = none) (hg : gd ops L o.guard = some true) (hnd : ∀ c, o.op ≠ .defer c)
    (h : ∀ I a w, (∀ φ ∈ Φ, φ.p I) → Kn x.N L x.ds a → Wd x.E I M w → ∃ w' Φ' M' I', (execOp a.eval o).run x.P w = .ok .skip w' ∧ (∀ φ ∈ Φ', φ.p I') ∧ Wd x.E I' M' w' ∧ G x Φ' L M' K) : OpK x ops Q o Φ L M K := by
  intro I a w hp hk hw
  unfold opRun
  rw [if_pos (gd_wanted hk hg)]
  refine ⟨fun f _ => FR_fn _ f, ?_⟩
  obtain ⟨w', Φ', M', I', hr, hp', hw', hG⟩ := h I a w hp hk hw
  rw [Oper.semAt_eq _ _ _ hnd, hr]
  simp only [Oper.uponIn, hd]
  exact hG I' _ w' hp' (hk.put_none undef) hw'

/-! ### Slots alone -/
variable {d : Nat} {ty : TypeId} {pos : String} {af : Array Edge} {g : Option (Nat × Bool)}

theorem o_move {y : Operand} {v : Value} (hdN : Nat.blt d x.N = true) (hg : gd ops L g = some true) (hy : ev L y = some v) (h : G x Φ ((d, v) :: L) M K) : OpK x ops Q ⟨some d, .move y, ty, pos, af, g⟩ Φ L M K :=
  OpK.val rfl hdN hg (by simp) (fun I a w hp hk hw => by simp [execOp, hk.eval hy, Sem.run_pure]) h
theorem o_assign {y : Operand} {v : Value} (hdN : Nat.blt d x.N = true) (hg : gd ops L g = some true) (hy : ev L y = some v) (h : G x Φ ((d, v) :: L) M K) : OpK x ops Q ⟨some d, .assign y, ty, pos, af, g⟩ Φ L M K :=
  OpK.val rfl hdN hg (by simp) (fun I a w hp hk hw => by simp [execOp, hk.eval hy, Sem.run_pure]) h
theorem o_pick {c y z : Operand} {b : Bool} {v : Value} (hdN : Nat.blt d x.N = true) (hg : gd ops L g = some true) (hc : ev L c = some (.bool b)) (hv : (bif b then ev L y else ev L z) = some v) (h : G x Φ ((d, v) :: L) M K) : OpK x ops Q ⟨some d, .pick c y z, ty, pos, af, g⟩ Φ L M K :=
  OpK.val rfl hdN hg (by simp) (fun I a w hp hk hw => by
    cases b
    · simp only [cond_false] at hv
      simp [execOp, hk.eval hc, hk.eval hv, asBool, Sem.run_pure, Result.andThen]
    · simp only [cond_true] at hv
      simp [execOp, hk.eval hc, hk.eval hv, asBool, Sem.run_pure, Result.andThen]) h

/-- A binary operator on integers of one kind, its answer told. -/
def intOp (op : BinOp) (k : IntKind) (a b : Int) : Option Value :=
  match op with
  | .add => some (.int k (k.wrap (a + b)))
  | .sub => some (.int k (k.wrap (a - b)))
  | .mul => some (.int k (k.wrap (a * b)))
  | .quo => if b = 0 then none else some (.int k (k.wrap (a.tdiv b)))
  | .rem => if b = 0 then none else some (.int k (a.tmod b))
  | .and => some (.int k (k.wrap (BitVec.ofInt k.bits a &&& BitVec.ofInt k.bits b).toNat))
  | .or => some (.int k (k.wrap (BitVec.ofInt k.bits a ||| BitVec.ofInt k.bits b).toNat))
  | .xor => some (.int k (k.wrap (BitVec.ofInt k.bits a ^^^ BitVec.ofInt k.bits b).toNat))
  | .eql => some (.bool (a == b))
  | .neq => some (.bool (a != b))
  | .lss => some (.bool (decide (a < b)))
  | .leq => some (.bool (decide (a ≤ b)))
  | .gtr => some (.bool (decide (a > b)))
  | .geq => some (.bool (decide (a ≥ b)))
  | _ => none
theorem run_intOp {P : Program} {op : BinOp} {k : IntKind} {a b : Int} {v : Value} (t : TypeId) (h : intOp op k a b = some v) (w : World) : (binOp op t (.int k a) (.int k b)).run P w = .ok v w := by
  cases op <;> simp only [intOp] at h <;> (try split at h) <;> (try cases h) <;> simp_all [binOp, Op.intArith, Op.intDiv, Op.intBits, Op.intCmp, Sem.run_pure]
theorem run_eqGuard_int {P : Program} {op : BinOp} {t : TypeId} {p q : Operand} {k k' : IntKind} {a b : Int} (w : World) : (eqGuard op t p q (.int k a) (.int k' b)).run P w = .ok () w := by
  unfold eqGuard; split <;> simp [Sem.run_pure, Sem.run_bind, Result.andThen]
theorem run_eqGuard_bool {P : Program} {op : BinOp} {t : TypeId} {p q : Operand} {a b : Bool} (w : World) : (eqGuard op t p q (.bool a) (.bool b)).run P w = .ok () w := by
  unfold eqGuard; split <;> simp [Sem.run_pure, Sem.run_bind, Result.andThen]
theorem run_eqGuard_string {P : Program} {op : BinOp} {t : TypeId} {p q : Operand} {a b : ByteArray} (w : World) : (eqGuard op t p q (.string a) (.string b)).run P w = .ok () w := by
  unfold eqGuard; split <;> simp [Sem.run_pure, Sem.run_bind, Result.andThen]

theorem o_int {op : BinOp} {t t' : TypeId} {y z : Operand} {k : IntKind} {p q : Int} {v : Value} (hdN : Nat.blt d x.N = true) (hg : gd ops L g = some true) (hy : ev L y = some (.int k p)) (hz : ev L z = some (.int k q)) (hv : intOp op k p q = some v)
    (h : G x Φ ((d, v) :: L) M K) : OpK x ops Q ⟨some d, .binOp op t y z t', ty, pos, af, g⟩ Φ L M K :=
  OpK.val rfl hdN hg (by simp) (fun I a w hp hk hw => by
    simp [execOp, hk.eval hy, hk.eval hz, run_eqGuard_int, run_intOp t hv, Sem.run_bind, Result.andThen, Sem.run_pure]) h
/-- A shift. -/
theorem o_shl {t t' : TypeId} {y z : Operand} {k yk : IntKind} {p q : Int} {v : Value} (hdN : Nat.blt d x.N = true) (hg : gd ops L g = some true) (hy : ev L y = some (.int k p)) (hz : ev L z = some (.int yk q)) (h0 : 0 ≤ q) (hv : Value.int k (k.wrap (p * 2 ^ (min q.toNat k.bits))) = v)
    (h : G x Φ ((d, v) :: L) M K) : OpK x ops Q ⟨some d, .binOp .shl t y z t', ty, pos, af, g⟩ Φ L M K :=
  OpK.val rfl hdN hg (by simp) (fun I a w hp hk hw => by
    subst hv
    simp [execOp, hk.eval hy, hk.eval hz, eqGuard, binOp, Op.shift, Int.not_lt.2 h0, Sem.run_bind, Result.andThen, Sem.run_pure]) h
theorem o_shr {t t' : TypeId} {y z : Operand} {k yk : IntKind} {p q : Int} {v : Value} (hdN : Nat.blt d x.N = true) (hg : gd ops L g = some true) (hy : ev L y = some (.int k p)) (hz : ev L z = some (.int yk q)) (h0 : 0 ≤ q) (hv : Value.int k (p.fdiv (2 ^ (min q.toNat k.bits))) = v)
    (h : G x Φ ((d, v) :: L) M K) : OpK x ops Q ⟨some d, .binOp .shr t y z t', ty, pos, af, g⟩ Φ L M K :=
  OpK.val rfl hdN hg (by simp) (fun I a w hp hk hw => by
    subst hv
    simp [execOp, hk.eval hy, hk.eval hz, eqGuard, binOp, Op.shift, Int.not_lt.2 h0, Sem.run_bind, Result.andThen, Sem.run_pure]) h

/-- '==' and '!=' on values of which it is known how they compare. -/
class EqOn (P : Program) (t : TypeId) (u v : Value) (b : outParam Bool) : Prop where
  eq : ∀ w, (binOp .eql t u v).run P w = .ok (.bool b) w
  ne : ∀ w, (binOp .neq t u v).run P w = .ok (.bool !b) w
  guard : ∀ op p q w, (eqGuard op t p q u v).run P w = .ok () w
theorem o_eql {t t' : TypeId} {y z : Operand} {u v : Value} {b : Bool} [EqOn x.P t u v b] {r : Bool} (hdN : Nat.blt d x.N = true) (hg : gd ops L g = some true) (hy : ev L y = some u) (hz : ev L z = some v) (hr : b = r)
    (h : G x Φ ((d, .bool r) :: L) M K) : OpK x ops Q ⟨some d, .binOp .eql t y z t', ty, pos, af, g⟩ Φ L M K :=
  OpK.val rfl hdN hg (by simp) (fun I a w hp hk hw => by
    subst hr
    simp [execOp, hk.eval hy, hk.eval hz, EqOn.guard, EqOn.eq, Sem.run_bind, Result.andThen, Sem.run_pure]) h
theorem o_neq {t t' : TypeId} {y z : Operand} {u v : Value} {b : Bool} [EqOn x.P t u v b] {r : Bool} (hdN : Nat.blt d x.N = true) (hg : gd ops L g = some true) (hy : ev L y = some u) (hz : ev L z = some v) (hr : (!b) = r)
    (h : G x Φ ((d, .bool r) :: L) M K) : OpK x ops Q ⟨some d, .binOp .neq t y z t', ty, pos, af, g⟩ Φ L M K :=
  OpK.val rfl hdN hg (by simp) (fun I a w hp hk hw => by
    subst hr
    simp [execOp, hk.eval hy, hk.eval hz, EqOn.guard, EqOn.ne, Sem.run_bind, Result.andThen, Sem.run_pure]) h

theorem o_not {t : TypeId} {y : Operand} {b r : Bool} (hdN : Nat.blt d x.N = true) (hg : gd ops L g = some true) (hy : ev L y = some (.bool b)) (hr : (!b) = r) (h : G x Φ ((d, .bool r) :: L) M K) : OpK x ops Q ⟨some d, .unOp .not t y, ty, pos, af, g⟩ Φ L M K :=
  OpK.val rfl hdN hg (by simp) (fun I a w hp hk hw => by subst hr; simp [execOp, hk.eval hy, Op.unary, Sem.run_bind, Result.andThen, Sem.run_pure]) h
theorem o_neg {t : TypeId} {y : Operand} {k : IntKind} {p : Int} {v : Value} (hdN : Nat.blt d x.N = true) (hg : gd ops L g = some true) (hy : ev L y = some (.int k p)) (hv : Value.int k (k.wrap (0 - p)) = v) (h : G x Φ ((d, v) :: L) M K) : OpK x ops Q ⟨some d, .unOp .neg t y, ty, pos, af, g⟩ Φ L M K :=
  OpK.val rfl hdN hg (by simp) (fun I a w hp hk hw => by subst hv; simp [execOp, hk.eval hy, Op.unary, Op.intArith, Sem.run_bind, Result.andThen, Sem.run_pure]) h
theorem o_extract {y : Operand} {i : Nat} {vs : List Value} {v : Value} (hdN : Nat.blt d x.N = true) (hg : gd ops L g = some true) (hy : ev L y = some (.tuple vs.toArray)) (hv : vs[i]? = some v) (h : G x Φ ((d, v) :: L) M K) : OpK x ops Q ⟨some d, .extract y i, ty, pos, af, g⟩ Φ L M K :=
  OpK.val rfl hdN hg (by simp) (fun I a w hp hk hw => by simp [execOp, hk.eval hy, Instr.extract, hv, Sem.run_bind, Result.andThen, Sem.run_pure]) h
theorem o_func {fn : Fn} {first cap : List Operand} {fs cs : List Value} (hdN : Nat.blt d x.N = true) (hg : gd ops L g = some true) (hf : first.mapM (ev L) = some fs) (hc : cap.mapM (ev L) = some cs) (h : G x Φ ((d, .func fn fs.toArray cs.toArray) :: L) M K) : OpK x ops Q ⟨some d, .makeFunc fn first.toArray cap.toArray, ty, pos, af, g⟩ Φ L M K :=
  OpK.val rfl hdN hg (by simp) (fun I a w hp hk hw => by
    have key : ∀ (l : List Operand) (vs : List Value), l.mapM (ev L) = some vs → l.map a.eval = vs := by
      intro l
      induction l with
      | nil => intro vs h; simp at h; simp [h]
      | cons o l ih =>
        intro vs h
        simp only [List.mapM_cons, Option.bind_eq_bind, Option.bind_eq_some_iff, Option.pure_def, Option.some.injEq] at h
        obtain ⟨v, hv, vs', hvs, rfl⟩ := h
        simp [hk.eval hv, ih vs' hvs]
    simp [execOp, Instr.makeFunc, key _ _ hf, key _ _ hc, Sem.run_bind, Result.andThen, Sem.run_pure]) h
end
end Go.Rail
