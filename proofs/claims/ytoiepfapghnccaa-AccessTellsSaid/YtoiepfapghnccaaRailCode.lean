/- The rules of the walk: slots, facts, code, regions that draw their order. -/
import Derived.Test.YtoiepfapghnccaaRailBase
import Derived.OrdersIn
set_option linter.unusedSimpArgs false
set_option linter.unusedVariables false
namespace Go.Rail
open Go

/-- A fact on a value: it speaks of what lies unchanging, and abides more of that. -/
structure Fa where
  key : Value
  p : Imm → Prop
  mono : ∀ I J, Le I J → p I → p J

abbrev Env := List (Nat × Value)
def look : Env → Nat → Option Value
  | [], _ => none
  | (k, v) :: l, t => bif Nat.beq k t then some v else look l t

def ev (L : Env) : Operand → Option Value
  | .tmp t => look L t
  | .const v => some v
  | .global g => some (.pointer (some ⟨g, 0, none⟩))
  | .func f => some (.func (.func f) #[] #[])

structure Kn (N : Nat) (L : Env) (ds : List Deferred) (a : Act) : Prop where
  sz : a.tmps.size = N
  val : ∀ t v, look L t = some v → a.tmps[t]? = some v
  df : a.defers = ds

theorem Kn.eval {N : Nat} {L : Env} {ds : List Deferred} {a : Act} (h : Kn N L ds a) {x : Operand} {v : Value} (hx : ev L x = some v) : a.eval x = v := by
  cases x with
  | tmp t => have := h.val t v hx; simp [Act.eval, this]
  | const u => simpa [ev, Act.eval] using hx
  | global g => simpa [ev, Act.eval] using hx
  | func f => simpa [ev, Act.eval] using hx

theorem nbeq_ne {a b : Nat} (h : ¬ a = b) : Nat.beq a b = false := by
  cases e : Nat.beq a b with
  | false => rfl
  | true => exact absurd (Nat.eq_of_beq_eq_true e) h
theorem nbeq_false {a b : Nat} (h : Nat.beq a b = false) : a ≠ b := by
  intro e; subst e; rw [Nat.beq_refl] at h; cases h
theorem Kn.put {N : Nat} {L : Env} {ds : List Deferred} {a : Act} (h : Kn N L ds a) {d : Nat} (v : Value) (hd : Nat.blt d N = true) : Kn N ((d, v) :: L) ds (a.put (some d) v) := by
  have hd : d < N := by simpa using hd
  refine ⟨by simp [Act.put, h.sz], ?_, h.df⟩
  intro t u hu
  simp only [look] at hu
  by_cases e : d = t
  · subst e
    simp at hu
    subst hu
    simp [Act.put, h.sz, hd]
  · rw [nbeq_ne e] at hu
    simp only [cond_false] at hu
    simp [Act.put, Array.getElem?_setIfInBounds_ne e, h.val t u hu]

theorem Kn.put_none {N : Nat} {L : Env} {ds : List Deferred} {a : Act} (h : Kn N L ds a) (v : Value) : Kn N L ds (a.put none v) := h

structure Cx where
  P : Program
  r : Option Nat
  E : Ent
  N : Nat
  ds : List Deferred

def FR : Option Nat → Fence
  | none => Fence.wide
  | some l => Fence.wide.inRound l
theorem FR_fn (r : Option Nat) (f : FuncId) : (FR r).fn f := by cases r <;> trivial
theorem FR_depth (r : Option Nat) : (FR r).depth = none := by cases r <;> rfl
theorem FR_round (r : Option Nat) : (FR r).round = r := by cases r <;> rfl

/-- Whatever is as is known: F. -/
def G (x : Cx) (Φ : List Fa) (L : Env) (M : Own) (F : Act → World → Prop) : Prop :=
  ∀ I a w, (∀ φ ∈ Φ, φ.p I) → Kn x.N L x.ds a → Wd x.E I M w → F a w

def W (x : Cx) (c : Code) (Q : Exit → Act → World → Prop) (Φ : List Fa) (L : Env) (M : Own) : Prop :=
  G x Φ L M fun a w => c.wpIn (FR x.r) 0 x.P Q a w

def opRun (x : Cx) (ops : Array Oper) (Q : Exit → Act → World → Prop) (o : Oper) (K : Act → World → Prop) (a : Act) (w : World) : Prop :=
  if Region.wanted o (yielded ops a.tmps) then o.wpIn (FR x.r) 0 x.P a w K Q
  else (∀ f, o.about x.P w a.eval = some f → (FR x.r).fn f) ∧ K (a.put o.dst undef) w

/-- One operation, and what follows. -/
def OpK (x : Cx) (ops : Array Oper) (Q : Exit → Act → World → Prop) (o : Oper) (Φ : List Fa) (L : Env) (M : Own) (K : Act → World → Prop) : Prop :=
  G x Φ L M (opRun x ops Q o K)

/-- What is left of a region, in its order. -/
def LW (x : Cx) (ops : Array Oper) (Q : Exit → Act → World → Prop) (rest : List Oper) (Φ : List Fa) (L : Env) (M : Own) : Prop :=
  G x Φ L M (wpListIn (FR x.r) 0 x.P ops Q rest)

section
variable {x : Cx} {Q : Exit → Act → World → Prop} {Φ : List Fa} {L : Env} {M : Own}

theorem G.mono {F F' : Act → World → Prop} (h : G x Φ L M F) (hf : ∀ a w, F a w → F' a w) : G x Φ L M F' := fun I a w hp hk hw => hf a w (h I a w hp hk hw)

/-- Facts may be forgotten, slots too. -/
theorem G.weaken {F : Act → World → Prop} {Φ' : List Fa} {L' : Env} {M' : Own} (h : G x Φ' L' M' F) (hΦ : ∀ φ ∈ Φ', φ ∈ Φ) (hL : ∀ t v, look L' t = some v → look L t = some v) (hM : M'.Sublist M) : G x Φ L M F :=
  fun I a w hp hk hw => h I a w (fun φ hφ => hp φ (hΦ φ hφ)) ⟨hk.sz, fun t v e => hk.val t v (hL t v e), hk.df⟩ (hw.sub hM)
theorem G.perm {F : Act → World → Prop} {M' : Own} (h : G x Φ L M' F) (hM : M.Perm M') : G x Φ L M F :=
  fun I a w hp hk hw => h I a w hp hk (hw.perm hM)

theorem LW.nil {ops : Array Oper} (h : G x Φ L M (Q .normal)) : LW x ops Q [] Φ L M := h
theorem LW.cons {ops : Array Oper} {o : Oper} {rest : List Oper} (h : OpK x ops Q o Φ L M (wpListIn (FR x.r) 0 x.P ops Q rest)) : LW x ops Q (o :: rest) Φ L M := h

theorem W.region {id : Nat} {l : List Oper} (h : LW x l.toArray Q l Φ L M) : W x (.region id l.toArray false) Q Φ L M :=
  fun I a w hp hk hw => wpIn_region_lit (h I a w hp hk hw)
theorem W.seq {c d : Code} (h : W x c (Exit.then (fun a w => d.wpIn (FR x.r) 0 x.P Q a w) Q) Φ L M) : W x (.seq c d) Q Φ L M :=
  fun I a w hp hk hw => wpIn_seq (h I a w hp hk hw)
/-- A piece of code and what follows, with a word between. -/
theorem W.skip (h : G x Φ L M (Q .normal)) : W x .skip Q Φ L M := fun I a w hp hk hw => wpIn_skip (h I a w hp hk hw)
theorem W.ret (h : G x Φ L M (Q .ret)) : W x .ret Q Φ L M := fun I a w hp hk hw => wpIn_ret (h I a w hp hk hw)
theorem W.exit {id : Nat} (h : G x Φ L M (Q (.exit id))) : W x (.exit id) Q Φ L M := fun I a w hp hk hw => wpIn_exit (h I a w hp hk hw)
theorem W.goto {id : Nat} (h : G x Φ L M (Q (.goto id))) : W x (.goto id) Q Φ L M := fun I a w hp hk hw => wpIn_goto (h I a w hp hk hw)
theorem W.label {id : Nat} (h : G x Φ L M (Q .normal)) : W x (.label id) Q Φ L M := fun I a w hp hk hw => wpIn_label (h I a w hp hk hw)
theorem W.block {id : Nat} {c : Code} (h : W x c (Exit.inBlock id Q) Φ L M) : W x (.block id c) Q Φ L M := fun I a w hp hk hw => wpIn_block (h I a w hp hk hw)
theorem W.cond_true {c : Operand} {p q : Code} (hc : ev L c = some (.bool true)) (h : W x p Q Φ L M) : W x (.cond c p q) Q Φ L M :=
  fun I a w hp hk hw => wpIn_cond_true (hk.eval hc) (h I a w hp hk hw)
theorem W.cond_false {c : Operand} {p q : Code} (hc : ev L c = some (.bool false)) (h : W x q Q Φ L M) : W x (.cond c p q) Q Φ L M :=
  fun I a w hp hk hw => wpIn_cond_false (hk.eval hc) (h I a w hp hk hw)
theorem W.cond {c : Operand} {p q : Code} {b : Bool} (hc : ev L c = some (.bool b)) (h : b = true → W x p Q Φ L M) (h' : b = false → W x q Q Φ L M) : W x (.cond c p q) Q Φ L M :=
  fun I a w hp hk hw => wpIn_cond_split (hk.eval hc) (fun e => h e I a w hp hk hw) (fun e => h' e I a w hp hk hw)

theorem G.then_normal {d : Code} {Q' : Exit → Act → World → Prop} (h : W x d Q' Φ L M) : G x Φ L M (Exit.then (fun a w => d.wpIn (FR x.r) 0 x.P Q' a w) Q .normal) := h
theorem G.then_normalG {F : Act → World → Prop} (h : G x Φ L M F) : G x Φ L M (Exit.then F Q .normal) := h
theorem G.then_ret {n : Act → World → Prop} (h : G x Φ L M (Q .ret)) : G x Φ L M (Exit.then n Q .ret) := h
theorem G.then_exit {n : Act → World → Prop} {id : Nat} (h : G x Φ L M (Q (.exit id))) : G x Φ L M (Exit.then n Q (.exit id)) := h
theorem G.then_goto {n : Act → World → Prop} {id : Nat} (h : G x Φ L M (Q (.goto id))) : G x Φ L M (Exit.then n Q (.goto id)) := h
theorem G.in_normal {id : Nat} (h : G x Φ L M (Q .normal)) : G x Φ L M (Exit.inBlock id Q .normal) := h
theorem G.in_ret {id : Nat} (h : G x Φ L M (Q .ret)) : G x Φ L M (Exit.inBlock id Q .ret) := h
theorem G.in_exit {id : Nat} (h : G x Φ L M (Q .normal)) : G x Φ L M (Exit.inBlock id Q (.exit id)) := fun I a w hp hk hw => by simpa [Exit.inBlock] using h I a w hp hk hw
theorem G.in_exit_ne {id id' : Nat} (hne : Nat.beq id' id = false) (h : G x Φ L M (Q (.exit id'))) : G x Φ L M (Exit.inBlock id Q (.exit id')) := fun I a w hp hk hw => by
  have hne : id' ≠ id := nbeq_false hne
  simpa [Exit.inBlock, hne] using h I a w hp hk hw

/-- A word between: whatever leads to 'mid' states may go on from there. -/
theorem W.mono {c : Code} {Q' : Exit → Act → World → Prop} (h : W x c Q' Φ L M) (hq : ∀ e a w, Q' e a w → Q e a w) : W x c Q Φ L M :=
  fun I a w hp hk hw => wpIn_mono (h I a w hp hk hw) hq

/-- The least number of which something holds. -/
noncomputable def least (P : Nat → Prop) : Nat := Classical.epsilon fun n => P n ∧ ∀ m, P m → n ≤ m
theorem least_spec {P : Nat → Prop} (h : ∃ n, P n) : P (least P) ∧ ∀ m, P m → least P ≤ m := by
  refine Classical.epsilon_spec (p := fun n => P n ∧ ∀ m, P m → n ≤ m) ?_
  obtain ⟨n, hn⟩ := h
  induction n using Nat.strongRecOn with
  | _ n ih =>
    by_cases hc : ∃ m, m < n ∧ P m
    · obtain ⟨m, hlt, hm⟩ := hc; exact ih m hlt hm
    · exact ⟨n, hn, fun m hm => by
        rcases Nat.lt_or_ge m n with h | h
        · exact absurd ⟨m, h, hm⟩ hc
        · exact h⟩

/-- What a loop's head knows: s is what may differ from round to round. -/
def Inv (x : Cx) {S : Type} (f : S → List Fa × Env × Own) (pre : S → Prop) (s : S) (a : Act) (w : World) : Prop :=
  pre s ∧ ∃ I, (∀ φ ∈ (f s).1, φ.p I) ∧ Kn x.N (f s).2.1 x.ds a ∧ Wd x.E I (f s).2.2 w

theorem W.loop {c : Code} {S : Type} (f : S → List Fa × Env × Own) (pre : S → Prop) (μ : S → Nat) (s0 : S) (h0 : pre s0)
    (hst : G x Φ L M (Inv x f pre s0))
    (hround : ∀ s, pre s → W x c (Exit.then (fun a w => ∃ s', μ s' < μ s ∧ Inv x f pre s' a w) Q) (f s).1 (f s).2.1 (f s).2.2) : W x (.loop c) Q Φ L M := by
  intro I a w hp hk hw
  refine wpIn_loop (fun a w => ∃ s, Inv x f pre s a w) (fun a w => least (fun n => ∃ s, μ s = n ∧ Inv x f pre s a w)) ⟨s0, hst I a w hp hk hw⟩ ?_
  rintro a w ⟨s, hs⟩
  obtain ⟨⟨s1, hm, hs1⟩, _⟩ := least_spec (P := fun n => ∃ s, μ s = n ∧ Inv x f pre s a w) ⟨_, s, rfl, hs⟩
  obtain ⟨hps, I, hf, hka, hwa⟩ := hs1
  refine wpIn_mono (hround s1 hps I a w hf hka hwa) ?_
  intro e a' w' hq
  cases e with
  | normal =>
    obtain ⟨s', hlt, hi⟩ := hq
    refine ⟨⟨s', hi⟩, ?_⟩
    have := (least_spec (P := fun n => ∃ s, μ s = n ∧ Inv x f pre s a' w') ⟨_, s', rfl, hi⟩).2 (μ s') ⟨s', rfl, hi⟩
    omega
  | exit id => exact hq
  | goto l => exact hq
  | ret => exact hq
  | panic ch => exact hq
  | outgrown => exact hq
end
end Go.Rail
