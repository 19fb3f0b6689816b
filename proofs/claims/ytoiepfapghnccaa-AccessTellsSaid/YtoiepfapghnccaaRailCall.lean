/- Slices that are read; calls; the beginning and the end of a function. -/
import Derived.Test.YtoiepfapghnccaaRailData
import Derived.RangeFuncLeaves
set_option linter.unusedSimpArgs false
set_option linter.unusedVariables false
namespace Go.Rail
open Go

section
variable {x : Cx} {Q : Exit → Act → World → Prop} {Φ : List Fa} {L : Env} {M : Own} {ops : Array Oper} {K : Act → World → Prop}
variable {d : Nat} {ty : TypeId} {pos : String} {af : Array Edge} {g : Option (Nat × Bool)}

/-- More is known than stands there. -/
theorem G.learn {F : Act → World → Prop} (φ : Fa) [e : Ent' Φ φ] (h : G x (φ :: Φ) L M F) : G x Φ L M F := by
  intro I a w hp hk hw
  refine h I a w (fun ψ hψ => ?_) hk hw
  rcases List.mem_cons.1 hψ with rfl | hψ
  · exact e.h I hp
  · exact hp ψ hψ
/-- What a fact says, told at once. -/
theorem G.use {F : Act → World → Prop} {p : Prop} (hΦ : ∀ I, (∀ ψ ∈ Φ, ψ.p I) → p) (h : p → G x Φ L M F) : G x Φ L M F :=
  fun I a w hp hk hw => h (hΦ I hp) I a w hp hk hw
/-- An owned block is given away. -/
theorem G.give {F : Act → World → Prop} {M' : Own} (b : Nat) {cs : List Value} {t : TypeId} [m : MDel M b (Ob cs t) M'] (h : G x (fBlk b cs t :: Φ) L M' F) : G x Φ L M F := by
  intro I a w hp hk hw
  have hw' := hw.perm m.h
  have hn : I b = none := hw'.sep (b, Ob cs t) (by simp)
  refine h _ a w ?_ hk hw'.give
  intro φ hφ
  rcases List.mem_cons.1 hφ with rfl | hφ
  · show (if b = b then some (Ob cs t) else I b) = some (Ob cs t); simp
  · exact φ.mono _ _ (Le.give hn) (hp φ hφ)
/-- An owned block is let go of. -/
theorem G.drop {F : Act → World → Prop} {M' : Own} (b : Nat) {o : Obj} [m : MDel M b o M'] (h : G x Φ L M' F) : G x Φ L M F :=
  fun I a w hp hk hw => h I a w hp hk ((hw.perm m.h).sub (List.sublist_cons_self _ _))
/-- A slice's value, laid open. -/
theorem G.slice {F : Act → World → Prop} {α : Type} [GoTy α] (v : Value) (xs : List α) [k : Ent' Φ (fRp v xs)] (h : ∀ a cap, v = .slice a xs.length cap → xs.length ≤ cap → G x Φ L M F) : G x Φ L M F := by
  intro I a w hp hk hw
  obtain ⟨ad, cap, e, h1⟩ := Rp.slice (k.h I hp)
  exact h ad cap e h1.1 I a w hp hk hw

/-! ### Slices -/
theorem o_len {α : Type} [GoTy α] {t e : TypeId} {y : Operand} {v : Value} {xs : List α} [ht : SlTy x.P t e] [k : KRp Φ v xs] (hdN : Nat.blt d x.N = true) (hg : gd ops L g = some true) (hy : ev L y = some v)
    (h : G x Φ ((d, .int .i64 xs.length) :: L) M K) : OpK x ops Q ⟨some d, .call ⟨.builtin .len, #[y], #[t]⟩, ty, pos, af, g⟩ Φ L M K :=
  OpK.val rfl hdN hg (by simp) (fun I a w hp hk hw => by
    obtain ⟨ad, cap, rfl, _⟩ := Rp.slice (hp _ k.h)
    simp [execOp, resolve, hk.eval hy, invoke, builtin, Builtin.len_, run_underlying ht.h, goInt, Sem.run_bind, Result.andThen, Sem.run_pure]) h
/-- ... of a slice that is told outright. -/
theorem o_lenS {t e : TypeId} {y : Operand} {ad : Option Addr} {n cap : Nat} [ht : SlTy x.P t e] (hdN : Nat.blt d x.N = true) (hg : gd ops L g = some true) (hy : ev L y = some (.slice ad n cap))
    (h : G x Φ ((d, .int .i64 n) :: L) M K) : OpK x ops Q ⟨some d, .call ⟨.builtin .len, #[y], #[t]⟩, ty, pos, af, g⟩ Φ L M K :=
  OpK.val rfl hdN hg (by simp) (fun I a w hp hk hw => by
    simp [execOp, resolve, hk.eval hy, invoke, builtin, Builtin.len_, run_underlying ht.h, goInt, Sem.run_bind, Result.andThen, Sem.run_pure]) h

theorem o_idx {α : Type} [i : GoTy α] {t e : TypeId} {y z : Operand} {k : IntKind} {n : Int} {v : Value} {xs : List α} [ht : SlTy x.P t e] [hs : Siz x.P e (GoTy.sz α)] [kr : KRp Φ v xs] (hdN : Nat.blt d x.N = true) (hg : gd ops L g = some true) (hy : ev L y = some v) (hz : ev L z = some (.int k n)) (h0 : 0 ≤ n) (hi : n.toNat < xs.length)
    (h : ∀ p, G x (fPt p xs[n.toNat] :: Φ) ((d, p) :: L) M K) : OpK x ops Q ⟨some d, .indexAddr t y z, ty, pos, af, g⟩ Φ L M K :=
  OpK.mem rfl hdN hg (by simp) (fun I a w hp hk hw => by
    obtain ⟨ad, cap, rfl, h1, h2⟩ := Rp.slice (hp _ kr.h)
    obtain ⟨⟨b, off, sp⟩, c, t', fr, rfl, hsp, hb, hr1, hr2⟩ := h2 (by intro e; simp [e] at hi)
    simp only at hsp hb hr1 hr2
    subst hsp
    refine ⟨.pointer (some ⟨b, off + n.toNat * GoTy.sz α, none⟩), w, fPt (.pointer (some ⟨b, off + n.toNat * GoTy.sz α, none⟩)) xs[n.toNat] :: Φ, M, I, ?_, ?_, hw, h _⟩
    · have hlt : n < (xs.length : Int) := by omega
      simp [execOp, Instr.indexAt, asIntOf, hk.eval hy, hk.eval hz, Sem.run_bind, Result.andThen, Sem.run_pure, run_underlying ht.h, hs.h, add_mk, h0, hlt]
    · intro φ hφ
      rcases List.mem_cons.1 hφ with rfl | hφ
      · refine ⟨b, off + n.toNat * GoTy.sz α, c, t', fr, rfl, hb, ?_, hr2 n.toNat hi⟩
        have := Nat.mul_le_mul_right (GoTy.sz α) (Nat.succ_le_of_lt hi)
        rw [Nat.succ_mul] at this
        simp at hr1
        omega
      · exact hp φ hφ)

theorem o_idxN {α : Type} [GoTy α] {t e : TypeId} {y z : Operand} {k : IntKind} {n : Int} {v : Value} {xs : List α} (i : Nat) [ht : SlTy x.P t e] [hs : Siz x.P e (GoTy.sz α)] [kr : KRp Φ v xs] (hdN : Nat.blt d x.N = true) (hg : gd ops L g = some true) (hy : ev L y = some v) (hz : ev L z = some (.int k n)) (hn : n = (i : Int)) (hi : i < xs.length)
    (h : ∀ p, G x (fPt p xs[i] :: Φ) ((d, p) :: L) M K) : OpK x ops Q ⟨some d, .indexAddr t y z, ty, pos, af, g⟩ Φ L M K := by
  subst hn
  exact o_idx (ht := ht) (hs := hs) (kr := kr) hdN hg hy hz (Int.natCast_nonneg i) hi h

/-- A load of a datum of many cells from a block. -/
theorem o_loadT {α : Type} [GoTy α] [GoFlat α] (z : α) {t : TypeId} {y : Operand} {b off : Nat} {cs : List Value} {e : TypeId} {u : Value} [ha : IsAg x.P t true] [hs : Siz x.P t (GoTy.sz α)] [hh : Holds Φ M b cs e] [vo : ValOf z u] (hdN : Nat.blt d x.N = true) (hg : gd ops L g = some true) (hy : ev L y = some (.pointer (some ⟨b, off, none⟩))) (hag : GoTy.agg α = true) (hn : off + GoTy.sz α ≤ cs.length) (hv : (cs.drop off).take (GoTy.sz α) = GoFlat.enc z)
    (h : G x Φ ((d, u) :: L) M K) : OpK x ops Q ⟨some d, .load t y, ty, pos, af, g⟩ Φ L M K := by
  have hu := vo.h
  subst hu
  rw [GoFlat.val_eq, hag] at h
  exact o_loadA (ha := ha) (hs := hs) (hh := hh) hdN hg hy hn hv h

/-- A load through a pointer to what lies unchanging. -/
theorem o_loadF {α : Type} [i : GoTy α] [f : GoFlat α] {t : TypeId} {y : Operand} {p : Value} {z : α} {ag : Bool} [ha : IsAg x.P t ag] [hs : Siz x.P t (GoTy.sz α)] [kp : KPt Φ p z] {u : Value} [vo : ValOf z u] (hdN : Nat.blt d x.N = true) (hg : gd ops L g = some true) (hy : ev L y = some p) (hag : GoTy.agg α = ag)
    (h : G x Φ ((d, u) :: L) M K) : OpK x ops Q ⟨some d, .load t y, ty, pos, af, g⟩ Φ L M K := by
  have hu := vo.h
  subst hu
  exact OpK.val rfl hdN hg (by simp) (fun I a w hp hk hw => by
    obtain ⟨b, off, c, t', fr, rfl, hb, hle, hr⟩ := hp _ kp.h
    have hb' := hw.imm _ _ hb
    have hc := loadCells_obj (P := x.P) (w := w) (off := off) (n := GoTy.sz α) hb' hle
    rw [GoFlat.rep_iff.1 hr] at hc
    rw [GoFlat.val_eq, hag]
    cases ag with
    | true => simp [execOp, Instr.loadAt, Instr.sureAddr, hk.eval hy, Sem.run_bind, Result.andThen, Sem.run_pure, loadVar, ha.h, hs.h, hc, mkv]
    | false =>
      have h1 : GoTy.sz α = 1 := GoTy.agg1 hag
      rw [h1] at hr hle
      have hv : w.cell? ⟨b, off, none⟩ = some ((GoFlat.enc z).headD undef) := by
        rw [← GoFlat.rep_iff.1 hr]
        have hlt : off < c.size := by omega
        simp only [World.cell?, hb']
        simp [List.take_one, List.head?_drop, hlt]
      simp [execOp, Instr.loadAt, Instr.sureAddr, hk.eval hy, Sem.run_bind, Result.andThen, Sem.run_pure, run_loadVar1 ha.h hv, mkv]) h
theorem o_loadR {α : Type} [i : GoTy α] {t : TypeId} {y : Operand} {p : Value} {z : α} {ag : Bool} [ha : IsAg x.P t ag] [hs : Siz x.P t (GoTy.sz α)] [kp : KPt Φ p z] (hdN : Nat.blt d x.N = true) (hg : gd ops L g = some true) (hy : ev L y = some p) (hag : GoTy.agg α = ag)
    (h : ∀ v, G x (fRp v z :: Φ) ((d, v) :: L) M K) : OpK x ops Q ⟨some d, .load t y, ty, pos, af, g⟩ Φ L M K :=
  OpK.mem rfl hdN hg (by simp) (fun I a w hp hk hw => by
    obtain ⟨b, off, c, t', fr, rfl, hb, hle, hr⟩ := hp _ kp.h
    have hb' := hw.imm _ _ hb
    have hc := loadCells_obj (P := x.P) (w := w) (off := off) (n := GoTy.sz α) hb' hle
    refine ⟨mkv ag ((c.toList.drop off).take (GoTy.sz α)), w, fRp (mkv ag ((c.toList.drop off).take (GoTy.sz α))) z :: Φ, M, I, ?_, ?_, hw, h _⟩
    · cases ag with
      | true => simp [execOp, Instr.loadAt, Instr.sureAddr, hk.eval hy, Sem.run_bind, Result.andThen, Sem.run_pure, loadVar, ha.h, hs.h, hc, mkv]
      | false =>
        have h1 : GoTy.sz α = 1 := GoTy.agg1 hag
        rw [h1] at hle ⊢
        have hv : w.cell? ⟨b, off, none⟩ = some (((c.toList.drop off).take 1).headD undef) := by
          have hlt : off < c.size := by omega
          simp only [World.cell?, hb']
          simp [List.take_one, List.head?_drop, hlt]
        simp [execOp, Instr.loadAt, Instr.sureAddr, hk.eval hy, Sem.run_bind, Result.andThen, Sem.run_pure, run_loadVar1 ha.h hv, mkv]
    · intro φ hφ
      rcases List.mem_cons.1 hφ with rfl | hφ
      · exact ⟨_, by rw [hag], hr⟩
      · exact hp φ hφ)
/-- The address of a field of a struct that lies unchanging. -/
class PartOf {α β : Type} [GoTy α] [GoTy β] (off : Nat) (get : outParam (α → β)) : Prop where
  le : off + GoTy.sz β ≤ GoTy.sz α
  h : ∀ I cs (z : α), GoTy.rep I cs z → GoTy.rep I ((cs.drop off).take (GoTy.sz β)) (get z)
theorem o_fieldP {α β : Type} [i : GoTy α] [j : GoTy β] {s : TypeId} {y : Operand} {f fo : Nat} {ft : TypeId} {n : Nat} {p : Value} {z : α} [hf : Fld x.P s f fo ft] [hs : Siz x.P ft (n + 1)] [kp : KPt Φ p z] (get : α → β) [po : PartOf (α := α) (β := β) fo get] (hdN : Nat.blt d x.N = true) (hg : gd ops L g = some true) (hy : ev L y = some p)
    (h : ∀ p', G x (fPt p' (get z) :: Φ) ((d, p') :: L) M K) : OpK x ops Q ⟨some d, .fieldAddr s y f, ty, pos, af, g⟩ Φ L M K :=
  OpK.mem rfl hdN hg (by simp) (fun I a w hp hk hw => by
    obtain ⟨b, off, c, t', fr, rfl, hb, hle, hr⟩ := hp _ kp.h
    obtain ⟨fs, fd, h1, h2, rfl, rfl⟩ := hf.h
    refine ⟨.pointer (some ⟨b, off + fd.offset, none⟩), w, fPt (.pointer (some ⟨b, off + fd.offset, none⟩)) (get z) :: Φ, M, I, ?_, ?_, hw, h _⟩
    · simp [execOp, Instr.fieldAt, Instr.sureAddr, hk.eval hy, Sem.run_bind, Result.andThen, Sem.run_pure, run_underlying h1, h2, fieldPlace, hs.h, add_mk]
    · intro φ hφ
      rcases List.mem_cons.1 hφ with rfl | hφ
      · have hle' := po.le
        refine ⟨b, off + fd.offset, c, t', fr, rfl, hb, by omega, ?_⟩
        have := po.h I _ z hr
        rw [List.drop_take, List.drop_drop, List.take_take, Nat.min_eq_left (by omega)] at this
        exact this
      · exact hp φ hφ)

/-! ### Calls -/
/-- What a function does: given facts and blocks of the caller's, it returns: R tells the value, the facts, the blocks. -/
def Fn (P : Program) (f : FuncId) (args : List Value) (Φ : List Fa) (Mc : Own) (R : Value → List Fa → Own → Prop) : Prop :=
  ∀ I w, (∀ φ ∈ Φ, φ.p I) → Wd ⟨I, doms Mc, w⟩ I Mc w →
    Calls P f args.toArray w fun e w' => ∃ v Φ' Mc' I', e = .returned v ∧ R v Φ' Mc' ∧ (∀ φ ∈ Φ', φ.p I') ∧ Wd ⟨I, doms Mc, w⟩ I' Mc' w'
/-- ... a function of its arguments alone, that answers just this. -/
abbrev FnV (P : Program) (f : FuncId) (args : List Value) (Φ : List Fa) (v : Value) : Prop := Fn P f args Φ [] fun u Φ' Mc' => u = v ∧ Φ' = [] ∧ Mc' = []
/-- ... that answers some value that reads so. -/
abbrev FnD (P : Program) (f : FuncId) (args : List Value) (Φ : List Fa) (ψ : Value → List Fa) : Prop := Fn P f args Φ [] fun u Φ' Mc' => Φ' = ψ u ∧ Mc' = []

theorem Fn.weaken {P : Program} {f : FuncId} {args : List Value} {Φ Φ' : List Fa} {Mc : Own} {R : Value → List Fa → Own → Prop} (h : Fn P f args Φ Mc R) [e : Ents Φ' Φ] : Fn P f args Φ' Mc R :=
  fun I w hp hw => h I w (e.h I hp) hw

theorem evs_map {N : Nat} {ds : List Deferred} {a : Act} (hk : Kn N L ds a) : ∀ {l : List Operand} {vs : List Value}, l.mapM (ev L) = some vs → l.map a.eval = vs := by
  intro l
  induction l with
  | nil => intro vs h; simp at h; simp [h]
  | cons o l ih =>
    intro vs h
    simp only [List.mapM_cons, Option.bind_eq_bind, Option.bind_eq_some_iff, Option.pure_def, Option.some.injEq] at h
    obtain ⟨v, hv, vs', hvs, rfl⟩ := h
    simp [hk.eval hv, ih hvs]

/-- Has the program a body for it? -/
class HasFn (P : Program) (f : FuncId) : Prop where h : ∀ args w, (callFunc f args).run P w = .ok (.enter f args) w

theorem callsIn_FR {r : Option Nat} {n : Nat} {P : Program} {f : FuncId} {args : Array Value} {w : World} {R : Ending → World → Prop} (h : Calls P f args w R) : CallsIn (FR r) n P f args w R := by
  have := (callsIn_wide (n := n)).2 h
  cases r with
  | none => exact this
  | some l => exact this

theorem OpK.call {y : Operand} {args : List Operand} {vs cap : List Value} {ts : Array TypeId} {f : FuncId} {R : Value → List Fa → Own → Prop} {Φc : List Fa} {Mc Mr : Own}
    (hdN : Nat.blt d x.N = true) (hg : gd ops L g = some true) (hy : ev L y = some (.func (.func f) #[] cap.toArray)) [hf : HasFn x.P f] (hargs : args.mapM (ev L) = some vs)
    (c : Fn x.P f (vs ++ cap) Φc Mc R) (hΦ : Ents Φ Φc) (hM : M.Perm (Mc ++ Mr))
    (h : ∀ v Φ' Mc', R v Φ' Mc' → G x (Φ' ++ Φ) ((d, v) :: L) (Mc' ++ Mr) K) : OpK x ops Q ⟨some d, .call ⟨.value y, args.toArray, ts⟩, ty, pos, af, g⟩ Φ L M K := by
  intro I a w hp hk hw
  unfold opRun
  rw [if_pos (gd_wanted hk hg)]
  refine ⟨fun f _ => FR_fn _ f, ?_⟩
  rw [Oper.semAt_eq _ _ _ (by simp)]
  have hw' := hw.perm hM
  have hws : Wd ⟨I, doms Mc, w⟩ I Mc w := hw'.start (List.sublist_append_left _ _)
  have hc := c I w (hΦ.h I hp) hws
  have hrun : (execOp a.eval ⟨some d, .call ⟨.value y, args.toArray, ts⟩, ty, pos, af, g⟩).run x.P w = .ok (.enter f (vs ++ cap).toArray) w := by
    simp [execOp, resolve, hk.eval hy, Deferred.ofValue, evs_map hk hargs, invoke, hf.h, Sem.run_bind, Result.andThen, Sem.run_pure]
  rw [hrun]
  simp only [Oper.uponIn]
  refine ⟨fun hd => (by rw [FR_depth] at hd; cases hd), (callsIn_FR hc).mono ?_⟩
  rintro e w' ⟨v, Φ', Mc', I', rfl, hR, hf', hwd⟩
  refine h v Φ' Mc' hR I' _ w' ?_ (hk.put v hdN) (hw'.back hwd)
  intro φ hφ
  rcases List.mem_append.1 hφ with hφ | hφ
  · exact hf' φ hφ
  · exact φ.mono _ _ hwd.up (hp φ hφ)

/-- A call of a function of its arguments alone. -/
theorem o_callV {y : Operand} {args : List Operand} {vs cap : List Value} {ts : Array TypeId} {f : FuncId} {Φc : List Fa} {v v' : Value}
    (hdN : Nat.blt d x.N = true) (hg : gd ops L g = some true) (hy : ev L y = some (.func (.func f) #[] cap.toArray)) [hf : HasFn x.P f] (hargs : args.mapM (ev L) = some vs) (c : FnV x.P f (vs ++ cap) Φc v) (hv : v = v') [hΦ : Ents Φ Φc]
    (h : G x Φ ((d, v') :: L) M K) : OpK x ops Q ⟨some d, .call ⟨.value y, args.toArray, ts⟩, ty, pos, af, g⟩ Φ L M K :=
  OpK.call hdN hg hy hargs c hΦ (Mr := M) (by simp) (by rintro u Φ' Mc' ⟨rfl, rfl, rfl⟩; subst hv; exact h)
/-- A call of a function that hands back data. -/
theorem o_callD {y : Operand} {args : List Operand} {vs cap : List Value} {ts : Array TypeId} {f : FuncId} {Φc : List Fa} {ψ : Value → Fa}
    (hdN : Nat.blt d x.N = true) (hg : gd ops L g = some true) (hy : ev L y = some (.func (.func f) #[] cap.toArray)) [hf : HasFn x.P f] (hargs : args.mapM (ev L) = some vs) (c : FnD x.P f (vs ++ cap) Φc (fun v => [ψ v])) [hΦ : Ents Φ Φc]
    (h : ∀ v, G x (ψ v :: Φ) ((d, v) :: L) M K) : OpK x ops Q ⟨some d, .call ⟨.value y, args.toArray, ts⟩, ty, pos, af, g⟩ Φ L M K :=
  OpK.call hdN hg hy hargs c hΦ (Mr := M) (by simp) (by rintro u Φ' Mc' ⟨rfl, rfl⟩; exact h u)

/-! ### The beginning and the end of a function -/
def envOf : Nat → List Value → Env
  | _, [] => []
  | i, v :: l => (i, v) :: envOf (i + 1) l
theorem look_envOf : ∀ (l : List Value) (i t : Nat) (v : Value), look (envOf i l) t = some v → i ≤ t ∧ l[t - i]? = some v
  | [], i, t, v, h => by cases h
  | u :: l, i, t, v, h => by
    simp only [envOf, look] at h
    by_cases e : i = t
    · subst e; simp at h; simp [h]
    · rw [nbeq_ne e] at h
      simp only [cond_false] at h
      obtain ⟨h1, h2⟩ := look_envOf l (i + 1) t v h
      refine ⟨by omega, ?_⟩
      rw [show t - i = (t - (i + 1)) + 1 from by omega]
      simpa using h2

/-- What a walk through the body of a function must come to. -/
def Post (P : Program) (fn : Func) (I : Imm) (Mc : Own) (w0 : World) (R : Value → List Fa → Own → Prop) : Exit → Act → World → Prop :=
  bodyPostM (FR none) 0 P fn fun e w' => ∃ v Φ' Mc' I', e = .returned v ∧ R v Φ' Mc' ∧ (∀ φ ∈ Φ', φ.p I') ∧ Wd ⟨I, doms Mc, w0⟩ I' Mc' w'

theorem Fn.enter {P : Program} {f : FuncId} {fn : Func} {c : Code} {args : List Value} {Φ : List Fa} {Mc : Own} {R : Value → List Fa → Own → Prop} {N : Nat}
    (hf : P.funcs[f]? = some fn) (hb : fn.body = some c) (hN : fn.ntmps = N) (hle : args.length ≤ N)
    (h : ∀ I0 w0, W ⟨P, none, ⟨I0, doms Mc, w0⟩, N, []⟩ c (Post P fn I0 Mc w0 R) Φ (envOf 0 args) Mc) : Fn P f args Φ Mc R := by
  intro I w hp hw
  refine (callsIn_wide (n := 0)).1 (callsIn_of_wp_marks hf hb trivial ?_)
  refine h I w I _ w hp ⟨?_, ?_, rfl⟩ hw
  · subst hN; simp; omega
  · intro t v hv
    obtain ⟨_, hv⟩ := look_envOf _ _ _ _ hv
    simp only [Nat.sub_zero] at hv
    have hlt := (List.getElem?_eq_some_iff.1 hv).1
    rw [Array.getElem?_append_left (by simpa using hlt)]
    simpa using hv

/-- The results of a function, from what is known at its end. -/
inductive Res (P : Program) (Φ : List Fa) (L : Env) (M : Own) : ResultVar → Value → Prop
  | tmp {t : Nat} {v : Value} (h : look L t = some v) : Res P Φ L M (.tmp t) v
  | cellA {t n b e : Nat} {T : TypeId} {cs : List Value} [ha : IsAg P T true] [hs : Siz P T n] [hh : Holds Φ M b cs e] (h : look L t = some (.pointer (some ⟨b, 0, none⟩))) (hn : cs.length = n) : Res P Φ L M (.cell t T) (.agg cs.toArray)
  | cell1 {t b e : Nat} {T : TypeId} {v : Value} [ha : IsAg P T false] [hh : Holds Φ M b [v] e] (h : look L t = some (.pointer (some ⟨b, 0, none⟩))) : Res P Φ L M (.cell t T) v

def resSem (a : Act) : ResultVar → Sem Value
  | .tmp t => pure (a.tmps.getD t undef)
  | .cell p t => do loadVar t (← asAddr (a.tmps.getD p undef))
theorem Res.run {P : Program} {N : Nat} {ds : List Deferred} {I : Imm} {E : Ent} {a : Act} {w : World} (hk : Kn N L ds a) (hp : ∀ φ ∈ Φ, φ.p I) (hw : Wd E I M w) {rv : ResultVar} {v : Value} (h : Res P Φ L M rv v) : (resSem a rv).run P w = .ok v w := by
  cases h with
  | tmp h => simp [resSem, hk.val _ _ h, Sem.run_pure]
  | @cellA t n b e T cs ha hs hh h hn =>
    have := run_loadVarA (P := P) (t := T) (off := 0) ha.h hs.h (hh.h _ _ _ hp hw) (by omega) rfl
    subst hn
    simp [resSem, hk.val _ _ h, Sem.run_bind, Result.andThen, asAddr, Sem.run_pure, this]
  | @cell1 t b e T v ha hh h =>
    have := run_loadVar1 (P := P) (t := T) ha.h (cell_Ob (off := 0) (hh.h _ _ _ hp hw) rfl)
    simp [resSem, hk.val _ _ h, Sem.run_bind, Result.andThen, asAddr, Sem.run_pure, this]

inductive Ress (P : Program) (Φ : List Fa) (L : Env) (M : Own) : List ResultVar → List Value → Prop
  | nil : Ress P Φ L M [] []
  | cons {r : ResultVar} {rs : List ResultVar} {v : Value} {vs : List Value} (h : Res P Φ L M r v) (t : Ress P Φ L M rs vs) : Ress P Φ L M (r :: rs) (v :: vs)
def tup : List Value → Value
  | [v] => v
  | vs => .tuple vs.toArray
theorem Ress.run {P : Program} {fn : Func} {N : Nat} {ds : List Deferred} {I : Imm} {E : Ent} {a : Act} {w : World} (hk : Kn N L ds a) (hp : ∀ φ ∈ Φ, φ.p I) (hw : Wd E I M w) {rs : List ResultVar} {vs : List Value} (hr : fn.results = rs.toArray) (h : Ress P Φ L M rs vs) :
    (results fn a.tmps).run P w = .ok (tup vs) w := by
  have key : ∀ {rs : List ResultVar} {vs : List Value}, Ress P Φ L M rs vs → (rs.mapM (resSem a)).run P w = .ok vs w := by
    intro rs vs h
    induction h with
    | nil => simp [Sem.run_pure]
    | cons h _ ih =>
      have := h.run hk hp hw
      simp only [List.mapM_cons, Sem.run_bind, this, Result.andThen, ih, Sem.run_pure]
  have hres : results fn a.tmps = (do let vs ← fn.results.mapM (resSem a); pure (if h : vs.size = 1 then vs[0] else .tuple vs)) := by
    unfold results
    congr 1
  rw [hres, hr]
  have hm := key h
  simp only [List.mapM_toArray, Sem.run_bind, Sem.run_map]
  simp only [hm, Result.andThen, Sem.run_pure]
  match vs with
  | [] => simp [tup]
  | [v] => simp [tup]
  | v :: u :: l => simp [tup]

theorem G.ret {P : Program} {fn : Func} {I0 : Imm} {Mc : Own} {w0 : World} {N : Nat} {R : Value → List Fa → Own → Prop} {rs : List ResultVar} {vs : List Value} {Φ' : List Fa} {M' : Own}
    (hr : fn.results = rs.toArray) (h : Ress P Φ L M rs vs) (hΦ : Ents Φ Φ') (hM : M'.Sublist M) (hR : R (tup vs) Φ' M') :
    G ⟨P, none, ⟨I0, doms Mc, w0⟩, N, []⟩ Φ L M (Post P fn I0 Mc w0 R .ret) := by
  intro I a w hp hk hw
  change LeavesInM (FR none) 0 P fn a.tmps _ a.defers .returning w
  rw [hk.df]
  exact ⟨_, h.run hk hp hw hr, _, Φ', M', I, rfl, hR, hΦ.h I hp, hw.sub hM⟩
theorem G.fin {P : Program} {fn : Func} {I0 : Imm} {Mc : Own} {w0 : World} {N : Nat} {R : Value → List Fa → Own → Prop} {rs : List ResultVar} {vs : List Value} {Φ' : List Fa} {M' : Own}
    (hr : fn.results = rs.toArray) (h : Ress P Φ L M rs vs) (hΦ : Ents Φ Φ') (hM : M'.Sublist M) (hR : R (tup vs) Φ' M') :
    G ⟨P, none, ⟨I0, doms Mc, w0⟩, N, []⟩ Φ L M (Post P fn I0 Mc w0 R .normal) := G.ret (fn := fn) hr h hΦ hM hR
end
end Go.Rail
