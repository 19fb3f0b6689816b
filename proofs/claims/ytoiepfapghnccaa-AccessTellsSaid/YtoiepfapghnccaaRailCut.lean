/- What is known between two pieces of code, told anew: so that cases within the first do not multiply the second. -/
import Derived.Test.YtoiepfapghnccaaRailMore
import Derived.Test.YtoiepfapghnccaaRailSlice
set_option linter.unusedSimpArgs false
set_option linter.unusedVariables false
namespace Go.Rail
open Go
def Kp (x : Cx) (Φ : List Fa) (L : Env) (M : Own) : Act → World → Prop := fun a w => ∃ I, (∀ φ ∈ Φ, φ.p I) ∧ Kn x.N L x.ds a ∧ Wd x.E I M w
section
variable {x : Cx} {Q : Exit → Act → World → Prop} {Φ : List Fa} {L : Env} {M : Own}
theorem W.cut {c d : Code} (Φ0 : List Fa) (L0 : Env) (M0 : Own) (h1 : W x c (Exit.then (Kp x Φ0 L0 M0) Q) Φ L M) (h2 : W x d Q Φ0 L0 M0) : W x (.seq c d) Q Φ L M := by
  refine W.seq (W.mono h1 ?_)
  intro e a w hq
  cases e with
  | normal =>
    obtain ⟨I, hf, hk, hw⟩ := hq
    exact h2 I a w hf hk hw
  | exit id => exact hq
  | goto l => exact hq
  | ret => exact hq
  | panic ch => exact hq
  | outgrown => exact hq
theorem W.cutThen {c : Code} {K : Act → World → Prop} (Φ0 : List Fa) (L0 : Env) (M0 : Own) (h1 : W x c (Exit.then (Kp x Φ0 L0 M0) Q) Φ L M) (h2 : G x Φ0 L0 M0 K) : W x c (Exit.then K Q) Φ L M := by
  refine W.mono h1 ?_
  intro e a w hq
  cases e with
  | normal =>
    obtain ⟨I, hf, hk, hw⟩ := hq
    exact h2 I a w hf hk hw
  | exit id => exact hq
  | goto l => exact hq
  | ret => exact hq
  | panic ch => exact hq
  | outgrown => exact hq
theorem G.kp {Φ0 : List Fa} {L0 : Env} {M0 : Own} (hΦ : Ents Φ Φ0) (hL : ∀ t v, look L0 t = some v → look L t = some v) (hM : M0.Sublist M) : G x Φ L M (Kp x Φ0 L0 M0) :=
  fun I a w hp hk hw => ⟨I, hΦ.h I hp, ⟨hk.sz, fun t v e => hk.val t v (hL t v e), hk.df⟩, hw.sub hM⟩
end
section
variable {x : Cx} {Q : Exit → Act → World → Prop} {Φ : List Fa} {L : Env} {M : Own} {ops : Array Oper} {K : Act → World → Prop}
variable {d : Nat} {ty : TypeId} {pos : String} {af : Array Edge} {g : Option (Nat × Bool)}
/-- A slice, cut from its beginning. -/
theorem o_takeS {α : Type} [GoTy α] {t e : TypeId} {y z : Operand} {ad : Option Addr} {n cap : Nat} {k : IntKind} {i : Int} {xs : List α} (h : Nat) [ht : SlTy x.P t e] [hs : Siz x.P e (GoTy.sz α)] (hdN : Nat.blt d x.N = true) (hg : gd ops L g = some true) (hy : ev L y = some (.slice ad n cap)) (hz : ev L z = some (.int k i)) (hi : i = (h : Int)) (hk : Ent' Φ (fRp (.slice ad n cap) xs)) (hhx : h ≤ xs.length)
    (hG : G x (fRp (.slice ad h cap) (xs.take h) :: Φ) ((d, .slice ad h cap) :: L) M K) : OpK x ops Q ⟨some d, .slice t y none (some z) none, ty, pos, af, g⟩ Φ L M K :=
  OpK.mem rfl hdN hg (by simp) (fun I a w hp hka hw => by
    obtain ⟨ad', cap', e1, h1, h2⟩ := Rp.slice (hk.h I hp)
    obtain ⟨rfl, rfl, rfl⟩ : ad = ad' ∧ n = xs.length ∧ cap = cap' := by simpa using e1
    have hb := run_bounds (P := x.P) (isSlice := true) (l := 0) (lo := none) (hi := some z) (h := h) (len := xs.length) (cap := cap) hka rfl ⟨_, _, hz, hi⟩ (Nat.zero_le _) (Nat.le_trans hhx h1) w
    have hb' : (Instr.sliceBounds true xs.length cap none (some (a.eval z)) none).run x.P w = .ok (0, h, cap) w := hb
    have hz0 : (fun a : Addr => a.add 0) = id := by funext a; simp [Addr.add]
    refine ⟨.slice ad h cap, w, fRp (.slice ad h cap) (xs.take h) :: Φ, M, I, ?_, ?_, hw, hG⟩
    · simp [execOp, Instr.sliceAt, Instr.slice, hka.eval hy, run_underlying ht.h, hs.h, hb', Sem.run_bind, Result.andThen, Sem.run_pure, hz0]
    · intro φ hφ
      rcases List.mem_cons.1 hφ with rfl | hφ
      · refine Rp.mkSlice ⟨by simp; omega, fun hne => ?_⟩ (by simp; omega)
        obtain ⟨a0, c, t', fr, e2, e3, e4, h5, h6⟩ := h2 (fun h => hne (by rw [h]; simp))
        refine ⟨a0, c, t', fr, e2, e3, e4, ?_, fun j hj => ?_⟩
        · have := Nat.mul_le_mul_right (GoTy.sz α) (show (xs.take h).length ≤ xs.length by simp; omega)
          omega
        · have hj' : j < xs.length := by simp at hj; omega
          rw [List.getElem_take]
          exact h6 j hj'
      · exact hp φ hφ)
end
/-- What stands for a slice: its address and its room. -/
def sa : Value → Option Addr
  | .slice a _ _ => a
  | _ => none
def sc : Value → Nat
  | .slice _ _ c => c
  | _ => 0
/-- The block to which a pointer points. -/
def pb : Value → Nat
  | .pointer (some a) => a.block
  | _ => 0
end Go.Rail
