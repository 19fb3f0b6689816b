/- What is known between two pieces of code, told anew: so that cases within the first do not multiply the second. -/
import Derived.Test.YtoiepfapghnccaaRailMore
set_option linter.unusedSimpArgs false
set_option linter.unusedVariables false
namespace Go.Rail
open Go
def Kp (x : Cx) (Φ : List Fa) (L : Env) (M : Own) : Act → World → Prop := fun a w => ∃ I, (∀ φ ∈ Φ, φ.p I) ∧ Kn x.N L x.ds a ∧ Wd x.E I M w
section
variable {x : Cx} {Q : Exit → Act → World → Prop} {Φ : List Fa} {L : Env} {M : Own}
theorem W.cut {c d : Code} (Φ0 : List Fa) (L0 : Env) (M0 : Own) (h1 : W x c (Exit.then (Kp x Φ0 L0 M0) Q) Φ L M) (h2 : W x d Q Φ0 L0 M0) : W x (.seq c d) Q Φ L M := by
  refine W.seq (W.mono h1 ?_)
  intro e a w hq
  cases e with
  | normal =>
    obtain ⟨I, hf, hk, hw⟩ := hq
    exact h2 I a w hf hk hw
  | exit id => exact hq
  | goto l => exact hq
  | ret => exact hq
  | panic ch => exact hq
  | outgrown => exact hq
theorem W.cutThen {c : Code} {K : Act → World → Prop} (Φ0 : List Fa) (L0 : Env) (M0 : Own) (h1 : W x c (Exit.then (Kp x Φ0 L0 M0) Q) Φ L M) (h2 : G x Φ0 L0 M0 K) : W x c (Exit.then K Q) Φ L M := by
  refine W.mono h1 ?_
  intro e a w hq
  cases e with
  | normal =>
    obtain ⟨I, hf, hk, hw⟩ := hq
    exact h2 I a w hf hk hw
  | exit id => exact hq
  | goto l => exact hq
  | ret => exact hq
  | panic ch => exact hq
  | outgrown => exact hq
theorem G.kp {Φ0 : List Fa} {L0 : Env} {M0 : Own} (hΦ : Ents Φ Φ0) (hL : ∀ t v, look L0 t = some v → look L t = some v) (hM : M0.Sublist M) : G x Φ L M (Kp x Φ0 L0 M0) :=
  fun I a w hp hk hw => ⟨I, hΦ.h I hp, ⟨hk.sz, fun t v e => hk.val t v (hL t v e), hk.df⟩, hw.sub hM⟩
end
end Go.Rail
