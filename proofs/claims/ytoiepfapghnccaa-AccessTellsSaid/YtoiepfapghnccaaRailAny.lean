/- A region that draws its order, walked through all of its orders. -/
import Derived.Test.YtoiepfapghnccaaRailMore
set_option linter.unusedSimpArgs false
set_option linter.unusedVariables false
namespace Go.Rail
open Go
def AllR (p : Nat → Prop) : List Nat → Prop
  | [] => True
  | i :: l => p i ∧ AllR p l
theorem AllR.at {p : Nat → Prop} : ∀ {l : List Nat} {i : Nat}, AllR p l → i ∈ l → p i
  | a :: l, i, h, hi => by
    rcases List.mem_cons.1 hi with rfl | hi
    · exact h.1
    · exact AllR.at h.2 hi
section
variable {x : Cx} {Q : Exit → Act → World → Prop} {Φ : List Fa} {L : Env} {M : Own}
theorem W.any {id : Nat} {l : List Oper} (hm : x.P.follows .mixedOrders = true) (h : G x Φ L M (wpAnyIn (FR x.r) 0 x.P .any l.toArray Q l.length (Array.replicate l.length false))) : W x (.region id l.toArray true) Q Φ L M :=
  fun I a w hp hk hw => wpIn_region_any hm (by simpa using h I a _ hp hk hw.drew)
theorem G.anyStep {l : List Oper} {fuel : Nat} {listed : Array Bool} (rs : List Nat) (hr : Region.ready .any l.toArray listed = rs) (hlt : (rs.all fun i => Nat.blt i l.length) = true) (hne : rs.isEmpty = false)
    (h : AllR (fun i => OpK x l.toArray Q (l.getD i default) Φ L M (wpAnyIn (FR x.r) 0 x.P .any l.toArray Q fuel (listed.setIfInBounds i true))) rs) : G x Φ L M (wpAnyIn (FR x.r) 0 x.P .any l.toArray Q (fuel + 1) listed) := by
  intro I a w hp hk hw
  refine ⟨fun h0 => ?_, fun i hi => ?_⟩
  · rw [hr] at h0; rw [h0] at hne; cases hne
  · rw [hr] at hi
    have hil : i < l.length := by
      have := List.all_eq_true.1 hlt i hi
      simpa using this
    have h1 := AllR.at h hi I a w hp hk hw
    unfold wpOpIn
    have ho : l.toArray[i]? = some (l.getD i default) := by simp [hil]
    rw [ho]
    exact h1
theorem G.anyEnd {l : List Oper} {listed : Array Bool} (hr : Region.ready .any l.toArray listed = []) (h : G x Φ L M (Q .normal)) : G x Φ L M (wpAnyIn (FR x.r) 0 x.P .any l.toArray Q 0 listed) := fun I a w hp hk hw => ⟨hr, h I a w hp hk hw⟩
end
end Go.Rail
