/- Raw sets: what the laws know of them. -/
import Derived.Test.YtoiepfapghnccaaAAwake
import Derived.Test.YtoiepfapghnccaaRailD
namespace Go.Rail
open Go Go.Proofs
set_option linter.unusedSimpArgs false
set_option linter.unusedVariables false
set_option maxHeartbeats 400000
set_option maxRecDepth 4000
attribute [local irreducible] OpK G W LW wpListIn Exit.then Exit.inBlock Post rounds opRun bodyPostM intOp

theorem keysOf_may (a : List (Int × Int)) : ∀ k ∈ keysOf a, mayK k = true := by
  intro k hk
  simp only [keysOf, List.mem_map] at hk
  obtain ⟨p, _, rfl⟩ := hk
  exact mayK_of _ _
theorem setsOf_eq (a b : List (Int × Int)) : makeS (keysOf a) (keysOf b) = (⟨setK (keysOf a), setK (keysOf b)⟩, 0) := by
  have h1 := keysOf_length a
  have h2 := keysOf_length b
  rw [makeS_eq, if_neg (fun h => h ⟨keysOf_may a, keysOf_may b⟩), if_pos (right_setK (keysOf_may a) (keysOf_may b) (by omega) (by omega))]
theorem setsOf_right (a b : List (Int × Int)) : rightS (setsOf a b) = true := by
  have h1 := keysOf_length a
  have h2 := keysOf_length b
  rw [setsOf, setsOf_eq]
  exact right_setK (keysOf_may a) (keysOf_may b) (by omega) (by omega)
theorem setsOf_small (a b : List (Int × Int)) : small 15 (setsOf a b) := by
  have h1 := keysOf_length a
  have h2 := keysOf_length b
  have h3 := setK_length (keysOf a)
  have h4 := setK_length (keysOf b)
  rw [setsOf, setsOf_eq]
  exact ⟨by dsimp only; omega, by dsimp only; omega⟩
theorem setsOf_some (a b : List (Int × Int)) : ∃ S, setsOf a b = S ∧ rightS S = true ∧ small 15 S := ⟨_, rfl, setsOf_right a b, setsOf_small a b⟩
theorem J_some {n m : Nat} {s t : Sets} (hs : rightS s = true ∧ small n s) (ht : rightS t = true ∧ small m t) (hnm : n + m ≤ 200) : joinS s t = (J s t, 0) ∧ rightS (J s t) = true ∧ small (n + m) (J s t) :=
  ⟨join_ok hs.1 ht.1 hs.2 ht.2 hnm, J_right hs.1 ht.1 hs.2 ht.2 hnm, J_small hs.2 ht.2⟩
def In64 (p : Int × Int) : Prop := (-9223372036854775808 ≤ p.1 ∧ p.1 ≤ 9223372036854775807) ∧ (-9223372036854775808 ≤ p.2 ∧ p.2 ≤ 9223372036854775807)
def okRaw (xs : List (Int × Int)) : Prop := xs.length ≤ reachBytes ∧ ∀ p ∈ xs, In64 p
theorem okRaw_in {xs : List (Int × Int)} (h : okRaw xs) : ∀ p ∈ xs, InI p := fun p hp => ⟨(h.2 p hp).1.1, (h.2 p hp).2.1⟩
theorem okRaw_len {xs : List (Int × Int)} (h : okRaw xs) : xs.length ≤ 4611686018427387904 := Nat.le_trans h.1 (by decide)
theorem rawSets (v u : Value) (a b : List (Int × Int)) (ha : okRaw a) (hb : okRaw b) : FnD Try.prog 15 [v, u] [fRp v a, fRp u b] (fun r => [fRp r (setsOf a b)]) := sets_spec v u a b (okRaw_len ha) (okRaw_len hb) (okRaw_in ha) (okRaw_in hb)
end Go.Rail
