/- Keys sorted, each but once. -/
import Derived.Test.YtoiepfapghnccaaAGrow
import Derived.Test.YtoiepfapghnccaaRailS
import Derived.Test.YtoiepfapghnccaaASort0
namespace Go.Rail
open Go Go.Proofs
set_option linter.unusedSimpArgs false
set_option linter.unusedVariables false
set_option maxHeartbeats 400000
set_option maxRecDepth 4000
attribute [local irreducible] OpK G W LW wpListIn Exit.then Exit.inBlock Post rounds opRun bodyPostM intOp

attribute [local irreducible] lexN cmpW cmpA cmpK cmpI

theorem sort_spec (v : Value) (xs : List Key) (o : OR) (hx : xs.length ≤ 1000000) (ho : IsOwn 25 v xs.length o) : Fn Try.prog 100 [v, .func (.func 18) #[] #[]] [fRow (ocells o) xs] (ownM 31 o) (RIn 31 v (xs.mergeSort leKB)) :=
  Fn.sort Try.sortL Try.isAgg31 Try.sizeOf31 aorder_spec v xs o hx ho
theorem set2_spec (v : Value) (xs : List Key) (hx : xs.length ≤ 1000000) : Fn Try.prog 61 [v, .func (.func 18) #[] #[]] [fRp v xs] [] (ROwn 31 (setK xs)) := by
  refine Fn.enter Try.func61 rfl Try.ntmps61 (by simp) (fun I0 w0 => ?_)
  repeat (first | refine stp ?_ | (refine k_indexAddr ?_; first | (refine o_ixA _ rfl rfl rfl rfl rfl (h := ?_); intro _) | (refine o_ixB rfl rfl rfl rfl (h := ?_); intro _)) | (refine k_load ?_; refine o_loadF rfl rfl rfl rfl ?_) | (refine stb ?_; intro _))
  refine o_callO rfl rfl rfl rfl (cloneK_spec v xs hx) ?_
  intro v1 o1 h1
  repeat (first | refine stp ?_ | (refine k_indexAddr ?_; first | (refine o_ixA _ rfl rfl rfl rfl rfl (h := ?_); intro _) | (refine o_ixB rfl rfl rfl rfl (h := ?_); intro _)) | (refine k_load ?_; refine o_loadF rfl rfl rfl rfl ?_) | (refine stb ?_; intro _))
  refine o_callI (α := Key) (Mr := []) o1 rfl rfl rfl rfl (sort_spec v1 xs o1 hx h1) (List.Perm.refl _) ?_
  intro u o2 h2
  repeat (first | refine stp ?_ | (refine k_indexAddr ?_; first | (refine o_ixA _ rfl rfl rfl rfl rfl (h := ?_); intro _) | (refine o_ixB rfl rfl rfl rfl (h := ?_); intro _)) | (refine k_load ?_; refine o_loadF rfl rfl rfl rfl ?_) | (refine stb ?_; intro _))
  refine o_callOO (α := Key) (β := Key) (Mr := []) o2 rfl rfl rfl rfl (compact_spec v1 (xs.mergeSort leKB) o2 (by rw [List.length_mergeSort]; exact hx) h2) (List.Perm.refl _) ?_
  intro v3 o3 h3
  rw [set_law] at h3 ⊢
  repeat (first | refine stp ?_ | (refine k_indexAddr ?_; first | (refine o_ixA _ rfl rfl rfl rfl rfl (h := ?_); intro _) | (refine o_ixB rfl rfl rfl rfl (h := ?_); intro _)) | (refine k_load ?_; refine o_loadF rfl rfl rfl rfl ?_) | (refine stb ?_; intro _))
  exact G.ret rfl (.cons (.tmp rfl) .nil) (Φ' := [fRow (ocells o3) (setK xs)]) (M' := ownM 31 o3) inferInstance (List.Sublist.refl _) ⟨o3, h3, rfl, rfl⟩
end Go.Rail
