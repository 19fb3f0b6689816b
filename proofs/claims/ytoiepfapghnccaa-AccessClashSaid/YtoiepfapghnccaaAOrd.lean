/- The program's order of keys. -/
import Derived.Test.YtoiepfapghnccaaAAcc
import Derived.Test.YtoiepfapghnccaaRailC
namespace Go.Rail
open Go Go.Proofs
set_option linter.unusedSimpArgs false
set_option linter.unusedVariables false
set_option maxHeartbeats 400000
set_option maxRecDepth 4000
attribute [local irreducible] OpK G W LW wpListIn Exit.then Exit.inBlock Post rounds opRun bodyPostM intOp

attribute [local irreducible] lexN cmpW cmpA cmpK cmpI

instance : ExtF Try.prog 94 Extern.BytealgCompare.compare := ⟨fun args w => run_callFunc_extern Try.func94 (by kernel_rfl) (by kernel_rfl) (by kernel_rfl) (by kernel_rfl) args w⟩
theorem bcmp_spec (v u : Value) (xs ys : List UInt8) : FnV Try.prog 55 [v, u] [fRp v xs, fRp u ys] (.int .i64 (lexN (xs.map UInt8.toNat) (ys.map UInt8.toNat))) := by
  refine Fn.enter Try.func55 rfl Try.ntmps55 (by simp) (fun I0 w0 => ?_)
  repeat (first | refine stp ?_ | (refine k_indexAddr ?_; first | (refine o_ixA _ rfl rfl rfl rfl rfl (h := ?_); intro _) | (refine o_ixB rfl rfl rfl rfl (h := ?_); intro _)) | (refine k_load ?_; refine o_loadF rfl rfl rfl rfl ?_) | (refine stb ?_; intro _))
  refine o_cmpB (xs := xs) (ys := ys) rfl rfl rfl rfl rfl ?_
  repeat (first | refine stp ?_ | (refine k_indexAddr ?_; first | (refine o_ixA _ rfl rfl rfl rfl rfl (h := ?_); intro _) | (refine o_ixB rfl rfl rfl rfl (h := ?_); intro _)) | (refine k_load ?_; refine o_loadF rfl rfl rfl rfl ?_) | (refine stb ?_; intro _))
  refine G.ret rfl (.cons (.tmp rfl) .nil) (Φ' := []) (M' := []) inferInstance (List.nil_sublist _) ⟨?_, rfl, rfl⟩
  rfl
/-- The first one that is not nought. -/
def orI : List Int → Int
  | [] => 0
  | n :: l => if n = 0 then orI l else n
theorem orI_drop {xs : List Int} {i : Nat} (hi : i < xs.length) : orI (xs.drop i) = if xs[i] = 0 then orI (xs.drop (i + 1)) else xs[i] := by
  rw [List.drop_eq_getElem_cons hi, orI]
theorem or_spec (v : Value) (xs : List Int) (hx : xs.length ≤ 4611686018427387904) : FnV Try.prog 54 [v] [fRp v xs] (.int .i64 (orI xs)) := by
  refine Fn.enter Try.func54 rfl Try.ntmps54 (by simp) (fun I0 w0 => ?_)
  repeat (first | refine stp ?_ | (refine k_indexAddr ?_; first | (refine o_ixA _ rfl rfl rfl rfl rfl (h := ?_); intro _) | (refine o_ixB rfl rfl rfl rfl (h := ?_); intro _)) | (refine k_load ?_; refine o_loadF rfl rfl rfl rfl ?_) | (refine stb ?_; intro _))
  refine W.loopI (fun (i : Nat) => ([fRp v xs], [(6, v), (3, .int .i64 0), (7, .int .i64 xs.length), (8, .int .i64 i)], [])) (fun i => i ≤ xs.length ∧ orI (xs.drop i) = orI xs) (fun i => xs.length - i) 0 ⟨by omega, by simp⟩ inferInstance (look_sub_cons rfl (look_sub_cons rfl (look_sub_cons rfl (look_sub_cons rfl look_sub_nil)))) (List.Sublist.refl _) ?_
  intro i ⟨hi, hm⟩
  dsimp only
  by_cases hi0 : i = xs.length
  · subst hi0
    rw [List.drop_length] at hm
    repeat (first | refine stp ?_ | (refine k_indexAddr ?_; first | (refine o_ixA _ rfl rfl rfl rfl rfl (h := ?_); intro _) | (refine o_ixB rfl rfl rfl rfl (h := ?_); intro _)) | (refine k_load ?_; refine o_loadF rfl rfl rfl rfl ?_) | (refine stb ?_; intro _))
    refine G.ret rfl (.cons (.tmp rfl) .nil) (Φ' := []) (M' := []) inferInstance (List.nil_sublist _) ⟨?_, rfl, rfl⟩
    rw [← hm]; rfl
  · have hi1 : i < xs.length := by omega
    rw [orI_drop hi1] at hm
    by_cases h0 : xs[i] = 0
    · rw [if_pos h0] at hm
      repeat (first | refine stp ?_ | (refine k_indexAddr ?_; first | (refine o_ixA _ rfl rfl rfl rfl rfl (h := ?_); intro _) | (refine o_ixB rfl rfl rfl rfl (h := ?_); intro _)) | (refine k_load ?_; refine o_loadF rfl rfl rfl rfl ?_) | (refine stb ?_; intro _))
      refine G.again (i + 1) (by omega) ⟨by omega, hm⟩ inferInstance (look_sub_cons rfl (look_sub_cons rfl (look_sub_cons rfl (look_sub_cons rfl look_sub_nil)))) (List.Sublist.refl _)
    · rw [if_neg h0] at hm
      repeat (first | refine stp ?_ | (refine k_indexAddr ?_; first | (refine o_ixA _ rfl rfl rfl rfl rfl (h := ?_); intro _) | (refine o_ixB rfl rfl rfl rfl (h := ?_); intro _)) | (refine k_load ?_; refine o_loadF rfl rfl rfl rfl ?_) | (refine stb ?_; intro _))
      refine G.ret rfl (.cons (.tmp rfl) .nil) (Φ' := []) (M' := []) inferInstance (List.nil_sublist _) ⟨?_, rfl, rfl⟩
      rw [← hm]; rfl

theorem clone64_spec (v : Value) (xs : List UInt64) (hx : xs.length ≤ 1000000) : Fn Try.prog 122 [v] [fRp v xs] [] (ROwn 27 xs) := by
  refine Fn.enter Try.func122 rfl Try.ntmps122 (by simp) (fun I0 w0 => ?_)
  refine W.bare (G.sliceN v xs ?_)
  intro a cap hv hc hnil
  subst hv
  cases a with
  | none =>
    have hx0 := hnil rfl
    subst hx0
    repeat (first | refine stp ?_ | (refine k_indexAddr ?_; first | (refine o_ixA _ rfl rfl rfl rfl rfl (h := ?_); intro _) | (refine o_ixB rfl rfl rfl rfl (h := ?_); intro _)) | (refine k_load ?_; refine o_loadF rfl rfl rfl rfl ?_) | (refine stb ?_; intro _))
    refine o_eqNil rfl rfl rfl rfl rfl ?_
    repeat (first | refine stp ?_ | (refine k_indexAddr ?_; first | (refine o_ixA _ rfl rfl rfl rfl rfl (h := ?_); intro _) | (refine o_ixB rfl rfl rfl rfl (h := ?_); intro _)) | (refine k_load ?_; refine o_loadF rfl rfl rfl rfl ?_) | (refine stb ?_; intro _))
    exact G.ret rfl (.cons (.tmp rfl) .nil) inferInstance (List.nil_sublist _) ⟨none, ⟨rfl, rfl⟩, rfl, rfl⟩
  | some ad =>
    repeat (first | refine stp ?_ | (refine k_indexAddr ?_; first | (refine o_ixA _ rfl rfl rfl rfl rfl (h := ?_); intro _) | (refine o_ixB rfl rfl rfl rfl (h := ?_); intro _)) | (refine k_load ?_; refine o_loadF rfl rfl rfl rfl ?_) | (refine stb ?_; intro _))
    refine o_eqNil rfl rfl rfl rfl rfl ?_
    repeat (first | refine stp ?_ | (refine k_indexAddr ?_; first | (refine o_ixA _ rfl rfl rfl rfl rfl (h := ?_); intro _) | (refine o_ixB rfl rfl rfl rfl (h := ?_); intro _)) | (refine k_load ?_; refine o_loadF rfl rfl rfl rfl ?_) | (refine stb ?_; intro _))
    refine o_litM (xs := xs.take 0) ⟨by simp, rfl, by decide⟩ rfl rfl rfl RpL.nil rfl ?_
    intro b cs hcs
    repeat (first | refine stp ?_ | (refine k_indexAddr ?_; first | (refine o_ixA _ rfl rfl rfl rfl rfl (h := ?_); intro _) | (refine o_ixB rfl rfl rfl rfl (h := ?_); intro _)) | (refine k_load ?_; refine o_loadF rfl rfl rfl rfl ?_) | (refine stb ?_; intro _))
    refine o_app2 (Mr := []) (some (b, cs)) (xs := xs.take 0) (ys := xs) ⟨0, rfl, by simpa using hcs, by simp⟩ ⟨by simp; omega, by simp; omega, rfl⟩ rfl rfl rfl rfl (show Ent' _ (fRow cs (xs.take 0)) from inferInstance) inferInstance (List.Perm.refl _) ?_
    intro v' o' hown'
    rw [show xs.take 0 ++ xs = xs from rfl] at hown' ⊢
    repeat (first | refine stp ?_ | (refine k_indexAddr ?_; first | (refine o_ixA _ rfl rfl rfl rfl rfl (h := ?_); intro _) | (refine o_ixB rfl rfl rfl rfl (h := ?_); intro _)) | (refine k_load ?_; refine o_loadF rfl rfl rfl rfl ?_) | (refine stb ?_; intro _))
    exact G.ret rfl (.cons (.tmp rfl) .nil) inferInstance (List.Sublist.refl _) ⟨o', hown', rfl, rfl⟩
theorem cloneK_spec (v : Value) (xs : List Key) (hx : xs.length ≤ 1000000) : Fn Try.prog 68 [v] [fRp v xs] [] (ROwn 31 xs) := by
  refine Fn.enter Try.func68 rfl Try.ntmps68 (by simp) (fun I0 w0 => ?_)
  refine W.bare (G.sliceN v xs ?_)
  intro a cap hv hc hnil
  subst hv
  cases a with
  | none =>
    have hx0 := hnil rfl
    subst hx0
    repeat (first | refine stp ?_ | (refine k_indexAddr ?_; first | (refine o_ixA _ rfl rfl rfl rfl rfl (h := ?_); intro _) | (refine o_ixB rfl rfl rfl rfl (h := ?_); intro _)) | (refine k_load ?_; refine o_loadF rfl rfl rfl rfl ?_) | (refine stb ?_; intro _))
    refine o_eqNil rfl rfl rfl rfl rfl ?_
    repeat (first | refine stp ?_ | (refine k_indexAddr ?_; first | (refine o_ixA _ rfl rfl rfl rfl rfl (h := ?_); intro _) | (refine o_ixB rfl rfl rfl rfl (h := ?_); intro _)) | (refine k_load ?_; refine o_loadF rfl rfl rfl rfl ?_) | (refine stb ?_; intro _))
    exact G.ret rfl (.cons (.tmp rfl) .nil) inferInstance (List.nil_sublist _) ⟨none, ⟨rfl, rfl⟩, rfl, rfl⟩
  | some ad =>
    repeat (first | refine stp ?_ | (refine k_indexAddr ?_; first | (refine o_ixA _ rfl rfl rfl rfl rfl (h := ?_); intro _) | (refine o_ixB rfl rfl rfl rfl (h := ?_); intro _)) | (refine k_load ?_; refine o_loadF rfl rfl rfl rfl ?_) | (refine stb ?_; intro _))
    refine o_eqNil rfl rfl rfl rfl rfl ?_
    repeat (first | refine stp ?_ | (refine k_indexAddr ?_; first | (refine o_ixA _ rfl rfl rfl rfl rfl (h := ?_); intro _) | (refine o_ixB rfl rfl rfl rfl (h := ?_); intro _)) | (refine k_load ?_; refine o_loadF rfl rfl rfl rfl ?_) | (refine stb ?_; intro _))
    refine o_litM (xs := xs.take 0) ⟨by simp, rfl, by decide⟩ rfl rfl rfl RpL.nil rfl ?_
    intro b cs hcs
    repeat (first | refine stp ?_ | (refine k_indexAddr ?_; first | (refine o_ixA _ rfl rfl rfl rfl rfl (h := ?_); intro _) | (refine o_ixB rfl rfl rfl rfl (h := ?_); intro _)) | (refine k_load ?_; refine o_loadF rfl rfl rfl rfl ?_) | (refine stb ?_; intro _))
    refine o_app2 (Mr := []) (some (b, cs)) (xs := xs.take 0) (ys := xs) ⟨0, rfl, by simpa using hcs, by simp⟩ ⟨by simp; omega, by simp; omega, rfl⟩ rfl rfl rfl rfl (show Ent' _ (fRow cs (xs.take 0)) from inferInstance) inferInstance (List.Perm.refl _) ?_
    intro v' o' hown'
    rw [show xs.take 0 ++ xs = xs from rfl] at hown' ⊢
    repeat (first | refine stp ?_ | (refine k_indexAddr ?_; first | (refine o_ixA _ rfl rfl rfl rfl rfl (h := ?_); intro _) | (refine o_ixB rfl rfl rfl rfl (h := ?_); intro _)) | (refine k_load ?_; refine o_loadF rfl rfl rfl rfl ?_) | (refine stb ?_; intro _))
    exact G.ret rfl (.cons (.tmp rfl) .nil) inferInstance (List.Sublist.refl _) ⟨o', hown', rfl, rfl⟩

end Go.Rail
