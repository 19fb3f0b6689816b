/- May sets be, as the program and as the document have it; pairs in one another's way, one by one. -/
import Derived.Test.YtoiepfapghnccaaAAwake
import Derived.Test.YtoiepfapghnccaaRailD
namespace Go.Rail
open Go Go.Proofs
set_option linter.unusedSimpArgs false
set_option linter.unusedVariables false
set_option maxHeartbeats 400000
set_option maxRecDepth 4000
attribute [local irreducible] OpK G W LW wpListIn Exit.then Exit.inBlock Post rounds opRun bodyPostM intOp

attribute [local irreducible] lexN cmpW cmpA cmpK cmpI makeS setK commonL common clashS rightS rowG restG edgesG clG

theorem may1_spec (v : Value) (s : Sets) (h1 : s.reads.length ≤ 1000000 ∧ s.writes.length ≤ 1000000) : FnV Try.prog 108 [v] [fRp v s] (.bool (!rightS s)) := by
  refine Fn.enter Try.func108 rfl Try.ntmps108 (by simp) (fun I0 w0 => ?_)
  refine W.bare (G.sets v s ?_)
  intro r w hv
  refine G.slice r s.reads ?_
  intro a c x z
  refine G.slice w s.writes ?_
  intro b d y z'
  subst x y
  subst hv
  repeat (first | refine stp ?_ | (refine k_indexAddr ?_; first | (refine o_ixA _ rfl rfl rfl rfl rfl (h := ?_); intro _) | (refine o_ixB rfl rfl rfl rfl (h := ?_); intro _)) | (refine k_load ?_; refine o_loadF rfl rfl rfl rfl ?_) | (refine stb ?_; intro _))
  refine o_callV rfl rfl rfl rfl (arightS_spec _ s h1) rfl ?_
  repeat (first | refine stp ?_ | (refine k_indexAddr ?_; first | (refine o_ixA _ rfl rfl rfl rfl rfl (h := ?_); intro _) | (refine o_ixB rfl rfl rfl rfl (h := ?_); intro _)) | (refine k_load ?_; refine o_loadF rfl rfl rfl rfl ?_) | (refine stb ?_; intro _))
  refine G.ret rfl (.cons (.tmp rfl) .nil) (Φ' := []) (M' := []) inferInstance (List.nil_sublist _) ⟨?_, rfl, rfl⟩
  rfl
theorem idxMay_spec (v : Value) (xs : List Sets) (hx : xs.length ≤ 1000000) (hs : ∀ s ∈ xs, s.reads.length ≤ 1000000 ∧ s.writes.length ≤ 1000000) : FnV Try.prog 128 [v, .func (.func 108) #[] #[]] [fRp v xs] (.int .i64 (idxG (fun s => !rightS s) xs)) := by
  refine Fn.enter Try.func128 rfl Try.ntmps128 (by simp) (fun I0 w0 => ?_)
  repeat (first | refine stp ?_ | (refine k_indexAddr ?_; first | (refine o_ixA _ rfl rfl rfl rfl rfl (h := ?_); intro _) | (refine o_ixB rfl rfl rfl rfl (h := ?_); intro _)) | (refine k_load ?_; refine o_loadF rfl rfl rfl rfl ?_) | (refine stb ?_; intro _))
  refine W.loopI (fun (i : Nat) => ([fRp v xs], [(0, v), (1, _), (7, .int .i64 xs.length), (8, .int .i64 i)], [])) (fun i => i ≤ xs.length ∧ ∀ k ∈ xs.take i, (!rightS k) = false) (fun i => xs.length - i) 0 ⟨by omega, by simp⟩ inferInstance (look_sub_cons rfl (look_sub_cons rfl (look_sub_cons rfl (look_sub_cons rfl look_sub_nil)))) (List.Sublist.refl _) ?_
  intro i ⟨hi, hm⟩
  dsimp only
  by_cases hi0 : i = xs.length
  · subst hi0
    rw [List.take_length] at hm
    repeat (first | refine stp ?_ | (refine k_indexAddr ?_; first | (refine o_ixA _ rfl rfl rfl rfl rfl (h := ?_); intro _) | (refine o_ixB rfl rfl rfl rfl (h := ?_); intro _)) | (refine k_load ?_; refine o_loadF rfl rfl rfl rfl ?_) | (refine stb ?_; intro _))
    refine G.ret rfl (.cons (.tmp rfl) .nil) (Φ' := []) (M' := []) inferInstance (List.nil_sublist _) ⟨?_, rfl, rfl⟩
    rw [idxG_none hm]; rfl
  · have hi1 : i < xs.length := by omega
    repeat (first | refine stp ?_ | (refine k_indexAddr ?_; first | (refine o_ixA _ rfl rfl rfl rfl rfl (h := ?_); intro _) | (refine o_ixB rfl rfl rfl rfl (h := ?_); intro _)) | (refine k_load ?_; refine o_loadF rfl rfl rfl rfl ?_) | (refine stb ?_; intro _))
    refine o_loadR rfl rfl rfl rfl ?_
    intro vP
    have hsm := hs xs[i] (List.getElem_mem hi1)
    repeat (first | refine stp ?_ | (refine k_indexAddr ?_; first | (refine o_ixA _ rfl rfl rfl rfl rfl (h := ?_); intro _) | (refine o_ixB rfl rfl rfl rfl (h := ?_); intro _)) | (refine k_load ?_; refine o_loadF rfl rfl rfl rfl ?_) | (refine stb ?_; intro _))
    cases hk : rightS xs[i] with
    | true =>
      refine o_callV rfl rfl rfl rfl (may1_spec vP xs[i] hsm) (congrArg (fun b => Value.bool !b) hk) ?_
      repeat (first | refine stp ?_ | (refine k_indexAddr ?_; first | (refine o_ixA _ rfl rfl rfl rfl rfl (h := ?_); intro _) | (refine o_ixB rfl rfl rfl rfl (h := ?_); intro _)) | (refine k_load ?_; refine o_loadF rfl rfl rfl rfl ?_) | (refine stb ?_; intro _))
      refine G.again (i + 1) (by omega) ⟨by omega, fun k hk' => ((mem_take_succ hi1).1 hk').elim (hm k) (fun e => by rw [← e, hk]; rfl)⟩ inferInstance (look_sub_cons rfl (look_sub_cons rfl (look_sub_cons rfl (look_sub_cons rfl look_sub_nil)))) (List.Sublist.refl _)
    | false =>
      refine o_callV rfl rfl rfl rfl (may1_spec vP xs[i] hsm) (congrArg (fun b => Value.bool !b) hk) ?_
      repeat (first | refine stp ?_ | (refine k_indexAddr ?_; first | (refine o_ixA _ rfl rfl rfl rfl rfl (h := ?_); intro _) | (refine o_ixB rfl rfl rfl rfl (h := ?_); intro _)) | (refine k_load ?_; refine o_loadF rfl rfl rfl rfl ?_) | (refine stb ?_; intro _))
      refine G.ret rfl (.cons (.tmp rfl) .nil) (Φ' := []) (M' := []) inferInstance (List.nil_sublist _) ⟨?_, rfl, rfl⟩
      rw [idxG_at hi1 hm (by rw [hk]; rfl)]; rfl
theorem anyMay_spec (v : Value) (xs : List Sets) (hx : xs.length ≤ 1000000) (hs : ∀ s ∈ xs, s.reads.length ≤ 1000000 ∧ s.writes.length ≤ 1000000) : FnV Try.prog 107 [v, .func (.func 108) #[] #[]] [fRp v xs] (.bool (xs.any fun s => !rightS s)) := by
  refine Fn.enter Try.func107 rfl Try.ntmps107 (by simp) (fun I0 w0 => ?_)
  repeat (first | refine stp ?_ | (refine k_indexAddr ?_; first | (refine o_ixA _ rfl rfl rfl rfl rfl (h := ?_); intro _) | (refine o_ixB rfl rfl rfl rfl (h := ?_); intro _)) | (refine k_load ?_; refine o_loadF rfl rfl rfl rfl ?_) | (refine stb ?_; intro _))
  refine o_callV rfl rfl rfl rfl (idxMay_spec v xs hx hs) rfl ?_
  repeat (first | refine stp ?_ | (refine k_indexAddr ?_; first | (refine o_ixA _ rfl rfl rfl rfl rfl (h := ?_); intro _) | (refine o_ixB rfl rfl rfl rfl (h := ?_); intro _)) | (refine k_load ?_; refine o_loadF rfl rfl rfl rfl ?_) | (refine stb ?_; intro _))
  refine G.ret rfl (.cons (.tmp rfl) .nil) (Φ' := []) (M' := []) inferInstance (List.nil_sublist _) ⟨?_, rfl, rfl⟩
  rw [← idxG_nn]; rfl
theorem mayG_spec (v : Value) (xs : List Sets) (hx : xs.length ≤ 1000000) (hs : ∀ s ∈ xs, s.reads.length ≤ 1000000 ∧ s.writes.length ≤ 1000000) : FnV Try.prog 76 [v] [fRp v xs] (.bool (mayG xs)) := by
  refine Fn.enter Try.func76 rfl Try.ntmps76 (by simp) (fun I0 w0 => ?_)
  have e : (xs.any fun s => !rightS s) = !(xs.all rightS) := by
    rw [List.all_eq_not_any_not, Bool.not_not]
  by_cases h : xs.length ≤ 64
  · repeat (first | refine stp ?_ | (refine k_indexAddr ?_; first | (refine o_ixA _ rfl rfl rfl rfl rfl (h := ?_); intro _) | (refine o_ixB rfl rfl rfl rfl (h := ?_); intro _)) | (refine k_load ?_; refine o_loadF rfl rfl rfl rfl ?_) | (refine stb ?_; intro _))
    refine o_callV rfl rfl rfl rfl (anyMay_spec v xs hx hs) (congrArg Value.bool e) ?_
    repeat (first | refine stp ?_ | (refine k_indexAddr ?_; first | (refine o_ixA _ rfl rfl rfl rfl rfl (h := ?_); intro _) | (refine o_ixB rfl rfl rfl rfl (h := ?_); intro _)) | (refine k_load ?_; refine o_loadF rfl rfl rfl rfl ?_) | (refine stb ?_; intro _))
    refine G.ret rfl (.cons (.tmp rfl) .nil) (Φ' := []) (M' := []) inferInstance (List.nil_sublist _) ⟨?_, rfl, rfl⟩
    simp [tup, mayG, h]
  · repeat (first | refine stp ?_ | (refine k_indexAddr ?_; first | (refine o_ixA _ rfl rfl rfl rfl rfl (h := ?_); intro _) | (refine o_ixB rfl rfl rfl rfl (h := ?_); intro _)) | (refine k_load ?_; refine o_loadF rfl rfl rfl rfl ?_) | (refine stb ?_; intro _))
    refine G.ret rfl (.cons (.tmp rfl) .nil) (Φ' := []) (M' := []) inferInstance (List.nil_sublist _) ⟨?_, rfl, rfl⟩
    simp [tup, mayG, h]
end Go.Rail
