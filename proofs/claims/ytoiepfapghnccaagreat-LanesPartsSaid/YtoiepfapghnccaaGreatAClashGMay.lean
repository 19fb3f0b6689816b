/- Sets in one another's way, as the program has it. -/
import Derived.Test.YtoiepfapghnccaaGreatAShare
import Derived.Test.YtoiepfapghnccaaGreatRailD
namespace Go.Rail
open Go Go.Proofs
set_option linter.unusedSimpArgs false
set_option linter.unusedVariables false
set_option maxHeartbeats 400000
set_option maxRecDepth 4000
attribute [local irreducible] OpK G W LW wpListIn Exit.then Exit.inBlock Post rounds opRun bodyPostM intOp
attribute [local irreducible] lexN cmpW cmpA cmpK cmpI makeS setK commonL common
theorem common_of_none {l m : List Key} (h : ((commonL (setK l) (setK m)).map fun k => [k.v]).length = 0) : common l m = false := by
  rw [List.length_map] at h
  rw [← common_set, ← commonL_nil]
  exact List.length_eq_zero_iff.1 h
theorem common_of_yield {l m : List Key} {k : Nat} (h : k < ((commonL (setK l) (setK m)).map fun k => [k.v]).length) : common l m = true := by
  cases hc : common l m with
  | true => rfl
  | false =>
    rw [← common_set, ← commonL_nil] at hc
    rw [hc] at h; simp at h
theorem aclash_spec (v u : Value) (a b : Sets) (h1 : a.reads.length ≤ 1000000 ∧ a.writes.length ≤ 1000000) (h2 : b.reads.length ≤ 1000000 ∧ b.writes.length ≤ 1000000) : FnV Tryz.prog 73 [v, u] [fRp v a, fRp u b] (.bool (clashS a b)) := by
  refine Fn.enter Tryz.func73 rfl Tryz.ntmps73 (by simp) (fun I0 w0 => ?_)
  refine W.bare (G.sets v a ?_)
  intro r w hv
  refine G.sets u b ?_
  intro r' w' hu
  refine G.slice r a.reads ?_
  intro a1 c1 e1 _
  refine G.slice w a.writes ?_
  intro a2 c2 e2 _
  refine G.slice r' b.reads ?_
  intro a3 c3 e3 _
  refine G.slice w' b.writes ?_
  intro a4 c4 e4 _
  subst e1 e2 e3 e4
  subst hv hu
  repeat (first | refine stp ?_ | (refine sti ?_; intro _) | refine stf ?_ | (refine stb ?_; intro _))
  rename_i b2 b3 b4
  refine o_litC (vs := [.agg #[.slice a2 a.writes.length c2, .slice a4 b.writes.length c4], .agg #[.slice a2 a.writes.length c2, .slice a3 b.reads.length c3], .agg #[.slice a1 a.reads.length c1, .slice a4 b.writes.length c4]]) ⟨by decide, rfl, by decide⟩ rfl rfl rfl rfl (by simp [cellsL]) ?_
  intro cb
  show G _ (fBlk cb [.slice a2 a.writes.length c2, .slice a4 b.writes.length c4, .slice a2 a.writes.length c2, .slice a3 b.reads.length c3, .slice a1 a.reads.length c1, .slice a4 b.writes.length c4] 126 :: _) _ _ _
  repeat (first | refine stp ?_ | (refine sti ?_; intro _) | refine stf ?_ | (refine stb ?_; intro _))
  refine W.loopN 4 ?_
  repeat (first | refine stp ?_ | (refine sti ?_; intro _) | refine stf ?_ | (refine stb ?_; intro _))
  refine o_idxO rfl rfl rfl rfl (by omega) (by omega) (o' := 0) (by omega) ?_
  repeat (first | refine stp ?_ | (refine sti ?_; intro _) | refine stf ?_ | (refine stb ?_; intro _))
  refine OpK.call rfl rfl rfl rfl (shared_spec _ _ _ _ _ _) inferInstance (Mr := _) (List.Perm.refl _) ?_
  rintro u0 Φ0 Mc0 ⟨p0, q0, rfl, rfl, rfl⟩
  dsimp only [List.cons_append, List.nil_append]
  repeat (first | refine stp ?_ | (refine sti ?_; intro _) | refine stf ?_ | (refine stb ?_; intro _))
  refine W.rangeFunc (enc := (commonL (setK a.writes) (setK b.writes)).map fun k => [k.v]) (ps := [33]) (Φi := [fBlk p0 [(.slice a2 a.writes.length c2)] 37, fBlk q0 [(.slice a4 b.writes.length c4)] 37, fRp (.slice a2 a.writes.length c2) a.writes, fRp (.slice a4 b.writes.length c4) b.writes])
    (fun k => ([fPure (k = 0)], [(b4, Ob [.bool false] 4)]))
    (fun c t => c = .ret ∧ t = ([fPure (common a.writes b.writes = true)], [(b4, Ob [.bool true] 4)])) rfl (shared1_spec p0 q0 (.slice a2 a.writes.length c2) (.slice a4 b.writes.length c4) a.writes b.writes (by omega) (by omega)) (by decide) (by simp) inferInstance ⟨fun I hp φ hφ => by
      rcases List.mem_cons.1 hφ with rfl | hφ
      · exact rfl
      · cases hφ⟩ (show MDel _ b4 (Ob [.bool false] 4) _ from inferInstance).h ?_ ?_ ?_
  · intro l rec I0' w0' k hk
    dsimp only
    rw [List.getElem_map]
    repeat (first | refine stp ?_ | (refine sti ?_; intro _) | refine stf ?_ | (refine stb ?_; intro _))
    refine G.begin (by rfl) ?_
    repeat (first | refine stp ?_ | (refine sti ?_; intro _) | refine stf ?_ | (refine stb ?_; intro _))
    refine G.roundRet inferInstance (Φ' := [fPure (common a.writes b.writes = true)]) (M'' := [(b4, Ob [.bool true] 4)]) (.inr ⟨rfl, .ret, ([fPure (common a.writes b.writes = true)], [(b4, Ob [.bool true] 4)]), ⟨rfl, rfl⟩, rfl⟩) ⟨fun I hp φ hφ => by
      rcases List.mem_cons.1 hφ with rfl | h
      · exact common_of_yield hk
      · cases h⟩ (by first | exact List.Sublist.refl _ | exact (List.nil_sublist _).cons_cons _)
  · intro D
    dsimp only [List.cons_append, List.nil_append]
    refine G.use (p := ((commonL (setK a.writes) (setK b.writes)).map fun k => [k.v]).length = 0) (fun I hp => hp (fPure _) (by simp)) ?_
    intro hn0
    have hk0 : common a.writes b.writes = false := common_of_none hn0
    repeat (first | refine stp ?_ | (refine sti ?_; intro _) | refine stf ?_ | (refine stb ?_; intro _))
    refine G.roundM ?_
    repeat (first | refine stp ?_ | (refine sti ?_; intro _) | refine stf ?_ | (refine stb ?_; intro _))
    refine o_idxO rfl rfl rfl rfl (by omega) (by omega) (o' := 2) (by omega) ?_
    repeat (first | refine stp ?_ | (refine sti ?_; intro _) | refine stf ?_ | (refine stb ?_; intro _))
    refine OpK.call rfl rfl rfl rfl (shared_spec _ _ _ _ _ _) inferInstance (Mr := _) (List.Perm.refl _) ?_
    rintro u1 Φ1 Mc1 ⟨p1, q1, rfl, rfl, rfl⟩
    dsimp only [List.cons_append, List.nil_append]
    repeat (first | refine stp ?_ | (refine sti ?_; intro _) | refine stf ?_ | (refine stb ?_; intro _))
    refine W.rangeFunc (enc := (commonL (setK a.writes) (setK b.reads)).map fun k => [k.v]) (ps := [33]) (Φi := [fBlk p1 [(.slice a2 a.writes.length c2)] 37, fBlk q1 [(.slice a3 b.reads.length c3)] 37, fRp (.slice a2 a.writes.length c2) a.writes, fRp (.slice a3 b.reads.length c3) b.reads])
      (fun k => ([fPure (k = 0)], [(b4, Ob [.bool false] 4)]))
      (fun c t => c = .ret ∧ t = ([fPure (common a.writes b.reads = true)], [(b4, Ob [.bool true] 4)])) rfl (shared1_spec p1 q1 (.slice a2 a.writes.length c2) (.slice a3 b.reads.length c3) a.writes b.reads (by omega) (by omega)) (by decide) (by simp) inferInstance ⟨fun I hp φ hφ => by
        rcases List.mem_cons.1 hφ with rfl | hφ
        · exact rfl
        · cases hφ⟩ (show MDel _ b4 (Ob [.bool false] 4) _ from inferInstance).h ?_ ?_ ?_
    · intro l rec I0' w0' k hk
      dsimp only
      rw [List.getElem_map]
      repeat (first | refine stp ?_ | (refine sti ?_; intro _) | refine stf ?_ | (refine stb ?_; intro _))
      refine G.begin (by rfl) ?_
      repeat (first | refine stp ?_ | (refine sti ?_; intro _) | refine stf ?_ | (refine stb ?_; intro _))
      refine G.roundRet inferInstance (Φ' := [fPure (common a.writes b.reads = true)]) (M'' := [(b4, Ob [.bool true] 4)]) (.inr ⟨rfl, .ret, ([fPure (common a.writes b.reads = true)], [(b4, Ob [.bool true] 4)]), ⟨rfl, rfl⟩, rfl⟩) ⟨fun I hp φ hφ => by
        rcases List.mem_cons.1 hφ with rfl | h
        · exact common_of_yield hk
        · cases h⟩ (by first | exact List.Sublist.refl _ | exact (List.nil_sublist _).cons_cons _)
    · intro D
      dsimp only [List.cons_append, List.nil_append]
      refine G.use (p := ((commonL (setK a.writes) (setK b.reads)).map fun k => [k.v]).length = 0) (fun I hp => hp (fPure _) (by simp)) ?_
      intro hn1
      have hk1 : common a.writes b.reads = false := common_of_none hn1
      repeat (first | refine stp ?_ | (refine sti ?_; intro _) | refine stf ?_ | (refine stb ?_; intro _))
      refine G.roundM ?_
      repeat (first | refine stp ?_ | (refine sti ?_; intro _) | refine stf ?_ | (refine stb ?_; intro _))
      refine o_idxO rfl rfl rfl rfl (by omega) (by omega) (o' := 4) (by omega) ?_
      repeat (first | refine stp ?_ | (refine sti ?_; intro _) | refine stf ?_ | (refine stb ?_; intro _))
      refine OpK.call rfl rfl rfl rfl (shared_spec _ _ _ _ _ _) inferInstance (Mr := _) (List.Perm.refl _) ?_
      rintro u2 Φ2 Mc2 ⟨p2, q2, rfl, rfl, rfl⟩
      dsimp only [List.cons_append, List.nil_append]
      repeat (first | refine stp ?_ | (refine sti ?_; intro _) | refine stf ?_ | (refine stb ?_; intro _))
      refine W.rangeFunc (enc := (commonL (setK a.reads) (setK b.writes)).map fun k => [k.v]) (ps := [33]) (Φi := [fBlk p2 [(.slice a1 a.reads.length c1)] 37, fBlk q2 [(.slice a4 b.writes.length c4)] 37, fRp (.slice a1 a.reads.length c1) a.reads, fRp (.slice a4 b.writes.length c4) b.writes])
        (fun k => ([fPure (k = 0)], [(b4, Ob [.bool false] 4)]))
        (fun c t => c = .ret ∧ t = ([fPure (common a.reads b.writes = true)], [(b4, Ob [.bool true] 4)])) rfl (shared1_spec p2 q2 (.slice a1 a.reads.length c1) (.slice a4 b.writes.length c4) a.reads b.writes (by omega) (by omega)) (by decide) (by simp) inferInstance ⟨fun I hp φ hφ => by
          rcases List.mem_cons.1 hφ with rfl | hφ
          · exact rfl
          · cases hφ⟩ (show MDel _ b4 (Ob [.bool false] 4) _ from inferInstance).h ?_ ?_ ?_
      · intro l rec I0' w0' k hk
        dsimp only
        rw [List.getElem_map]
        repeat (first | refine stp ?_ | (refine sti ?_; intro _) | refine stf ?_ | (refine stb ?_; intro _))
        refine G.begin (by rfl) ?_
        repeat (first | refine stp ?_ | (refine sti ?_; intro _) | refine stf ?_ | (refine stb ?_; intro _))
        refine G.roundRet inferInstance (Φ' := [fPure (common a.reads b.writes = true)]) (M'' := [(b4, Ob [.bool true] 4)]) (.inr ⟨rfl, .ret, ([fPure (common a.reads b.writes = true)], [(b4, Ob [.bool true] 4)]), ⟨rfl, rfl⟩, rfl⟩) ⟨fun I hp φ hφ => by
          rcases List.mem_cons.1 hφ with rfl | h
          · exact common_of_yield hk
          · cases h⟩ (by first | exact List.Sublist.refl _ | exact (List.nil_sublist _).cons_cons _)
      · intro D
        dsimp only [List.cons_append, List.nil_append]
        refine G.use (p := ((commonL (setK a.reads) (setK b.writes)).map fun k => [k.v]).length = 0) (fun I hp => hp (fPure _) (by simp)) ?_
        intro hn2
        have hk2 : common a.reads b.writes = false := common_of_none hn2
        repeat (first | refine stp ?_ | (refine sti ?_; intro _) | refine stf ?_ | (refine stb ?_; intro _))
        refine G.roundM ?_
        repeat (first | refine stp ?_ | (refine sti ?_; intro _) | refine stf ?_ | (refine stb ?_; intro _))
        refine G.unmark inferInstance ?_
        refine G.unmark inferInstance ?_
        refine G.unmark inferInstance ?_
        refine G.ret rfl (.cons (.cell1 rfl) .nil) (Φ' := []) (M' := []) inferInstance (List.nil_sublist _) ⟨?_, rfl, rfl⟩
        rw [← clash_law, hk0, hk1, hk2]; rfl
      · rintro D c t ⟨rfl, rfl⟩
        dsimp only [List.cons_append, List.nil_append]
        repeat (first | refine stp ?_ | (refine sti ?_; intro _) | refine stf ?_ | (refine stb ?_; intro _))
        refine G.unmark inferInstance ?_
        refine G.unmark inferInstance ?_
        refine G.unmark inferInstance ?_
        refine G.use (p := common a.reads b.writes = true) (fun I hp => hp (fPure _) (by simp)) ?_
        intro hg
        refine G.ret rfl (.cons (.cell1 rfl) .nil) (Φ' := []) (M' := []) inferInstance (List.nil_sublist _) ⟨?_, rfl, rfl⟩
        rw [← clash_law, hk0, hk1, hg]; rfl
    · rintro D c t ⟨rfl, rfl⟩
      dsimp only [List.cons_append, List.nil_append]
      repeat (first | refine stp ?_ | (refine sti ?_; intro _) | refine stf ?_ | (refine stb ?_; intro _))
      refine G.unmark inferInstance ?_
      refine G.unmark inferInstance ?_
      refine G.use (p := common a.writes b.reads = true) (fun I hp => hp (fPure _) (by simp)) ?_
      intro hg
      refine G.ret rfl (.cons (.cell1 rfl) .nil) (Φ' := []) (M' := []) inferInstance (List.nil_sublist _) ⟨?_, rfl, rfl⟩
      rw [← clash_law, hk0, hg]; rfl
  · rintro D c t ⟨rfl, rfl⟩
    dsimp only [List.cons_append, List.nil_append]
    repeat (first | refine stp ?_ | (refine sti ?_; intro _) | refine stf ?_ | (refine stb ?_; intro _))
    refine G.unmark inferInstance ?_
    refine G.use (p := common a.writes b.writes = true) (fun I hp => hp (fPure _) (by simp)) ?_
    intro hg
    refine G.ret rfl (.cons (.cell1 rfl) .nil) (Φ' := []) (M' := []) inferInstance (List.nil_sublist _) ⟨?_, rfl, rfl⟩
    rw [← clash_law, hg]; rfl
end Go.Rail
namespace Go.Rail
open Go Go.Proofs
set_option linter.unusedSimpArgs false
set_option linter.unusedVariables false
set_option maxHeartbeats 400000
set_option maxRecDepth 4000
attribute [local irreducible] OpK G W LW wpListIn Exit.then Exit.inBlock Post rounds opRun bodyPostM intOp
attribute [local irreducible] lexN cmpW cmpA cmpK cmpI makeS setK clashS rightS
theorem litK {Φ : List Fa} {k : Key} : ∀ I, (∀ ψ ∈ Φ, ψ.p I) → Rp I k.v k := fun _ _ => ⟨_, rfl, rfl⟩
end Go.Rail
namespace Go.Rail
open Go Go.Proofs
set_option linter.unusedSimpArgs false
set_option linter.unusedVariables false
set_option maxHeartbeats 400000
set_option maxRecDepth 4000
attribute [local irreducible] OpK G W LW wpListIn Exit.then Exit.inBlock Post rounds opRun bodyPostM intOp
attribute [local irreducible] lexN cmpW cmpA cmpK cmpI makeS setK commonL common clashS rightS rowG restG edgesG clG
theorem may1_spec (v : Value) (s : Sets) (h1 : s.reads.length ≤ 1000000 ∧ s.writes.length ≤ 1000000) : FnV Tryz.prog 70 [v] [fRp v s] (.bool (!rightS s)) := by
  refine Fn.enter Tryz.func70 rfl Tryz.ntmps70 (by simp) (fun I0 w0 => ?_)
  refine W.bare (G.sets v s ?_)
  intro r w hv
  refine G.slice r s.reads ?_
  intro a c x z
  refine G.slice w s.writes ?_
  intro b d y z'
  subst x y
  subst hv
  repeat (first | refine stp ?_ | (refine sti ?_; intro _) | refine stf ?_ | (refine stb ?_; intro _))
  refine o_callV rfl rfl rfl rfl (arightS_spec _ s h1) rfl ?_
  repeat (first | refine stp ?_ | (refine sti ?_; intro _) | refine stf ?_ | (refine stb ?_; intro _))
  refine G.ret rfl (.cons (.tmp rfl) .nil) (Φ' := []) (M' := []) inferInstance (List.nil_sublist _) ⟨?_, rfl, rfl⟩
  rfl
theorem idxMay_spec (v : Value) (xs : List Sets) (hx : xs.length ≤ 1000000) (hs : ∀ s ∈ xs, s.reads.length ≤ 1000000 ∧ s.writes.length ≤ 1000000) : FnV Tryz.prog 80 [v, .func (.func 70) #[] #[]] [fRp v xs] (.int .i64 (idxG (fun s => !rightS s) xs)) := by
  refine Fn.enter Tryz.func80 rfl Tryz.ntmps80 (by simp) (fun I0 w0 => ?_)
  repeat (first | refine stp ?_ | (refine sti ?_; intro _) | refine stf ?_ | (refine stb ?_; intro _))
  refine W.loopI (fun (i : Nat) => ([fRp v xs], [(0, v), (1, _), (7, .int .i64 xs.length), (8, .int .i64 i)], [])) (fun i => i ≤ xs.length ∧ ∀ k ∈ xs.take i, (!rightS k) = false) (fun i => xs.length - i) 0 ⟨by omega, by simp⟩ inferInstance (look_sub_cons rfl (look_sub_cons rfl (look_sub_cons rfl (look_sub_cons rfl look_sub_nil)))) (List.Sublist.refl _) ?_
  intro i ⟨hi, hm⟩
  dsimp only
  by_cases hi0 : i = xs.length
  · subst hi0
    rw [List.take_length] at hm
    repeat (first | refine stp ?_ | (refine sti ?_; intro _) | refine stf ?_ | (refine stb ?_; intro _))
    refine G.ret rfl (.cons (.tmp rfl) .nil) (Φ' := []) (M' := []) inferInstance (List.nil_sublist _) ⟨?_, rfl, rfl⟩
    rw [idxG_none hm]; rfl
  · have hi1 : i < xs.length := by omega
    repeat (first | refine stp ?_ | (refine sti ?_; intro _) | refine stf ?_ | (refine stb ?_; intro _))
    refine o_loadR rfl rfl rfl rfl ?_
    intro vP
    have hsm := hs xs[i] (List.getElem_mem hi1)
    repeat (first | refine stp ?_ | (refine sti ?_; intro _) | refine stf ?_ | (refine stb ?_; intro _))
    cases hk : rightS xs[i] with
    | true =>
      refine o_callV rfl rfl rfl rfl (may1_spec vP xs[i] hsm) (congrArg (fun b => Value.bool !b) hk) ?_
      repeat (first | refine stp ?_ | (refine sti ?_; intro _) | refine stf ?_ | (refine stb ?_; intro _))
      refine G.again (i + 1) (by omega) ⟨by omega, fun k hk' => ((mem_take_succ hi1).1 hk').elim (hm k) (fun e => by rw [← e, hk]; rfl)⟩ inferInstance (look_sub_cons rfl (look_sub_cons rfl (look_sub_cons rfl (look_sub_cons rfl look_sub_nil)))) (List.Sublist.refl _)
    | false =>
      refine o_callV rfl rfl rfl rfl (may1_spec vP xs[i] hsm) (congrArg (fun b => Value.bool !b) hk) ?_
      repeat (first | refine stp ?_ | (refine sti ?_; intro _) | refine stf ?_ | (refine stb ?_; intro _))
      refine G.ret rfl (.cons (.tmp rfl) .nil) (Φ' := []) (M' := []) inferInstance (List.nil_sublist _) ⟨?_, rfl, rfl⟩
      rw [idxG_at hi1 hm (by rw [hk]; rfl)]; rfl
theorem anyMay_spec (v : Value) (xs : List Sets) (hx : xs.length ≤ 1000000) (hs : ∀ s ∈ xs, s.reads.length ≤ 1000000 ∧ s.writes.length ≤ 1000000) : FnV Tryz.prog 69 [v, .func (.func 70) #[] #[]] [fRp v xs] (.bool (xs.any fun s => !rightS s)) := by
  refine Fn.enter Tryz.func69 rfl Tryz.ntmps69 (by simp) (fun I0 w0 => ?_)
  repeat (first | refine stp ?_ | (refine sti ?_; intro _) | refine stf ?_ | (refine stb ?_; intro _))
  refine o_callV rfl rfl rfl rfl (idxMay_spec v xs hx hs) rfl ?_
  repeat (first | refine stp ?_ | (refine sti ?_; intro _) | refine stf ?_ | (refine stb ?_; intro _))
  refine G.ret rfl (.cons (.tmp rfl) .nil) (Φ' := []) (M' := []) inferInstance (List.nil_sublist _) ⟨?_, rfl, rfl⟩
  rw [← idxG_nn]; rfl
theorem mayG_spec (v : Value) (xs : List Sets) (hx : xs.length ≤ 1000000) (hs : ∀ s ∈ xs, s.reads.length ≤ 1000000 ∧ s.writes.length ≤ 1000000) : FnV Tryz.prog 56 [v] [fRp v xs] (.bool (mayG xs)) := by
  refine Fn.enter Tryz.func56 rfl Tryz.ntmps56 (by simp) (fun I0 w0 => ?_)
  have e : (xs.any fun s => !rightS s) = !(xs.all rightS) := by
    rw [List.all_eq_not_any_not, Bool.not_not]
  by_cases h : xs.length ≤ 64
  · repeat (first | refine stp ?_ | (refine sti ?_; intro _) | refine stf ?_ | (refine stb ?_; intro _))
    refine o_callV rfl rfl rfl rfl (anyMay_spec v xs hx hs) (congrArg Value.bool e) ?_
    repeat (first | refine stp ?_ | (refine sti ?_; intro _) | refine stf ?_ | (refine stb ?_; intro _))
    refine G.ret rfl (.cons (.tmp rfl) .nil) (Φ' := []) (M' := []) inferInstance (List.nil_sublist _) ⟨?_, rfl, rfl⟩
    simp [tup, mayG, h]
  · repeat (first | refine stp ?_ | (refine sti ?_; intro _) | refine stf ?_ | (refine stb ?_; intro _))
    refine G.ret rfl (.cons (.tmp rfl) .nil) (Φ' := []) (M' := []) inferInstance (List.nil_sublist _) ⟨?_, rfl, rfl⟩
    simp [tup, mayG, h]
end Go.Rail
