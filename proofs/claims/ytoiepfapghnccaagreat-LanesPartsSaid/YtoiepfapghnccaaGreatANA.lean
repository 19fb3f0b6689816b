/- The first calls of layer 20. -/
import Derived.Test.YtoiepfapghnccaaGreatAN9
import Derived.Test.YtoiepfapghnccaaGreatAM8
import Derived.Test.YtoiepfapghnccaaGreatRailE
namespace Go.Rail
open Go Go.Proofs
set_option linter.unusedSimpArgs false
set_option linter.unusedVariables false
set_option maxHeartbeats 400000
set_option maxRecDepth 4000
attribute [local irreducible] OpK G W LW wpListIn Exit.then Exit.inBlock Post rounds opRun bodyPostM intOp
attribute [local irreducible] lexN cmpW cmpA cmpK cmpI makeS setK clashS rightS errG edgesR errR readyR ordG badM mayG edgesG edgesI clG rightL donesL heldL shapeL idxG idleR fillLot pickL noP newL runL cntL errRun isR errL measureL idlesL errN pickR sameLot
theorem fit_of {l : Lot} (h : rightL l = true) (hs : ∀ s ∈ l.sets, fit6 s) : FitL l := by
  have r := rightL_iff.1 h
  have h64 := may_len r.may
  have hd := right_done_len r
  have h1 := r.sl
  have h2 := r.sb
  have h3 := r.a2
  exact ⟨hs, by omega, by omega, by omega, by omega, by omega⟩
theorem nS_fit : ∀ s ∈ nS, fit6 s := by
  intro s hs
  simp only [nS, List.mem_cons, List.not_mem_nil, or_false] at hs
  rcases hs with rfl | rfl <;> exact ⟨by decide, by decide⟩
theorem nA_fit : FitL nA := fit_of na4 nS_fit
theorem nB_fit : FitL nB := fit_of na12 nS_fit
theorem nC_fit : FitL nC := fit_of na17 nS_fit
theorem n0_fit : FitL ⟨[], [], [], [], []⟩ := by
  refine ⟨?_, by decide, by decide, by decide, by decide, by decide⟩
  intro s hs
  cases hs
set_option maxHeartbeats 4000000 in
theorem nawake_spec : FnV Tryz.prog 7 [] [] (.bool true) := by
  have h1 := fun u w => Fn.givenLot (new_spec u w nS [1, 2] 2 (by decide) nS_fit (by decide))
  rw [na2, na3] at h1
  have h2 := fun w => measure_spec w nA nA_fit
  rw [na5, na6] at h2
  have h3 := fun w => (idles_spec w nA nA_fit).givenT
  rw [na6, na7] at h3
  have h4 := fun w => ppick_spec w nA nA_fit 1
  rw [na8, na6, na9] at h4
  have h5 := fun w => ppick_spec w nA nA_fit 0
  rw [na10, na6, na11] at h5
  have h6 := fun w w' => run_spec w w' nB [0, 1, 0, 0] nB_fit (by decide)
  rw [na13, na14, na15] at h6
  have h7 := fun u w => Fn.givenLot (new_spec u w [gA] [0] 2 (by decide) (fun s hs => by
    simp only [List.mem_cons, List.not_mem_nil, or_false] at hs
    subst hs; exact ⟨by decide, by decide⟩) (by decide))
  rw [na16] at h7
  have h8 := fun w w' => rsame20_spec w w' nA nA nA_fit nA_fit
  rw [sameLot_self] at h8
  have h9 := fun w => lright_spec w nC nC_fit
  rw [na17] at h9
  have h10 := fun w => lright_spec w ⟨[], [], [], [], []⟩ n0_fit
  rw [na18] at h10
  generalize newL [gA] [0] 2 = lZ at h7
  refine Fn.enter Tryz.func7 rfl Tryz.ntmps7 (by simp) (fun I0 w0 => ?_)
  repeat (first | refine stp ?_ | (refine sti ?_; intro _) | refine stf ?_ | (refine stb ?_; intro _))
  show OpK _ _ _ _ _ ((20, lK.v) :: _) _ _
  refine o_lit (xs := [lK]) ⟨by decide, rfl, by decide⟩ rfl rfl rfl ⟨litK, trivial⟩ rfl ?_
  intro lv1
  refine G.slice lv1 [lK] ?_
  intro a1 c1 x1 _
  subst x1
  repeat (first | refine stp ?_ | (refine sti ?_; intro _) | refine stf ?_ | (refine stb ?_; intro _))
  refine o_lit (xs := nS) ⟨by decide, rfl, by decide⟩ rfl rfl rfl ⟨fun I hp => Rp.mkSets (s := gA) (Rp.nil none 0) (Ent'.h (φ := fRp (.slice a1 [lK].length c1) [lK]) I hp), fun I hp => Rp.mkSets (s := gA) (Rp.nil none 0) (Ent'.h (φ := fRp (.slice a1 [lK].length c1) [lK]) I hp), trivial⟩ rfl ?_
  intro v3
  repeat (first | refine stp ?_ | (refine sti ?_; intro _) | refine stf ?_ | (refine stb ?_; intro _))
  refine o_lit (xs := [(1 : Int), 2]) ⟨by decide, rfl, by decide⟩ rfl rfl rfl ⟨fun _ _ => Rp.flat.2 rfl, fun _ _ => Rp.flat.2 rfl, trivial⟩ rfl ?_
  intro v4
  repeat (first | refine stp ?_ | (refine sti ?_; intro _) | refine stf ?_ | (refine stb ?_; intro _))
  refine OpK.call rfl rfl rfl rfl (h1 _ _) inferInstance (Mr := _) (List.Perm.refl _) ?_
  rintro u Φ' Mc' ⟨vA, rfl, rfl, rfl⟩
  dsimp only [List.cons_append, List.nil_append]
  refine G.lot vA nA ?_
  intro p1 pc1 p2 pc2 p3 pc3 p4 pc4 p5 pc5 e
  subst e
  repeat (first | refine stp ?_ | (refine sti ?_; intro _) | refine stf ?_ | (refine stb ?_; intro _))
  refine o_callV rfl rfl rfl rfl (h2 _) rfl ?_
  repeat (first | refine stp ?_ | (refine sti ?_; intro _) | refine stf ?_ | (refine stb ?_; intro _))
  refine o_callT (mk := tupE 0) (ψ := fun sv => fRp sv [(1 : Int)]) rfl rfl rfl rfl (h3 _) ?_
  intro vI
  unfold tupE
  repeat (first | refine stp ?_ | (refine sti ?_; intro _) | refine stf ?_ | (refine stb ?_; intro _))
  refine OpK.call rfl rfl rfl rfl (h4 _) inferInstance (Mr := _) (List.Perm.refl _) ?_
  rintro u Φ' Mc' ⟨vN, rfl, rfl, rfl⟩
  dsimp only [List.cons_append, List.nil_append]
  refine G.lot vN nA ?_
  intro q1 qc1 q2 qc2 q3 qc3 q4 qc4 q5 qc5 e
  subst e
  repeat (first | refine stp ?_ | (refine sti ?_; intro _) | refine stf ?_ | (refine stb ?_; intro _))
  refine OpK.call rfl rfl rfl rfl (h5 _) inferInstance (Mr := _) (List.Perm.refl _) ?_
  rintro u Φ' Mc' ⟨vO, rfl, rfl, rfl⟩
  dsimp only [List.cons_append, List.nil_append]
  refine G.lot vO nB ?_
  intro r1 rc1 r2 rc2 r3 rc3 r4 rc4 r5 rc5 e
  subst e
  repeat (first | refine stp ?_ | (refine sti ?_; intro _) | refine stf ?_ | (refine stb ?_; intro _))
  refine o_lit (xs := [(0 : Int), 1, 0, 0]) ⟨by decide, rfl, by decide⟩ rfl rfl rfl ⟨fun _ _ => Rp.flat.2 rfl, fun _ _ => Rp.flat.2 rfl, fun _ _ => Rp.flat.2 rfl, fun _ _ => Rp.flat.2 rfl, trivial⟩ rfl ?_
  intro v5
  repeat (first | refine stp ?_ | (refine sti ?_; intro _) | refine stf ?_ | (refine stb ?_; intro _))
  refine OpK.call rfl rfl rfl rfl (h6 _ _) inferInstance (Mr := _) (List.Perm.refl _) ?_
  rintro u Φ' Mc' ⟨vP, rfl, rfl, rfl⟩
  dsimp only [List.cons_append, List.nil_append]
  refine G.lot vP nC ?_
  intro s1 sc1 s2 sc2 s3 sc3 s4 sc4 s5 sc5 e
  subst e
  repeat (first | refine stp ?_ | (refine sti ?_; intro _) | refine stf ?_ | (refine stb ?_; intro _))
  refine o_lit (xs := [gA]) ⟨by decide, rfl, by decide⟩ rfl rfl rfl ⟨fun I hp => Rp.mkSets (s := gA) (Rp.nil none 0) (Ent'.h (φ := fRp (.slice a1 [lK].length c1) [lK]) I hp), trivial⟩ rfl ?_
  intro v6
  repeat (first | refine stp ?_ | (refine sti ?_; intro _) | refine stf ?_ | (refine stb ?_; intro _))
  refine o_lit (xs := [(0 : Int)]) ⟨by decide, rfl, by decide⟩ rfl rfl rfl ⟨fun _ _ => Rp.flat.2 rfl, trivial⟩ rfl ?_
  intro v7
  repeat (first | refine stp ?_ | (refine sti ?_; intro _) | refine stf ?_ | (refine stb ?_; intro _))
  refine OpK.call rfl rfl rfl rfl (h7 _ _) inferInstance (Mr := _) (List.Perm.refl _) ?_
  rintro u Φ' Mc' ⟨vZ, rfl, rfl, rfl⟩
  dsimp only [List.cons_append, List.nil_append]
  refine G.lot vZ lZ ?_
  intro t1 tc1 t2 tc2 t3 tc3 t4 tc4 t5 tc5 e
  subst e
  repeat (first | refine stp ?_ | (refine sti ?_; intro _) | refine stf ?_ | (refine stb ?_; intro _))
  refine o_lit (xs := [(1 : Int)]) ⟨by decide, rfl, by decide⟩ rfl rfl rfl ⟨fun _ _ => Rp.flat.2 rfl, trivial⟩ rfl ?_
  intro v8
  repeat (first | refine stp ?_ | (refine sti ?_; intro _) | refine stf ?_ | (refine stb ?_; intro _))
  refine o_callV rfl rfl rfl rfl (intsEq_spec vI v8 [(1 : Int)] [(1 : Int)] (by decide) (by decide)) (v' := .bool true) rfl ?_
  repeat (first | refine stp ?_ | (refine sti ?_; intro _) | refine stf ?_ | (refine stb ?_; intro _))
  refine o_callV rfl rfl rfl rfl (h8 _ _) rfl ?_
  repeat (first | refine stp ?_ | (refine sti ?_; intro _) | refine stf ?_ | (refine stb ?_; intro _))
  refine o_lit (xs := [(1 : Int), -1]) ⟨by decide, rfl, by decide⟩ rfl rfl rfl ⟨fun _ _ => Rp.flat.2 rfl, fun _ _ => Rp.flat.2 rfl, trivial⟩ rfl ?_
  intro v9
  repeat (first | refine stp ?_ | (refine sti ?_; intro _) | refine stf ?_ | (refine stb ?_; intro _))
  refine o_callV rfl rfl rfl rfl (intsEq_spec (.slice r3 nB.at_.length rc3) v9 nB.at_ [(1 : Int), -1] (by decide) (by decide)) (v' := .bool true) rfl ?_
  repeat (first | refine stp ?_ | (refine sti ?_; intro _) | refine stf ?_ | (refine stb ?_; intro _))
  refine o_lit (xs := [(0 : Int)]) ⟨by decide, rfl, by decide⟩ rfl rfl rfl ⟨fun _ _ => Rp.flat.2 rfl, trivial⟩ rfl ?_
  intro v10
  repeat (first | refine stp ?_ | (refine sti ?_; intro _) | refine stf ?_ | (refine stb ?_; intro _))
  refine o_callV rfl rfl rfl rfl (intsEq_spec (.slice r5 nB.done.length rc5) v10 nB.done [(0 : Int)] (by decide) (by decide)) (v' := .bool true) rfl ?_
  repeat (first | refine stp ?_ | (refine sti ?_; intro _) | refine stf ?_ | (refine stb ?_; intro _))
  refine o_lit (xs := [(0 : Int), 1]) ⟨by decide, rfl, by decide⟩ rfl rfl rfl ⟨fun _ _ => Rp.flat.2 rfl, fun _ _ => Rp.flat.2 rfl, trivial⟩ rfl ?_
  intro v11
  repeat (first | refine stp ?_ | (refine sti ?_; intro _) | refine stf ?_ | (refine stb ?_; intro _))
  refine o_callV rfl rfl rfl rfl (intsEq_spec (.slice s5 nC.done.length sc5) v11 nC.done [(0 : Int), 1] (by decide) (by decide)) (v' := .bool true) rfl ?_
  repeat (first | refine stp ?_ | (refine sti ?_; intro _) | refine stf ?_ | (refine stb ?_; intro _))
  refine o_callV rfl rfl rfl rfl (h9 _) rfl ?_
  repeat (first | refine stp ?_ | (refine sti ?_; intro _) | refine stf ?_ | (refine stb ?_; intro _))
  refine o_callV rfl rfl rfl rfl (h10 _) rfl ?_
  repeat (first | refine stp ?_ | (refine sti ?_; intro _) | refine stf ?_ | (refine stb ?_; intro _))
  refine G.ret rfl (.cons (.tmp rfl) .nil) (Φ' := []) (M' := []) inferInstance (List.nil_sublist _) ⟨?_, rfl, rfl⟩
  rfl
end Go.Rail
