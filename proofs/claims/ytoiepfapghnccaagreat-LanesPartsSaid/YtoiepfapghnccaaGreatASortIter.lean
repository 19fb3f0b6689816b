/- Keys sorted, each but once. -/
import Derived.Test.YtoiepfapghnccaaGreatASetCpt
import Derived.Test.YtoiepfapghnccaaGreatRailB
import Derived.Test.YtoiepfapghnccaaGreatRailS
import Derived.Test.YtoiepfapghnccaaGreatASort0
import Derived.Test.YtoiepfapghnccaaGreatRailC
namespace Go.Rail
open Go Go.Proofs
set_option linter.unusedSimpArgs false
set_option linter.unusedVariables false
set_option maxHeartbeats 400000
set_option maxRecDepth 4000
attribute [local irreducible] OpK G W LW wpListIn Exit.then Exit.inBlock Post rounds opRun bodyPostM intOp
attribute [local irreducible] lexN cmpW cmpA cmpK cmpI
theorem sort_spec (v : Value) (xs : List Key) (o : OR) (hx : xs.length ≤ 1000000) (ho : IsOwn 25 v xs.length o) : Fn Tryz.prog 110 [v, .func (.func 85) #[] #[]] [fRow (ocells o) xs] (ownM 58 o) (RIn 58 v (xs.mergeSort leKB)) :=
  Fn.sort Tryz.sortL Tryz.isAgg58 Tryz.sizeOf58 aorder_spec v xs o hx ho
theorem set2_spec (v : Value) (xs : List Key) (hx : xs.length ≤ 1000000) : Fn Tryz.prog 101 [v, .func (.func 85) #[] #[]] [fRp v xs] [] (ROwn 58 (setK xs)) := by
  refine Fn.enter Tryz.func101 rfl Tryz.ntmps101 (by simp) (fun I0 w0 => ?_)
  repeat (first | refine stp ?_ | (refine sti ?_; intro _) | refine stf ?_ | (refine stb ?_; intro _))
  refine o_callO rfl rfl rfl rfl (cloneK_spec v xs hx) ?_
  intro v1 o1 h1
  repeat (first | refine stp ?_ | (refine sti ?_; intro _) | refine stf ?_ | (refine stb ?_; intro _))
  refine o_callI (α := Key) (Mr := []) o1 rfl rfl rfl rfl (sort_spec v1 xs o1 hx h1) (List.Perm.refl _) ?_
  intro u o2 h2
  repeat (first | refine stp ?_ | (refine sti ?_; intro _) | refine stf ?_ | (refine stb ?_; intro _))
  refine o_callOO (α := Key) (β := Key) (Mr := []) o2 rfl rfl rfl rfl (compact_spec v1 (xs.mergeSort leKB) o2 (by rw [List.length_mergeSort]; exact hx) h2) (List.Perm.refl _) ?_
  intro v3 o3 h3
  rw [set_law] at h3 ⊢
  repeat (first | refine stp ?_ | (refine sti ?_; intro _) | refine stf ?_ | (refine stb ?_; intro _))
  exact G.ret rfl (.cons (.tmp rfl) .nil) (Φ' := [fRow (ocells o3) (setK xs)]) (M' := ownM 58 o3) inferInstance (List.Sublist.refl _) ⟨o3, h3, rfl, rfl⟩
end Go.Rail
namespace Go.Rail
open Go Go.Proofs
set_option linter.unusedSimpArgs false
set_option linter.unusedVariables false
set_option maxHeartbeats 400000
set_option maxRecDepth 4000
attribute [local irreducible] OpK G W LW wpListIn Exit.then Exit.inBlock Post rounds opRun bodyPostM intOp
attribute [local irreducible] lexN cmpW cmpA cmpK cmpI
theorem values1_spec (b c : Nat) (cs : List Value) (h1 : cs.length ≤ 1000000) : IterS Tryz.prog 104 [.pointer (some ⟨b, 0, none⟩)] (cs.map fun v => [v]) [fBlk b [.slice (some ⟨c, 0, none⟩) cs.length cs.length] 115, fBlk c cs 37] := by
  intro l T Z hy
  have hy' : ∀ k (h : k < cs.length), FnY Tryz.prog l [cs[k]] (T k).1 (T k).2 (YR (T (k + 1)) Z) := fun k h => by
    have := hy k (by simpa using h)
    simpa using this
  rw [List.length_map]
  show Fn _ _ _ (fBlk b [.slice (some ⟨c, 0, none⟩) cs.length cs.length] 115 :: fBlk c cs 37 :: (T 0).1) _ _
  refine Fn.enter Tryz.func104 rfl Tryz.ntmps104 (by simp) (fun I0 w0 => ?_)
  repeat (first | refine stp ?_ | (refine sti ?_; intro _) | refine stf ?_ | (refine stb ?_; intro _))
  refine W.loopI (fun (i : Nat) => (fBlk b [.slice (some ⟨c, 0, none⟩) cs.length cs.length] 115 :: fBlk c cs 37 :: (T i).1, [(0, .func (.yield l) #[] #[]), (5, .slice (some ⟨c, 0, none⟩) cs.length cs.length), (6, .int .i64 cs.length), (7, .int .i64 i)], (T i).2)) (fun i => i ≤ cs.length) (fun i => cs.length - i) 0 (by omega) ⟨fun I hp => hp⟩ (look_sub_cons rfl (look_sub_cons rfl (look_sub_cons rfl (look_sub_cons rfl look_sub_nil)))) (List.Sublist.refl _) ?_
  intro i hi
  dsimp only
  by_cases hi0 : i = cs.length
  · subst hi0
    repeat (first | refine stp ?_ | (refine sti ?_; intro _) | refine stf ?_ | (refine stb ?_; intro _))
    exact G.fin rfl .nil (Φ' := (T cs.length).1) (M' := (T cs.length).2) ⟨fun I hp φ hφ => hp φ (.tail _ (.tail _ hφ))⟩ (List.Sublist.refl _) (.inl ⟨rfl, rfl⟩)
  · have hi1 : i < cs.length := by omega
    repeat (first | refine stp ?_ | (refine sti ?_; intro _) | refine stf ?_ | (refine stb ?_; intro _))
    refine o_idxO rfl rfl rfl rfl (by omega) (by omega) (o' := i) (by omega) ?_
    refine G.cons ?_
    refine o_load1 rfl rfl rfl (List.getElem?_eq_getElem hi1) ?_
    repeat (first | refine stp ?_ | (refine sti ?_; intro _) | refine stf ?_ | (refine stb ?_; intro _))
    refine o_yield (Mr := []) rfl rfl rfl rfl (hy' i hi1) (fun I hp φ hφ => hp φ (.tail _ (.tail _ hφ))) (by simp) ?_ ?_
    · repeat (first | refine stp ?_ | (refine sti ?_; intro _) | refine stf ?_ | (refine stb ?_; intro _))
      refine G.again (i + 1) (by omega) (by omega) ⟨fun I hp φ hφ => ?_⟩ (look_sub_cons rfl (look_sub_cons rfl (look_sub_cons rfl (look_sub_cons rfl look_sub_nil)))) (by simp)
      rcases List.mem_cons.1 hφ with rfl | hφ
      · exact hp _ (List.mem_append_right _ (.head _))
      · rcases List.mem_cons.1 hφ with rfl | hφ
        · exact hp _ (List.mem_append_right _ (.tail _ (.head _)))
        · exact hp _ (List.mem_append_left _ hφ)
    · intro s hs
      repeat (first | refine stp ?_ | (refine sti ?_; intro _) | refine stf ?_ | (refine stb ?_; intro _))
      exact G.ret rfl .nil (Φ' := s.1) (M' := s.2) ⟨fun I hp φ hφ => hp φ (List.mem_append_left _ hφ)⟩ (by simp) (.inr hs)

/-- What ranges over two lists, as the program makes it. -/
def ItOf (r w : Value) : Value → List Fa → Own → Prop := fun u Φ' M' => ∃ b c, u = .func (.func 104) #[] #[.pointer (some ⟨b, 0, none⟩)] ∧ Φ' = [fBlk b [.slice (some ⟨c, 0, none⟩) 2 2] 115, fBlk c [r, w] 37] ∧ M' = []
theorem values_spec (c n cap : Nat) : Fn Tryz.prog 93 [.slice (some ⟨c, 0, none⟩) n cap] [] [] (fun u Φ' M' => ∃ b, u = .func (.func 104) #[] #[.pointer (some ⟨b, 0, none⟩)] ∧ Φ' = [fBlk b [.slice (some ⟨c, 0, none⟩) n cap] 115] ∧ M' = []) := by
  refine Fn.enter Tryz.func93 rfl Tryz.ntmps93 (by simp) (fun I0 w0 => ?_)
  repeat (first | refine stp ?_ | (refine sti ?_; intro _) | refine stf ?_ | (refine stb ?_; intro _))
  rename_i b
  refine o_func rfl rfl rfl rfl ?_
  repeat (first | refine stp ?_ | (refine sti ?_; intro _) | refine stf ?_ | (refine stb ?_; intro _))
  refine G.give b (cs := [.slice (some ⟨c, 0, none⟩) n cap]) (t := 115) ?_
  exact G.ret rfl (.cons (.tmp rfl) .nil) (Φ' := [fBlk b [.slice (some ⟨c, 0, none⟩) n cap] 115]) (M' := []) inferInstance (List.nil_sublist _) ⟨b, rfl, rfl, rfl⟩
theorem sets2_spec (r w : Value) (rs ws : List Key) : Fn Tryz.prog 81 [.agg #[r, w]] [fRp r rs, fRp w ws] [] (ItOf r w) := by
  refine Fn.enter Tryz.func81 rfl Tryz.ntmps81 (by simp) (fun I0 w0 => ?_)
  refine W.bare (G.slice r rs ?_)
  intro a1 c1 hr _
  refine G.slice w ws ?_
  intro a2 c2 hw _
  subst hr hw
  repeat (first | refine stp ?_ | (refine sti ?_; intro _) | refine stf ?_ | (refine stb ?_; intro _))
  refine o_litB (xs := [rs, ws]) ⟨by decide, rfl, by decide⟩ rfl rfl rfl ?_ rfl ?_
  · exact ⟨fun I hp => hp (fRp _ rs) (.head _), fun I hp => hp (fRp _ ws) (.tail _ (.head _)), trivial⟩
  intro c
  repeat (first | refine stp ?_ | (refine sti ?_; intro _) | refine stf ?_ | (refine stb ?_; intro _))
  show OpK _ _ _ _ (fBlk c [.slice a1 rs.length c1, .slice a2 ws.length c2] 37 :: _) _ _ _
  refine OpK.call rfl rfl rfl rfl (values_spec c 2 2) inferInstance (Mr := _) (List.Perm.refl _) ?_
  rintro u Φ' Mc' ⟨b, rfl, rfl, rfl⟩
  show G _ (fBlk b [.slice (some ⟨c, 0, none⟩) 2 2] 115 :: fBlk c [.slice a1 rs.length c1, .slice a2 ws.length c2] 37 :: _) _ _ _
  repeat (first | refine stp ?_ | (refine sti ?_; intro _) | refine stf ?_ | (refine stb ?_; intro _))
  exact G.ret rfl (.cons (.tmp rfl) .nil) (Φ' := [fBlk b [.slice (some ⟨c, 0, none⟩) 2 2] 115, fBlk c [.slice a1 rs.length c1, .slice a2 ws.length c2] 37]) (M' := []) inferInstance (List.nil_sublist _) ⟨b, c, rfl, rfl, rfl⟩

theorem arightS_spec (v : Value) (s : Sets) (h1 : s.reads.length ≤ 1000000 ∧ s.writes.length ≤ 1000000) : FnV Tryz.prog 71 [v] [fRp v s] (.bool (rightS s)) := by
  refine Fn.enter Tryz.func71 rfl Tryz.ntmps71 (by simp) (fun I0 w0 => ?_)
  refine W.bare (G.sets v s ?_)
  intro r w hv
  subst hv
  repeat (first | refine stp ?_ | (refine sti ?_; intro _) | refine stf ?_ | (refine stb ?_; intro _))
  refine OpK.call rfl rfl rfl rfl (sets2_spec r w s.reads s.writes) inferInstance (Mr := _) (List.Perm.refl _) ?_
  rintro u Φ' Mc' ⟨b, c, rfl, rfl, rfl⟩
  rename_i b1 b2
  show G _ [fBlk b [.slice (some ⟨c, 0, none⟩) 2 2] 115, fBlk c [r, w] 37, fRp r s.reads, fRp w s.writes, fRp (.agg #[r, w]) s] _ [(b2, Ob [.bool false] 4), (b1, Ob [r, w] 39)] _
  repeat (first | refine stp ?_ | (refine sti ?_; intro _) | refine stf ?_ | (refine stb ?_; intro _))
  refine W.rangeFunc (enc := [[r], [w]]) (ps := [6]) (Φi := [fBlk b [.slice (some ⟨c, 0, none⟩) 2 2] 115, fBlk c [r, w] 37]) (Mr := [(b1, Ob [r, w] 39)])
    (fun k => ([fPure ((0 < k → rightB s.reads = true) ∧ (1 < k → rightB s.writes = true)), fRp r s.reads, fRp w s.writes], [(b2, Ob [.bool false] 4)]))
    (fun c t => c = .ret ∧ t = ([fPure (rightS s = false)], [(b2, Ob [.bool false] 4)])) rfl (values1_spec b c [r, w] (by simp)) (by decide) (by simp) inferInstance ?_ (List.Perm.refl _) ?_ ?_ ?_
  · exact ⟨fun I hp φ hφ => by
      rcases List.mem_cons.1 hφ with rfl | hφ
      · exact ⟨fun h => absurd h (by omega), fun h => absurd h (by omega)⟩
      · simp only [List.mem_cons, List.not_mem_nil, or_false] at hφ
        rcases hφ with rfl | rfl
        · exact hp _ (by simp)
        · exact hp _ (by simp)⟩
  · intro l rec I0' w0' k hk
    have hk2 : k = 0 ∨ k = 1 := by simp at hk; omega
    rcases hk2 with rfl | rfl
    · have hbad : ¬ (rightB s.reads = true) → rightS s = false := fun h => by
        rw [Bool.not_eq_true] at h; rw [rightS, h]; simp
      dsimp only
      repeat (first | refine stp ?_ | (refine sti ?_; intro _) | refine stf ?_ | (refine stb ?_; intro _))
      refine G.begin (by rfl) ?_
      by_cases h200 : 200 < s.reads.length
      · repeat (first | refine stp ?_ | (refine sti ?_; intro _) | refine stf ?_ | (refine stb ?_; intro _))
        refine G.roundRet inferInstance (Φ' := [fPure (rightS s = false)]) (M'' := [(b2, Ob [.bool false] 4)]) (.inr ⟨rfl, .ret, ([fPure (rightS s = false)], [(b2, Ob [.bool false] 4)]), ⟨rfl, rfl⟩, rfl⟩) ?_ (by first | exact List.Sublist.refl _ | exact (List.nil_sublist _).cons_cons _)
        exact ⟨fun I hp φ hφ => by
          rcases List.mem_cons.1 hφ with rfl | h
          · exact hbad (fun h => absurd ((right_law s.reads).1 h).1 (by omega))
          · cases h⟩
      · cases hodd : s.reads.any fun k => !mayK k with
        | true =>
          repeat (first | refine stp ?_ | (refine sti ?_; intro _) | refine stf ?_ | (refine stb ?_; intro _))
          refine o_callV rfl rfl rfl rfl (anyOdd_spec r s.reads (by omega)) (congrArg Value.bool hodd) ?_
          repeat (first | refine stp ?_ | (refine sti ?_; intro _) | refine stf ?_ | (refine stb ?_; intro _))
          refine G.roundRet inferInstance (Φ' := [fPure (rightS s = false)]) (M'' := [(b2, Ob [.bool false] 4)]) (.inr ⟨rfl, .ret, ([fPure (rightS s = false)], [(b2, Ob [.bool false] 4)]), ⟨rfl, rfl⟩, rfl⟩) ?_ (by first | exact List.Sublist.refl _ | exact (List.nil_sublist _).cons_cons _)
          exact ⟨fun I hp φ hφ => by
            rcases List.mem_cons.1 hφ with rfl | h
            · refine hbad (fun h => ?_)
              have h1 := ((right_law s.reads).1 h).2.1
              obtain ⟨k, hk, hko⟩ := List.any_eq_true.1 hodd
              rw [h1 k hk] at hko; cases hko
            · cases h⟩
        | false =>
          cases hsrt : sortedB s.reads with
          | false =>
            repeat (first | refine stp ?_ | (refine sti ?_; intro _) | refine stf ?_ | (refine stb ?_; intro _))
            refine o_callV rfl rfl rfl rfl (anyOdd_spec r s.reads (by omega)) (congrArg Value.bool hodd) ?_
            repeat (first | refine stp ?_ | (refine sti ?_; intro _) | refine stf ?_ | (refine stb ?_; intro _))
            refine o_callV rfl rfl rfl rfl (sorted_spec r s.reads (by omega)) (congrArg Value.bool hsrt) ?_
            repeat (first | refine stp ?_ | (refine sti ?_; intro _) | refine stf ?_ | (refine stb ?_; intro _))
            refine G.roundRet inferInstance (Φ' := [fPure (rightS s = false)]) (M'' := [(b2, Ob [.bool false] 4)]) (.inr ⟨rfl, .ret, ([fPure (rightS s = false)], [(b2, Ob [.bool false] 4)]), ⟨rfl, rfl⟩, rfl⟩) ?_ (by first | exact List.Sublist.refl _ | exact (List.nil_sublist _).cons_cons _)
            exact ⟨fun I hp φ hφ => by
              rcases List.mem_cons.1 hφ with rfl | h
              · refine hbad (fun h => ?_)
                have h1 := ((right_law s.reads).1 h).2.2.1
                rw [sortedB, decide_eq_false_iff_not] at hsrt
                exact hsrt h1
              · cases h⟩
          | true =>
            repeat (first | refine stp ?_ | (refine sti ?_; intro _) | refine stf ?_ | (refine stb ?_; intro _))
            refine o_callV rfl rfl rfl rfl (anyOdd_spec r s.reads (by omega)) (congrArg Value.bool hodd) ?_
            repeat (first | refine stp ?_ | (refine sti ?_; intro _) | refine stf ?_ | (refine stb ?_; intro _))
            refine o_callV rfl rfl rfl rfl (sorted_spec r s.reads (by omega)) (congrArg Value.bool hsrt) ?_
            repeat (first | refine stp ?_ | (refine sti ?_; intro _) | refine stf ?_ | (refine stb ?_; intro _))
            refine o_callO rfl rfl rfl rfl (cloneK_spec r s.reads (by omega)) ?_
            intro v1 o1 h1
            repeat (first | refine stp ?_ | (refine sti ?_; intro _) | refine stf ?_ | (refine stb ?_; intro _))
            refine o_callOO (α := Key) (β := Key) (Mr := [_, _]) o1 rfl rfl rfl rfl (compact_spec v1 s.reads o1 (by omega) h1) (List.Perm.refl _) ?_
            intro v3 o3 h3
            dsimp only [List.cons_append, List.nil_append]
            refine G.cons ?_
            refine o_lenO o3 h3 rfl rfl rfl ?_
            by_cases hlen : (compactK s.reads).length = s.reads.length
            · repeat (first | refine stp ?_ | (refine sti ?_; intro _) | refine stf ?_ | (refine stb ?_; intro _))
              refine G.roundEnd inferInstance (Φ' := [fPure ((0 < 0 + 1 → rightB s.reads = true) ∧ (1 < 0 + 1 → rightB s.writes = true)), fRp r s.reads, fRp w s.writes]) (M'' := [(b2, Ob [.bool false] 4)]) (.inl ⟨rfl, rfl, rfl⟩) ?_ (by first | exact List.Sublist.refl _ | exact (List.nil_sublist _).cons_cons _)
              have hgood : rightB s.reads = true := (right_law s.reads).2 ⟨by omega, fun k hk => by
                rw [List.any_eq_false] at hodd
                simpa using hodd k hk, (by rwa [sortedB, decide_eq_true_iff] at hsrt), hlen⟩
              exact ⟨fun I hp φ hφ => by
                rcases List.mem_cons.1 hφ with rfl | hφ
                · have h5 := hp (fPure ((0 < 0 → rightB s.reads = true) ∧ (1 < 0 → rightB s.writes = true))) (by simp)
                  exact ⟨fun _ => hgood, fun h => absurd h (by omega)⟩
                · rcases List.mem_cons.1 hφ with rfl | hφ
                  · exact hp _ (by simp)
                  · rcases List.mem_cons.1 hφ with rfl | hφ
                    · exact hp _ (by simp)
                    · cases hφ⟩
            · repeat (first | refine stp ?_ | (refine sti ?_; intro _) | refine stf ?_ | (refine stb ?_; intro _))
              refine G.roundRet inferInstance (Φ' := [fPure (rightS s = false)]) (M'' := [(b2, Ob [.bool false] 4)]) (.inr ⟨rfl, .ret, ([fPure (rightS s = false)], [(b2, Ob [.bool false] 4)]), ⟨rfl, rfl⟩, rfl⟩) ?_ (by first | exact List.Sublist.refl _ | exact (List.nil_sublist _).cons_cons _)
              exact ⟨fun I hp φ hφ => by
                rcases List.mem_cons.1 hφ with rfl | h
                · exact hbad (fun h => hlen ((right_law s.reads).1 h).2.2.2)
                · cases h⟩
    · have hbad : ¬ (rightB s.writes = true) → rightS s = false := fun h => by
        rw [Bool.not_eq_true] at h; rw [rightS, h]; simp
      dsimp only
      repeat (first | refine stp ?_ | (refine sti ?_; intro _) | refine stf ?_ | (refine stb ?_; intro _))
      refine G.begin (by rfl) ?_
      by_cases h200 : 200 < s.writes.length
      · repeat (first | refine stp ?_ | (refine sti ?_; intro _) | refine stf ?_ | (refine stb ?_; intro _))
        refine G.roundRet inferInstance (Φ' := [fPure (rightS s = false)]) (M'' := [(b2, Ob [.bool false] 4)]) (.inr ⟨rfl, .ret, ([fPure (rightS s = false)], [(b2, Ob [.bool false] 4)]), ⟨rfl, rfl⟩, rfl⟩) ?_ (by first | exact List.Sublist.refl _ | exact (List.nil_sublist _).cons_cons _)
        exact ⟨fun I hp φ hφ => by
          rcases List.mem_cons.1 hφ with rfl | h
          · exact hbad (fun h => absurd ((right_law s.writes).1 h).1 (by omega))
          · cases h⟩
      · cases hodd : s.writes.any fun k => !mayK k with
        | true =>
          repeat (first | refine stp ?_ | (refine sti ?_; intro _) | refine stf ?_ | (refine stb ?_; intro _))
          refine o_callV rfl rfl rfl rfl (anyOdd_spec w s.writes (by omega)) (congrArg Value.bool hodd) ?_
          repeat (first | refine stp ?_ | (refine sti ?_; intro _) | refine stf ?_ | (refine stb ?_; intro _))
          refine G.roundRet inferInstance (Φ' := [fPure (rightS s = false)]) (M'' := [(b2, Ob [.bool false] 4)]) (.inr ⟨rfl, .ret, ([fPure (rightS s = false)], [(b2, Ob [.bool false] 4)]), ⟨rfl, rfl⟩, rfl⟩) ?_ (by first | exact List.Sublist.refl _ | exact (List.nil_sublist _).cons_cons _)
          exact ⟨fun I hp φ hφ => by
            rcases List.mem_cons.1 hφ with rfl | h
            · refine hbad (fun h => ?_)
              have h1 := ((right_law s.writes).1 h).2.1
              obtain ⟨k, hk, hko⟩ := List.any_eq_true.1 hodd
              rw [h1 k hk] at hko; cases hko
            · cases h⟩
        | false =>
          cases hsrt : sortedB s.writes with
          | false =>
            repeat (first | refine stp ?_ | (refine sti ?_; intro _) | refine stf ?_ | (refine stb ?_; intro _))
            refine o_callV rfl rfl rfl rfl (anyOdd_spec w s.writes (by omega)) (congrArg Value.bool hodd) ?_
            repeat (first | refine stp ?_ | (refine sti ?_; intro _) | refine stf ?_ | (refine stb ?_; intro _))
            refine o_callV rfl rfl rfl rfl (sorted_spec w s.writes (by omega)) (congrArg Value.bool hsrt) ?_
            repeat (first | refine stp ?_ | (refine sti ?_; intro _) | refine stf ?_ | (refine stb ?_; intro _))
            refine G.roundRet inferInstance (Φ' := [fPure (rightS s = false)]) (M'' := [(b2, Ob [.bool false] 4)]) (.inr ⟨rfl, .ret, ([fPure (rightS s = false)], [(b2, Ob [.bool false] 4)]), ⟨rfl, rfl⟩, rfl⟩) ?_ (by first | exact List.Sublist.refl _ | exact (List.nil_sublist _).cons_cons _)
            exact ⟨fun I hp φ hφ => by
              rcases List.mem_cons.1 hφ with rfl | h
              · refine hbad (fun h => ?_)
                have h1 := ((right_law s.writes).1 h).2.2.1
                rw [sortedB, decide_eq_false_iff_not] at hsrt
                exact hsrt h1
              · cases h⟩
          | true =>
            repeat (first | refine stp ?_ | (refine sti ?_; intro _) | refine stf ?_ | (refine stb ?_; intro _))
            refine o_callV rfl rfl rfl rfl (anyOdd_spec w s.writes (by omega)) (congrArg Value.bool hodd) ?_
            repeat (first | refine stp ?_ | (refine sti ?_; intro _) | refine stf ?_ | (refine stb ?_; intro _))
            refine o_callV rfl rfl rfl rfl (sorted_spec w s.writes (by omega)) (congrArg Value.bool hsrt) ?_
            repeat (first | refine stp ?_ | (refine sti ?_; intro _) | refine stf ?_ | (refine stb ?_; intro _))
            refine o_callO rfl rfl rfl rfl (cloneK_spec w s.writes (by omega)) ?_
            intro v1 o1 h1
            repeat (first | refine stp ?_ | (refine sti ?_; intro _) | refine stf ?_ | (refine stb ?_; intro _))
            refine o_callOO (α := Key) (β := Key) (Mr := [_, _]) o1 rfl rfl rfl rfl (compact_spec v1 s.writes o1 (by omega) h1) (List.Perm.refl _) ?_
            intro v3 o3 h3
            dsimp only [List.cons_append, List.nil_append]
            refine G.cons ?_
            refine o_lenO o3 h3 rfl rfl rfl ?_
            by_cases hlen : (compactK s.writes).length = s.writes.length
            · repeat (first | refine stp ?_ | (refine sti ?_; intro _) | refine stf ?_ | (refine stb ?_; intro _))
              refine G.roundEnd inferInstance (Φ' := [fPure ((0 < 1 + 1 → rightB s.reads = true) ∧ (1 < 1 + 1 → rightB s.writes = true)), fRp r s.reads, fRp w s.writes]) (M'' := [(b2, Ob [.bool false] 4)]) (.inl ⟨rfl, rfl, rfl⟩) ?_ (by first | exact List.Sublist.refl _ | exact (List.nil_sublist _).cons_cons _)
              have hgood : rightB s.writes = true := (right_law s.writes).2 ⟨by omega, fun k hk => by
                rw [List.any_eq_false] at hodd
                simpa using hodd k hk, (by rwa [sortedB, decide_eq_true_iff] at hsrt), hlen⟩
              exact ⟨fun I hp φ hφ => by
                rcases List.mem_cons.1 hφ with rfl | hφ
                · have h5 := hp (fPure ((0 < 1 → rightB s.reads = true) ∧ (1 < 1 → rightB s.writes = true))) (by simp)
                  exact ⟨fun _ => h5.1 (by omega), fun _ => hgood⟩
                · rcases List.mem_cons.1 hφ with rfl | hφ
                  · exact hp _ (by simp)
                  · rcases List.mem_cons.1 hφ with rfl | hφ
                    · exact hp _ (by simp)
                    · cases hφ⟩
            · repeat (first | refine stp ?_ | (refine sti ?_; intro _) | refine stf ?_ | (refine stb ?_; intro _))
              refine G.roundRet inferInstance (Φ' := [fPure (rightS s = false)]) (M'' := [(b2, Ob [.bool false] 4)]) (.inr ⟨rfl, .ret, ([fPure (rightS s = false)], [(b2, Ob [.bool false] 4)]), ⟨rfl, rfl⟩, rfl⟩) ?_ (by first | exact List.Sublist.refl _ | exact (List.nil_sublist _).cons_cons _)
              exact ⟨fun I hp φ hφ => by
                rcases List.mem_cons.1 hφ with rfl | h
                · exact hbad (fun h => hlen ((right_law s.writes).1 h).2.2.2)
                · cases h⟩
  · intro D
    dsimp only [List.cons_append, List.nil_append]
    repeat (first | refine stp ?_ | (refine sti ?_; intro _) | refine stf ?_ | (refine stb ?_; intro _))
    refine G.unmark inferInstance ?_
    refine G.use (p := (0 < 2 → rightB s.reads = true) ∧ (1 < 2 → rightB s.writes = true)) (fun I hp => hp (fPure _) (by simp)) ?_
    intro hg
    refine G.ret rfl (.cons (.cell1 rfl) .nil) (Φ' := []) (M' := []) inferInstance (List.nil_sublist _) ⟨?_, rfl, rfl⟩
    rw [rightS, hg.1 (by omega), hg.2 (by omega)]; rfl
  · rintro D c t ⟨rfl, rfl⟩
    dsimp only [List.cons_append, List.nil_append]
    repeat (first | refine stp ?_ | (refine sti ?_; intro _) | refine stf ?_ | (refine stb ?_; intro _))
    refine G.unmark inferInstance ?_
    refine G.use (p := rightS s = false) (fun I hp => hp (fPure _) (by simp)) ?_
    intro hg
    refine G.ret rfl (.cons (.cell1 rfl) .nil) (Φ' := []) (M' := []) inferInstance (List.nil_sublist _) ⟨?_, rfl, rfl⟩
    rw [hg]; rfl
end Go.Rail
