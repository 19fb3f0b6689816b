/- What goes through those in one another's way. -/
import Derived.Test.YtoiepfapghnccaaAClashGMay
import Derived.Test.YtoiepfapghnccaaRailD
import Derived.Test.YtoiepfapghnccaaAEqAcc
namespace Go.Rail
open Go Go.Proofs
set_option linter.unusedSimpArgs false
set_option linter.unusedVariables false
set_option maxHeartbeats 400000
set_option maxRecDepth 4000
attribute [local irreducible] OpK G W LW wpListIn Exit.then Exit.inBlock Post rounds opRun bodyPostM intOp
attribute [local irreducible] lexN cmpW cmpA cmpK cmpI setK commonL common clashS rightS rowG restG edgesG clG
def encP (p : Nat × Nat) : List Value := [.int .i64 (p.1 : Nat), .int .i64 (p.2 : Nat)]
structure PrSt where
  i : Nat
  c : Nat
  st : St
theorem pairs1_spec (b : Nat) (a : Option Addr) (cap : Nat) (xs : List Sets) (hx : xs.length ≤ 1000000) (hs : ∀ s ∈ xs, s.reads.length ≤ 1000000 ∧ s.writes.length ≤ 1000000) : IterR Try.prog 109 [.pointer (some ⟨b, 0, none⟩)] ((edgesG xs).map encP) [fBlk b [.slice a xs.length cap] 45, fRp (.slice a xs.length cap) xs] := by
  intro l T Z hyl s0 hs0
  have hy' : ∀ k (h : k < (edgesG xs).length) s, T k s → FnY Try.prog l (encP (edgesG xs)[k]) s.1 s.2 (YRr (T (k + 1)) Z) := fun k h s hs => by
    have := hyl k (by simpa using h) s hs
    simpa using this
  rw [List.length_map]
  generalize hE : edgesG xs = E at hy'
  have hE0 : E = restG xs 0 := by rw [← hE]; with_unfolding_all rfl
  show Fn _ _ _ (fBlk b [.slice a xs.length cap] 45 :: fRp (.slice a xs.length cap) xs :: s0.1) _ _
  refine Fn.enter Try.func109 rfl Try.ntmps109 (by simp) (fun I0 w0 => ?_)
  repeat (first | refine stp ?_ | (refine sti ?_; intro _) | refine stf ?_ | (refine stb ?_; intro _))
  refine W.loopI (fun (s : PrSt) => (fBlk b [.slice a xs.length cap] 45 :: fRp (.slice a xs.length cap) xs :: s.st.1, [(0, .func (.yield l) #[] #[]), (1, .pointer (some ⟨b, 0, none⟩)), (7, .slice a xs.length cap), (8, .int .i64 xs.length), (9, .int .i64 s.i)], s.st.2)) (fun s => s.i ≤ xs.length ∧ s.c ≤ E.length ∧ E.drop s.c = restG xs s.i ∧ T s.c s.st) (fun s => xs.length - s.i) ⟨0, 0, s0⟩ ⟨Nat.zero_le _, Nat.zero_le _, hE0, hs0⟩ ⟨fun I hp => hp⟩ (look_sub_cons rfl (look_sub_cons rfl (look_sub_cons rfl (look_sub_cons rfl (look_sub_cons rfl look_sub_nil))))) (List.Sublist.refl _) ?_
  rintro ⟨i, c, st⟩ ⟨hi, hc, hd, hst⟩
  dsimp only at hi hc hd hst ⊢
  by_cases hi0 : i = xs.length
  · have e1 : c = E.length := by
      rw [restG_end (by omega)] at hd
      have := List.drop_eq_nil_iff.1 hd; omega
    repeat (first | refine stp ?_ | (refine sti ?_; intro _) | refine stf ?_ | (refine stb ?_; intro _))
    exact G.fin rfl .nil (Φ' := st.1) (M' := st.2) ⟨fun I hp φ hφ => hp φ (.tail _ (.tail _ hφ))⟩ (List.Sublist.refl _) (.inl (by rw [← e1]; exact hst))
  · have hi1 : i < xs.length := by omega
    have hsA := hs xs[i] (List.getElem_mem hi1)
    repeat (first | refine stp ?_ | (refine sti ?_; intro _) | refine stf ?_ | (refine stb ?_; intro _))
    refine o_loadR rfl rfl rfl rfl ?_
    intro vA
    refine G.sets vA xs[i] ?_
    intro r1 w1 e1
    refine G.slice r1 xs[i].reads ?_
    intro a1 c1 x1 zx1
    refine G.slice w1 xs[i].writes ?_
    intro b1 d1 y1 zy1
    subst x1 y1
    subst e1
    repeat (first | refine stp ?_ | (refine sti ?_; intro _) | refine stf ?_ | (refine stb ?_; intro _))
    rename_i b4
    refine o_slice (xs := xs) (i + 1) xs.length rfl rfl rfl ⟨_, _, rfl, by simp⟩ rfl (by omega) (Nat.le_refl _) ?_
    intro v17
    rw [List.take_length]
    have hld : (xs.drop (i + 1)).length = xs.length - (i + 1) := by simp
    repeat (first | refine stp ?_ | (refine sti ?_; intro _) | refine stf ?_ | (refine stb ?_; intro _))
    generalize hA : xs[i] = A at hsA
    refine W.loopI (fun (s : PrSt) => (fBlk b [.slice a xs.length cap] 45 :: fRp (.slice a xs.length cap) xs :: fRp v17 (xs.drop (i + 1)) :: fRp (.agg #[.slice a1 A.reads.length c1, .slice b1 A.writes.length d1]) A :: s.st.1, [(0, .func (.yield l) #[] #[]), (1, .pointer (some ⟨b, 0, none⟩)), (7, .slice a xs.length cap), (8, .int .i64 xs.length), (9, .int .i64 i), (3, .int .i64 i), (4, .pointer (some ⟨b4, 0, none⟩)), (17, v17), (18, .int .i64 (xs.drop (i + 1)).length), (19, .int .i64 s.i)], (b4, Ob [.slice a1 A.reads.length c1, .slice b1 A.writes.length d1] 24) :: s.st.2)) (fun s => s.i ≤ xs.length - (i + 1) ∧ s.c ≤ E.length ∧ E.drop s.c = rowG xs i (i + 1 + s.i) ++ restG xs (i + 1) ∧ T s.c s.st) (fun s => xs.length - s.i) ⟨0, c, st⟩ ⟨Nat.zero_le _, hc, by dsimp only; rw [hd, restG_step hi1, Nat.add_zero], hst⟩ ⟨fun I hp φ hφ => ?_⟩ (look_sub_cons rfl (look_sub_cons rfl (look_sub_cons rfl (look_sub_cons rfl (look_sub_cons rfl (look_sub_cons rfl (look_sub_cons rfl (look_sub_cons rfl (look_sub_cons rfl (look_sub_cons rfl look_sub_nil)))))))))) (List.Sublist.refl _) ?_
    · rcases List.mem_cons.1 hφ with rfl | hφ
      · exact hp _ (by simp)
      · rcases List.mem_cons.1 hφ with rfl | hφ
        · exact hp _ (by simp)
        · rcases List.mem_cons.1 hφ with rfl | hφ
          · exact hp _ (by simp)
          · rcases List.mem_cons.1 hφ with rfl | hφ
            · exact hp _ (by simp)
            · exact hp _ (by simp [hφ])
    rintro ⟨j, c', st'⟩ ⟨hj, hc', hd', hst'⟩
    dsimp only at hj hc' hd' hst' ⊢
    by_cases hj0 : j = xs.length - (i + 1)
    · have hd2 : E.drop c' = restG xs (i + 1) := by rw [hd', rowG_end (by omega)]; rfl
      repeat (first | refine stp ?_ | (refine sti ?_; intro _) | refine stf ?_ | (refine stb ?_; intro _))
      refine G.again (S := PrSt) ⟨i + 1, c', st'⟩ (by dsimp only; omega) ⟨by dsimp only; omega, hc', hd2, hst'⟩ ⟨fun I hp φ hφ => ?_⟩ (look_sub_cons rfl (look_sub_cons rfl (look_sub_cons rfl (look_sub_cons rfl (look_sub_cons rfl look_sub_nil))))) (by first | exact List.Sublist.refl _ | exact .cons _ (List.Sublist.refl _))
      rcases List.mem_cons.1 hφ with rfl | hφ
      · exact hp _ (by simp)
      · rcases List.mem_cons.1 hφ with rfl | hφ
        · exact hp _ (by simp)
        · exact hp _ (by simp [hφ])
    · have hj1 : j < (xs.drop (i + 1)).length := by omega
      have hk1 : i + 1 + j < xs.length := by omega
      have hxb : (xs.drop (i + 1))[j] = xs[i + 1 + j] := by simp
      have hsB := hs xs[i + 1 + j] (List.getElem_mem hk1)
      repeat (first | refine stp ?_ | (refine sti ?_; intro _) | refine stf ?_ | (refine stb ?_; intro _))
      refine o_loadR rfl rfl rfl rfl ?_
      intro vB
      rw [hxb]
      have hcl := clG_eq hi1 hk1
      rw [hA] at hcl
      generalize xs[i + 1 + j] = B at hsB hcl ⊢
      refine G.sets vB B ?_
      intro r2 w2 e2
      refine G.slice r2 B.reads ?_
      intro a2 c2 x2 zx2
      refine G.slice w2 B.writes ?_
      intro b2 d2 y2 zy2
      subst x2 y2
      subst e2
      repeat (first | refine stp ?_ | (refine sti ?_; intro _) | refine stf ?_ | (refine stb ?_; intro _))
      rename_i b6
      cases hcb : clashS A B with
      | false =>
        refine o_callV rfl rfl rfl rfl (aclash_spec (.agg #[.slice a1 A.reads.length c1, .slice b1 A.writes.length d1]) (.agg #[.slice a2 B.reads.length c2, .slice b2 B.writes.length d2]) A B hsA hsB) (congrArg Value.bool hcb) ?_
        repeat (first | refine stp ?_ | (refine sti ?_; intro _) | refine stf ?_ | (refine stb ?_; intro _))
        have hr : rowG xs i (i + 1 + j) = rowG xs i (i + 1 + (j + 1)) := by rw [rowG_step hk1, hcl, hcb]; rfl
        exact G.again (S := PrSt) ⟨j + 1, c', st'⟩ (by dsimp only; omega) ⟨by dsimp only; omega, hc', by rw [hd', hr], hst'⟩ ⟨fun I hp φ hφ => by
          rcases List.mem_cons.1 hφ with rfl | hφ
          · exact hp _ (by simp)
          · rcases List.mem_cons.1 hφ with rfl | hφ
            · exact hp _ (by simp)
            · rcases List.mem_cons.1 hφ with rfl | hφ
              · exact hp _ (by simp)
              · rcases List.mem_cons.1 hφ with rfl | hφ
                · exact hp _ (by simp)
                · exact hp _ (by simp [hφ])⟩ (look_sub_cons rfl (look_sub_cons rfl (look_sub_cons rfl (look_sub_cons rfl (look_sub_cons rfl (look_sub_cons rfl (look_sub_cons rfl (look_sub_cons rfl (look_sub_cons rfl (look_sub_cons rfl look_sub_nil)))))))))) (.cons _ (List.Sublist.refl _))
      | true =>
        refine o_callV rfl rfl rfl rfl (aclash_spec (.agg #[.slice a1 A.reads.length c1, .slice b1 A.writes.length d1]) (.agg #[.slice a2 B.reads.length c2, .slice b2 B.writes.length d2]) A B hsA hsB) (congrArg Value.bool hcb) ?_
        repeat (first | refine stp ?_ | (refine sti ?_; intro _) | refine stf ?_ | (refine stb ?_; intro _))
        have hr : E.drop c' = (i, i + 1 + j) :: (rowG xs i (i + 1 + (j + 1)) ++ restG xs (i + 1)) := by rw [hd', rowG_step hk1, hcl, hcb]; rfl
        have hcE : c' < E.length := by
          apply Classical.byContradiction
          intro hn
          rw [List.drop_eq_nil_of_le (by omega)] at hr
          cases hr
        rw [List.drop_eq_getElem_cons hcE] at hr
        obtain ⟨h7, h8⟩ := List.cons.inj hr
        have hyk := hy' c' hcE st' hst'
        rw [h7] at hyk
        have hyk' : FnY Try.prog l [.int .i64 (i : Int), .int .i64 ((i : Int) + 1 + (j : Int))] st'.1 st'.2 (YRr (T (c' + 1)) Z) := by simpa [encP] using hyk
        refine o_yieldR (Mr := [_, _]) rfl rfl rfl rfl hyk' (fun I hp φ hφ => hp φ (by simp [hφ])) (List.perm_append_comm (l₁ := [_, _])) ?_ ?_
        · intro st2 hst2
          refine G.perm ?_ List.perm_append_comm
          dsimp only [List.cons_append, List.nil_append]
          repeat (first | refine stp ?_ | (refine sti ?_; intro _) | refine stf ?_ | (refine stb ?_; intro _))
          exact G.again (S := PrSt) ⟨j + 1, c' + 1, st2⟩ (by dsimp only; omega) ⟨by dsimp only; omega, by dsimp only; omega, h8, hst2⟩ ⟨fun I hp φ hφ => by
          rcases List.mem_cons.1 hφ with rfl | hφ
          · exact hp _ (by simp)
          · rcases List.mem_cons.1 hφ with rfl | hφ
            · exact hp _ (by simp)
            · rcases List.mem_cons.1 hφ with rfl | hφ
              · exact hp _ (by simp)
              · rcases List.mem_cons.1 hφ with rfl | hφ
                · exact hp _ (by simp)
                · exact hp _ (by simp [hφ])⟩ (look_sub_cons rfl (look_sub_cons rfl (look_sub_cons rfl (look_sub_cons rfl (look_sub_cons rfl (look_sub_cons rfl (look_sub_cons rfl (look_sub_cons rfl (look_sub_cons rfl (look_sub_cons rfl look_sub_nil)))))))))) (.cons _ (List.Sublist.refl _))
        · intro s hz
          repeat (first | refine stp ?_ | (refine sti ?_; intro _) | refine stf ?_ | (refine stb ?_; intro _))
          exact G.ret rfl .nil (Φ' := s.1) (M' := s.2) ⟨fun I hp φ hφ => hp φ (by simp [hφ])⟩ (by simp) (.inr hz)
theorem pairs_spec (a : Option Addr) (n cap : Nat) : Fn Try.prog 77 [.slice a n cap] [] [] (fun u Φ' M' => ∃ b, u = .func (.func 109) #[] #[.pointer (some ⟨b, 0, none⟩)] ∧ Φ' = [fBlk b [.slice a n cap] 45] ∧ M' = []) := by
  refine Fn.enter Try.func77 rfl Try.ntmps77 (by simp) (fun I0 w0 => ?_)
  repeat (first | refine stp ?_ | (refine sti ?_; intro _) | refine stf ?_ | (refine stb ?_; intro _))
  rename_i b
  refine o_func rfl rfl rfl rfl ?_
  repeat (first | refine stp ?_ | (refine sti ?_; intro _) | refine stf ?_ | (refine stb ?_; intro _))
  refine G.give b (cs := [.slice a n cap]) (t := 45) ?_
  exact G.ret rfl (.cons (.tmp rfl) .nil) (Φ' := [fBlk b [.slice a n cap] 45]) (M' := []) inferInstance (List.nil_sublist _) ⟨b, rfl, rfl, rfl⟩
end Go.Rail
namespace Go.Rail
open Go Go.Proofs
set_option linter.unusedSimpArgs false
set_option linter.unusedVariables false
set_option maxHeartbeats 400000
set_option maxRecDepth 4000
attribute [local irreducible] OpK G W LW wpListIn Exit.then Exit.inBlock Post rounds opRun bodyPostM intOp
attribute [local irreducible] lexN cmpW cmpA cmpK setK commonL common clashS rightS rowG restG edgesG clG
theorem eq_pair (d : Nat) (a b p q : Int) (w : World) : (Op.equalIn (d + 2) 52 (.agg #[.int .i64 a, .int .i64 b]) (.agg #[.int .i64 p, .int .i64 q])).run Try.prog w = .ok (decide (a = p ∧ b = q)) w := by
  obtain ⟨i, hi⟩ := info_some (P := Try.prog) (t := 3) (by kernel_rfl)
  have h := run_equalIn_ints (P := Try.prog) (d := d) (k := .i64) Try.underlying52 Try.underlying3 hi (by kernel_rfl) Try.isAgg3 [a, b] [p, q] rfl rfl w
  have e2 : decide ([a, b] = [p, q]) = decide (a = p ∧ b = q) := decide_eq_decide.2 (by simp)
  rw [← e2]; exact h
instance (a b p q : Int) : EqOn Try.prog 52 (.agg #[.int .i64 a, .int .i64 b]) (.agg #[.int .i64 p, .int .i64 q]) (decide (a = p ∧ b = q)) where
  eq := fun w => by
    have h : (Op.equalIn 10000 52 (.agg #[.int .i64 a, .int .i64 b]) (.agg #[.int .i64 p, .int .i64 q])).run Try.prog w = _ := eq_pair 9998 a b p q w
    rw [run_eql_struct, h]; simp only [Result.andThen_ok]
  ne := fun w => by
    have h : (Op.equalIn 10000 52 (.agg #[.int .i64 a, .int .i64 b]) (.agg #[.int .i64 p, .int .i64 q])).run Try.prog w = _ := eq_pair 9998 a b p q w
    rw [run_neq_struct, h]; simp only [Result.andThen_ok]
  guard := fun op p q w => run_eqGuard_agg _ _ _ _ _ _ _ (by kernel_rfl)
def fit6 (s : Sets) : Prop := s.reads.length ≤ 1000000 ∧ s.writes.length ≤ 1000000
theorem intsEq_spec (u v : Value) (xs ys : List Int) (hx : xs.length ≤ 1000000) (hy : ys.length ≤ 1000000) : FnV Try.prog 42 [u, v] [fRp u xs, fRp v ys] (.bool (decide (xs = ys))) := by
  refine Fn.enter Try.func42 rfl Try.ntmps42 (by simp) (fun I0 w0 => ?_)
  by_cases hl : xs.length = ys.length
  · repeat (first | refine stp ?_ | (refine sti ?_; intro _) | refine stf ?_ | (refine stb ?_; intro _))
    refine W.loopI (fun (i : Nat) => ([fRp u xs, fRp v ys], [(0, u), (1, v), (5, .int .i64 i)], [])) (fun i => i ≤ xs.length ∧ xs.take i = ys.take i) (fun i => xs.length - i) 0 ⟨by omega, by simp⟩ inferInstance (look_sub_cons rfl (look_sub_cons rfl (look_sub_cons rfl look_sub_nil))) (List.Sublist.refl _) ?_
    intro i ⟨hi, hm⟩
    dsimp only
    by_cases hi0 : i = xs.length
    · subst hi0
      rw [List.take_length, hl, List.take_length] at hm
      repeat (first | refine stp ?_ | (refine sti ?_; intro _) | refine stf ?_ | (refine stb ?_; intro _))
      refine G.ret rfl (.cons (.tmp rfl) .nil) (Φ' := []) (M' := []) inferInstance (List.nil_sublist _) ⟨?_, rfl, rfl⟩
      simp [tup, hm]
    · have hi1 : i < xs.length := by omega
      have hi2 : i < ys.length := by omega
      by_cases he : xs[i] = ys[i]
      · repeat (first | refine stp ?_ | (refine sti ?_; intro _) | refine stf ?_ | (refine stb ?_; intro _))
        refine W.draw 9 [⟨?v0_3, fun _ z => []⟩, ⟨?v1_3, fun _ z => []⟩, ⟨fun _ z => z, fun _ z => [fPt z xs[i]]⟩, ⟨?v3_3, fun _ z => []⟩, ⟨?v4_3, fun _ z => []⟩, ⟨?v5_3, fun _ z => []⟩, ⟨fun _ z => z, fun _ z => [fPt z ys[i]]⟩, ⟨?v7_3, fun _ z => []⟩, ⟨?v8_3, fun _ z => []⟩] [[], [], [0, 1], [2], [], [], [4, 5], [6], [3, 7]] [8] (by kernel_rfl) (by kernel_rfl) (by kernel_rfl) (by kernel_rfl) ?loc_3 ?ops_3 ?rest_3
        case ops_3 =>
          simp only [AllQ, Nat.reduceAdd, and_true]
          refine ⟨?_, ?_, ?_, ?_, ?_, ?_, ?_, ?_, ?_⟩
          all_goals (intro c z0 Φr Lr K hK; dsimp only [dstOf, kval, kfac, ancE, ancF, getD_z, getD_s, List.getElem?_cons_zero, List.getElem?_cons_succ, List.getElem?_nil, Option.getD_some, Option.getD_none, List.nil_append, List.cons_append, Option.getD] at hK ⊢)
          · refine stp ?_; exact hK z0
          · refine stp ?_; exact hK z0
          · refine o_idxN i rfl rfl rfl rfl rfl hi1 ?_; intro p; exact hK _
          iterate 3 ((first | refine stp ?_ | refine stf ?_); exact hK z0)
          · refine o_idxN i rfl rfl rfl rfl rfl hi2 ?_; intro p; exact hK _
          · (first | refine stp ?_ | refine stf ?_); exact hK z0
          · refine o_int rfl rfl rfl rfl (i_neq_f he) ?_; exact hK z0
        case loc_3 =>
          simp only [AllL, Nat.reduceAdd, and_true]
          refine ⟨?_, ?_, ?_, ?_, ?_, ?_, ?_, ?_, ?_⟩
          all_goals (intro c c' z h; first | exact ⟨rfl, rfl⟩ | (skip))
        intro c
        dsimp only [dstOf, kval, kfac, ancE,  ancF, getD_z, getD_s, List.getElem?_cons_zero, List.getElem?_cons_succ, List.getElem?_nil, Option.getD_some, Option.getD_none, List.nil_append, List.cons_append, List.drop_succ_cons, List.drop_zero, Option.getD]
        repeat (first | refine stp ?_ | (refine sti ?_; intro _) | refine stf ?_ | (refine stb ?_; intro _))
        refine G.again (i + 1) (by omega) ⟨by omega, ?_⟩ inferInstance (look_sub_cons rfl (look_sub_cons rfl (look_sub_cons rfl look_sub_nil))) (List.Sublist.refl _)
        rw [List.take_succ_eq_append_getElem hi1, List.take_succ_eq_append_getElem hi2, hm, he]
      · repeat (first | refine stp ?_ | (refine sti ?_; intro _) | refine stf ?_ | (refine stb ?_; intro _))
        refine W.draw 9 [⟨?v0_4, fun _ z => []⟩, ⟨?v1_4, fun _ z => []⟩, ⟨fun _ z => z, fun _ z => [fPt z xs[i]]⟩, ⟨?v3_4, fun _ z => []⟩, ⟨?v4_4, fun _ z => []⟩, ⟨?v5_4, fun _ z => []⟩, ⟨fun _ z => z, fun _ z => [fPt z ys[i]]⟩, ⟨?v7_4, fun _ z => []⟩, ⟨?v8_4, fun _ z => []⟩] [[], [], [0, 1], [2], [], [], [4, 5], [6], [3, 7]] [8] (by kernel_rfl) (by kernel_rfl) (by kernel_rfl) (by kernel_rfl) ?loc_4 ?ops_4 ?rest_4
        case ops_4 =>
          simp only [AllQ, Nat.reduceAdd, and_true]
          refine ⟨?_, ?_, ?_, ?_, ?_, ?_, ?_, ?_, ?_⟩
          all_goals (intro c z0 Φr Lr K hK; dsimp only [dstOf, kval, kfac, ancE, ancF, getD_z, getD_s, List.getElem?_cons_zero, List.getElem?_cons_succ, List.getElem?_nil, Option.getD_some, Option.getD_none, List.nil_append, List.cons_append, Option.getD] at hK ⊢)
          · refine stp ?_; exact hK z0
          · refine stp ?_; exact hK z0
          · refine o_idxN i rfl rfl rfl rfl rfl hi1 ?_; intro p; exact hK _
          iterate 3 ((first | refine stp ?_ | refine stf ?_); exact hK z0)
          · refine o_idxN i rfl rfl rfl rfl rfl hi2 ?_; intro p; exact hK _
          · (first | refine stp ?_ | refine stf ?_); exact hK z0
          · refine o_int rfl rfl rfl rfl (i_neq_t he) ?_; exact hK z0
        case loc_4 =>
          simp only [AllL, Nat.reduceAdd, and_true]
          refine ⟨?_, ?_, ?_, ?_, ?_, ?_, ?_, ?_, ?_⟩
          all_goals (intro c c' z h; first | exact ⟨rfl, rfl⟩ | (skip))
        intro c
        dsimp only [dstOf, kval, kfac, ancE,  ancF, getD_z, getD_s, List.getElem?_cons_zero, List.getElem?_cons_succ, List.getElem?_nil, Option.getD_some, Option.getD_none, List.nil_append, List.cons_append, List.drop_succ_cons, List.drop_zero, Option.getD]
        repeat (first | refine stp ?_ | (refine sti ?_; intro _) | refine stf ?_ | (refine stb ?_; intro _))
        refine G.ret rfl (.cons (.tmp rfl) .nil) (Φ' := []) (M' := []) inferInstance (List.nil_sublist _) ⟨?_, rfl, rfl⟩
        have : ¬ xs = ys := fun e => he (by subst e; rfl)
        simp [tup, this]
  · repeat (first | refine stp ?_ | (refine sti ?_; intro _) | refine stf ?_ | (refine stb ?_; intro _))
    refine G.ret rfl (.cons (.tmp rfl) .nil) (Φ' := []) (M' := []) inferInstance (List.nil_sublist _) ⟨?_, rfl, rfl⟩
    have : ¬ xs = ys := fun e => hl (by rw [e])
    simp [tup, this]
end Go.Rail
namespace Go.Rail
open Go Go.Proofs
set_option linter.unusedSimpArgs false
set_option linter.unusedVariables false
set_option maxHeartbeats 400000
set_option maxRecDepth 4000
attribute [local irreducible] OpK G W LW wpListIn Exit.then Exit.inBlock Post rounds opRun bodyPostM intOp
attribute [local irreducible] lexN cmpW cmpA cmpK setK commonL common clashS rightS rowG restG edgesG clG
def tupE (e : Int) (sv : Value) : Value := .tuple #[sv, .int .i64 e]
end Go.Rail
namespace Go.Rail
open Go Go.Proofs
set_option linter.unusedSimpArgs false
set_option linter.unusedVariables false
set_option maxHeartbeats 400000
set_option maxRecDepth 4000
attribute [local irreducible] OpK G W LW wpListIn Exit.then Exit.inBlock Post rounds opRun bodyPostM intOp
attribute [local irreducible] lexN cmpW cmpA cmpK cmpI setK commonL common clashS rightS rowG restG edgesG clG
theorem enc_len (xs : List Sets) : ∀ vs ∈ (edgesG xs).map encP, vs.length = 2 := by
  intro vs h
  obtain ⟨p, _, rfl⟩ := List.mem_map.1 h
  rfl
theorem edges_spec (v : Value) (xs : List Sets) (hx : xs.length ≤ 1000000) (hs : ∀ s ∈ xs, fit6 s) : Fn Try.prog 37 [v] [fRp v xs] [] (RTup (tupE (errG xs)) 52 (edgesR xs)) := by
  refine Fn.enter Try.func37 rfl Try.ntmps37 (by simp) (fun I0 w0 => ?_)
  refine W.bare (G.slice v xs ?_)
  intro a cap x zx
  subst x
  cases hm : mayG xs with
  | false =>
    have e1 : edgesR xs = [] := by rw [edgesR, hm]; rfl
    have e2 : errG xs = 1 := by rw [errG, hm]; rfl
    rw [e1, e2]
    repeat (first | refine stp ?_ | (refine sti ?_; intro _) | refine stf ?_ | (refine stb ?_; intro _))
    refine o_callV rfl rfl rfl rfl (mayG_spec _ xs hx hs) (congrArg Value.bool hm) ?_
    repeat (first | refine stp ?_ | (refine sti ?_; intro _) | refine stf ?_ | (refine stb ?_; intro _))
    exact G.ret rfl (.cons (.tmp rfl) (.cons (.tmp rfl) .nil)) (Φ' := [fRow ([] : List Value) ([] : List (Int × Int))]) (M' := []) inferInstance (List.nil_sublist _) ⟨_, none, rfl, ⟨rfl, rfl⟩, rfl, rfl⟩
  | true =>
    have e1 : edgesR xs = edgesI xs := by rw [edgesR, hm]; rfl
    have e2 : errG xs = 0 := by rw [errG, hm]; rfl
    have h64 := may_len hm
    have hcap := edges_few hm
    have hlen := edgesI_length xs
    rw [e1, e2]
    repeat (first | refine stp ?_ | (refine sti ?_; intro _) | refine stf ?_ | (refine stb ?_; intro _))
    refine o_callV rfl rfl rfl rfl (mayG_spec _ xs hx hs) (congrArg Value.bool hm) ?_
    repeat (first | refine stp ?_ | (refine sti ?_; intro _) | refine stf ?_ | (refine stb ?_; intro _))
    rename_i b4
    refine OpK.call rfl rfl rfl rfl (pairs_spec a xs.length cap) inferInstance (Mr := _) (List.Perm.refl _) ?_
    rintro u Φ' Mc' ⟨b, rfl, rfl, rfl⟩
    dsimp only [List.cons_append, List.nil_append]
    repeat (first | refine stp ?_ | (refine sti ?_; intro _) | refine stf ?_ | (refine stb ?_; intro _))
    refine W.rangeFuncR (enc := (edgesG xs).map encP) (ps := [12, 13]) (Φi := [fBlk b [.slice a xs.length cap] 45, fRp (.slice a xs.length cap) xs]) (Mr := []) (fun k s => ∃ w o, IsOwn 2 w ((edgesI xs).take k).length o ∧ s = ([fRow (ocells o) ((edgesI xs).take k)], (b4, Ob [w] 32) :: ownM 52 o)) (fun _ _ => False) rfl (pairs1_spec b a cap xs hx hs) (by decide) (enc_len xs) inferInstance ([fRow ([] : List Value) ([] : List (Int × Int))], [(b4, Ob [.slice none 0 0] 32)]) ⟨.slice none 0 0, none, ⟨rfl, rfl⟩, rfl⟩ inferInstance (List.Perm.refl _) ?_ ?_ ?_
    · rintro l rec I0' w0' k hk _ ⟨w, o, hown, rfl⟩
      have hk1 : k < (edgesG xs).length := by simpa using hk
      have hk2 : k < (edgesI xs).length := by omega
      have htk : (edgesI xs).take k ++ [toI (edgesG xs)[k]] = (edgesI xs).take (k + 1) := by rw [List.take_succ_eq_append_getElem hk2, edgesI_get]
      have htl : ((edgesI xs).take k).length = k := by rw [List.length_take]; omega
      dsimp only
      rw [List.getElem_map]
      show W _ _ _ _ ((13, Value.int .i64 ((edgesG xs)[k].2 : Nat)) :: (12, Value.int .i64 ((edgesG xs)[k].1 : Nat)) :: _) _
      repeat (first | refine stp ?_ | (refine sti ?_; intro _) | refine stf ?_ | (refine stb ?_; intro _))
      refine G.begin (by rfl) ?_
      repeat (first | refine stp ?_ | (refine sti ?_; intro _) | refine stf ?_ | (refine stb ?_; intro _))
      refine o_lit (xs := [toI (edgesG xs)[k]]) ⟨by decide, rfl, by decide⟩ rfl rfl rfl ⟨fun _ _ => Rp.flat.2 rfl, trivial⟩ rfl ?_
      intro p1
      repeat (first | refine stp ?_ | (refine sti ?_; intro _) | refine stf ?_ | (refine stb ?_; intro _))
      refine o_app2 (Mr := [_, _]) o (xs := (edgesI xs).take k) (ys := [toI (edgesG xs)[k]]) hown ⟨by simp; omega, by simp; omega, rfl⟩ rfl rfl rfl rfl inferInstance inferInstance (List.Perm.refl _) ?_
      intro w' o' hown'
      rw [htk] at hown' ⊢
      dsimp only [List.cons_append, List.nil_append]
      repeat (first | refine stp ?_ | (refine sti ?_; intro _) | refine stf ?_ | (refine stb ?_; intro _))
      refine o_store (vs := [w']) (cs' := [w']) rfl rfl rfl (own_cell hown').1 rfl (Nat.le_of_ble_eq_true rfl) (own_cell hown').2 rfl ?_
      repeat (first | refine stp ?_ | (refine sti ?_; intro _) | refine stf ?_ | (refine stb ?_; intro _))
      refine G.roundEnd inferInstance (Φ' := [fRow (ocells o') ((edgesI xs).take (k + 1))]) (M'' := (b4, Ob [w'] 32) :: ownM 52 o') ?_ inferInstance (List.Sublist.refl _)
      exact Or.inl ⟨rfl, ([fRow (ocells o') ((edgesI xs).take (k + 1))], (b4, Ob [w'] 32) :: ownM 52 o'), ⟨w', o', hown', rfl⟩, rfl⟩
    · rintro D _ ⟨w, o, hown, rfl⟩
      rw [List.length_map, ← hlen, List.take_length] at hown ⊢
      refine G.perm ?_ List.perm_append_comm
      dsimp only [List.cons_append, List.nil_append]
      repeat (first | refine stp ?_ | (refine sti ?_; intro _) | refine stf ?_ | (refine stb ?_; intro _))
      refine G.unmark inferInstance ?_
      exact G.ret rfl (.cons (.tmp rfl) (.cons (.tmp rfl) .nil)) (Φ' := [fRow (ocells o) (edgesI xs)]) (M' := ownM 52 o) inferInstance (List.sublist_cons_self _ _) ⟨_, o, rfl, hown, rfl, rfl⟩
    · intro D c s h
      exact h.elim
end Go.Rail
namespace Go.Rail
open Go Go.Proofs
set_option linter.unusedSimpArgs false
set_option linter.unusedVariables false
set_option maxHeartbeats 400000
set_option maxRecDepth 4000
attribute [local irreducible] OpK G W LW wpListIn Exit.then Exit.inBlock Post rounds opRun bodyPostM intOp
attribute [local irreducible] lexN cmpW cmpA cmpK setK commonL common clashS rightS rowG restG edgesG clG readyP waitB
structure RdSt where
  i : Nat
  v : Value
  o : OR
end Go.Rail
