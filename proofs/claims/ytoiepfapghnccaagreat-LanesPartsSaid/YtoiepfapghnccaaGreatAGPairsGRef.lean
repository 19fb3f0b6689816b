/- What goes through those in one another's way. -/
import Derived.Test.YtoiepfapghnccaaGreatAClashGMay
import Derived.Test.YtoiepfapghnccaaGreatRailD
import Derived.Test.YtoiepfapghnccaaGreatAPut
namespace Go.Rail
open Go Go.Proofs
set_option linter.unusedSimpArgs false
set_option linter.unusedVariables false
set_option maxHeartbeats 400000
set_option maxRecDepth 4000
attribute [local irreducible] OpK G W LW wpListIn Exit.then Exit.inBlock Post rounds opRun bodyPostM intOp
attribute [local irreducible] lexN cmpW cmpA cmpK cmpI makeS setK commonL common clashS rightS rowG restG edgesG clG
def encP (p : Nat × Nat) : List Value := [.int .i64 (p.1 : Nat), .int .i64 (p.2 : Nat)]
structure PrSt where
  i : Nat
  c : Nat
  st : St
theorem pairs1_spec (b : Nat) (a : Option Addr) (cap : Nat) (xs : List Sets) (hx : xs.length ≤ 1000000) (hs : ∀ s ∈ xs, s.reads.length ≤ 1000000 ∧ s.writes.length ≤ 1000000) : IterR Tryz.prog 72 [.pointer (some ⟨b, 0, none⟩)] ((edgesG xs).map encP) [fBlk b [.slice a xs.length cap] 25, fRp (.slice a xs.length cap) xs] := by
  intro l T Z hyl s0 hs0
  have hy' : ∀ k (h : k < (edgesG xs).length) s, T k s → FnY Tryz.prog l (encP (edgesG xs)[k]) s.1 s.2 (YRr (T (k + 1)) Z) := fun k h s hs => by
    have := hyl k (by simpa using h) s hs
    simpa using this
  rw [List.length_map]
  generalize hE : edgesG xs = E at hy'
  have hE0 : E = restG xs 0 := by rw [← hE]; with_unfolding_all rfl
  show Fn _ _ _ (fBlk b [.slice a xs.length cap] 25 :: fRp (.slice a xs.length cap) xs :: s0.1) _ _
  refine Fn.enter Tryz.func72 rfl Tryz.ntmps72 (by simp) (fun I0 w0 => ?_)
  repeat (first | refine stp ?_ | (refine sti ?_; intro _) | refine stf ?_ | (refine stb ?_; intro _))
  refine W.loopI (fun (s : PrSt) => (fBlk b [.slice a xs.length cap] 25 :: fRp (.slice a xs.length cap) xs :: s.st.1, [(0, .func (.yield l) #[] #[]), (1, .pointer (some ⟨b, 0, none⟩)), (7, .slice a xs.length cap), (8, .int .i64 xs.length), (9, .int .i64 s.i)], s.st.2)) (fun s => s.i ≤ xs.length ∧ s.c ≤ E.length ∧ E.drop s.c = restG xs s.i ∧ T s.c s.st) (fun s => xs.length - s.i) ⟨0, 0, s0⟩ ⟨Nat.zero_le _, Nat.zero_le _, hE0, hs0⟩ ⟨fun I hp => hp⟩ (look_sub_cons rfl (look_sub_cons rfl (look_sub_cons rfl (look_sub_cons rfl (look_sub_cons rfl look_sub_nil))))) (List.Sublist.refl _) ?_
  rintro ⟨i, c, st⟩ ⟨hi, hc, hd, hst⟩
  dsimp only at hi hc hd hst ⊢
  by_cases hi0 : i = xs.length
  · have e1 : c = E.length := by
      rw [restG_end (by omega)] at hd
      have := List.drop_eq_nil_iff.1 hd; omega
    repeat (first | refine stp ?_ | (refine sti ?_; intro _) | refine stf ?_ | (refine stb ?_; intro _))
    exact G.fin rfl .nil (Φ' := st.1) (M' := st.2) ⟨fun I hp φ hφ => hp φ (.tail _ (.tail _ hφ))⟩ (List.Sublist.refl _) (.inl (by rw [← e1]; exact hst))
  · have hi1 : i < xs.length := by omega
    have hsA := hs xs[i] (List.getElem_mem hi1)
    repeat (first | refine stp ?_ | (refine sti ?_; intro _) | refine stf ?_ | (refine stb ?_; intro _))
    refine o_loadR rfl rfl rfl rfl ?_
    intro vA
    refine G.sets vA xs[i] ?_
    intro r1 w1 e1
    refine G.slice r1 xs[i].reads ?_
    intro a1 c1 x1 zx1
    refine G.slice w1 xs[i].writes ?_
    intro b1 d1 y1 zy1
    subst x1 y1
    subst e1
    repeat (first | refine stp ?_ | (refine sti ?_; intro _) | refine stf ?_ | (refine stb ?_; intro _))
    rename_i b4
    refine o_slice (xs := xs) (i + 1) xs.length rfl rfl rfl ⟨_, _, rfl, by simp⟩ rfl (by omega) (Nat.le_refl _) ?_
    intro v17
    rw [List.take_length]
    have hld : (xs.drop (i + 1)).length = xs.length - (i + 1) := by simp
    repeat (first | refine stp ?_ | (refine sti ?_; intro _) | refine stf ?_ | (refine stb ?_; intro _))
    generalize hA : xs[i] = A at hsA
    refine W.loopI (fun (s : PrSt) => (fBlk b [.slice a xs.length cap] 25 :: fRp (.slice a xs.length cap) xs :: fRp v17 (xs.drop (i + 1)) :: fRp (.agg #[.slice a1 A.reads.length c1, .slice b1 A.writes.length d1]) A :: s.st.1, [(0, .func (.yield l) #[] #[]), (1, .pointer (some ⟨b, 0, none⟩)), (7, .slice a xs.length cap), (8, .int .i64 xs.length), (9, .int .i64 i), (3, .int .i64 i), (4, .pointer (some ⟨b4, 0, none⟩)), (17, v17), (18, .int .i64 (xs.drop (i + 1)).length), (19, .int .i64 s.i)], (b4, Ob [.slice a1 A.reads.length c1, .slice b1 A.writes.length d1] 39) :: s.st.2)) (fun s => s.i ≤ xs.length - (i + 1) ∧ s.c ≤ E.length ∧ E.drop s.c = rowG xs i (i + 1 + s.i) ++ restG xs (i + 1) ∧ T s.c s.st) (fun s => xs.length - s.i) ⟨0, c, st⟩ ⟨Nat.zero_le _, hc, by dsimp only; rw [hd, restG_step hi1, Nat.add_zero], hst⟩ ⟨fun I hp φ hφ => ?_⟩ (look_sub_cons rfl (look_sub_cons rfl (look_sub_cons rfl (look_sub_cons rfl (look_sub_cons rfl (look_sub_cons rfl (look_sub_cons rfl (look_sub_cons rfl (look_sub_cons rfl (look_sub_cons rfl look_sub_nil)))))))))) (List.Sublist.refl _) ?_
    · rcases List.mem_cons.1 hφ with rfl | hφ
      · exact hp _ (by simp)
      · rcases List.mem_cons.1 hφ with rfl | hφ
        · exact hp _ (by simp)
        · rcases List.mem_cons.1 hφ with rfl | hφ
          · exact hp _ (by simp)
          · rcases List.mem_cons.1 hφ with rfl | hφ
            · exact hp _ (by simp)
            · exact hp _ (by simp [hφ])
    rintro ⟨j, c', st'⟩ ⟨hj, hc', hd', hst'⟩
    dsimp only at hj hc' hd' hst' ⊢
    by_cases hj0 : j = xs.length - (i + 1)
    · have hd2 : E.drop c' = restG xs (i + 1) := by rw [hd', rowG_end (by omega)]; rfl
      repeat (first | refine stp ?_ | (refine sti ?_; intro _) | refine stf ?_ | (refine stb ?_; intro _))
      refine G.again (S := PrSt) ⟨i + 1, c', st'⟩ (by dsimp only; omega) ⟨by dsimp only; omega, hc', hd2, hst'⟩ ⟨fun I hp φ hφ => ?_⟩ (look_sub_cons rfl (look_sub_cons rfl (look_sub_cons rfl (look_sub_cons rfl (look_sub_cons rfl look_sub_nil))))) (by first | exact List.Sublist.refl _ | exact .cons _ (List.Sublist.refl _))
      rcases List.mem_cons.1 hφ with rfl | hφ
      · exact hp _ (by simp)
      · rcases List.mem_cons.1 hφ with rfl | hφ
        · exact hp _ (by simp)
        · exact hp _ (by simp [hφ])
    · have hj1 : j < (xs.drop (i + 1)).length := by omega
      have hk1 : i + 1 + j < xs.length := by omega
      have hxb : (xs.drop (i + 1))[j] = xs[i + 1 + j] := by simp
      have hsB := hs xs[i + 1 + j] (List.getElem_mem hk1)
      repeat (first | refine stp ?_ | (refine sti ?_; intro _) | refine stf ?_ | (refine stb ?_; intro _))
      refine o_loadR rfl rfl rfl rfl ?_
      intro vB
      rw [hxb]
      have hcl := clG_eq hi1 hk1
      rw [hA] at hcl
      generalize xs[i + 1 + j] = B at hsB hcl ⊢
      refine G.sets vB B ?_
      intro r2 w2 e2
      refine G.slice r2 B.reads ?_
      intro a2 c2 x2 zx2
      refine G.slice w2 B.writes ?_
      intro b2 d2 y2 zy2
      subst x2 y2
      subst e2
      repeat (first | refine stp ?_ | (refine sti ?_; intro _) | refine stf ?_ | (refine stb ?_; intro _))
      rename_i b6
      cases hcb : clashS A B with
      | false =>
        refine o_callV rfl rfl rfl rfl (aclash_spec (.agg #[.slice a1 A.reads.length c1, .slice b1 A.writes.length d1]) (.agg #[.slice a2 B.reads.length c2, .slice b2 B.writes.length d2]) A B hsA hsB) (congrArg Value.bool hcb) ?_
        repeat (first | refine stp ?_ | (refine sti ?_; intro _) | refine stf ?_ | (refine stb ?_; intro _))
        have hr : rowG xs i (i + 1 + j) = rowG xs i (i + 1 + (j + 1)) := by rw [rowG_step hk1, hcl, hcb]; rfl
        exact G.again (S := PrSt) ⟨j + 1, c', st'⟩ (by dsimp only; omega) ⟨by dsimp only; omega, hc', by rw [hd', hr], hst'⟩ ⟨fun I hp φ hφ => by
          rcases List.mem_cons.1 hφ with rfl | hφ
          · exact hp _ (by simp)
          · rcases List.mem_cons.1 hφ with rfl | hφ
            · exact hp _ (by simp)
            · rcases List.mem_cons.1 hφ with rfl | hφ
              · exact hp _ (by simp)
              · rcases List.mem_cons.1 hφ with rfl | hφ
                · exact hp _ (by simp)
                · exact hp _ (by simp [hφ])⟩ (look_sub_cons rfl (look_sub_cons rfl (look_sub_cons rfl (look_sub_cons rfl (look_sub_cons rfl (look_sub_cons rfl (look_sub_cons rfl (look_sub_cons rfl (look_sub_cons rfl (look_sub_cons rfl look_sub_nil)))))))))) (.cons _ (List.Sublist.refl _))
      | true =>
        refine o_callV rfl rfl rfl rfl (aclash_spec (.agg #[.slice a1 A.reads.length c1, .slice b1 A.writes.length d1]) (.agg #[.slice a2 B.reads.length c2, .slice b2 B.writes.length d2]) A B hsA hsB) (congrArg Value.bool hcb) ?_
        repeat (first | refine stp ?_ | (refine sti ?_; intro _) | refine stf ?_ | (refine stb ?_; intro _))
        have hr : E.drop c' = (i, i + 1 + j) :: (rowG xs i (i + 1 + (j + 1)) ++ restG xs (i + 1)) := by rw [hd', rowG_step hk1, hcl, hcb]; rfl
        have hcE : c' < E.length := by
          apply Classical.byContradiction
          intro hn
          rw [List.drop_eq_nil_of_le (by omega)] at hr
          cases hr
        rw [List.drop_eq_getElem_cons hcE] at hr
        obtain ⟨h7, h8⟩ := List.cons.inj hr
        have hyk := hy' c' hcE st' hst'
        rw [h7] at hyk
        have hyk' : FnY Tryz.prog l [.int .i64 (i : Int), .int .i64 ((i : Int) + 1 + (j : Int))] st'.1 st'.2 (YRr (T (c' + 1)) Z) := by simpa [encP] using hyk
        refine o_yieldR (Mr := [_, _]) rfl rfl rfl rfl hyk' (fun I hp φ hφ => hp φ (by simp [hφ])) (List.perm_append_comm (l₁ := [_, _])) ?_ ?_
        · intro st2 hst2
          refine G.perm ?_ List.perm_append_comm
          dsimp only [List.cons_append, List.nil_append]
          repeat (first | refine stp ?_ | (refine sti ?_; intro _) | refine stf ?_ | (refine stb ?_; intro _))
          exact G.again (S := PrSt) ⟨j + 1, c' + 1, st2⟩ (by dsimp only; omega) ⟨by dsimp only; omega, by dsimp only; omega, h8, hst2⟩ ⟨fun I hp φ hφ => by
          rcases List.mem_cons.1 hφ with rfl | hφ
          · exact hp _ (by simp)
          · rcases List.mem_cons.1 hφ with rfl | hφ
            · exact hp _ (by simp)
            · rcases List.mem_cons.1 hφ with rfl | hφ
              · exact hp _ (by simp)
              · rcases List.mem_cons.1 hφ with rfl | hφ
                · exact hp _ (by simp)
                · exact hp _ (by simp [hφ])⟩ (look_sub_cons rfl (look_sub_cons rfl (look_sub_cons rfl (look_sub_cons rfl (look_sub_cons rfl (look_sub_cons rfl (look_sub_cons rfl (look_sub_cons rfl (look_sub_cons rfl (look_sub_cons rfl look_sub_nil)))))))))) (.cons _ (List.Sublist.refl _))
        · intro s hz
          repeat (first | refine stp ?_ | (refine sti ?_; intro _) | refine stf ?_ | (refine stb ?_; intro _))
          exact G.ret rfl .nil (Φ' := s.1) (M' := s.2) ⟨fun I hp φ hφ => hp φ (by simp [hφ])⟩ (by simp) (.inr hz)
theorem pairs_spec (a : Option Addr) (n cap : Nat) : Fn Tryz.prog 57 [.slice a n cap] [] [] (fun u Φ' M' => ∃ b, u = .func (.func 72) #[] #[.pointer (some ⟨b, 0, none⟩)] ∧ Φ' = [fBlk b [.slice a n cap] 25] ∧ M' = []) := by
  refine Fn.enter Tryz.func57 rfl Tryz.ntmps57 (by simp) (fun I0 w0 => ?_)
  repeat (first | refine stp ?_ | (refine sti ?_; intro _) | refine stf ?_ | (refine stb ?_; intro _))
  rename_i b
  refine o_func rfl rfl rfl rfl ?_
  repeat (first | refine stp ?_ | (refine sti ?_; intro _) | refine stf ?_ | (refine stb ?_; intro _))
  refine G.give b (cs := [.slice a n cap]) (t := 25) ?_
  exact G.ret rfl (.cons (.tmp rfl) .nil) (Φ' := [fBlk b [.slice a n cap] 25]) (M' := []) inferInstance (List.nil_sublist _) ⟨b, rfl, rfl, rfl⟩
end Go.Rail
namespace Go.Rail
open Go Go.Proofs
set_option linter.unusedSimpArgs false
set_option linter.unusedVariables false
set_option maxHeartbeats 400000
set_option maxRecDepth 4000
attribute [local irreducible] OpK G W LW wpListIn Exit.then Exit.inBlock Post rounds opRun bodyPostM intOp
attribute [local irreducible] lexN cmpW cmpA cmpK makeS setK commonL common clashS rightS rowG restG edgesG clG
theorem eq_pair (d : Nat) (a b p q : Int) (w : World) : (Op.equalIn (d + 2) 76 (.agg #[.int .i64 a, .int .i64 b]) (.agg #[.int .i64 p, .int .i64 q])).run Tryz.prog w = .ok (decide (a = p ∧ b = q)) w := by
  obtain ⟨i, hi⟩ := info_some (P := Tryz.prog) (t := 3) (by kernel_rfl)
  have h := run_equalIn_ints (P := Tryz.prog) (d := d) (k := .i64) Tryz.underlying76 Tryz.underlying3 hi (by kernel_rfl) Tryz.isAgg3 [a, b] [p, q] rfl rfl w
  have e2 : decide ([a, b] = [p, q]) = decide (a = p ∧ b = q) := decide_eq_decide.2 (by simp)
  rw [← e2]; exact h
instance (a b p q : Int) : EqOn Tryz.prog 76 (.agg #[.int .i64 a, .int .i64 b]) (.agg #[.int .i64 p, .int .i64 q]) (decide (a = p ∧ b = q)) where
  eq := fun w => by
    have h : (Op.equalIn 10000 76 (.agg #[.int .i64 a, .int .i64 b]) (.agg #[.int .i64 p, .int .i64 q])).run Tryz.prog w = _ := eq_pair 9998 a b p q w
    rw [run_eql_struct, h]; simp only [Result.andThen_ok]
  ne := fun w => by
    have h : (Op.equalIn 10000 76 (.agg #[.int .i64 a, .int .i64 b]) (.agg #[.int .i64 p, .int .i64 q])).run Tryz.prog w = _ := eq_pair 9998 a b p q w
    rw [run_neq_struct, h]; simp only [Result.andThen_ok]
  guard := fun op p q w => run_eqGuard_agg _ _ _ _ _ _ _ (by kernel_rfl)
def fit6 (s : Sets) : Prop := s.reads.length ≤ 1000000 ∧ s.writes.length ≤ 1000000
theorem mayR_spec (v : Value) (xs : List Sets) (hx : xs.length ≤ 1000000) (hs : ∀ s ∈ xs, fit6 s) : FnV Tryz.prog 43 [v] [fRp v xs] (.bool (mayG xs)) := by
  refine Fn.enter Tryz.func43 rfl Tryz.ntmps43 (by simp) (fun I0 w0 => ?_)
  repeat (first | refine stp ?_ | (refine sti ?_; intro _) | refine stf ?_ | (refine stb ?_; intro _))
  refine W.loopI (fun (i : Nat) => ([fRp v xs], [(0, v), (3, .int .i64 i)], [])) (fun i => i ≤ xs.length ∧ ∀ s ∈ xs.take i, rightS s = true) (fun i => xs.length - i) 0 ⟨by omega, by simp⟩ inferInstance (look_sub_cons rfl (look_sub_cons rfl look_sub_nil)) (List.Sublist.refl _) ?_
  intro i ⟨hi, hm⟩
  dsimp only
  by_cases hi0 : i = xs.length
  · subst hi0
    rw [List.take_length] at hm
    have hall : xs.all rightS = true := List.all_eq_true.2 hm
    by_cases h64 : xs.length ≤ 64
    · repeat (first | refine stp ?_ | (refine sti ?_; intro _) | refine stf ?_ | (refine stb ?_; intro _))
      refine G.ret rfl (.cons (.tmp rfl) .nil) (Φ' := []) (M' := []) inferInstance (List.nil_sublist _) ⟨?_, rfl, rfl⟩
      rw [mayG, hall, decide_eq_true h64]; rfl
    · repeat (first | refine stp ?_ | (refine sti ?_; intro _) | refine stf ?_ | (refine stb ?_; intro _))
      refine G.ret rfl (.cons (.tmp rfl) .nil) (Φ' := []) (M' := []) inferInstance (List.nil_sublist _) ⟨?_, rfl, rfl⟩
      rw [mayG, decide_eq_false h64]; rfl
  · have hi1 : i < xs.length := by omega
    repeat (first | refine stp ?_ | (refine sti ?_; intro _) | refine stf ?_ | (refine stb ?_; intro _))
    refine o_loadR rfl rfl rfl rfl ?_
    intro vP
    repeat (first | refine stp ?_ | (refine sti ?_; intro _) | refine stf ?_ | (refine stb ?_; intro _))
    cases hr : rightS xs[i] with
    | false =>
      refine o_callV rfl rfl rfl rfl (rightS_spec vP xs[i] (hs _ (List.getElem_mem hi1))) (congrArg Value.bool hr) ?_
      repeat (first | refine stp ?_ | (refine sti ?_; intro _) | refine stf ?_ | (refine stb ?_; intro _))
      refine G.ret rfl (.cons (.tmp rfl) .nil) (Φ' := []) (M' := []) inferInstance (List.nil_sublist _) ⟨?_, rfl, rfl⟩
      have hall : xs.all rightS = false := List.all_eq_false.2 ⟨_, List.getElem_mem hi1, by rw [hr]; simp⟩
      rw [mayG, hall, Bool.and_false]; rfl
    | true =>
      refine o_callV rfl rfl rfl rfl (rightS_spec vP xs[i] (hs _ (List.getElem_mem hi1))) (congrArg Value.bool hr) ?_
      repeat (first | refine stp ?_ | (refine sti ?_; intro _) | refine stf ?_ | (refine stb ?_; intro _))
      refine G.again (i + 1) (by omega) ⟨by omega, fun k hk' => ((mem_take_succ hi1).1 hk').elim (hm k) (fun e => by rw [← e]; exact hr)⟩ inferInstance (look_sub_cons rfl (look_sub_cons rfl look_sub_nil)) (List.Sublist.refl _)

theorem intsEq_spec (u v : Value) (xs ys : List Int) (hx : xs.length ≤ 1000000) (hy : ys.length ≤ 1000000) : FnV Tryz.prog 19 [u, v] [fRp u xs, fRp v ys] (.bool (decide (xs = ys))) := by
  refine Fn.enter Tryz.func19 rfl Tryz.ntmps19 (by simp) (fun I0 w0 => ?_)
  by_cases hl : xs.length = ys.length
  · repeat (first | refine stp ?_ | (refine sti ?_; intro _) | refine stf ?_ | (refine stb ?_; intro _))
    refine W.loopI (fun (i : Nat) => ([fRp u xs, fRp v ys], [(0, u), (1, v), (5, .int .i64 i)], [])) (fun i => i ≤ xs.length ∧ xs.take i = ys.take i) (fun i => xs.length - i) 0 ⟨by omega, by simp⟩ inferInstance (look_sub_cons rfl (look_sub_cons rfl (look_sub_cons rfl look_sub_nil))) (List.Sublist.refl _) ?_
    intro i ⟨hi, hm⟩
    dsimp only
    by_cases hi0 : i = xs.length
    · subst hi0
      rw [List.take_length, hl, List.take_length] at hm
      repeat (first | refine stp ?_ | (refine sti ?_; intro _) | refine stf ?_ | (refine stb ?_; intro _))
      refine G.ret rfl (.cons (.tmp rfl) .nil) (Φ' := []) (M' := []) inferInstance (List.nil_sublist _) ⟨?_, rfl, rfl⟩
      simp [tup, hm]
    · have hi1 : i < xs.length := by omega
      have hi2 : i < ys.length := by omega
      by_cases he : xs[i] = ys[i]
      · repeat (first | refine stp ?_ | (refine sti ?_; intro _) | refine stf ?_ | (refine stb ?_; intro _))
        refine W.draw 9 [⟨?v0_1, fun _ z => []⟩, ⟨?v1_1, fun _ z => []⟩, ⟨fun _ z => z, fun _ z => [fPt z xs[i]]⟩, ⟨?v3_1, fun _ z => []⟩, ⟨?v4_1, fun _ z => []⟩, ⟨?v5_1, fun _ z => []⟩, ⟨fun _ z => z, fun _ z => [fPt z ys[i]]⟩, ⟨?v7_1, fun _ z => []⟩, ⟨?v8_1, fun _ z => []⟩] [[], [], [0, 1], [2], [], [], [4, 5], [6], [3, 7]] [8] (by kernel_rfl) (by kernel_rfl) (by kernel_rfl) (by kernel_rfl) ?loc_1 ?ops_1 ?rest_1
        case ops_1 =>
          simp only [AllQ, Nat.reduceAdd, and_true]
          refine ⟨?_, ?_, ?_, ?_, ?_, ?_, ?_, ?_, ?_⟩
          all_goals (intro c z0 Φr Lr K hK; dsimp only [dstOf, kval, kfac, ancE, ancF, getD_z, getD_s, List.getElem?_cons_zero, List.getElem?_cons_succ, List.getElem?_nil, Option.getD_some, Option.getD_none, List.nil_append, List.cons_append, Option.getD] at hK ⊢)
          · refine stp ?_; exact hK z0
          · refine stp ?_; exact hK z0
          · refine o_idxN i rfl rfl rfl rfl rfl hi1 ?_; intro p; exact hK _
          iterate 3 ((first | refine stp ?_ | refine stf ?_); exact hK z0)
          · refine o_idxN i rfl rfl rfl rfl rfl hi2 ?_; intro p; exact hK _
          · (first | refine stp ?_ | refine stf ?_); exact hK z0
          · refine o_int rfl rfl rfl rfl (i_neq_f he) ?_; exact hK z0
        case loc_1 =>
          simp only [AllL, Nat.reduceAdd, and_true]
          refine ⟨?_, ?_, ?_, ?_, ?_, ?_, ?_, ?_, ?_⟩
          all_goals (intro c c' z h; first | exact ⟨rfl, rfl⟩ | (skip))
        intro c
        dsimp only [dstOf, kval, kfac, ancE,  ancF, getD_z, getD_s, List.getElem?_cons_zero, List.getElem?_cons_succ, List.getElem?_nil, Option.getD_some, Option.getD_none, List.nil_append, List.cons_append, List.drop_succ_cons, List.drop_zero, Option.getD]
        repeat (first | refine stp ?_ | (refine sti ?_; intro _) | refine stf ?_ | (refine stb ?_; intro _))
        refine G.again (i + 1) (by omega) ⟨by omega, ?_⟩ inferInstance (look_sub_cons rfl (look_sub_cons rfl (look_sub_cons rfl look_sub_nil))) (List.Sublist.refl _)
        rw [List.take_succ_eq_append_getElem hi1, List.take_succ_eq_append_getElem hi2, hm, he]
      · repeat (first | refine stp ?_ | (refine sti ?_; intro _) | refine stf ?_ | (refine stb ?_; intro _))
        refine W.draw 9 [⟨?v0_2, fun _ z => []⟩, ⟨?v1_2, fun _ z => []⟩, ⟨fun _ z => z, fun _ z => [fPt z xs[i]]⟩, ⟨?v3_2, fun _ z => []⟩, ⟨?v4_2, fun _ z => []⟩, ⟨?v5_2, fun _ z => []⟩, ⟨fun _ z => z, fun _ z => [fPt z ys[i]]⟩, ⟨?v7_2, fun _ z => []⟩, ⟨?v8_2, fun _ z => []⟩] [[], [], [0, 1], [2], [], [], [4, 5], [6], [3, 7]] [8] (by kernel_rfl) (by kernel_rfl) (by kernel_rfl) (by kernel_rfl) ?loc_2 ?ops_2 ?rest_2
        case ops_2 =>
          simp only [AllQ, Nat.reduceAdd, and_true]
          refine ⟨?_, ?_, ?_, ?_, ?_, ?_, ?_, ?_, ?_⟩
          all_goals (intro c z0 Φr Lr K hK; dsimp only [dstOf, kval, kfac, ancE, ancF, getD_z, getD_s, List.getElem?_cons_zero, List.getElem?_cons_succ, List.getElem?_nil, Option.getD_some, Option.getD_none, List.nil_append, List.cons_append, Option.getD] at hK ⊢)
          · refine stp ?_; exact hK z0
          · refine stp ?_; exact hK z0
          · refine o_idxN i rfl rfl rfl rfl rfl hi1 ?_; intro p; exact hK _
          iterate 3 ((first | refine stp ?_ | refine stf ?_); exact hK z0)
          · refine o_idxN i rfl rfl rfl rfl rfl hi2 ?_; intro p; exact hK _
          · (first | refine stp ?_ | refine stf ?_); exact hK z0
          · refine o_int rfl rfl rfl rfl (i_neq_t he) ?_; exact hK z0
        case loc_2 =>
          simp only [AllL, Nat.reduceAdd, and_true]
          refine ⟨?_, ?_, ?_, ?_, ?_, ?_, ?_, ?_, ?_⟩
          all_goals (intro c c' z h; first | exact ⟨rfl, rfl⟩ | (skip))
        intro c
        dsimp only [dstOf, kval, kfac, ancE,  ancF, getD_z, getD_s, List.getElem?_cons_zero, List.getElem?_cons_succ, List.getElem?_nil, Option.getD_some, Option.getD_none, List.nil_append, List.cons_append, List.drop_succ_cons, List.drop_zero, Option.getD]
        repeat (first | refine stp ?_ | (refine sti ?_; intro _) | refine stf ?_ | (refine stb ?_; intro _))
        refine G.ret rfl (.cons (.tmp rfl) .nil) (Φ' := []) (M' := []) inferInstance (List.nil_sublist _) ⟨?_, rfl, rfl⟩
        have : ¬ xs = ys := fun e => he (by subst e; rfl)
        simp [tup, this]
  · repeat (first | refine stp ?_ | (refine sti ?_; intro _) | refine stf ?_ | (refine stb ?_; intro _))
    refine G.ret rfl (.cons (.tmp rfl) .nil) (Φ' := []) (M' := []) inferInstance (List.nil_sublist _) ⟨?_, rfl, rfl⟩
    have : ¬ xs = ys := fun e => hl (by rw [e])
    simp [tup, this]
end Go.Rail
