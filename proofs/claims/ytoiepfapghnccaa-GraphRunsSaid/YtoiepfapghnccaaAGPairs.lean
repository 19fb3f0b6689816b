/- What goes through those in one another's way. -/
import Derived.Test.YtoiepfapghnccaaAGMay
import Derived.Test.YtoiepfapghnccaaRailD
namespace Go.Rail
open Go Go.Proofs
set_option linter.unusedSimpArgs false
set_option linter.unusedVariables false
set_option maxHeartbeats 400000
set_option maxRecDepth 4000
attribute [local irreducible] OpK G W LW wpListIn Exit.then Exit.inBlock Post rounds opRun bodyPostM intOp

attribute [local irreducible] lexN cmpW cmpA cmpK cmpI makeS setK commonL common clashS rightS rowG restG edgesG clG

def encP (p : Nat × Nat) : List Value := [.int .i64 (p.1 : Nat), .int .i64 (p.2 : Nat)]
structure PrSt where
  i : Nat
  c : Nat
  st : St
theorem pairs1_spec (b : Nat) (a : Option Addr) (cap : Nat) (xs : List Sets) (hx : xs.length ≤ 1000000) (hs : ∀ s ∈ xs, s.reads.length ≤ 1000000 ∧ s.writes.length ≤ 1000000) : IterR Try.prog 109 [.pointer (some ⟨b, 0, none⟩)] ((edgesG xs).map encP) [fBlk b [.slice a xs.length cap] 45, fRp (.slice a xs.length cap) xs] := by
  intro l T Z hyl s0 hs0
  have hy' : ∀ k (h : k < (edgesG xs).length) s, T k s → FnY Try.prog l (encP (edgesG xs)[k]) s.1 s.2 (YRr (T (k + 1)) Z) := fun k h s hs => by
    have := hyl k (by simpa using h) s hs
    simpa using this
  rw [List.length_map]
  generalize hE : edgesG xs = E at hy'
  have hE0 : E = restG xs 0 := by rw [← hE]; with_unfolding_all rfl
  show Fn _ _ _ (fBlk b [.slice a xs.length cap] 45 :: fRp (.slice a xs.length cap) xs :: s0.1) _ _
  refine Fn.enter Try.func109 rfl Try.ntmps109 (by simp) (fun I0 w0 => ?_)
  repeat (first | refine stp ?_ | (refine k_indexAddr ?_; first | (refine o_ixA _ rfl rfl rfl rfl rfl (h := ?_); intro _) | (refine o_ixB rfl rfl rfl rfl (h := ?_); intro _)) | (refine k_load ?_; refine o_loadF rfl rfl rfl rfl ?_) | (refine stb ?_; intro _))
  refine W.loopI (fun (s : PrSt) => (fBlk b [.slice a xs.length cap] 45 :: fRp (.slice a xs.length cap) xs :: s.st.1, [(0, .func (.yield l) #[] #[]), (1, .pointer (some ⟨b, 0, none⟩)), (7, .slice a xs.length cap), (8, .int .i64 xs.length), (9, .int .i64 s.i)], s.st.2)) (fun s => s.i ≤ xs.length ∧ s.c ≤ E.length ∧ E.drop s.c = restG xs s.i ∧ T s.c s.st) (fun s => xs.length - s.i) ⟨0, 0, s0⟩ ⟨Nat.zero_le _, Nat.zero_le _, hE0, hs0⟩ ⟨fun I hp => hp⟩ (look_sub_cons rfl (look_sub_cons rfl (look_sub_cons rfl (look_sub_cons rfl (look_sub_cons rfl look_sub_nil))))) (List.Sublist.refl _) ?_
  rintro ⟨i, c, st⟩ ⟨hi, hc, hd, hst⟩
  dsimp only at hi hc hd hst ⊢
  by_cases hi0 : i = xs.length
  · have e1 : c = E.length := by
      rw [restG_end (by omega)] at hd
      have := List.drop_eq_nil_iff.1 hd; omega
    repeat (first | refine stp ?_ | (refine k_indexAddr ?_; first | (refine o_ixA _ rfl rfl rfl rfl rfl (h := ?_); intro _) | (refine o_ixB rfl rfl rfl rfl (h := ?_); intro _)) | (refine k_load ?_; refine o_loadF rfl rfl rfl rfl ?_) | (refine stb ?_; intro _))
    exact G.fin rfl .nil (Φ' := st.1) (M' := st.2) ⟨fun I hp φ hφ => hp φ (.tail _ (.tail _ hφ))⟩ (List.Sublist.refl _) (.inl (by rw [← e1]; exact hst))
  · have hi1 : i < xs.length := by omega
    have hsA := hs xs[i] (List.getElem_mem hi1)
    repeat (first | refine stp ?_ | (refine k_indexAddr ?_; first | (refine o_ixA _ rfl rfl rfl rfl rfl (h := ?_); intro _) | (refine o_ixB rfl rfl rfl rfl (h := ?_); intro _)) | (refine k_load ?_; refine o_loadF rfl rfl rfl rfl ?_) | (refine stb ?_; intro _))
    refine o_loadR rfl rfl rfl rfl ?_
    intro vA
    refine G.sets vA xs[i] ?_
    intro r1 w1 e1
    refine G.slice r1 xs[i].reads ?_
    intro a1 c1 x1 zx1
    refine G.slice w1 xs[i].writes ?_
    intro b1 d1 y1 zy1
    subst x1 y1
    subst e1
    repeat (first | refine stp ?_ | (refine k_indexAddr ?_; first | (refine o_ixA _ rfl rfl rfl rfl rfl (h := ?_); intro _) | (refine o_ixB rfl rfl rfl rfl (h := ?_); intro _)) | (refine k_load ?_; refine o_loadF rfl rfl rfl rfl ?_) | (refine stb ?_; intro _))
    rename_i b4
    refine o_slice (xs := xs) (i + 1) xs.length rfl rfl rfl ⟨_, _, rfl, by simp⟩ rfl (by omega) (Nat.le_refl _) ?_
    intro v17
    rw [List.take_length]
    have hld : (xs.drop (i + 1)).length = xs.length - (i + 1) := by simp
    repeat (first | refine stp ?_ | (refine k_indexAddr ?_; first | (refine o_ixA _ rfl rfl rfl rfl rfl (h := ?_); intro _) | (refine o_ixB rfl rfl rfl rfl (h := ?_); intro _)) | (refine k_load ?_; refine o_loadF rfl rfl rfl rfl ?_) | (refine stb ?_; intro _))
    generalize hA : xs[i] = A at hsA
    refine W.loopI (fun (s : PrSt) => (fBlk b [.slice a xs.length cap] 45 :: fRp (.slice a xs.length cap) xs :: fRp v17 (xs.drop (i + 1)) :: fRp (.agg #[.slice a1 A.reads.length c1, .slice b1 A.writes.length d1]) A :: s.st.1, [(0, .func (.yield l) #[] #[]), (1, .pointer (some ⟨b, 0, none⟩)), (7, .slice a xs.length cap), (8, .int .i64 xs.length), (9, .int .i64 i), (3, .int .i64 i), (4, .pointer (some ⟨b4, 0, none⟩)), (17, v17), (18, .int .i64 (xs.drop (i + 1)).length), (19, .int .i64 s.i)], (b4, Ob [.slice a1 A.reads.length c1, .slice b1 A.writes.length d1] 24) :: s.st.2)) (fun s => s.i ≤ xs.length - (i + 1) ∧ s.c ≤ E.length ∧ E.drop s.c = rowG xs i (i + 1 + s.i) ++ restG xs (i + 1) ∧ T s.c s.st) (fun s => xs.length - s.i) ⟨0, c, st⟩ ⟨Nat.zero_le _, hc, by dsimp only; rw [hd, restG_step hi1, Nat.add_zero], hst⟩ ⟨fun I hp φ hφ => ?_⟩ (look_sub_cons rfl (look_sub_cons rfl (look_sub_cons rfl (look_sub_cons rfl (look_sub_cons rfl (look_sub_cons rfl (look_sub_cons rfl (look_sub_cons rfl (look_sub_cons rfl (look_sub_cons rfl look_sub_nil)))))))))) (List.Sublist.refl _) ?_
    · rcases List.mem_cons.1 hφ with rfl | hφ
      · exact hp _ (by simp)
      · rcases List.mem_cons.1 hφ with rfl | hφ
        · exact hp _ (by simp)
        · rcases List.mem_cons.1 hφ with rfl | hφ
          · exact hp _ (by simp)
          · rcases List.mem_cons.1 hφ with rfl | hφ
            · exact hp _ (by simp)
            · exact hp _ (by simp [hφ])
    rintro ⟨j, c', st'⟩ ⟨hj, hc', hd', hst'⟩
    dsimp only at hj hc' hd' hst' ⊢
    by_cases hj0 : j = xs.length - (i + 1)
    · have hd2 : E.drop c' = restG xs (i + 1) := by rw [hd', rowG_end (by omega)]; rfl
      repeat (first | refine stp ?_ | (refine k_indexAddr ?_; first | (refine o_ixA _ rfl rfl rfl rfl rfl (h := ?_); intro _) | (refine o_ixB rfl rfl rfl rfl (h := ?_); intro _)) | (refine k_load ?_; refine o_loadF rfl rfl rfl rfl ?_) | (refine stb ?_; intro _))
      refine G.again (S := PrSt) ⟨i + 1, c', st'⟩ (by dsimp only; omega) ⟨by dsimp only; omega, hc', hd2, hst'⟩ ⟨fun I hp φ hφ => ?_⟩ (look_sub_cons rfl (look_sub_cons rfl (look_sub_cons rfl (look_sub_cons rfl (look_sub_cons rfl look_sub_nil))))) (by first | exact List.Sublist.refl _ | exact .cons _ (List.Sublist.refl _))
      rcases List.mem_cons.1 hφ with rfl | hφ
      · exact hp _ (by simp)
      · rcases List.mem_cons.1 hφ with rfl | hφ
        · exact hp _ (by simp)
        · exact hp _ (by simp [hφ])
    · have hj1 : j < (xs.drop (i + 1)).length := by omega
      have hk1 : i + 1 + j < xs.length := by omega
      have hxb : (xs.drop (i + 1))[j] = xs[i + 1 + j] := by simp
      have hsB := hs xs[i + 1 + j] (List.getElem_mem hk1)
      repeat (first | refine stp ?_ | (refine k_indexAddr ?_; first | (refine o_ixA _ rfl rfl rfl rfl rfl (h := ?_); intro _) | (refine o_ixB rfl rfl rfl rfl (h := ?_); intro _)) | (refine k_load ?_; refine o_loadF rfl rfl rfl rfl ?_) | (refine stb ?_; intro _))
      refine o_loadR rfl rfl rfl rfl ?_
      intro vB
      rw [hxb]
      have hcl := clG_eq hi1 hk1
      rw [hA] at hcl
      generalize xs[i + 1 + j] = B at hsB hcl ⊢
      refine G.sets vB B ?_
      intro r2 w2 e2
      refine G.slice r2 B.reads ?_
      intro a2 c2 x2 zx2
      refine G.slice w2 B.writes ?_
      intro b2 d2 y2 zy2
      subst x2 y2
      subst e2
      repeat (first | refine stp ?_ | (refine k_indexAddr ?_; first | (refine o_ixA _ rfl rfl rfl rfl rfl (h := ?_); intro _) | (refine o_ixB rfl rfl rfl rfl (h := ?_); intro _)) | (refine k_load ?_; refine o_loadF rfl rfl rfl rfl ?_) | (refine stb ?_; intro _))
      rename_i b6
      cases hcb : clashS A B with
      | false =>
        refine o_callV rfl rfl rfl rfl (aclash_spec (.agg #[.slice a1 A.reads.length c1, .slice b1 A.writes.length d1]) (.agg #[.slice a2 B.reads.length c2, .slice b2 B.writes.length d2]) A B hsA hsB) (congrArg Value.bool hcb) ?_
        repeat (first | refine stp ?_ | (refine k_indexAddr ?_; first | (refine o_ixA _ rfl rfl rfl rfl rfl (h := ?_); intro _) | (refine o_ixB rfl rfl rfl rfl (h := ?_); intro _)) | (refine k_load ?_; refine o_loadF rfl rfl rfl rfl ?_) | (refine stb ?_; intro _))
        have hr : rowG xs i (i + 1 + j) = rowG xs i (i + 1 + (j + 1)) := by rw [rowG_step hk1, hcl, hcb]; rfl
        exact G.again (S := PrSt) ⟨j + 1, c', st'⟩ (by dsimp only; omega) ⟨by dsimp only; omega, hc', by rw [hd', hr], hst'⟩ ⟨fun I hp φ hφ => by
          rcases List.mem_cons.1 hφ with rfl | hφ
          · exact hp _ (by simp)
          · rcases List.mem_cons.1 hφ with rfl | hφ
            · exact hp _ (by simp)
            · rcases List.mem_cons.1 hφ with rfl | hφ
              · exact hp _ (by simp)
              · rcases List.mem_cons.1 hφ with rfl | hφ
                · exact hp _ (by simp)
                · exact hp _ (by simp [hφ])⟩ (look_sub_cons rfl (look_sub_cons rfl (look_sub_cons rfl (look_sub_cons rfl (look_sub_cons rfl (look_sub_cons rfl (look_sub_cons rfl (look_sub_cons rfl (look_sub_cons rfl (look_sub_cons rfl look_sub_nil)))))))))) (.cons _ (List.Sublist.refl _))
      | true =>
        refine o_callV rfl rfl rfl rfl (aclash_spec (.agg #[.slice a1 A.reads.length c1, .slice b1 A.writes.length d1]) (.agg #[.slice a2 B.reads.length c2, .slice b2 B.writes.length d2]) A B hsA hsB) (congrArg Value.bool hcb) ?_
        repeat (first | refine stp ?_ | (refine k_indexAddr ?_; first | (refine o_ixA _ rfl rfl rfl rfl rfl (h := ?_); intro _) | (refine o_ixB rfl rfl rfl rfl (h := ?_); intro _)) | (refine k_load ?_; refine o_loadF rfl rfl rfl rfl ?_) | (refine stb ?_; intro _))
        have hr : E.drop c' = (i, i + 1 + j) :: (rowG xs i (i + 1 + (j + 1)) ++ restG xs (i + 1)) := by rw [hd', rowG_step hk1, hcl, hcb]; rfl
        have hcE : c' < E.length := by
          apply Classical.byContradiction
          intro hn
          rw [List.drop_eq_nil_of_le (by omega)] at hr
          cases hr
        rw [List.drop_eq_getElem_cons hcE] at hr
        obtain ⟨h7, h8⟩ := List.cons.inj hr
        have hyk := hy' c' hcE st' hst'
        rw [h7] at hyk
        have hyk' : FnY Try.prog l [.int .i64 (i : Int), .int .i64 ((i : Int) + 1 + (j : Int))] st'.1 st'.2 (YRr (T (c' + 1)) Z) := by simpa [encP] using hyk
        refine o_yieldR (Mr := [_, _]) rfl rfl rfl rfl hyk' (fun I hp φ hφ => hp φ (by simp [hφ])) (List.perm_append_comm (l₁ := [_, _])) ?_ ?_
        · intro st2 hst2
          refine G.perm ?_ List.perm_append_comm
          dsimp only [List.cons_append, List.nil_append]
          repeat (first | refine stp ?_ | (refine k_indexAddr ?_; first | (refine o_ixA _ rfl rfl rfl rfl rfl (h := ?_); intro _) | (refine o_ixB rfl rfl rfl rfl (h := ?_); intro _)) | (refine k_load ?_; refine o_loadF rfl rfl rfl rfl ?_) | (refine stb ?_; intro _))
          exact G.again (S := PrSt) ⟨j + 1, c' + 1, st2⟩ (by dsimp only; omega) ⟨by dsimp only; omega, by dsimp only; omega, h8, hst2⟩ ⟨fun I hp φ hφ => by
          rcases List.mem_cons.1 hφ with rfl | hφ
          · exact hp _ (by simp)
          · rcases List.mem_cons.1 hφ with rfl | hφ
            · exact hp _ (by simp)
            · rcases List.mem_cons.1 hφ with rfl | hφ
              · exact hp _ (by simp)
              · rcases List.mem_cons.1 hφ with rfl | hφ
                · exact hp _ (by simp)
                · exact hp _ (by simp [hφ])⟩ (look_sub_cons rfl (look_sub_cons rfl (look_sub_cons rfl (look_sub_cons rfl (look_sub_cons rfl (look_sub_cons rfl (look_sub_cons rfl (look_sub_cons rfl (look_sub_cons rfl (look_sub_cons rfl look_sub_nil)))))))))) (.cons _ (List.Sublist.refl _))
        · intro s hz
          repeat (first | refine stp ?_ | (refine k_indexAddr ?_; first | (refine o_ixA _ rfl rfl rfl rfl rfl (h := ?_); intro _) | (refine o_ixB rfl rfl rfl rfl (h := ?_); intro _)) | (refine k_load ?_; refine o_loadF rfl rfl rfl rfl ?_) | (refine stb ?_; intro _))
          exact G.ret rfl .nil (Φ' := s.1) (M' := s.2) ⟨fun I hp φ hφ => hp φ (by simp [hφ])⟩ (by simp) (.inr hz)
theorem pairs_spec (a : Option Addr) (n cap : Nat) : Fn Try.prog 77 [.slice a n cap] [] [] (fun u Φ' M' => ∃ b, u = .func (.func 109) #[] #[.pointer (some ⟨b, 0, none⟩)] ∧ Φ' = [fBlk b [.slice a n cap] 45] ∧ M' = []) := by
  refine Fn.enter Try.func77 rfl Try.ntmps77 (by simp) (fun I0 w0 => ?_)
  repeat (first | refine stp ?_ | (refine k_indexAddr ?_; first | (refine o_ixA _ rfl rfl rfl rfl rfl (h := ?_); intro _) | (refine o_ixB rfl rfl rfl rfl (h := ?_); intro _)) | (refine k_load ?_; refine o_loadF rfl rfl rfl rfl ?_) | (refine stb ?_; intro _))
  rename_i b
  refine o_func rfl rfl rfl rfl ?_
  repeat (first | refine stp ?_ | (refine k_indexAddr ?_; first | (refine o_ixA _ rfl rfl rfl rfl rfl (h := ?_); intro _) | (refine o_ixB rfl rfl rfl rfl (h := ?_); intro _)) | (refine k_load ?_; refine o_loadF rfl rfl rfl rfl ?_) | (refine stb ?_; intro _))
  refine G.give b (cs := [.slice a n cap]) (t := 45) ?_
  exact G.ret rfl (.cons (.tmp rfl) .nil) (Φ' := [fBlk b [.slice a n cap] 45]) (M' := []) inferInstance (List.nil_sublist _) ⟨b, rfl, rfl, rfl⟩
end Go.Rail
