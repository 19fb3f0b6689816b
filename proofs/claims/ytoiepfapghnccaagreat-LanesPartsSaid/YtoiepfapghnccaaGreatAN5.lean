/- lanes.Measure and lanes.Idle. -/
import Derived.Test.YtoiepfapghnccaaGreatAN3
import Derived.Test.YtoiepfapghnccaaGreatAN4
namespace Go.Rail
open Go Go.Proofs
set_option linter.unusedSimpArgs false
set_option linter.unusedVariables false
set_option maxHeartbeats 400000
set_option maxRecDepth 4000
attribute [local irreducible] OpK G W LW wpListIn Exit.then Exit.inBlock Post rounds opRun bodyPostM intOp
attribute [local irreducible] badM rightS mayG clashS edgesG edgesI clG rightL donesL heldL shapeL idxG errG edgesR idleR
theorem valuesI1_spec (b : Nat) (v : Value) (xs : List Int) (h1 : xs.length ≤ 1000000) : IterR Tryz.prog 48 [.pointer (some ⟨b, 0, none⟩)] (xs.map fun k => [.int .i64 k]) [fBlk b [v] 23, fRp v xs] := by
  intro l T Z hy s0 hs0
  have hy' : ∀ k (h : k < xs.length) s, T k s → FnY Tryz.prog l [.int .i64 xs[k]] s.1 s.2 (YRr (T (k + 1)) Z) := fun k h s hs => by
    have := hy k (by simpa using h) s hs
    simpa using this
  rw [List.length_map]
  show Fn _ _ _ (fBlk b [v] 23 :: fRp v xs :: s0.1) _ _
  refine Fn.enter Tryz.func48 rfl Tryz.ntmps48 (by simp) (fun I0 w0 => ?_)
  repeat (first | refine stp ?_ | (refine sti ?_; intro _) | refine stf ?_ | (refine stb ?_; intro _))
  refine W.loopI (fun (s : Nat × St) => (fBlk b [v] 23 :: fRp v xs :: s.2.1, [(0, .func (.yield l) #[] #[]), (5, v), (6, .int .i64 xs.length), (7, .int .i64 s.1)], s.2.2)) (fun s => s.1 ≤ xs.length ∧ T s.1 s.2) (fun s => xs.length - s.1) (0, s0) ⟨Nat.zero_le _, hs0⟩ ⟨fun I hp => hp⟩ (look_sub_cons rfl (look_sub_cons rfl (look_sub_cons rfl (look_sub_cons rfl look_sub_nil)))) (List.Sublist.refl _) ?_
  rintro ⟨i, st⟩ ⟨hi, hst⟩
  dsimp only at hi hst ⊢
  by_cases hi0 : i = xs.length
  · subst hi0
    repeat (first | refine stp ?_ | (refine sti ?_; intro _) | refine stf ?_ | (refine stb ?_; intro _))
    exact G.fin rfl .nil (Φ' := st.1) (M' := st.2) ⟨fun I hp φ hφ => hp φ (.tail _ (.tail _ hφ))⟩ (List.Sublist.refl _) (.inl hst)
  · have hi1 : i < xs.length := by omega
    repeat (first | refine stp ?_ | (refine sti ?_; intro _) | refine stf ?_ | (refine stb ?_; intro _))
    refine o_yieldR (Mr := []) rfl rfl rfl rfl (hy' i hi1 st hst) (fun I hp φ hφ => hp φ (by simp [hφ])) (by simp) ?_ ?_
    · intro st2 hst2
      repeat (first | refine stp ?_ | (refine sti ?_; intro _) | refine stf ?_ | (refine stb ?_; intro _))
      refine G.again (S := Nat × St) (i + 1, st2) (by dsimp only; omega) ⟨by dsimp only; omega, hst2⟩ ⟨fun I hp φ hφ => ?_⟩ (look_sub_cons rfl (look_sub_cons rfl (look_sub_cons rfl (look_sub_cons rfl look_sub_nil)))) (by simp)
      rcases List.mem_cons.1 hφ with rfl | hφ
      · exact hp _ (by simp)
      · rcases List.mem_cons.1 hφ with rfl | hφ
        · exact hp _ (by simp)
        · exact hp _ (by simp [hφ])
    · intro s hs
      repeat (first | refine stp ?_ | (refine sti ?_; intro _) | refine stf ?_ | (refine stb ?_; intro _))
      exact G.ret rfl .nil (Φ' := s.1) (M' := s.2) ⟨fun I hp φ hφ => hp φ (List.mem_append_left _ hφ)⟩ (by simp) (.inr hs)
theorem valuesI_spec (a : Option Addr) (n cap : Nat) : Fn Tryz.prog 25 [.slice a n cap] [] [] (fun u Φ' M' => ∃ b, u = .func (.func 48) #[] #[.pointer (some ⟨b, 0, none⟩)] ∧ Φ' = [fBlk b [.slice a n cap] 23] ∧ M' = []) := by
  refine Fn.enter Tryz.func25 rfl Tryz.ntmps25 (by simp) (fun I0 w0 => ?_)
  repeat (first | refine stp ?_ | (refine sti ?_; intro _) | refine stf ?_ | (refine stb ?_; intro _))
  rename_i b
  refine o_func rfl rfl rfl rfl ?_
  repeat (first | refine stp ?_ | (refine sti ?_; intro _) | refine stf ?_ | (refine stb ?_; intro _))
  refine G.give b (cs := [.slice a n cap]) (t := 23) ?_
  exact G.ret rfl (.cons (.tmp rfl) .nil) (Φ' := [fBlk b [.slice a n cap] 23]) (M' := []) inferInstance (List.nil_sublist _) ⟨b, rfl, rfl, rfl⟩
theorem encI_len (xs : List Int) : ∀ vs ∈ xs.map (fun k => [Value.int .i64 k]), vs.length = 1 := by
  intro vs h
  obtain ⟨p, _, rfl⟩ := List.mem_map.1 h
  rfl
theorem sumI_spec (b : Nat) (v : Value) (xs : List Int) (h1 : xs.length ≤ 64) (hb : ∀ x ∈ xs, 0 ≤ x ∧ x ≤ 1099511627776) : FnV Tryz.prog 24 [.func (.func 48) #[] #[.pointer (some ⟨b, 0, none⟩)]] [fBlk b [v] 23, fRp v xs] (.int .i64 xs.sum) := by
  refine Fn.enter Tryz.func24 rfl Tryz.ntmps24 (by simp) (fun I0 w0 => ?_)
  repeat (first | refine stp ?_ | (refine sti ?_; intro _) | refine stf ?_ | (refine stb ?_; intro _))
  rename_i b2
  refine W.rangeFunc (enc := xs.map fun k => [.int .i64 k]) (ps := [5]) (Φi := [fBlk b [v] 23, fRp v xs]) (Mr := []) (fun k => ([], [(b2, Ob [.int .i64 (xs.take k).sum] 3)])) (fun _ _ => False) rfl (valuesI1_spec b v xs (by omega)).plain (by decide) (encI_len xs) inferInstance inferInstance (List.Perm.refl _) ?_ ?_ ?_
  · intro l rec I0' w0' k hk
    have hk1 : k < xs.length := by simpa using hk
    have hs := sum_take hk1
    have hsb := sum_bound hb k
    have hxb := hb xs[k] (List.getElem_mem hk1)
    dsimp only
    rw [List.getElem_map]
    show W _ _ _ _ ((5, Value.int .i64 xs[k]) :: _) _
    repeat (first | refine stp ?_ | (refine sti ?_; intro _) | refine stf ?_ | (refine stb ?_; intro _))
    refine G.begin (by rfl) ?_
    repeat (first | refine stp ?_ | (refine sti ?_; intro _) | refine stf ?_ | (refine stb ?_; intro _))
    rw [← hs]
    exact G.roundEnd inferInstance (Φ' := []) (M'' := [(b2, Ob [.int .i64 (xs.take (k + 1)).sum] 3)]) (.inl ⟨rfl, rfl, rfl⟩) inferInstance (List.Sublist.refl _)
  · intro D
    rw [List.length_map, List.take_length]
    dsimp only [List.cons_append, List.nil_append]
    repeat (first | refine stp ?_ | (refine sti ?_; intro _) | refine stf ?_ | (refine stb ?_; intro _))
    refine G.unmark inferInstance ?_
    refine G.ret rfl (.cons (.cell1 rfl) .nil) (Φ' := []) (M' := []) inferInstance (List.nil_sublist _) ⟨?_, rfl, rfl⟩
    rfl
  · intro D c s h
    exact h.elim
theorem measure_spec (v : Value) (l : Lot) (hl : FitL l) : FnV Tryz.prog 10 [v] [fRp v l] (.tuple #[.int .i64 (measureL l), .int .i64 (errL l)]) := by
  have hr := fun w => lright_spec w l hl
  refine Fn.enter Tryz.func10 rfl Tryz.ntmps10 (by simp) (fun I0 w0 => ?_)
  refine W.bare (G.lot v l ?_)
  intro a1 c1 a2 c2 a3 c3 a4 c4 a5 c5 e
  subst e
  unfold measureL errL
  cases h : rightL l with
  | false =>
    rw [h] at hr
    repeat (first | refine stp ?_ | (refine sti ?_; intro _) | refine stf ?_ | (refine stb ?_; intro _))
    refine o_callV rfl rfl rfl rfl (hr _) rfl ?_
    repeat (first | refine stp ?_ | (refine sti ?_; intro _) | refine stf ?_ | (refine stb ?_; intro _))
    exact G.ret rfl (.cons (.tmp rfl) (.cons (.tmp rfl) .nil)) (Φ' := []) (M' := []) inferInstance (List.nil_sublist _) ⟨rfl, rfl, rfl⟩
  | true =>
    rw [h] at hr
    have hp := right_parts2 h
    have hsh := shape_parts hp.2
    have h64 := may_len hp.1
    repeat (first | refine stp ?_ | (refine sti ?_; intro _) | refine stf ?_ | (refine stb ?_; intro _))
    refine o_callV rfl rfl rfl rfl (hr _) rfl ?_
    repeat (first | refine stp ?_ | (refine sti ?_; intro _) | refine stf ?_ | (refine stb ?_; intro _))
    refine OpK.call rfl rfl rfl rfl (valuesI_spec a2 l.left.length c2) inferInstance (Mr := _) (List.Perm.refl _) ?_
    rintro u Φ' Mc' ⟨b, rfl, rfl, rfl⟩
    dsimp only [List.cons_append, List.nil_append]
    repeat (first | refine stp ?_ | (refine sti ?_; intro _) | refine stf ?_ | (refine stb ?_; intro _))
    refine o_callV rfl rfl rfl rfl (sumI_spec b (.slice a2 l.left.length c2) l.left (by omega) hsh.2.2.2.2) rfl ?_
    repeat (first | refine stp ?_ | (refine sti ?_; intro _) | refine stf ?_ | (refine stb ?_; intro _))
    exact G.ret rfl (.cons (.tmp rfl) (.cons (.tmp rfl) .nil)) (Φ' := []) (M' := []) inferInstance (List.nil_sublist _) ⟨rfl, rfl, rfl⟩

theorem idleR_at {A : List Int} {i m : Nat} (h : (idleL A).drop m = idleR A i) (hi : i < A.length) (h1 : A[i] = -1) : ∃ hm : m < (idleL A).length, (idleL A)[m] = i ∧ (idleL A).drop (m + 1) = idleR A (i + 1) := by
  rw [idleR_step hi, if_pos h1] at h
  have hm : m < (idleL A).length := by
    apply Decidable.byContradiction
    intro hc
    rw [List.drop_eq_nil_of_le (by omega)] at h
    cases h
  rw [List.drop_eq_getElem_cons hm] at h
  exact ⟨hm, (List.cons.inj h).1, (List.cons.inj h).2⟩
theorem idle1_spec (b : Nat) (v1 v2 v4 v5 : Value) (a3 : Option Addr) (c3 : Nat) (A : List Int) (h1 : A.length ≤ 1000000) : IterR Tryz.prog 50 [.pointer (some ⟨b, 0, none⟩)] ((idleL A).map fun (k : Nat) => [.int .i64 (k : Int)]) [fBlk b [v1, v2, .slice a3 A.length c3, v4, v5] 28, fRp (.slice a3 A.length c3) A] := by
  intro l T Z hy s0 hs0
  have hy' : ∀ k (h : k < (idleL A).length) s, T k s → FnY Tryz.prog l [.int .i64 ((idleL A)[k] : Nat)] s.1 s.2 (YRr (T (k + 1)) Z) := fun k h s hs => by
    have := hy k (by simpa using h) s hs
    simpa using this
  rw [List.length_map]
  show Fn _ _ _ (fBlk b [v1, v2, .slice a3 A.length c3, v4, v5] 28 :: fRp (.slice a3 A.length c3) A :: s0.1) _ _
  refine Fn.enter Tryz.func50 rfl Tryz.ntmps50 (by simp) (fun I0 w0 => ?_)
  repeat (first | refine stp ?_ | (refine sti ?_; intro _) | refine stf ?_ | (refine stb ?_; intro _))
  refine W.loopI (fun (s : (Nat × Nat) × St) => (fBlk b [v1, v2, .slice a3 A.length c3, v4, v5] 28 :: fRp (.slice a3 A.length c3) A :: s.2.1, [(0, .func (.yield l) #[] #[]), (6, .slice a3 A.length c3), (7, .int .i64 A.length), (8, .int .i64 s.1.1)], s.2.2)) (fun s => s.1.1 ≤ A.length ∧ (idleL A).drop s.1.2 = idleR A s.1.1 ∧ s.1.2 ≤ (idleL A).length ∧ T s.1.2 s.2) (fun s => A.length - s.1.1) ((0, 0), s0) ⟨Nat.zero_le _, rfl, Nat.zero_le _, hs0⟩ ⟨fun I hp => hp⟩ (look_sub_cons rfl (look_sub_cons rfl (look_sub_cons rfl (look_sub_cons rfl look_sub_nil)))) (List.Sublist.refl _) ?_
  rintro ⟨⟨i, m⟩, st⟩ ⟨hi, hd, hm, hst⟩
  dsimp only at hi hd hm hst ⊢
  by_cases hi0 : i = A.length
  · subst hi0
    rw [idleR_end (Nat.le_refl _), List.drop_eq_nil_iff] at hd
    have hme : m = (idleL A).length := by omega
    subst hme
    repeat (first | refine stp ?_ | (refine sti ?_; intro _) | refine stf ?_ | (refine stb ?_; intro _))
    exact G.fin rfl .nil (Φ' := st.1) (M' := st.2) ⟨fun I hp φ hφ => hp φ (.tail _ (.tail _ hφ))⟩ (List.Sublist.refl _) (.inl hst)
  · have hi1 : i < A.length := by omega
    by_cases hno : A[i] = -1
    · obtain ⟨hm1, hmi, hd'⟩ := idleR_at hd hi1 hno
      have hyk := hy' m hm1 st hst
      rw [hmi] at hyk
      repeat (first | refine stp ?_ | (refine sti ?_; intro _) | refine stf ?_ | (refine stb ?_; intro _))
      refine o_yieldR (Mr := []) rfl rfl rfl rfl hyk (fun I hp φ hφ => hp φ (by simp [hφ])) (by simp) ?_ ?_
      · intro st2 hst2
        repeat (first | refine stp ?_ | (refine sti ?_; intro _) | refine stf ?_ | (refine stb ?_; intro _))
        refine G.again (S := (Nat × Nat) × St) ((i + 1, m + 1), st2) (by dsimp only; omega) ⟨by dsimp only; omega, hd', hm1, hst2⟩ ⟨fun I hp φ hφ => ?_⟩ (look_sub_cons rfl (look_sub_cons rfl (look_sub_cons rfl (look_sub_cons rfl look_sub_nil)))) (by simp)
        rcases List.mem_cons.1 hφ with rfl | hφ
        · exact hp _ (by simp)
        · rcases List.mem_cons.1 hφ with rfl | hφ
          · exact hp _ (by simp)
          · exact hp _ (by simp [hφ])
      · intro s hs
        repeat (first | refine stp ?_ | (refine sti ?_; intro _) | refine stf ?_ | (refine stb ?_; intro _))
        exact G.ret rfl .nil (Φ' := s.1) (M' := s.2) ⟨fun I hp φ hφ => hp φ (List.mem_append_left _ hφ)⟩ (by simp) (.inr hs)
    · rw [idleR_step hi1, if_neg hno] at hd
      repeat (first | refine stp ?_ | (refine sti ?_; intro _) | refine stf ?_ | (refine stb ?_; intro _))
      refine G.again (S := (Nat × Nat) × St) ((i + 1, m), st) (by dsimp only; omega) ⟨by dsimp only; omega, hd, hm, hst⟩ ⟨fun I hp φ hφ => hp φ ?_⟩ (look_sub_cons rfl (look_sub_cons rfl (look_sub_cons rfl (look_sub_cons rfl look_sub_nil)))) (List.Sublist.refl _)
      first | exact hφ | exact .tail _ hφ | exact .tail _ (.tail _ hφ)
theorem idle_spec (v1 v2 v3 v4 v5 : Value) (o1 : ones [v1, v2, v3, v4, v5] = true) : Fn Tryz.prog 27 [.agg #[v1, v2, v3, v4, v5]] [] [] (fun u Φ' M' => ∃ b, u = .func (.func 50) #[] #[.pointer (some ⟨b, 0, none⟩)] ∧ Φ' = [fBlk b [v1, v2, v3, v4, v5] 28] ∧ M' = []) := by
  refine Fn.enter Tryz.func27 rfl Tryz.ntmps27 (by simp) (fun I0 w0 => ?_)
  repeat (first | refine stp ?_ | (refine sti ?_; intro _) | refine stf ?_ | (refine stb ?_; intro _))
  rename_i b
  refine o_func rfl rfl rfl rfl ?_
  repeat (first | refine stp ?_ | (refine sti ?_; intro _) | refine stf ?_ | (refine stb ?_; intro _))
  refine G.give b (cs := [v1, v2, v3, v4, v5]) (t := 28) ?_
  exact G.ret rfl (.cons (.tmp rfl) .nil) (Φ' := [fBlk b [v1, v2, v3, v4, v5] 28]) (M' := []) inferInstance (List.nil_sublist _) ⟨b, rfl, rfl, rfl⟩
theorem encN_len (xs : List Nat) : ∀ vs ∈ xs.map (fun (k : Nat) => [Value.int .i64 (k : Int)]), vs.length = 1 := by
  intro vs h
  obtain ⟨p, _, rfl⟩ := List.mem_map.1 h
  rfl
def natI (xs : List Nat) : List Int := xs.map fun (k : Nat) => (k : Int)
theorem natI_length (xs : List Nat) : (natI xs).length = xs.length := by simp [natI]
theorem natI_get (xs : List Nat) {k : Nat} (h : k < (natI xs).length) : (natI xs)[k] = ((xs[k]'(by simpa [natI] using h) : Nat) : Int) := by simp [natI]
theorem appendSeq_spec (b : Nat) (xs : List Nat) {Φi : List Fa} (hit : IterR Tryz.prog 50 [.pointer (some ⟨b, 0, none⟩)] (xs.map fun (k : Nat) => [.int .i64 (k : Int)]) Φi) (hx : xs.length ≤ 1000000) : Fn Tryz.prog 49 [.slice none 0 0, .func (.func 50) #[] #[.pointer (some ⟨b, 0, none⟩)]] Φi [] (ROwn 3 (natI xs)) := by
  refine Fn.enter Tryz.func49 rfl Tryz.ntmps49 (by simp) (fun I0 w0 => ?_)
  repeat (first | refine stp ?_ | (refine sti ?_; intro _) | refine stf ?_ | (refine stb ?_; intro _))
  rename_i b4
  have hlen := natI_length xs
  refine W.rangeFuncR (enc := xs.map fun (k : Nat) => [.int .i64 (k : Int)]) (ps := [7]) (Φi := Φi) (Mr := []) (fun k s => ∃ w o, IsOwn 1 w ((natI xs).take k).length o ∧ s = ([fRow (ocells o) ((natI xs).take k)], (b4, Ob [w] 23) :: ownM 3 o)) (fun _ _ => False) rfl hit (by decide) (encN_len xs) ⟨fun I hp => hp⟩ ([fRow ([] : List Value) ([] : List Int)], [(b4, Ob [.slice none 0 0] 23)]) ⟨.slice none 0 0, none, ⟨rfl, rfl⟩, rfl⟩ inferInstance (List.Perm.refl _) ?_ ?_ ?_
  · rintro l rec I0' w0' k hk _ ⟨w, o, hown, rfl⟩
    have hk1 : k < xs.length := by simpa using hk
    have hk2 : k < (natI xs).length := by omega
    have htk : (natI xs).take k ++ [((xs[k] : Nat) : Int)] = (natI xs).take (k + 1) := by rw [List.take_succ_eq_append_getElem hk2, natI_get]
    have htl : ((natI xs).take k).length = k := by rw [List.length_take]; omega
    dsimp only
    rw [List.getElem_map]
    show W _ _ _ _ ((7, Value.int .i64 (xs[k] : Nat)) :: _) _
    repeat (first | refine stp ?_ | (refine sti ?_; intro _) | refine stf ?_ | (refine stb ?_; intro _))
    refine G.begin (by rfl) ?_
    repeat (first | refine stp ?_ | (refine sti ?_; intro _) | refine stf ?_ | (refine stb ?_; intro _))
    refine o_lit (xs := [((xs[k] : Nat) : Int)]) ⟨by decide, rfl, by decide⟩ rfl rfl rfl ⟨fun _ _ => Rp.flat.2 rfl, trivial⟩ rfl ?_
    intro p1
    repeat (first | refine stp ?_ | (refine sti ?_; intro _) | refine stf ?_ | (refine stb ?_; intro _))
    refine o_app2 (Mr := [_, _]) o (xs := (natI xs).take k) (ys := [((xs[k] : Nat) : Int)]) hown ⟨by simp; omega, by simp; omega, rfl⟩ rfl rfl rfl rfl inferInstance inferInstance (List.Perm.refl _) ?_
    intro w' o' hown'
    rw [htk] at hown' ⊢
    dsimp only [List.cons_append, List.nil_append]
    repeat (first | refine stp ?_ | (refine sti ?_; intro _) | refine stf ?_ | (refine stb ?_; intro _))
    refine o_store (vs := [w']) (cs' := [w']) rfl rfl rfl (own_cell hown').1 rfl (Nat.le_of_ble_eq_true rfl) (own_cell hown').2 rfl ?_
    repeat (first | refine stp ?_ | (refine sti ?_; intro _) | refine stf ?_ | (refine stb ?_; intro _))
    refine G.roundEnd inferInstance (Φ' := [fRow (ocells o') ((natI xs).take (k + 1))]) (M'' := (b4, Ob [w'] 23) :: ownM 3 o') ?_ inferInstance (List.Sublist.refl _)
    exact Or.inl ⟨rfl, ([fRow (ocells o') ((natI xs).take (k + 1))], (b4, Ob [w'] 23) :: ownM 3 o'), ⟨w', o', hown', rfl⟩, rfl⟩
  · rintro D _ ⟨w, o, hown, rfl⟩
    rw [List.length_map, ← hlen, List.take_length] at hown ⊢
    refine G.perm ?_ List.perm_append_comm
    dsimp only [List.cons_append, List.nil_append]
    repeat (first | refine stp ?_ | (refine sti ?_; intro _) | refine stf ?_ | (refine stb ?_; intro _))
    refine G.unmark inferInstance ?_
    exact G.ret rfl (.cons (.tmp rfl) .nil) (Φ' := [fRow (ocells o) (natI xs)]) (M' := ownM 3 o) inferInstance (List.sublist_cons_self _ _) ⟨o, hown, rfl, rfl⟩
  · intro D c s h
    exact h.elim
theorem collect_spec (b : Nat) (xs : List Nat) {Φi : List Fa} (hit : IterR Tryz.prog 50 [.pointer (some ⟨b, 0, none⟩)] (xs.map fun (k : Nat) => [.int .i64 (k : Int)]) Φi) (hx : xs.length ≤ 1000000) : Fn Tryz.prog 26 [.func (.func 50) #[] #[.pointer (some ⟨b, 0, none⟩)]] Φi [] (ROwn 3 (natI xs)) := by
  refine Fn.enter Tryz.func26 rfl Tryz.ntmps26 (by simp) (fun I0 w0 => ?_)
  repeat (first | refine stp ?_ | (refine sti ?_; intro _) | refine stf ?_ | (refine stb ?_; intro _))
  refine o_callO (hΦ := ⟨fun I hp => hp⟩) rfl rfl rfl rfl (appendSeq_spec b xs hit hx) ?_
  intro v o hown
  repeat (first | refine stp ?_ | (refine sti ?_; intro _) | refine stf ?_ | (refine stb ?_; intro _))
  refine G.ret rfl (.cons (.tmp rfl) .nil) (Φ' := [fRow (ocells o) (natI xs)]) (M' := ownM 3 o) inferInstance (List.Sublist.refl _) ⟨o, hown, rfl, rfl⟩
theorem idles_spec (v : Value) (l : Lot) (hl : FitL l) : Fn Tryz.prog 11 [v] [fRp v l] [] (RTup (tupE (errL l)) 3 (idlesL l)) := by
  have hr := fun w => lright_spec w l hl
  refine Fn.enter Tryz.func11 rfl Tryz.ntmps11 (by simp) (fun I0 w0 => ?_)
  refine W.bare (G.lot v l ?_)
  intro a1 c1 a2 c2 a3 c3 a4 c4 a5 c5 e
  subst e
  unfold idlesL errL
  cases h : rightL l with
  | false =>
    rw [h] at hr
    repeat (first | refine stp ?_ | (refine sti ?_; intro _) | refine stf ?_ | (refine stb ?_; intro _))
    refine o_callV rfl rfl rfl rfl (hr _) rfl ?_
    repeat (first | refine stp ?_ | (refine sti ?_; intro _) | refine stf ?_ | (refine stb ?_; intro _))
    exact G.ret rfl (.cons (.tmp rfl) (.cons (.tmp rfl) .nil)) (Φ' := [fRow ([] : List Value) ([] : List Int)]) (M' := []) inferInstance (List.nil_sublist _) ⟨_, none, rfl, ⟨rfl, rfl⟩, rfl, rfl⟩
  | true =>
    rw [h] at hr
    have hp := right_parts2 h
    have hsh := shape_parts hp.2
    have hil : (idleL l.at_).length ≤ l.at_.length := by
      unfold idleL idleR
      exact Nat.le_trans (List.length_filter_le _ _) (by simp)
    repeat (first | refine stp ?_ | (refine sti ?_; intro _) | refine stf ?_ | (refine stb ?_; intro _))
    refine o_callV rfl rfl rfl rfl (hr _) rfl ?_
    repeat (first | refine stp ?_ | (refine sti ?_; intro _) | refine stf ?_ | (refine stb ?_; intro _))
    refine OpK.call rfl rfl rfl rfl (idle_spec _ _ _ _ _ rfl) inferInstance (Mr := _) (List.Perm.refl _) ?_
    rintro u Φ' Mc' ⟨b, rfl, rfl, rfl⟩
    dsimp only [List.cons_append, List.nil_append]
    repeat (first | refine stp ?_ | (refine sti ?_; intro _) | refine stf ?_ | (refine stb ?_; intro _))
    refine o_callO rfl rfl rfl rfl (collect_spec b (idleL l.at_) (idle1_spec b (.slice a1 l.sets.length c1) (.slice a2 l.left.length c2) (.slice a4 l.begun.length c4) (.slice a5 l.done.length c5) a3 c3 l.at_ (by omega)) (by omega)) ?_
    intro v o hown
    repeat (first | refine stp ?_ | (refine sti ?_; intro _) | refine stf ?_ | (refine stb ?_; intro _))
    exact G.ret rfl (.cons (.tmp rfl) (.cons (.tmp rfl) .nil)) (Φ' := [fRow (ocells o) (natI (idleL l.at_))]) (M' := ownM 3 o) inferInstance (List.sublist_append_right _ _) ⟨_, o, rfl, hown, rfl, rfl⟩
end Go.Rail
