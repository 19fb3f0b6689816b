/- The document's New. -/
import Derived.Test.YtoiepfapghnccaaGreatAM4
namespace Go.Rail
open Go Go.Proofs
set_option linter.unusedSimpArgs false
set_option linter.unusedVariables false
set_option maxHeartbeats 400000
set_option maxRecDepth 4000
attribute [local irreducible] OpK G W LW wpListIn Exit.then Exit.inBlock Post rounds opRun bodyPostM intOp
attribute [local irreducible] badM rightS mayG clashS edgesG edgesI clG rightL holdL shapeR okA okE okO shapeL idxG errG edgesR idleR readyR errR fillLot
theorem ent_row0' {Φ : List Fa} {α : Type} [GoTy α] : Ent' Φ (fRow ([] : List Value) ([] : List α)) := ⟨fun I _ => ⟨by simp, fun k hk => by cases hk⟩⟩
theorem new_bad' {s : List Sets} {c : List Int} {w : Int} (h : okN s c w = false) : newL s c w = ⟨[], [], [], [], []⟩ := by unfold newL; rw [h]; rfl
theorem perm_push {α : Type} (L A B D : List α) : (L ++ (A ++ (B ++ D))).Perm ((L ++ (B ++ D)) ++ A) :=
  permC fun _ x => by simp only [List.count_append]; omega
structure RnwSt where
  i : Nat
  v : Value
  o : OR
theorem rnew_spec (v vc : Value) (s : List Sets) (cc : List Int) (w : Int) (hs1 : s.length ≤ 1000000) (hs : ∀ x ∈ s, fit6 x) (hc : cc.length ≤ 4611686018427387904) : Fn Tryz.prog 22 [v, vc, .int .i64 w] [fRp v s, fRp vc cc] [] (ROwnLot 3 4 (fun a => .tuple #[a, .int .i64 (errN s cc w)]) (newL s cc w)) := by
  have hMay := fun u => mayR_spec u s hs1 hs
  refine Fn.enter Tryz.func22 rfl Tryz.ntmps22 (by simp) (fun I0 w0 => ?_)
  refine W.bare (G.slice v s ?_)
  intro sa scap e _
  subst e
  refine G.slice vc cc ?_
  intro ca ccap e _
  subst e
  unfold errN
  refine G.code ?_
  cases hm : mayG s with
  | false =>
    have hno : okN s cc w = false := by simp [okN, hm]
    rw [hno, if_neg (by simp)]
    repeat (first | refine stp ?_ | (refine sti ?_; intro _) | refine stf ?_ | (refine stb ?_; intro _))
    refine o_callV rfl rfl rfl rfl (hMay _) (congrArg Value.bool hm) ?_
    repeat (first | refine stp ?_ | (refine sti ?_; intro _) | refine stf ?_ | (refine stb ?_; intro _))
    refine G.ret rfl (.cons (.cellA rfl rfl) (.cons (.tmp rfl) .nil)) (Φ' := [fRp (.slice none 0 0) ([] : List Sets), fRow ([] : List Value) ([] : List Int), fRow ([] : List Value) ([] : List Int), fRow ([] : List Value) ([] : List Bool), fRow ([] : List Value) ([] : List Int)]) (M' := []) (Ents.cons (b := Ents.cons (a := ent_row0') (b := Ents.cons (a := ent_row0') (b := Ents.cons (a := ent_row0') (b := Ents.cons (a := ent_row0') (b := Ents.nil)))))) (List.nil_sublist _) ?_
    rw [new_bad' hno]
    exact ⟨none, 0, .slice none 0 0, none, .slice none 0 0, none, .slice none 0 0, none, .slice none 0 0, none, rfl, ⟨rfl, rfl⟩, ⟨rfl, rfl⟩, ⟨rfl, rfl⟩, ⟨rfl, rfl⟩, rfl, rfl⟩
  | true =>
  by_cases hl : cc.length = s.length
  case neg =>
    have hno : okN s cc w = false := by simp [okN, hl]
    rw [hno, if_neg (by simp)]
    repeat (first | refine stp ?_ | (refine sti ?_; intro _) | refine stf ?_ | (refine stb ?_; intro _))
    refine o_callV rfl rfl rfl rfl (hMay _) (congrArg Value.bool hm) ?_
    repeat (first | refine stp ?_ | (refine sti ?_; intro _) | refine stf ?_ | (refine stb ?_; intro _))
    refine G.ret rfl (.cons (.cellA rfl rfl) (.cons (.tmp rfl) .nil)) (Φ' := [fRp (.slice none 0 0) ([] : List Sets), fRow ([] : List Value) ([] : List Int), fRow ([] : List Value) ([] : List Int), fRow ([] : List Value) ([] : List Bool), fRow ([] : List Value) ([] : List Int)]) (M' := []) (Ents.cons (b := Ents.cons (a := ent_row0') (b := Ents.cons (a := ent_row0') (b := Ents.cons (a := ent_row0') (b := Ents.cons (a := ent_row0') (b := Ents.nil)))))) (List.nil_sublist _) ?_
    rw [new_bad' hno]
    exact ⟨none, 0, .slice none 0 0, none, .slice none 0 0, none, .slice none 0 0, none, .slice none 0 0, none, rfl, ⟨rfl, rfl⟩, ⟨rfl, rfl⟩, ⟨rfl, rfl⟩, ⟨rfl, rfl⟩, rfl, rfl⟩
  by_cases h3 : w < 1
  · have hno : okN s cc w = false := by unfold okN; rw [decide_eq_false (p := 1 ≤ w) (by omega)]; simp
    rw [hno, if_neg (by simp)]
    repeat (first | refine stp ?_ | (refine sti ?_; intro _) | refine stf ?_ | (refine stb ?_; intro _))
    refine o_callV rfl rfl rfl rfl (hMay _) (congrArg Value.bool hm) ?_
    repeat (first | refine stp ?_ | (refine sti ?_; intro _) | refine stf ?_ | (refine stb ?_; intro _))
    refine G.ret rfl (.cons (.cellA rfl rfl) (.cons (.tmp rfl) .nil)) (Φ' := [fRp (.slice none 0 0) ([] : List Sets), fRow ([] : List Value) ([] : List Int), fRow ([] : List Value) ([] : List Int), fRow ([] : List Value) ([] : List Bool), fRow ([] : List Value) ([] : List Int)]) (M' := []) (Ents.cons (b := Ents.cons (a := ent_row0') (b := Ents.cons (a := ent_row0') (b := Ents.cons (a := ent_row0') (b := Ents.cons (a := ent_row0') (b := Ents.nil)))))) (List.nil_sublist _) ?_
    rw [new_bad' hno]
    exact ⟨none, 0, .slice none 0 0, none, .slice none 0 0, none, .slice none 0 0, none, .slice none 0 0, none, rfl, ⟨rfl, rfl⟩, ⟨rfl, rfl⟩, ⟨rfl, rfl⟩, ⟨rfl, rfl⟩, rfl, rfl⟩
  by_cases h4 : 64 < w
  · have hno : okN s cc w = false := by unfold okN; rw [decide_eq_false (p := w ≤ 64) (by omega)]; simp
    rw [hno, if_neg (by simp)]
    repeat (first | refine stp ?_ | (refine sti ?_; intro _) | refine stf ?_ | (refine stb ?_; intro _))
    refine o_callV rfl rfl rfl rfl (hMay _) (congrArg Value.bool hm) ?_
    repeat (first | refine stp ?_ | (refine sti ?_; intro _) | refine stf ?_ | (refine stb ?_; intro _))
    refine G.ret rfl (.cons (.cellA rfl rfl) (.cons (.tmp rfl) .nil)) (Φ' := [fRp (.slice none 0 0) ([] : List Sets), fRow ([] : List Value) ([] : List Int), fRow ([] : List Value) ([] : List Int), fRow ([] : List Value) ([] : List Bool), fRow ([] : List Value) ([] : List Int)]) (M' := []) (Ents.cons (b := Ents.cons (a := ent_row0') (b := Ents.cons (a := ent_row0') (b := Ents.cons (a := ent_row0') (b := Ents.cons (a := ent_row0') (b := Ents.nil)))))) (List.nil_sublist _) ?_
    rw [new_bad' hno]
    exact ⟨none, 0, .slice none 0 0, none, .slice none 0 0, none, .slice none 0 0, none, .slice none 0 0, none, rfl, ⟨rfl, rfl⟩, ⟨rfl, rfl⟩, ⟨rfl, rfl⟩, ⟨rfl, rfl⟩, rfl, rfl⟩
  have h64 := may_len hm
  obtain ⟨n, rfl⟩ : ∃ n : Nat, w = (n : Int) := ⟨w.toNat, by omega⟩
  have hfit : FitL ⟨s, cc, [], List.replicate s.length false, []⟩ := ⟨hs, hs1, by dsimp only; omega, by simp, by simp; omega, by simp⟩
  repeat (first | refine stp ?_ | (refine sti ?_; intro _) | refine stf ?_ | (refine stb ?_; intro _))
  rename_i b6
  refine o_callV rfl rfl rfl rfl (hMay _) (congrArg Value.bool hm) ?_
  repeat (first | refine stp ?_ | (refine sti ?_; intro _) | refine stf ?_ | (refine stb ?_; intro _))
  refine o_makeG s.length false rfl rfl rfl rfl rfl rfl (by omega) rfl (fun _ => rfl) ?_
  intro u
  refine G.slice u (List.replicate s.length false) ?_
  intro a7 c7 e _
  subst e
  repeat (first | refine stp ?_ | (refine sti ?_; intro _) | refine stf ?_ | (refine stb ?_; intro _))
  refine OpK.call rfl rfl rfl rfl (rown_spec _ ⟨s, cc, [], List.replicate s.length false, []⟩ hfit) inferInstance (Mr := _) (List.Perm.refl _) ?_
  rintro u Φ' Mc' ⟨vs, cs, vL, oL, vA, oA, vB, oB, vD, oD, rfl, hL, hA, hB, hD, rfl, rfl⟩
  dsimp only [id, List.cons_append, List.nil_append]
  have hone : ones [.slice vs s.length cs, vL, vA, vB, vD] = true := (by
    have q1 := (own_cell hL).2
    have q2 := (own_cell hA).2
    have q3 := (own_cell hB).2
    have q4 := (own_cell hD).2
    simp only [ones, List.all_cons, List.all_nil, Bool.and_true, Bool.and_eq_true] at q1 q2 q3 q4 ⊢
    exact ⟨rfl, q1, q2, q3, q4⟩)
  refine G.perm ?_ List.perm_append_comm
  dsimp only [List.cons_append, List.nil_append]
  repeat (first | refine stp ?_ | (refine sti ?_; intro _) | refine stf ?_ | (refine stb ?_; intro _))
  rename_i b8
  refine o_store (vs := [.slice vs s.length cs, vL, vA, vB, vD]) (cs' := [.slice vs s.length cs, vL, vA, vB, vD]) rfl rfl rfl rfl rfl (Nat.le_of_ble_eq_true rfl) hone rfl ?_
  repeat (first | refine stp ?_ | (refine sti ?_; intro _) | refine stf ?_ | (refine stb ?_; intro _))
  refine W.loopI (fun (i : Nat) => ([fRp (.slice ca cc.length ccap) cc, fRp (.slice vs s.length cs) s, fRow (ocells oL) cc, fRow (ocells oA) ([] : List Int), fRow (ocells oB) (List.replicate s.length false), fRow (ocells oD) ([] : List Int)], [(1, .slice ca cc.length ccap), (2, .int .i64 n), (6, .pointer (some ⟨b6, 0, none⟩)), (8, .pointer (some ⟨b8, 0, none⟩)), (9, .int .i64 i)], (b8, Ob [.slice vs s.length cs, vL, vA, vB, vD] 28) :: (b6, Ob [.slice none 0 0, .slice none 0 0, .slice none 0 0, .slice none 0 0, .slice none 0 0] 28) :: (ownM 3 oL ++ (ownM 3 oA ++ (ownM 4 oB ++ ownM 3 oD))))) (fun i => i ≤ cc.length ∧ ∀ x ∈ cc.take i, oddCost x = false) (fun i => cc.length - i) 0 ⟨Nat.zero_le _, by simp⟩ inferInstance (look_sub_cons rfl (look_sub_cons rfl (look_sub_cons rfl (look_sub_cons rfl (look_sub_cons rfl look_sub_nil))))) (List.Sublist.refl _) ?_
  rintro i ⟨hi, hall⟩
  dsimp only
  by_cases hi0 : i = cc.length
  case neg =>
    have hi1 : i < cc.length := by omega
    by_cases hlow : cc[i] < 1
    · have hodd : oddCost cc[i] = true := by simp [oddCost, hlow]
      have hno : okN s cc (n : Int) = false := by
        have : cc.any oddCost = true := List.any_eq_true.2 ⟨_, List.getElem_mem hi1, hodd⟩
        simp only [okN, this]; simp
      rw [hno, if_neg (by simp)]
      repeat (first | refine stp ?_ | (refine sti ?_; intro _) | refine stf ?_ | (refine stb ?_; intro _))
      refine G.ret rfl (.cons (.cellA rfl rfl) (.cons (.tmp rfl) .nil)) (Φ' := [fRp (.slice none 0 0) ([] : List Sets), fRow ([] : List Value) ([] : List Int), fRow ([] : List Value) ([] : List Int), fRow ([] : List Value) ([] : List Bool), fRow ([] : List Value) ([] : List Int)]) (M' := []) (Ents.cons (b := Ents.cons (a := ent_row0') (b := Ents.cons (a := ent_row0') (b := Ents.cons (a := ent_row0') (b := Ents.cons (a := ent_row0') (b := Ents.nil)))))) (List.nil_sublist _) ?_
      rw [new_bad' hno]
      exact ⟨none, 0, .slice none 0 0, none, .slice none 0 0, none, .slice none 0 0, none, .slice none 0 0, none, rfl, ⟨rfl, rfl⟩, ⟨rfl, rfl⟩, ⟨rfl, rfl⟩, ⟨rfl, rfl⟩, rfl, rfl⟩
    by_cases hhigh : 1099511627776 < cc[i]
    · have hodd : oddCost cc[i] = true := by simp [oddCost, hhigh]
      have hno : okN s cc (n : Int) = false := by
        have : cc.any oddCost = true := List.any_eq_true.2 ⟨_, List.getElem_mem hi1, hodd⟩
        simp only [okN, this]; simp
      rw [hno, if_neg (by simp)]
      repeat (first | refine stp ?_ | (refine sti ?_; intro _) | refine stf ?_ | (refine stb ?_; intro _))
      refine G.ret rfl (.cons (.cellA rfl rfl) (.cons (.tmp rfl) .nil)) (Φ' := [fRp (.slice none 0 0) ([] : List Sets), fRow ([] : List Value) ([] : List Int), fRow ([] : List Value) ([] : List Int), fRow ([] : List Value) ([] : List Bool), fRow ([] : List Value) ([] : List Int)]) (M' := []) (Ents.cons (b := Ents.cons (a := ent_row0') (b := Ents.cons (a := ent_row0') (b := Ents.cons (a := ent_row0') (b := Ents.cons (a := ent_row0') (b := Ents.nil)))))) (List.nil_sublist _) ?_
      rw [new_bad' hno]
      exact ⟨none, 0, .slice none 0 0, none, .slice none 0 0, none, .slice none 0 0, none, .slice none 0 0, none, rfl, ⟨rfl, rfl⟩, ⟨rfl, rfl⟩, ⟨rfl, rfl⟩, ⟨rfl, rfl⟩, rfl, rfl⟩
    have hodd : oddCost cc[i] = false := by simp [oddCost, hlow, hhigh]
    repeat (first | refine stp ?_ | (refine sti ?_; intro _) | refine stf ?_ | (refine stb ?_; intro _))
    exact G.again (S := Nat) (i + 1) (by omega) ⟨hi1, fun x hx => ((mem_take_succ hi1).1 hx).elim (hall x) (fun e => by rw [← e]; exact hodd)⟩ inferInstance (look_sub_cons rfl (look_sub_cons rfl (look_sub_cons rfl (look_sub_cons rfl (look_sub_cons rfl look_sub_nil))))) (List.Sublist.refl _)
  subst hi0
  rw [List.take_length] at hall
  have hok : okN s cc (n : Int) = true := by
    have : cc.any oddCost = false := List.any_eq_false.2 fun x hx => by rw [hall x hx]; simp
    simp only [okN, hm, this, hl]
    simp; omega
  rw [hok, if_pos rfl]
  have hright := raw_right hok
  have hnew : newL s cc (n : Int) = fillLot ⟨s, cc, List.replicate n (-1), List.replicate s.length false, []⟩ := by unfold newL rawN; rw [hok]; rfl
  rw [hnew]
  refine W.bare (G.perm ?_ (List.Perm.cons _ (List.Perm.cons _ (perm_push (ownM 3 oL) (ownM 3 oA) (ownM 4 oB) (ownM 3 oD)))))
  refine G.code ?_
  repeat (first | refine stp ?_ | (refine sti ?_; intro _) | refine stf ?_ | (refine stb ?_; intro _))
  refine W.loopI (fun (q : RnwSt) => ([fRow (ocells q.o) (List.replicate q.i (-1 : Int)), fRp (.slice vs s.length cs) s, fRow (ocells oL) cc, fRow (ocells oB) (List.replicate s.length false), fRow (ocells oD) ([] : List Int)], [(2, .int .i64 n), (6, .pointer (some ⟨b6, 0, none⟩)), (8, .pointer (some ⟨b8, 0, none⟩)), (10, .int .i64 q.i)], (b8, Ob [.slice vs s.length cs, vL, q.v, vB, vD] 28) :: (b6, Ob [.slice none 0 0, .slice none 0 0, .slice none 0 0, .slice none 0 0, .slice none 0 0] 28) :: ((ownM 3 oL ++ (ownM 4 oB ++ ownM 3 oD)) ++ ownM 3 q.o))) (fun q => q.i ≤ n ∧ IsOwn 1 q.v (List.replicate q.i (-1 : Int)).length q.o) (fun q => n - q.i) ⟨0, vA, oA⟩ ⟨Nat.zero_le _, hA⟩ (show Ents _ [fRow (ocells oA) ([] : List Int), fRp (.slice vs s.length cs) s, fRow (ocells oL) cc, fRow (ocells oB) (List.replicate s.length false), fRow (ocells oD) ([] : List Int)] from inferInstance) (look_sub_cons rfl (look_sub_cons rfl (look_sub_cons rfl (look_sub_cons rfl look_sub_nil)))) (List.Sublist.refl _) ?_
  rintro ⟨i, vA, oA⟩ ⟨hi, hA⟩
  dsimp only at hi hA ⊢
  by_cases hi0 : i = n
  case neg =>
    have hi1 : i < n := by omega
    repeat (first | refine stp ?_ | (refine sti ?_; intro _) | refine stf ?_ | (refine stb ?_; intro _))
    refine o_lit (xs := [(-1 : Int)]) ⟨by decide, rfl, by decide⟩ rfl rfl rfl ⟨fun _ _ => Rp.flat.2 rfl, trivial⟩ rfl ?_
    intro p1
    repeat (first | refine stp ?_ | (refine sti ?_; intro _) | refine stf ?_ | (refine stb ?_; intro _))
    refine o_app2 (Mr := (b8, Ob [.slice vs s.length cs, vL, vA, vB, vD] 28) :: (b6, Ob [.slice none 0 0, .slice none 0 0, .slice none 0 0, .slice none 0 0, .slice none 0 0] 28) :: (ownM 3 oL ++ (ownM 4 oB ++ ownM 3 oD))) oA (xs := List.replicate i (-1 : Int)) (ys := [(-1 : Int)]) hA ⟨by simp; omega, by simp; omega, rfl⟩ rfl rfl rfl rfl inferInstance inferInstance (List.Perm.refl _) ?_
    intro v' o' hown'
    rw [← List.replicate_succ'] at hown' ⊢
    dsimp only [List.cons_append]
    repeat (first | refine stp ?_ | (refine sti ?_; intro _) | refine stf ?_ | (refine stb ?_; intro _))
    refine o_store (vs := [v']) (cs' := [.slice vs s.length cs, vL, v', vB, vD]) rfl rfl rfl (own_cell hown').1 rfl (Nat.le_of_ble_eq_true rfl) (own_cell hown').2 rfl ?_
    repeat (first | refine stp ?_ | (refine sti ?_; intro _) | refine stf ?_ | (refine stb ?_; intro _))
    exact G.again (S := RnwSt) ⟨i + 1, v', o'⟩ (by dsimp only; omega) ⟨hi1, hown'⟩ inferInstance (look_sub_cons rfl (look_sub_cons rfl (look_sub_cons rfl (look_sub_cons rfl look_sub_nil)))) (List.Sublist.refl _)
  subst hi0
  refine W.bare (G.perm ?_ (List.Perm.cons _ (List.Perm.cons _ (perm_push (ownM 3 oL) (ownM 3 oA) (ownM 4 oB) (ownM 3 oD)).symm)))
  refine G.code ?_
  have hfit2 : FitL ⟨s, cc, List.replicate i (-1), List.replicate s.length false, []⟩ := ⟨hs, hs1, by dsimp only; omega, by simp; omega, by simp; omega, by simp⟩
  have hf := rfill_spec vs cs vL vA vB vD oL oA oB oD ⟨s, cc, List.replicate i (-1), List.replicate s.length false, []⟩ hfit2 hright hL hA hB hD
  change Fn _ _ [.agg #[.slice vs s.length cs, vL, vA, vB, vD]] [fRp (.slice vs s.length cs) s, fRow (ocells oL) cc, fRow (ocells oA) (List.replicate i (-1 : Int)), fRow (ocells oB) (List.replicate s.length false), fRow (ocells oD) ([] : List Int)] _ _ at hf
  repeat (first | refine stp ?_ | (refine sti ?_; intro _) | refine stf ?_ | (refine stb ?_; intro _))
  refine OpK.call rfl rfl rfl rfl hf inferInstance (Mr := [_, _]) (List.perm_append_comm (l₁ := [_, _])) ?_
  clear hf
  generalize fillLot ⟨s, cc, List.replicate i (-1), List.replicate s.length false, []⟩ = l2
  clear hL hA hB hD hone
  rintro u Φ' Mc' ⟨vs2, cs2, vL2, oL2, vA2, oA2, vB2, oB2, vD3, oD3, rfl, hL, hA, hB, hD, rfl, rfl⟩
  have hone2 : ones [.slice vs2 l2.sets.length cs2, vL2, vA2, vB2, vD3] = true := (by
      have q1 := (own_cell hL).2
      have q2 := (own_cell hA).2
      have q3 := (own_cell hB).2
      have q4 := (own_cell hD).2
      simp only [ones, List.all_cons, List.all_nil, Bool.and_true, Bool.and_eq_true] at q1 q2 q3 q4 ⊢
      exact ⟨rfl, q1, q2, q3, q4⟩)
  refine G.perm ?_ List.perm_append_comm
  dsimp only [List.cons_append, List.nil_append, id]
  repeat (first | refine stp ?_ | (refine sti ?_; intro _) | refine stf ?_ | (refine stb ?_; intro _))
  refine o_store (vs := [.slice vs2 l2.sets.length cs2, vL2, vA2, vB2, vD3]) (cs' := [.slice vs2 l2.sets.length cs2, vL2, vA2, vB2, vD3]) rfl rfl rfl rfl rfl (Nat.le_of_ble_eq_true rfl) hone2 rfl ?_
  repeat (first | refine stp ?_ | (refine sti ?_; intro _) | refine stf ?_ | (refine stb ?_; intro _))
  exact G.ret rfl (.cons (.cellA rfl rfl) (.cons (.tmp rfl) .nil)) (Φ' := [fRp (.slice vs2 l2.sets.length cs2) l2.sets, fRow (ocells oL2) l2.left, fRow (ocells oA2) l2.at_, fRow (ocells oB2) l2.begun, fRow (ocells oD3) l2.done]) (M' := ownM 3 oL2 ++ (ownM 3 oA2 ++ (ownM 4 oB2 ++ ownM 3 oD3))) inferInstance (.cons _ (.cons _ (List.Sublist.refl _))) ⟨vs2, cs2, vL2, oL2, vA2, oA2, vB2, oB2, vD3, oD3, rfl, hL, hA, hB, hD, rfl, rfl⟩
end Go.Rail
