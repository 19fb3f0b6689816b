/- The document's lot in memory of its own. -/
import Derived.Test.YtoiepfapghnccaaGreatAGLawM1
import Derived.Test.YtoiepfapghnccaaGreatRailE
import Derived.Test.YtoiepfapghnccaaGreatRailD
namespace Go.Rail
open Go Go.Proofs
set_option linter.unusedSimpArgs false
set_option linter.unusedVariables false
set_option maxHeartbeats 400000
set_option maxRecDepth 4000
attribute [local irreducible] OpK G W LW wpListIn Exit.then Exit.inBlock Post rounds opRun bodyPostM intOp
attribute [local irreducible] badM rightS mayG clashS
structure RoSt where
  i : Nat
  v : Value
  o : OR
theorem own_slice {sz n : Nat} {v : Value} {o : OR} (h : IsOwn sz v n o) : ∃ a cap, v = .slice a n cap := by
  cases o with
  | none => obtain ⟨rfl, rfl⟩ := h; exact ⟨none, 0, rfl⟩
  | some q => obtain ⟨cap, rfl, _⟩ := h; exact ⟨_, cap, rfl⟩
theorem G.skip1 {x : Cx} {φ ψ : Fa} {Φ : List Fa} {L : Env} {M : Own} {F : Act → World → Prop} (h : G x (φ :: Φ) L M F) : G x (φ :: ψ :: Φ) L M F :=
  h.weaken (fun χ hχ => by rcases List.mem_cons.1 hχ with rfl | hχ; exact .head _; exact .tail _ (.tail _ hχ)) (fun _ _ h => h) (List.Sublist.refl _)
set_option maxHeartbeats 4000000 in
theorem rown_spec (v : Value) (l : Lot) (hl : FitL l) : Fn Tryz.prog 44 [v] [fRp v l] [] (ROwnLot 3 4 id l) := by
  obtain ⟨fs, ns, nl, na, nb, nd⟩ := hl
  refine Fn.enter Tryz.func44 rfl Tryz.ntmps44 (by simp) (fun I0 w0 => ?_)
  refine W.bare (G.lot v l ?_)
  intro a1 c1 a2 c2 a3 c3 a4 c4 a5 c5 e
  subst e
  repeat (first | refine stp ?_ | (refine sti ?_; intro _) | refine stf ?_ | (refine stb ?_; intro _))
  rename_i b1 b2
  refine W.loopI (fun (s : RoSt) => ([fRow (ocells s.o) (l.sets.take s.i), fRp (.slice a1 l.sets.length c1) l.sets, fRp (.slice a2 l.left.length c2) l.left, fRp (.slice a3 l.at_.length c3) l.at_, fRp (.slice a4 l.begun.length c4) l.begun, fRp (.slice a5 l.done.length c5) l.done], [(1, .pointer (some ⟨b1, 0, none⟩)), (2, .pointer (some ⟨b2, 0, none⟩)), (3, s.v), (4, .int .i64 s.i)], (b2, Ob [.slice none 0 0, .slice none 0 0, .slice none 0 0, .slice none 0 0, .slice none 0 0] 28) :: (b1, Ob [.slice a1 l.sets.length c1, .slice a2 l.left.length c2, .slice a3 l.at_.length c3, .slice a4 l.begun.length c4, .slice a5 l.done.length c5] 28) :: ownM 39 s.o)) (fun s => s.i ≤ l.sets.length ∧ IsOwn 2 s.v (l.sets.take s.i).length s.o) (fun s => l.sets.length - s.i) ⟨0, .slice none 0 0, none⟩ ⟨Nat.zero_le _, ⟨rfl, rfl⟩⟩ (show Ents _ [fRow ([] : List Value) ([] : List Sets), fRp (.slice a1 l.sets.length c1) l.sets, fRp (.slice a2 l.left.length c2) l.left, fRp (.slice a3 l.at_.length c3) l.at_, fRp (.slice a4 l.begun.length c4) l.begun, fRp (.slice a5 l.done.length c5) l.done] from inferInstance) (look_sub_cons rfl (look_sub_cons rfl (look_sub_cons rfl (look_sub_cons rfl look_sub_nil)))) (List.Sublist.refl _) ?_
  rintro ⟨i, v3, o⟩ ⟨hi, hown⟩
  dsimp only at hi hown ⊢
  by_cases hi0 : i = l.sets.length
  case neg =>
    have hi1 : i < l.sets.length := by omega
    have hfi := fs l.sets[i] (List.getElem_mem hi1)
    have hf1 := hfi.1
    have hf2 := hfi.2
    have hsu : l.sets.take i ++ [l.sets[i]] = l.sets.take (i + 1) := (List.take_succ_eq_append_getElem hi1).symm
    have hll : (l.sets.take i).length = i := by rw [List.length_take]; omega
    repeat (first | refine stp ?_ | (refine sti ?_; intro _) | refine stf ?_ | (refine stb ?_; intro _))
    refine W.drawX 17 (fun D c => (b2, Ob [.slice none 0 0, .slice none 0 0, .slice none 0 0, .slice none 0 0, .slice none 0 0] 28) :: (b1, Ob [.slice a1 l.sets.length c1, .slice a2 l.left.length c2, .slice a3 l.at_.length c3, .slice a4 l.begun.length c4, .slice a5 l.done.length c5] 28) :: ownM 39 o) [⟨?v0_1, fun _ z => []⟩, ⟨?v1_1, fun _ z => []⟩, ⟨?v2_1, fun _ z => []⟩, ⟨?v3_1, fun _ z => []⟩, ⟨fun _ z => z, fun _ z => [fPt z l.sets[i]]⟩, ⟨fun _ z => z, fun _ z => [fPt z l.sets[i].reads]⟩, ⟨fun _ z => z, fun _ z => [fRp z l.sets[i].reads]⟩, ⟨fun c z => .slice (sa z) l.sets[i].reads.length (sc z), fun _ z => [fRp (.slice (sa z) l.sets[i].reads.length (sc z)) l.sets[i].reads]⟩, ⟨?v8_1, fun _ z => []⟩, ⟨?v9_1, fun _ z => []⟩, ⟨?v10_1, fun _ z => []⟩, ⟨fun _ z => z, fun _ z => [fPt z l.sets[i]]⟩, ⟨fun _ z => z, fun _ z => [fPt z l.sets[i].writes]⟩, ⟨fun _ z => z, fun _ z => [fRp z l.sets[i].writes]⟩, ⟨fun c z => .slice (sa z) l.sets[i].writes.length (sc z), fun _ z => [fRp (.slice (sa z) l.sets[i].writes.length (sc z)) l.sets[i].writes]⟩, ⟨?v15_1, fun _ z => []⟩, ⟨fun _ z => z, fun _ z => [fRp z [l.sets[i]]]⟩] [[], [], [1], [], [2, 3], [4], [5], [6], [], [8], [], [9, 10], [11], [12], [13], [7, 14], [7, 14, 15]] [0, 16] (by kernel_rfl) (by kernel_rfl) (by kernel_rfl) (by kernel_rfl) ?loc_1 ?hz_1 ?ops_1 ?rest_1
    case ops_1 =>
      simp only [AllX, Nat.reduceAdd, and_true]
      refine ⟨?_, ?_, ?_, ?_, ?_, ?_, ?_, ?_, ?_, ?_, ?_, ?_, ?_, ?_, ?_, ?_, ?_⟩
      all_goals (intro D c z0 Φr Lr K hDi hAnc hDn hK; dsimp only [dstOf, dstX, putX, kval, kfac, ancE, ancX, ancF, getD_z, getD_s, List.getElem?_cons_zero, List.getElem?_cons_succ, List.getElem?_nil, Option.getD_some, Option.getD_none, List.nil_append, List.cons_append, Option.getD] at hK ⊢)
      iterate 4 ((first | refine stp ?_ | refine stf ?_); exact hK z0)
      · refine o_idxN i rfl rfl rfl rfl rfl hi1 ?_; intro p; exact hK _
      · refine o_fieldP (α := Sets) (β := List Key) Sets.reads rfl rfl rfl ?_; intro p; exact hK _
      · refine o_loadR rfl rfl rfl rfl ?_; intro p; exact hK _
      · refine o_app2 (α := Key) (Mr := (b2, Ob [.slice none 0 0, .slice none 0 0, .slice none 0 0, .slice none 0 0, .slice none 0 0] 28) :: (b1, Ob [.slice a1 l.sets.length c1, .slice a2 l.left.length c2, .slice a3 l.at_.length c3, .slice a4 l.begun.length c4, .slice a5 l.done.length c5] 28) :: ownM 39 o) none (xs := []) (ys := l.sets[i].reads) ⟨rfl, rfl⟩ ⟨by simp; omega, by simp; omega, rfl⟩ rfl rfl rfl rfl inferInstance inferInstance (by simp [ownM]) ?_; intro v' o' hown'; dsimp only [List.nil_append] at hown' ⊢; refine G.giveOwn2 v' l.sets[i].reads o' 58 hown' inferInstance (List.Perm.refl _) ?_; refine G.slice v' l.sets[i].reads ?_; intro a' cap' e' _; subst e'; exact G.skip1 (hK (.slice a' 0 cap'))
      iterate 3 ((first | refine stp ?_ | refine stf ?_); exact hK z0)
      · refine o_idxN i rfl rfl rfl rfl rfl hi1 ?_; intro p; exact hK _
      · refine o_fieldP (α := Sets) (β := List Key) Sets.writes rfl rfl rfl ?_; intro p; exact hK _
      · refine o_loadR rfl rfl rfl rfl ?_; intro p; exact hK _
      · refine o_app2 (α := Key) (Mr := (b2, Ob [.slice none 0 0, .slice none 0 0, .slice none 0 0, .slice none 0 0, .slice none 0 0] 28) :: (b1, Ob [.slice a1 l.sets.length c1, .slice a2 l.left.length c2, .slice a3 l.at_.length c3, .slice a4 l.begun.length c4, .slice a5 l.done.length c5] 28) :: ownM 39 o) none (xs := []) (ys := l.sets[i].writes) ⟨rfl, rfl⟩ ⟨by simp; omega, by simp; omega, rfl⟩ rfl rfl rfl rfl inferInstance inferInstance (by simp [ownM]) ?_; intro v' o' hown'; dsimp only [List.nil_append] at hown' ⊢; refine G.giveOwn2 v' l.sets[i].writes o' 58 hown' inferInstance (List.Perm.refl _) ?_; refine G.slice v' l.sets[i].writes ?_; intro a' cap' e' _; subst e'; exact G.skip1 (hK (.slice a' 0 cap'))
      · refine stp ?_; exact hK z0
      · refine o_lit (xs := [l.sets[i]]) ⟨by decide, rfl, by decide⟩ rfl rfl rfl ⟨fun I hp => Ent'.h (φ := fRp _ l.sets[i]) I hp, trivial⟩ rfl ?_; intro p; exact hK _
    case hz_1 => intro c; rfl
    case loc_1 =>
      simp only [AllL, Nat.reduceAdd, and_true]
      refine ⟨?_, ?_, ?_, ?_, ?_, ?_, ?_, ?_, ?_, ?_, ?_, ?_, ?_, ?_, ?_, ?_, ?_⟩
      · exact fun _ _ _ _ => ⟨rfl, rfl⟩
      · exact fun _ _ _ _ => ⟨rfl, rfl⟩
      · exact fun _ _ _ _ => ⟨rfl, rfl⟩
      · exact fun _ _ _ _ => ⟨rfl, rfl⟩
      · exact fun _ _ _ _ => ⟨rfl, rfl⟩
      · exact fun _ _ _ _ => ⟨rfl, rfl⟩
      · exact fun _ _ _ _ => ⟨rfl, rfl⟩
      · exact fun _ _ _ _ => ⟨rfl, rfl⟩
      · exact fun _ _ _ _ => ⟨rfl, rfl⟩
      · exact fun _ _ _ _ => ⟨rfl, rfl⟩
      · exact fun _ _ _ _ => ⟨rfl, rfl⟩
      · exact fun _ _ _ _ => ⟨rfl, rfl⟩
      · exact fun _ _ _ _ => ⟨rfl, rfl⟩
      · exact fun _ _ _ _ => ⟨rfl, rfl⟩
      · exact fun _ _ _ _ => ⟨rfl, rfl⟩
      · intro c c' z h; simp only [getD_s, getD_z, h 7 (by kernel_rfl), h 14 (by kernel_rfl), and_self]
      · intro c c' z h; simp only [getD_s, getD_z, h 7 (by kernel_rfl), h 14 (by kernel_rfl), and_self]
    intro c
    dsimp only [dstOf, dstX, putX, kval, kfac, ancE, ancX,  ancF, getD_z, getD_s, List.getElem?_cons_zero, List.getElem?_cons_succ, List.getElem?_nil, Option.getD_some, Option.getD_none, List.nil_append, List.cons_append, List.drop_succ_cons, List.drop_zero, Option.getD]
    repeat (first | refine stp ?_ | (refine sti ?_; intro _) | refine stf ?_ | (refine stb ?_; intro _))
    refine o_app2 (Mr := [_, _]) o (xs := l.sets.take i) (ys := [l.sets[i]]) hown ⟨by simp; omega, by simp; omega, rfl⟩ rfl rfl rfl rfl inferInstance inferInstance (List.Perm.refl _) ?_
    intro v' o' hown'
    rw [hsu] at hown' ⊢
    repeat (first | refine stp ?_ | (refine sti ?_; intro _) | refine stf ?_ | (refine stb ?_; intro _))
    exact G.again (S := RoSt) ⟨i + 1, v', o'⟩ (by dsimp only; omega) ⟨hi1, hown'⟩ inferInstance (look_sub_cons rfl (look_sub_cons rfl (look_sub_cons rfl (look_sub_cons rfl look_sub_nil)))) (List.Sublist.refl _)
  subst hi0
  rw [List.take_length] at hown ⊢
  repeat (first | refine stp ?_ | (refine sti ?_; intro _) | refine stf ?_ | (refine stb ?_; intro _))
  refine W.bare (G.giveOwn2 v3 l.sets o 39 (Mr := [_, _]) hown inferInstance (List.Perm.refl _) ?_)
  refine G.slice v3 l.sets ?_
  intro aS capS e _
  subst e
  refine G.code ?_
  refine W.drawX 13 (fun D c => (b2, Ob [.slice none 0 0, .slice none 0 0, .slice none 0 0, .slice none 0 0, .slice none 0 0] 28) :: (b1, Ob [.slice a1 l.sets.length c1, .slice a2 l.left.length c2, .slice a3 l.at_.length c3, .slice a4 l.begun.length c4, .slice a5 l.done.length c5] 28) :: ((bif D 3 then ownM 3 (co (c 3)) else []) ++ ((bif D 6 then ownM 3 (co (c 6)) else []) ++ ((bif D 9 then ownM 4 (co (c 9)) else []) ++ (bif D 12 then ownM 3 (co (c 12)) else []))))) [⟨?v0_2, fun _ z => []⟩, ⟨?v1_2, fun _ z => []⟩, ⟨?v2_2, fun _ z => []⟩, ⟨fun _ z => cv z, fun _ z => [fPure (IsOwn 1 (cv z) l.left.length (co z)), fRow (ocells (co z)) l.left]⟩, ⟨?v4_2, fun _ z => []⟩, ⟨?v5_2, fun _ z => []⟩, ⟨fun _ z => cv z, fun _ z => [fPure (IsOwn 1 (cv z) l.at_.length (co z)), fRow (ocells (co z)) l.at_]⟩, ⟨?v7_2, fun _ z => []⟩, ⟨?v8_2, fun _ z => []⟩, ⟨fun _ z => cv z, fun _ z => [fPure (IsOwn 1 (cv z) l.begun.length (co z)), fRow (ocells (co z)) l.begun]⟩, ⟨?v10_2, fun _ z => []⟩, ⟨?v11_2, fun _ z => []⟩, ⟨fun _ z => cv z, fun _ z => [fPure (IsOwn 1 (cv z) l.done.length (co z)), fRow (ocells (co z)) l.done]⟩] [[], [], [1], [2], [], [4], [5], [], [7], [8], [], [10], [11]] [0, 3, 6, 9, 12] (by kernel_rfl) (by kernel_rfl) (by kernel_rfl) (by kernel_rfl) ?loc_2 ?hz_2 ?ops_2 ?rest_2
  case ops_2 =>
    simp only [AllX, Nat.reduceAdd, and_true]
    refine ⟨?_, ?_, ?_, ?_, ?_, ?_, ?_, ?_, ?_, ?_, ?_, ?_, ?_⟩
    all_goals (intro D c z0 Φr Lr K hDi hAnc hDn hK; dsimp only [dstOf, dstX, putX, kval, kfac, ancE, ancX, ancF, getD_z, getD_s, List.getElem?_cons_zero, List.getElem?_cons_succ, List.getElem?_nil, Option.getD_some, Option.getD_none, List.nil_append, List.cons_append, Option.getD] at hK ⊢)
    iterate 3 ((first | refine stp ?_ | refine stf ?_); exact hK z0)
    · have h6 : D 6 = false := dnF hDn hDi (by kernel_rfl); have h9 : D 9 = false := dnF hDn hDi (by kernel_rfl); have h12 : D 12 = false := dnF hDn hDi (by kernel_rfl); simp only [updD, updC, hDi, h6, h9, h12, Nat.reduceEqDiff, ↓reduceIte, cond_true, cond_false, List.append_nil, List.nil_append] at hK ⊢; refine o_app2 (α := Int) (Mr := [(b2, Ob [.slice none 0 0, .slice none 0 0, .slice none 0 0, .slice none 0 0, .slice none 0 0] 28), (b1, Ob [.slice a1 l.sets.length c1, .slice a2 l.left.length c2, .slice a3 l.at_.length c3, .slice a4 l.begun.length c4, .slice a5 l.done.length c5] 28)]) none (xs := []) (ys := l.left) ⟨rfl, rfl⟩ ⟨by simp; omega, by simp; omega, rfl⟩ rfl rfl rfl rfl inferInstance inferInstance (by simp [ownM]) ?_; intro v' o' hown'; dsimp only [List.nil_append] at hown' ⊢; have hk := hK (codeO v' o'); simp only [cv_code, co_code] at hk; refine G.learn (fPure (IsOwn 1 v' _ o')) (e := ⟨fun _ _ => hown'⟩) ?_; refine G.perm hk ?_; simp only [List.cons_append, List.nil_append, List.append_assoc]; exact List.Perm.refl _
    · refine stp ?_; exact hK z0
    · (first | refine stp ?_ | refine stf ?_); exact hK z0
    · have h3 : D 3 = true := hAnc 3 (by kernel_rfl); have h9 : D 9 = false := dnF hDn hDi (by kernel_rfl); have h12 : D 12 = false := dnF hDn hDi (by kernel_rfl); simp only [updD, updC, hDi, h3, h9, h12, Nat.reduceEqDiff, ↓reduceIte, cond_true, cond_false, List.append_nil, List.nil_append] at hK ⊢; refine o_app2 (α := Int) (Mr := (b2, Ob [.slice none 0 0, .slice none 0 0, .slice none 0 0, .slice none 0 0, .slice none 0 0] 28) :: (b1, Ob [.slice a1 l.sets.length c1, .slice a2 l.left.length c2, .slice a3 l.at_.length c3, .slice a4 l.begun.length c4, .slice a5 l.done.length c5] 28) :: ownM 3 (co (c 3))) none (xs := []) (ys := l.at_) ⟨rfl, rfl⟩ ⟨by simp; omega, by simp; omega, rfl⟩ rfl rfl rfl rfl inferInstance inferInstance (by simp [ownM]) ?_; intro v' o' hown'; dsimp only [List.nil_append] at hown' ⊢; have hk := hK (codeO v' o'); simp only [cv_code, co_code] at hk; refine G.learn (fPure (IsOwn 1 v' _ o')) (e := ⟨fun _ _ => hown'⟩) ?_; refine G.perm hk ?_; simp only [List.cons_append, List.nil_append, List.append_assoc]; exact List.Perm.refl _
    · refine stp ?_; exact hK z0
    · (first | refine stp ?_ | refine stf ?_); exact hK z0
    · have h3 : D 3 = true := hAnc 3 (by kernel_rfl); have h6 : D 6 = true := hAnc 6 (by kernel_rfl); have h12 : D 12 = false := dnF hDn hDi (by kernel_rfl); simp only [updD, updC, hDi, h3, h6, h12, Nat.reduceEqDiff, ↓reduceIte, cond_true, cond_false, List.append_nil, List.nil_append] at hK ⊢; refine o_app2 (α := Bool) (Mr := (b2, Ob [.slice none 0 0, .slice none 0 0, .slice none 0 0, .slice none 0 0, .slice none 0 0] 28) :: (b1, Ob [.slice a1 l.sets.length c1, .slice a2 l.left.length c2, .slice a3 l.at_.length c3, .slice a4 l.begun.length c4, .slice a5 l.done.length c5] 28) :: (ownM 3 (co (c 3)) ++ ownM 3 (co (c 6)))) none (xs := []) (ys := l.begun) ⟨rfl, rfl⟩ ⟨by simp; omega, by simp; omega, rfl⟩ rfl rfl rfl rfl inferInstance inferInstance (by simp [ownM]) ?_; intro v' o' hown'; dsimp only [List.nil_append] at hown' ⊢; have hk := hK (codeO v' o'); simp only [cv_code, co_code] at hk; refine G.learn (fPure (IsOwn 1 v' _ o')) (e := ⟨fun _ _ => hown'⟩) ?_; refine G.perm hk ?_; simp only [List.cons_append, List.nil_append, List.append_assoc]; exact List.Perm.refl _
    · refine stp ?_; exact hK z0
    · (first | refine stp ?_ | refine stf ?_); exact hK z0
    · have h3 : D 3 = true := hAnc 3 (by kernel_rfl); have h6 : D 6 = true := hAnc 6 (by kernel_rfl); have h9 : D 9 = true := hAnc 9 (by kernel_rfl); simp only [updD, updC, hDi, h3, h6, h9, Nat.reduceEqDiff, ↓reduceIte, cond_true, cond_false, List.append_nil, List.nil_append] at hK ⊢; refine o_app2 (α := Int) (Mr := (b2, Ob [.slice none 0 0, .slice none 0 0, .slice none 0 0, .slice none 0 0, .slice none 0 0] 28) :: (b1, Ob [.slice a1 l.sets.length c1, .slice a2 l.left.length c2, .slice a3 l.at_.length c3, .slice a4 l.begun.length c4, .slice a5 l.done.length c5] 28) :: (ownM 3 (co (c 3)) ++ (ownM 3 (co (c 6)) ++ ownM 4 (co (c 9))))) none (xs := []) (ys := l.done) ⟨rfl, rfl⟩ ⟨by simp; omega, by simp; omega, rfl⟩ rfl rfl rfl rfl inferInstance inferInstance (by simp [ownM]) ?_; intro v' o' hown'; dsimp only [List.nil_append] at hown' ⊢; have hk := hK (codeO v' o'); simp only [cv_code, co_code] at hk; refine G.learn (fPure (IsOwn 1 v' _ o')) (e := ⟨fun _ _ => hown'⟩) ?_; refine G.perm hk ?_; simp only [List.cons_append, List.nil_append, List.append_assoc]; exact List.Perm.refl _
  case hz_2 => intro c; rfl
  case loc_2 =>
    simp only [AllL, Nat.reduceAdd, and_true]
    refine ⟨?_, ?_, ?_, ?_, ?_, ?_, ?_, ?_, ?_, ?_, ?_, ?_, ?_⟩
    all_goals (intro c c' z h; first | exact ⟨rfl, rfl⟩ | (skip))
  intro c
  dsimp only [dstOf, dstX, putX, kval, kfac, ancE, ancX,  ancF, getD_z, getD_s, List.getElem?_cons_zero, List.getElem?_cons_succ, List.getElem?_nil, Option.getD_some, Option.getD_none, List.nil_append, List.cons_append, List.drop_succ_cons, List.drop_zero, Option.getD]
  show LW _ _ _ _ _ _ ((b2, Ob [.slice none 0 0, .slice none 0 0, .slice none 0 0, .slice none 0 0, .slice none 0 0] 28) :: (b1, Ob [.slice a1 l.sets.length c1, .slice a2 l.left.length c2, .slice a3 l.at_.length c3, .slice a4 l.begun.length c4, .slice a5 l.done.length c5] 28) :: (ownM 3 (co (c 3)) ++ (ownM 3 (co (c 6)) ++ (ownM 4 (co (c 9)) ++ ownM 3 (co (c 12))))))
  refine LW.bare (G.use (p := IsOwn 1 (cv (c 3)) l.left.length (co (c 3))) (fun I hp => hp (fPure _) (by first | exact .head _ | exact .tail _ (.head _) | exact .tail _ (.tail _ (.head _)) | exact .tail _ (.tail _ (.tail _ (.head _))) | exact .tail _ (.tail _ (.tail _ (.tail _ (.head _)))) | exact .tail _ (.tail _ (.tail _ (.tail _ (.tail _ (.head _))))) | exact .tail _ (.tail _ (.tail _ (.tail _ (.tail _ (.tail _ (.head _)))))) | exact .tail _ (.tail _ (.tail _ (.tail _ (.tail _ (.tail _ (.tail _ (.head _))))))) | exact .tail _ (.tail _ (.tail _ (.tail _ (.tail _ (.tail _ (.tail _ (.tail _ (.head _)))))))) | exact .tail _ (.tail _ (.tail _ (.tail _ (.tail _ (.tail _ (.tail _ (.tail _ (.tail _ (.head _))))))))) | exact .tail _ (.tail _ (.tail _ (.tail _ (.tail _ (.tail _ (.tail _ (.tail _ (.tail _ (.tail _ (.head _)))))))))) | exact .tail _ (.tail _ (.tail _ (.tail _ (.tail _ (.tail _ (.tail _ (.tail _ (.tail _ (.tail _ (.tail _ (.head _))))))))))) | exact .tail _ (.tail _ (.tail _ (.tail _ (.tail _ (.tail _ (.tail _ (.tail _ (.tail _ (.tail _ (.tail _ (.tail _ (.head _)))))))))))))) ?_)
  intro hoL
  refine G.use (p := IsOwn 1 (cv (c 6)) l.at_.length (co (c 6))) (fun I hp => hp (fPure _) (by first | exact .head _ | exact .tail _ (.head _) | exact .tail _ (.tail _ (.head _)) | exact .tail _ (.tail _ (.tail _ (.head _))) | exact .tail _ (.tail _ (.tail _ (.tail _ (.head _)))) | exact .tail _ (.tail _ (.tail _ (.tail _ (.tail _ (.head _))))) | exact .tail _ (.tail _ (.tail _ (.tail _ (.tail _ (.tail _ (.head _)))))) | exact .tail _ (.tail _ (.tail _ (.tail _ (.tail _ (.tail _ (.tail _ (.head _))))))) | exact .tail _ (.tail _ (.tail _ (.tail _ (.tail _ (.tail _ (.tail _ (.tail _ (.head _)))))))) | exact .tail _ (.tail _ (.tail _ (.tail _ (.tail _ (.tail _ (.tail _ (.tail _ (.tail _ (.head _))))))))) | exact .tail _ (.tail _ (.tail _ (.tail _ (.tail _ (.tail _ (.tail _ (.tail _ (.tail _ (.tail _ (.head _)))))))))) | exact .tail _ (.tail _ (.tail _ (.tail _ (.tail _ (.tail _ (.tail _ (.tail _ (.tail _ (.tail _ (.tail _ (.head _))))))))))) | exact .tail _ (.tail _ (.tail _ (.tail _ (.tail _ (.tail _ (.tail _ (.tail _ (.tail _ (.tail _ (.tail _ (.tail _ (.head _)))))))))))))) ?_
  intro hoA
  refine G.use (p := IsOwn 1 (cv (c 9)) l.begun.length (co (c 9))) (fun I hp => hp (fPure _) (by first | exact .head _ | exact .tail _ (.head _) | exact .tail _ (.tail _ (.head _)) | exact .tail _ (.tail _ (.tail _ (.head _))) | exact .tail _ (.tail _ (.tail _ (.tail _ (.head _)))) | exact .tail _ (.tail _ (.tail _ (.tail _ (.tail _ (.head _))))) | exact .tail _ (.tail _ (.tail _ (.tail _ (.tail _ (.tail _ (.head _)))))) | exact .tail _ (.tail _ (.tail _ (.tail _ (.tail _ (.tail _ (.tail _ (.head _))))))) | exact .tail _ (.tail _ (.tail _ (.tail _ (.tail _ (.tail _ (.tail _ (.tail _ (.head _)))))))) | exact .tail _ (.tail _ (.tail _ (.tail _ (.tail _ (.tail _ (.tail _ (.tail _ (.tail _ (.head _))))))))) | exact .tail _ (.tail _ (.tail _ (.tail _ (.tail _ (.tail _ (.tail _ (.tail _ (.tail _ (.tail _ (.head _)))))))))) | exact .tail _ (.tail _ (.tail _ (.tail _ (.tail _ (.tail _ (.tail _ (.tail _ (.tail _ (.tail _ (.tail _ (.head _))))))))))) | exact .tail _ (.tail _ (.tail _ (.tail _ (.tail _ (.tail _ (.tail _ (.tail _ (.tail _ (.tail _ (.tail _ (.tail _ (.head _)))))))))))))) ?_
  intro hoB
  refine G.use (p := IsOwn 1 (cv (c 12)) l.done.length (co (c 12))) (fun I hp => hp (fPure _) (by first | exact .head _ | exact .tail _ (.head _) | exact .tail _ (.tail _ (.head _)) | exact .tail _ (.tail _ (.tail _ (.head _))) | exact .tail _ (.tail _ (.tail _ (.tail _ (.head _)))) | exact .tail _ (.tail _ (.tail _ (.tail _ (.tail _ (.head _))))) | exact .tail _ (.tail _ (.tail _ (.tail _ (.tail _ (.tail _ (.head _)))))) | exact .tail _ (.tail _ (.tail _ (.tail _ (.tail _ (.tail _ (.tail _ (.head _))))))) | exact .tail _ (.tail _ (.tail _ (.tail _ (.tail _ (.tail _ (.tail _ (.tail _ (.head _)))))))) | exact .tail _ (.tail _ (.tail _ (.tail _ (.tail _ (.tail _ (.tail _ (.tail _ (.tail _ (.head _))))))))) | exact .tail _ (.tail _ (.tail _ (.tail _ (.tail _ (.tail _ (.tail _ (.tail _ (.tail _ (.tail _ (.head _)))))))))) | exact .tail _ (.tail _ (.tail _ (.tail _ (.tail _ (.tail _ (.tail _ (.tail _ (.tail _ (.tail _ (.tail _ (.head _))))))))))) | exact .tail _ (.tail _ (.tail _ (.tail _ (.tail _ (.tail _ (.tail _ (.tail _ (.tail _ (.tail _ (.tail _ (.tail _ (.head _)))))))))))))) ?_
  intro hoD
  generalize cv (c 3) = vL at hoL ⊢
  generalize co (c 3) = oL at hoL ⊢
  generalize cv (c 6) = vA at hoA ⊢
  generalize co (c 6) = oA at hoA ⊢
  generalize cv (c 9) = vB at hoB ⊢
  generalize co (c 9) = oB at hoB ⊢
  generalize cv (c 12) = vD at hoD ⊢
  generalize co (c 12) = oD at hoD ⊢
  obtain ⟨aL, capL, rfl⟩ := own_slice hoL
  obtain ⟨aA, capA, rfl⟩ := own_slice hoA
  obtain ⟨aB, capB, rfl⟩ := own_slice hoB
  obtain ⟨aD, capD, rfl⟩ := own_slice hoD
  refine LW.back ?_
  repeat (first | refine stp ?_ | (refine sti ?_; intro _) | refine stf ?_ | (refine stb ?_; intro _))
  exact G.ret rfl (.cons (.cellA rfl rfl) .nil) (Φ' := [fRp (.slice aS l.sets.length capS) l.sets, fRow (ocells oL) l.left, fRow (ocells oA) l.at_, fRow (ocells oB) l.begun, fRow (ocells oD) l.done]) (M' := ownM 3 oL ++ (ownM 3 oA ++ (ownM 4 oB ++ ownM 3 oD))) inferInstance (.cons _ (.cons _ (List.Sublist.refl _))) ⟨aS, capS, _, oL, _, oA, _, oB, _, oD, rfl, hoL, hoA, hoB, hoD, rfl, rfl⟩
end Go.Rail
