/- What the laws of layer 19 draw: picks, sets, states. -/
import Derived.Test.YtoiepfapghnccaaAGAwake
import Derived.Test.YtoiepfapghnccaaALRaw
import Derived.Test.YtoiepfapghnccaaRailD
namespace Go.Rail
open Go Go.Proofs
set_option linter.unusedSimpArgs false
set_option linter.unusedVariables false
set_option maxHeartbeats 400000
set_option maxRecDepth 4000
attribute [local irreducible] OpK G W LW wpListIn Exit.then Exit.inBlock Post rounds opRun bodyPostM intOp

attribute [local irreducible] lexN cmpW cmpA cmpK cmpI makeS setK joinS clashS mayS rightS errG edgesR levelsR errR readyR ordG setsOf

def absI (c : Int) : Nat := (if c < 0 then -(c + 1) else c).toNat
def pickN (c : Int) (n : Nat) : Nat := absI c % n
theorem pickN_lt (c : Int) {n : Nat} (h : 0 < n) : pickN c n < n := Nat.mod_lt _ h
theorem pick_spec (c : Int) (n : Nat) (hn : 0 < n) (hn2 : n < 9223372036854775808) (hc : -9223372036854775808 ≤ c ∧ c ≤ 9223372036854775807) : FnV Try.prog 36 [.int .i64 c, .int .i64 n] [] (.int .i64 (pickN c n)) := by
  refine Fn.enter Try.func36 rfl Try.ntmps36 (by simp) (fun I0 w0 => ?_)
  by_cases h : c < 0
  · obtain ⟨m, hm⟩ : ∃ m : Nat, -(c + 1) = (m : Int) := ⟨(-(c + 1)).toNat, by omega⟩
    repeat (first | refine stp ?_ | (refine k_indexAddr ?_; first | (refine o_ixA _ rfl rfl rfl rfl rfl (h := ?_); intro _) | (refine o_ixB rfl rfl rfl rfl (h := ?_); intro _)) | (refine k_load ?_; refine o_loadF rfl rfl rfl rfl ?_) | (refine stb ?_; intro _))
    rw [hm]
    repeat (first | refine stp ?_ | (refine k_indexAddr ?_; first | (refine o_ixA _ rfl rfl rfl rfl rfl (h := ?_); intro _) | (refine o_ixB rfl rfl rfl rfl (h := ?_); intro _)) | (refine k_load ?_; refine o_loadF rfl rfl rfl rfl ?_) | (refine stb ?_; intro _))
    refine G.ret rfl (.cons (.tmp rfl) .nil) (Φ' := []) (M' := []) inferInstance (List.nil_sublist _) ⟨?_, rfl, rfl⟩
    rw [pickN, absI, if_pos h, hm]
    rfl
  · obtain ⟨m, hm⟩ : ∃ m : Nat, c = (m : Int) := ⟨c.toNat, by omega⟩
    repeat (first | refine stp ?_ | (refine k_indexAddr ?_; first | (refine o_ixA _ rfl rfl rfl rfl rfl (h := ?_); intro _) | (refine o_ixB rfl rfl rfl rfl (h := ?_); intro _)) | (refine k_load ?_; refine o_loadF rfl rfl rfl rfl ?_) | (refine stb ?_; intro _))
    refine G.ret rfl (.cons (.tmp rfl) .nil) (Φ' := []) (M' := []) inferInstance (List.nil_sublist _) ⟨?_, rfl, rfl⟩
    rw [pickN, absI, if_neg h, hm]
    rfl
def fitB (l : List Bool) (n : Nat) : List Bool := l.take n ++ List.replicate (n - l.length) false
def fitP (l : List Bool) (n i : Nat) : List Bool := l.take i ++ List.replicate (n - i) false
theorem fitP_length {l : List Bool} {n i : Nat} (h : i ≤ l.length) (h2 : i ≤ n) : (fitP l n i).length = n := by simp [fitP]; omega
theorem fitP_succ {l : List Bool} {n i : Nat} (h : i < l.length) (h2 : i < n) : (fitP l n i).set i l[i] = fitP l n (i + 1) := by
  unfold fitP
  rw [List.set_append_right _ _ (by simp; omega)]
  rw [List.length_take, Nat.min_eq_left (by omega), Nat.sub_self, show n - i = (n - (i + 1)) + 1 from by omega, List.replicate_succ, List.set_cons_zero, List.take_succ_eq_append_getElem h, List.append_assoc]
  rfl
theorem fitB_length (l : List Bool) (n : Nat) : (fitB l n).length = n := by simp [fitB]; omega
theorem fit_spec (v : Value) (l : List Bool) (n : Nat) (hn : n ≤ 1000000) (hl : l.length ≤ 4611686018427387904) : Fn Try.prog 35 [v, .int .i64 n] [fRp v l] [] (fun u Φ' M' => ∃ b, u = .slice (some ⟨b, 0, none⟩) n n ∧ Φ' = [] ∧ M' = [(b, Ob (cB (fitB l n)) 4)]) := by
  refine Fn.enter Try.func35 rfl Try.ntmps35 (by simp) (fun I0 w0 => ?_)
  repeat (first | refine stp ?_ | (refine k_indexAddr ?_; first | (refine o_ixA _ rfl rfl rfl rfl rfl (h := ?_); intro _) | (refine o_ixB rfl rfl rfl rfl (h := ?_); intro _)) | (refine k_load ?_; refine o_loadF rfl rfl rfl rfl ?_) | (refine stb ?_; intro _))
  refine o_makeB n rfl rfl rfl rfl rfl rfl hn ?_
  intro b
  rw [show List.replicate n false = fitP l n 0 from by simp [fitP]]
  repeat (first | refine stp ?_ | (refine k_indexAddr ?_; first | (refine o_ixA _ rfl rfl rfl rfl rfl (h := ?_); intro _) | (refine o_ixB rfl rfl rfl rfl (h := ?_); intro _)) | (refine k_load ?_; refine o_loadF rfl rfl rfl rfl ?_) | (refine stb ?_; intro _))
  refine W.loopI (fun (i : Nat) => ([fRp v l], [(0, v), (1, .int .i64 n), (5, .slice (some ⟨b, 0, none⟩) n n), (6, .int .i64 i)], [(b, Ob (cB (fitP l n i)) 4)])) (fun i => i ≤ l.length ∧ i ≤ n) (fun i => n - i) 0 ⟨Nat.zero_le _, Nat.zero_le _⟩ inferInstance (look_sub_cons rfl (look_sub_cons rfl (look_sub_cons rfl (look_sub_cons rfl look_sub_nil)))) (List.Sublist.refl _) ?_
  rintro i ⟨hi, hin⟩
  dsimp only
  by_cases hi0 : i = l.length
  · subst hi0
    have e : fitP l n l.length = fitB l n := by rw [fitP, fitB, List.take_length, List.take_of_length_le hin]
    rw [e]
    repeat (first | refine stp ?_ | (refine k_indexAddr ?_; first | (refine o_ixA _ rfl rfl rfl rfl rfl (h := ?_); intro _) | (refine o_ixB rfl rfl rfl rfl (h := ?_); intro _)) | (refine k_load ?_; refine o_loadF rfl rfl rfl rfl ?_) | (refine stb ?_; intro _))
    exact G.ret rfl (.cons (.tmp rfl) .nil) (Φ' := []) (M' := [(b, Ob (cB (fitB l n)) 4)]) inferInstance (List.Sublist.refl _) ⟨b, rfl, rfl, rfl⟩
  · have hi1 : i < l.length := by omega
    by_cases hn0 : i = n
    · subst hn0
      have e : fitP l i i = fitB l i := by rw [fitP, fitB, Nat.sub_self, Nat.sub_eq_zero_of_le hi]
      rw [e]
      repeat (first | refine stp ?_ | (refine k_indexAddr ?_; first | (refine o_ixA _ rfl rfl rfl rfl rfl (h := ?_); intro _) | (refine o_ixB rfl rfl rfl rfl (h := ?_); intro _)) | (refine k_load ?_; refine o_loadF rfl rfl rfl rfl ?_) | (refine stb ?_; intro _))
      exact G.ret rfl (.cons (.tmp rfl) .nil) (Φ' := []) (M' := [(b, Ob (cB (fitB l i)) 4)]) inferInstance (List.Sublist.refl _) ⟨b, rfl, rfl, rfl⟩
    · have hn1 : i < n := by omega
      have hfl := fitP_length hi hin
      repeat (first | refine stp ?_ | (refine k_indexAddr ?_; first | (refine o_ixA _ rfl rfl rfl rfl rfl (h := ?_); intro _) | (refine o_ixB rfl rfl rfl rfl (h := ?_); intro _)) | (refine k_load ?_; refine o_loadF rfl rfl rfl rfl ?_) | (refine stb ?_; intro _))
      refine o_idxO rfl rfl rfl rfl (by omega) (by omega) (o' := i) (by omega) ?_
      repeat (first | refine stp ?_ | (refine k_indexAddr ?_; first | (refine o_ixA _ rfl rfl rfl rfl rfl (h := ?_); intro _) | (refine o_ixB rfl rfl rfl rfl (h := ?_); intro _)) | (refine k_load ?_; refine o_loadF rfl rfl rfl rfl ?_) | (refine stb ?_; intro _))
      refine o_storeB i l[i] (by omega) rfl rfl rfl rfl ?_
      rw [fitP_succ hi1 hn1]
      repeat (first | refine stp ?_ | (refine k_indexAddr ?_; first | (refine o_ixA _ rfl rfl rfl rfl rfl (h := ?_); intro _) | (refine o_ixB rfl rfl rfl rfl (h := ?_); intro _)) | (refine k_load ?_; refine o_loadF rfl rfl rfl rfl ?_) | (refine stb ?_; intro _))
      exact G.again (S := Nat) (i + 1) (by omega) ⟨by omega, by omega⟩ inferInstance (look_sub_cons rfl (look_sub_cons rfl (look_sub_cons rfl (look_sub_cons rfl look_sub_nil)))) (List.Sublist.refl _)
/-- Sets, of raw numbers, at most ten. -/
def oneG (r : RawS) : Sets := setsOf r.a r.b
def rawG (raws : List RawS) : List Sets := (raws.take 10).map oneG
theorem oneG_right (r : RawS) : rightS (oneG r) = true := setsOf_right r.a r.b
theorem oneG_fit (r : RawS) : fit6 (oneG r) := by
  have := setsOf_small r.a r.b
  exact ⟨Nat.le_trans this.1 (by decide), Nat.le_trans this.2 (by decide)⟩
theorem rawG_len (raws : List RawS) : (rawG raws).length ≤ 10 := by
  rw [rawG, List.length_map, List.length_take]; omega
theorem rawG_may (raws : List RawS) : mayG (rawG raws) = true := by
  have h := rawG_len raws
  rw [mayG, decide_eq_true (by omega), Bool.true_and, List.all_eq_true]
  intro s hs
  obtain ⟨r, _, rfl⟩ := List.mem_map.1 hs
  exact oneG_right r
theorem rawG_fit (raws : List RawS) : ∀ s ∈ rawG raws, fit6 s := by
  intro s hs
  obtain ⟨r, _, rfl⟩ := List.mem_map.1 hs
  exact oneG_fit r
theorem rawG_succ {raws : List RawS} {i : Nat} (h : i < raws.length) : (raws.take i).map oneG ++ [oneG raws[i]] = (raws.take (i + 1)).map oneG := by
  rw [List.take_succ_eq_append_getElem h, List.map_append]; rfl
structure SgSt where
  i : Nat
  v : Value
  o : OR
def okRaws (raws : List RawS) : Prop := raws.length ≤ 4611686018427387904 ∧ ∀ r ∈ raws, okRaw r.a ∧ okRaw r.b
theorem gsetsO_spec (v : Value) (raws : List RawS) (hr : okRaws raws) : Fn Try.prog 34 [v] [fRp v raws] [] (ROwn 24 (rawG raws)) := by
  obtain ⟨hl, hr⟩ := hr
  refine Fn.enter Try.func34 rfl Try.ntmps34 (by simp) (fun I0 w0 => ?_)
  repeat (first | refine stp ?_ | (refine k_indexAddr ?_; first | (refine o_ixA _ rfl rfl rfl rfl rfl (h := ?_); intro _) | (refine o_ixB rfl rfl rfl rfl (h := ?_); intro _)) | (refine k_load ?_; refine o_loadF rfl rfl rfl rfl ?_) | (refine stb ?_; intro _))
  refine W.loopI (fun (s : SgSt) => ([fRp v raws, fRow (ocells s.o) ((raws.take s.i).map oneG)], [(0, v), (3, s.v), (4, .int .i64 s.i)], ownM 24 s.o)) (fun s => s.i ≤ raws.length ∧ s.i ≤ 10 ∧ IsOwn 2 s.v ((raws.take s.i).map oneG).length s.o) (fun s => raws.length - s.i) ⟨0, .slice none 0 0, none⟩ ⟨Nat.zero_le _, by decide, ⟨rfl, rfl⟩⟩ (show Ents _ [fRp v raws, fRow ([] : List Value) ([] : List Sets)] from inferInstance) (look_sub_cons rfl (look_sub_cons rfl (look_sub_cons rfl look_sub_nil))) (List.Sublist.refl _) ?_
  rintro ⟨i, v3, o⟩ ⟨hi, hi10, hown⟩
  dsimp only at hi hi10 hown ⊢
  by_cases hi0 : i = raws.length
  · have e : (raws.take i).map oneG = rawG raws := by rw [rawG, List.take_of_length_le (by omega), List.take_of_length_le (by omega)]
    rw [e] at hown ⊢
    repeat (first | refine stp ?_ | (refine k_indexAddr ?_; first | (refine o_ixA _ rfl rfl rfl rfl rfl (h := ?_); intro _) | (refine o_ixB rfl rfl rfl rfl (h := ?_); intro _)) | (refine k_load ?_; refine o_loadF rfl rfl rfl rfl ?_) | (refine stb ?_; intro _))
    exact G.ret rfl (.cons (.tmp rfl) .nil) (Φ' := [fRow (ocells o) (rawG raws)]) (M' := ownM 24 o) inferInstance (List.Sublist.refl _) ⟨o, hown, rfl, rfl⟩
  · have hi1 : i < raws.length := by omega
    by_cases h10 : i = 10
    · have e : (raws.take i).map oneG = rawG raws := by rw [rawG, h10]
      rw [e] at hown ⊢
      repeat (first | refine stp ?_ | (refine k_indexAddr ?_; first | (refine o_ixA _ rfl rfl rfl rfl rfl (h := ?_); intro _) | (refine o_ixB rfl rfl rfl rfl (h := ?_); intro _)) | (refine k_load ?_; refine o_loadF rfl rfl rfl rfl ?_) | (refine stb ?_; intro _))
      exact G.ret rfl (.cons (.tmp rfl) .nil) (Φ' := [fRow (ocells o) (rawG raws)]) (M' := ownM 24 o) inferInstance (List.Sublist.refl _) ⟨o, hown, rfl, rfl⟩
    · have hri := hr raws[i] (List.getElem_mem hi1)
      have hll : ((raws.take i).map oneG).length ≤ 10 := by rw [List.length_map, List.length_take]; omega
      have hsu := rawG_succ hi1
      repeat (first | refine stp ?_ | (refine k_indexAddr ?_; first | (refine o_ixA _ rfl rfl rfl rfl rfl (h := ?_); intro _) | (refine o_ixB rfl rfl rfl rfl (h := ?_); intro _)) | (refine k_load ?_; refine o_loadF rfl rfl rfl rfl ?_) | (refine stb ?_; intro _))
      refine W.draw 13 [⟨?v0_1, fun _ z => []⟩, ⟨?v1_1, fun _ z => []⟩, ⟨?v2_1, fun _ z => []⟩, ⟨fun _ z => z, fun _ z => [fPt z raws[i]]⟩, ⟨fun _ z => z, fun _ z => [fPt z raws[i].a]⟩, ⟨fun _ z => z, fun _ z => [fRp z raws[i].a]⟩, ⟨?v6_1, fun _ z => []⟩, ⟨?v7_1, fun _ z => []⟩, ⟨fun _ z => z, fun _ z => [fPt z raws[i]]⟩, ⟨fun _ z => z, fun _ z => [fPt z raws[i].b]⟩, ⟨fun _ z => z, fun _ z => [fRp z raws[i].b]⟩, ⟨fun _ z => z, fun _ z => [fRp z (oneG raws[i])]⟩, ⟨fun _ z => z, fun _ z => [fRp z [oneG raws[i]]]⟩] [[], [], [], [1, 2], [3], [4], [], [], [6, 7], [8], [9], [5, 10], [11]] [0, 12] (by kernel_rfl) (by kernel_rfl) (by kernel_rfl) (by kernel_rfl) ?loc_1 ?ops_1 ?rest_1
      case ops_1 =>
        simp only [AllQ, Nat.reduceAdd, and_true]
        refine ⟨?_, ?_, ?_, ?_, ?_, ?_, ?_, ?_, ?_, ?_, ?_, ?_, ?_⟩
        · intro c z0 Φr Lr K hK; dsimp only [dstOf, kval, kfac, ancE,  ancF, getD_z, getD_s, List.getElem?_cons_zero, List.getElem?_cons_succ, List.getElem?_nil, Option.getD_some, Option.getD_none, List.nil_append, List.cons_append, Option.getD] at hK ⊢; refine stp ?_; exact hK z0
        · intro c z0 Φr Lr K hK; dsimp only [dstOf, kval, kfac, ancE,  ancF, getD_z, getD_s, List.getElem?_cons_zero, List.getElem?_cons_succ, List.getElem?_nil, Option.getD_some, Option.getD_none, List.nil_append, List.cons_append, Option.getD] at hK ⊢; refine stp ?_; exact hK z0
        · intro c z0 Φr Lr K hK; dsimp only [dstOf, kval, kfac, ancE,  ancF, getD_z, getD_s, List.getElem?_cons_zero, List.getElem?_cons_succ, List.getElem?_nil, Option.getD_some, Option.getD_none, List.nil_append, List.cons_append, Option.getD] at hK ⊢; refine stp ?_; exact hK z0
        · intro c z0 Φr Lr K hK; dsimp only [dstOf, kval, kfac, ancE,  ancF, getD_z, getD_s, List.getElem?_cons_zero, List.getElem?_cons_succ, List.getElem?_nil, Option.getD_some, Option.getD_none, List.nil_append, List.cons_append, Option.getD] at hK ⊢; refine o_idxN i rfl rfl rfl rfl rfl hi1 ?_; intro p; exact hK _
        · intro c z0 Φr Lr K hK; dsimp only [dstOf, kval, kfac, ancE,  ancF, getD_z, getD_s, List.getElem?_cons_zero, List.getElem?_cons_succ, List.getElem?_nil, Option.getD_some, Option.getD_none, List.nil_append, List.cons_append, Option.getD] at hK ⊢; refine o_indexP (α := RawS) (β := List (Int × Int)) (off := 0) RawS.a rfl rfl rfl rfl (by decide) (by decide) rfl ?_; intro p; exact hK _
        · intro c z0 Φr Lr K hK; dsimp only [dstOf, kval, kfac, ancE,  ancF, getD_z, getD_s, List.getElem?_cons_zero, List.getElem?_cons_succ, List.getElem?_nil, Option.getD_some, Option.getD_none, List.nil_append, List.cons_append, Option.getD] at hK ⊢; refine o_loadR rfl rfl rfl rfl ?_; intro p; exact hK _
        · intro c z0 Φr Lr K hK; dsimp only [dstOf, kval, kfac, ancE,  ancF, getD_z, getD_s, List.getElem?_cons_zero, List.getElem?_cons_succ, List.getElem?_nil, Option.getD_some, Option.getD_none, List.nil_append, List.cons_append, Option.getD] at hK ⊢; refine stp ?_; exact hK z0
        · intro c z0 Φr Lr K hK; dsimp only [dstOf, kval, kfac, ancE,  ancF, getD_z, getD_s, List.getElem?_cons_zero, List.getElem?_cons_succ, List.getElem?_nil, Option.getD_some, Option.getD_none, List.nil_append, List.cons_append, Option.getD] at hK ⊢; refine stp ?_; exact hK z0
        · intro c z0 Φr Lr K hK; dsimp only [dstOf, kval, kfac, ancE,  ancF, getD_z, getD_s, List.getElem?_cons_zero, List.getElem?_cons_succ, List.getElem?_nil, Option.getD_some, Option.getD_none, List.nil_append, List.cons_append, Option.getD] at hK ⊢; refine o_idxN i rfl rfl rfl rfl rfl hi1 ?_; intro p; exact hK _
        · intro c z0 Φr Lr K hK; dsimp only [dstOf, kval, kfac, ancE,  ancF, getD_z, getD_s, List.getElem?_cons_zero, List.getElem?_cons_succ, List.getElem?_nil, Option.getD_some, Option.getD_none, List.nil_append, List.cons_append, Option.getD] at hK ⊢; refine o_indexP (α := RawS) (β := List (Int × Int)) (off := 1) RawS.b rfl rfl rfl rfl (by decide) (by decide) rfl ?_; intro p; exact hK _
        · intro c z0 Φr Lr K hK; dsimp only [dstOf, kval, kfac, ancE,  ancF, getD_z, getD_s, List.getElem?_cons_zero, List.getElem?_cons_succ, List.getElem?_nil, Option.getD_some, Option.getD_none, List.nil_append, List.cons_append, Option.getD] at hK ⊢; refine o_loadR rfl rfl rfl rfl ?_; intro p; exact hK _
        · intro c z0 Φr Lr K hK; dsimp only [dstOf, kval, kfac, ancE,  ancF, getD_z, getD_s, List.getElem?_cons_zero, List.getElem?_cons_succ, List.getElem?_nil, Option.getD_some, Option.getD_none, List.nil_append, List.cons_append, Option.getD] at hK ⊢; refine o_callD rfl rfl rfl rfl (rawSets (c 5) (c 10) raws[i].a raws[i].b hri.1 hri.2) ?_; intro p; exact hK _
        · intro c z0 Φr Lr K hK; dsimp only [dstOf, kval, kfac, ancE,  ancF, getD_z, getD_s, List.getElem?_cons_zero, List.getElem?_cons_succ, List.getElem?_nil, Option.getD_some, Option.getD_none, List.nil_append, List.cons_append, Option.getD] at hK ⊢; refine o_lit (xs := [oneG raws[i]]) ⟨by decide, rfl, by decide⟩ rfl rfl rfl ⟨fun I hp => Ent'.h (φ := fRp (c 11) (oneG raws[i])) I hp, trivial⟩ rfl ?_; intro p; exact hK _
      case loc_1 =>
        simp only [AllL, Nat.reduceAdd, and_true]
        refine ⟨?_, ?_, ?_, ?_, ?_, ?_, ?_, ?_, ?_, ?_, ?_, ?_, ?_⟩
        all_goals (intro c c' z h; first | exact ⟨rfl, rfl⟩ | (skip))
      intro c
      dsimp only [dstOf, kval, kfac, ancE,  ancF, getD_z, getD_s, List.getElem?_cons_zero, List.getElem?_cons_succ, List.getElem?_nil, Option.getD_some, Option.getD_none, List.nil_append, List.cons_append, List.drop_succ_cons, List.drop_zero, Option.getD]
      repeat (first | refine stp ?_ | (refine k_indexAddr ?_; first | (refine o_ixA _ rfl rfl rfl rfl rfl (h := ?_); intro _) | (refine o_ixB rfl rfl rfl rfl (h := ?_); intro _)) | (refine k_load ?_; refine o_loadF rfl rfl rfl rfl ?_) | (refine stb ?_; intro _))
      refine o_app2 (Mr := []) o (xs := (raws.take i).map oneG) (ys := [oneG raws[i]]) hown ⟨by simp; omega, by simp; omega, rfl⟩ rfl rfl rfl rfl inferInstance inferInstance (List.Perm.refl _) ?_
      intro v' o' hown'
      rw [hsu] at hown' ⊢
      repeat (first | refine stp ?_ | (refine k_indexAddr ?_; first | (refine o_ixA _ rfl rfl rfl rfl rfl (h := ?_); intro _) | (refine o_ixB rfl rfl rfl rfl (h := ?_); intro _)) | (refine k_load ?_; refine o_loadF rfl rfl rfl rfl ?_) | (refine stb ?_; intro _))
      exact G.again (S := SgSt) ⟨i + 1, v', o'⟩ (by dsimp only; omega) ⟨by dsimp only; omega, by dsimp only; omega, hown'⟩ inferInstance (look_sub_cons rfl (look_sub_cons rfl (look_sub_cons rfl look_sub_nil))) (List.Sublist.refl _)
theorem gsets_spec (v : Value) (raws : List RawS) (hr : okRaws raws) : FnD Try.prog 34 [v] [fRp v raws] (fun u => [fRp u (rawG raws)]) := Fn.given (e := 24) (gsetsO_spec v raws hr)
end Go.Rail
