/- The document's pairs and levels. -/
import Derived.Test.YtoiepfapghnccaaGreatAGPairsGRef
import Derived.Test.YtoiepfapghnccaaGreatRailD
namespace Go.Rail
open Go Go.Proofs
set_option linter.unusedSimpArgs false
set_option linter.unusedVariables false
set_option maxHeartbeats 400000
set_option maxRecDepth 4000
attribute [local irreducible] OpK G W LW wpListIn Exit.then Exit.inBlock Post rounds opRun bodyPostM intOp
attribute [local irreducible] lexN cmpW cmpA cmpK makeS setK commonL common clashS rightS rowG restG edgesG clG
def tupE (e : Int) (sv : Value) : Value := .tuple #[sv, .int .i64 e]
structure EdSt where
  i : Nat
  v : Value
  o : OR
  out : List (Int × Int)
theorem redges_spec (v : Value) (xs : List Sets) (hx : xs.length ≤ 1000000) (hs : ∀ s ∈ xs, fit6 s) : Fn Tryz.prog 31 [v] [fRp v xs] [] (RTup (tupE (errG xs)) 76 (edgesR xs)) := by
  refine Fn.enter Tryz.func31 rfl Tryz.ntmps31 (by simp) (fun I0 w0 => ?_)
  cases hm : mayG xs with
  | false =>
    have e1 : edgesR xs = [] := by rw [edgesR, hm]; rfl
    have e2 : errG xs = 1 := by rw [errG, hm]; rfl
    rw [e1, e2]
    repeat (first | refine stp ?_ | (refine sti ?_; intro _) | refine stf ?_ | (refine stb ?_; intro _))
    refine o_callV rfl rfl rfl rfl (mayR_spec v xs hx hs) (congrArg Value.bool hm) ?_
    repeat (first | refine stp ?_ | (refine sti ?_; intro _) | refine stf ?_ | (refine stb ?_; intro _))
    exact G.ret rfl (.cons (.tmp rfl) (.cons (.tmp rfl) .nil)) (Φ' := [fRow ([] : List Value) ([] : List (Int × Int))]) (M' := []) inferInstance (List.nil_sublist _) ⟨_, none, rfl, ⟨rfl, rfl⟩, rfl, rfl⟩
  | true =>
    have e1 : edgesR xs = edgesI xs := by rw [edgesR, hm]; rfl
    have e2 : errG xs = 0 := by rw [errG, hm]; rfl
    have h64 := may_len hm
    have hcap := edges_few hm
    have hlen := edgesI_length xs
    rw [e1, e2]
    have h0 : edgesG xs = restG xs 0 := by with_unfolding_all rfl
    repeat (first | refine stp ?_ | (refine sti ?_; intro _) | refine stf ?_ | (refine stb ?_; intro _))
    refine o_callV rfl rfl rfl rfl (mayR_spec v xs hx hs) (congrArg Value.bool hm) ?_
    repeat (first | refine stp ?_ | (refine sti ?_; intro _) | refine stf ?_ | (refine stb ?_; intro _))
    refine W.loopI (fun (s : EdSt) => ([fRp v xs, fRow (ocells s.o) s.out], [(0, v), (4, s.v), (5, .int .i64 s.i)], ownM 76 s.o)) (fun s => s.i ≤ xs.length ∧ IsOwn 2 s.v s.out.length s.o ∧ s.out ++ (restG xs s.i).map toI = edgesI xs) (fun s => xs.length - s.i) ⟨0, .slice none 0 0, none, []⟩ ⟨Nat.zero_le _, ⟨rfl, rfl⟩, by rw [edgesI, h0]; rfl⟩ inferInstance (look_sub_cons rfl (look_sub_cons rfl (look_sub_cons rfl look_sub_nil))) (List.Sublist.refl _) ?_
    rintro ⟨i, v4, o, out⟩ ⟨hi, hown, hout⟩
    dsimp only at hi hown hout ⊢
    by_cases hi0 : i = xs.length
    · rw [restG_end (by omega), List.map_nil, List.append_nil] at hout
      subst hout
      repeat (first | refine stp ?_ | (refine sti ?_; intro _) | refine stf ?_ | (refine stb ?_; intro _))
      exact G.ret rfl (.cons (.tmp rfl) (.cons (.tmp rfl) .nil)) (Φ' := [fRow (ocells o) (edgesI xs)]) (M' := ownM 76 o) inferInstance (List.Sublist.refl _) ⟨_, o, rfl, hown, rfl, rfl⟩
    · have hi1 : i < xs.length := by omega
      have hsA := hs xs[i] (List.getElem_mem hi1)
      rw [restG_step hi1] at hout
      repeat (first | refine stp ?_ | (refine sti ?_; intro _) | refine stf ?_ | (refine stb ?_; intro _))
      refine W.loopI (fun (s : EdSt) => ([fRp v xs, fRow (ocells s.o) s.out], [(0, v), (4, s.v), (5, .int .i64 i), (6, .int .i64 s.i)], ownM 76 s.o)) (fun s => s.i ≤ xs.length ∧ IsOwn 2 s.v s.out.length s.o ∧ s.out ++ (rowG xs i s.i ++ restG xs (i + 1)).map toI = edgesI xs) (fun s => xs.length - s.i) ⟨i + 1, v4, o, out⟩ ⟨hi1, hown, hout⟩ inferInstance (look_sub_cons rfl (look_sub_cons rfl (look_sub_cons rfl (look_sub_cons rfl look_sub_nil)))) (List.Sublist.refl _) ?_
      clear hown hout
      rintro ⟨k, v4, o, out⟩ ⟨hk, hown, hout⟩
      dsimp only at hk hown hout ⊢
      by_cases hk0 : k = xs.length
      · rw [rowG_end (by omega), List.nil_append] at hout
        repeat (first | refine stp ?_ | (refine sti ?_; intro _) | refine stf ?_ | (refine stb ?_; intro _))
        exact G.again (S := EdSt) ⟨i + 1, v4, o, out⟩ (by dsimp only; omega) ⟨hi1, hown, hout⟩ inferInstance (look_sub_cons rfl (look_sub_cons rfl (look_sub_cons rfl look_sub_nil))) (List.Sublist.refl _)
      · have hk1 : k < xs.length := by omega
        have hsB := hs xs[k] (List.getElem_mem hk1)
        have hcl := clG_eq hi1 hk1
        rw [rowG_step hk1, hcl] at hout
        have hol : out.length ≤ 4096 := by
          have := congrArg List.length hout
          rw [List.length_append, hlen] at this
          omega
        cases hc : clashS xs[i] xs[k] with
        | true =>
          rw [hc, if_pos rfl] at hout
          repeat (first | refine stp ?_ | (refine sti ?_; intro _) | refine stf ?_ | (refine stb ?_; intro _))
          refine W.draw 9 [⟨?v0_1, fun _ z => []⟩, ⟨?v1_1, fun _ z => []⟩, ⟨fun _ z => z, fun _ z => [fPt z xs[i]]⟩, ⟨fun _ z => z, fun _ z => [fRp z xs[i]]⟩, ⟨?v4_1, fun _ z => []⟩, ⟨?v5_1, fun _ z => []⟩, ⟨fun _ z => z, fun _ z => [fPt z xs[k]]⟩, ⟨fun _ z => z, fun _ z => [fRp z xs[k]]⟩, ⟨?v8_1, fun _ z => []⟩] [[], [], [0, 1], [2], [], [], [4, 5], [6], [3, 7]] [8] (by kernel_rfl) (by kernel_rfl) (by kernel_rfl) (by kernel_rfl) ?loc_1 ?ops_1 ?rest_1
          case ops_1 =>
            simp only [AllQ, Nat.reduceAdd, and_true]
            refine ⟨?_, ?_, ?_, ?_, ?_, ?_, ?_, ?_, ?_⟩
            all_goals (intro c z0 Φr Lr K hK; dsimp only [dstOf, kval, kfac, ancE, ancF, getD_z, getD_s, List.getElem?_cons_zero, List.getElem?_cons_succ, List.getElem?_nil, Option.getD_some, Option.getD_none, List.nil_append, List.cons_append, Option.getD] at hK ⊢)
            · refine stp ?_; exact hK z0
            · refine stp ?_; exact hK z0
            · refine o_idxN i rfl rfl rfl rfl rfl hi1 ?_; intro p; exact hK _
            · refine o_loadR rfl rfl rfl rfl ?_; intro p; exact hK _
            · refine stp ?_; exact hK z0
            · refine stp ?_; exact hK z0
            · refine o_idxN k rfl rfl rfl rfl rfl hk1 ?_; intro p; exact hK _
            · refine o_loadR rfl rfl rfl rfl ?_; intro p; exact hK _
            · refine o_callV rfl rfl rfl rfl (clashS_spec _ _ xs[i] xs[k] hsA hsB) (congrArg Value.bool hc) ?_; exact hK z0
          case loc_1 =>
            simp only [AllL, Nat.reduceAdd, and_true]
            refine ⟨?_, ?_, ?_, ?_, ?_, ?_, ?_, ?_, ?_⟩
            all_goals (intro c c' z h; first | exact ⟨rfl, rfl⟩ | (skip))
          intro c
          dsimp only [dstOf, kval, kfac, ancE,  ancF, getD_z, getD_s, List.getElem?_cons_zero, List.getElem?_cons_succ, List.getElem?_nil, Option.getD_some, Option.getD_none, List.nil_append, List.cons_append, List.drop_succ_cons, List.drop_zero, Option.getD]
          repeat (first | refine stp ?_ | (refine sti ?_; intro _) | refine stf ?_ | (refine stb ?_; intro _))
          refine o_lit (xs := [((i : Int), (k : Int))]) ⟨by decide, rfl, by decide⟩ rfl rfl rfl ⟨fun _ _ => Rp.flat.2 rfl, trivial⟩ rfl ?_
          intro p1
          repeat (first | refine stp ?_ | (refine sti ?_; intro _) | refine stf ?_ | (refine stb ?_; intro _))
          refine o_app2 (Mr := []) o (xs := out) (ys := [((i : Int), (k : Int))]) hown ⟨by simp; omega, by simp; omega, rfl⟩ rfl rfl rfl rfl inferInstance inferInstance (List.Perm.refl _) ?_
          intro v' o' hown'
          repeat (first | refine stp ?_ | (refine sti ?_; intro _) | refine stf ?_ | (refine stb ?_; intro _))
          exact G.again (S := EdSt) ⟨k + 1, v', o', out ++ [((i : Int), (k : Int))]⟩ (by dsimp only; omega) ⟨hk1, hown', by rw [← hout]; simp [toI]⟩ inferInstance (look_sub_cons rfl (look_sub_cons rfl (look_sub_cons rfl (look_sub_cons rfl look_sub_nil)))) (List.Sublist.refl _)
        | false =>
          rw [hc, if_neg (by simp)] at hout
          repeat (first | refine stp ?_ | (refine sti ?_; intro _) | refine stf ?_ | (refine stb ?_; intro _))
          refine W.draw 9 [⟨?v0_2, fun _ z => []⟩, ⟨?v1_2, fun _ z => []⟩, ⟨fun _ z => z, fun _ z => [fPt z xs[i]]⟩, ⟨fun _ z => z, fun _ z => [fRp z xs[i]]⟩, ⟨?v4_2, fun _ z => []⟩, ⟨?v5_2, fun _ z => []⟩, ⟨fun _ z => z, fun _ z => [fPt z xs[k]]⟩, ⟨fun _ z => z, fun _ z => [fRp z xs[k]]⟩, ⟨?v8_2, fun _ z => []⟩] [[], [], [0, 1], [2], [], [], [4, 5], [6], [3, 7]] [8] (by kernel_rfl) (by kernel_rfl) (by kernel_rfl) (by kernel_rfl) ?loc_2 ?ops_2 ?rest_2
          case ops_2 =>
            simp only [AllQ, Nat.reduceAdd, and_true]
            refine ⟨?_, ?_, ?_, ?_, ?_, ?_, ?_, ?_, ?_⟩
            all_goals (intro c z0 Φr Lr K hK; dsimp only [dstOf, kval, kfac, ancE, ancF, getD_z, getD_s, List.getElem?_cons_zero, List.getElem?_cons_succ, List.getElem?_nil, Option.getD_some, Option.getD_none, List.nil_append, List.cons_append, Option.getD] at hK ⊢)
            · refine stp ?_; exact hK z0
            · refine stp ?_; exact hK z0
            · refine o_idxN i rfl rfl rfl rfl rfl hi1 ?_; intro p; exact hK _
            · refine o_loadR rfl rfl rfl rfl ?_; intro p; exact hK _
            · refine stp ?_; exact hK z0
            · refine stp ?_; exact hK z0
            · refine o_idxN k rfl rfl rfl rfl rfl hk1 ?_; intro p; exact hK _
            · refine o_loadR rfl rfl rfl rfl ?_; intro p; exact hK _
            · refine o_callV rfl rfl rfl rfl (clashS_spec _ _ xs[i] xs[k] hsA hsB) (congrArg Value.bool hc) ?_; exact hK z0
          case loc_2 =>
            simp only [AllL, Nat.reduceAdd, and_true]
            refine ⟨?_, ?_, ?_, ?_, ?_, ?_, ?_, ?_, ?_⟩
            all_goals (intro c c' z h; first | exact ⟨rfl, rfl⟩ | (skip))
          intro c
          dsimp only [dstOf, kval, kfac, ancE,  ancF, getD_z, getD_s, List.getElem?_cons_zero, List.getElem?_cons_succ, List.getElem?_nil, Option.getD_some, Option.getD_none, List.nil_append, List.cons_append, List.drop_succ_cons, List.drop_zero, Option.getD]
          repeat (first | refine stp ?_ | (refine sti ?_; intro _) | refine stf ?_ | (refine stb ?_; intro _))
          exact G.again (S := EdSt) ⟨k + 1, v4, o, out⟩ (by dsimp only; omega) ⟨hk1, hown, hout⟩ inferInstance (look_sub_cons rfl (look_sub_cons rfl (look_sub_cons rfl (look_sub_cons rfl look_sub_nil)))) (List.Sublist.refl _)

end Go.Rail
namespace Go.Rail
open Go Go.Proofs
set_option linter.unusedSimpArgs false
set_option linter.unusedVariables false
set_option maxHeartbeats 400000
set_option maxRecDepth 4000
attribute [local irreducible] OpK G W LW wpListIn Exit.then Exit.inBlock Post rounds opRun bodyPostM intOp
attribute [local irreducible] lexN cmpW cmpA cmpK cmpI makeS setK commonL common clashS rightS rowG restG edgesG clG
theorem enc_len (xs : List Sets) : ∀ vs ∈ (edgesG xs).map encP, vs.length = 2 := by
  intro vs h
  obtain ⟨p, _, rfl⟩ := List.mem_map.1 h
  rfl
theorem edges_spec (v : Value) (xs : List Sets) (hx : xs.length ≤ 1000000) (hs : ∀ s ∈ xs, fit6 s) : Fn Tryz.prog 33 [v] [fRp v xs] [] (RTup (tupE (errG xs)) 76 (edgesR xs)) := by
  refine Fn.enter Tryz.func33 rfl Tryz.ntmps33 (by simp) (fun I0 w0 => ?_)
  refine W.bare (G.slice v xs ?_)
  intro a cap x zx
  subst x
  cases hm : mayG xs with
  | false =>
    have e1 : edgesR xs = [] := by rw [edgesR, hm]; rfl
    have e2 : errG xs = 1 := by rw [errG, hm]; rfl
    rw [e1, e2]
    repeat (first | refine stp ?_ | (refine sti ?_; intro _) | refine stf ?_ | (refine stb ?_; intro _))
    refine o_callV rfl rfl rfl rfl (mayG_spec _ xs hx hs) (congrArg Value.bool hm) ?_
    repeat (first | refine stp ?_ | (refine sti ?_; intro _) | refine stf ?_ | (refine stb ?_; intro _))
    exact G.ret rfl (.cons (.tmp rfl) (.cons (.tmp rfl) .nil)) (Φ' := [fRow ([] : List Value) ([] : List (Int × Int))]) (M' := []) inferInstance (List.nil_sublist _) ⟨_, none, rfl, ⟨rfl, rfl⟩, rfl, rfl⟩
  | true =>
    have e1 : edgesR xs = edgesI xs := by rw [edgesR, hm]; rfl
    have e2 : errG xs = 0 := by rw [errG, hm]; rfl
    have h64 := may_len hm
    have hcap := edges_few hm
    have hlen := edgesI_length xs
    rw [e1, e2]
    repeat (first | refine stp ?_ | (refine sti ?_; intro _) | refine stf ?_ | (refine stb ?_; intro _))
    refine o_callV rfl rfl rfl rfl (mayG_spec _ xs hx hs) (congrArg Value.bool hm) ?_
    repeat (first | refine stp ?_ | (refine sti ?_; intro _) | refine stf ?_ | (refine stb ?_; intro _))
    rename_i b4
    refine OpK.call rfl rfl rfl rfl (pairs_spec a xs.length cap) inferInstance (Mr := _) (List.Perm.refl _) ?_
    rintro u Φ' Mc' ⟨b, rfl, rfl, rfl⟩
    dsimp only [List.cons_append, List.nil_append]
    repeat (first | refine stp ?_ | (refine sti ?_; intro _) | refine stf ?_ | (refine stb ?_; intro _))
    refine W.rangeFuncR (enc := (edgesG xs).map encP) (ps := [12, 13]) (Φi := [fBlk b [.slice a xs.length cap] 25, fRp (.slice a xs.length cap) xs]) (Mr := []) (fun k s => ∃ w o, IsOwn 2 w ((edgesI xs).take k).length o ∧ s = ([fRow (ocells o) ((edgesI xs).take k)], (b4, Ob [w] 73) :: ownM 76 o)) (fun _ _ => False) rfl (pairs1_spec b a cap xs hx hs) (by decide) (enc_len xs) inferInstance ([fRow ([] : List Value) ([] : List (Int × Int))], [(b4, Ob [.slice none 0 0] 73)]) ⟨.slice none 0 0, none, ⟨rfl, rfl⟩, rfl⟩ inferInstance (List.Perm.refl _) ?_ ?_ ?_
    · rintro l rec I0' w0' k hk _ ⟨w, o, hown, rfl⟩
      have hk1 : k < (edgesG xs).length := by simpa using hk
      have hk2 : k < (edgesI xs).length := by omega
      have htk : (edgesI xs).take k ++ [toI (edgesG xs)[k]] = (edgesI xs).take (k + 1) := by rw [List.take_succ_eq_append_getElem hk2, edgesI_get]
      have htl : ((edgesI xs).take k).length = k := by rw [List.length_take]; omega
      dsimp only
      rw [List.getElem_map]
      show W _ _ _ _ ((13, Value.int .i64 ((edgesG xs)[k].2 : Nat)) :: (12, Value.int .i64 ((edgesG xs)[k].1 : Nat)) :: _) _
      repeat (first | refine stp ?_ | (refine sti ?_; intro _) | refine stf ?_ | (refine stb ?_; intro _))
      refine G.begin (by rfl) ?_
      repeat (first | refine stp ?_ | (refine sti ?_; intro _) | refine stf ?_ | (refine stb ?_; intro _))
      refine o_lit (xs := [toI (edgesG xs)[k]]) ⟨by decide, rfl, by decide⟩ rfl rfl rfl ⟨fun _ _ => Rp.flat.2 rfl, trivial⟩ rfl ?_
      intro p1
      repeat (first | refine stp ?_ | (refine sti ?_; intro _) | refine stf ?_ | (refine stb ?_; intro _))
      refine o_app2 (Mr := [_, _]) o (xs := (edgesI xs).take k) (ys := [toI (edgesG xs)[k]]) hown ⟨by simp; omega, by simp; omega, rfl⟩ rfl rfl rfl rfl inferInstance inferInstance (List.Perm.refl _) ?_
      intro w' o' hown'
      rw [htk] at hown' ⊢
      dsimp only [List.cons_append, List.nil_append]
      repeat (first | refine stp ?_ | (refine sti ?_; intro _) | refine stf ?_ | (refine stb ?_; intro _))
      refine o_store (vs := [w']) (cs' := [w']) rfl rfl rfl (own_cell hown').1 rfl (Nat.le_of_ble_eq_true rfl) (own_cell hown').2 rfl ?_
      repeat (first | refine stp ?_ | (refine sti ?_; intro _) | refine stf ?_ | (refine stb ?_; intro _))
      refine G.roundEnd inferInstance (Φ' := [fRow (ocells o') ((edgesI xs).take (k + 1))]) (M'' := (b4, Ob [w'] 73) :: ownM 76 o') ?_ inferInstance (List.Sublist.refl _)
      exact Or.inl ⟨rfl, ([fRow (ocells o') ((edgesI xs).take (k + 1))], (b4, Ob [w'] 73) :: ownM 76 o'), ⟨w', o', hown', rfl⟩, rfl⟩
    · rintro D _ ⟨w, o, hown, rfl⟩
      rw [List.length_map, ← hlen, List.take_length] at hown ⊢
      refine G.perm ?_ List.perm_append_comm
      dsimp only [List.cons_append, List.nil_append]
      repeat (first | refine stp ?_ | (refine sti ?_; intro _) | refine stf ?_ | (refine stb ?_; intro _))
      refine G.unmark inferInstance ?_
      exact G.ret rfl (.cons (.tmp rfl) (.cons (.tmp rfl) .nil)) (Φ' := [fRow (ocells o) (edgesI xs)]) (M' := ownM 76 o) inferInstance (List.sublist_cons_self _ _) ⟨_, o, rfl, hown, rfl, rfl⟩
    · intro D c s h
      exact h.elim
end Go.Rail
