/- graph.Ready answers as the document does. -/
import Derived.Test.YtoiepfapghnccaaGreatAGRef2GEdges
import Derived.Test.YtoiepfapghnccaaGreatAGRef3
import Derived.Test.YtoiepfapghnccaaGreatAClashGMay
import Derived.Test.YtoiepfapghnccaaGreatRailD
namespace Go.Rail
open Go Go.Proofs
set_option linter.unusedSimpArgs false
set_option linter.unusedVariables false
set_option maxHeartbeats 400000
set_option maxRecDepth 4000
attribute [local irreducible] OpK G W LW wpListIn Exit.then Exit.inBlock Post rounds opRun bodyPostM intOp
attribute [local irreducible] lexN cmpW cmpA cmpK cmpI makeS setK commonL common clashS rightS rowG restG edgesG clG readyP waitB waitP
theorem ready_spec (v vb vd : Value) (xs : List Sets) (b d : List Bool) (hx : xs.length ≤ 1000000) (hs : ∀ s ∈ xs, fit6 s) (hb : b.length ≤ 4611686018427387904) (hd : d.length ≤ 4611686018427387904) :
    Fn Tryz.prog 59 [v, vb, vd] [fRp v xs, fRp vb b, fRp vd d] [] (RTup (tupE (errR xs b d)) 3 (readyR xs b d)) := by
  have hbad : okR xs b d = false → errR xs b d = 1 ∧ readyR xs b d = [] := fun h => by rw [errR, readyR, h]; exact ⟨rfl, rfl⟩
  refine Fn.enter Tryz.func59 rfl Tryz.ntmps59 (by simp) (fun I0 w0 => ?_)
  refine W.bare (G.slice v xs ?_)
  intro a cap x zx
  subst x
  refine G.slice vd d ?_
  intro ad capd x zxd
  subst x
  cases hm : mayG xs with
  | false =>
    obtain ⟨e3, e4⟩ := hbad (by rw [okR, hm]; rfl)
    rw [e3, e4]
    repeat (first | refine stp ?_ | (refine sti ?_; intro _) | refine stf ?_ | (refine stb ?_; intro _))
    refine o_callV rfl rfl rfl rfl (mayG_spec _ xs hx hs) (congrArg Value.bool hm) ?_
    repeat (first | refine stp ?_ | (refine sti ?_; intro _) | refine stf ?_ | (refine stb ?_; intro _))
    exact G.ret rfl (.cons (.tmp rfl) (.cons (.tmp rfl) .nil)) (Φ' := [fRow ([] : List Value) ([] : List Int)]) (M' := []) inferInstance (List.nil_sublist _) ⟨_, none, rfl, ⟨rfl, rfl⟩, rfl, rfl⟩
  | true =>
    have h64 := may_len hm
    have hcap := edges_few hm
    by_cases hbl : b.length = xs.length
    case neg =>
      obtain ⟨e3, e4⟩ := hbad (by rw [okR, decide_eq_false hbl]; simp)
      rw [e3, e4]
      repeat (first | refine stp ?_ | (refine sti ?_; intro _) | refine stf ?_ | (refine stb ?_; intro _))
      refine o_callV rfl rfl rfl rfl (mayG_spec _ xs hx hs) (congrArg Value.bool hm) ?_
      repeat (first | refine stp ?_ | (refine sti ?_; intro _) | refine stf ?_ | (refine stb ?_; intro _))
      exact G.ret rfl (.cons (.tmp rfl) (.cons (.tmp rfl) .nil)) (Φ' := [fRow ([] : List Value) ([] : List Int)]) (M' := []) inferInstance (List.nil_sublist _) ⟨_, none, rfl, ⟨rfl, rfl⟩, rfl, rfl⟩
    by_cases hdl : d.length = xs.length
    case neg =>
      obtain ⟨e3, e4⟩ := hbad (by rw [okR, decide_eq_false hdl]; simp)
      rw [e3, e4]
      repeat (first | refine stp ?_ | (refine sti ?_; intro _) | refine stf ?_ | (refine stb ?_; intro _))
      refine o_callV rfl rfl rfl rfl (mayG_spec _ xs hx hs) (congrArg Value.bool hm) ?_
      repeat (first | refine stp ?_ | (refine sti ?_; intro _) | refine stf ?_ | (refine stb ?_; intro _))
      exact G.ret rfl (.cons (.tmp rfl) (.cons (.tmp rfl) .nil)) (Φ' := [fRow ([] : List Value) ([] : List Int)]) (M' := []) inferInstance (List.nil_sublist _) ⟨_, none, rfl, ⟨rfl, rfl⟩, rfl, rfl⟩
    repeat (first | refine stp ?_ | (refine sti ?_; intro _) | refine stf ?_ | (refine stb ?_; intro _))
    refine o_callV rfl rfl rfl rfl (mayG_spec _ xs hx hs) (congrArg Value.bool hm) ?_
    repeat (first | refine stp ?_ | (refine sti ?_; intro _) | refine stf ?_ | (refine stb ?_; intro _))
    refine o_makeB xs.length rfl rfl rfl rfl rfl rfl hx ?_
    intro bw
    rw [← waitP_zero xs d]
    repeat (first | refine stp ?_ | (refine sti ?_; intro _) | refine stf ?_ | (refine stb ?_; intro _))
    rename_i b5 b8
    refine OpK.call rfl rfl rfl rfl (pairs_spec a xs.length cap) inferInstance (Mr := _) (List.Perm.refl _) ?_
    rintro u Φ' Mc' ⟨bp, rfl, rfl, rfl⟩
    dsimp only [List.cons_append, List.nil_append]
    repeat (first | refine stp ?_ | (refine sti ?_; intro _) | refine stf ?_ | (refine stb ?_; intro _))
    refine W.rangeFunc (enc := (edgesG xs).map encP) (ps := [36, 37]) (Φi := [fBlk bp [.slice a xs.length cap] 25, fRp (.slice a xs.length cap) xs]) (Mr := []) (fun k => ([fRp (.slice ad d.length capd) d], [(b8, Ob [.slice (some ⟨bw, 0, none⟩) xs.length xs.length] 26), (bw, Ob (cB (waitP xs d k)) 4), (b5, Ob [.slice ad d.length capd] 26)])) (fun _ _ => False) rfl (pairs1_spec bp a cap xs hx hs).plain (by decide) (enc_len xs) inferInstance inferInstance (List.Perm.refl _) ?_ ?_ ?_
    · intro l rec I0' w0' k hk
      have hk1 : k < (edgesG xs).length := by simpa using hk
      have hE := edges_at hk1
      have hll := waitP_length xs d k
      have hn2 : (edgesG xs)[k].2 < (waitP xs d k).length := by omega
      have hed : (edgesG xs)[k].1 < d.length := by omega
      have hge : d.getD (edgesG xs)[k].1 false = d[(edgesG xs)[k].1] := by rw [List.getD_eq_getElem?_getD, List.getElem?_eq_getElem hed]; rfl
      have hwg := waitP_get xs d k hn2
      have hws := waitP_succ (d := d) hk1
      rw [hge, ← hwg] at hws
      dsimp only
      rw [List.getElem_map]
      show W _ _ _ _ ((37, Value.int .i64 ((edgesG xs)[k].2 : Nat)) :: (36, Value.int .i64 ((edgesG xs)[k].1 : Nat)) :: _) _
      cases hw : (waitP xs d k)[(edgesG xs)[k].2] with
      | true =>
        rw [hw, Bool.true_or] at hws
        repeat (first | refine stp ?_ | (refine sti ?_; intro _) | refine stf ?_ | (refine stb ?_; intro _))
        refine G.begin (by rfl) ?_
        repeat (first | refine stp ?_ | (refine sti ?_; intro _) | refine stf ?_ | (refine stb ?_; intro _))
        refine W.draw 13 [⟨?v0_1, fun _ z => []⟩, ⟨?v1_1, fun _ z => []⟩, ⟨?v2_1, fun _ z => []⟩, ⟨?v3_1, fun _ z => []⟩, ⟨?v4_1, fun _ z => []⟩, ⟨?v5_1, fun _ z => []⟩, ⟨?v6_1, fun _ z => []⟩, ⟨?v7_1, fun _ z => []⟩, ⟨?v8_1, fun _ z => []⟩, ⟨?v9_1, fun _ z => []⟩, ⟨?v10_1, fun _ z => []⟩, ⟨?v11_1, fun _ z => []⟩, ⟨?v12_1, fun _ z => []⟩] [[], [], [], [], [2, 3], [4], [5], [6], [6], [6, 7, 8], [6, 9], [6, 10], [6, 11]] [0, 1, 12] (by kernel_rfl) (by kernel_rfl) (by kernel_rfl) (by kernel_rfl) ?loc_1 ?ops_1 ?rest_1
        case ops_1 =>
          simp only [AllQ, Nat.reduceAdd, and_true]
          refine ⟨?_, ?_, ?_, ?_, ?_, ?_, ?_, ?_, ?_, ?_, ?_, ?_, ?_⟩
          all_goals (intro c z0 Φr Lr K hK; dsimp only [dstOf, kval, kfac, ancE, ancF, getD_z, getD_s, List.getElem?_cons_zero, List.getElem?_cons_succ, List.getElem?_nil, Option.getD_some, Option.getD_none, List.nil_append, List.cons_append, Option.getD] at hK ⊢)
          iterate 4 ((first | refine stp ?_ | refine stf ?_); exact hK z0)
          · refine o_idxO rfl rfl rfl rfl (by omega) (by omega) (o' := (edgesG xs)[k].2) (by omega) ?_; exact hK z0
          · refine o_loadB (edgesG xs)[k].2 hn2 rfl rfl rfl rfl ?_; rw [hw]; exact hK z0
          iterate 7 ((first | refine stp ?_ | refine stf ?_); exact hK z0)
        case loc_1 =>
          simp only [AllL, Nat.reduceAdd, and_true]
          refine ⟨?_, ?_, ?_, ?_, ?_, ?_, ?_, ?_, ?_, ?_, ?_, ?_, ?_⟩
          all_goals exact fun _ _ _ _ => ⟨rfl, rfl⟩
        intro c
        dsimp only [dstOf, kval, kfac, ancE,  ancF, getD_z, getD_s, List.getElem?_cons_zero, List.getElem?_cons_succ, List.getElem?_nil, Option.getD_some, Option.getD_none, List.nil_append, List.cons_append, List.drop_succ_cons, List.drop_zero, Option.getD]
        repeat (first | refine stp ?_ | (refine sti ?_; intro _) | refine stf ?_ | (refine stb ?_; intro _))
        refine o_idxO rfl rfl rfl rfl (by omega) (by omega) (o' := (edgesG xs)[k].2) (by omega) ?_
        repeat (first | refine stp ?_ | (refine sti ?_; intro _) | refine stf ?_ | (refine stb ?_; intro _))
        refine o_storeB (edgesG xs)[k].2 true hn2 rfl rfl rfl rfl ?_
        rw [← hws]
        repeat (first | refine stp ?_ | (refine sti ?_; intro _) | refine stf ?_ | (refine stb ?_; intro _))
        exact G.roundEnd inferInstance (Φ' := [fRp (.slice ad d.length capd) d]) (M'' := [(b8, Ob [.slice (some ⟨bw, 0, none⟩) xs.length xs.length] 26), (bw, Ob (cB (waitP xs d (k + 1))) 4), (b5, Ob [.slice ad d.length capd] 26)]) (.inl ⟨rfl, rfl, rfl⟩) inferInstance (List.Sublist.refl _)
      | false =>
        rw [hw, Bool.false_or] at hws
        repeat (first | refine stp ?_ | (refine sti ?_; intro _) | refine stf ?_ | (refine stb ?_; intro _))
        refine G.begin (by rfl) ?_
        repeat (first | refine stp ?_ | (refine sti ?_; intro _) | refine stf ?_ | (refine stb ?_; intro _))
        refine W.draw 13 [⟨?v0_2, fun _ z => []⟩, ⟨?v1_2, fun _ z => []⟩, ⟨?v2_2, fun _ z => []⟩, ⟨?v3_2, fun _ z => []⟩, ⟨?v4_2, fun _ z => []⟩, ⟨?v5_2, fun _ z => []⟩, ⟨?v6_2, fun _ z => []⟩, ⟨?v7_2, fun _ z => []⟩, ⟨?v8_2, fun _ z => []⟩, ⟨fun _ z => z, fun _ z => [fPt z d[(edgesG xs)[k].1]]⟩, ⟨?v10_2, fun _ z => []⟩, ⟨?v11_2, fun _ z => []⟩, ⟨?v12_2, fun _ z => []⟩] [[], [], [], [], [2, 3], [4], [5], [6], [6], [6, 7, 8], [6, 9], [6, 10], [6, 11]] [0, 1, 12] (by kernel_rfl) (by kernel_rfl) (by kernel_rfl) (by kernel_rfl) ?loc_2 ?ops_2 ?rest_2
        case ops_2 =>
          simp only [AllQ, Nat.reduceAdd, and_true]
          refine ⟨?_, ?_, ?_, ?_, ?_, ?_, ?_, ?_, ?_, ?_, ?_, ?_, ?_⟩
          all_goals (intro c z0 Φr Lr K hK; dsimp only [dstOf, kval, kfac, ancE, ancF, getD_z, getD_s, List.getElem?_cons_zero, List.getElem?_cons_succ, List.getElem?_nil, Option.getD_some, Option.getD_none, List.nil_append, List.cons_append, Option.getD] at hK ⊢)
          iterate 4 ((first | refine stp ?_ | refine stf ?_); exact hK z0)
          · refine o_idxO rfl rfl rfl rfl (by omega) (by omega) (o' := (edgesG xs)[k].2) (by omega) ?_; exact hK z0
          · refine o_loadB (edgesG xs)[k].2 hn2 rfl rfl rfl rfl ?_; rw [hw]; exact hK z0
          iterate 3 ((first | refine stp ?_ | refine stf ?_); exact hK z0)
          · refine o_idxN (edgesG xs)[k].1 rfl rfl rfl rfl rfl hed ?_; intro p; exact hK _
          iterate 3 ((first | refine stp ?_ | refine stf ?_); exact hK z0)
        case loc_2 =>
          simp only [AllL, Nat.reduceAdd, and_true]
          refine ⟨?_, ?_, ?_, ?_, ?_, ?_, ?_, ?_, ?_, ?_, ?_, ?_, ?_⟩
          all_goals (intro c c' z h; first | exact ⟨rfl, rfl⟩ | (skip))
        intro c
        dsimp only [dstOf, kval, kfac, ancE,  ancF, getD_z, getD_s, List.getElem?_cons_zero, List.getElem?_cons_succ, List.getElem?_nil, Option.getD_some, Option.getD_none, List.nil_append, List.cons_append, List.drop_succ_cons, List.drop_zero, Option.getD]
        repeat (first | refine stp ?_ | (refine sti ?_; intro _) | refine stf ?_ | (refine stb ?_; intro _))
        refine o_idxO rfl rfl rfl rfl (by omega) (by omega) (o' := (edgesG xs)[k].2) (by omega) ?_
        repeat (first | refine stp ?_ | (refine sti ?_; intro _) | refine stf ?_ | (refine stb ?_; intro _))
        refine o_storeB (edgesG xs)[k].2 (!d[(edgesG xs)[k].1]) hn2 rfl rfl rfl rfl ?_
        rw [← hws]
        repeat (first | refine stp ?_ | (refine sti ?_; intro _) | refine stf ?_ | (refine stb ?_; intro _))
        exact G.roundEnd inferInstance (Φ' := [fRp (.slice ad d.length capd) d]) (M'' := [(b8, Ob [.slice (some ⟨bw, 0, none⟩) xs.length xs.length] 26), (bw, Ob (cB (waitP xs d (k + 1))) 4), (b5, Ob [.slice ad d.length capd] 26)]) (.inl ⟨rfl, rfl, rfl⟩) inferInstance (List.Sublist.refl _)
    · intro D
      rw [List.length_map]
      refine G.perm ?_ List.perm_append_comm
      dsimp only [List.cons_append, List.nil_append]
      repeat (first | refine stp ?_ | (refine sti ?_; intro _) | refine stf ?_ | (refine stb ?_; intro _))
      refine W.loopI (fun (s : RdSt) => ([fRp vb b, fRp (.slice ad d.length capd) d, fRow (ocells s.o) (readyP xs b d s.i)], [(5, .pointer (some ⟨b5, 0, none⟩)), (8, .pointer (some ⟨b8, 0, none⟩)), (11, s.v), (52, vb), (53, .int .i64 b.length), (54, .int .i64 s.i)], (D, .deferred (some [])) :: (b8, Ob [.slice (some ⟨bw, 0, none⟩) xs.length xs.length] 26) :: (bw, Ob (cB (waitP xs d (edgesG xs).length)) 4) :: (b5, Ob [.slice ad d.length capd] 26) :: ownM 3 s.o)) (fun s => s.i ≤ xs.length ∧ badG b d s.i = false ∧ IsOwn 1 s.v (readyP xs b d s.i).length s.o) (fun s => xs.length - s.i) ⟨0, .slice none 0 0, none⟩ ⟨Nat.zero_le _, rfl, by rw [readyP_zero]; exact ⟨rfl, rfl⟩⟩ ⟨fun I hp φ hφ => ?_⟩ (look_sub_cons rfl (look_sub_cons rfl (look_sub_cons rfl (look_sub_cons rfl (look_sub_cons rfl (look_sub_cons rfl look_sub_nil)))))) (List.Sublist.refl _) ?_
      · dsimp only at hφ
        rw [readyP_zero] at hφ
        rcases List.mem_cons.1 hφ with rfl | hφ
        · exact hp _ (by simp)
        · rcases List.mem_cons.1 hφ with rfl | hφ
          · exact hp _ (by simp)
          · rcases List.mem_cons.1 hφ with rfl | hφ
            · exact Ent'.row0.h (Φ := []) I (by simp)
            · cases hφ
      rintro ⟨i, v11, o⟩ ⟨hi, hbd, hown⟩
      dsimp only at hi hbd hown ⊢
      by_cases hi0 : i = xs.length
      · subst hi0
        have hok : okR xs b d = true := by rw [okR, hm, decide_eq_true hbl, decide_eq_true hdl, hbd]; rfl
        have e5 : errR xs b d = 0 := by rw [errR, hok]; rfl
        have e6 : readyR xs b d = readyP xs b d xs.length := by rw [readyR, hok]; rfl
        rw [e5, e6]
        repeat (first | refine stp ?_ | (refine sti ?_; intro _) | refine stf ?_ | (refine stb ?_; intro _))
        refine G.unmark inferInstance ?_
        exact G.ret rfl (.cons (.tmp rfl) (.cons (.tmp rfl) .nil)) (Φ' := [fRow (ocells o) (readyP xs b d xs.length)]) (M' := ownM 3 o) inferInstance (.cons _ (.cons _ (.cons _ (List.Sublist.refl _)))) ⟨_, o, rfl, hown, rfl, rfl⟩
      · have hi1 : i < xs.length := by omega
        have hib : i < b.length := by omega
        have hid : i < d.length := by omega
        have hgb : b.getD i false = b[i] := by rw [List.getD_eq_getElem?_getD, List.getElem?_eq_getElem hib]; rfl
        have hgd : d.getD i false = d[i] := by rw [List.getD_eq_getElem?_getD, List.getElem?_eq_getElem hid]; rfl
        have hbs := badG_succ b d i
        rw [hbd, hgb, hgd, Bool.false_or] at hbs
        have hrs := readyP_succ xs b d i
        have hrl := readyP_length xs b d i
        have hwl := waitP_length xs d (edgesG xs).length
        have hwn : i < (waitP xs d (edgesG xs).length).length := by omega
        have hwg := waitP_get xs d (edgesG xs).length hwn
        rw [waitB_end] at hwg
        rw [mayBegin, hgb] at hrs
        cases h1 : d[i] with
        | true =>
          cases h2 : b[i] with
          | false =>
            rw [h1, h2] at hbs
            obtain ⟨e3, e4⟩ := hbad (by rw [okR, badG_mono hi1 hbs]; simp)
            rw [e3, e4]
            repeat (first | refine stp ?_ | (refine sti ?_; intro _) | refine stf ?_ | (refine stb ?_; intro _))
            simp only [h1, h2]
            repeat (first | refine stp ?_ | (refine sti ?_; intro _) | refine stf ?_ | (refine stb ?_; intro _))
            refine G.unmark inferInstance ?_
            exact G.ret rfl (.cons (.tmp rfl) (.cons (.tmp rfl) .nil)) (Φ' := [fRow ([] : List Value) ([] : List Int)]) (M' := []) inferInstance (List.nil_sublist _) ⟨_, none, rfl, ⟨rfl, rfl⟩, rfl, rfl⟩
          | true =>
            rw [h1, h2] at hbs
            rw [h2, if_neg (by simp)] at hrs
            repeat (first | refine stp ?_ | (refine sti ?_; intro _) | refine stf ?_ | (refine stb ?_; intro _))
            simp only [h1, h2]
            repeat (first | refine stp ?_ | (refine sti ?_; intro _) | refine stf ?_ | (refine stb ?_; intro _))
            refine G.again (S := RdSt) ⟨i + 1, v11, o⟩ (by dsimp only; omega) ⟨hi1, hbs, by rw [hrs]; exact hown⟩ ?_ (look_sub_cons rfl (look_sub_cons rfl (look_sub_cons rfl (look_sub_cons rfl (look_sub_cons rfl (look_sub_cons rfl look_sub_nil)))))) (List.Sublist.refl _)
            dsimp only
            rw [hrs]
            infer_instance
        | false =>
          cases h2 : b[i] with
          | true =>
            rw [h1, h2] at hbs
            rw [h2, if_neg (by simp)] at hrs
            repeat (first | refine stp ?_ | (refine sti ?_; intro _) | refine stf ?_ | (refine stb ?_; intro _))
            simp only [h1, h2]
            repeat (first | refine stp ?_ | (refine sti ?_; intro _) | refine stf ?_ | (refine stb ?_; intro _))
            refine G.again (S := RdSt) ⟨i + 1, v11, o⟩ (by dsimp only; omega) ⟨hi1, hbs, by rw [hrs]; exact hown⟩ ?_ (look_sub_cons rfl (look_sub_cons rfl (look_sub_cons rfl (look_sub_cons rfl (look_sub_cons rfl (look_sub_cons rfl look_sub_nil)))))) (List.Sublist.refl _)
            dsimp only
            rw [hrs]
            infer_instance
          | false =>
            rw [h1, h2] at hbs
            rw [h2] at hrs
            cases h3 : waitE xs d i with
            | true =>
              rw [h3, if_neg (by simp)] at hrs
              rw [h3] at hwg
              repeat (first | refine stp ?_ | (refine sti ?_; intro _) | refine stf ?_ | (refine stb ?_; intro _))
              simp only [h1, h2]
              repeat (first | refine stp ?_ | (refine sti ?_; intro _) | refine stf ?_ | (refine stb ?_; intro _))
              refine o_idxO rfl rfl rfl rfl (by omega) (by omega) (o' := i) (by omega) ?_
              repeat (first | refine stp ?_ | (refine sti ?_; intro _) | refine stf ?_ | (refine stb ?_; intro _))
              refine o_loadB i hwn rfl rfl rfl rfl ?_
              rw [hwg]
              repeat (first | refine stp ?_ | (refine sti ?_; intro _) | refine stf ?_ | (refine stb ?_; intro _))
              refine G.again (S := RdSt) ⟨i + 1, v11, o⟩ (by dsimp only; omega) ⟨hi1, hbs, by rw [hrs]; exact hown⟩ ?_ (look_sub_cons rfl (look_sub_cons rfl (look_sub_cons rfl (look_sub_cons rfl (look_sub_cons rfl (look_sub_cons rfl look_sub_nil)))))) (List.Sublist.refl _)
              dsimp only
              rw [hrs]
              infer_instance
            | false =>
              rw [h3, if_pos (by simp)] at hrs
              rw [h3] at hwg
              repeat (first | refine stp ?_ | (refine sti ?_; intro _) | refine stf ?_ | (refine stb ?_; intro _))
              simp only [h1, h2]
              repeat (first | refine stp ?_ | (refine sti ?_; intro _) | refine stf ?_ | (refine stb ?_; intro _))
              refine o_idxO rfl rfl rfl rfl (by omega) (by omega) (o' := i) (by omega) ?_
              repeat (first | refine stp ?_ | (refine sti ?_; intro _) | refine stf ?_ | (refine stb ?_; intro _))
              refine o_loadB i hwn rfl rfl rfl rfl ?_
              rw [hwg]
              repeat (first | refine stp ?_ | (refine sti ?_; intro _) | refine stf ?_ | (refine stb ?_; intro _))
              refine o_lit (xs := [(i : Int)]) ⟨by decide, rfl, by decide⟩ rfl rfl rfl ⟨fun _ _ => Rp.flat.2 rfl, trivial⟩ rfl ?_
              intro p1
              repeat (first | refine stp ?_ | (refine sti ?_; intro _) | refine stf ?_ | (refine stb ?_; intro _))
              refine o_app2 (Mr := [_, _, _, _]) o (xs := readyP xs b d i) (ys := [(i : Int)]) hown ⟨by simp; omega, by simp; omega, rfl⟩ rfl rfl rfl rfl inferInstance inferInstance (List.Perm.refl _) ?_
              intro v' o' hown'
              dsimp only [List.cons_append, List.nil_append]
              repeat (first | refine stp ?_ | (refine sti ?_; intro _) | refine stf ?_ | (refine stb ?_; intro _))
              refine G.again (S := RdSt) ⟨i + 1, v', o'⟩ (by dsimp only; omega) ⟨hi1, hbs, by rw [hrs]; exact hown'⟩ ?_ (look_sub_cons rfl (look_sub_cons rfl (look_sub_cons rfl (look_sub_cons rfl (look_sub_cons rfl (look_sub_cons rfl look_sub_nil)))))) (List.Sublist.refl _)
              dsimp only
              rw [hrs]
              infer_instance
    · intro D c s h
      exact h.elim
end Go.Rail
namespace Go.Rail
open Go Go.Proofs
set_option linter.unusedSimpArgs false
set_option linter.unusedVariables false
set_option maxHeartbeats 400000
set_option maxRecDepth 4000
attribute [local irreducible] OpK G W LW wpListIn Exit.then Exit.inBlock Post rounds opRun bodyPostM intOp
theorem keysOf_may (a : List (Int × Int)) : ∀ k ∈ keysOf a, mayK k = true := by
  intro k hk
  simp only [keysOf, List.mem_map] at hk
  obtain ⟨p, _, rfl⟩ := hk
  exact mayK_of _ _
theorem setsOf_eq (a b : List (Int × Int)) : makeS (keysOf a) (keysOf b) = (⟨setK (keysOf a), setK (keysOf b)⟩, 0) := by
  have h1 := keysOf_length a
  have h2 := keysOf_length b
  rw [makeS_eq, if_neg (fun h => h ⟨keysOf_may a, keysOf_may b⟩), if_pos (right_setK (keysOf_may a) (keysOf_may b) (by omega) (by omega))]
theorem setsOf_right (a b : List (Int × Int)) : rightS (setsOf a b) = true := by
  have h1 := keysOf_length a
  have h2 := keysOf_length b
  rw [setsOf, setsOf_eq]
  exact right_setK (keysOf_may a) (keysOf_may b) (by omega) (by omega)
theorem setsOf_small (a b : List (Int × Int)) : small 15 (setsOf a b) := by
  have h1 := keysOf_length a
  have h2 := keysOf_length b
  have h3 := setK_length (keysOf a)
  have h4 := setK_length (keysOf b)
  rw [setsOf, setsOf_eq]
  exact ⟨by dsimp only; omega, by dsimp only; omega⟩
def In64 (p : Int × Int) : Prop := (-9223372036854775808 ≤ p.1 ∧ p.1 ≤ 9223372036854775807) ∧ (-9223372036854775808 ≤ p.2 ∧ p.2 ≤ 9223372036854775807)
def okRaw (xs : List (Int × Int)) : Prop := xs.length ≤ reachBytes ∧ ∀ p ∈ xs, In64 p
theorem okRaw_in {xs : List (Int × Int)} (h : okRaw xs) : ∀ p ∈ xs, InI p := fun p hp => ⟨(h.2 p hp).1.1, (h.2 p hp).2.1⟩
theorem okRaw_len {xs : List (Int × Int)} (h : okRaw xs) : xs.length ≤ 4611686018427387904 := Nat.le_trans h.1 (by decide)
theorem rawSets (v u : Value) (a b : List (Int × Int)) (ha : okRaw a) (hb : okRaw b) : FnD Tryz.prog 42 [v, u] [fRp v a, fRp u b] (fun r => [fRp r (setsOf a b)]) := sets_spec v u a b (okRaw_len ha) (okRaw_len hb) (okRaw_in ha) (okRaw_in hb)
end Go.Rail
