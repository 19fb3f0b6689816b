/- What the document makes of lists of keys: slices that grow. -/
import Derived.Test.YtoiepfapghnccaaGreatARef
import Derived.Test.YtoiepfapghnccaaGreatRailB
namespace Go.Rail
open Go Go.Proofs
set_option linter.unusedSimpArgs false
set_option linter.unusedVariables false
set_option maxHeartbeats 400000
set_option maxRecDepth 4000
attribute [local irreducible] OpK G W LW wpListIn Exit.then Exit.inBlock Post rounds opRun bodyPostM intOp
attribute [local irreducible] lexN cmpW cmpA cmpK
structure PutSt where
  i : Nat
  d : Bool
  o : OR
  v : Value
  out : List Key
theorem put_spec (v : Value) (xs : List Key) (hx : xs.length ≤ 1000000) (k : Key) : FnD Tryz.prog 88 [v, k.v] [fRp v xs] (fun u => [fRp u (putR k false xs)]) := by
  refine Fn.enter Tryz.func88 rfl Tryz.ntmps88 (by simp) (fun I0 w0 => ?_)
  repeat (first | refine stp ?_ | (refine sti ?_; intro _) | refine stf ?_ | (refine stb ?_; intro _))
  rename_i b3
  refine W.loopI (fun (s : PutSt) => ([fRp v xs, fRow (ocells s.o) s.out], [(0, v), (3, .pointer (some ⟨b3, 0, none⟩)), (5, s.v), (6, .bool s.d), (7, .int .i64 s.i)], (b3, _) :: ownM 58 s.o)) (fun s => s.i ≤ xs.length ∧ IsOwn 25 s.v s.out.length s.o ∧ s.out ++ putR k s.d (xs.drop s.i) = putR k false xs ∧ s.out.length ≤ 2 * s.i) (fun s => xs.length - s.i) ⟨0, false, none, .slice none 0 0, []⟩ ⟨by simp, ⟨rfl, rfl⟩, by simp, by simp⟩ inferInstance (look_sub_cons rfl (look_sub_cons rfl (look_sub_cons rfl (look_sub_cons rfl (look_sub_cons rfl look_sub_nil))))) (List.Sublist.refl _) ?_
  rintro ⟨i, dn, o, v5, out⟩ ⟨hi, hown, hw, hlen⟩
  dsimp only at hi hown hw hlen ⊢
  by_cases hi0 : i = xs.length
  · subst hi0
    rw [List.drop_length] at hw
    cases dn with
    | true =>
      repeat (first | refine stp ?_ | (refine sti ?_; intro _) | refine stf ?_ | (refine stb ?_; intro _))
      refine G.giveOwn2 (Mr := [_]) v5 out o 58 hown inferInstance (List.Perm.refl _) ?_
      refine G.ret rfl (.cons (.tmp rfl) .nil) (Φ' := [fRp v5 out]) (M' := []) inferInstance (List.nil_sublist _) ⟨?_, rfl⟩
      rw [← hw]
      simp [putR, tup]
    | false =>
      repeat (first | refine stp ?_ | (refine sti ?_; intro _) | refine stf ?_ | (refine stb ?_; intro _))
      refine o_lit (xs := [k]) ⟨by decide, rfl, by decide⟩ rfl rfl rfl ⟨fun _ _ => Rp.flat.2 rfl, trivial⟩ rfl ?_
      intro lv
      repeat (first | refine stp ?_ | (refine sti ?_; intro _) | refine stf ?_ | (refine stb ?_; intro _))
      refine o_app2 (Mr := [_]) o (xs := out) (ys := [k]) hown ⟨by simp; omega, by simp; omega, rfl⟩ rfl rfl rfl rfl inferInstance inferInstance (List.Perm.refl _) ?_
      intro v' o' hown'
      repeat (first | refine stp ?_ | (refine sti ?_; intro _) | refine stf ?_ | (refine stb ?_; intro _))
      refine G.giveOwn2 (Mr := [_]) v' (out ++ [k]) o' 58 hown' inferInstance (List.Perm.refl _) ?_
      refine G.ret rfl (.cons (.tmp rfl) .nil) (Φ' := [fRp v' (out ++ [k])]) (M' := []) inferInstance (List.nil_sublist _) ⟨?_, rfl⟩
      rw [← hw]
      simp [putR, tup]
  · have hi1 : i < xs.length := by omega
    rw [List.drop_eq_getElem_cons hi1] at hw
    repeat (first | refine stp ?_ | (refine sti ?_; intro _) | refine stf ?_ | (refine stb ?_; intro _))
    refine W.draw 6 [⟨?v0_1, fun _ z => []⟩, ⟨?v1_1, fun _ z => []⟩, ⟨?v2_1, fun _ z => []⟩, ⟨fun _ z => z, fun _ z => [fPt z xs[i]]⟩, ⟨?v4_1, fun _ z => []⟩, ⟨?v5_1, fun _ z => []⟩] [[], [], [], [1, 2], [3], [0, 4]] [5] (by kernel_rfl) (by kernel_rfl) (by kernel_rfl) (by kernel_rfl) ?loc_1 ?ops_1 ?rest_1
    case ops_1 =>
      simp only [AllQ, Nat.reduceAdd, and_true]
      refine ⟨?_, ?_, ?_, ?_, ?_, ?_⟩
      all_goals (intro c z0 Φr Lr K hK; dsimp only [dstOf, kval, kfac, ancE, ancF, getD_z, getD_s, List.getElem?_cons_zero, List.getElem?_cons_succ, List.getElem?_nil, Option.getD_some, Option.getD_none, List.nil_append, List.cons_append, Option.getD] at hK ⊢)
      iterate 3 ((first | refine stp ?_ | refine stf ?_); exact hK z0)
      · refine o_idxN i rfl rfl rfl rfl rfl hi1 ?_; intro p; exact hK _
      · (first | refine stp ?_ | refine stf ?_); exact hK z0
      · refine o_callV rfl rfl rfl rfl (order_spec _ _) rfl ?_; exact hK z0
    case loc_1 =>
      simp only [AllL, Nat.reduceAdd, and_true]
      refine ⟨?_, ?_, ?_, ?_, ?_, ?_⟩
      all_goals (intro c c' z h; first | exact ⟨rfl, rfl⟩ | (skip))
    intro c
    dsimp only [dstOf, kval, kfac, ancE,  ancF, getD_z, getD_s, List.getElem?_cons_zero, List.getElem?_cons_succ, List.getElem?_nil, Option.getD_some, Option.getD_none, List.nil_append, List.cons_append, List.drop_succ_cons, List.drop_zero, Option.getD]
    by_cases h0 : cmpK k xs[i] = 0
    · rw [putR, if_pos h0] at hw
      repeat (first | refine stp ?_ | (refine sti ?_; intro _) | refine stf ?_ | (refine stb ?_; intro _))
      refine o_lit (xs := [xs[i]]) ⟨by decide, rfl, by decide⟩ rfl rfl rfl ⟨fun _ _ => Rp.flat.2 rfl, trivial⟩ rfl ?_
      intro lv
      repeat (first | refine stp ?_ | (refine sti ?_; intro _) | refine stf ?_ | (refine stb ?_; intro _))
      refine o_app2 (Mr := [_]) o (xs := out) (ys := [xs[i]]) hown ⟨by simp; omega, by simp; omega, rfl⟩ rfl rfl rfl rfl inferInstance inferInstance (List.Perm.refl _) ?_
      intro v' o' hown'
      repeat (first | refine stp ?_ | (refine sti ?_; intro _) | refine stf ?_ | (refine stb ?_; intro _))
      refine G.again (S := PutSt) ⟨i + 1, true, o', v', out ++ [xs[i]]⟩ (by dsimp only; omega) ⟨by dsimp only; omega, hown', by rw [← hw]; simp, by simp; omega⟩ inferInstance (look_sub_cons rfl (look_sub_cons rfl (look_sub_cons rfl (look_sub_cons rfl (look_sub_cons rfl look_sub_nil))))) (List.Sublist.refl _)
    · rw [putR, if_neg h0] at hw
      by_cases h1 : cmpK k xs[i] < 0
      · cases dn with
        | false =>
          rw [if_pos ⟨h1, rfl⟩] at hw
          repeat (first | refine stp ?_ | (refine sti ?_; intro _) | refine stf ?_ | (refine stb ?_; intro _))
          refine o_lit (xs := [k]) ⟨by decide, rfl, by decide⟩ rfl rfl rfl ⟨fun _ _ => Rp.flat.2 rfl, trivial⟩ rfl ?_
          intro lv
          repeat (first | refine stp ?_ | (refine sti ?_; intro _) | refine stf ?_ | (refine stb ?_; intro _))
          refine o_app2 (Mr := [_]) o (xs := out) (ys := [k]) hown ⟨by simp; omega, by simp; omega, rfl⟩ rfl rfl rfl rfl inferInstance inferInstance (List.Perm.refl _) ?_
          clear hown
          generalize hout : out ++ [k] = out2
          intro v5 o hown
          repeat (first | refine stp ?_ | (refine sti ?_; intro _) | refine stf ?_ | (refine stb ?_; intro _))
          refine o_lit (xs := [xs[i]]) ⟨by decide, rfl, by decide⟩ rfl rfl rfl ⟨fun _ _ => Rp.flat.2 rfl, trivial⟩ rfl ?_
          intro lv
          repeat (first | refine stp ?_ | (refine sti ?_; intro _) | refine stf ?_ | (refine stb ?_; intro _))
          refine o_app2 (Mr := [_]) o (xs := out2) (ys := [xs[i]]) hown ⟨by simp [← hout]; omega, by simp [← hout]; omega, rfl⟩ rfl rfl rfl rfl inferInstance inferInstance (List.Perm.refl _) ?_
          intro v' o' hown'
          repeat (first | refine stp ?_ | (refine sti ?_; intro _) | refine stf ?_ | (refine stb ?_; intro _))
          refine G.again (S := PutSt) ⟨i + 1, true, o', v', out2 ++ [xs[i]]⟩ (by dsimp only; omega) ⟨by dsimp only; omega, hown', by rw [← hw, ← hout]; simp, by simp [← hout]; omega⟩ inferInstance (look_sub_cons rfl (look_sub_cons rfl (look_sub_cons rfl (look_sub_cons rfl (look_sub_cons rfl look_sub_nil))))) (List.Sublist.refl _)
        | true =>
          rw [if_neg (by simp)] at hw
          repeat (first | refine stp ?_ | (refine sti ?_; intro _) | refine stf ?_ | (refine stb ?_; intro _))
          refine o_lit (xs := [xs[i]]) ⟨by decide, rfl, by decide⟩ rfl rfl rfl ⟨fun _ _ => Rp.flat.2 rfl, trivial⟩ rfl ?_
          intro lv
          repeat (first | refine stp ?_ | (refine sti ?_; intro _) | refine stf ?_ | (refine stb ?_; intro _))
          refine o_app2 (Mr := [_]) o (xs := out) (ys := [xs[i]]) hown ⟨by simp; omega, by simp; omega, rfl⟩ rfl rfl rfl rfl inferInstance inferInstance (List.Perm.refl _) ?_
          intro v' o' hown'
          repeat (first | refine stp ?_ | (refine sti ?_; intro _) | refine stf ?_ | (refine stb ?_; intro _))
          refine G.again (S := PutSt) ⟨i + 1, true, o', v', out ++ [xs[i]]⟩ (by dsimp only; omega) ⟨by dsimp only; omega, hown', by rw [← hw]; simp, by simp; omega⟩ inferInstance (look_sub_cons rfl (look_sub_cons rfl (look_sub_cons rfl (look_sub_cons rfl (look_sub_cons rfl look_sub_nil))))) (List.Sublist.refl _)
      · rw [if_neg (fun h => h1 h.1)] at hw
        repeat (first | refine stp ?_ | (refine sti ?_; intro _) | refine stf ?_ | (refine stb ?_; intro _))
        refine o_lit (xs := [xs[i]]) ⟨by decide, rfl, by decide⟩ rfl rfl rfl ⟨fun _ _ => Rp.flat.2 rfl, trivial⟩ rfl ?_
        intro lv
        repeat (first | refine stp ?_ | (refine sti ?_; intro _) | refine stf ?_ | (refine stb ?_; intro _))
        refine o_app2 (Mr := [_]) o (xs := out) (ys := [xs[i]]) hown ⟨by simp; omega, by simp; omega, rfl⟩ rfl rfl rfl rfl inferInstance inferInstance (List.Perm.refl _) ?_
        intro v' o' hown'
        repeat (first | refine stp ?_ | (refine sti ?_; intro _) | refine stf ?_ | (refine stb ?_; intro _))
        refine G.again (S := PutSt) ⟨i + 1, dn, o', v', out ++ [xs[i]]⟩ (by dsimp only; omega) ⟨by dsimp only; omega, hown', by rw [← hw]; simp, by simp; omega⟩ inferInstance (look_sub_cons rfl (look_sub_cons rfl (look_sub_cons rfl (look_sub_cons rfl (look_sub_cons rfl look_sub_nil))))) (List.Sublist.refl _)

structure SetSt where
  i : Nat
  v : Value
  acc : List Key
theorem setK_succ {xs : List Key} {i : Nat} (hi : i < xs.length) : setK (xs.take (i + 1)) = putR xs[i] false (setK (xs.take i)) := by
  rw [List.take_succ_eq_append_getElem hi, setK, List.foldl_append]; rfl
theorem set_spec (v : Value) (xs : List Key) (hx : xs.length ≤ 1000000) : FnD Tryz.prog 77 [v] [fRp v xs] (fun u => [fRp u (setK xs)]) := by
  refine Fn.enter Tryz.func77 rfl Tryz.ntmps77 (by simp) (fun I0 w0 => ?_)
  repeat (first | refine stp ?_ | (refine sti ?_; intro _) | refine stf ?_ | (refine stb ?_; intro _))
  refine W.loopI (fun (s : SetSt) => ([fRp v xs, fRp s.v s.acc], [(0, v), (3, s.v), (4, .int .i64 s.i)], [])) (fun s => s.i ≤ xs.length ∧ s.acc = setK (xs.take s.i)) (fun s => xs.length - s.i) ⟨0, .slice none 0 0, []⟩ ⟨by simp, rfl⟩ inferInstance (look_sub_cons rfl (look_sub_cons rfl (look_sub_cons rfl look_sub_nil))) (List.Sublist.refl _) ?_
  rintro ⟨i, v3, acc⟩ ⟨hi, hw⟩
  dsimp only at hi hw ⊢
  by_cases hi0 : i = xs.length
  · subst hi0
    rw [List.take_length] at hw
    repeat (first | refine stp ?_ | (refine sti ?_; intro _) | refine stf ?_ | (refine stb ?_; intro _))
    refine G.ret rfl (.cons (.tmp rfl) .nil) (Φ' := [fRp v3 acc]) (M' := []) inferInstance (List.nil_sublist _) ⟨?_, rfl⟩
    rw [← hw]; rfl
  · have hi1 : i < xs.length := by omega
    repeat (first | refine stp ?_ | (refine sti ?_; intro _) | refine stf ?_ | (refine stb ?_; intro _))
    refine o_callD rfl rfl rfl rfl (put_spec v3 acc (by rw [hw]; have := setK_length (xs.take i); simp at this; omega) xs[i]) ?_
    intro u
    repeat (first | refine stp ?_ | (refine sti ?_; intro _) | refine stf ?_ | (refine stb ?_; intro _))
    refine G.again (S := SetSt) ⟨i + 1, u, putR xs[i] false acc⟩ (by dsimp only; omega) ⟨by dsimp only; omega, by dsimp only; rw [setK_succ hi1, hw]⟩ inferInstance (look_sub_cons rfl (look_sub_cons rfl (look_sub_cons rfl look_sub_nil))) (List.Sublist.refl _)

theorem ent_noSets {Φ : List Fa} : Ents Φ [fRp (.agg #[.slice none 0 0, .slice none 0 0]) noSets] := ⟨fun I _ φ hφ => by
  rcases List.mem_cons.1 hφ with rfl | h
  · exact Rp.mkSets (s := noSets) (Rp.nil none 0) (Rp.nil none 0)
  · cases h⟩
theorem ent_sets {Φ : List Fa} {r w : Value} {rs ws : List Key} (a : Ent' Φ (fRp r rs)) (b : Ent' Φ (fRp w ws)) : Ents Φ [fRp (.agg #[r, w]) (⟨rs, ws⟩ : Sets)] := ⟨fun I hp φ hφ => by
  rcases List.mem_cons.1 hφ with rfl | h
  · exact Rp.mkSets (s := ⟨rs, ws⟩) (a.h I hp) (b.h I hp)
  · cases h⟩
/-- Sets and an error. -/
def RSets (s : Sets × Int) : Value → List Fa → Own → Prop := fun u Φ' M' => ∃ sv, u = .tuple #[sv, .int .i64 s.2] ∧ Φ' = [fRp sv s.1] ∧ M' = []
theorem RSets.mk {s : Sets × Int} {s1 : Sets} {e : Int} {sv : Value} (h : s = (s1, e)) : RSets s (tup [sv, .int .i64 e]) [fRp sv s1] [] := by subst h; exact ⟨sv, rfl, rfl, rfl⟩
theorem make_spec (v u : Value) (r w : List Key) (hr : r.length ≤ 1000000) (hw : w.length ≤ 1000000) : Fn Tryz.prog 63 [v, u] [fRp v r, fRp u w] [] (RSets (makeS r w)) := by
  refine Fn.enter Tryz.func63 rfl Tryz.ntmps63 (by simp) (fun I0 w0 => ?_)
  repeat (first | refine stp ?_ | (refine sti ?_; intro _) | refine stf ?_ | (refine stb ?_; intro _))
  refine o_lit (xs := [r, w]) ⟨by decide, rfl, by decide⟩ rfl rfl rfl ⟨fun I hp => Ent'.h (φ := fRp v r) I hp, fun I hp => Ent'.h (φ := fRp u w) I hp, trivial⟩ rfl ?_
  intro lv
  repeat (first | refine stp ?_ | (refine sti ?_; intro _) | refine stf ?_ | (refine stb ?_; intro _))
  rename_i b4
  refine W.loopI (fun (i : Nat) => ([fRp v r, fRp u w, fRp lv [r, w]], [(0, v), (1, u), (4, .pointer (some ⟨b4, 0, none⟩)), (5, .int .i64 0), (12, lv), (13, .int .i64 2), (14, .int .i64 i)], [(b4, _)])) (fun i => i ≤ 2 ∧ ∀ l ∈ [r, w].take i, ∀ k ∈ l, mayK k = true) (fun i => 2 - i) 0 ⟨by omega, by simp⟩ inferInstance (look_sub_cons rfl (look_sub_cons rfl (look_sub_cons rfl (look_sub_cons rfl (look_sub_cons rfl (look_sub_cons rfl (look_sub_cons rfl look_sub_nil))))))) (List.Sublist.refl _) ?_
  intro i ⟨hi, hm⟩
  dsimp only
  by_cases hi0 : i = 2
  · subst hi0
    have hmr : ∀ k ∈ r, mayK k = true := hm r (by simp)
    have hmw : ∀ k ∈ w, mayK k = true := hm w (by simp)
    have l1 := setK_length r
    have l2 := setK_length w
    repeat (first | refine stp ?_ | (refine sti ?_; intro _) | refine stf ?_ | (refine stb ?_; intro _))
    refine o_callD rfl rfl rfl rfl (set_spec v r hr) ?_
    intro v1
    refine G.slice v1 (setK r) ?_
    intro a1 c1 hv1 hc1
    subst hv1
    repeat (first | refine stp ?_ | (refine sti ?_; intro _) | refine stf ?_ | (refine stb ?_; intro _))
    refine o_callD rfl rfl rfl rfl (set_spec u w hw) ?_
    intro v2
    refine G.slice v2 (setK w) ?_
    intro a2 c2 hv2 hc2
    subst hv2
    by_cases g1 : 200 < (setK r).length
    · repeat (first | refine stp ?_ | (refine sti ?_; intro _) | refine stf ?_ | (refine stb ?_; intro _))
      refine G.ret rfl (.cons (.cellA rfl rfl) (.cons (.tmp rfl) .nil)) (M' := []) ent_noSets (List.nil_sublist _) (RSets.mk ?_)
      rw [makeS, if_neg (by simp; exact ⟨hmr, hmw⟩), if_pos (.inl g1)]
    · by_cases g2 : 200 < (setK w).length
      · repeat (first | refine stp ?_ | (refine sti ?_; intro _) | refine stf ?_ | (refine stb ?_; intro _))
        refine G.ret rfl (.cons (.cellA rfl rfl) (.cons (.tmp rfl) .nil)) (M' := []) ent_noSets (List.nil_sublist _) (RSets.mk ?_)
        rw [makeS, if_neg (by simp; exact ⟨hmr, hmw⟩), if_pos (.inr g2)]
      · repeat (first | refine stp ?_ | (refine sti ?_; intro _) | refine stf ?_ | (refine stb ?_; intro _))
        refine G.ret rfl (.cons (.cellA rfl rfl) (.cons (.tmp rfl) .nil)) (M' := []) (ent_sets (rs := setK r) (ws := setK w) inferInstance inferInstance) (List.nil_sublist _) (RSets.mk ?_)
        rw [makeS, if_neg (by simp; exact ⟨hmr, hmw⟩), if_neg (by omega)]
  · have hi1 : i < [r, w].length := by simp; omega
    repeat (first | refine stp ?_ | (refine sti ?_; intro _) | refine stf ?_ | (refine stb ?_; intro _))
    refine o_loadR rfl rfl rfl rfl ?_
    intro v7
    generalize hxs : [r, w][i] = xs
    have hxl : xs.length ≤ 1000000 := by
      have : xs ∈ [r, w] := hxs ▸ List.getElem_mem hi1
      simp at this; rcases this with rfl | rfl <;> assumption
    repeat (first | refine stp ?_ | (refine sti ?_; intro _) | refine stf ?_ | (refine stb ?_; intro _))
    refine W.loopI (fun (j : Nat) => ([fRp v r, fRp u w, fRp lv [r, w], fRp v7 xs], [(0, v), (1, u), (4, .pointer (some ⟨b4, 0, none⟩)), (5, .int .i64 0), (12, lv), (13, .int .i64 2), (14, .int .i64 i), (7, v7), (8, .int .i64 j)], [(b4, _)])) (fun j => j ≤ xs.length ∧ ∀ k ∈ xs.take j, mayK k = true) (fun j => xs.length - j) 0 ⟨by omega, by simp⟩ inferInstance (look_sub_cons rfl (look_sub_cons rfl (look_sub_cons rfl (look_sub_cons rfl (look_sub_cons rfl (look_sub_cons rfl (look_sub_cons rfl (look_sub_cons rfl (look_sub_cons rfl look_sub_nil))))))))) (List.Sublist.refl _) ?_
    intro j ⟨hj, hmj⟩
    dsimp only
    by_cases hj0 : j = xs.length
    · subst hj0
      rw [List.take_length] at hmj
      repeat (first | refine stp ?_ | (refine sti ?_; intro _) | refine stf ?_ | (refine stb ?_; intro _))
      refine G.again (i + 1) (by omega) ⟨by omega, ?_⟩ inferInstance (look_sub_cons rfl (look_sub_cons rfl (look_sub_cons rfl (look_sub_cons rfl (look_sub_cons rfl (look_sub_cons rfl (look_sub_cons rfl look_sub_nil))))))) (List.Sublist.refl _)
      intro l hl
      rcases (mem_take_succ hi1).1 hl with h | h
      · exact hm l h
      · rw [← h, hxs]; exact hmj
    · have hj1 : j < xs.length := by omega
      by_cases hk : mayK xs[j] = true
      · repeat (first | refine stp ?_ | (refine sti ?_; intro _) | refine stf ?_ | (refine stb ?_; intro _))
        refine o_callV rfl rfl rfl rfl (may_spec _) (congrArg Value.bool hk) ?_
        repeat (first | refine stp ?_ | (refine sti ?_; intro _) | refine stf ?_ | (refine stb ?_; intro _))
        refine G.again (j + 1) (by omega) ⟨by omega, fun k hk' => ((mem_take_succ hj1).1 hk').elim (hmj k) (fun e => e ▸ hk)⟩ inferInstance (look_sub_cons rfl (look_sub_cons rfl (look_sub_cons rfl (look_sub_cons rfl (look_sub_cons rfl (look_sub_cons rfl (look_sub_cons rfl (look_sub_cons rfl (look_sub_cons rfl look_sub_nil))))))))) (List.Sublist.refl _)
      · have hk : mayK xs[j] = false := by simpa using hk
        repeat (first | refine stp ?_ | (refine sti ?_; intro _) | refine stf ?_ | (refine stb ?_; intro _))
        refine o_callV rfl rfl rfl rfl (may_spec _) (congrArg Value.bool hk) ?_
        repeat (first | refine stp ?_ | (refine sti ?_; intro _) | refine stf ?_ | (refine stb ?_; intro _))
        refine G.ret rfl (.cons (.cellA rfl rfl) (.cons (.tmp rfl) .nil)) (M' := []) ent_noSets (List.nil_sublist _) (RSets.mk ?_)
        rw [makeS, if_pos]
        rintro ⟨h1, h2⟩
        have hmem : xs ∈ [r, w] := hxs ▸ List.getElem_mem hi1
        have h3 : xs[j] ∈ xs := List.getElem_mem hj1
        have h4 : ∀ (l : List Key), xs = l → xs[j] ∈ l := fun l e => by rw [← e]; exact h3
        simp at hmem
        rcases hmem with e | e
        · have := h1 xs[j] (h4 r e); rw [hk] at this; cases this
        · have := h2 xs[j] (h4 w e); rw [hk] at this; cases this

theorem rightS_spec (v : Value) (s : Sets) (h1 : s.reads.length ≤ 1000000 ∧ s.writes.length ≤ 1000000) : FnV Tryz.prog 65 [v] [fRp v s] (.bool (rightS s)) := by
  refine Fn.enter Tryz.func65 rfl Tryz.ntmps65 (by simp) (fun I0 w0 => ?_)
  refine W.bare (G.sets v s ?_)
  intro r w hv
  subst hv
  cases hr : rightB s.reads with
  | true =>
    repeat (first | refine stp ?_ | (refine sti ?_; intro _) | refine stf ?_ | (refine stb ?_; intro _))
    refine o_callV rfl rfl rfl rfl (right_spec r s.reads (by omega)) (congrArg Value.bool hr) ?_
    repeat (first | refine stp ?_ | (refine sti ?_; intro _) | refine stf ?_ | (refine stb ?_; intro _))
    refine o_callV rfl rfl rfl rfl (right_spec w s.writes (by omega)) rfl ?_
    repeat (first | refine stp ?_ | (refine sti ?_; intro _) | refine stf ?_ | (refine stb ?_; intro _))
    refine G.ret rfl (.cons (.tmp rfl) .nil) (Φ' := []) (M' := []) inferInstance (List.nil_sublist _) ⟨?_, rfl, rfl⟩
    simp [tup, rightS, hr]
  | false =>
    repeat (first | refine stp ?_ | (refine sti ?_; intro _) | refine stf ?_ | (refine stb ?_; intro _))
    refine o_callV rfl rfl rfl rfl (right_spec r s.reads (by omega)) (congrArg Value.bool hr) ?_
    repeat (first | refine stp ?_ | (refine sti ?_; intro _) | refine stf ?_ | (refine stb ?_; intro _))
    refine G.ret rfl (.cons (.tmp rfl) .nil) (Φ' := []) (M' := []) inferInstance (List.nil_sublist _) ⟨?_, rfl, rfl⟩
    simp [tup, rightS, hr]
theorem oneS_spec (v u : Value) (xs : List Key) (s : Sets) (hx : xs.length ≤ 1000000) (h1 : s.reads.length ≤ 1000000 ∧ s.writes.length ≤ 1000000) : FnV Tryz.prog 28 [v, u] [fRp v xs, fRp u s] (.bool (oneS xs s)) := by
  refine Fn.enter Tryz.func28 rfl Tryz.ntmps28 (by simp) (fun I0 w0 => ?_)
  refine W.bare (G.sets u s ?_)
  intro r w hv
  subst hv
  repeat (first | refine stp ?_ | (refine sti ?_; intro _) | refine stf ?_ | (refine stb ?_; intro _))
  refine W.loopI (fun (i : Nat) => ([fRp v xs, fRp r s.reads, fRp w s.writes], [(0, v), (3, _), (5, .int .i64 i)], _)) (fun i => i ≤ xs.length ∧ ¬ ∃ k ∈ xs.take i, k ∈ s.reads ∨ k ∈ s.writes) (fun i => xs.length - i) 0 ⟨by omega, by simp⟩ inferInstance (look_sub_cons rfl (look_sub_cons rfl (look_sub_cons rfl look_sub_nil))) (List.Sublist.refl _) ?_
  intro i ⟨hi, hm⟩
  dsimp only
  by_cases hi0 : i = xs.length
  · subst hi0
    rw [List.take_length] at hm
    repeat (first | refine stp ?_ | (refine sti ?_; intro _) | refine stf ?_ | (refine stb ?_; intro _))
    refine G.ret rfl (.cons (.tmp rfl) .nil) (Φ' := []) (M' := []) inferInstance (List.nil_sublist _) ⟨?_, rfl, rfl⟩
    exact congrArg Value.bool (decide_eq_false hm).symm
  · have hi1 : i < xs.length := by omega
    by_cases h2 : xs[i] ∈ s.reads
    · repeat (first | refine stp ?_ | (refine sti ?_; intro _) | refine stf ?_ | (refine stb ?_; intro _))
      refine W.draw 16 [⟨?v0_2, fun _ z => []⟩, ⟨?v1_2, fun _ z => []⟩, ⟨?v2_2, fun _ z => []⟩, ⟨?v3_2, fun _ z => []⟩, ⟨fun _ z => z, fun _ z => [fPt z xs[i]]⟩, ⟨?v5_2, fun _ z => []⟩, ⟨?v6_2, fun _ z => []⟩, ⟨?v7_2, fun _ z => []⟩, ⟨?v8_2, fun _ z => []⟩, ⟨?v9_2, fun _ z => []⟩, ⟨?v10_2, fun _ z => []⟩, ⟨?v11_2, fun _ z => []⟩, ⟨?v12_2, fun _ z => []⟩, ⟨?v13_2, fun _ z => []⟩, ⟨?v14_2, fun _ z => []⟩, ⟨?v15_2, fun _ z => []⟩] [[], [0], [], [], [2, 3], [4], [1, 5], [6], [7], [7, 8], [7], [7], [7, 10, 11], [7, 12], [7, 9, 13], [7, 14]] [15] (by kernel_rfl) (by kernel_rfl) (by kernel_rfl) (by kernel_rfl) ?loc_2 ?ops_2 ?rest_2
      case ops_2 =>
        simp only [AllQ, Nat.reduceAdd, and_true]
        refine ⟨?_, ?_, ?_, ?_, ?_, ?_, ?_, ?_, ?_, ?_, ?_, ?_, ?_, ?_, ?_, ?_⟩
        all_goals (intro c z0 Φr Lr K hK; dsimp only [dstOf, kval, kfac, ancE, ancF, getD_z, getD_s, List.getElem?_cons_zero, List.getElem?_cons_succ, List.getElem?_nil, Option.getD_some, Option.getD_none, List.nil_append, List.cons_append, Option.getD] at hK ⊢)
        iterate 4 ((first | refine stp ?_ | refine stf ?_); exact hK z0)
        · refine o_idxN i rfl rfl rfl rfl rfl hi1 ?_; intro p; exact hK _
        · (first | refine stp ?_ | refine stf ?_); exact hK z0
        · refine o_callV rfl rfl rfl rfl (in_spec r s.reads (by omega) xs[i]) (congrArg Value.bool (decide_eq_true h2)) ?_; exact hK z0
        iterate 9 ((first | refine stp ?_ | refine stf ?_); exact hK z0)
      case loc_2 =>
        simp only [AllL, Nat.reduceAdd, and_true]
        refine ⟨?_, ?_, ?_, ?_, ?_, ?_, ?_, ?_, ?_, ?_, ?_, ?_, ?_, ?_, ?_, ?_⟩
        all_goals (intro c c' z h; first | exact ⟨rfl, rfl⟩ | (skip))
      intro c
      dsimp only [dstOf, kval, kfac, ancE,  ancF, getD_z, getD_s, List.getElem?_cons_zero, List.getElem?_cons_succ, List.getElem?_nil, Option.getD_some, Option.getD_none, List.nil_append, List.cons_append, List.drop_succ_cons, List.drop_zero, Option.getD]
      repeat (first | refine stp ?_ | (refine sti ?_; intro _) | refine stf ?_ | (refine stb ?_; intro _))
      refine G.ret rfl (.cons (.tmp rfl) .nil) (Φ' := []) (M' := []) inferInstance (List.nil_sublist _) ⟨?_, rfl, rfl⟩
      exact congrArg Value.bool (decide_eq_true ⟨_, List.getElem_mem hi1, .inl h2⟩).symm
    · by_cases h3 : xs[i] ∈ s.writes
      · repeat (first | refine stp ?_ | (refine sti ?_; intro _) | refine stf ?_ | (refine stb ?_; intro _))
        refine W.draw 16 [⟨?v0_3, fun _ z => []⟩, ⟨?v1_3, fun _ z => []⟩, ⟨?v2_3, fun _ z => []⟩, ⟨?v3_3, fun _ z => []⟩, ⟨fun _ z => z, fun _ z => [fPt z xs[i]]⟩, ⟨?v5_3, fun _ z => []⟩, ⟨?v6_3, fun _ z => []⟩, ⟨?v7_3, fun _ z => []⟩, ⟨?v8_3, fun _ z => []⟩, ⟨?v9_3, fun _ z => []⟩, ⟨?v10_3, fun _ z => []⟩, ⟨?v11_3, fun _ z => []⟩, ⟨fun _ z => z, fun _ z => [fPt z xs[i]]⟩, ⟨?v13_3, fun _ z => []⟩, ⟨?v14_3, fun _ z => []⟩, ⟨?v15_3, fun _ z => []⟩] [[], [0], [], [], [2, 3], [4], [1, 5], [6], [7], [7, 8], [7], [7], [7, 10, 11], [7, 12], [7, 9, 13], [7, 14]] [15] (by kernel_rfl) (by kernel_rfl) (by kernel_rfl) (by kernel_rfl) ?loc_3 ?ops_3 ?rest_3
        case ops_3 =>
          simp only [AllQ, Nat.reduceAdd, and_true]
          refine ⟨?_, ?_, ?_, ?_, ?_, ?_, ?_, ?_, ?_, ?_, ?_, ?_, ?_, ?_, ?_, ?_⟩
          all_goals (intro c z0 Φr Lr K hK; dsimp only [dstOf, kval, kfac, ancE, ancF, getD_z, getD_s, List.getElem?_cons_zero, List.getElem?_cons_succ, List.getElem?_nil, Option.getD_some, Option.getD_none, List.nil_append, List.cons_append, Option.getD] at hK ⊢)
          iterate 4 ((first | refine stp ?_ | refine stf ?_); exact hK z0)
          · refine o_idxN i rfl rfl rfl rfl rfl hi1 ?_; intro p; exact hK _
          · (first | refine stp ?_ | refine stf ?_); exact hK z0
          · refine o_callV rfl rfl rfl rfl (in_spec r s.reads (by omega) xs[i]) (congrArg Value.bool (decide_eq_false h2)) ?_; exact hK z0
          iterate 5 ((first | refine stp ?_ | refine stf ?_); exact hK z0)
          · refine o_idxN i rfl rfl rfl rfl rfl hi1 ?_; intro p; exact hK _
          · (first | refine stp ?_ | refine stf ?_); exact hK z0
          · refine o_callV rfl rfl rfl rfl (in_spec w s.writes (by omega) xs[i]) (congrArg Value.bool (decide_eq_true h3)) ?_; exact hK z0
          · refine stp ?_; exact hK z0
        case loc_3 =>
          simp only [AllL, Nat.reduceAdd, and_true]
          refine ⟨?_, ?_, ?_, ?_, ?_, ?_, ?_, ?_, ?_, ?_, ?_, ?_, ?_, ?_, ?_, ?_⟩
          all_goals (intro c c' z h; first | exact ⟨rfl, rfl⟩ | (skip))
        intro c
        dsimp only [dstOf, kval, kfac, ancE,  ancF, getD_z, getD_s, List.getElem?_cons_zero, List.getElem?_cons_succ, List.getElem?_nil, Option.getD_some, Option.getD_none, List.nil_append, List.cons_append, List.drop_succ_cons, List.drop_zero, Option.getD]
        repeat (first | refine stp ?_ | (refine sti ?_; intro _) | refine stf ?_ | (refine stb ?_; intro _))
        refine G.ret rfl (.cons (.tmp rfl) .nil) (Φ' := []) (M' := []) inferInstance (List.nil_sublist _) ⟨?_, rfl, rfl⟩
        exact congrArg Value.bool (decide_eq_true ⟨_, List.getElem_mem hi1, .inr h3⟩).symm
      · repeat (first | refine stp ?_ | (refine sti ?_; intro _) | refine stf ?_ | (refine stb ?_; intro _))
        refine W.draw 16 [⟨?v0_4, fun _ z => []⟩, ⟨?v1_4, fun _ z => []⟩, ⟨?v2_4, fun _ z => []⟩, ⟨?v3_4, fun _ z => []⟩, ⟨fun _ z => z, fun _ z => [fPt z xs[i]]⟩, ⟨?v5_4, fun _ z => []⟩, ⟨?v6_4, fun _ z => []⟩, ⟨?v7_4, fun _ z => []⟩, ⟨?v8_4, fun _ z => []⟩, ⟨?v9_4, fun _ z => []⟩, ⟨?v10_4, fun _ z => []⟩, ⟨?v11_4, fun _ z => []⟩, ⟨fun _ z => z, fun _ z => [fPt z xs[i]]⟩, ⟨?v13_4, fun _ z => []⟩, ⟨?v14_4, fun _ z => []⟩, ⟨?v15_4, fun _ z => []⟩] [[], [0], [], [], [2, 3], [4], [1, 5], [6], [7], [7, 8], [7], [7], [7, 10, 11], [7, 12], [7, 9, 13], [7, 14]] [15] (by kernel_rfl) (by kernel_rfl) (by kernel_rfl) (by kernel_rfl) ?loc_4 ?ops_4 ?rest_4
        case ops_4 =>
          simp only [AllQ, Nat.reduceAdd, and_true]
          refine ⟨?_, ?_, ?_, ?_, ?_, ?_, ?_, ?_, ?_, ?_, ?_, ?_, ?_, ?_, ?_, ?_⟩
          all_goals (intro c z0 Φr Lr K hK; dsimp only [dstOf, kval, kfac, ancE, ancF, getD_z, getD_s, List.getElem?_cons_zero, List.getElem?_cons_succ, List.getElem?_nil, Option.getD_some, Option.getD_none, List.nil_append, List.cons_append, Option.getD] at hK ⊢)
          iterate 4 ((first | refine stp ?_ | refine stf ?_); exact hK z0)
          · refine o_idxN i rfl rfl rfl rfl rfl hi1 ?_; intro p; exact hK _
          · (first | refine stp ?_ | refine stf ?_); exact hK z0
          · refine o_callV rfl rfl rfl rfl (in_spec r s.reads (by omega) xs[i]) (congrArg Value.bool (decide_eq_false h2)) ?_; exact hK z0
          iterate 5 ((first | refine stp ?_ | refine stf ?_); exact hK z0)
          · refine o_idxN i rfl rfl rfl rfl rfl hi1 ?_; intro p; exact hK _
          · (first | refine stp ?_ | refine stf ?_); exact hK z0
          · refine o_callV rfl rfl rfl rfl (in_spec w s.writes (by omega) xs[i]) (congrArg Value.bool (decide_eq_false h3)) ?_; exact hK z0
          · refine stp ?_; exact hK z0
        case loc_4 =>
          simp only [AllL, Nat.reduceAdd, and_true]
          refine ⟨?_, ?_, ?_, ?_, ?_, ?_, ?_, ?_, ?_, ?_, ?_, ?_, ?_, ?_, ?_, ?_⟩
          all_goals (intro c c' z h; first | exact ⟨rfl, rfl⟩ | (skip))
        intro c
        dsimp only [dstOf, kval, kfac, ancE,  ancF, getD_z, getD_s, List.getElem?_cons_zero, List.getElem?_cons_succ, List.getElem?_nil, Option.getD_some, Option.getD_none, List.nil_append, List.cons_append, List.drop_succ_cons, List.drop_zero, Option.getD]
        repeat (first | refine stp ?_ | (refine sti ?_; intro _) | refine stf ?_ | (refine stb ?_; intro _))
        refine G.again (i + 1) (by omega) ⟨by omega, ?_⟩ inferInstance (look_sub_cons rfl (look_sub_cons rfl (look_sub_cons rfl look_sub_nil))) (List.Sublist.refl _)
        rintro ⟨k, hk, h⟩
        rcases (mem_take_succ hi1).1 hk with h' | rfl
        · exact hm ⟨k, h', h⟩
        · exact h.elim h2 h3
theorem clashS_spec (v u : Value) (a b : Sets) (h1 : a.reads.length ≤ 1000000 ∧ a.writes.length ≤ 1000000) (h2 : b.reads.length ≤ 1000000 ∧ b.writes.length ≤ 1000000) : FnV Tryz.prog 12 [v, u] [fRp v a, fRp u b] (.bool (clashS a b)) := by
  refine Fn.enter Tryz.func12 rfl Tryz.ntmps12 (by simp) (fun I0 w0 => ?_)
  refine W.bare (G.sets v a ?_)
  intro r w hv
  refine G.sets u b ?_
  intro r' w' hu
  subst hv hu
  cases hr : oneS a.writes b with
  | true =>
    repeat (first | refine stp ?_ | (refine sti ?_; intro _) | refine stf ?_ | (refine stb ?_; intro _))
    refine o_callV rfl rfl rfl rfl (oneS_spec w (.agg #[r', w']) a.writes b (by omega) (by omega)) (congrArg Value.bool hr) ?_
    repeat (first | refine stp ?_ | (refine sti ?_; intro _) | refine stf ?_ | (refine stb ?_; intro _))
    refine G.ret rfl (.cons (.tmp rfl) .nil) (Φ' := []) (M' := []) inferInstance (List.nil_sublist _) ⟨?_, rfl, rfl⟩
    simp [tup, clashS, hr]
  | false =>
    repeat (first | refine stp ?_ | (refine sti ?_; intro _) | refine stf ?_ | (refine stb ?_; intro _))
    refine o_callV rfl rfl rfl rfl (oneS_spec w (.agg #[r', w']) a.writes b (by omega) (by omega)) (congrArg Value.bool hr) ?_
    repeat (first | refine stp ?_ | (refine sti ?_; intro _) | refine stf ?_ | (refine stb ?_; intro _))
    refine o_callV rfl rfl rfl rfl (oneS_spec w' (.agg #[r, w]) b.writes a (by omega) (by omega)) rfl ?_
    repeat (first | refine stp ?_ | (refine sti ?_; intro _) | refine stf ?_ | (refine stb ?_; intro _))
    refine G.ret rfl (.cons (.tmp rfl) .nil) (Φ' := []) (M' := []) inferInstance (List.nil_sublist _) ⟨?_, rfl, rfl⟩
    simp [tup, clashS, hr]

/-- Raw numbers in pairs. -/
structure KeysSt where
  i : Nat
  o : OR
  v : Value
  out : List Key
def keysOf (raw : List (Int × Int)) : List Key := (raw.take 15).map fun p => Key.of p.1 p.2
def InI (p : Int × Int) : Prop := -9223372036854775808 ≤ p.1 ∧ -9223372036854775808 ≤ p.2
theorem keys_spec (v : Value) (raw : List (Int × Int)) (hx : raw.length ≤ 4611686018427387904) (hin : ∀ p ∈ raw, InI p) : FnD Tryz.prog 64 [v] [fRp v raw] (fun u => [fRp u (keysOf raw)]) := by
  refine Fn.enter Tryz.func64 rfl Tryz.ntmps64 (by simp) (fun I0 w0 => ?_)
  repeat (first | refine stp ?_ | (refine sti ?_; intro _) | refine stf ?_ | (refine stb ?_; intro _))
  refine W.loopI (fun (s : KeysSt) => ([fRp v raw, fRow (ocells s.o) s.out], [(0, v), (3, s.v), (4, .int .i64 s.i)], ownM 58 s.o)) (fun s => s.i ≤ raw.length ∧ s.i ≤ 15 ∧ IsOwn 25 s.v s.out.length s.o ∧ s.out = (raw.take s.i).map fun p => Key.of p.1 p.2) (fun s => raw.length - s.i) ⟨0, none, .slice none 0 0, []⟩ ⟨by simp, by simp, ⟨rfl, rfl⟩, by simp⟩ inferInstance (look_sub_cons rfl (look_sub_cons rfl (look_sub_cons rfl look_sub_nil))) (List.Sublist.refl _) ?_
  rintro ⟨i, o, v3, out⟩ ⟨hi, hi15, hown, hout⟩
  dsimp only at hi hi15 hown hout ⊢
  have hlen : out.length = i := by rw [hout]; simp; omega
  by_cases hi0 : i = raw.length
  · subst hi0
    repeat (first | refine stp ?_ | (refine sti ?_; intro _) | refine stf ?_ | (refine stb ?_; intro _))
    refine G.giveOwn2 (Mr := []) v3 out o 58 hown inferInstance (List.Perm.refl _) ?_
    refine G.ret rfl (.cons (.tmp rfl) .nil) (Φ' := [fRp v3 out]) (M' := []) inferInstance (List.nil_sublist _) ⟨?_, rfl⟩
    rw [hout, List.take_length, keysOf, List.take_of_length_le (by omega)]; rfl
  · have hi1 : i < raw.length := by omega
    by_cases h15 : i = 15
    · subst h15
      repeat (first | refine stp ?_ | (refine sti ?_; intro _) | refine stf ?_ | (refine stb ?_; intro _))
      refine G.giveOwn2 (Mr := []) v3 out o 58 hown inferInstance (List.Perm.refl _) ?_
      refine G.ret rfl (.cons (.tmp rfl) .nil) (Φ' := [fRp v3 out]) (M' := []) inferInstance (List.nil_sublist _) ⟨?_, rfl⟩
      rw [hout, keysOf]; rfl
    · have hp := hin raw[i] (List.getElem_mem hi1)
      repeat (first | refine stp ?_ | (refine sti ?_; intro _) | refine stf ?_ | (refine stb ?_; intro _))
      refine W.draw 13 [⟨?v0_5, fun _ z => []⟩, ⟨?v1_5, fun _ z => []⟩, ⟨?v2_5, fun _ z => []⟩, ⟨fun _ z => z, fun _ z => [fPt z raw[i]]⟩, ⟨fun _ z => z, fun _ z => [fPt z raw[i].1]⟩, ⟨?v5_5, fun _ z => []⟩, ⟨?v6_5, fun _ z => []⟩, ⟨?v7_5, fun _ z => []⟩, ⟨fun _ z => z, fun _ z => [fPt z raw[i]]⟩, ⟨fun _ z => z, fun _ z => [fPt z raw[i].2]⟩, ⟨?v10_5, fun _ z => []⟩, ⟨?v11_5, fun _ z => []⟩, ⟨fun _ z => z, fun _ z => [fRp z [Key.of raw[i].1 raw[i].2]]⟩] [[], [], [], [1, 2], [3], [4], [], [], [6, 7], [8], [9], [5, 10], [11]] [0, 12] (by kernel_rfl) (by kernel_rfl) (by kernel_rfl) (by kernel_rfl) ?loc_5 ?ops_5 ?rest_5
      case ops_5 =>
        simp only [AllQ, Nat.reduceAdd, and_true]
        refine ⟨?_, ?_, ?_, ?_, ?_, ?_, ?_, ?_, ?_, ?_, ?_, ?_, ?_⟩
        all_goals (intro c z0 Φr Lr K hK; dsimp only [dstOf, kval, kfac, ancE, ancF, getD_z, getD_s, List.getElem?_cons_zero, List.getElem?_cons_succ, List.getElem?_nil, Option.getD_some, Option.getD_none, List.nil_append, List.cons_append, Option.getD] at hK ⊢)
        iterate 3 (refine stp ?_; exact hK z0)
        · refine o_idxN i rfl rfl rfl rfl rfl hi1 ?_; intro p; exact hK _
        · refine o_indexP (off := 0) Prod.fst rfl rfl rfl rfl (by omega) (by omega) rfl ?_; intro p; exact hK _
        iterate 3 ((first | refine stp ?_ | refine stf ?_); exact hK z0)
        · refine o_idxN i rfl rfl rfl rfl rfl hi1 ?_; intro p; exact hK _
        · refine o_indexP (off := 1) Prod.snd rfl rfl rfl rfl (by omega) (by omega) rfl ?_; intro p; exact hK _
        · (first | refine stp ?_ | refine stf ?_); exact hK z0
        · refine o_callV rfl rfl rfl rfl (key_spec _ _ hp.1 hp.2) rfl ?_; exact hK z0
        · refine o_lit (xs := [Key.of raw[i].1 raw[i].2]) ⟨by decide, rfl, by decide⟩ rfl rfl rfl ⟨fun _ _ => Rp.flat.2 rfl, trivial⟩ rfl ?_; intro p; exact hK _
      case loc_5 =>
        simp only [AllL, Nat.reduceAdd, and_true]
        refine ⟨?_, ?_, ?_, ?_, ?_, ?_, ?_, ?_, ?_, ?_, ?_, ?_, ?_⟩
        all_goals (intro c c' z h; first | exact ⟨rfl, rfl⟩ | (skip))
      intro c
      dsimp only [dstOf, kval, kfac, ancE,  ancF, getD_z, getD_s, List.getElem?_cons_zero, List.getElem?_cons_succ, List.getElem?_nil, Option.getD_some, Option.getD_none, List.nil_append, List.cons_append, List.drop_succ_cons, List.drop_zero, Option.getD]
      repeat (first | refine stp ?_ | (refine sti ?_; intro _) | refine stf ?_ | (refine stb ?_; intro _))
      refine o_app2 (Mr := []) o (xs := out) (ys := [Key.of raw[i].1 raw[i].2]) hown ⟨by simp; omega, by simp; omega, rfl⟩ rfl rfl rfl rfl inferInstance inferInstance (List.Perm.refl _) ?_
      intro v' o' hown'
      repeat (first | refine stp ?_ | (refine sti ?_; intro _) | refine stf ?_ | (refine stb ?_; intro _))
      refine G.again (S := KeysSt) ⟨i + 1, o', v', out ++ [Key.of raw[i].1 raw[i].2]⟩ (by dsimp only; omega) ⟨by dsimp only; omega, by dsimp only; omega, hown', by dsimp only; rw [List.take_succ_eq_append_getElem hi1, List.map_append, hout]; rfl⟩ inferInstance (look_sub_cons rfl (look_sub_cons rfl (look_sub_cons rfl look_sub_nil))) (List.Sublist.refl _)
theorem keysOf_length (raw : List (Int × Int)) : (keysOf raw).length ≤ 15 := by simp [keysOf]; omega
def setsOf (a b : List (Int × Int)) : Sets := (makeS (keysOf a) (keysOf b)).1
theorem sets_spec (v u : Value) (a b : List (Int × Int)) (ha : a.length ≤ 4611686018427387904) (hb : b.length ≤ 4611686018427387904) (h1 : ∀ p ∈ a, InI p) (h2 : ∀ p ∈ b, InI p) : FnD Tryz.prog 42 [v, u] [fRp v a, fRp u b] (fun r => [fRp r (setsOf a b)]) := by
  refine Fn.enter Tryz.func42 rfl Tryz.ntmps42 (by simp) (fun I0 w0 => ?_)
  repeat (first | refine stp ?_ | (refine sti ?_; intro _) | refine stf ?_ | (refine stb ?_; intro _))
  refine o_callD rfl rfl rfl rfl (keys_spec v a ha h1) ?_
  intro v1
  repeat (first | refine stp ?_ | (refine sti ?_; intro _) | refine stf ?_ | (refine stb ?_; intro _))
  refine o_callD rfl rfl rfl rfl (keys_spec u b hb h2) ?_
  intro v2
  repeat (first | refine stp ?_ | (refine sti ?_; intro _) | refine stf ?_ | (refine stb ?_; intro _))
  refine o_callT rfl rfl rfl rfl (make_spec v1 v2 (keysOf a) (keysOf b) (by have := keysOf_length a; omega) (by have := keysOf_length b; omega)) ?_
  intro sv
  refine G.sets sv (makeS (keysOf a) (keysOf b)).1 ?_
  intro r w hsv
  refine G.slice r (makeS (keysOf a) (keysOf b)).1.reads ?_
  intro a1 c1 hr _
  refine G.slice w (makeS (keysOf a) (keysOf b)).1.writes ?_
  intro a2 c2 hw _
  subst hsv hr hw
  repeat (first | refine stp ?_ | (refine sti ?_; intro _) | refine stf ?_ | (refine stb ?_; intro _))
  refine G.ret rfl (.cons (.cellA rfl rfl) .nil) (M' := []) (ent_sets (r := .slice a1 (makeS (keysOf a) (keysOf b)).1.reads.length c1) (w := .slice a2 (makeS (keysOf a) (keysOf b)).1.writes.length c2) (rs := (makeS (keysOf a) (keysOf b)).1.reads) (ws := (makeS (keysOf a) (keysOf b)).1.writes) inferInstance inferInstance) (List.nil_sublist _) ⟨?_, rfl⟩
  rfl
end Go.Rail
