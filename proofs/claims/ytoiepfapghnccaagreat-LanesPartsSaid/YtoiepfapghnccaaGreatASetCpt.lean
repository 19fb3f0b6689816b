/- Sets as the program has them. -/
import Derived.Test.YtoiepfapghnccaaGreatARevAOrd
import Derived.Test.YtoiepfapghnccaaGreatRailC
namespace Go.Rail
open Go Go.Proofs
set_option linter.unusedSimpArgs false
set_option linter.unusedVariables false
set_option maxHeartbeats 400000
set_option maxRecDepth 4000
attribute [local irreducible] OpK G W LW wpListIn Exit.then Exit.inBlock Post rounds opRun bodyPostM intOp
attribute [local irreducible] lexN cmpW cmpA cmpK cmpI
/-- No one stands behind one that it is ahead of: from i on. -/
def DownOK (xs : List Key) (i : Nat) : Prop := ∀ j, i ≤ j → (h : j + 1 < xs.length) → ¬ ltK xs[j + 1] xs[j]
def sortedB (xs : List Key) : Bool := decide (∀ j, (h : j < xs.length - 1) → ¬ ltK (xs[j + 1]'(by omega)) (xs[j]'(by omega)))
theorem sorted_spec (v : Value) (xs : List Key) (hx : xs.length ≤ 1000000) : FnV Tryz.prog 84 [v, .func (.func 85) #[] #[]] [fRp v xs] (.bool (sortedB xs)) := by
  refine Fn.enter Tryz.func84 rfl Tryz.ntmps84 (by simp) (fun I0 w0 => ?_)
  repeat (first | refine stp ?_ | (refine sti ?_; intro _) | refine stf ?_ | (refine stb ?_; intro _))
  refine W.loopI (fun (i : Nat) => ([fRp v xs], [(0, v), (1, .func (.func 85) #[] #[]), (5, .int .i64 ((i : Int) - 1))], [])) (fun i => i ≤ xs.length ∧ DownOK xs (i - 1)) (fun i => i) xs.length ⟨by omega, fun j h1 h2 => absurd h2 (by omega)⟩ inferInstance (look_sub_cons rfl (look_sub_cons rfl (look_sub_cons rfl look_sub_nil))) (List.Sublist.refl _) ?_
  intro i ⟨hi, hm⟩
  dsimp only
  by_cases hi0 : i ≤ 1
  · repeat (first | refine stp ?_ | (refine sti ?_; intro _) | refine stf ?_ | (refine stb ?_; intro _))
    refine G.ret rfl (.cons (.tmp rfl) .nil) (Φ' := []) (M' := []) inferInstance (List.nil_sublist _) ⟨?_, rfl, rfl⟩
    exact congrArg Value.bool (decide_eq_true fun j h => hm j (by omega) (by omega)).symm
  · have hi1 : i - 1 < xs.length := by omega
    have hi2 : i - 1 - 1 < xs.length := by omega
    repeat (first | refine stp ?_ | (refine sti ?_; intro _) | refine stf ?_ | (refine stb ?_; intro _))
    by_cases hlt : cmpK xs[i - 1] xs[i - 1 - 1] < 0
    · refine W.draw 12 [⟨?v0_1, fun _ z => []⟩, ⟨?v1_1, fun _ z => []⟩, ⟨?v2_1, fun _ z => []⟩, ⟨fun _ z => z, fun _ z => [fPt z xs[i - 1]]⟩, ⟨?v4_1, fun _ z => []⟩, ⟨?v5_1, fun _ z => []⟩, ⟨?v6_1, fun _ z => []⟩, ⟨?v7_1, fun _ z => []⟩, ⟨fun _ z => z, fun _ z => [fPt z xs[i - 1 - 1]]⟩, ⟨?v9_1, fun _ z => []⟩, ⟨?v10_1, fun _ z => []⟩, ⟨?v11_1, fun _ z => []⟩] [[], [], [], [1, 2], [3], [], [], [6], [5, 7], [8], [0, 4, 9], [10]] [11] (by kernel_rfl) (by kernel_rfl) (by kernel_rfl) (by kernel_rfl) ?loc_1 ?ops_1 ?rest_1
      case ops_1 =>
        simp only [AllQ, Nat.reduceAdd, and_true]
        refine ⟨?_, ?_, ?_, ?_, ?_, ?_, ?_, ?_, ?_, ?_, ?_, ?_⟩
        all_goals (intro c z0 Φr Lr K hK; dsimp only [dstOf, kval, kfac, ancE, ancF, getD_z, getD_s, List.getElem?_cons_zero, List.getElem?_cons_succ, List.getElem?_nil, Option.getD_some, Option.getD_none, List.nil_append, List.cons_append, Option.getD] at hK ⊢)
        iterate 3 (refine stp ?_; exact hK z0)
        · refine o_idxN (i - 1) rfl rfl rfl rfl (by omega) hi1 ?_; intro p; exact hK _
        iterate 4 ((first | refine stp ?_ | refine stf ?_); exact hK z0)
        · refine o_idxN (i - 1 - 1) rfl rfl rfl rfl (by omega) hi2 ?_; intro p; exact hK _
        · (first | refine stp ?_ | refine stf ?_); exact hK z0
        · refine o_callV rfl rfl rfl rfl (aorder_spec _ _) rfl ?_; exact hK z0
        · refine stp ?_; exact hK z0
      case loc_1 =>
        simp only [AllL, Nat.reduceAdd, and_true]
        refine ⟨?_, ?_, ?_, ?_, ?_, ?_, ?_, ?_, ?_, ?_, ?_, ?_⟩
        all_goals (intro c c' z h; first | exact ⟨rfl, rfl⟩ | (skip))
      intro c
      dsimp only [dstOf, kval, kfac, ancE,  ancF, getD_z, getD_s, List.getElem?_cons_zero, List.getElem?_cons_succ, List.getElem?_nil, Option.getD_some, Option.getD_none, List.nil_append, List.cons_append, List.drop_succ_cons, List.drop_zero, Option.getD]
      repeat (first | refine stp ?_ | (refine sti ?_; intro _) | refine stf ?_ | (refine stb ?_; intro _))
      refine G.ret rfl (.cons (.tmp rfl) .nil) (Φ' := []) (M' := []) inferInstance (List.nil_sublist _) ⟨?_, rfl, rfl⟩
      refine congrArg Value.bool (decide_eq_false fun h => ?_).symm
      have h3 := h (i - 1 - 1) (by omega)
      have e : i - 1 - 1 + 1 = i - 1 := by omega
      simp only [e] at h3
      exact h3 hlt
    · refine W.draw 12 [⟨?v0_2, fun _ z => []⟩, ⟨?v1_2, fun _ z => []⟩, ⟨?v2_2, fun _ z => []⟩, ⟨fun _ z => z, fun _ z => [fPt z xs[i - 1]]⟩, ⟨?v4_2, fun _ z => []⟩, ⟨?v5_2, fun _ z => []⟩, ⟨?v6_2, fun _ z => []⟩, ⟨?v7_2, fun _ z => []⟩, ⟨fun _ z => z, fun _ z => [fPt z xs[i - 1 - 1]]⟩, ⟨?v9_2, fun _ z => []⟩, ⟨?v10_2, fun _ z => []⟩, ⟨?v11_2, fun _ z => []⟩] [[], [], [], [1, 2], [3], [], [], [6], [5, 7], [8], [0, 4, 9], [10]] [11] (by kernel_rfl) (by kernel_rfl) (by kernel_rfl) (by kernel_rfl) ?loc_2 ?ops_2 ?rest_2
      case ops_2 =>
        simp only [AllQ, Nat.reduceAdd, and_true]
        refine ⟨?_, ?_, ?_, ?_, ?_, ?_, ?_, ?_, ?_, ?_, ?_, ?_⟩
        all_goals (intro c z0 Φr Lr K hK; dsimp only [dstOf, kval, kfac, ancE, ancF, getD_z, getD_s, List.getElem?_cons_zero, List.getElem?_cons_succ, List.getElem?_nil, Option.getD_some, Option.getD_none, List.nil_append, List.cons_append, Option.getD] at hK ⊢)
        iterate 3 (refine stp ?_; exact hK z0)
        · refine o_idxN (i - 1) rfl rfl rfl rfl (by omega) hi1 ?_; intro p; exact hK _
        iterate 4 ((first | refine stp ?_ | refine stf ?_); exact hK z0)
        · refine o_idxN (i - 1 - 1) rfl rfl rfl rfl (by omega) hi2 ?_; intro p; exact hK _
        · (first | refine stp ?_ | refine stf ?_); exact hK z0
        · refine o_callV rfl rfl rfl rfl (aorder_spec _ _) rfl ?_; exact hK z0
        · refine stp ?_; exact hK z0
      case loc_2 =>
        simp only [AllL, Nat.reduceAdd, and_true]
        refine ⟨?_, ?_, ?_, ?_, ?_, ?_, ?_, ?_, ?_, ?_, ?_, ?_⟩
        all_goals (intro c c' z h; first | exact ⟨rfl, rfl⟩ | (skip))
      intro c
      dsimp only [dstOf, kval, kfac, ancE,  ancF, getD_z, getD_s, List.getElem?_cons_zero, List.getElem?_cons_succ, List.getElem?_nil, Option.getD_some, Option.getD_none, List.nil_append, List.cons_append, List.drop_succ_cons, List.drop_zero, Option.getD]
      repeat (first | refine stp ?_ | (refine sti ?_; intro _) | refine stf ?_ | (refine stb ?_; intro _))
      refine G.again (i - 1) (by omega) ⟨by omega, fun j h1 h2 => ?_⟩ inferInstance (look_sub_cons rfl (look_sub_cons rfl (look_sub_cons ?_ look_sub_nil))) (List.Sublist.refl _)
      · by_cases e : j = i - 1 - 1
        · subst e
          have e2 : i - 1 - 1 + 1 = i - 1 := by omega
          simp only [e2]; exact hlt
        · exact hm j (by omega) h2
      · exact congrArg (fun n => some (Value.int .i64 n)) (by omega)
end Go.Rail
namespace Go.Rail
open Go Go.Proofs
set_option linter.unusedSimpArgs false
set_option linter.unusedVariables false
set_option maxHeartbeats 400000
set_option maxRecDepth 4000
attribute [local irreducible] OpK G W LW wpListIn Exit.then Exit.inBlock Post rounds opRun bodyPostM intOp
attribute [local irreducible] lexN cmpW cmpA cmpK cmpI
structure CpSt where
  w : Nat
  k : Nat
  cs : List Value
  ys : List Key
theorem compactK_same {xs : List Key} : ∀ {i : Nat}, i ≤ xs.length → (∀ j, 0 < j → (h : j < i) → (h2 : j < xs.length) → xs[j - 1]'(by omega) ≠ xs[j]) → compactK (xs.take i) = xs.take i
  | 0, _, _ => by simp [compactK]
  | 1, h, _ => by
    match xs, h with
    | a :: l, _ => simp [compactK]
  | i + 2, hi, h => by
    have ih := compactK_same (i := i + 1) (by omega) (fun j h0 h1 h2 => h j h0 (by omega) h2)
    rw [compactK_succ (by omega) (by omega), if_neg (h (i + 1) (by omega) (by omega) (by omega)), ih, List.take_succ_eq_append_getElem (i := i + 1) (by omega)]
theorem compact_spec (v : Value) (xs : List Key) (o : OR) (hx : xs.length ≤ 1000000) (ho : IsOwn 25 v xs.length o) : Fn Tryz.prog 86 [v] [fRow (ocells o) xs] (ownM 58 o) (ROwn 58 (compactK xs)) := by
  cases o with
  | none =>
    obtain ⟨rfl, hx0⟩ := ho
    have hxs : xs = [] := List.length_eq_zero_iff.1 hx0
    subst hxs
    refine Fn.enter Tryz.func86 rfl Tryz.ntmps86 (by simp) (fun I0 w0 => ?_)
    repeat (first | refine stp ?_ | (refine sti ?_; intro _) | refine stf ?_ | (refine stb ?_; intro _))
    exact G.ret rfl (.cons (.tmp rfl) .nil) (Φ' := [fRow [] ([] : List Key)]) inferInstance (List.nil_sublist _) ⟨none, ⟨rfl, rfl⟩, rfl, rfl⟩
  | some q =>
    obtain ⟨b, cs0⟩ := q
    obtain ⟨cap, rfl, hcs0, hcap⟩ := ho
    show Fn _ _ _ [fRow cs0 xs] [(b, Ob cs0 58)] _
    refine Fn.enter Tryz.func86 rfl Tryz.ntmps86 (by simp) (fun I0 w0 => ?_)
    by_cases h2 : xs.length < 2
    · repeat (first | refine stp ?_ | (refine sti ?_; intro _) | refine stf ?_ | (refine stb ?_; intro _))
      have e : compactK xs = xs := by
        match xs, h2 with
        | [], _ => rfl
        | [a], _ => rfl
      exact G.ret rfl (.cons (.tmp rfl) .nil) (Φ' := [fRow cs0 xs]) (M' := [(b, Ob cs0 58)]) inferInstance (List.Sublist.refl _) ⟨some (b, cs0), ⟨cap, by rw [e]; rfl, hcs0, by rw [e]; exact hcap⟩, by rw [e]; rfl, rfl⟩
    · repeat (first | refine stp ?_ | (refine sti ?_; intro _) | refine stf ?_ | (refine stb ?_; intro _))
      refine W.loopI (fun (i : Nat) => ([fRow cs0 xs], [(0, .slice (some ⟨b, 0, none⟩) xs.length cap), (3, .int .i64 i)], [(b, Ob cs0 58)])) (fun i => 1 ≤ i ∧ i ≤ xs.length ∧ ∀ j, 0 < j → (h : j < i) → (h2 : j < xs.length) → xs[j - 1]'(by omega) ≠ xs[j]) (fun i => xs.length - i) 1 ⟨by omega, by omega, fun j h0 h1 => by omega⟩ ⟨fun I hp φ hφ => ?_⟩ (look_sub_cons rfl (look_sub_cons rfl look_sub_nil)) (List.Sublist.refl _) ?_
      · rcases List.mem_cons.1 hφ with rfl | h
        · exact hp _ (.head _)
        · cases h
      intro i ⟨hi1, hi, hm⟩
      dsimp only
      by_cases hi0 : i = xs.length
      · repeat (first | refine stp ?_ | (refine sti ?_; intro _) | refine stf ?_ | (refine stb ?_; intro _))
        have e : compactK xs = xs := by have := compactK_same hi hm; rwa [hi0, List.take_length] at this
        exact G.ret rfl (.cons (.tmp rfl) .nil) (Φ' := [fRow cs0 xs]) (M' := [(b, Ob cs0 58)]) inferInstance (List.Sublist.refl _) ⟨some (b, cs0), ⟨cap, by rw [e]; rfl, hcs0, by rw [e]; exact hcap⟩, by rw [e]; rfl, rfl⟩
      · have hil : i < xs.length := by omega
        have hil2 : i - 1 < xs.length := by omega
        repeat (first | refine stp ?_ | (refine sti ?_; intro _) | refine stf ?_ | (refine stb ?_; intro _))
        by_cases he : xs[i] = xs[i - 1]
        · refine W.draw 10 [⟨?v0_1, fun _ z => []⟩, ⟨?v1_1, fun _ z => []⟩, ⟨?v2_1, fun _ z => []⟩, ⟨?v3_1, fun _ z => []⟩, ⟨?v4_1, fun _ z => []⟩, ⟨?v5_1, fun _ z => []⟩, ⟨?v6_1, fun _ z => []⟩, ⟨?v7_1, fun _ z => []⟩, ⟨?v8_1, fun _ z => []⟩, ⟨?v9_1, fun _ z => []⟩] [[], [], [0, 1], [2], [], [], [5], [4, 6], [7], [3, 8]] [9] (by kernel_rfl) (by kernel_rfl) (by kernel_rfl) (by kernel_rfl) ?loc_1 ?ops_1 ?rest_1
          case ops_1 =>
            simp only [AllQ, Nat.reduceAdd, and_true]
            refine ⟨?_, ?_, ?_, ?_, ?_, ?_, ?_, ?_, ?_, ?_⟩
            all_goals (intro c z0 Φr Lr K hK; dsimp only [dstOf, kval, kfac, ancE, ancF, getD_z, getD_s, List.getElem?_cons_zero, List.getElem?_cons_succ, List.getElem?_nil, Option.getD_some, Option.getD_none, List.nil_append, List.cons_append, Option.getD] at hK ⊢)
            · refine stp ?_; exact hK z0
            · refine stp ?_; exact hK z0
            · refine o_idxO rfl rfl rfl rfl (by omega) (by omega) (o' := i * 25) (by omega) ?_; exact hK z0
            · refine o_loadO (α := Key) (xs := xs) i hil rfl rfl rfl rfl rfl ?_; exact hK z0
            iterate 3 (refine stp ?_; exact hK z0)
            · refine o_idxO rfl rfl rfl rfl (by omega) (by omega) (o' := (i - 1) * 25) (by omega) ?_; exact hK z0
            · refine o_loadO (α := Key) (xs := xs) (i - 1) hil2 rfl rfl rfl rfl rfl ?_; exact hK z0
            · refine stp ?_; exact hK z0
          case loc_1 =>
            simp only [AllL, Nat.reduceAdd, and_true]
            refine ⟨?_, ?_, ?_, ?_, ?_, ?_, ?_, ?_, ?_, ?_⟩
            all_goals exact fun _ _ _ _ => ⟨rfl, rfl⟩
          intro c
          dsimp only [dstOf, kval, kfac, ancE,  ancF, getD_z, getD_s, List.getElem?_cons_zero, List.getElem?_cons_succ, List.getElem?_nil, Option.getD_some, Option.getD_none, List.nil_append, List.cons_append, List.drop_succ_cons, List.drop_zero, Option.getD]
          repeat (first | refine stp ?_ | (refine sti ?_; intro _) | refine stf ?_ | (refine stb ?_; intro _))
          refine W.cond_true (congrArg (fun b => some (Value.bool b)) (decide_eq_true he)) ?_
          repeat (first | refine stp ?_ | (refine sti ?_; intro _) | refine stf ?_ | (refine stb ?_; intro _))
          refine o_tailO i (i * 25) rfl rfl rfl rfl rfl (by omega) (by omega) (by omega) (by omega) ?_
          repeat (first | refine stp ?_ | (refine sti ?_; intro _) | refine stf ?_ | (refine stb ?_; intro _))
          refine W.loopI (fun (s : CpSt) => ([fRow s.cs s.ys], [(0, .slice (some ⟨b, 0, none⟩) xs.length cap), (3, .int .i64 s.w), (4, .slice (some ⟨b, i * 25, none⟩) (xs.length - i) (cap - i)), (5, .int .i64 s.k)], [(b, Ob s.cs 58)])) (fun s => 1 ≤ s.k ∧ s.k ≤ xs.length - i ∧ s.cs.length = cs0.length ∧ s.ys.length = xs.length ∧ s.w ≤ i + s.k - 1 ∧ s.ys.take s.w = compactK (xs.take (i + s.k)) ∧ ∀ j, i + s.k - 1 ≤ j → s.ys[j]? = xs[j]?) (fun s => xs.length - s.k) ⟨i, 1, cs0, xs⟩ ⟨by dsimp only; omega, by dsimp only; omega, rfl, rfl, by dsimp only; omega, ?_, fun j _ => rfl⟩ inferInstance (look_sub_cons rfl (look_sub_cons rfl (look_sub_cons rfl (look_sub_cons rfl look_sub_nil)))) (List.Sublist.refl _) ?_
          · dsimp only
            rw [compactK_succ (by omega) hil, if_pos he.symm, compactK_same hi hm]
          rintro ⟨w, k, cs, ys⟩ ⟨hk1, hk, hcs, hyl, hw, hc, hr⟩
          dsimp only at hk1 hk hcs hyl hw hc hr ⊢
          by_cases hd : k = xs.length - i
          · have hcx : compactK xs = ys.take w := by rw [hc, List.take_of_length_le (by omega)]
            have hwl : (compactK xs).length = w := by rw [hcx]; simp; omega
            repeat (first | refine stp ?_ | (refine sti ?_; intro _) | refine stf ?_ | (refine stb ?_; intro _))
            refine o_tailO w (w * 25) rfl rfl rfl rfl rfl (by omega) (by omega) (by omega) (by omega) ?_
            refine G.cons ?_
            refine o_clearO (α := Key) (xs := ys) w (by omega) rfl rfl rfl (by rw [hcs, hcs0]; show w * 25 + (xs.length - w) * 25 ≤ cap * 25; omega) rfl rfl ?_
            intro cs' hcs'
            repeat (first | refine stp ?_ | (refine sti ?_; intro _) | refine stf ?_ | (refine stb ?_; intro _))
            refine o_cutO w rfl rfl rfl ⟨_, _, rfl, rfl⟩ (by omega) ?_
            repeat (first | refine stp ?_ | (refine sti ?_; intro _) | refine stf ?_ | (refine stb ?_; intro _))
            exact G.ret rfl (.cons (.tmp rfl) .nil) (Φ' := [fRow cs' (ys.take w)]) (M' := [(b, Ob cs' 58)]) inferInstance (List.Sublist.refl _) ⟨some (b, cs'), ⟨cap, by rw [hwl]; rfl, by rw [hcs', hcs]; exact hcs0, by omega⟩, by rw [hcx]; rfl, rfl⟩
          · have hy1 : i + k < ys.length := by omega
            have hy2 : i + k - 1 < ys.length := by omega
            have hx1 : i + k < xs.length := by omega
            have e1 : ys[i + k] = xs[i + k] := by
              have := hr (i + k) (by omega)
              rw [List.getElem?_eq_getElem hy1, List.getElem?_eq_getElem hx1] at this
              exact Option.some.inj this
            have e2 : ys[i + k - 1] = xs[i + k - 1] := by
              have := hr (i + k - 1) (by omega)
              rw [List.getElem?_eq_getElem hy2, List.getElem?_eq_getElem (by omega : i + k - 1 < xs.length)] at this
              exact Option.some.inj this
            have hcs1 := compactK_succ (xs := xs) (m := i + k) (by omega) hx1
            rw [← e1, ← e2, ← hc] at hcs1
            repeat (first | refine stp ?_ | (refine sti ?_; intro _) | refine stf ?_ | (refine stb ?_; intro _))
            by_cases hn : ys[i + k] = ys[i + k - 1]
            · rw [if_pos hn.symm] at hcs1
              refine W.draw 10 [⟨?v0_2, fun _ z => []⟩, ⟨?v1_2, fun _ z => []⟩, ⟨?v2_2, fun _ z => []⟩, ⟨?v3_2, fun _ z => []⟩, ⟨?v4_2, fun _ z => []⟩, ⟨?v5_2, fun _ z => []⟩, ⟨?v6_2, fun _ z => []⟩, ⟨?v7_2, fun _ z => []⟩, ⟨?v8_2, fun _ z => []⟩, ⟨?v9_2, fun _ z => []⟩] [[], [], [0, 1], [2], [], [], [5], [4, 6], [7], [3, 8]] [9] (by kernel_rfl) (by kernel_rfl) (by kernel_rfl) (by kernel_rfl) ?loc_2 ?ops_2 ?rest_2
              case ops_2 =>
                simp only [AllQ, Nat.reduceAdd, and_true]
                refine ⟨?_, ?_, ?_, ?_, ?_, ?_, ?_, ?_, ?_, ?_⟩
                all_goals (intro c z0 Φr Lr K hK; dsimp only [dstOf, kval, kfac, ancE, ancF, getD_z, getD_s, List.getElem?_cons_zero, List.getElem?_cons_succ, List.getElem?_nil, Option.getD_some, Option.getD_none, List.nil_append, List.cons_append, Option.getD] at hK ⊢)
                · refine stp ?_; exact hK z0
                · refine stp ?_; exact hK z0
                · refine o_idxO rfl rfl rfl rfl (by omega) (by omega) (o' := (i + k) * 25) (by omega) ?_; exact hK z0
                · refine o_loadO (α := Key) (xs := ys) (i + k) hy1 rfl rfl rfl rfl rfl ?_; exact hK z0
                iterate 3 (refine stp ?_; exact hK z0)
                · refine o_idxO rfl rfl rfl rfl (by omega) (by omega) (o' := (i + k - 1) * 25) (by omega) ?_; exact hK z0
                · refine o_loadO (α := Key) (xs := ys) (i + k - 1) hy2 rfl rfl rfl rfl rfl ?_; exact hK z0
                · refine stp ?_; exact hK z0
              case loc_2 =>
                simp only [AllL, Nat.reduceAdd, and_true]
                refine ⟨?_, ?_, ?_, ?_, ?_, ?_, ?_, ?_, ?_, ?_⟩
                all_goals exact fun _ _ _ _ => ⟨rfl, rfl⟩
              intro c
              dsimp only [dstOf, kval, kfac, ancE,  ancF, getD_z, getD_s, List.getElem?_cons_zero, List.getElem?_cons_succ, List.getElem?_nil, Option.getD_some, Option.getD_none, List.nil_append, List.cons_append, List.drop_succ_cons, List.drop_zero, Option.getD]
              repeat (first | refine stp ?_ | (refine sti ?_; intro _) | refine stf ?_ | (refine stb ?_; intro _))
              refine W.cond_false (congrArg (fun b => some (Value.bool !b)) (decide_eq_true hn)) ?_
              repeat (first | refine stp ?_ | (refine sti ?_; intro _) | refine stf ?_ | (refine stb ?_; intro _))
              refine G.again (S := CpSt) ⟨w, k + 1, cs, ys⟩ (by dsimp only; omega) ⟨by dsimp only; omega, by dsimp only; omega, hcs, hyl, by dsimp only; omega, hcs1.symm, fun j hj => hr j (by dsimp only at hj; omega)⟩ inferInstance (look_sub_cons rfl (look_sub_cons rfl (look_sub_cons rfl (look_sub_cons rfl look_sub_nil)))) (List.Sublist.refl _)
            · rw [if_neg (fun h => hn h.symm)] at hcs1
              have hwy : w < ys.length := by omega
              refine W.draw 10 [⟨?v0_3, fun _ z => []⟩, ⟨?v1_3, fun _ z => []⟩, ⟨?v2_3, fun _ z => []⟩, ⟨?v3_3, fun _ z => []⟩, ⟨?v4_3, fun _ z => []⟩, ⟨?v5_3, fun _ z => []⟩, ⟨?v6_3, fun _ z => []⟩, ⟨?v7_3, fun _ z => []⟩, ⟨?v8_3, fun _ z => []⟩, ⟨?v9_3, fun _ z => []⟩] [[], [], [0, 1], [2], [], [], [5], [4, 6], [7], [3, 8]] [9] (by kernel_rfl) (by kernel_rfl) (by kernel_rfl) (by kernel_rfl) ?loc_3 ?ops_3 ?rest_3
              case ops_3 =>
                simp only [AllQ, Nat.reduceAdd, and_true]
                refine ⟨?_, ?_, ?_, ?_, ?_, ?_, ?_, ?_, ?_, ?_⟩
                all_goals (intro c z0 Φr Lr K hK; dsimp only [dstOf, kval, kfac, ancE, ancF, getD_z, getD_s, List.getElem?_cons_zero, List.getElem?_cons_succ, List.getElem?_nil, Option.getD_some, Option.getD_none, List.nil_append, List.cons_append, Option.getD] at hK ⊢)
                · refine stp ?_; exact hK z0
                · refine stp ?_; exact hK z0
                · refine o_idxO rfl rfl rfl rfl (by omega) (by omega) (o' := (i + k) * 25) (by omega) ?_; exact hK z0
                · refine o_loadO (α := Key) (xs := ys) (i + k) hy1 rfl rfl rfl rfl rfl ?_; exact hK z0
                iterate 3 (refine stp ?_; exact hK z0)
                · refine o_idxO rfl rfl rfl rfl (by omega) (by omega) (o' := (i + k - 1) * 25) (by omega) ?_; exact hK z0
                · refine o_loadO (α := Key) (xs := ys) (i + k - 1) hy2 rfl rfl rfl rfl rfl ?_; exact hK z0
                · refine stp ?_; exact hK z0
              case loc_3 =>
                simp only [AllL, Nat.reduceAdd, and_true]
                refine ⟨?_, ?_, ?_, ?_, ?_, ?_, ?_, ?_, ?_, ?_⟩
                all_goals exact fun _ _ _ _ => ⟨rfl, rfl⟩
              intro c
              dsimp only [dstOf, kval, kfac, ancE,  ancF, getD_z, getD_s, List.getElem?_cons_zero, List.getElem?_cons_succ, List.getElem?_nil, Option.getD_some, Option.getD_none, List.nil_append, List.cons_append, List.drop_succ_cons, List.drop_zero, Option.getD]
              repeat (first | refine stp ?_ | (refine sti ?_; intro _) | refine stf ?_ | (refine stb ?_; intro _))
              refine W.cond_true (congrArg (fun b => some (Value.bool !b)) (decide_eq_false hn)) ?_
              repeat (first | refine stp ?_ | (refine sti ?_; intro _) | refine stf ?_ | (refine stb ?_; intro _))
              refine o_idxO rfl rfl rfl rfl (by omega) (by omega) (o' := (i + k) * 25) (by omega) ?_
              refine G.cons ?_
              refine o_loadO (α := Key) (xs := ys) (i + k) hy1 rfl rfl rfl rfl rfl ?_
              refine G.cons ?_
              refine o_idxO rfl rfl rfl rfl (by omega) (by omega) (o' := w * 25) (by omega) ?_
              refine G.cons ?_
              refine o_storeO (α := Key) ys[i + k] w hwy rfl rfl rfl ⟨fun _ _ => Rp.flat.2 rfl⟩ rfl ?_
              intro cs1 hc1
              repeat (first | refine stp ?_ | (refine sti ?_; intro _) | refine stf ?_ | (refine stb ?_; intro _))
              refine G.again (S := CpSt) ⟨w + 1, k + 1, cs1, ys.set w ys[i + k]⟩ (by dsimp only; omega) ⟨by dsimp only; omega, by dsimp only; omega, hc1.trans hcs, by simp [hyl], by dsimp only; omega, ?_, fun j hj => ?_⟩ inferInstance (look_sub_cons rfl (look_sub_cons rfl (look_sub_cons rfl (look_sub_cons rfl look_sub_nil)))) (List.Sublist.refl _)
              · dsimp only
                refine Eq.trans ?_ hcs1.symm
                rw [List.take_succ_eq_append_getElem (by simpa using hwy), List.take_set_of_le (Nat.le_refl _), List.getElem_set_self]
              · dsimp only at hj ⊢
                rw [List.getElem?_set_ne (by omega)]
                exact hr j (by omega)
        · refine W.draw 10 [⟨?v0_4, fun _ z => []⟩, ⟨?v1_4, fun _ z => []⟩, ⟨?v2_4, fun _ z => []⟩, ⟨?v3_4, fun _ z => []⟩, ⟨?v4_4, fun _ z => []⟩, ⟨?v5_4, fun _ z => []⟩, ⟨?v6_4, fun _ z => []⟩, ⟨?v7_4, fun _ z => []⟩, ⟨?v8_4, fun _ z => []⟩, ⟨?v9_4, fun _ z => []⟩] [[], [], [0, 1], [2], [], [], [5], [4, 6], [7], [3, 8]] [9] (by kernel_rfl) (by kernel_rfl) (by kernel_rfl) (by kernel_rfl) ?loc_4 ?ops_4 ?rest_4
          case ops_4 =>
            simp only [AllQ, Nat.reduceAdd, and_true]
            refine ⟨?_, ?_, ?_, ?_, ?_, ?_, ?_, ?_, ?_, ?_⟩
            all_goals (intro c z0 Φr Lr K hK; dsimp only [dstOf, kval, kfac, ancE, ancF, getD_z, getD_s, List.getElem?_cons_zero, List.getElem?_cons_succ, List.getElem?_nil, Option.getD_some, Option.getD_none, List.nil_append, List.cons_append, Option.getD] at hK ⊢)
            · refine stp ?_; exact hK z0
            · refine stp ?_; exact hK z0
            · refine o_idxO rfl rfl rfl rfl (by omega) (by omega) (o' := i * 25) (by omega) ?_; exact hK z0
            · refine o_loadO (α := Key) (xs := xs) i hil rfl rfl rfl rfl rfl ?_; exact hK z0
            iterate 3 (refine stp ?_; exact hK z0)
            · refine o_idxO rfl rfl rfl rfl (by omega) (by omega) (o' := (i - 1) * 25) (by omega) ?_; exact hK z0
            · refine o_loadO (α := Key) (xs := xs) (i - 1) hil2 rfl rfl rfl rfl rfl ?_; exact hK z0
            · refine stp ?_; exact hK z0
          case loc_4 =>
            simp only [AllL, Nat.reduceAdd, and_true]
            refine ⟨?_, ?_, ?_, ?_, ?_, ?_, ?_, ?_, ?_, ?_⟩
            all_goals exact fun _ _ _ _ => ⟨rfl, rfl⟩
          intro c
          dsimp only [dstOf, kval, kfac, ancE,  ancF, getD_z, getD_s, List.getElem?_cons_zero, List.getElem?_cons_succ, List.getElem?_nil, Option.getD_some, Option.getD_none, List.nil_append, List.cons_append, List.drop_succ_cons, List.drop_zero, Option.getD]
          repeat (first | refine stp ?_ | (refine sti ?_; intro _) | refine stf ?_ | (refine stb ?_; intro _))
          refine W.cond_false (congrArg (fun b => some (Value.bool b)) (decide_eq_false he)) ?_
          repeat (first | refine stp ?_ | (refine sti ?_; intro _) | refine stf ?_ | (refine stb ?_; intro _))
          refine G.again (i + 1) (by omega) ⟨by omega, by omega, fun j h0 h1 h2 => ?_⟩ inferInstance (look_sub_cons rfl (look_sub_cons rfl look_sub_nil)) (List.Sublist.refl _)
          by_cases e : j = i
          · subst e; exact fun h => he h.symm
          · exact hm j h0 (by omega) h2
end Go.Rail
