/- Bytes turned about; words out of bytes, as the program has them. -/
import Derived.Test.YtpbbjkbackiljaaGreatDoorABH
import Derived.Test.YtpbbjkbackiljaaGreatDoorAEqMul
import Derived.Test.YtpbbjkbackiljaaGreatDoorRailH
set_option linter.unusedSimpArgs false
set_option linter.unusedVariables false
namespace Go.Rail
open Go Go.Proofs
set_option maxHeartbeats 400000
set_option maxRecDepth 4000
attribute [local irreducible] OpK G W LW wpListIn Exit.then Exit.inBlock Post rounds opRun bodyPostM intOp
set_option maxHeartbeats 4000000
theorem clone8_spec (v : Value) (xs : List UInt8) (hx : xs.length ≤ 1000000) : Fn Tryz.prog 258 [v] [fRp v xs] [] (ROwn 5 xs) := by
  refine Fn.enter Tryz.func258 rfl Tryz.ntmps258 (by simp) (fun I0 w0 => ?_)
  refine W.bare (G.sliceN v xs ?_)
  intro a cap hv hc hnil
  subst hv
  cases a with
  | none =>
    have hx0 := hnil rfl
    subst hx0
    repeat (first | (refine sty ?_; try intro _) | (refine st ?_; try intro _) | (refine stz ?_; try intro _) | (refine stq ?_; try intro _))
    refine o_eqNil rfl rfl rfl rfl rfl ?_
    repeat (first | (refine sty ?_; try intro _) | (refine st ?_; try intro _) | (refine stz ?_; try intro _) | (refine stq ?_; try intro _))
    exact G.ret rfl (.cons (.tmp rfl) .nil) inferInstance (List.nil_sublist _) ⟨none, ⟨rfl, rfl⟩, rfl, rfl⟩
  | some ad =>
    repeat (first | (refine sty ?_; try intro _) | (refine st ?_; try intro _) | (refine stz ?_; try intro _) | (refine stq ?_; try intro _))
    refine o_eqNil rfl rfl rfl rfl rfl ?_
    repeat (first | (refine sty ?_; try intro _) | (refine st ?_; try intro _) | (refine stz ?_; try intro _) | (refine stq ?_; try intro _))
    refine o_litM (xs := xs.take 0) ⟨by simp, rfl, by decide⟩ rfl rfl rfl RpL.nil rfl ?_
    intro b cs hcs
    repeat (first | (refine sty ?_; try intro _) | (refine st ?_; try intro _) | (refine stz ?_; try intro _) | (refine stq ?_; try intro _))
    refine o_app2 (Mr := []) (some (b, cs)) (xs := xs.take 0) (ys := xs) ⟨0, rfl, by simpa using hcs, by simp⟩ ⟨by simp; omega, by simp; omega, rfl⟩ rfl rfl rfl rfl (show Ent' _ (fRow cs (xs.take 0)) from inferInstance) inferInstance (List.Perm.refl _) ?_
    intro v' o' hown'
    rw [show xs.take 0 ++ xs = xs from rfl] at hown' ⊢
    repeat (first | (refine sty ?_; try intro _) | (refine st ?_; try intro _) | (refine stz ?_; try intro _) | (refine stq ?_; try intro _))
    exact G.ret rfl (.cons (.tmp rfl) .nil) inferInstance (List.Sublist.refl _) ⟨o', hown', rfl, rfl⟩
structure RevSt8 where
  i : Nat
  cs : List Value
  ys : List UInt8
def RevAt8 (xs ys : List UInt8) (i : Nat) : Prop := ys.length = xs.length ∧ ∀ k, k < xs.length → ys[k]? = if k < i ∨ xs.length - i ≤ k then xs[xs.length - 1 - k]? else xs[k]?
theorem RevAt8.step {xs ys : List UInt8} {i : Nat} (h : RevAt8 xs ys i) (hi : 2 * i + 1 < xs.length) (h1 : i < ys.length) (h2 : xs.length - 1 - i < ys.length) : RevAt8 xs ((ys.set i ys[xs.length - 1 - i]).set (xs.length - 1 - i) ys[i]) (i + 1) := by
  obtain ⟨hl, h⟩ := h
  refine ⟨by simp [hl], fun k hk => ?_⟩
  have e1 := h i (by omega)
  have e2 := h (xs.length - 1 - i) (by omega)
  rw [if_neg (by omega), List.getElem?_eq_getElem h1] at e1
  rw [if_neg (by omega), List.getElem?_eq_getElem h2] at e2
  by_cases a : k = xs.length - 1 - i
  · subst a
    rw [List.getElem?_set_self (by simp; omega), if_pos (by omega), e1]
    congr 1; omega
  · rw [List.getElem?_set_ne (Ne.symm a)]
    by_cases c : k = i
    · subst c
      rw [List.getElem?_set_self h1, if_pos (by omega), e2]
    · rw [List.getElem?_set_ne (Ne.symm c), h k hk]
      by_cases q : k < i ∨ xs.length - i ≤ k
      · rw [if_pos q, if_pos (by omega)]
      · rw [if_neg q, if_neg (by omega)]
theorem RevAt8.done {xs ys : List UInt8} {i : Nat} (h : RevAt8 xs ys i) (hi : xs.length ≤ 2 * i + 1) (hi2 : i ≤ xs.length) : ys = xs.reverse := by
  obtain ⟨hl, h⟩ := h
  apply List.ext_getElem?
  intro k
  by_cases hk : k < xs.length
  · rw [h k hk, List.getElem?_reverse hk]
    by_cases q : k < i ∨ xs.length - i ≤ k
    · rw [if_pos q]
    · rw [if_neg q]; congr 1; omega
  · rw [List.getElem?_eq_none (by omega), List.getElem?_eq_none (by simp; omega)]
theorem reverse8_spec (v : Value) (xs : List UInt8) (o : OR) (hx : xs.length ≤ 1000000) (ho : IsOwn 1 v xs.length o) : Fn Tryz.prog 259 [v] [fRow (ocells o) xs] (ownM 5 o) (RIn 5 v xs.reverse) := by
  cases o with
  | none =>
    obtain ⟨rfl, hx0⟩ := ho
    have hxs : xs = [] := List.length_eq_zero_iff.1 hx0
    subst hxs
    refine Fn.enter Tryz.func259 rfl Tryz.ntmps259 (by simp) (fun I0 w0 => ?_)
    repeat (first | (refine sty ?_; try intro _) | (refine st ?_; try intro _) | (refine stz ?_; try intro _) | (refine stq ?_; try intro _))
    refine W.loopN 1 ?_
    repeat (first | (refine sty ?_; try intro _) | (refine st ?_; try intro _) | (refine stz ?_; try intro _) | (refine stq ?_; try intro _))
    exact G.fin rfl .nil (Φ' := [fRow [] ([] : List UInt8)]) inferInstance (List.nil_sublist _) ⟨none, ⟨rfl, rfl⟩, rfl, rfl⟩
  | some q =>
    obtain ⟨b, cs0⟩ := q
    obtain ⟨cap, rfl, hcs0, hcap⟩ := ho
    refine Fn.enter Tryz.func259 rfl Tryz.ntmps259 (by simp) (fun I0 w0 => ?_)
    repeat (first | (refine sty ?_; try intro _) | (refine st ?_; try intro _) | (refine stz ?_; try intro _) | (refine stq ?_; try intro _))
    refine W.loopI (fun (s : RevSt8) => ([fRow s.cs s.ys], [(0, .slice (some ⟨b, 0, none⟩) xs.length cap), (2, .int .i64 s.i), (3, .int .i64 ((xs.length : Int) - 1 - s.i))], [(b, Ob s.cs 5)])) (fun s => s.i ≤ xs.length ∧ s.cs.length = cs0.length ∧ RevAt8 xs s.ys s.i) (fun s => xs.length - s.i) ⟨0, cs0, xs⟩ ⟨by simp, rfl, rfl, fun k hk => by rw [if_neg (by dsimp only; omega)]⟩ ⟨fun I hp φ hφ => ?_⟩ (look_sub_cons rfl (look_sub_cons rfl (look_sub_cons ?_ look_sub_nil))) (List.Sublist.refl _) ?_
    · rcases List.mem_cons.1 hφ with rfl | h
      · exact hp _ (.head _)
      · cases h
    · exact congrArg (fun n => some (Value.int .i64 n)) (by dsimp only; omega)
    rintro ⟨i, cs, ys⟩ ⟨hi, hcs, hr⟩
    dsimp only at hi hcs hr ⊢
    have hl := hr.1
    by_cases hd : xs.length ≤ 2 * i + 1
    · repeat (first | (refine sty ?_; try intro _) | (refine st ?_; try intro _) | (refine stz ?_; try intro _) | (refine stq ?_; try intro _))
      have e := hr.done hd hi
      subst e
      exact G.fin rfl .nil (Φ' := [fRow cs xs.reverse]) inferInstance (List.Sublist.refl _) ⟨some (b, cs), ⟨cap, by simp, by rw [hcs]; exact hcs0, by simpa using hcap⟩, rfl, rfl⟩
    · have h1 : i < ys.length := by omega
      have h2 : xs.length - 1 - i < ys.length := by omega
      repeat (first | (refine sty ?_; try intro _) | (refine st ?_; try intro _) | (refine stz ?_; try intro _) | (refine stq ?_; try intro _))
      refine W.drawX 16 (fun D c => [(b, Ob (bif D 15 then cellsL (c 15) else bif D 13 then cellsL (c 13) else cs) 5)]) [⟨?v0_1, fun _ z => []⟩, ⟨?v1_1, fun _ z => []⟩, ⟨?v2_1, fun _ z => []⟩, ⟨?v3_1, fun _ z => []⟩, ⟨?v4_1, fun _ z => []⟩, ⟨?v5_1, fun _ z => []⟩, ⟨?v6_1, fun _ z => []⟩, ⟨?v7_1, fun _ z => []⟩, ⟨?v8_1, fun _ z => []⟩, ⟨?v9_1, fun _ z => []⟩, ⟨?v10_1, fun _ z => []⟩, ⟨?v11_1, fun _ z => []⟩, ⟨?v12_1, fun _ z => []⟩, ⟨fun _ z => z, fun _ z => [fPure ((cellsL z).length = cs.length), fRow (cellsL z) (ys.set i ys[xs.length - 1 - i])]⟩, ⟨?v14_1, fun _ z => []⟩, ⟨fun _ z => z, fun _ z => [fPure ((cellsL z).length = cs.length), fRow (cellsL z) ((ys.set i ys[xs.length - 1 - i]).set (xs.length - 1 - i) ys[i])]⟩] [[], [], [], [], [], [], [4, 5], [6], [], [], [8, 9], [10], [0, 1], [7, 12], [2, 3], [11, 13, 14]] [15] (by kernel_rfl) (by kernel_rfl) (by kernel_rfl) (by kernel_rfl) ?loc_1 ?hz_1 ?ops_1 ?rest_1
      case ops_1 =>
        simp only [AllX, Nat.reduceAdd, and_true]
        refine ⟨?_, ?_, ?_, ?_, ?_, ?_, ?_, ?_, ?_, ?_, ?_, ?_, ?_, ?_, ?_, ?_⟩
        all_goals (intro D c z0 Φr Lr K hDi hAnc hDn hK; dsimp only [dstOf, dstX, putX, kval, kfac, ancE, ancX, ancF, getD_z, getD_s, List.getElem?_cons_zero, List.getElem?_cons_succ, List.getElem?_nil, Option.getD_some, Option.getD_none, List.nil_append, List.cons_append, Option.getD] at hK ⊢)
        iterate 6 (refine stp ?_; exact hK z0)
        · refine o_idxO rfl rfl rfl rfl (by omega) (by omega) (o' := xs.length - 1 - i) (by omega) ?_; exact hK z0
        · have h13 : D 13 = false := dnF hDn hDi (by kernel_rfl); have h15 : D 15 = false := dnF hDn hDi (by kernel_rfl); simp only [updD, h13, h15, Nat.reduceEqDiff, ↓reduceIte, cond_false] at hK ⊢; refine o_loadO (α := UInt8) (xs := ys) (xs.length - 1 - i) h2 rfl rfl rfl rfl (Nat.mul_one _).symm ?_; exact hK z0
        · refine stp ?_; exact hK z0
        · refine stp ?_; exact hK z0
        · refine o_idxO rfl rfl rfl rfl (by omega) (by omega) (o' := i) (by omega) ?_; exact hK z0
        · have h13 : D 13 = false := dnF hDn hDi (by kernel_rfl); have h15 : D 15 = false := dnF hDn hDi (by kernel_rfl); simp only [updD, h13, h15, Nat.reduceEqDiff, ↓reduceIte, cond_false] at hK ⊢; refine o_loadO (α := UInt8) (xs := ys) i h1 rfl rfl rfl rfl (Nat.mul_one _).symm ?_; exact hK z0
        · refine o_idxO rfl rfl rfl rfl (by omega) (by omega) (o' := i) (by omega) ?_; exact hK z0
        · have h15 : D 15 = false := dnF hDn hDi (by kernel_rfl); simp only [updD, updC, hDi, h15, Nat.reduceEqDiff, ↓reduceIte, cond_false, cond_true] at hK ⊢; refine o_storeO (α := UInt8) ys[xs.length - 1 - i] i h1 rfl rfl rfl ⟨fun _ _ => Rp.flat.2 rfl⟩ (Nat.mul_one _).symm ?_; intro cs1 hc1; refine G.learn (fPure ((cellsL (.agg cs1.toArray)).length = cs.length)) (e := ⟨fun _ _ => hc1⟩) ?_; exact hK (.agg cs1.toArray)
        · refine o_idxO rfl rfl rfl rfl (by omega) (by omega) (o' := xs.length - 1 - i) (by omega) ?_; exact hK z0
        · have h13 : D 13 = true := hAnc 13 (by kernel_rfl); simp only [updD, updC, hDi, h13, Nat.reduceEqDiff, ↓reduceIte, cond_false, cond_true] at hK ⊢; refine OpK.bare (G.use (p := (cellsL (c 13)).length = cs.length) (fun I hp => hp (fPure _) (by first | exact .head _ | exact .tail _ (.head _) | exact .tail _ (.tail _ (.head _)))) ?_); intro hc13; refine OpK.back ?_; refine o_storeO (α := UInt8) (xs := ys.set i ys[xs.length - 1 - i]) ys[i] (xs.length - 1 - i) (by simp; omega) rfl rfl rfl ⟨fun _ _ => Rp.flat.2 rfl⟩ (Nat.mul_one _).symm ?_; intro cs1 hc1; refine G.learn (fPure ((cellsL (.agg cs1.toArray)).length = cs.length)) (e := ⟨fun _ _ => hc1.trans hc13⟩) ?_; exact hK (.agg cs1.toArray)
      case hz_1 => intro c; rfl
      case loc_1 =>
        simp only [AllL, Nat.reduceAdd, and_true]
        refine ⟨?_, ?_, ?_, ?_, ?_, ?_, ?_, ?_, ?_, ?_, ?_, ?_, ?_, ?_, ?_, ?_⟩
        all_goals (intro c c' z h; first | exact ⟨rfl, rfl⟩ | (skip))
      intro c
      dsimp only [dstOf, dstX, putX, kval, kfac, ancE, ancX,  ancF, getD_z, getD_s, List.getElem?_cons_zero, List.getElem?_cons_succ, List.getElem?_nil, Option.getD_some, Option.getD_none, List.nil_append, List.cons_append, List.drop_succ_cons, List.drop_zero, Option.getD]
      refine LW.bare (G.use (p := (cellsL (c 15)).length = cs.length) (fun I hp => hp (fPure _) (.head _)) ?_)
      intro hc15
      repeat (first | (refine sty ?_; try intro _) | (refine st ?_; try intro _) | (refine stz ?_; try intro _) | (refine stq ?_; try intro _))
      refine G.again (S := RevSt8) ⟨i + 1, cellsL (c 15), (ys.set i ys[xs.length - 1 - i]).set (xs.length - 1 - i) ys[i]⟩ (by dsimp only; omega) ⟨by dsimp only; omega, by dsimp only; omega, hr.step (by omega) h1 h2⟩ inferInstance (look_sub_cons rfl (look_sub_cons rfl (look_sub_cons ?_ look_sub_nil))) (List.Sublist.refl _)
      exact congrArg (fun n => some (Value.int .i64 n)) (by dsimp only; omega)

theorem reversed8_spec (v : Value) (xs : List UInt8) (hx : xs.length ≤ 1000000) : FnD Tryz.prog 175 [v] [fRp v xs] (fun u => [fRp u xs.reverse]) := by
  refine Fn.enter Tryz.func175 rfl Tryz.ntmps175 (by simp) (fun I0 w0 => ?_)
  repeat (first | (refine sty ?_; try intro _) | (refine st ?_; try intro _) | (refine stz ?_; try intro _) | (refine stq ?_; try intro _))
  refine o_callO rfl rfl rfl rfl (clone8_spec v xs hx) ?_
  intro u o ho
  repeat (first | (refine sty ?_; try intro _) | (refine st ?_; try intro _) | (refine stz ?_; try intro _) | (refine stq ?_; try intro _))
  refine o_callI (Mr := []) o rfl rfl rfl rfl (reverse8_spec u xs o hx ho) (List.Perm.refl _) ?_
  intro r o' ho'
  repeat (first | (refine sty ?_; try intro _) | (refine st ?_; try intro _) | (refine stz ?_; try intro _) | (refine stq ?_; try intro _))
  refine G.giveOwn2 (Mr := []) u xs.reverse o' 5 ho' inferInstance (List.Perm.refl _) ?_
  exact G.ret rfl (.cons (.tmp rfl) .nil) (Φ' := [fRp u xs.reverse]) (M' := []) inferInstance (List.nil_sublist _) ⟨rfl, rfl⟩

theorem last8_spec (v : Value) (xs : List UInt8) (hx : xs.length ≤ 1000000) : FnD Tryz.prog 176 [v, .int .i64 32] [fRp v xs] (fun u => [fRp u (xs.drop (xs.length - 32))]) := by
  refine Fn.enter Tryz.func176 rfl Tryz.ntmps176 (by simp) (fun I0 w0 => ?_)
  refine W.bare (G.slice v xs ?_); intro ad cap e1 k1; subst e1
  refine G.code ?_
  repeat (first | (refine sty ?_; try intro _) | (refine st ?_; try intro _) | (refine stz ?_; try intro _) | (refine stq ?_; try intro _))
  refine o_slice (xs.length - 32) xs.length rfl rfl rfl ⟨_, _, rfl, by split <;> omega⟩ bd0 (by omega) (Nat.le_refl _) ?_
  intro u
  rw [List.take_length]
  repeat (first | (refine sty ?_; try intro _) | (refine st ?_; try intro _) | (refine stz ?_; try intro _) | (refine stq ?_; try intro _))
  exact G.retD rfl rfl
end Go.Rail
namespace Go.Rail
open Go Go.Proofs
set_option maxHeartbeats 400000
set_option maxRecDepth 4000
attribute [local irreducible] OpK G W LW wpListIn Exit.then Exit.inBlock Post rounds opRun bodyPostM intOp
set_option maxHeartbeats 4000000
theorem p64 (i : Nat) : (2 : Nat) ^ (64 * i) = 256 ^ (8 * i) := by
  have := Nat.pow_mul 2 8 (8 * i)
  rw [show 8 * (8 * i) = 64 * i from by omega] at this
  exact this
theorem dig_word {n i k : Nat} (hk : k < 8) : n / 2 ^ (64 * i) % 18446744073709551616 / 256 ^ k % 256 = dg n (8 * i + k) := by
  rw [show (18446744073709551616 : Nat) = 256 ^ 8 from rfl, dig_mod (by decide) hk, Nat.div_div_eq_div_mul, p64, ← Nat.pow_add]
theorem digitsN_spec (n : Nat) : Fn Tryz.prog 47 [.agg (numC 4 n).toArray] [] [] (ROwn 3 (rowN 32 (dg n))) := by
  refine Fn.enter Tryz.func47 rfl Tryz.ntmps47 (by simp) (fun I0 w0 => ?_)
  repeat (first | (refine sty ?_; try intro _) | (refine st ?_; try intro _) | (refine stz ?_; try intro _))
  rename_i b
  refine W.lp (S := Nat × Value × OR) (fun s => ([fRow (ocells s.2.2) (rowN (8 * s.1) (dg n))], [(4, .int .i64 (s.1 : Int)), (3, s.2.1), (1, .pointer (some ⟨b, 0, none⟩))], [(b, Ob (numC 4 n) 49)] ++ ownM 3 s.2.2)) (fun s => s.1 ≤ 4 ∧ IsOwn 1 s.2.1 (8 * s.1) s.2.2) (fun s => 4 - s.1) (0, .slice none 0 0, none) ?_ (h0 := ⟨Nat.zero_le _, rfl, rfl⟩) (hΦ := by dsimp only [Nat.mul_zero, rowN, rowZ_zero, ocells]; infer_instance) (hM := by (repeat (first | exact List.Sublist.refl _ | apply List.Sublist.cons_cons | apply List.Sublist.cons)))
  rintro ⟨i, v, o⟩ ⟨hi, hown⟩
  dsimp only [List.cons_append, List.nil_append] at hi hown ⊢
  by_cases hi4 : i = 4
  · subst hi4
    repeat (first | (refine sty ?_; try intro _) | (refine st ?_; try intro _) | (refine stz ?_; try intro _))
    exact G.ret rfl (.cons (.tmp rfl) .nil) (M' := ownM 3 o) inferInstance (List.Sublist.cons _ (List.Sublist.refl _)) ⟨o, by rw [rowZ_length]; exact hown, rfl, rfl⟩
  · repeat (first | (refine sty ?_; try intro _) | (refine st ?_; try intro _) | (refine stz ?_; try intro _))
    refine W.lp (S := Nat × Nat × Value × OR) (fun s => ([fRow (ocells s.2.2.2) (rowN (8 * i + s.1) (dg n))], [(6, .int .i64 (s.1 : Int)), (5, .int .u64 (s.2.1 : Int)), (4, .int .i64 (i : Int)), (3, s.2.2.1), (1, .pointer (some ⟨b, 0, none⟩))], [(b, Ob (numC 4 n) 49)] ++ ownM 3 s.2.2.2)) (fun s => s.1 ≤ 8 ∧ s.2.1 = n / 2 ^ (64 * i) % 18446744073709551616 / 256 ^ s.1 ∧ s.2.1 < 18446744073709551616 ∧ IsOwn 1 s.2.2.1 (8 * i + s.1) s.2.2.2) (fun s => 8 - s.1) (0, n / 2 ^ (64 * i) % 18446744073709551616, v, o) ?_ (h0 := ⟨Nat.zero_le _, by simp, Nat.mod_lt _ (by decide), hown⟩)
    rintro ⟨k, x, w, p⟩ ⟨hk, hx, hx64, hown2⟩
    dsimp only [List.cons_append, List.nil_append] at hk hx hx64 hown2 ⊢
    by_cases hk8 : k = 8
    · subst hk8
      repeat (first | (refine sty ?_; try intro _) | (refine st ?_; try intro _) | (refine stz ?_; try intro _))
      exact G.ag (S := Nat × Value × OR) (i + 1, w, p) (hpre := ⟨by dsimp only; omega, hown2⟩)
    · have hd := dig_word (n := n) (i := i) (k := k) (by omega)
      rw [← hx] at hd
      have hd2 := rowZ_succ (8 * i + k) (fun i => ((dg n i : Nat) : Int))
      rw [← hd] at hd2
      have hx2 : x / 256 = n / 2 ^ (64 * i) % 18446744073709551616 / 256 ^ (k + 1) := by rw [hx, Nat.div_div_eq_div_mul, Nat.pow_succ]
      repeat (first | (refine sty ?_; try intro _) | (refine st ?_; try intro _) | (refine stz ?_; try intro _))
      refine o_app2 (Mr := [(b, Ob (numC 4 n) 49)]) p (xs := rowN (8 * i + k) (dg n)) (ys := [((x % 256 : Nat) : Int)]) (by rw [rowZ_length]; exact hown2) ⟨by simp [rowZ_length]; omega, by simp [rowZ_length]; omega, rfl⟩ rfl rfl rfl rfl inferInstance inferInstance (List.Perm.refl _) ?_
      intro w' p' hown'
      rw [← hd2] at hown' ⊢
      rw [rowZ_length] at hown'
      dsimp only [List.cons_append, List.nil_append]
      repeat (first | (refine sty ?_; try intro _) | (refine st ?_; try intro _) | (refine stz ?_; try intro _))
      exact G.ag (S := Nat × Nat × Value × OR) (k + 1, x / 256, w', p') (hpre := ⟨by dsimp only; omega, hx2, by dsimp only; omega, hown'⟩)
end Go.Rail
namespace Go.Rail
open Go Go.Proofs
set_option maxHeartbeats 400000
set_option maxRecDepth 4000
attribute [local irreducible] OpK G W LW wpListIn Exit.then Exit.inBlock Post rounds opRun bodyPostM intOp
set_option maxHeartbeats 4000000
def stF (g : Nat → Nat) (s j : Nat) : Nat := sumB 256 (fun k => g (max s (8 * j) + k)) (8 * j + 8 - max s (8 * j))
theorem stF_step (g : Nat → Nat) (m : Nat) : stF g m = fun j => if j = m / 8 then stF g (m + 1) (m / 8) * 256 + g m else stF g (m + 1) j := by
  funext j
  by_cases h : j = m / 8
  · subst h
    rw [if_pos rfl]
    unfold stF
    rw [Nat.max_eq_left (by omega), Nat.max_eq_left (by omega), show 8 * (m / 8) + 8 - m = 1 + (8 * (m / 8) + 8 - (m + 1)) from by omega, sumB_split]
    simp only [sumB, Nat.pow_zero, Nat.mul_one, Nat.zero_add, Nat.pow_one, Nat.add_zero]
    rw [Nat.add_comm, Nat.mul_comm]
    congr 2
    exact sumB_congr (fun i _ => by rw [show m + (1 + i) = m + 1 + i from by omega])
  · rw [if_neg h]
    unfold stF
    by_cases h2 : m / 8 < j
    · rw [Nat.max_eq_right (by omega), Nat.max_eq_right (by omega)]
    · rw [show 8 * j + 8 - max m (8 * j) = 0 from by omega, show 8 * j + 8 - max (m + 1) (8 * j) = 0 from by omega]; rfl
theorem stF_lt {g : Nat → Nat} (hg : ∀ i < 32, g i < 256) {s j : Nat} (hj : j < 4) : stF g s j < 256 ^ (8 * j + 8 - max s (8 * j)) := by
  unfold stF
  refine sumB_lt (by decide) (fun i hi => hg _ (by omega))
theorem pow_le7 {n : Nat} (h : n ≤ 7) : (256 : Nat) ^ n ≤ 72057594037927936 := Nat.pow_le_pow_right (n := 256) (by decide) h
theorem stF_word (g : Nat → Nat) (hg : ∀ i < 32, g i < 256) : .agg (cU 4 (stF g 0)).toArray = (Word.nat (sumB 256 g 32)).v := by
  have h0 := stF_lt hg (s := 0) (j := 0) (by decide)
  have h1 := stF_lt hg (s := 0) (j := 1) (by decide)
  have h2 := stF_lt hg (s := 0) (j := 2) (by decide)
  have h3 := stF_lt hg (s := 0) (j := 3) (by decide)
  have hl := sumB_lt (b := 256) (by decide) hg
  refine Word.v_nat ?_ h0 h1 h2 h3
  rw [Nat.mod_eq_of_lt (Nat.lt_of_lt_of_eq hl (by kernel_rfl)), show (32 : Nat) = 8 + 24 from rfl, sumB_split, show (24 : Nat) = 8 + 16 from rfl, sumB_split, show (16 : Nat) = 8 + 8 from rfl, sumB_split]
  simp only [stF, Nat.mul_zero, Nat.max_self, Nat.zero_add, Nat.sub_zero, Nat.mul_one, Nat.zero_max, Nat.reduceMul, Nat.reduceAdd, Nat.reduceSub, Nat.reducePow, Nat.max_eq_right (Nat.zero_le _)]
  simp only [← Nat.add_assoc, Nat.reduceAdd]
  have e : sumB 256 (fun k => g k) 8 = sumB 256 g 8 := rfl
  rw [e]
  omega
def iV (s : Nat) : Value := match s with
  | 0 => .int .i64 (-1)
  | m + 1 => .int .i64 (m : Int)
theorem fromDigits_spec (v : Value) (g : Nat → Nat) (hg : ∀ i < 32, g i < 256) : FnV Tryz.prog 80 [v] [fRp v (rowN 32 g)] (Word.nat (sumB 256 g 32)).v := by
  refine Fn.enter Tryz.func80 rfl Tryz.ntmps80 (by simp) (fun I0 w0 => ?_)
  refine W.bare (G.slice v (rowN 32 g) ?_); intro a1 c1 e1 k1; subst e1
  rw [rowZ_length] at k1 ⊢
  refine G.code ?_
  repeat (first | (refine sty ?_; try intro _) | (refine st ?_; try intro _) | (refine stz ?_; try intro _))
  rename_i b2 b3
  refine W.lp (fun (s : Nat) => ([fRp (.slice a1 32 c1) (rowN 32 g)], [(4, iV s), (3, .pointer (some ⟨b3, 0, none⟩)), (2, .pointer (some ⟨b2, 0, none⟩)), (0, .slice a1 32 c1)], [(b3, Ob (cU 4 (stF g s)) 49), (b2, Ob Word.zero.cells 49)])) (fun s => s ≤ 32) (fun s => s) 32 ?_
  intro s hs
  dsimp only
  cases s with
  | zero =>
    dsimp only [iV]
    repeat (first | (refine sty ?_; try intro _) | (refine st ?_; try intro _) | (refine stz ?_; try intro _))
    refine G.retV ?_
    exact stF_word g hg
  | succ m =>
    dsimp only [iV]
    have h1 := stF_lt hg (s := m + 1) (j := m / 8) (by omega)
    have h2 := hg m (by omega)
    have h3 := pow_le7 (n := 8 * (m / 8) + 8 - (m + 1)) (by omega)
    rw [Nat.max_eq_left (by omega)] at h1
    repeat (first | (refine sty ?_; try intro _) | (refine st ?_; try intro _) | (refine stz ?_; try intro _))
    refine W.drawA 13 [dq _, dq _, dq _, dq _, dq _, dq _, dq _, dq _, dq _, dk _, dq _, dq _, dq _] [[], [0], [], [2], [3], [4], [5], [], [], [7,8], [9], [10], [6,11]] [1, 12] (hrest := fun c => nrm ?_) (hops := by
      iterate 13 refine AllQ.az ?_
      exact AllQ.nil)
    repeat (first | (refine sty ?_; try intro _) | (refine st ?_; try intro _) | (refine stz ?_; try intro _))
    rw [← stF_step]
    repeat (first | (refine sty ?_; try intro _) | (refine st ?_; try intro _) | (refine stz ?_; try intro _))
    cases m with
    | zero => exact G.ag 0
    | succ m =>
      rw [show ((m + 1 : Nat) : Int) - 1 = (m : Int) from by omega]
      exact G.ag (m + 1)
theorem carried_spec (v : Value) (f : Nat → Int) (hf : ∀ i < 32, -4503599627370496 ≤ f i ∧ f i ≤ 4503599627370496) : FnD Tryz.prog 277 [v] [fRp v (rowZ 32 f)] (fun u => [fRp u (rowN 32 (cD f))]) := by
  refine Fn.enter Tryz.func277 rfl Tryz.ntmps277 (by simp) (fun I0 w0 => ?_)
  refine W.bare (G.slice v (rowZ 32 f) ?_); intro a1 c1 e1 k1; subst e1
  rw [rowZ_length] at k1 ⊢
  refine G.code ?_
  repeat (first | (refine sty ?_; try intro _) | (refine st ?_; try intro _) | (refine stz ?_; try intro _))
  refine W.lp (S := Nat × Value × OR) (fun s => ([fRow (ocells s.2.2) (rowN s.1 (cD f)), fRp (.slice a1 32 c1) (rowZ 32 f)], [(5, .int .i64 (s.1 : Int)), (4, .int .i64 (cR f s.1)), (3, s.2.1), (0, .slice a1 32 c1)], ownM 3 s.2.2)) (fun s => s.1 ≤ 32 ∧ IsOwn 1 s.2.1 s.1 s.2.2) (fun s => 32 - s.1) (0, .slice none 0 0, none) ?_ (h0 := ⟨Nat.zero_le _, rfl, rfl⟩)
  rintro ⟨i, w, o⟩ ⟨hi, hown⟩
  dsimp only at hi hown ⊢
  by_cases hi32 : i = 32
  · subst hi32
    refine W.bare (G.giveOwn2 (Mr := []) w (rowN 32 (cD f)) o 3 (by rw [rowZ_length]; exact hown) inferInstance (List.Perm.refl _) ?_)
    refine G.code ?_
    repeat (first | (refine sty ?_; try intro _) | (refine st ?_; try intro _) | (refine stz ?_; try intro _))
    exact G.retD rfl rfl
  · have h1 := hf i (by omega)
    have h2 := cR_le (f := f) (B := 4503599627370496) (by decide) (n := i) (fun j hj => hf j (by omega))
    obtain ⟨n, hn⟩ : ∃ n, n = f i + cR f i := ⟨_, rfl⟩
    have hc1 : cR f (i + 1) = n / 256 := by rw [hn]; rfl
    have hd1 : ((cD f i : Nat) : Int) = n % 256 := by unfold cD; rw [hn]; omega
    have hs : rowN (i + 1) (cD f) = rowN i (cD f) ++ [n % 256] := by rw [rowN, rowZ_succ, hd1]
    have hq : intOp .quo .i64 (n - n % 256) 256 = some (.int .i64 (cR f (i + 1))) := by
      have e : (n - n % 256).tdiv 256 = n / 256 := by
        rw [show n - n % 256 = 256 * (n / 256) from by omega, Int.mul_tdiv_cancel_left _ (by decide)]
      rw [i_quoI (by decide) (by rw [e]; omega) (by rw [e]; omega), e, hc1]
    repeat (first | (refine sty ?_; try intro _) | (refine st ?_; try intro _) | (refine stz ?_; try intro _))
    rw [← hn]
    by_cases h0 : 0 ≤ n
    · rw [Int.tmod_eq_emod_of_nonneg h0]
      repeat (first | (refine sty ?_; try intro _) | (refine st ?_; try intro _) | (refine stz ?_; try intro _))
      refine o_app2 (Mr := []) o (xs := rowN i (cD f)) (ys := [n % 256]) (by rw [rowZ_length]; exact hown) ⟨by simp [rowZ_length]; omega, by simp [rowZ_length]; omega, rfl⟩ rfl rfl rfl rfl inferInstance inferInstance (List.Perm.refl _) ?_
      intro w' o' hown'
      rw [← hs] at hown' ⊢
      rw [rowZ_length] at hown'
      dsimp only [List.nil_append]
      repeat (first | (refine sty ?_; try intro _) | (refine st ?_; try intro _) | (refine stz ?_; try intro _))
      refine o_int rfl rfl rfl rfl hq ?_
      repeat (first | (refine sty ?_; try intro _) | (refine st ?_; try intro _) | (refine stz ?_; try intro _))
      exact G.ag (S := Nat × Value × OR) (i + 1, w', o') (hpre := ⟨by dsimp only; omega, hown'⟩)
    · have e : n.tmod 256 = -((-n) % 256) := by
        rw [← Int.tmod_eq_emod_of_nonneg (a := -n) (by omega), ← Int.neg_tmod, Int.neg_neg]
      rw [e]
      by_cases h7 : -((-n) % 256) < 0
      · repeat (first | (refine sty ?_; try intro _) | (refine st ?_; try intro _) | (refine stz ?_; try intro _))
        rw [show -((-n) % 256) + 256 = n % 256 from by omega]
        refine o_app2 (Mr := []) o (xs := rowN i (cD f)) (ys := [n % 256]) (by rw [rowZ_length]; exact hown) ⟨by simp [rowZ_length]; omega, by simp [rowZ_length]; omega, rfl⟩ rfl rfl rfl rfl inferInstance inferInstance (List.Perm.refl _) ?_
        intro w' o' hown'
        rw [← hs] at hown' ⊢
        rw [rowZ_length] at hown'
        dsimp only [List.nil_append]
        repeat (first | (refine sty ?_; try intro _) | (refine st ?_; try intro _) | (refine stz ?_; try intro _))
        refine o_int rfl rfl rfl rfl hq ?_
        repeat (first | (refine sty ?_; try intro _) | (refine st ?_; try intro _) | (refine stz ?_; try intro _))
        exact G.ag (S := Nat × Value × OR) (i + 1, w', o') (hpre := ⟨by dsimp only; omega, hown'⟩)
      · rw [show -((-n) % 256) = n % 256 from by omega]
        repeat (first | (refine sty ?_; try intro _) | (refine st ?_; try intro _) | (refine stz ?_; try intro _))
        refine o_app2 (Mr := []) o (xs := rowN i (cD f)) (ys := [n % 256]) (by rw [rowZ_length]; exact hown) ⟨by simp [rowZ_length]; omega, by simp [rowZ_length]; omega, rfl⟩ rfl rfl rfl rfl inferInstance inferInstance (List.Perm.refl _) ?_
        intro w' o' hown'
        rw [← hs] at hown' ⊢
        rw [rowZ_length] at hown'
        dsimp only [List.nil_append]
        repeat (first | (refine sty ?_; try intro _) | (refine st ?_; try intro _) | (refine stz ?_; try intro _))
        refine o_int rfl rfl rfl rfl hq ?_
        repeat (first | (refine sty ?_; try intro _) | (refine st ?_; try intro _) | (refine stz ?_; try intro _))
        exact G.ag (S := Nat × Value × OR) (i + 1, w', o') (hpre := ⟨by dsimp only; omega, hown'⟩)
end Go.Rail
