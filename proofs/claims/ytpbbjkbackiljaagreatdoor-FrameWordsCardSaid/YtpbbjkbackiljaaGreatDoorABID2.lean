/- Bytes turned about; words out of bytes, as the program has them. -/
import Derived.Test.YtpbbjkbackiljaaGreatDoorABH
import Derived.Test.YtpbbjkbackiljaaGreatDoorAEqMul
import Derived.Test.YtpbbjkbackiljaaGreatDoorRailH
set_option linter.unusedSimpArgs false
set_option linter.unusedVariables false
namespace Go.Rail
open Go Go.Proofs
set_option maxHeartbeats 400000
set_option maxRecDepth 4000
attribute [local irreducible] OpK G W LW wpListIn Exit.then Exit.inBlock Post rounds opRun bodyPostM intOp
set_option maxHeartbeats 4000000
theorem clone8_spec (v : Value) (xs : List UInt8) (hx : xs.length ≤ 1000000) : Fn Tryz.prog 258 [v] [fRp v xs] [] (ROwn 5 xs) := by
  refine Fn.enter Tryz.func258 rfl Tryz.ntmps258 (by simp) (fun I0 w0 => ?_)
  refine W.bare (G.sliceN v xs ?_)
  intro a cap hv hc hnil
  subst hv
  cases a with
  | none =>
    have hx0 := hnil rfl
    subst hx0
    repeat (first | (refine sty ?_; try intro _) | (refine st ?_; try intro _) | (refine stz ?_; try intro _) | (refine stq ?_; try intro _))
    refine o_eqNil rfl rfl rfl rfl rfl ?_
    repeat (first | (refine sty ?_; try intro _) | (refine st ?_; try intro _) | (refine stz ?_; try intro _) | (refine stq ?_; try intro _))
    exact G.ret rfl (.cons (.tmp rfl) .nil) inferInstance (List.nil_sublist _) ⟨none, ⟨rfl, rfl⟩, rfl, rfl⟩
  | some ad =>
    repeat (first | (refine sty ?_; try intro _) | (refine st ?_; try intro _) | (refine stz ?_; try intro _) | (refine stq ?_; try intro _))
    refine o_eqNil rfl rfl rfl rfl rfl ?_
    repeat (first | (refine sty ?_; try intro _) | (refine st ?_; try intro _) | (refine stz ?_; try intro _) | (refine stq ?_; try intro _))
    refine o_litM (xs := xs.take 0) ⟨by simp, rfl, by decide⟩ rfl rfl rfl RpL.nil rfl ?_
    intro b cs hcs
    repeat (first | (refine sty ?_; try intro _) | (refine st ?_; try intro _) | (refine stz ?_; try intro _) | (refine stq ?_; try intro _))
    refine o_app2 (Mr := []) (some (b, cs)) (xs := xs.take 0) (ys := xs) ⟨0, rfl, by simpa using hcs, by simp⟩ ⟨by simp; omega, by simp; omega, rfl⟩ rfl rfl rfl rfl (show Ent' _ (fRow cs (xs.take 0)) from inferInstance) inferInstance (List.Perm.refl _) ?_
    intro v' o' hown'
    rw [show xs.take 0 ++ xs = xs from rfl] at hown' ⊢
    repeat (first | (refine sty ?_; try intro _) | (refine st ?_; try intro _) | (refine stz ?_; try intro _) | (refine stq ?_; try intro _))
    exact G.ret rfl (.cons (.tmp rfl) .nil) inferInstance (List.Sublist.refl _) ⟨o', hown', rfl, rfl⟩
structure RevSt8 where
  i : Nat
  cs : List Value
  ys : List UInt8
def RevAt8 (xs ys : List UInt8) (i : Nat) : Prop := ys.length = xs.length ∧ ∀ k, k < xs.length → ys[k]? = if k < i ∨ xs.length - i ≤ k then xs[xs.length - 1 - k]? else xs[k]?
theorem RevAt8.step {xs ys : List UInt8} {i : Nat} (h : RevAt8 xs ys i) (hi : 2 * i + 1 < xs.length) (h1 : i < ys.length) (h2 : xs.length - 1 - i < ys.length) : RevAt8 xs ((ys.set i ys[xs.length - 1 - i]).set (xs.length - 1 - i) ys[i]) (i + 1) := by
  obtain ⟨hl, h⟩ := h
  refine ⟨by simp [hl], fun k hk => ?_⟩
  have e1 := h i (by omega)
  have e2 := h (xs.length - 1 - i) (by omega)
  rw [if_neg (by omega), List.getElem?_eq_getElem h1] at e1
  rw [if_neg (by omega), List.getElem?_eq_getElem h2] at e2
  by_cases a : k = xs.length - 1 - i
  · subst a
    rw [List.getElem?_set_self (by simp; omega), if_pos (by omega), e1]
    congr 1; omega
  · rw [List.getElem?_set_ne (Ne.symm a)]
    by_cases c : k = i
    · subst c
      rw [List.getElem?_set_self h1, if_pos (by omega), e2]
    · rw [List.getElem?_set_ne (Ne.symm c), h k hk]
      by_cases q : k < i ∨ xs.length - i ≤ k
      · rw [if_pos q, if_pos (by omega)]
      · rw [if_neg q, if_neg (by omega)]
theorem RevAt8.done {xs ys : List UInt8} {i : Nat} (h : RevAt8 xs ys i) (hi : xs.length ≤ 2 * i + 1) (hi2 : i ≤ xs.length) : ys = xs.reverse := by
  obtain ⟨hl, h⟩ := h
  apply List.ext_getElem?
  intro k
  by_cases hk : k < xs.length
  · rw [h k hk, List.getElem?_reverse hk]
    by_cases q : k < i ∨ xs.length - i ≤ k
    · rw [if_pos q]
    · rw [if_neg q]; congr 1; omega
  · rw [List.getElem?_eq_none (by omega), List.getElem?_eq_none (by simp; omega)]
theorem reverse8_spec (v : Value) (xs : List UInt8) (o : OR) (hx : xs.length ≤ 1000000) (ho : IsOwn 1 v xs.length o) : Fn Tryz.prog 259 [v] [fRow (ocells o) xs] (ownM 5 o) (RIn 5 v xs.reverse) := by
  cases o with
  | none =>
    obtain ⟨rfl, hx0⟩ := ho
    have hxs : xs = [] := List.length_eq_zero_iff.1 hx0
    subst hxs
    refine Fn.enter Tryz.func259 rfl Tryz.ntmps259 (by simp) (fun I0 w0 => ?_)
    repeat (first | (refine sty ?_; try intro _) | (refine st ?_; try intro _) | (refine stz ?_; try intro _) | (refine stq ?_; try intro _))
    refine W.loopN 1 ?_
    repeat (first | (refine sty ?_; try intro _) | (refine st ?_; try intro _) | (refine stz ?_; try intro _) | (refine stq ?_; try intro _))
    exact G.fin rfl .nil (Φ' := [fRow [] ([] : List UInt8)]) inferInstance (List.nil_sublist _) ⟨none, ⟨rfl, rfl⟩, rfl, rfl⟩
  | some q =>
    obtain ⟨b, cs0⟩ := q
    obtain ⟨cap, rfl, hcs0, hcap⟩ := ho
    refine Fn.enter Tryz.func259 rfl Tryz.ntmps259 (by simp) (fun I0 w0 => ?_)
    repeat (first | (refine sty ?_; try intro _) | (refine st ?_; try intro _) | (refine stz ?_; try intro _) | (refine stq ?_; try intro _))
    refine W.loopI (fun (s : RevSt8) => ([fRow s.cs s.ys], [(0, .slice (some ⟨b, 0, none⟩) xs.length cap), (2, .int .i64 s.i), (3, .int .i64 ((xs.length : Int) - 1 - s.i))], [(b, Ob s.cs 5)])) (fun s => s.i ≤ xs.length ∧ s.cs.length = cs0.length ∧ RevAt8 xs s.ys s.i) (fun s => xs.length - s.i) ⟨0, cs0, xs⟩ ⟨by simp, rfl, rfl, fun k hk => by rw [if_neg (by dsimp only; omega)]⟩ ⟨fun I hp φ hφ => ?_⟩ (look_sub_cons rfl (look_sub_cons rfl (look_sub_cons ?_ look_sub_nil))) (List.Sublist.refl _) ?_
    · rcases List.mem_cons.1 hφ with rfl | h
      · exact hp _ (.head _)
      · cases h
    · exact congrArg (fun n => some (Value.int .i64 n)) (by dsimp only; omega)
    rintro ⟨i, cs, ys⟩ ⟨hi, hcs, hr⟩
    dsimp only at hi hcs hr ⊢
    have hl := hr.1
    by_cases hd : xs.length ≤ 2 * i + 1
    · repeat (first | (refine sty ?_; try intro _) | (refine st ?_; try intro _) | (refine stz ?_; try intro _) | (refine stq ?_; try intro _))
      have e := hr.done hd hi
      subst e
      exact G.fin rfl .nil (Φ' := [fRow cs xs.reverse]) inferInstance (List.Sublist.refl _) ⟨some (b, cs), ⟨cap, by simp, by rw [hcs]; exact hcs0, by simpa using hcap⟩, rfl, rfl⟩
    · have h1 : i < ys.length := by omega
      have h2 : xs.length - 1 - i < ys.length := by omega
      repeat (first | (refine sty ?_; try intro _) | (refine st ?_; try intro _) | (refine stz ?_; try intro _) | (refine stq ?_; try intro _))
      refine W.drawX 16 (fun D c => [(b, Ob (bif D 15 then cellsL (c 15) else bif D 13 then cellsL (c 13) else cs) 5)]) [⟨?v0_1, fun _ z => []⟩, ⟨?v1_1, fun _ z => []⟩, ⟨?v2_1, fun _ z => []⟩, ⟨?v3_1, fun _ z => []⟩, ⟨?v4_1, fun _ z => []⟩, ⟨?v5_1, fun _ z => []⟩, ⟨?v6_1, fun _ z => []⟩, ⟨?v7_1, fun _ z => []⟩, ⟨?v8_1, fun _ z => []⟩, ⟨?v9_1, fun _ z => []⟩, ⟨?v10_1, fun _ z => []⟩, ⟨?v11_1, fun _ z => []⟩, ⟨?v12_1, fun _ z => []⟩, ⟨fun _ z => z, fun _ z => [fPure ((cellsL z).length = cs.length), fRow (cellsL z) (ys.set i ys[xs.length - 1 - i])]⟩, ⟨?v14_1, fun _ z => []⟩, ⟨fun _ z => z, fun _ z => [fPure ((cellsL z).length = cs.length), fRow (cellsL z) ((ys.set i ys[xs.length - 1 - i]).set (xs.length - 1 - i) ys[i])]⟩] [[], [], [], [], [], [], [4, 5], [6], [], [], [8, 9], [10], [0, 1], [7, 12], [2, 3], [11, 13, 14]] [15] (by kernel_rfl) (by kernel_rfl) (by kernel_rfl) (by kernel_rfl) ?loc_1 ?hz_1 ?ops_1 ?rest_1
      case ops_1 =>
        simp only [AllX, Nat.reduceAdd, and_true]
        refine ⟨?_, ?_, ?_, ?_, ?_, ?_, ?_, ?_, ?_, ?_, ?_, ?_, ?_, ?_, ?_, ?_⟩
        all_goals (intro D c z0 Φr Lr K hDi hAnc hDn hK; dsimp only [dstOf, dstX, putX, kval, kfac, ancE, ancX, ancF, getD_z, getD_s, List.getElem?_cons_zero, List.getElem?_cons_succ, List.getElem?_nil, Option.getD_some, Option.getD_none, List.nil_append, List.cons_append, Option.getD] at hK ⊢)
        iterate 6 (refine stp ?_; exact hK z0)
        · refine o_idxO rfl rfl rfl rfl (by omega) (by omega) (o' := xs.length - 1 - i) (by omega) ?_; exact hK z0
        · have h13 : D 13 = false := dnF hDn hDi (by kernel_rfl); have h15 : D 15 = false := dnF hDn hDi (by kernel_rfl); simp only [updD, h13, h15, Nat.reduceEqDiff, ↓reduceIte, cond_false] at hK ⊢; refine o_loadO (α := UInt8) (xs := ys) (xs.length - 1 - i) h2 rfl rfl rfl rfl (Nat.mul_one _).symm ?_; exact hK z0
        · refine stp ?_; exact hK z0
        · refine stp ?_; exact hK z0
        · refine o_idxO rfl rfl rfl rfl (by omega) (by omega) (o' := i) (by omega) ?_; exact hK z0
        · have h13 : D 13 = false := dnF hDn hDi (by kernel_rfl); have h15 : D 15 = false := dnF hDn hDi (by kernel_rfl); simp only [updD, h13, h15, Nat.reduceEqDiff, ↓reduceIte, cond_false] at hK ⊢; refine o_loadO (α := UInt8) (xs := ys) i h1 rfl rfl rfl rfl (Nat.mul_one _).symm ?_; exact hK z0
        · refine o_idxO rfl rfl rfl rfl (by omega) (by omega) (o' := i) (by omega) ?_; exact hK z0
        · have h15 : D 15 = false := dnF hDn hDi (by kernel_rfl); simp only [updD, updC, hDi, h15, Nat.reduceEqDiff, ↓reduceIte, cond_false, cond_true] at hK ⊢; refine o_storeO (α := UInt8) ys[xs.length - 1 - i] i h1 rfl rfl rfl ⟨fun _ _ => Rp.flat.2 rfl⟩ (Nat.mul_one _).symm ?_; intro cs1 hc1; refine G.learn (fPure ((cellsL (.agg cs1.toArray)).length = cs.length)) (e := ⟨fun _ _ => hc1⟩) ?_; exact hK (.agg cs1.toArray)
        · refine o_idxO rfl rfl rfl rfl (by omega) (by omega) (o' := xs.length - 1 - i) (by omega) ?_; exact hK z0
        · have h13 : D 13 = true := hAnc 13 (by kernel_rfl); simp only [updD, updC, hDi, h13, Nat.reduceEqDiff, ↓reduceIte, cond_false, cond_true] at hK ⊢; refine OpK.bare (G.use (p := (cellsL (c 13)).length = cs.length) (fun I hp => hp (fPure _) (by first | exact .head _ | exact .tail _ (.head _) | exact .tail _ (.tail _ (.head _)))) ?_); intro hc13; refine OpK.back ?_; refine o_storeO (α := UInt8) (xs := ys.set i ys[xs.length - 1 - i]) ys[i] (xs.length - 1 - i) (by simp; omega) rfl rfl rfl ⟨fun _ _ => Rp.flat.2 rfl⟩ (Nat.mul_one _).symm ?_; intro cs1 hc1; refine G.learn (fPure ((cellsL (.agg cs1.toArray)).length = cs.length)) (e := ⟨fun _ _ => hc1.trans hc13⟩) ?_; exact hK (.agg cs1.toArray)
      case hz_1 => intro c; rfl
      case loc_1 =>
        simp only [AllL, Nat.reduceAdd, and_true]
        refine ⟨?_, ?_, ?_, ?_, ?_, ?_, ?_, ?_, ?_, ?_, ?_, ?_, ?_, ?_, ?_, ?_⟩
        all_goals (intro c c' z h; first | exact ⟨rfl, rfl⟩ | (skip))
      intro c
      dsimp only [dstOf, dstX, putX, kval, kfac, ancE, ancX,  ancF, getD_z, getD_s, List.getElem?_cons_zero, List.getElem?_cons_succ, List.getElem?_nil, Option.getD_some, Option.getD_none, List.nil_append, List.cons_append, List.drop_succ_cons, List.drop_zero, Option.getD]
      refine LW.bare (G.use (p := (cellsL (c 15)).length = cs.length) (fun I hp => hp (fPure _) (.head _)) ?_)
      intro hc15
      repeat (first | (refine sty ?_; try intro _) | (refine st ?_; try intro _) | (refine stz ?_; try intro _) | (refine stq ?_; try intro _))
      refine G.again (S := RevSt8) ⟨i + 1, cellsL (c 15), (ys.set i ys[xs.length - 1 - i]).set (xs.length - 1 - i) ys[i]⟩ (by dsimp only; omega) ⟨by dsimp only; omega, by dsimp only; omega, hr.step (by omega) h1 h2⟩ inferInstance (look_sub_cons rfl (look_sub_cons rfl (look_sub_cons ?_ look_sub_nil))) (List.Sublist.refl _)
      exact congrArg (fun n => some (Value.int .i64 n)) (by dsimp only; omega)

theorem reversed8_spec (v : Value) (xs : List UInt8) (hx : xs.length ≤ 1000000) : FnD Tryz.prog 175 [v] [fRp v xs] (fun u => [fRp u xs.reverse]) := by
  refine Fn.enter Tryz.func175 rfl Tryz.ntmps175 (by simp) (fun I0 w0 => ?_)
  repeat (first | (refine sty ?_; try intro _) | (refine st ?_; try intro _) | (refine stz ?_; try intro _) | (refine stq ?_; try intro _))
  refine o_callO rfl rfl rfl rfl (clone8_spec v xs hx) ?_
  intro u o ho
  repeat (first | (refine sty ?_; try intro _) | (refine st ?_; try intro _) | (refine stz ?_; try intro _) | (refine stq ?_; try intro _))
  refine o_callI (Mr := []) o rfl rfl rfl rfl (reverse8_spec u xs o hx ho) (List.Perm.refl _) ?_
  intro r o' ho'
  repeat (first | (refine sty ?_; try intro _) | (refine st ?_; try intro _) | (refine stz ?_; try intro _) | (refine stq ?_; try intro _))
  refine G.giveOwn2 (Mr := []) u xs.reverse o' 5 ho' inferInstance (List.Perm.refl _) ?_
  exact G.ret rfl (.cons (.tmp rfl) .nil) (Φ' := [fRp u xs.reverse]) (M' := []) inferInstance (List.nil_sublist _) ⟨rfl, rfl⟩

theorem last8_spec (v : Value) (xs : List UInt8) (hx : xs.length ≤ 1000000) : FnD Tryz.prog 176 [v, .int .i64 32] [fRp v xs] (fun u => [fRp u (xs.drop (xs.length - 32))]) := by
  refine Fn.enter Tryz.func176 rfl Tryz.ntmps176 (by simp) (fun I0 w0 => ?_)
  refine W.bare (G.slice v xs ?_); intro ad cap e1 k1; subst e1
  refine G.code ?_
  repeat (first | (refine sty ?_; try intro _) | (refine st ?_; try intro _) | (refine stz ?_; try intro _) | (refine stq ?_; try intro _))
  refine o_slice (xs.length - 32) xs.length rfl rfl rfl ⟨_, _, rfl, by split <;> omega⟩ bd0 (by omega) (Nat.le_refl _) ?_
  intro u
  rw [List.take_length]
  repeat (first | (refine sty ?_; try intro _) | (refine st ?_; try intro _) | (refine stz ?_; try intro _) | (refine stq ?_; try intro _))
  exact G.retD rfl rfl
end Go.Rail
namespace Go.Rail
open Go Go.Proofs
set_option maxHeartbeats 400000
set_option maxRecDepth 4000
attribute [local irreducible] OpK G W LW wpListIn Exit.then Exit.inBlock Post rounds opRun bodyPostM intOp
set_option maxHeartbeats 4000000
def stF (g : Nat → Nat) (s j : Nat) : Nat := sumB 256 (fun k => g (max s (8 * j) + k)) (8 * j + 8 - max s (8 * j))
theorem stF_step (g : Nat → Nat) (m : Nat) : stF g m = fun j => if j = m / 8 then stF g (m + 1) (m / 8) * 256 + g m else stF g (m + 1) j := by
  funext j
  by_cases h : j = m / 8
  · subst h
    rw [if_pos rfl]
    unfold stF
    rw [Nat.max_eq_left (by omega), Nat.max_eq_left (by omega), show 8 * (m / 8) + 8 - m = 1 + (8 * (m / 8) + 8 - (m + 1)) from by omega, sumB_split]
    simp only [sumB, Nat.pow_zero, Nat.mul_one, Nat.zero_add, Nat.pow_one, Nat.add_zero]
    rw [Nat.add_comm, Nat.mul_comm]
    congr 2
    exact sumB_congr (fun i _ => by rw [show m + (1 + i) = m + 1 + i from by omega])
  · rw [if_neg h]
    unfold stF
    by_cases h2 : m / 8 < j
    · rw [Nat.max_eq_right (by omega), Nat.max_eq_right (by omega)]
    · rw [show 8 * j + 8 - max m (8 * j) = 0 from by omega, show 8 * j + 8 - max (m + 1) (8 * j) = 0 from by omega]; rfl
theorem stF_lt {g : Nat → Nat} (hg : ∀ i < 32, g i < 256) {s j : Nat} (hj : j < 4) : stF g s j < 256 ^ (8 * j + 8 - max s (8 * j)) := by
  unfold stF
  refine sumB_lt (by decide) (fun i hi => hg _ (by omega))
theorem pow_le7 {n : Nat} (h : n ≤ 7) : (256 : Nat) ^ n ≤ 72057594037927936 := Nat.pow_le_pow_right (n := 256) (by decide) h
theorem stF_word (g : Nat → Nat) (hg : ∀ i < 32, g i < 256) : .agg (cU 4 (stF g 0)).toArray = (Word.nat (sumB 256 g 32)).v := by
  have h0 := stF_lt hg (s := 0) (j := 0) (by decide)
  have h1 := stF_lt hg (s := 0) (j := 1) (by decide)
  have h2 := stF_lt hg (s := 0) (j := 2) (by decide)
  have h3 := stF_lt hg (s := 0) (j := 3) (by decide)
  have hl := sumB_lt (b := 256) (by decide) hg
  refine Word.v_nat ?_ h0 h1 h2 h3
  rw [Nat.mod_eq_of_lt (Nat.lt_of_lt_of_eq hl (by kernel_rfl)), show (32 : Nat) = 8 + 24 from rfl, sumB_split, show (24 : Nat) = 8 + 16 from rfl, sumB_split, show (16 : Nat) = 8 + 8 from rfl, sumB_split]
  simp only [stF, Nat.mul_zero, Nat.max_self, Nat.zero_add, Nat.sub_zero, Nat.mul_one, Nat.zero_max, Nat.reduceMul, Nat.reduceAdd, Nat.reduceSub, Nat.reducePow, Nat.max_eq_right (Nat.zero_le _)]
  simp only [← Nat.add_assoc, Nat.reduceAdd]
  have e : sumB 256 (fun k => g k) 8 = sumB 256 g 8 := rfl
  rw [e]
  omega
def iV (s : Nat) : Value := match s with
  | 0 => .int .i64 (-1)
  | m + 1 => .int .i64 (m : Int)
end Go.Rail
