/- Layer 16: ComputeChains, walked. -/
import Derived.Test.YtomifglegeelaaaGreatDoorAC19L16M
namespace Go.Rail
open Go Go.Proofs
set_option linter.unusedSimpArgs false
set_option linter.unusedVariables false
set_option maxHeartbeats 400000
set_option maxRecDepth 4000
attribute [local irreducible] OpK G W LW wpListIn Exit.then Exit.inBlock Post rounds opRun bodyPostM intOp
set_option maxHeartbeats 16000000
set_option maxRecDepth 20000
attribute [local irreducible] lexN cmpW Word.nat subW mulW addW divW modW sdivW smodW addmodW mulmodW expW andW orW xorW notW shlW shrW sarW byteW signW lessW
theorem addW_num (a b : Word) : (addW a b).num = (a.num + b.num) % top256 := by rw [show addW a b = Word.nat (a.num + b.num) from by with_unfolding_all rfl, Word.num_nat]
theorem add_chain (a b c : Word) : addW c (addW b a) = addW a (addW c b) := by
  apply Word.num_inj.1
  rw [addW_num, addW_num, addW_num, addW_num]
  simp only [top256]; omega
/-- The sixteenth one's row. -/
def chainE (a b c : Word) (i : Nat) : Word := [a, b, c, Word.of (i : Int)].getD (i % 4) .zero
def chainL (a b c : Word) : List Word := (List.range 17).map (chainE a b c)
theorem chainL_len (a b c : Word) : (chainL a b c).length = 17 := by simp [chainL]
theorem chainL_succ (a b c : Word) (i : Nat) (hi : i < 17) : (chainL a b c).take (i + 1) = (chainL a b c).take i ++ [chainE a b c i] := by
  rw [List.take_succ_eq_append_getElem (by rw [chainL_len]; exact hi)]
  simp [chainL]
theorem isC_hi (n : Nat) (h : 128 ≤ n) (h2 : n ≤ 159) : isC n = true := by
  unfold isC; rw [decide_eq_true (by omega)]; rfl
theorem wrong_ok {l : List Word} {n : Nat} (hl : l.length = 17) (h1 : 1 ≤ n) (h2 : n ≤ 16) : wrongL l n 1 = 0 := by
  unfold wrongL; rw [if_neg (by omega), if_neg (by omega)]
theorem do_dup (l : List Word) (k : Nat) (hl : l.length = 17) (hk : k < 16) : doC (128 + k) l = (l ++ [l.getD (16 - k) .zero], 0) := by
  unfold doC dupL pushL
  rw [isC_hi _ (by omega) (by omega), if_neg (by decide), if_neg (by omega), if_neg (by omega), if_pos (by omega), show 128 + k - 127 = k + 1 from by omega, wrong_ok hl (by omega) (by omega), if_pos rfl, if_neg (by omega), if_neg (by simp; omega), hl, show 17 - (k + 1) = 16 - k from by omega]
theorem do_swap (l : List Word) (k : Nat) (hl : l.length = 17) (hk : k < 16) : doC (144 + k) l = (swapS l (k + 1), 0) := by
  unfold doC swapL swapE
  rw [isC_hi _ (by omega) (by omega), if_neg (by decide), if_neg (by omega), if_pos (by omega), show 144 + k - 143 = k + 1 from by omega, wrong_ok hl (by omega) (by omega), if_neg (c := _ ∧ _) (by omega), if_pos rfl]
theorem swapS_len (l : List Word) (n : Nat) : (swapS l n).length = l.length := by simp [swapS]
theorem swapS_twice (l : List Word) (n : Nat) (h1 : 1 ≤ n) (h2 : n < l.length) : swapS (swapS l n) n = l := by
  apply List.ext_getElem
  · rw [swapS_len, swapS_len]
  · intro i hi1 hi2
    simp only [swapS, List.length_set, List.getElem_set, List.getD_eq_getElem?_getD, List.getElem?_set]
    by_cases e1 : l.length - 1 - n = i
    · subst e1
      simp [show ¬ l.length - 1 - n = l.length - 1 from by omega, show l.length - 1 < l.length from by omega, show l.length - 1 - n < l.length from by omega]
    · by_cases e2 : l.length - 1 = i
      · subst e2
        simp [show ¬ l.length - 1 - n = l.length - 1 from by omega, show l.length - 1 < l.length from by omega, show l.length - 1 - n < l.length from by omega]
      · rw [if_neg e1, if_neg e2, if_neg e1, if_neg e2]
theorem b_add {a b : Nat} {p q : Int} [hp : NL p a] [hq : NL q b] (h : a + b < 256) : intOp .add .u8 p q = some (.int .u8 ((a + b : Nat) : Int)) := by
  rw [hp.h, hq.h]
  unfold intOp
  refine congrArg (fun v => some (Value.int .u8 v)) ?_
  rw [show (a : Int) + (b : Int) = ((a + b : Nat) : Int) from rfl]
  exact wrap_nat (by simp [IntKind.max, IntKind.signed, IntKind.bits]; omega)
theorem chainE_at (a b c : Word) (i : Nat) (h : i % 4 < [a, b, c, Word.of (i : Int)].length) : [a, b, c, Word.of (i : Int)][i % 4] = chainE a b c i := by
  unfold chainE; rw [List.getD_eq_getElem?_getD, List.getElem?_eq_getElem h]; rfl
theorem chains_walk (a b cc : Word) (n : Int) (hn : -9223372036854775808 ≤ n) : FnV Tryz.prog 6 [a.v, b.v, cc.v, .int .i64 n] [] (.bool true) := by
  haveI s1 := topm_cv 1 (by decide) [a, b] (addW b a) true (by kernel_rfl)
  haveI s2 := topm_cv 1 (by decide) [addW b a, cc] (addW cc (addW b a)) true (by kernel_rfl)
  haveI s3 := topm_cv 1 (by decide) [b, cc] (addW cc b) true (by kernel_rfl)
  haveI s4 := topm_cv 1 (by decide) [addW cc b, a] (addW cc (addW b a)) true (by rw [add_chain]; kernel_rfl)
  generalize addW cc (addW b a) = q3 at s2 s4
  generalize addW b a = q1 at s1 s2
  generalize addW cc b = q2 at s3 s4
  obtain ⟨k, hk⟩ : ∃ k : Nat, pickI n 16 = (k : Int) := ⟨(pickI n 16).toNat, by have := pickI_nn n 16 (by decide); omega⟩
  have hk16 : k < 16 := by have := pickI_nn n 16 (by decide); omega
  have hp := pick16_spec n 16 hn (by decide)
  rw [hk] at hp
  refine Fn.enter Tryz.func6 rfl Tryz.ntmps6 (by simp) (fun I0 w0 => ?_)
  repeat (refine st ?_; try intro _)
  refine o_callV rfl rfl rfl rfl awake16_spec rfl ?_
  repeat (refine st ?_; try intro _)
  refine o_callV rfl rfl rfl rfl hp rfl ?_
  repeat (refine st ?_; try intro _)
  rename_i b4 b5 b6 u1 b10 u2 b12 u3 b14 u4 b16
  have hsb := swapS_twice (chainL a b cc) (k + 1) (by omega) (by rw [chainL_len]; omega)
  have d1 := do_dup (chainL a b cc) k (chainL_len a b cc) hk16
  have d2 := do_swap (chainL a b cc) k (chainL_len a b cc) hk16
  have d3 := do_swap (swapS (chainL a b cc) (k + 1)) k (by rw [swapS_len, chainL_len]) hk16
  rw [hsb] at d3
  refine W.lp (S := Nat × Value × OR) (fun s => ([fRow (ocells s.2.2) ((chainL a b cc).take s.1)], [(4, .pointer (some ⟨b4, 0, none⟩)), (5, .pointer (some ⟨b5, 0, none⟩)), (6, .pointer (some ⟨b6, 0, none⟩)), (8, .bool false), (9, .bool true), (11, .bool true), (12, .pointer (some ⟨b12, 0, none⟩)), (13, .bool true), (15, .bool true), (16, .pointer (some ⟨b16, 0, none⟩)), (17, .bool true), (18, .int .i64 (k : Int)), (19, s.2.1), (20, .int .i64 (s.1 : Int))], [(b16, Ob (cellsL q3.v) 24), (b12, Ob (cellsL q3.v) 24), (b6, Ob (cellsL cc.v) 24), (b5, Ob (cellsL b.v) 24), (b4, Ob (cellsL a.v) 24)] ++ ownM 24 s.2.2)) (fun s => s.1 ≤ 17 ∧ IsOwn 4 s.2.1 ((chainL a b cc).take s.1).length s.2.2) (fun s => 17 - s.1) (0, .slice none 0 0, none) ?_ (h0 := ⟨Nat.zero_le _, rfl, rfl⟩) (hΦ := by dsimp only [List.take_zero, ocells]; infer_instance) (hM := by (repeat (first | exact List.Sublist.refl _ | apply List.Sublist.cons_cons | apply List.Sublist.cons)))
  rintro ⟨i, w, o⟩ ⟨hi, hown⟩
  dsimp only [List.cons_append, List.nil_append] at hi hown ⊢
  by_cases h17 : i = 17
  · subst h17
    rw [List.take_of_length_le (by rw [chainL_len]; exact Nat.le_refl _)] at hown ⊢
    have hlen := chainL_len a b cc
    generalize chainL a b cc = L at hown hsb d1 d2 d3 hlen ⊢
    refine W.bare (G.giveOwn2 (Mr := [(b16, Ob (cellsL q3.v) 24), (b12, Ob (cellsL q3.v) 24), (b6, Ob (cellsL cc.v) 24), (b5, Ob (cellsL b.v) 24), (b4, Ob (cellsL a.v) 24)]) w L o 24 hown inferInstance (List.Perm.refl _) ?_)
    refine G.code ?_
    have i16 : 16 - k < L.length := by omega
    rw [List.getD_eq_getElem?_getD, List.getElem?_eq_getElem i16, Option.getD_some] at d1
    have hd : (L ++ [L[16 - k]]).length = 18 := by simp [hlen]
    have hx : (L ++ [L[16 - k]])[17] = L[16 - k] := by simp [List.getElem_append, hlen]
    have ht : ((L ++ [L[16 - k]]).take 17).drop 0 = L := by rw [List.drop_zero, List.take_append_of_le_length (by omega), List.take_of_length_le (by omega)]
    have hs17 : (swapS L (k + 1)).length = 17 := by rw [swapS_len]; exact hlen
    repeat (refine st ?_; try intro _)
    refine o_int rfl rfl rfl rfl (b_add (a := 128) (b := k) (by omega)) ?_
    repeat (refine st ?_; try intro _)
    refine o_callRD rfl rfl rfl rfl (do_at (128 + k) (by omega) _ L (by omega) d1) ?_
    intro v1
    repeat (refine st ?_; try intro _)
    refine o_int rfl rfl rfl rfl (b_add (a := 144) (b := k) (by omega)) ?_
    repeat (refine st ?_; try intro _)
    refine o_callRD rfl rfl rfl rfl (do_at (144 + k) (by omega) _ L (by omega) d2) ?_
    intro v2
    repeat (refine st ?_; try intro _)
    refine o_int rfl rfl rfl rfl (b_add (a := 144) (b := k) (by omega)) ?_
    repeat (refine st ?_; try intro _)
    refine o_callRD rfl rfl rfl rfl (do_at (144 + k) (by omega) _ (swapS L (k + 1)) (by omega) d3) ?_
    intro v3
    repeat (refine st ?_; try intro _)
    refine W.drawA 38 (dq _ :: dq _ :: dq _ :: dq _ :: dq _ :: dq _ :: dq _ :: dq _ :: dq _ :: dq _ :: dq _ :: dq _ :: dq _ :: dq _ :: dq _ :: dq _ :: dq _ :: dq _ :: dq _ :: dq _ :: dk _ :: dq _ :: dq _ :: dq _ :: dq _ :: dk _ :: dq _ :: dq _ :: dq _ :: dq _ :: dq _ :: dq _ :: dq _ :: dq _ :: dq _ :: dq _ :: dk _ :: dq _ :: []) ([] :: [0] :: [1] :: [1,2] :: [3] :: [4] :: [4,5] :: [6] :: [7] :: [7,8] :: [9] :: [10] :: [10,11] :: [12] :: [13] :: [13] :: [13,14,15] :: [13,16] :: [17] :: [18] :: [18,19] :: [18,20] :: [18] :: [18] :: [18,23] :: [18,22,24] :: [18,25] :: [18,21,26] :: [18,27] :: [28] :: [29] :: [29] :: [29,30,31] :: [29,32] :: [33] :: [34] :: [34,35] :: [34] :: []) [34, 36, 37] (hrest := fun c => nrm ?_) (hops := by
      iterate 32 refine AllQ.au ?_
      refine AllQ.mk (by intro c z0 Φr Lr K; refine nrm ?_; intro hK; refine o_callV rfl rfl rfl rfl (samew_spec _ _ L L (by omega)) (congrArg Value.bool (decide_eq_true rfl)) ?_; exact hK z0) ?_
      iterate 3 refine AllQ.au ?_
      refine AllQ.mk (by intro c z0 Φr Lr K; refine nrm ?_; intro hK; refine o_slice (xs := L ++ [L[16 - k]]) 0 17 rfl rfl rfl rfl ⟨_, _, rfl, rfl⟩ (by omega) (by omega) ?_; exact hK) ?_
      iterate 1 refine AllQ.au ?_
      exact AllQ.nil)
    repeat (refine st ?_; try intro _)
    refine o_callV rfl rfl rfl rfl (samew_spec _ _ (((L ++ [L[16 - k]]).take 17).drop 0) L (by rw [ht]; omega)) (congrArg Value.bool (decide_eq_true ht)) ?_
    repeat (refine st ?_; try intro _)
    trace_state
    refine G.retV ?_
    rfl
  · have hi4 : i % 4 < [a, b, cc, Word.of (i : Int)].length := Nat.mod_lt _ (by decide)
    have hsu := chainL_succ a b cc i (by omega)
    have htl : ((chainL a b cc).take i).length = i := by rw [List.length_take, chainL_len]; omega
    repeat (refine st ?_; try intro _)
    refine W.drawA 12 [dq _, dq _, dq _, dq _, dq _, dq _, dk _, dq _, dq _, dk _, dq _, dk _] [[], [], [], [], [], [4], [1,2,3,5], [], [7], [6,8], [9], [10]] [0, 11] (hrest := fun c => nrm ?_)
    repeat (refine st ?_; try intro _)
    refine o_app2 (Mr := [(b16, Ob (cellsL q3.v) 24), (b12, Ob (cellsL q3.v) 24), (b6, Ob (cellsL cc.v) 24), (b5, Ob (cellsL b.v) 24), (b4, Ob (cellsL a.v) 24)]) o (xs := (chainL a b cc).take i) (ys := [[a, b, cc, Word.of (i : Int)][i % 4]]) hown ⟨by simp [htl]; omega, by simp [htl]; omega, rfl⟩ rfl rfl rfl rfl inferInstance inferInstance (List.Perm.refl _) ?_
    intro w' o' hown'
    rw [chainE_at a b cc i hi4, ← hsu] at hown' ⊢
    dsimp only [List.cons_append, List.nil_append]
    repeat (refine st ?_; try intro _)
    exact G.ag (S := Nat × Value × OR) (i + 1, w', o') (hpre := ⟨by dsimp only; omega, hown'⟩)
end Go.Rail
