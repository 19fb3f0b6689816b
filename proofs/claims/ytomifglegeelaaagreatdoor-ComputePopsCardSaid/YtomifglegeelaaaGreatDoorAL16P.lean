/- Layer 16: ComputePops, walked. -/
import Derived.Test.YtomifglegeelaaaGreatDoorAC19C16
namespace Go.Rail
open Go Go.Proofs
set_option linter.unusedSimpArgs false
set_option linter.unusedVariables false
set_option maxHeartbeats 400000
set_option maxRecDepth 4000
attribute [local irreducible] OpK G W LW wpListIn Exit.then Exit.inBlock Post rounds opRun bodyPostM intOp
set_option maxHeartbeats 16000000
set_option maxRecDepth 20000
attribute [local irreducible] lexN cmpW Word.nat subW mulW addW divW modW sdivW smodW addmodW mulmodW expW andW orW xorW notW shlW shrW sarW byteW signW lessW
def popE (a b : Word) (i : Nat) : Word := [a, b, Word.of (i : Int)].getD (i % 3) .zero
def popsL (a b : Word) (m : Nat) : List Word := (List.range m).map (popE a b)
theorem popsL_len (a b : Word) (m : Nat) : (popsL a b m).length = m := by simp [popsL]
theorem popsL_succ (a b : Word) (i m : Nat) (hi : i < m) : (popsL a b m).take (i + 1) = (popsL a b m).take i ++ [popE a b i] := by
  rw [List.take_succ_eq_append_getElem (by rw [popsL_len]; exact hi)]
  simp [popsL]
theorem popE_at (a b : Word) (i : Nat) (h : i % 3 < [a, b, Word.of (i : Int)].length) : [a, b, Word.of (i : Int)][i % 3] = popE a b i := by
  unfold popE; rw [List.getD_eq_getElem?_getD, List.getElem?_eq_getElem h]; rfl
def pushN (n : Nat) : Nat := ((infoN n).getD noRow).pushes
def chkQ (n : Nat) : Bool := !(isC n) || Nat.beq (pushN n) (if (find2 ops1 n).isSome || (find2 ops2 n).isSome || (find2 ops3 n).isSome then 1 else 0)
theorem chkQ_all : ((List.range 128).all chkQ) = true := by kernel_rfl
theorem made_len (n : Nat) (hn : n < 128) (h : isC n = true) (l : List Word) : (madeL n l).length = pushN n := by
  have := List.all_eq_true.1 chkQ_all n (by simpa using hn)
  simp only [chkQ, h, Bool.not_true, Bool.false_or] at this
  rw [Nat.eq_of_beq_eq_true this]
  unfold madeL
  cases e1 : find2 ops1 n with
  | some f => rfl
  | none => cases e2 : find2 ops2 n with
    | some f => rfl
    | none => cases e3 : find2 ops3 n with
      | some f => rfl
      | none => rfl
theorem wrong_cases (s : List Word) (n least : Nat) (hs : s.length ≤ 24) (hl : least ≤ n) : wrongL s n least = if s.length < n then 40 else 0 := by
  unfold wrongL
  rw [if_neg (by omega)]
  by_cases h : s.length < n
  · rw [if_pos (by omega), if_pos h]
  · rw [if_neg (by omega), if_neg h]
/-- How many stay as they were. -/
def stayN (n m : Nat) : Nat := if 128 ≤ n then m - 17 else m - popsN n
theorem pops_hi (n : Nat) (h : 128 ≤ n) (h2 : n ≤ 159) : (n ≤ 143 → popsN n = n - 127 ∧ pushN n = n - 126) ∧ (144 ≤ n → popsN n = n - 142 ∧ pushN n = n - 142) := by
  unfold popsN pushN infoN
  refine ⟨fun h3 => ?_, fun h3 => ?_⟩
  · rw [if_neg (by omega), if_pos (by omega)]; exact ⟨rfl, rfl⟩
  · rw [if_neg (by omega), if_neg (by omega), if_pos (by omega)]; exact ⟨rfl, rfl⟩
theorem isC_range (n : Nat) (hn : n < 256) (h : isC n = true) : n ≤ 159 := by
  have h1 : ((List.range 256).all fun k => !(isC k) || Nat.ble k 159) = true := by kernel_rfl
  have := List.all_eq_true.1 h1 n (by simpa using hn)
  simpa [h] using this
theorem pops_law (n : Nat) (hn : n < 256) (s : List Word) (hs : s.length ≤ 24) :
    ((doC n s).2 ≠ 0 → (doC n s).1 = s ∧ (isC n = false ∧ (doC n s).2 = 42 ∨ isC n = true ∧ (doC n s).2 = 40 ∧ s.length < popsN n)) ∧
    ((doC n s).2 = 0 → isC n = true ∧ popsN n ≤ s.length ∧ (doC n s).1.length = s.length - popsN n + pushN n ∧ (doC n s).1.take (min (stayN n s.length) (doC n s).1.length) = s.take (stayN n s.length)) := by
  cases hc : isC n with
  | false =>
    have e : doC n s = (s, 42) := by unfold doC; rw [if_pos hc]
    rw [e]
    exact ⟨fun _ => ⟨rfl, .inl ⟨rfl, rfl⟩⟩, fun h => absurd (show (42 : Int) = 0 from h) (by decide)⟩
  | true =>
  have hr := isC_range n hn hc
  by_cases h144 : 144 ≤ n
  · obtain ⟨hp, hq⟩ := (pops_hi n (by omega) hr).2 h144
    have e : doC n s = if s.length ≤ n - 143 then (s, 40) else (swapS s (n - 143), 0) := by
      unfold doC swapL swapE
      rw [hc, if_neg (by decide), if_neg (by omega), if_pos h144]
      have hw := wrong_cases s (n - 143) 1 hs (by omega)
      rw [show ((1 : Nat) : Int) = 1 from rfl] at hw
      rw [hw]
      by_cases h1 : s.length < n - 143
      · rw [if_pos h1, if_neg (c := _ ∧ _) (by omega), if_neg (by decide), if_pos (by omega)]
      · rw [if_neg h1]
        by_cases h2 : n - 143 = s.length
        · rw [if_pos (c := _ ∧ _) ⟨rfl, h2⟩, if_neg (by decide), if_pos (by omega)]
        · rw [if_neg (c := _ ∧ _) (by omega), if_pos rfl, if_neg (by omega)]
    rw [e]
    by_cases h1 : s.length ≤ n - 143
    · rw [if_pos h1]
      exact ⟨fun _ => ⟨rfl, .inr ⟨rfl, rfl, by omega⟩⟩, fun h => absurd (show (40 : Int) = 0 from h) (by decide)⟩
    · rw [if_neg h1]
      refine ⟨fun h => absurd rfl h, fun _ => ⟨rfl, by omega, by rw [swapS_len]; omega, ?_⟩⟩
      have hst : stayN n s.length = s.length - 17 := by unfold stayN; rw [if_pos (by omega)]
      rw [hst, swapS_len, Nat.min_eq_left (by omega)]
      apply List.ext_getElem?
      intro i
      simp only [List.getElem?_take]
      by_cases hi : i < s.length - 17
      · rw [if_pos hi, if_pos hi]
        simp only [swapS, List.getElem?_set, List.length_set]
        rw [if_neg (by omega), if_neg (by omega)]
      · rw [if_neg hi, if_neg hi]
  by_cases h128 : 128 ≤ n
  · obtain ⟨hp, hq⟩ := (pops_hi n (by omega) hr).1 (by omega)
    have e : doC n s = if s.length < n - 127 then (s, 40) else (s ++ [s.getD (s.length - (n - 127)) .zero], 0) := by
      unfold doC dupL pushL
      rw [hc, if_neg (by decide), if_neg (by omega), if_neg h144, if_pos h128]
      have hw := wrong_cases s (n - 127) 1 hs (by omega)
      rw [show ((1 : Nat) : Int) = 1 from rfl] at hw
      rw [hw]
      by_cases h1 : s.length < n - 127
      · simp [h1]
      · simp only [if_neg h1, if_pos]
        first
          | rw [if_neg (by omega), if_neg (by simp; omega)]
          | rw [if_neg (by simp; omega)]
    rw [e]
    by_cases h1 : s.length < n - 127
    · rw [if_pos h1]
      exact ⟨fun _ => ⟨rfl, .inr ⟨rfl, rfl, by omega⟩⟩, fun h => absurd (show (40 : Int) = 0 from h) (by decide)⟩
    · rw [if_neg h1]
      refine ⟨fun h => absurd rfl h, fun _ => ⟨rfl, by omega, by simp; omega, ?_⟩⟩
      have hst : stayN n s.length = s.length - 17 := by unfold stayN; rw [if_pos (by omega)]
      rw [hst]
      dsimp only
      rw [Nat.min_eq_left (by simp only [List.length_append, List.length_cons, List.length_nil]; omega), List.take_append_of_le_length (by omega)]
  · obtain ⟨p1, -, -, -⟩ := pops_ok n (by omega) hc
    have hml := made_len n (by omega) hc
    have hq1 : pushN n ≤ 1 := by
      have := List.all_eq_true.1 chkQ_all n (by simpa using (show n < 128 by omega))
      simp only [chkQ, hc, Bool.not_true, Bool.false_or] at this
      rw [Nat.eq_of_beq_eq_true this]; split <;> decide
    have e : doC n s = if s.length < popsN n then (s, 40) else (s.take (s.length - popsN n) ++ madeL n (s.drop (s.length - popsN n)).reverse, 0) := by
      unfold doC popL pushL
      rw [hc, if_neg (by decide), if_neg (by omega), if_neg h144, if_neg h128]
      have hw := wrong_cases s (popsN n) 0 hs (Nat.zero_le _)
      rw [show ((0 : Nat) : Int) = 0 from rfl] at hw
      rw [hw]
      by_cases h1 : s.length < popsN n
      · simp [h1]
      · simp only [if_neg h1, if_pos]
        rw [if_neg (by decide), if_neg (by rw [List.length_take]; omega), if_neg (by rw [List.length_take, hml]; omega)]
    rw [e]
    by_cases h1 : s.length < popsN n
    · rw [if_pos h1]
      exact ⟨fun _ => ⟨rfl, .inr ⟨rfl, rfl, h1⟩⟩, fun h => absurd (show (40 : Int) = 0 from h) (by decide)⟩
    · rw [if_neg h1]
      refine ⟨fun h => absurd rfl h, fun _ => ⟨rfl, by omega, by rw [List.length_append, List.length_take, hml]; omega, ?_⟩⟩
      have hst : stayN n s.length = s.length - popsN n := by unfold stayN; rw [if_neg h128]
      rw [hst, List.length_append, List.length_take, List.take_append_of_le_length (by rw [List.length_take]; omega), List.take_take]
      congr 1; omega
theorem push_le (n : Nat) (hn : n < 256) : pushN n ≤ 18 := by
  have h1 : ((List.range 256).all fun k => Nat.ble (pushN k) 18) = true := by kernel_rfl
  have := List.all_eq_true.1 h1 n (by simpa using hn)
  exact Nat.le_of_ble_eq_true this
theorem pops_walk (op : Int) (a b : Word) (n : Int) (ho : -9223372036854775808 ≤ op) (hn : -9223372036854775808 ≤ n) : FnV Tryz.prog 4 [.int .i64 op, a.v, b.v, .int .i64 n] [] (.bool true) := by
  obtain ⟨k, hk⟩ : ∃ k : Nat, pickI op 256 = (k : Int) := ⟨(pickI op 256).toNat, by have := pickI_nn op 256 (by decide); omega⟩
  have hk256 : k < 256 := by have := pickI_nn op 256 (by decide); omega
  have hp := pick16_spec op 256 ho (by decide)
  rw [hk] at hp
  obtain ⟨m, hm⟩ : ∃ m : Nat, pickI n 25 = (m : Int) := ⟨(pickI n 25).toNat, by have := pickI_nn n 25 (by decide); omega⟩
  have hm25 : m < 25 := by have := pickI_nn n 25 (by decide); omega
  have hpm := pick16_spec n 25 hn (by decide)
  rw [hm] at hpm
  have hlaw := pops_law k hk256 (popsL a b m) (by rw [popsL_len]; omega)
  have hlen := popsL_len a b m
  refine Fn.enter Tryz.func4 rfl Tryz.ntmps4 (by simp) (fun I0 w0 => ?_)
  repeat (refine st ?_; try intro _)
  refine o_callV rfl rfl rfl rfl awake16_spec rfl ?_
  repeat (refine st ?_; try intro _)
  refine o_callV rfl rfl rfl rfl hp rfl ?_
  repeat (refine st ?_; try intro _)
  rename_i b5 b6
  refine W.lp (S := Nat × Value × OR) (fun s => ([fRow (ocells s.2.2) ((popsL a b m).take s.1)], [(12, .int .i64 (s.1 : Int)), (11, s.2.1), (10, .int .u8 (k : Int)), (9, .bool true), (8, .bool false), (6, .pointer (some ⟨b6, 0, none⟩)), (5, .pointer (some ⟨b5, 0, none⟩)), (3, .int .i64 n)], [(b6, Ob (cellsL b.v) 24), (b5, Ob (cellsL a.v) 24)] ++ ownM 24 s.2.2)) (fun s => s.1 ≤ m ∧ IsOwn 4 s.2.1 ((popsL a b m).take s.1).length s.2.2) (fun s => m - s.1) (0, .slice none 0 0, none) ?_ (h0 := ⟨Nat.zero_le _, rfl, rfl⟩) (hΦ := by dsimp only [List.take_zero, ocells]; infer_instance) (hM := by (repeat (first | exact List.Sublist.refl _ | apply List.Sublist.cons_cons | apply List.Sublist.cons)))
  rintro ⟨i, w, o⟩ ⟨hi, hown⟩
  dsimp only [List.cons_append, List.nil_append] at hi hown ⊢
  by_cases him : i = m
  · subst him
    rw [List.take_of_length_le (by rw [popsL_len]; exact Nat.le_refl _)] at hown ⊢
    generalize popsL a b i = L at hown hlaw hlen ⊢
    have hdo := fun v => do_spec k hk256 v L (by omega)
    generalize doC k L = dd at hlaw hdo
    obtain ⟨r, e⟩ := dd
    dsimp only at hlaw hdo
    have hri := rinfo_spec k hk256
    unfold infoV rowV at hri
    have hpo : popsN k = ((infoN k).getD noRow).pops := rfl
    have hpu : pushN k = ((infoN k).getD noRow).pushes := rfl
    have hpb := push_le k hk256
    generalize (infoN k).getD noRow = row at hri hpo hpu
    obtain ⟨rn, rp, rq, rg⟩ := row
    generalize (infoN k).isSome = ok at hri
    dsimp only at hri hpo hpu
    have his := is_spec k hk256
    refine W.bare (G.giveOwn2 (Mr := [(b6, Ob (cellsL b.v) 24), (b5, Ob (cellsL a.v) 24)]) w L o 24 hown inferInstance (List.Perm.refl _) ?_)
    refine G.code ?_
    repeat (refine st ?_; try intro _)
    refine o_callV rfl rfl rfl rfl hpm rfl ?_
    repeat (refine st ?_; try intro _)
    refine o_callRD rfl rfl rfl rfl (hdo _) ?_
    intro v1
    by_cases he : e = 0
    · subst he
      obtain ⟨hc, hpl, hrl, htk⟩ := hlaw.2 rfl
      rw [hc] at his
      repeat (refine st ?_; try intro _)
      refine o_callV rfl rfl rfl rfl hri rfl ?_
      repeat (refine st ?_; try intro _)
      have e27 : ∀ S : Nat, (if (r.length : Int) < (S : Int) then (r.length : Int) else (S : Int)) = ((min S r.length : Nat) : Int) := fun S => by
        by_cases h : r.length < S
        · rw [if_pos (by omega), Nat.min_eq_right (by omega)]
        · rw [if_neg (by omega), Nat.min_eq_left (by omega)]
      by_cases h128 : 128 ≤ k
      · have hst : stayN k L.length = L.length - 17 := by unfold stayN; rw [if_pos h128]
        have e17 : (if (L.length : Int) - 17 < 0 then (0 : Int) else (L.length : Int) - 17) = ((L.length - 17 : Nat) : Int) := by split <;> omega
        have hSL : L.length - 17 ≤ L.length := by omega
        have e27 := e27 (L.length - 17)
        rw [hst] at htk
        generalize L.length - 17 = S at htk e17 hSL e27
        refine W.cond_t rfl (decide_eq_true (by omega)) ?_
        repeat (refine st ?_; try intro _)
        rw [e17]
        refine W.drawA 32 (dq _ :: dq _ :: dq _ :: dq _ :: dq _ :: dq _ :: dq _ :: dq _ :: dq _ :: dq _ :: dq _ :: dq _ :: dq _ :: dq _ :: dq _ :: dq _ :: dq _ :: dq _ :: dq _ :: dq _ :: dq _ :: dq _ :: dq _ :: dq _ :: dq _ :: dq _ :: dq _ :: dq _ :: dk _ :: dq _ :: dq _ :: dk _ :: []) ([] :: [0] :: [1] :: [1,2] :: [1,3] :: [4] :: [5] :: [5,6] :: [5] :: [5,8] :: [5] :: [5,10] :: [5,9,11] :: [5] :: [5,13] :: [5,12,14] :: [5,7,15] :: [5,16] :: [17] :: [18] :: [18,19] :: [18,20] :: [21] :: [22] :: [22] :: [22] :: [22,25] :: [22,24,26] :: [22,23,27] :: [22] :: [22] :: [22,29,30] :: []) [22, 28, 31] (hrest := fun c => nrm ?_) (hops := by
          iterate 3 refine AllQ.au ?_
          refine AllQ.mk (by intro c z0 Φr Lr K; refine nrm ?_; intro hK; refine o_callV rfl rfl rfl rfl his rfl ?_; exact hK z0) ?_
          iterate 23 refine AllQ.au ?_
          refine AllQ.mk (by intro c z0 Φr Lr K; refine nrm ?_; intro hK; refine o_min rfl rfl rfl rfl (v := .int .i64 ((min S r.length : Nat) : Int)) (congrArg (Value.int .i64) e27) ?_; exact hK z0) ?_
          refine AllQ.mk (by intro c z0 Φr Lr K; refine nrm ?_; intro hK; refine o_slice (xs := r) 0 (min S r.length) rfl rfl rfl rfl ⟨_, _, rfl, rfl⟩ (Nat.zero_le _) (Nat.min_le_right _ _) ?_; exact hK) ?_
          iterate 2 refine AllQ.au ?_
          refine AllQ.mk (by intro c z0 Φr Lr K; refine nrm ?_; intro hK; refine o_slice (xs := L) 0 S rfl rfl rfl rfl ⟨_, _, rfl, rfl⟩ (Nat.zero_le _) hSL ?_; exact hK) ?_
          exact AllQ.nil)
        repeat (refine st ?_; try intro _)
        refine o_callV rfl rfl rfl rfl (samew_spec _ _ ((r.take (min S r.length)).drop 0) ((L.take S).drop 0) (by simp only [List.length_drop, List.length_take]; omega)) (congrArg Value.bool (decide_eq_true (by rw [List.drop_zero, List.drop_zero]; exact htk))) ?_
        repeat (refine st ?_; try intro _)
        refine G.retV ?_
        rfl
      · have hst : stayN k L.length = L.length - popsN k := by unfold stayN; rw [if_neg h128]
        have e17 : L.length - rp = L.length - popsN k := by rw [hpo]
        have hSL : L.length - popsN k ≤ L.length := by omega
        have e27 := e27 (L.length - popsN k)
        rw [hst] at htk
        generalize L.length - popsN k = S at htk e17 hSL e27 hrl
        refine W.cond_f rfl (decide_eq_false (by omega)) ?_
        repeat (refine st ?_; try intro _)
        rw [e17]
        refine W.drawA 32 (dq _ :: dq _ :: dq _ :: dq _ :: dq _ :: dq _ :: dq _ :: dq _ :: dq _ :: dq _ :: dq _ :: dq _ :: dq _ :: dq _ :: dq _ :: dq _ :: dq _ :: dq _ :: dq _ :: dq _ :: dq _ :: dq _ :: dq _ :: dq _ :: dq _ :: dq _ :: dq _ :: dq _ :: dk _ :: dq _ :: dq _ :: dk _ :: []) ([] :: [0] :: [1] :: [1,2] :: [1,3] :: [4] :: [5] :: [5,6] :: [5] :: [5,8] :: [5] :: [5,10] :: [5,9,11] :: [5] :: [5,13] :: [5,12,14] :: [5,7,15] :: [5,16] :: [17] :: [18] :: [18,19] :: [18,20] :: [21] :: [22] :: [22] :: [22] :: [22,25] :: [22,24,26] :: [22,23,27] :: [22] :: [22] :: [22,29,30] :: []) [22, 28, 31] (hrest := fun c => nrm ?_) (hops := by
          iterate 3 refine AllQ.au ?_
          refine AllQ.mk (by intro c z0 Φr Lr K; refine nrm ?_; intro hK; refine o_callV rfl rfl rfl rfl his rfl ?_; exact hK z0) ?_
          iterate 23 refine AllQ.au ?_
          refine AllQ.mk (by intro c z0 Φr Lr K; refine nrm ?_; intro hK; refine o_min rfl rfl rfl rfl (v := .int .i64 ((min S r.length : Nat) : Int)) (congrArg (Value.int .i64) e27) ?_; exact hK z0) ?_
          refine AllQ.mk (by intro c z0 Φr Lr K; refine nrm ?_; intro hK; refine o_slice (xs := r) 0 (min S r.length) rfl rfl rfl rfl ⟨_, _, rfl, rfl⟩ (Nat.zero_le _) (Nat.min_le_right _ _) ?_; exact hK) ?_
          iterate 2 refine AllQ.au ?_
          refine AllQ.mk (by intro c z0 Φr Lr K; refine nrm ?_; intro hK; refine o_slice (xs := L) 0 S rfl rfl rfl rfl ⟨_, _, rfl, rfl⟩ (Nat.zero_le _) hSL ?_; exact hK) ?_
          exact AllQ.nil)
        repeat (refine st ?_; try intro _)
        refine o_callV rfl rfl rfl rfl (samew_spec _ _ ((r.take (min S r.length)).drop 0) ((L.take S).drop 0) (by simp only [List.length_drop, List.length_take]; omega)) (congrArg Value.bool (decide_eq_true (by rw [List.drop_zero, List.drop_zero]; exact htk))) ?_
        repeat (refine st ?_; try intro _)
        refine G.retV ?_
        rfl
    · obtain ⟨hr, hcase⟩ := hlaw.1 he
      subst hr
      obtain ⟨hc, he2⟩ | ⟨hc, he2, hlt⟩ := hcase
      · subst he2
        rw [hc] at his
        repeat (refine st ?_; try intro _)
        refine o_callV rfl rfl rfl rfl hri rfl ?_
        repeat (refine st ?_; try intro _)
        refine o_callV rfl rfl rfl rfl (samew_spec _ _ r r (by omega)) (congrArg Value.bool (decide_eq_true rfl)) ?_
        repeat (refine st ?_; try intro _)
        refine o_callV rfl rfl rfl rfl his rfl ?_
        repeat (refine st ?_; try intro _)
        refine G.retV ?_
        rfl
      · subst he2
        rw [hc] at his
        have hlt2 : decide ((r.length : Int) < (rp : Int)) = true := decide_eq_true (by omega)
        repeat (refine st ?_; try intro _)
        refine o_callV rfl rfl rfl rfl hri rfl ?_
        repeat (refine st ?_; try intro _)
        refine o_callV rfl rfl rfl rfl (samew_spec _ _ r r (by omega)) (congrArg Value.bool (decide_eq_true rfl)) ?_
        repeat (refine st ?_; try intro _)
        refine o_callV rfl rfl rfl rfl his rfl ?_
        repeat (refine st ?_; try intro _)
        refine o_callV rfl rfl rfl rfl his rfl ?_
        repeat (refine st ?_; try intro _)
        refine G.retV ?_
        first | rfl | exact congrArg Value.bool hlt2
  · have hi3 : i % 3 < [a, b, Word.of (i : Int)].length := Nat.mod_lt _ (by decide)
    have hsu := popsL_succ a b i m (by omega)
    have htl : ((popsL a b m).take i).length = i := by rw [List.length_take, popsL_len]; omega
    have hlt : decide ((i : Int) < (m : Int)) = true := decide_eq_true (by omega)
    repeat (refine st ?_; try intro _)
    refine o_callV rfl rfl rfl rfl hpm rfl ?_
    repeat (refine st ?_; try intro _)
    refine W.drawA 11 [dq _, dq _, dq _, dq _, dq _, dk _, dq _, dq _, dk _, dq _, dk _] [[], [], [], [], [3], [1,2,4], [], [6], [5,7], [8], [9]] [0, 10] (hrest := fun c => nrm ?_)
    repeat (refine st ?_; try intro _)
    refine o_app2 (Mr := [(b6, Ob (cellsL b.v) 24), (b5, Ob (cellsL a.v) 24)]) o (xs := (popsL a b m).take i) (ys := [[a, b, Word.of (i : Int)][i % 3]]) hown ⟨by simp [htl]; omega, by simp [htl]; omega, rfl⟩ rfl rfl rfl rfl inferInstance inferInstance (List.Perm.refl _) ?_
    intro w' o' hown'
    rw [popE_at a b i hi3, ← hsu] at hown' ⊢
    dsimp only [List.cons_append, List.nil_append]
    repeat (refine st ?_; try intro _)
    exact G.ag (S := Nat × Value × OR) (i + 1, w', o') (hpre := ⟨by dsimp only; omega, hown'⟩)
end Go.Rail
