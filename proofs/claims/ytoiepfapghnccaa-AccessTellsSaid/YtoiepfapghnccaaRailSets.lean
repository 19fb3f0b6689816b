/- Plain laws: lists of keys in order; what sorting and making one of neighbours comes to. -/
import Derived.Test.YtoiepfapghnccaaRailKeys
set_option linter.unusedSimpArgs false
set_option linter.unusedVariables false
namespace Go.Rail
open Go
theorem ltK_irrefl (a : Key) : ¬ ltK a a := by unfold ltK; rw [cmpK_self]; omega
theorem ltK_asymm {a b : Key} (h : ltK a b) : ¬ ltK b a := fun k => ltK_irrefl a (ltK_trans h k)
theorem ltK_total {a b : Key} (h : ¬ ltK a b) (k : ¬ ltK b a) : a = b := by
  unfold ltK at h k
  have h1 := cmpK_anti a b
  exact cmpK_zero.1 (by omega)
/-- A list in order is told by its members. -/
theorem asc_unique : ∀ {l m : List Key}, l.Pairwise ltK → m.Pairwise ltK → (∀ k, k ∈ l ↔ k ∈ m) → l = m
  | [], [], _, _, _ => rfl
  | [], b :: m, _, _, h => absurd ((h b).2 (by simp)) (by simp)
  | a :: l, [], _, _, h => absurd ((h a).1 (by simp)) (by simp)
  | a :: l, b :: m, hl, hm, h => by
    rw [List.pairwise_cons] at hl hm
    have e : a = b := by
      by_cases e : a = b
      · exact e
      · have h1 : a ∈ m := by
          have := (h a).1 (by simp)
          rcases List.mem_cons.1 this with h | h
          · exact absurd h e
          · exact h
        have h2 : b ∈ l := by
          have := (h b).2 (by simp)
          rcases List.mem_cons.1 this with h | h
          · exact absurd h.symm e
          · exact h
        exact absurd (hl.1 b h2) (ltK_asymm (hm.1 a h1))
    subst e
    rw [asc_unique hl.2 hm.2 (fun k => ⟨fun hk => ?_, fun hk => ?_⟩)]
    · rcases List.mem_cons.1 ((h k).1 (List.mem_cons_of_mem _ hk)) with rfl | h'
      · exact absurd (hl.1 _ hk) (ltK_irrefl _)
      · exact h'
    · rcases List.mem_cons.1 ((h k).2 (List.mem_cons_of_mem _ hk)) with rfl | h'
      · exact absurd (hm.1 _ hk) (ltK_irrefl _)
      · exact h'

theorem putR_true (k : Key) : ∀ l, putR k true l = l
  | [] => rfl
  | a :: l => by simp only [putR, putR_true k l]; split <;> simp
theorem mem_putR (k c : Key) : ∀ l, c ∈ putR k false l ↔ c = k ∨ c ∈ l
  | [] => by simp [putR]
  | a :: l => by
    simp only [putR, putR_true, and_true]
    by_cases h : cmpK k a = 0
    · have := cmpK_zero.1 h
      subst this
      simp [cmpK_self]
    · rw [if_neg h]
      by_cases h1 : cmpK k a < 0
      · rw [if_pos h1]; simp
      · rw [if_neg h1, List.mem_cons, mem_putR k c l, List.mem_cons]
        exact ⟨fun h => by rcases h with h | h | h <;> simp [h], fun h => by rcases h with h | h | h <;> simp [h]⟩
theorem asc_putR (k : Key) : ∀ l, l.Pairwise ltK → (putR k false l).Pairwise ltK
  | [], _ => by simp [putR]
  | a :: l, h => by
    simp only [putR, putR_true, and_true]
    by_cases h0 : cmpK k a = 0
    · rw [if_pos h0]; exact h
    · rw [if_neg h0]
      by_cases h1 : cmpK k a < 0
      · rw [if_pos h1]
        have h2 := List.pairwise_cons.1 h
        refine List.pairwise_cons.2 ⟨fun c hc => ?_, h⟩
        rcases List.mem_cons.1 hc with rfl | hc
        · exact h1
        · exact ltK_trans h1 (h2.1 c hc)
      · rw [if_neg h1]
        have h2 := List.pairwise_cons.1 h
        refine List.pairwise_cons.2 ⟨fun c hc => ?_, asc_putR k l h2.2⟩
        rcases (mem_putR k c l).1 hc with rfl | hc
        · have h3 := cmpK_anti c a
          unfold ltK; omega
        · exact h2.1 c hc
theorem foldPut (xs : List Key) : ∀ acc : List Key, acc.Pairwise ltK → (xs.foldl (fun l k => putR k false l) acc).Pairwise ltK ∧ ∀ c, c ∈ xs.foldl (fun l k => putR k false l) acc ↔ c ∈ acc ∨ c ∈ xs := by
  induction xs with
  | nil => intro acc h; exact ⟨h, fun c => by simp⟩
  | cons a xs ih =>
    intro acc h
    obtain ⟨h1, h2⟩ := ih (putR a false acc) (asc_putR a acc h)
    refine ⟨h1, fun c => ?_⟩
    rw [List.foldl_cons, h2, mem_putR, List.mem_cons]
    exact ⟨fun h => by rcases h with (h | h) | h <;> simp [h], fun h => by rcases h with h | h | h <;> simp [h]⟩
theorem asc_setK (xs : List Key) : (setK xs).Pairwise ltK := (foldPut xs [] .nil).1
theorem mem_setK (xs : List Key) (c : Key) : c ∈ setK xs ↔ c ∈ xs := by
  have := (foldPut xs [] .nil).2 c
  simpa [setK] using this

/-- The order, weakly. -/
def leKB (x y : Key) : Bool := !decide (cmpK y x < 0)
theorem leKB_trans (a b c : Key) (h1 : leKB a b = true) (h2 : leKB b c = true) : leKB a c = true := by
  simp only [leKB, Bool.not_eq_true', decide_eq_false_iff_not] at *
  intro h
  by_cases e : a = b
  · subst e; exact h2 h
  · by_cases h3 : cmpK a b < 0
    · exact h2 (cmpK_trans h h3)
    · exact e (ltK_total h3 h1)
theorem leKB_total (a b : Key) : (leKB a b || leKB b a) = true := by
  simp only [leKB, Bool.or_eq_true, Bool.not_eq_true', decide_eq_false_iff_not]
  have := cmpK_anti a b
  omega
theorem mem_compactK (c : Key) : ∀ l, c ∈ compactK l ↔ c ∈ l
  | [] => by simp [compactK]
  | [a] => by simp [compactK]
  | a :: b :: l => by
    have ih := mem_compactK c (b :: l)
    simp only [compactK]
    by_cases e : a = b
    · subst e
      rw [if_pos rfl, ih]; simp
    · rw [if_neg e, List.mem_cons, ih]; simp
theorem asc_compactK : ∀ l : List Key, l.Pairwise (fun a b => leKB a b = true) → (compactK l).Pairwise ltK
  | [], _ => .nil
  | [a], _ => by simp [compactK]
  | a :: b :: l, h => by
    have h1 := List.pairwise_cons.1 h
    have ih := asc_compactK (b :: l) h1.2
    simp only [compactK]
    by_cases e : a = b
    · rw [if_pos e]; exact ih
    · rw [if_neg e]
      refine List.pairwise_cons.2 ⟨fun c hc => ?_, ih⟩
      rw [mem_compactK] at hc
      have hab : ltK a b := by
        have := h1.1 b (by simp)
        simp only [leKB, Bool.not_eq_true', decide_eq_false_iff_not] at this
        apply Classical.byContradiction
        intro h3
        exact e (ltK_total h3 this)
      rcases List.mem_cons.1 hc with rfl | hc
      · exact hab
      · have := (List.pairwise_cons.1 h1.2).1 c hc
        simp only [leKB, Bool.not_eq_true', decide_eq_false_iff_not] at this
        by_cases e2 : b = c
        · subst e2; exact hab
        · refine ltK_trans hab ?_
          apply Classical.byContradiction
          intro h3
          exact e2 (ltK_total h3 this)
/-- **What the program's set comes to is what the document's comes to.** -/
theorem set_law (xs : List Key) : compactK (xs.mergeSort leKB) = setK xs := by
  refine asc_unique (asc_compactK _ ?_) (asc_setK xs) (fun c => ?_)
  · exact List.pairwise_mergeSort leKB_trans leKB_total xs
  · rw [mem_compactK, List.mem_mergeSort, mem_setK]
theorem compactK_length : ∀ l : List Key, (compactK l).length ≤ l.length
  | [] => by simp [compactK]
  | [a] => by simp [compactK]
  | a :: b :: l => by
    have ih := compactK_length (b :: l)
    simp only [compactK]
    split
    · simp at ih ⊢; omega
    · simp at ih ⊢; omega
theorem compactK_chain : ∀ l : List Key, (compactK l).length = l.length → ∀ j, (h : j + 1 < l.length) → l[j] ≠ l[j + 1]
  | [], _, j, h => by simp at h
  | [a], _, j, h => by simp at h
  | a :: b :: l, hl, j, h => by
    have h1 := compactK_length (b :: l)
    simp only [compactK] at hl
    by_cases e : a = b
    · rw [if_pos e] at hl; simp at hl h1; omega
    · rw [if_neg e] at hl
      cases j with
      | zero => simpa using e
      | succ j =>
        have := compactK_chain (b :: l) (by simpa using hl) j (by simpa using h)
        simpa using this
theorem compactK_asc : ∀ l : List Key, l.Pairwise ltK → compactK l = l
  | [], _ => rfl
  | [a], _ => rfl
  | a :: b :: l, h => by
    have h1 := List.pairwise_cons.1 h
    have h2 : a ≠ b := fun e => by subst e; exact ltK_irrefl a (h1.1 a (by simp))
    rw [compactK, if_neg h2, compactK_asc _ h1.2]
theorem asc_of_chain : ∀ l : List Key, (∀ j, (h : j + 1 < l.length) → ltK l[j] l[j + 1]) → l.Pairwise ltK
  | [], _ => .nil
  | [a], _ => by simp
  | a :: b :: l, h => by
    have h1 := asc_of_chain (b :: l) (fun j hj => by have := h (j + 1) (by simpa using hj); simpa using this)
    have h2 : ltK a b := h 0 (by simp)
    refine List.pairwise_cons.2 ⟨fun c hc => ?_, h1⟩
    rcases List.mem_cons.1 hc with rfl | hc
    · exact h2
    · exact ltK_trans h2 ((List.pairwise_cons.1 h1).1 c hc)
/-- **When a list may be, as the program asks.** -/
theorem right_law (xs : List Key) : rightB xs = true ↔ xs.length ≤ 200 ∧ (∀ k ∈ xs, mayK k = true) ∧ (∀ j, (h : j < xs.length - 1) → ¬ ltK (xs[j + 1]'(by omega)) (xs[j]'(by omega))) ∧ (compactK xs).length = xs.length := by
  rw [rightB, decide_eq_true_iff]
  constructor
  · rintro ⟨h1, h2, h3⟩
    refine ⟨h3, h1, fun j hj => ?_, by rw [compactK_asc _ h2]⟩
    exact ltK_asymm (List.pairwise_iff_getElem.1 h2 j (j + 1) (by omega) (by omega) (by omega))
  · rintro ⟨h1, h2, h3, h4⟩
    refine ⟨h2, asc_of_chain _ (fun j hj => ?_), h1⟩
    have h5 := h3 j (by omega)
    have h6 := compactK_chain xs h4 j hj
    apply Classical.byContradiction
    intro h7
    exact h6 (ltK_total h7 h5)
/-- Two lists have one in common. -/
def common (l m : List Key) : Bool := decide (∃ k ∈ l, k ∈ m)
theorem clash_law (a b : Sets) : (common a.writes b.writes || common a.writes b.reads || common a.reads b.writes) = clashS a b := by
  rw [Bool.eq_iff_iff]
  simp only [clashS, oneS, common, Bool.or_eq_true, decide_eq_true_iff]
  constructor
  · rintro ((⟨k, h1, h2⟩ | ⟨k, h1, h2⟩) | ⟨k, h1, h2⟩)
    · exact .inl ⟨k, h1, .inr h2⟩
    · exact .inl ⟨k, h1, .inl h2⟩
    · exact .inr ⟨k, h2, .inl h1⟩
  · rintro (⟨k, h1, h2 | h2⟩ | ⟨k, h1, h2 | h2⟩)
    · exact .inl (.inr ⟨k, h1, h2⟩)
    · exact .inl (.inl ⟨k, h1, h2⟩)
    · exact .inr ⟨k, h2, h1⟩
    · exact .inl (.inl ⟨k, h2, h1⟩)
theorem common_set (l m : List Key) : common (setK l) (setK m) = common l m := by
  rw [Bool.eq_iff_iff]; simp only [common, decide_eq_true_iff, mem_setK]
/-- What is in both of two lists in order: as the program goes through them. -/
theorem common_lt {a b : Key} {l m : List Key} (h : ltK a b) (hm : (b :: m).Pairwise ltK) : common (a :: l) (b :: m) = common l (b :: m) := by
  rw [Bool.eq_iff_iff]; simp only [common, decide_eq_true_iff]
  constructor
  · rintro ⟨k, h1, h2⟩
    rcases List.mem_cons.1 h1 with rfl | h1
    · exfalso
      rcases List.mem_cons.1 h2 with rfl | h2
      · exact ltK_irrefl _ h
      · exact ltK_asymm h ((List.pairwise_cons.1 hm).1 _ h2)
    · exact ⟨k, h1, h2⟩
  · rintro ⟨k, h1, h2⟩; exact ⟨k, List.mem_cons_of_mem _ h1, h2⟩
theorem common_comm (l m : List Key) : common l m = common m l := by
  rw [Bool.eq_iff_iff]; simp only [common, decide_eq_true_iff]
  exact ⟨fun ⟨k, a, b⟩ => ⟨k, b, a⟩, fun ⟨k, a, b⟩ => ⟨k, b, a⟩⟩
theorem common_gt {a b : Key} {l m : List Key} (h : ltK b a) (hl : (a :: l).Pairwise ltK) : common (a :: l) (b :: m) = common (a :: l) m := by
  rw [common_comm, common_lt h hl, common_comm]
theorem common_nil_left (m : List Key) : common [] m = false := by simp [common]
theorem common_nil_right (m : List Key) : common m [] = false := by simp [common]
theorem common_self (a : Key) (l m : List Key) : common (a :: l) (a :: m) = true := by simp [common]
theorem makeS_eq (r w : List Key) : makeS r w = if ¬ ((∀ k ∈ r, mayK k = true) ∧ (∀ k ∈ w, mayK k = true)) then (noSets, 1) else if rightS ⟨setK r, setK w⟩ then (⟨setK r, setK w⟩, 0) else (noSets, 2) := by
  unfold makeS
  by_cases h : (∀ k ∈ r, mayK k = true) ∧ (∀ k ∈ w, mayK k = true)
  · have e : rightS ⟨setK r, setK w⟩ = decide ((setK r).length ≤ 200 ∧ (setK w).length ≤ 200) := by
      have h1 : ∀ xs : List Key, (∀ k ∈ xs, mayK k = true) → rightB (setK xs) = decide ((setK xs).length ≤ 200) := by
        intro xs hx
        have : ∀ k ∈ setK xs, mayK k = true := fun k hk => hx k ((mem_setK xs k).1 hk)
        simp only [rightB, asc_setK, true_and]
        rw [decide_eq_decide]
        exact ⟨fun h => h.2, fun h => ⟨this, h⟩⟩
      rw [rightS, h1 r h.1, h1 w h.2, Bool.decide_and]
    have h' : ¬ ¬ ((∀ k ∈ r, mayK k = true) ∧ (∀ k ∈ w, mayK k = true)) := fun hh => hh h
    rw [e, if_neg h', if_neg h']
    by_cases h2 : (setK r).length ≤ 200 ∧ (setK w).length ≤ 200
    · rw [if_neg (fun h3 => by omega), if_pos (decide_eq_true h2)]
    · rw [if_pos (show 200 < (setK r).length ∨ 200 < (setK w).length from by omega), if_neg (by simpa using h2)]
  · rw [if_pos h, if_pos h]
/-- What is in both of two lists, in the first one's order. -/
def commonL (l m : List Key) : List Key := l.filter fun k => decide (k ∈ m)
theorem commonL_nil (l m : List Key) : commonL l m = [] ↔ common l m = false := by
  rw [commonL, List.filter_eq_nil_iff, common, decide_eq_false_iff_not]
  simp
theorem commonL_lt {a b : Key} {l m : List Key} (h : ltK a b) (hm : (b :: m).Pairwise ltK) : commonL (a :: l) (b :: m) = commonL l (b :: m) := by
  have h1 : a ∉ b :: m := fun h2 => by
    rcases List.mem_cons.1 h2 with rfl | h2
    · exact ltK_irrefl _ h
    · exact ltK_asymm h ((List.pairwise_cons.1 hm).1 _ h2)
  rw [commonL, List.filter_cons_of_neg (by simpa using h1)]; rfl
theorem commonL_gt {a b : Key} {l m : List Key} (h : ltK b a) (hl : (a :: l).Pairwise ltK) : commonL (a :: l) (b :: m) = commonL (a :: l) m := by
  unfold commonL
  refine List.filter_congr fun k hk => ?_
  have : k ≠ b := fun e => by
    subst e
    rcases List.mem_cons.1 hk with rfl | h2
    · exact ltK_irrefl _ h
    · exact ltK_asymm h ((List.pairwise_cons.1 hl).1 _ h2)
  simp [this]
theorem commonL_eq {a : Key} {l m : List Key} (hl : (a :: l).Pairwise ltK) : commonL (a :: l) (a :: m) = a :: commonL l m := by
  unfold commonL
  rw [List.filter_cons_of_pos (by simp)]
  congr 1
  refine List.filter_congr fun k hk => ?_
  have : k ≠ a := fun e => by
    subst e
    exact ltK_irrefl _ ((List.pairwise_cons.1 hl).1 _ hk)
  simp [this]
theorem cmpK_le {x y z : Key} (h1 : cmpK x y ≤ 0) (h2 : cmpK y z ≤ 0) : cmpK x z ≤ 0 := by
  have a1 := cmpK_anti x y
  have a2 := cmpK_anti y z
  have a3 := cmpK_anti x z
  have := leKB_trans x y z (by simp only [leKB, Bool.not_eq_true', decide_eq_false_iff_not]; omega) (by simp only [leKB, Bool.not_eq_true', decide_eq_false_iff_not]; omega)
  simp only [leKB, Bool.not_eq_true', decide_eq_false_iff_not] at this
  omega
theorem cmpK_ge {x y z : Key} (h1 : 0 ≤ cmpK x y) (h2 : 0 ≤ cmpK y z) : 0 ≤ cmpK x z := by
  have a1 := cmpK_anti x y
  have a2 := cmpK_anti y z
  have a3 := cmpK_anti x z
  have := cmpK_le (x := z) (y := y) (z := x) (by omega) (by omega)
  omega
theorem cmpK_bare (x : Key) : cmpK ⟨x.at_, false, Word.zero⟩ x ≤ 0 := by
  rw [cmpK_eq]
  simp only
  rw [show cmpA x.at_ x.at_ = 0 from lexN_self _]
  simp only [ne_eq, not_true_eq_false, if_false]
  cases x.slot with
  | true => simp
  | false =>
    simp only [if_true]
    unfold cmpW Word.code
    simp only [Word.zero, lexN]
    have h0 : (0 : UInt64).toNat = 0 := rfl
    simp only [h0]
    repeat' split
    all_goals omega
end Go.Rail
