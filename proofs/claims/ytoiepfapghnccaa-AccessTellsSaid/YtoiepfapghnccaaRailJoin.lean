/- Plain laws: sets of raw keys; what joins two. -/
import Derived.Test.YtoiepfapghnccaaRailSets
import Derived.Test.YtoiepfapghnccaaRailRead
set_option linter.unusedSimpArgs false
set_option linter.unusedVariables false
namespace Go.Rail
open Go
theorem setK_ext {xs ys : List Key} (h : ∀ k, k ∈ xs ↔ k ∈ ys) : setK xs = setK ys := asc_unique (asc_setK xs) (asc_setK ys) (fun k => by rw [mem_setK, mem_setK, h])
theorem setK_asc {xs : List Key} (h : xs.Pairwise ltK) : setK xs = xs := asc_unique (asc_setK xs) h (fun k => mem_setK xs k)
/-- What joins two sets. -/
def J (s t : Sets) : Sets := ⟨setK (s.reads ++ t.reads), setK (s.writes ++ t.writes)⟩
def small (n : Nat) (s : Sets) : Prop := s.reads.length ≤ n ∧ s.writes.length ≤ n
theorem right_parts {s : Sets} (h : rightS s = true) : (∀ k ∈ s.reads, mayK k = true) ∧ (∀ k ∈ s.writes, mayK k = true) ∧ s.reads.Pairwise ltK ∧ s.writes.Pairwise ltK ∧ small 200 s := by
  rw [rightS, Bool.and_eq_true, rightB, rightB, decide_eq_true_iff, decide_eq_true_iff] at h
  exact ⟨h.1.1, h.2.1, h.1.2.1, h.2.2.1, h.1.2.2, h.2.2.2⟩
theorem right_setK {xs ys : List Key} (hx : ∀ k ∈ xs, mayK k = true) (hy : ∀ k ∈ ys, mayK k = true) (lx : xs.length ≤ 200) (ly : ys.length ≤ 200) : rightS ⟨setK xs, setK ys⟩ = true := by
  have h1 := setK_length xs
  have h2 := setK_length ys
  rw [rightS, Bool.and_eq_true, rightB, rightB, decide_eq_true_iff, decide_eq_true_iff]
  exact ⟨⟨fun k hk => hx k ((mem_setK _ _).1 hk), asc_setK _, by dsimp only; omega⟩, ⟨fun k hk => hy k ((mem_setK _ _).1 hk), asc_setK _, by dsimp only; omega⟩⟩
theorem J_right {n m : Nat} {s t : Sets} (hs : rightS s = true) (ht : rightS t = true) (ls : small n s) (lt : small m t) (hnm : n + m ≤ 200) : rightS (J s t) = true := by
  obtain ⟨a1, a2, _, _, _⟩ := right_parts hs
  obtain ⟨b1, b2, _, _, _⟩ := right_parts ht
  refine right_setK ?_ ?_ (by have := ls.1; have := lt.1; simp; omega) (by have := ls.2; have := lt.2; simp; omega)
  · intro k hk; rcases List.mem_append.1 hk with h | h
    · exact a1 k h
    · exact b1 k h
  · intro k hk; rcases List.mem_append.1 hk with h | h
    · exact a2 k h
    · exact b2 k h
theorem J_small {n m : Nat} {s t : Sets} (ls : small n s) (lt : small m t) : small (n + m) (J s t) := by
  have h1 := setK_length (s.reads ++ t.reads)
  have h2 := setK_length (s.writes ++ t.writes)
  have a1 := ls.1
  have a2 := ls.2
  have b1 := lt.1
  have b2 := lt.2
  simp only [List.length_append] at h1 h2
  exact ⟨by show (setK _).length ≤ _; omega, by show (setK _).length ≤ _; omega⟩
theorem join_ok {n m : Nat} {s t : Sets} (hs : rightS s = true) (ht : rightS t = true) (ls : small n s) (lt : small m t) (hnm : n + m ≤ 200) : joinS s t = (J s t, 0) := by
  have hr := J_right hs ht ls lt hnm
  obtain ⟨a1, a2, _, _, _⟩ := right_parts hs
  obtain ⟨b1, b2, _, _, _⟩ := right_parts ht
  have hm : ¬ ¬ ((∀ k ∈ s.reads ++ t.reads, mayK k = true) ∧ (∀ k ∈ s.writes ++ t.writes, mayK k = true)) := fun h => h ⟨fun k hk => (List.mem_append.1 hk).elim (a1 k) (b1 k), fun k hk => (List.mem_append.1 hk).elim (a2 k) (b2 k)⟩
  have hr' : rightS ⟨setK (s.reads ++ t.reads), setK (s.writes ++ t.writes)⟩ = true := hr
  rw [joinS, hs, ht, Bool.and_self, if_pos rfl, makeS_eq, if_neg hm, if_pos hr']
  rfl
theorem J_comm (s t : Sets) : J s t = J t s := by
  unfold J
  rw [setK_ext (xs := s.reads ++ t.reads) (ys := t.reads ++ s.reads) (by intro k; simp [or_comm]), setK_ext (xs := s.writes ++ t.writes) (ys := t.writes ++ s.writes) (by intro k; simp [or_comm])]
theorem J_self {s : Sets} (hs : rightS s = true) : J s s = s := by
  obtain ⟨_, _, h1, h2, _⟩ := right_parts hs
  unfold J
  rw [setK_ext (xs := s.reads ++ s.reads) (ys := s.reads) (by intro k; simp), setK_ext (xs := s.writes ++ s.writes) (ys := s.writes) (by intro k; simp), setK_asc h1, setK_asc h2]
theorem J_assoc (s t u : Sets) : J (J s t) u = J s (J t u) := by
  unfold J
  simp only
  rw [setK_ext (xs := setK (s.reads ++ t.reads) ++ u.reads) (ys := s.reads ++ setK (t.reads ++ u.reads)) (by intro k; simp [mem_setK, or_assoc]), setK_ext (xs := setK (s.writes ++ t.writes) ++ u.writes) (ys := s.writes ++ setK (t.writes ++ u.writes)) (by intro k; simp [mem_setK, or_assoc])]
theorem common_iff (l m : List Key) : common l m = true ↔ ∃ k ∈ l, k ∈ m := by rw [common, decide_eq_true_iff]
theorem mem_J_r (s t : Sets) (k : Key) : k ∈ (J s t).reads ↔ k ∈ s.reads ∨ k ∈ t.reads := by show k ∈ setK _ ↔ _; rw [mem_setK, List.mem_append]
theorem mem_J_w (s t : Sets) (k : Key) : k ∈ (J s t).writes ↔ k ∈ s.writes ∨ k ∈ t.writes := by show k ∈ setK _ ↔ _; rw [mem_setK, List.mem_append]
theorem J_clash (a b c : Sets) : clashS (J a b) c = (clashS a c || clashS b c) := by
  rw [← clash_law, ← clash_law, ← clash_law, Bool.eq_iff_iff]
  simp only [Bool.or_eq_true, common_iff, mem_J_r, mem_J_w]
  constructor
  · rintro ((⟨k, h1 | h1, h2⟩ | ⟨k, h1 | h1, h2⟩) | ⟨k, h1 | h1, h2⟩)
    · exact .inl (.inl (.inl ⟨k, h1, h2⟩))
    · exact .inr (.inl (.inl ⟨k, h1, h2⟩))
    · exact .inl (.inl (.inr ⟨k, h1, h2⟩))
    · exact .inr (.inl (.inr ⟨k, h1, h2⟩))
    · exact .inl (.inr ⟨k, h1, h2⟩)
    · exact .inr (.inr ⟨k, h1, h2⟩)
  · rintro (((⟨k, h1, h2⟩ | ⟨k, h1, h2⟩) | ⟨k, h1, h2⟩) | ((⟨k, h1, h2⟩ | ⟨k, h1, h2⟩) | ⟨k, h1, h2⟩))
    · exact .inl (.inl ⟨k, .inl h1, h2⟩)
    · exact .inl (.inr ⟨k, .inl h1, h2⟩)
    · exact .inr ⟨k, .inl h1, h2⟩
    · exact .inl (.inl ⟨k, .inr h1, h2⟩)
    · exact .inl (.inr ⟨k, .inr h1, h2⟩)
    · exact .inr ⟨k, .inr h1, h2⟩
theorem J_may (a b : Sets) (k : Key) (w : Bool) : mayS (J a b) k w = (mayS a k w || mayS b k w) := by
  rw [Bool.eq_iff_iff]
  simp only [mayS, Bool.or_eq_true, Bool.and_eq_true, Bool.not_eq_true', decide_eq_true_iff, mem_J_r, mem_J_w]
  constructor
  · rintro ((h | h) | ⟨h0, h | h⟩)
    · exact .inl (.inl h)
    · exact .inr (.inl h)
    · exact .inl (.inr ⟨h0, h⟩)
    · exact .inr (.inr ⟨h0, h⟩)
  · rintro ((h | ⟨h0, h⟩) | (h | ⟨h0, h⟩))
    · exact .inl (.inl h)
    · exact .inr ⟨h0, .inl h⟩
    · exact .inl (.inr h)
    · exact .inr ⟨h0, .inr h⟩
theorem clash_comm (a b : Sets) : clashS a b = clashS b a := by unfold clashS; rw [Bool.or_comm]
theorem clash_self (a : Sets) : clashS a a = decide (0 < a.writes.length) := by
  rw [Bool.eq_iff_iff]
  simp only [clashS, oneS, Bool.or_self, decide_eq_true_iff]
  constructor
  · rintro ⟨k, hk, _⟩; exact List.length_pos_of_mem hk
  · intro h; exact ⟨a.writes[0], List.getElem_mem _, .inr (List.getElem_mem _)⟩
theorem may_clash {a b : Sets} {k : Key} (h1 : mayS a k true = true) (h2 : mayS b k false = true) : clashS a b = true := by
  simp only [mayS, Bool.not_true, Bool.false_and, Bool.or_false, decide_eq_true_iff] at h1
  simp only [mayS, Bool.not_false, Bool.true_and, Bool.or_eq_true, decide_eq_true_iff] at h2
  simp only [clashS, oneS, Bool.or_eq_true, decide_eq_true_iff]
  exact .inl ⟨k, h1, h2.symm⟩
theorem may_weaken {a : Sets} {k : Key} (h : mayS a k true = true) : mayS a k false = true := by
  simp only [mayS, Bool.not_true, Bool.false_and, Bool.or_false, decide_eq_true_iff] at h
  simp only [mayS, Bool.not_false, Bool.true_and, Bool.or_eq_true, decide_eq_true_iff]
  exact .inl h
theorem mayK_of (a b : Int) : mayK (Key.of a b) = true := by
  unfold Key.of
  split
  · simp [mayK]
  · simp [mayK]
end Go.Rail
