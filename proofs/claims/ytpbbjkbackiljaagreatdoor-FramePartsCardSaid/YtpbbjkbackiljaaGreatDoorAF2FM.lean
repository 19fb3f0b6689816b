/- Frames: what a run leaves; with more gas. -/
import Derived.Test.YtpbbjkbackiljaaGreatDoorAF1F6
import Derived.Test.YtpbbjkbackiljaaGreatDoorAK4FL
import Derived.Test.YtpbbjkbackiljaaGreatDoorRailJ
set_option linter.unusedVariables false
set_option linter.unusedSimpArgs false
namespace Go.Rail
open Go Go.Proofs
set_option maxHeartbeats 2000000
theorem stepL_law (hash : List UInt8 → List UInt8) {f : Frm} (h : Rt f) (h0 : (stepL hash f).2 = 0) :
    f.status = 0 ∧ Rt (stepL hash f).1 ∧ (stepL hash f).1.code = f.code ∧ f.mem.length ≤ (stepL hash f).1.mem.length ∧ (stepL hash f).1.gas ≤ f.gas ∧ ((stepL hash f).1.status = 0 → (stepL hash f).1.gas < f.gas) := by
  unfold stepL at h0 ⊢
  rw [right_Rt.2 h, if_neg (by decide)] at h0 ⊢
  by_cases hs : f.status ≠ 0
  · rw [if_pos hs] at h0; cases h0
  rw [if_neg hs] at h0 ⊢
  have hs0 : f.status = 0 := by omega
  by_cases hp : (f.code.length : Int) ≤ f.pc
  · rw [if_pos hp]
    obtain ⟨a1, a2, a3, a4, a5, a6, a7, a8, a9, a10, a11, a12, a13, a14, a15⟩ := h
    refine ⟨hs0, ⟨a1, a2, a3, a4, a5, a6, a7, a8, a9, a10, a11, by show (0 : Int) ≤ 1; decide, by show (1 : Int) ≤ 4; decide, ?_, .inl ?_⟩, rfl, Nat.le_refl _, Int.le_refl _, fun h => by cases h⟩
    · show f.errno ≠ 0 ↔ (1 : Int) = 4
      constructor
      · intro h; have := a14.1 h; omega
      · intro h; cases h
    · rcases a15 with h | h | h <;> first | exact h | omega
  rw [if_neg hp] at h0 ⊢
  by_cases hl : localF (f.code.getD f.pc.toNat 0).toNat = false
  · rw [if_pos hl] at h0; cases h0
  rw [if_neg hl]
  exact ⟨hs0, stepF_law hash (UInt8.toNat_lt _) h hs0 (by omega) (by simpa using hl)⟩
theorem runL_law (hash : List UInt8 → List UInt8) : ∀ (m : Nat) (f : Frm), Rt f → Rt (runL hash m f).1 ∧ (runL hash m f).1.code = f.code ∧ (runL hash m f).1.gas ≤ f.gas ∧ ((runL hash m f).2 = m → (runL hash m f).1.status = 0 → (runL hash m f).1.gas + (m : Int) ≤ f.gas)
  | 0, f, h => ⟨h, rfl, Int.le_refl _, fun _ _ => by show f.gas + 0 ≤ _; omega⟩
  | m + 1, f, h => by
    rw [runL_s]
    by_cases h1 : (stepL hash f).2 ≠ 0
    · rw [if_pos h1]
      exact ⟨h, rfl, Int.le_refl _, fun h => by cases h⟩
    rw [if_neg h1]
    obtain ⟨s0, s1, s2, s3, s4, s5⟩ := stepL_law hash h (by omega)
    obtain ⟨r1, r2, r3, r4⟩ := runL_law hash m _ s1
    refine ⟨r1, by rw [← s2]; exact r2, by dsimp only; omega, fun hn hst => ?_⟩
    dsimp only at hn hst ⊢
    by_cases hs : (stepL hash f).1.status = 0
    · have := s5 hs
      have := r4 (by omega) hst
      omega
    · exfalso
      cases m with
      | zero => exact hs hst
      | succ m =>
        have he : (stepL hash (stepL hash f).1).2 ≠ 0 := by
          intro h0
          exact hs (stepL_law hash s1 h0).1
        have : (runL hash (m + 1) (stepL hash f).1).2 = 0 := by rw [runL_s, if_pos he]
        omega
/-- It ends, or asks for more. -/
theorem runL_ends (hash : List UInt8 → List UInt8) (f : Frm) (h : Rt f) (hst : (runL hash (f.gas.toNat + 1) f).1.status = 0) :
    (runL hash (f.gas.toNat + 1) f).1.pc < (runL hash (f.gas.toNat + 1) f).1.code.length ∧ localF ((runL hash (f.gas.toNat + 1) f).1.code.getD (runL hash (f.gas.toNat + 1) f).1.pc.toNat 0).toNat = false := by
  obtain ⟨r1, r2, r3, r4⟩ := runL_law hash (f.gas.toNat + 1) f h
  obtain ⟨q1, q2⟩ := runL_le hash (f.gas.toNat + 1) f
  generalize runL hash (f.gas.toNat + 1) f = r at *
  obtain ⟨g, n⟩ := r
  dsimp only at *
  have hg : 0 ≤ f.gas := h.2.2.2.2.2.2.1
  have hgg : 0 ≤ g.gas := r1.2.2.2.2.2.2.1
  have hn : n < f.gas.toNat + 1 := by
    rcases Nat.lt_or_ge n (f.gas.toNat + 1) with h | h
    · exact h
    · have := r4 (by omega) hst; omega
  have he := q2 hn
  unfold stepL at he
  rw [right_Rt.2 r1, if_neg (by decide), if_neg (by omega)] at he
  by_cases hp : (g.code.length : Int) ≤ g.pc
  · rw [if_pos hp] at he; exact absurd rfl he
  · rw [if_neg hp] at he
    refine ⟨by omega, ?_⟩
    cases hl : localF (g.code.getD g.pc.toNat 0).toNat with
    | false => rfl
    | true => rw [hl, if_neg (by decide)] at he; exact absurd rfl he
def shF (k : Int) (f : Frm) : Frm := { f with gas := f.gas + k }
theorem jumpF_sh (k : Int) (f : Frm) (to : Nat) : jumpF (shF k f) to = (shF k (jumpF f to).1, (jumpF f to).2) := by
  unfold jumpF
  show (if (to : Int) ∈ jmL f.code then _ else _) = _
  split <;> rfl
theorem doF_sh (hash : List UInt8 → List UInt8) (k : Int) (f : Frm) (op : Nat) (l : List Word) (h : op ≠ 90) : doF hash op (shF k f) l = (shF k (doF hash op f l).1, (doF hash op f l).2) := by
  unfold doF
  by_cases e : isC op = true
  · rw [if_pos e, if_pos e]; rfl
  rw [if_neg e, if_neg e]
  by_cases e : 95 ≤ op ∧ op ≤ 127
  · rw [if_pos e, if_pos e]; rfl
  rw [if_neg e, if_neg e]
  by_cases e : op = 0
  · rw [if_pos e, if_pos e]; rfl
  rw [if_neg e, if_neg e]
  by_cases e : op = 32
  · rw [if_pos e, if_pos e]; rfl
  rw [if_neg e, if_neg e]
  by_cases e : op = 53
  · rw [if_pos e, if_pos e]; rfl
  rw [if_neg e, if_neg e]
  by_cases e : op = 54
  · rw [if_pos e, if_pos e]; rfl
  rw [if_neg e, if_neg e]
  by_cases e : op = 55
  · rw [if_pos e, if_pos e]; rfl
  rw [if_neg e, if_neg e]
  by_cases e : op = 56
  · rw [if_pos e, if_pos e]; rfl
  rw [if_neg e, if_neg e]
  by_cases e : op = 57
  · rw [if_pos e, if_pos e]; rfl
  rw [if_neg e, if_neg e]
  by_cases e : op = 61
  · rw [if_pos e, if_pos e]; rfl
  rw [if_neg e, if_neg e]
  by_cases e : op = 62
  · rw [if_pos e, if_pos e]
    show (if f.ret.length < _ then _ else _) = _
    split <;> rfl
  rw [if_neg e, if_neg e]
  by_cases e : op = 81
  · rw [if_pos e, if_pos e]; rfl
  rw [if_neg e, if_neg e]
  by_cases e : op = 82
  · rw [if_pos e, if_pos e]; rfl
  rw [if_neg e, if_neg e]
  by_cases e : op = 83
  · rw [if_pos e, if_pos e]; rfl
  rw [if_neg e, if_neg e]
  by_cases e : op = 86
  · rw [if_pos e, if_pos e]; exact jumpF_sh _ _ _
  rw [if_neg e, if_neg e]
  by_cases e : op = 87
  · rw [if_pos e, if_pos e]
    split
    · rfl
    · exact jumpF_sh _ _ _
  rw [if_neg e, if_neg e]
  by_cases e : op = 88
  · rw [if_pos e, if_pos e]; rfl
  rw [if_neg e, if_neg e]
  by_cases e : op = 89
  · rw [if_pos e, if_pos e]; rfl
  rw [if_neg e, if_neg e, if_neg h, if_neg h]
  by_cases e : op = 243
  · rw [if_pos e, if_pos e]; rfl
  rw [if_neg e, if_neg e]
  by_cases e : op = 253
  · rw [if_pos e, if_pos e]; rfl
  rw [if_neg e, if_neg e]
theorem payF_sh {k : Int} (hk : 0 ≤ k) {f p : Frm} {op more : Nat} {sp : List (Word × Word)} (h : payF f op more sp = some p) : payF (shF k f) op more sp = some (shF k p) := by
  unfold payF at h ⊢
  show (match reachF (f.mem.length / 32) sp with | none => none | some words => if f.gas + k < (costF words : Int) - (costF (f.mem.length / 32) : Int) + (gasN op : Int) + (more : Int) then none else some _) = _
  split at h
  · cases h
  · rename_i words hw
    split at h
    · cases h
    · rename_i hg
      injection h with h
      subst h
      rw [hw]
      have e : f.gas + k - ((costF words : Int) - (costF (f.mem.length / 32) : Int) + (gasN op : Int) + (more : Int)) = f.gas - ((costF words : Int) - (costF (f.mem.length / 32) : Int) + (gasN op : Int) + (more : Int)) + k := by omega
      dsimp only
      rw [if_neg (show ¬ f.gas + k < (costF words : Int) - (costF (f.mem.length / 32) : Int) + (gasN op : Int) + (more : Int) from by omega)]
      show some (⟨_, _, _, _, _, f.gas + k - ((costF words : Int) - (costF (f.mem.length / 32) : Int) + (gasN op : Int) + (more : Int)), _, _, _, _⟩ : Frm) = _
      rw [e]
      rfl
/-- A frame that has so much more gas, if it did not fail. -/
def sameF (k : Int) (f : Frm) : Frm := if f.status = 4 then f else shF k f
theorem doF_st (hash : List UInt8 → List UInt8) (f : Frm) (hs : f.status = 0) (op : Nat) (l : List Word) : (doF hash op f l).1.status ≠ 4 := by
  have h0 : f.status ≠ 4 := by omega
  have hj : ∀ to, (jumpF f to).1.status ≠ 4 := fun to => by unfold jumpF; split <;> exact h0
  have h1 : (1 : Int) ≠ 4 := by decide
  have h2 : (2 : Int) ≠ 4 := by decide
  have h3 : (3 : Int) ≠ 4 := by decide
  unfold doF
  by_cases e : isC op = true
  · rw [if_pos e]; exact h0
  rw [if_neg e]
  by_cases e : 95 ≤ op ∧ op ≤ 127
  · rw [if_pos e]; exact h0
  rw [if_neg e]
  by_cases e : op = 0
  · rw [if_pos e]; exact h1
  rw [if_neg e]
  by_cases e : op = 32
  · rw [if_pos e]; exact h0
  rw [if_neg e]
  by_cases e : op = 53
  · rw [if_pos e]; exact h0
  rw [if_neg e]
  by_cases e : op = 54
  · rw [if_pos e]; exact h0
  rw [if_neg e]
  by_cases e : op = 55
  · rw [if_pos e]; exact h0
  rw [if_neg e]
  by_cases e : op = 56
  · rw [if_pos e]; exact h0
  rw [if_neg e]
  by_cases e : op = 57
  · rw [if_pos e]; exact h0
  rw [if_neg e]
  by_cases e : op = 61
  · rw [if_pos e]; exact h0
  rw [if_neg e]
  by_cases e : op = 62
  · rw [if_pos e]
    by_cases e2 : f.ret.length < numF (l.getD 1 .zero) + numF (l.getD 2 .zero)
    · rw [if_pos e2]; exact h0
    · rw [if_neg e2]; exact h0
  rw [if_neg e]
  by_cases e : op = 81
  · rw [if_pos e]; exact h0
  rw [if_neg e]
  by_cases e : op = 82
  · rw [if_pos e]; exact h0
  rw [if_neg e]
  by_cases e : op = 83
  · rw [if_pos e]; exact h0
  rw [if_neg e]
  by_cases e : op = 86
  · rw [if_pos e]; exact hj _
  rw [if_neg e]
  by_cases e : op = 87
  · rw [if_pos e]
    by_cases e2 : l.getD 1 Word.zero = Word.zero
    · rw [if_pos e2]; exact h0
    · rw [if_neg e2]; exact hj _
  rw [if_neg e]
  by_cases e : op = 88
  · rw [if_pos e]; exact h0
  rw [if_neg e]
  by_cases e : op = 89
  · rw [if_pos e]; exact h0
  rw [if_neg e]
  by_cases e : op = 90
  · rw [if_pos e]; exact h0
  rw [if_neg e]
  by_cases e : op = 243
  · rw [if_pos e]; exact h2
  rw [if_neg e]
  by_cases e : op = 253
  · rw [if_pos e]; exact h3
  rw [if_neg e]
  exact h0
theorem payF_st {f p : Frm} {op more : Nat} {sp : List (Word × Word)} (h : payF f op more sp = some p) : p.status = f.status := by
  unfold payF at h
  split at h
  · cases h
  · split at h
    · cases h
    · injection h with h; subst h; rfl
theorem stepF_sh (hash : List UInt8 → List UInt8) {k : Int} (hk : 0 ≤ k) {f : Frm} {op : Nat} (hop : op ≠ 90) (hs : f.status = 0) (h : (stepF hash f op).errno ≠ 43) : stepF hash (shF k f) op = sameF k (stepF hash f op) := by
  unfold stepF at h ⊢
  rw [show (shF k f).stack = f.stack from rfl]
  by_cases ht : (takeF f.stack op).2 ≠ 0
  · rw [if_pos ht, if_pos ht]
    unfold sameF
    rw [if_pos (show (failF f (takeF f.stack op).2).status = 4 from rfl)]; rfl
  rw [if_neg ht] at h
  rw [if_neg ht, if_neg ht]
  cases hp : payF f op (moreF op (takeF f.stack op).1) (spanF op (takeF f.stack op).1) with
  | none => rw [hp] at h; exact absurd rfl h
  | some p =>
    rw [payF_sh hk hp]
    dsimp only
    rw [doF_sh hash k p op _ hop]
    dsimp only
    by_cases hd : (doF hash op p (takeF f.stack op).1).2 ≠ 0
    · rw [if_pos hd, if_pos hd]
      unfold sameF
      rw [if_pos (show (failF f (doF hash op p (takeF f.stack op).1).2).status = 4 from rfl)]; rfl
    · rw [if_neg hd, if_neg hd]
      unfold sameF
      rw [if_neg (doF_st hash p (by rw [payF_st hp]; exact hs) op _)]
theorem stepL_sh (hash : List UInt8 → List UInt8) {k : Int} (hk : 0 ≤ k) {f : Frm} (h : Rt f) (hg : f.gas + k ≤ 2000000) (hc : ∀ b ∈ f.code, b.toNat ≠ 90) (h0 : (stepL hash f).2 = 0) (he : (stepL hash f).1.errno ≠ 43) :
    stepL hash (shF k f) = (sameF k (stepL hash f).1, 0) := by
  have hsh : rightF (shF k f) = true := by
    obtain ⟨a1, a2, a3, a4, a5, a6, a7, a8, a9⟩ := h
    exact right_Rt.2 ⟨a1, a2, a3, a4, a5, a6, by show 0 ≤ f.gas + k; omega, by show f.gas + k ≤ _; omega, a9⟩
  unfold stepL at h0 he ⊢
  rw [right_Rt.2 h, if_neg (by decide)] at h0 he
  rw [hsh, if_neg (show ¬ true = false by decide), right_Rt.2 h, if_neg (show ¬ true = false by decide)]
  show (if f.status ≠ 0 then _ else if (f.code.length : Int) ≤ f.pc then _ else if localF (f.code.getD f.pc.toNat 0).toNat = false then _ else _) = _
  by_cases hs : f.status ≠ 0
  · rw [if_pos hs] at h0; cases h0
  rw [if_neg hs] at h0 he
  rw [if_neg hs, if_neg hs]
  by_cases hp : (f.code.length : Int) ≤ f.pc
  · rw [if_pos hp, if_pos hp]
    unfold sameF
    rw [if_neg (by show ¬ (1 : Int) = 4; decide)]; rfl
  rw [if_neg hp] at h0 he
  rw [if_neg hp, if_neg hp]
  by_cases hl : localF (f.code.getD f.pc.toNat 0).toNat = false
  · rw [if_pos hl] at h0; cases h0
  rw [if_neg hl] at he
  rw [if_neg hl, if_neg hl]
  have hpc : 0 ≤ f.pc := h.2.2.2.2.1
  have hlt : f.pc.toNat < f.code.length := by omega
  have hop : (f.code.getD f.pc.toNat 0).toNat ≠ 90 := by
    rw [List.getD_eq_getElem?_getD, List.getElem?_eq_getElem hlt]
    exact hc _ (List.getElem_mem hlt)
  exact congrArg (fun q => (q, (0 : Int))) (stepF_sh hash hk hop (by omega) he)
/-- With more gas the same is done, so much more is left. -/
theorem runL_more (hash : List UInt8 → List UInt8) {k : Int} (hk : 0 ≤ k) : ∀ (m : Nat) (f : Frm), Rt f → f.gas + k ≤ 2000000 → (∀ b ∈ f.code, b.toNat ≠ 90) → (runL hash m f).1.errno ≠ 43 → f.status = 0 →
    runL hash (runL hash m f).2 (shF k f) = (sameF k (runL hash m f).1, (runL hash m f).2)
  | 0, f, h, _, _, _, hs => by
    show (shF k f, 0) = _
    unfold sameF
    show _ = (if f.status = 4 then f else shF k f, 0)
    rw [if_neg (by omega)]
  | m + 1, f, h, hg, hc, he, hs => by
    rw [runL_s] at he ⊢
    by_cases h1 : (stepL hash f).2 ≠ 0
    · rw [if_pos h1]
      show (shF k f, 0) = (sameF k f, 0)
      unfold sameF
      rw [if_neg (by omega)]
    rw [if_neg h1] at he ⊢
    have h10 : (stepL hash f).2 = 0 := by omega
    obtain ⟨s0, s1, s2, s3, s4, s5⟩ := stepL_law hash h h10
    dsimp only at he ⊢
    by_cases hst : (stepL hash f).1.status = 0
    · have he1 : (stepL hash f).1.errno ≠ 43 := by
        have := s1.2.2.2.2.2.2.2.2.2.2.2.2.2.1
        intro h43
        have := this.1 (by omega)
        omega
      have hsh := stepL_sh hash hk h hg hc h10 he1
      have ih := runL_more hash hk m (stepL hash f).1 s1 (by omega) (by rw [s2]; exact hc) he hst
      rw [runL_s]
      rw [hsh]
      dsimp only
      rw [if_neg (show ¬ (0 : Int) ≠ 0 by decide)]
      rw [show sameF k (stepL hash f).1 = shF k (stepL hash f).1 from if_neg (by omega), ih]
    · have hz : runL hash m (stepL hash f).1 = ((stepL hash f).1, 0) := by
        cases m with
        | zero => rfl
        | succ m =>
          have : (stepL hash (stepL hash f).1).2 ≠ 0 := fun h0 => hst (stepL_law hash s1 h0).1
          rw [runL_s, if_pos this]
      rw [hz] at he ⊢
      have hsh := stepL_sh hash hk h hg hc h10 he
      rw [runL_s]
      rw [hsh]
      dsimp only
      rw [if_neg (show ¬ (0 : Int) ≠ 0 by decide)]
      rfl
end Go.Rail
set_option linter.unusedSimpArgs false
set_option linter.unusedVariables false
namespace Go.Rail
open Go Go.Proofs
set_option maxHeartbeats 1000000
/-- What opcodes that push are. -/
def chkU (n : Nat) : Bool := !(decide (95 ≤ n ∧ n ≤ 127)) || (!(isC n) && foundF n && (infoN n).isSome && decide (popsN n = 0) && decide (pushN' n = 1) && decide (n ≠ 254) && decide (n ≠ 10) && decide (n ≠ 32) && decide (n ≠ 55) && decide (n ≠ 57) && decide (n ≠ 62) && decide (gasN n ≤ 3) && decide (1 ≤ gasN n))
theorem chkU_all : ((List.range 256).all chkU) = true := by kernel_rfl
theorem chkU_at {n : Nat} (h1 : 95 ≤ n) (h2 : n ≤ 127) : isC n = false ∧ foundF n = true ∧ (infoN n).isSome = true ∧ popsN n = 0 ∧ pushN' n = 1 ∧ 1 ≤ gasN n ∧ gasN n ≤ 3 := by
  have h := List.all_eq_true.1 chkU_all n (List.mem_range.2 (by omega))
  unfold chkU at h
  rw [decide_eq_true (show 95 ≤ n ∧ n ≤ 127 from ⟨h1, h2⟩)] at h
  simp only [Bool.not_true, Bool.false_or, Bool.and_eq_true, Bool.not_eq_true', decide_eq_true_eq] at h
  obtain ⟨⟨⟨⟨⟨⟨⟨⟨⟨⟨⟨⟨a1, a2⟩, a3⟩, a4⟩, a5⟩, _⟩, _⟩, _⟩, _⟩, _⟩, _⟩, a6⟩, a7⟩ := h
  exact ⟨a1, a2, a3, a4, a5, a7, a6⟩
end Go.Rail
namespace Go.Rail
open Go Go.Proofs
set_option linter.unusedSimpArgs false
set_option linter.unusedVariables false
set_option maxHeartbeats 400000
set_option maxRecDepth 4000
attribute [local irreducible] OpK G W LW wpListIn Exit.then Exit.inBlock Post rounds opRun bodyPostM intOp
set_option maxHeartbeats 4000000
/-- The table of acts. -/
def actsT (c : Nat → Nat) : List (Int × Value) :=
  [(0, .agg #[.func (.func 94) #[] #[], .nilFunc, .nilFunc]),
   (32, .agg #[.func (.func 95) #[] #[], .func (.func 185) #[] #[.pointer (some ⟨c 0, 0, none⟩), .pointer (some ⟨c 1, 0, none⟩)], .func (.func 187) #[] #[.pointer (some ⟨c 2, 0, none⟩), .pointer (some ⟨c 3, 0, none⟩)]]),
   (53, .agg #[.func (.func 99) #[] #[], .nilFunc, .nilFunc]),
   (54, .agg #[.func (.func 100) #[] #[], .nilFunc, .nilFunc]),
   (55, .agg #[.func (.func 102) #[] #[], .func (.func 185) #[] #[.pointer (some ⟨c 4, 0, none⟩), .pointer (some ⟨c 5, 0, none⟩)], .func (.func 187) #[] #[.pointer (some ⟨c 6, 0, none⟩), .pointer (some ⟨c 7, 0, none⟩)]]),
   (56, .agg #[.func (.func 105) #[] #[], .nilFunc, .nilFunc]),
   (57, .agg #[.func (.func 106) #[] #[], .func (.func 185) #[] #[.pointer (some ⟨c 8, 0, none⟩), .pointer (some ⟨c 9, 0, none⟩)], .func (.func 187) #[] #[.pointer (some ⟨c 10, 0, none⟩), .pointer (some ⟨c 11, 0, none⟩)]]),
   (61, .agg #[.func (.func 107) #[] #[], .nilFunc, .nilFunc]),
   (62, .agg #[.func (.func 108) #[] #[], .func (.func 185) #[] #[.pointer (some ⟨c 12, 0, none⟩), .pointer (some ⟨c 13, 0, none⟩)], .func (.func 187) #[] #[.pointer (some ⟨c 14, 0, none⟩), .pointer (some ⟨c 15, 0, none⟩)]]),
   (81, .agg #[.func (.func 109) #[] #[], .nilFunc, .func (.func 190) #[] #[.pointer (some ⟨c 16, 0, none⟩)]]),
   (82, .agg #[.func (.func 112) #[] #[], .nilFunc, .func (.func 190) #[] #[.pointer (some ⟨c 17, 0, none⟩)]]),
   (83, .agg #[.func (.func 114) #[] #[], .nilFunc, .func (.func 190) #[] #[.pointer (some ⟨c 18, 0, none⟩)]]),
   (86, .agg #[.func (.func 115) #[] #[], .nilFunc, .nilFunc]),
   (87, .agg #[.func (.func 116) #[] #[], .nilFunc, .nilFunc]),
   (88, .agg #[.func (.func 117) #[] #[], .nilFunc, .nilFunc]),
   (89, .agg #[.func (.func 118) #[] #[], .nilFunc, .nilFunc]),
   (90, .agg #[.func (.func 119) #[] #[], .nilFunc, .nilFunc]),
   (91, .agg #[.func (.func 120) #[] #[], .nilFunc, .nilFunc]),
   (243, .agg #[.func (.func 121) #[] #[], .nilFunc, .func (.func 187) #[] #[.pointer (some ⟨c 19, 0, none⟩), .pointer (some ⟨c 20, 0, none⟩)]]),
   (253, .agg #[.func (.func 123) #[] #[], .nilFunc, .func (.func 187) #[] #[.pointer (some ⟨c 21, 0, none⟩), .pointer (some ⟨c 22, 0, none⟩)]])]
abbrev actsF (c : Nat → Nat) : List Fa :=
  [fBlk (c 21) [.int .i64 0] 3, fBlk (c 22) [.int .i64 1] 3,
   fBlk (c 19) [.int .i64 0] 3, fBlk (c 20) [.int .i64 1] 3,
   fBlk (c 18) [.int .i64 1] 3,
   fBlk (c 17) [.int .i64 32] 3,
   fBlk (c 16) [.int .i64 32] 3,
   fBlk (c 14) [.int .i64 0] 3, fBlk (c 15) [.int .i64 2] 3,
   fBlk (c 12) [.func (.func 104) #[] #[]] 107, fBlk (c 13) [.int .i64 2] 3,
   fBlk (c 10) [.int .i64 0] 3, fBlk (c 11) [.int .i64 2] 3,
   fBlk (c 8) [.func (.func 104) #[] #[]] 107, fBlk (c 9) [.int .i64 2] 3,
   fBlk (c 6) [.int .i64 0] 3, fBlk (c 7) [.int .i64 2] 3,
   fBlk (c 4) [.func (.func 104) #[] #[]] 107, fBlk (c 5) [.int .i64 2] 3,
   fBlk (c 2) [.int .i64 0] 3, fBlk (c 3) [.int .i64 1] 3,
   fBlk (c 0) [.func (.func 97) #[] #[]] 107, fBlk (c 1) [.int .i64 1] 3]
def cOf (l : List Nat) (i : Nat) : Nat := l.getD i 0
theorem acts_spec : Fn Tryz.prog 60 [] [] [] (fun u Φ' M' => ∃ b l, u = .map (some b) ∧ Φ' = fObj b (MapV (actsT (cOf l))) :: actsF (cOf l) ∧ M' = []) := by
  refine Fn.enter Tryz.func60 rfl Tryz.ntmps60 (by simp) (fun I0 w0 => ?_)
  repeat (first | (refine sty ?_; try intro _) | (refine st ?_; try intro _) | (refine stz ?_; try intro _) | (refine stq ?_; try intro _))
  refine o_makeMapV rfl rfl ?_
  intro b
  repeat (first
    | (refine st ?_; try intro _)
    | refine o_insV rfl rfl rfl rfl (by kernel_rfl) ?_
    | (refine OpK.call rfl rfl rfl rfl (fof_spec _ _) inferInstance (Mr := _) (List.Perm.refl _) ?_; rintro _ _ _ ⟨_, _, rfl, rfl, rfl⟩; dsimp only [List.cons_append, List.nil_append, List.append_nil])
    | (refine OpK.call rfl rfl rfl rfl (fpiece_spec _ _) inferInstance (Mr := _) (List.Perm.refl _) ?_; rintro _ _ _ ⟨_, _, rfl, rfl, rfl⟩; dsimp only [List.cons_append, List.nil_append, List.append_nil])
    | (refine OpK.call rfl rfl rfl rfl (ffixed_spec _) inferInstance (Mr := _) (List.Perm.refl _) ?_; rintro _ _ _ ⟨_, rfl, rfl, rfl⟩; dsimp only [List.cons_append, List.nil_append, List.append_nil]))
  rename_i c0 c1 c2 c3 c4 c5 c6 c7 c8 c9 c10 c11 c12 c13 c14 c15 c16 c17 c18 c19 c20 c21 c22
  refine G.giveObj b (MapV (actsT (cOf [c0, c1, c2, c3, c4, c5, c6, c7, c8, c9, c10, c11, c12, c13, c14, c15, c16, c17, c18, c19, c20, c21, c22]))) (m := MDel.head) ?_
  exact G.ret rfl (.cons (.tmp rfl) .nil) (Φ' := fObj b (MapV (actsT (cOf [c0, c1, c2, c3, c4, c5, c6, c7, c8, c9, c10, c11, c12, c13, c14, c15, c16, c17, c18, c19, c20, c21, c22]))) :: actsF (cOf [c0, c1, c2, c3, c4, c5, c6, c7, c8, c9, c10, c11, c12, c13, c14, c15, c16, c17, c18, c19, c20, c21, c22])) (M' := []) ⟨fun I hp => hp⟩ (List.nil_sublist _) ⟨b, [c0, c1, c2, c3, c4, c5, c6, c7, c8, c9, c10, c11, c12, c13, c14, c15, c16, c17, c18, c19, c20, c21, c22], rfl, rfl, rfl⟩
/-- What the functions of the table do: a frame that has paid is done with. -/
def RDo (B : Nat) (av : Value) (p : Frm × Int) : Value → List Fa → Own → Prop := fun u Φ' M' => ∃ a c, u = .tuple #[] ∧ Φ' = [fRp (.slice a p.1.stack.length c) p.1.stack] ∧ M' = [(B, Ob (runC p.1 (.slice a p.1.stack.length c) av p.2) 94)]
def DoOK (op : Nat) (fd : FuncId) (cd : List Value) (Φx : List Fa) : Prop := ∀ (B : Nat) (f : Frm) (sv av : Value) (l : List Word) (o : OR), Paid f op → l.length = popsN op → (isC op = false → ∃ r, infoN op = some r) → IsOwn (GoTy.sz Word) sv f.stack.length o →
  Fn Tryz.prog fd ([.pointer (some ⟨B, 0, none⟩)] ++ cd) (fRow (ocells o) f.stack :: fRp av l :: fKc :: Φx) ((B, Ob (runC f sv av 0) 94) :: ownM 49 o) (RDo B av (doF keccakL op f l))
def MoreOK (op : Nat) (v : Value) (Φx : List Fa) : Prop := (v = .nilFunc ∧ ∀ l, moreF op l = 0) ∨ ∃ g cg, v = .func (.func g) #[] cg.toArray ∧ HasFn Tryz.prog g ∧ ∀ (av : Value) (l : List Word), l.length = popsN op → FnV Tryz.prog g ([av] ++ cg) (fRp av l :: Φx) (.int .i64 ((moreF op l : Nat) : Int))
def ReachOK (op : Nat) (v : Value) (Φx : List Fa) : Prop := (v = .nilFunc ∧ ∀ l, spanF op l = []) ∨ ∃ g cg, v = .func (.func g) #[] cg.toArray ∧ HasFn Tryz.prog g ∧ ∀ (av : Value) (l : List Word), l.length = popsN op → ∃ s : Spn, spanF op l = [(s.at_, s.n)] ∧ FnV Tryz.prog g ([av] ++ cg) (fRp av l :: Φx) s.v
/-- An act that is what an opcode is told to do. -/
def ActOK (op : Nat) (x : Value) (Φx : List Fa) : Prop := ∃ fd cd more reach, x = .agg #[.func (.func fd) #[] cd.toArray, more, reach] ∧ HasFn Tryz.prog fd ∧ DoOK op fd cd Φx ∧ MoreOK op more Φx ∧ ReachOK op reach Φx
/-- A contract with more given, of which some is given away ahead. -/
theorem Fn.lay {P : Program} {f : FuncId} {args : List Value} {Φ Φ1 ψ : List Fa} {M M1 : Own} {R : Value → List Fa → Own → Prop} (h : Fn P f args Φ1 M1 R)
    (hl : ∀ I w, (∀ φ ∈ Φ, φ.p I) → Wd ⟨I, doms M, w⟩ I M w → ∃ I1, (∀ φ ∈ Φ1, φ.p I1) ∧ (∀ φ ∈ ψ, φ.p I1) ∧ Wd ⟨I, doms M, w⟩ I1 M1 w) : Fn P f args Φ M (fun u Φ' M' => ∃ Φ2, R u Φ2 M' ∧ Φ' = Φ2 ++ ψ) := by
  intro I w hp hw
  obtain ⟨I1, h1, h2, h3⟩ := hl I w hp hw
  refine (h I1 w h1 (h3.start (List.Sublist.refl _))).mono ?_
  rintro e w' ⟨v, Φ2, M2, I2, rfl, hR, hf, hwd⟩
  have hb := Wd.back (Mr := []) (by rw [List.append_nil]; exact h3) hwd
  rw [List.append_nil] at hb
  refine ⟨v, Φ2 ++ ψ, M2, I2, rfl, ⟨Φ2, hR, rfl⟩, fun φ hφ => ?_, hb⟩
  rcases List.mem_append.1 hφ with hφ | hφ
  · exact hf φ hφ
  · exact φ.mono _ _ hwd.up (h2 φ hφ)
end Go.Rail
