/- Frames: programs that store words. -/
import Derived.Test.YtpbbjkbackiljaaGreatDoorAFSP3
set_option linter.unusedSimpArgs false
set_option linter.unusedVariables false
namespace Go.Rail
open Go Go.Proofs
set_option maxHeartbeats 1000000
abbrev Sto := Nat × Word
def memB (s : Sto) : List UInt8 := 0x7f :: (byN s.2.num ++ (0x61 :: [UInt8.ofNat (s.1 / 256), UInt8.ofNat (s.1 % 256), 0x52]))
def memC (l : List Sto) : List UInt8 := l.flatMap memB
theorem memB_len (s : Sto) : (memB s).length = 37 := by simp [memB, byN_len]
theorem memC_len : ∀ l : List Sto, (memC l).length = 37 * l.length
  | [] => rfl
  | s :: l => by
    show (memB s ++ memC l).length = _
    rw [List.length_append, memB_len, memC_len l, List.length_cons]
    omega
def mW (n : Nat) (s : Sto) : Nat := max n ((s.1 + 63) / 32)
def mS (m : List UInt8) (s : Sto) : List UInt8 := putF (growF m (mW (m.length / 32) s)) s.1 (byN s.2.num)
theorem mS_eq (m : List UInt8) (s : Sto) (h : m.length % 32 = 0) : ∃ a b, mS m s = a ++ (byN s.2.num ++ b) ∧ a.length = s.1 ∧ (mS m s).length = 32 * mW (m.length / 32) s := by
  have hw : mW (m.length / 32) s = max (m.length / 32) ((s.1 + 63) / 32) := rfl
  have hl := growF_len m (mW (m.length / 32) s)
  have hb := byN_len s.2.num
  have e : mS m s = (growF m (mW (m.length / 32) s)).take s.1 ++ (byN s.2.num ++ (growF m (mW (m.length / 32) s)).drop (s.1 + 32)) := by
    unfold mS putF
    rw [if_neg (fun h => by rw [h] at hb; cases hb), if_pos (by omega), hb, List.append_assoc]
  refine ⟨_, _, e, by rw [List.length_take]; omega, ?_⟩
  rw [e, List.length_append, List.length_append, List.length_take, List.length_drop, hb]
  omega
abbrev mF (code : List UInt8) (pc : Nat) (st : List Word) (mem : List UInt8) (g : Int) : Frm := ⟨code, [], pc, st, mem, g, [], 0, 0, []⟩
theorem m_Rt {code : List UInt8} {pc : Nat} {st : List Word} {mem : List UInt8} {g : Int} (hc : code.length ≤ 1000) (hp : pc ≤ 1000) (hs : st.length ≤ 100) (hm : mem.length % 32 = 0) (hml : mem.length ≤ 1000) (h4 : 0 ≤ g) (h5 : g ≤ 5000) : Rt (mF code pc st mem g) :=
  ⟨by show code.length ≤ _; omega, Nat.zero_le _, Nat.zero_le _, Nat.zero_le _, by show (0 : Int) ≤ (pc : Int); omega, by show (pc : Int) ≤ _; omega, h4, by show g ≤ _; omega, by show st.length ≤ _; omega, by show mem.length ≤ _; omega, hm, Int.le_refl _, (by decide : (0 : Int) ≤ 4), ⟨fun h => absurd rfl h, fun h => absurd (show (0 : Int) = 4 from h) (by decide)⟩, .inl rfl⟩
theorem wordB_byN (w : Word) : wordB (byN w.num) = w := by
  unfold wordB
  have e : ∀ k < 32, byG (byN w.num) k = w.num / 256 ^ k % 256 := by
    intro k hk
    unfold byG
    have hb := byN_len w.num
    rw [List.getD_eq_getElem?_getD, List.getElem?_reverse (by omega), byN_at _ _ (by omega), hb, show 32 - 1 - k = 31 - k from by omega, show 31 - (31 - k) = k from by omega]
    show (UInt8.ofNat _).toNat = _
    rw [UInt8.toNat_ofNat', show (256 : Nat) ^ k = 2 ^ (8 * k) from by rw [Nat.pow_mul]]
    omega
  rw [sumB_congr e, sumB_self 256 w.num (by decide) 32]
  exact (Word.nat_mod w.num).trans (Word.nat_num w)
theorem wordB_two_all : ((List.range 600).all fun p => decide (wordB [UInt8.ofNat (p / 256), UInt8.ofNat (p % 256)] = Word.nat p)) = true := by kernel_rfl
theorem wordB_two {p : Nat} (h : p < 600) : wordB [UInt8.ofNat (p / 256), UInt8.ofNat (p % 256)] = Word.nat p := of_decide_eq_true (List.all_eq_true.1 wordB_two_all p (List.mem_range.2 h))
theorem opush_at {pre post b : List UInt8} {op : UInt8} {n : Nat} (h1 : 1 ≤ n) (h2 : n ≤ 32) (hb : b.length = n) : opushL (pre ++ (op :: (b ++ post))) (pre.length : Int) (n : Int) = wordB b := by
  unfold opushL
  rw [if_neg (by rw [List.length_append, List.length_cons]; omega)]
  have e : (pre ++ (op :: (b ++ post))).drop (((pre.length : Nat) : Int).toNat + 1) = b ++ post := by
    rw [show ((pre.length : Nat) : Int).toNat + 1 = pre.length + 1 from by omega, List.drop_append, List.drop_of_length_le (by omega)]
    simp
  rw [e, show ((n : Nat) : Int).toNat = n from by omega, ← hb, List.take_left]
  simp
theorem getD_at' {pre post : List UInt8} {op : UInt8} : (pre ++ (op :: post)).getD pre.length 0 = op := by
  rw [List.getD_eq_getElem?_getD]
  simp
theorem g7f : gasN 0x7f = 3 := by kernel_rfl
theorem g61 : gasN 0x61 = 3 := by kernel_rfl
theorem costF_small {n : Nat} (h : n ≤ 20) : costF n = 3 * n := by
  unfold costF
  have : min n 32768 = n := by omega
  rw [this]
  have : n * n ≤ 20 * 20 := Nat.mul_le_mul h h
  omega
theorem mem_round (hash : List UInt8 → List UInt8) {pre post mem : List UInt8} {s : Sto} {g : Int} (hl : (pre ++ (memB s ++ post)).length ≤ 1000) (hp : s.1 < 600) (hm : mem.length % 32 = 0) (hml : mem.length ≤ 640) (hg : (9 + 3 * mW (mem.length / 32) s : Int) ≤ g + 3 * (mem.length / 32 : Nat)) (h0 : 0 ≤ g) (h5 : g ≤ 5000) :
    Goes hash 3 (mF (pre ++ (memB s ++ post)) pre.length [] mem g) (mF (pre ++ (memB s ++ post)) (pre.length + 37) [] (mS mem s) (g - 9 - 3 * (mW (mem.length / 32) s : Int) + 3 * ((mem.length / 32 : Nat) : Int))) := by
  have hw : mW (mem.length / 32) s = max (mem.length / 32) ((s.1 + 63) / 32) := rfl
  have hb := byN_len s.2.num
  have hcl : (pre ++ (memB s ++ post)).length = pre.length + 37 + post.length := by rw [List.length_append, List.length_append, memB_len]; omega
  have e1 : pre ++ (memB s ++ post) = pre ++ (0x7f :: (byN s.2.num ++ ((0x61 :: [UInt8.ofNat (s.1 / 256), UInt8.ofNat (s.1 % 256), 0x52]) ++ post))) := by
    unfold memB; simp
  have e2 : pre ++ (memB s ++ post) = (pre ++ (0x7f :: byN s.2.num)) ++ (0x61 :: ([UInt8.ofNat (s.1 / 256), UInt8.ofNat (s.1 % 256)] ++ (0x52 :: post))) := by
    unfold memB; simp
  have e3 : pre ++ (memB s ++ post) = (pre ++ (0x7f :: byN s.2.num) ++ (0x61 :: [UInt8.ofNat (s.1 / 256), UInt8.ofNat (s.1 % 256)])) ++ (0x52 :: post) := by
    unfold memB; simp
  have l2 : (pre ++ (0x7f :: byN s.2.num)).length = pre.length + 33 := by rw [List.length_append, List.length_cons, hb]
  have l3 : (pre ++ (0x7f :: byN s.2.num) ++ (0x61 :: [UInt8.ofNat (s.1 / 256), UInt8.ofNat (s.1 % 256)])).length = pre.length + 36 := by rw [List.length_append, l2]; rfl
  have d1 : (pre ++ (memB s ++ post)).getD pre.length 0 = 0x7f := by rw [e1]; exact getD_at'
  have d2 : (pre ++ (memB s ++ post)).getD (pre.length + 33) 0 = 0x61 := by rw [e2, ← l2]; exact getD_at'
  have d3 : (pre ++ (memB s ++ post)).getD (pre.length + 36) 0 = 0x52 := by rw [e3, ← l3]; exact getD_at'
  have u1 : opushL (pre ++ (memB s ++ post)) (pre.length : Nat) (32 : Nat) = s.2 := by rw [e1, opush_at (by decide) (by decide) hb, wordB_byN]
  have u2 : opushL (pre ++ (memB s ++ post)) ((pre.length + 33 : Nat) : Int) (2 : Nat) = .nat s.1 := by rw [e2, ← l2, opush_at (n := 2) (by decide) (by decide) rfl, wordB_two hp]
  generalize pre ++ (memB s ++ post) = code at *
  have w1 : stepL hash (mF code pre.length [] mem g) = (mF code (pre.length + 33) [s.2] mem (g - 3), 0) := by
    have := step_push hash (mF code pre.length [] mem g) (m_Rt hl (by omega) (by decide) hm (by omega) h0 h5) rfl 0x7f (by show (pre.length : Int) < (code.length : Int); omega) (by show code.getD ((pre.length : Nat) : Int).toNat 0 = _; rw [show ((pre.length : Nat) : Int).toNat = pre.length from by omega, d1]) (by decide) (by decide) (by show (0 : Nat) < 1024; decide)
    rw [show (0x7f : UInt8).toNat = 0x7f from rfl, g7f, if_neg (by show ¬ g < 3; omega)] at this
    rw [this]
    show ((⟨code, [], (pre.length : Int) + 1 + ((32 : Nat) : Int), [opushL code (pre.length : Nat) (32 : Nat)], mem, g - 3, [], 0, 0, []⟩ : Frm), (0 : Int)) = _
    rw [u1, show (pre.length : Int) + 1 + ((32 : Nat) : Int) = ((pre.length + 33 : Nat) : Int) from by omega]
  have w2 : stepL hash (mF code (pre.length + 33) [s.2] mem (g - 3)) = (mF code (pre.length + 36) [s.2, .nat s.1] mem (g - 6), 0) := by
    have := step_push hash (mF code (pre.length + 33) [s.2] mem (g - 3)) (m_Rt hl (by omega) (show (1 : Nat) ≤ 100 by decide) hm (by omega) (by omega) (by omega)) rfl 0x61 (by show ((pre.length + 33 : Nat) : Int) < (code.length : Int); omega) (by show code.getD ((pre.length + 33 : Nat) : Int).toNat 0 = _; rw [show ((pre.length + 33 : Nat) : Int).toNat = pre.length + 33 from by omega, d2]) (by decide) (by decide) (by show (1 : Nat) < 1024; decide)
    rw [show (0x61 : UInt8).toNat = 0x61 from rfl, g61, if_neg (by show ¬ g - 3 < 3; omega)] at this
    rw [this]
    show ((⟨code, [], ((pre.length + 33 : Nat) : Int) + 1 + ((2 : Nat) : Int), [s.2, opushL code ((pre.length + 33 : Nat) : Int) (2 : Nat)], mem, g - 3 - 3, [], 0, 0, []⟩ : Frm), (0 : Int)) = _
    rw [u2, show ((pre.length + 33 : Nat) : Int) + 1 + ((2 : Nat) : Int) = ((pre.length + 36 : Nat) : Int) from by omega, show g - 3 - 3 = g - 6 from by omega]
  have w3 : stepL hash (mF code (pre.length + 36) [s.2, .nat s.1] mem (g - 6)) = (mF code (pre.length + 37) [] (mS mem s) (g - 9 - 3 * (mW (mem.length / 32) s : Int) + 3 * ((mem.length / 32 : Nat) : Int)), 0) := by
    obtain ⟨a1, a2, a3, a4, a5, a6, a7⟩ := opB_at o52
    have hr : reachF (mem.length / 32) (spanF 0x52 [.nat s.1, s.2]) = some (mW (mem.length / 32) s) := by
      show reachF (mem.length / 32) [(.nat s.1, .nat 32)] = _
      unfold reachF
      have hn : needF (.nat s.1) (.nat 32) = some ((s.1 + 63) / 32) := by
        unfold needF
        rw [if_neg (show ¬ Word.nat 32 = .zero from by decide), addW_n (by omega) (by decide), nat_num (by omega), nat_num (by omega), if_pos (by omega)]
      rw [show ((Word.nat s.1, Word.nat 32) : Word × Word).1 = .nat s.1 from rfl, show ((Word.nat s.1, Word.nat 32) : Word × Word).2 = .nat 32 from rfl, hn]
      rfl
    obtain ⟨_, h⟩ := step_gen hash (f := mF code (pre.length + 36) [s.2, .nat s.1] mem (g - 6)) (op := 0x52) (words := mW (mem.length / 32) s) (l := [.nat s.1, s.2]) (m_Rt hl (by omega) (show (2 : Nat) ≤ 100 by decide) hm (by omega) (by omega) (by omega)) rfl (by show ((pre.length + 36 : Nat) : Int) < (code.length : Int); omega) (by show (code.getD ((pre.length + 36 : Nat) : Int).toNat 0).toNat = _; rw [show ((pre.length + 36 : Nat) : Int).toNat = pre.length + 36 from by omega, d3]; rfl) a7 (takeF_eq a1 a2 a3 a4 (show (2 : Nat) ≤ 1024 by decide) (show (2 : Nat) ≤ 2 by decide) (show 2 + 0 ≤ 1024 + 2 by decide)) hr
    have hc1 := costF_small (n := mW (mem.length / 32) s) (by omega)
    have hc2 := costF_small (n := mem.length / 32) (by omega)
    have e : needG (mF code (pre.length + 36) [s.2, .nat s.1] mem (g - 6)) 0x52 (mW (mem.length / 32) s) (moreF 0x52 [.nat s.1, s.2]) = 3 * (mW (mem.length / 32) s : Int) - 3 * ((mem.length / 32 : Nat) : Int) + 3 := by
      show (costF (mW (mem.length / 32) s) : Int) - (costF (mem.length / 32) : Int) + (gasN 0x52 : Int) + ((0 : Nat) : Int) = _
      rw [a5, hc1, hc2]
      omega
    rw [e] at h
    refine h (by show _ ≤ g - 6; omega) _ ?_
    have e : ∀ f l, doF hash 0x52 f l = ({ f with mem := putF f.mem (numF (l.getD 0 .zero)) (byN (l.getD 1 .zero).num) }, 0) := fun f l => by kernel_rfl
    rw [e]
    have hnf : numF (Word.nat s.1) = s.1 := by unfold numF; rw [nat_num (by omega)]; omega
    unfold pdF
    rw [a6, if_neg (by decide), a3]
    show ((⟨code, [], ((pre.length + 36 : Nat) : Int) + 1, [], putF (growF mem (mW (mem.length / 32) s)) (numF (Word.nat s.1)) (byN s.2.num), g - 6 - needG (mF code (pre.length + 36) [s.2, .nat s.1] mem (g - 6)) 0x52 (mW (mem.length / 32) s) (moreF 0x52 [.nat s.1, s.2]), [], 0, 0, []⟩ : Frm), (0 : Int)) = _
    rw [hnf, ‹needG _ _ _ _ = _›, show ((pre.length + 36 : Nat) : Int) + 1 = ((pre.length + 37 : Nat) : Int) from by omega, show g - 6 - (3 * (mW (mem.length / 32) s : Int) - 3 * ((mem.length / 32 : Nat) : Int) + 3) = g - 9 - 3 * (mW (mem.length / 32) s : Int) + 3 * ((mem.length / 32 : Nat) : Int) from by omega]
    rfl
  exact ((Goes.step w1).trans (Goes.step w2)).trans (Goes.step w3)
end Go.Rail
