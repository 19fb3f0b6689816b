/- Frames: what programs that store words leave. -/
import Derived.Test.YtpbbjkbackiljaaGreatDoorAP5
set_option linter.unusedSimpArgs false
set_option linter.unusedVariables false
namespace Go.Rail
open Go Go.Proofs
set_option maxHeartbeats 1000000
theorem memC_app (a b : List Sto) : memC (a ++ b) = memC a ++ memC b := List.flatMap_append
theorem mW_le {n : Nat} {s : Sto} (h : n ≤ 20) (hs : s.1 < 600) : mW n s ≤ 20 := by unfold mW; omega
theorem mem_way (hash : List UInt8 → List UInt8) : ∀ (l : List Sto) (pre : List UInt8) (mem : List UInt8) (w : Nat) (g : Int), (pre ++ memC l).length ≤ 1000 → (∀ s ∈ l, s.1 < 600) → mem.length = 32 * w → w ≤ 20 → (9 * l.length + 60 : Int) ≤ g + 3 * w → 0 ≤ g → g ≤ 5000 →
    Goes hash (3 * l.length) (mF (pre ++ memC l) pre.length [] mem g) (mF (pre ++ memC l) (pre.length + 37 * l.length) [] (l.foldl mS mem) (g - 9 * l.length - 3 * (l.foldl mW w : Nat) + 3 * w)) ∧ (l.foldl mS mem).length = 32 * l.foldl mW w ∧ l.foldl mW w ≤ 20
  | [], pre, mem, w, g, _, _, hm, hw, _, _, _ => by
    refine ⟨?_, hm, hw⟩
    show Goes hash 0 (mF _ _ [] mem g) (mF _ (pre.length + 0) [] mem (g - 9 * ((0 : Nat) : Int) - 3 * (w : Int) + 3 * w))
    rw [Nat.add_zero, show g - 9 * ((0 : Nat) : Int) - 3 * (w : Int) + 3 * w = g from by omega]
    exact Goes.refl hash _
  | s :: l, pre, mem, w, g, hc, hs, hm, hw, hg, h0, h5 => by
    have e : pre ++ memC (s :: l) = pre ++ (memB s ++ memC l) := rfl
    have e2 : pre ++ (memB s ++ memC l) = (pre ++ memB s) ++ memC l := (List.append_assoc _ _ _).symm
    have hp := hs s (.head _)
    have hw2 := mW_le hw hp
    have hdiv : mem.length / 32 = w := by omega
    have hge : w ≤ mW w s := Nat.le_max_left _ _
    have r := mem_round hash (pre := pre) (post := memC l) (mem := mem) (s := s) (g := g) (by rw [← e]; exact hc) hp (by omega) (by omega) (by rw [hdiv]; rw [List.length_cons] at hg; omega) h0 h5
    obtain ⟨_, _, _, _, hml⟩ := mS_eq mem s (by omega)
    rw [hdiv] at r hml
    rw [List.length_cons] at hg
    have ih := mem_way hash l (pre ++ memB s) (mS mem s) (mW w s) (g - 9 - 3 * (mW w s : Int) + 3 * (w : Int)) (by rw [← e2, ← e]; exact hc) (fun x hx => hs x (.tail _ hx)) hml hw2 (by omega) (by omega) (by omega)
    obtain ⟨i1, i2, i3⟩ := ih
    refine ⟨?_, i2, i3⟩
    rw [e]
    rw [← e2, show (pre ++ memB s).length = pre.length + 37 from by rw [List.length_append, memB_len]] at i1
    have := r.trans i1
    rw [List.length_cons, show 3 * (l.length + 1) = 3 + 3 * l.length from by omega, show pre.length + 37 * (l.length + 1) = pre.length + 37 + 37 * l.length from by omega, List.foldl_cons, List.foldl_cons]
    rw [show g - 9 * ((l.length + 1 : Nat) : Int) - 3 * (l.foldl mW (mW w s) : Nat) + 3 * w = g - 9 - 3 * (mW w s : Int) + 3 * (w : Int) - 9 * l.length - 3 * (l.foldl mW (mW w s) : Nat) + 3 * (mW w s : Nat) from by omega]
    exact this
abbrev memE (l : List Sto) : Frm := ⟨memC l, [], ((memC l).length : Nat), [], l.foldl mS [], 5000 - 9 * l.length - 3 * (l.foldl mW 0 : Nat), [], 1, 0, []⟩
theorem mem_run (hash : List UInt8 → List UInt8) {l : List Sto} (hl : l.length ≤ 8) (hs : ∀ s ∈ l, s.1 < 600) :
    runL hash 100 (mF (memC l) 0 [] [] 5000) = (memE l, 3 * l.length + 1) ∧ (l.foldl mS []).length = 32 * l.foldl mW 0 ∧ l.foldl mW 0 ≤ 20 := by
  have hc : (memC l).length ≤ 1000 := by rw [memC_len]; omega
  obtain ⟨r, r2, r3⟩ := mem_way hash l [] [] 0 5000 hc hs rfl (by decide) (by omega) (by decide) (by decide)
  refine ⟨?_, r2, r3⟩
  rw [List.nil_append] at r
  have hr := r (100 - 3 * l.length)
  rw [show 3 * l.length + (100 - 3 * l.length) = 100 from by omega] at hr
  rw [show mF (memC l) 0 [] [] 5000 = mF (memC l) ([] : List UInt8).length [] [] 5000 from rfl, hr]
  have hpc : ([] : List UInt8).length + 37 * l.length = (memC l).length := by rw [memC_len]; simp
  rw [hpc, show (5000 : Int) - 9 * l.length - 3 * (l.foldl mW 0 : Nat) + 3 * ((0 : Nat) : Int) = 5000 - 9 * l.length - 3 * (l.foldl mW 0 : Nat) from by omega]
  have hRt : Rt (mF (memC l) (memC l).length [] (l.foldl mS []) (5000 - 9 * l.length - 3 * (l.foldl mW 0 : Nat))) := m_Rt hc hc (by decide) (by omega) (by omega) (by omega) (by omega)
  obtain ⟨t, ht⟩ : ∃ t, 100 - 3 * l.length = t + 1 := ⟨99 - 3 * l.length, by omega⟩
  rw [ht, runL_s, stop_step hash _ hRt rfl (Int.le_refl _), if_neg (show ¬ (0 : Int) ≠ 0 by decide), runL_done hash _ (show (1 : Int) ≠ 0 by decide)]
  show (memE l, 0 + 1 + 3 * l.length) = _
  rw [show 0 + 1 + 3 * l.length = 3 * l.length + 1 from by omega]
theorem mem_last (l : List Sto) (s : Sto) (h : ((l.foldl mS []).length) % 32 = 0) : (((l ++ [s]).foldl mS []).drop s.1).take 32 = byN s.2.num ∧ s.1 + 32 ≤ ((l ++ [s]).foldl mS []).length := by
  rw [List.foldl_append, List.foldl_cons, List.foldl_nil]
  obtain ⟨a, b, e, ha, hl⟩ := mS_eq (l.foldl mS []) s h
  have hb := byN_len s.2.num
  refine ⟨?_, ?_⟩
  · rw [e, ← ha, List.drop_left, ← hb, List.take_left]
  · rw [e, List.length_append, List.length_append, hb]
    omega
end Go.Rail
