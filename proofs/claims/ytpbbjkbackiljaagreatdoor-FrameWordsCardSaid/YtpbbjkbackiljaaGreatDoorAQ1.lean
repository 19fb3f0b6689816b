/- The document's Push. -/
import Derived.Test.YtpbbjkbackiljaaGreatDoorABJF0
set_option linter.unusedSimpArgs false
set_option linter.unusedVariables false
namespace Go.Rail
open Go Go.Proofs
set_option maxHeartbeats 400000
set_option maxRecDepth 4000
attribute [local irreducible] OpK G W LW wpListIn Exit.then Exit.inBlock Post rounds opRun bodyPostM intOp
set_option maxHeartbeats 2000000
def pdS (d : List UInt8) (k : Nat) : List UInt8 := (List.range k).map fun j => d.getD j 0
theorem pdS_succ (d : List UInt8) (k : Nat) : pdS d (k + 1) = pdS d k ++ [d.getD k 0] := by
  unfold pdS
  rw [List.range_succ, List.map_append]
  rfl
theorem pdS_len (d : List UInt8) (k : Nat) : (pdS d k).length = k := by simp [pdS]
theorem pdS_eq (d : List UInt8) (k : Nat) : pdS d k = d.take k ++ List.replicate (k - (d.take k).length) 0 := by
  apply List.ext_getElem?
  intro i
  unfold pdS
  rw [List.getElem?_map, List.length_take]
  by_cases hi : i < k
  · rw [List.getElem?_range hi]
    by_cases hd : i < d.length
    · rw [List.getElem?_append_left (by rw [List.length_take]; omega), List.getElem?_take, if_pos hi, List.getElem?_eq_getElem hd]
      simp [List.getD_eq_getElem?_getD, List.getElem?_eq_getElem hd]
    · rw [List.getElem?_append_right (by rw [List.length_take]; omega), List.length_take, List.getElem?_replicate, if_pos (by omega)]
      simp [List.getD_eq_getElem?_getD, List.getElem?_eq_none (show d.length ≤ i by omega)]
  · rw [List.getElem?_eq_none (by rw [List.length_range]; omega), List.getElem?_eq_none (by rw [List.length_append, List.length_take, List.length_replicate]; omega)]
    rfl
theorem rpush14_spec (l : List UInt8) (p m : Nat) (hl : l.length ≤ 1000000) (hp : p < l.length) (hm : m ≤ 32) : FnV Tryz.prog 25 [.string (ba l), .int .i64 (p : Int), .int .i64 (m : Int)] [] (opushL l (p : Int) (m : Int)).v := by
  unfold opushL
  by_cases h1 : m = 0
  · subst h1
    rw [if_pos (.inl (by decide))]
    refine Fn.enter Tryz.func25 rfl Tryz.ntmps25 (by simp) (fun I0 w0 => ?_)
    repeat (first | (refine sty ?_; try intro _) | (refine st ?_; try intro _) | (refine stz ?_; try intro _) | (refine stq ?_; try intro _))
    refine G.retV ?_
    rfl
  rw [if_neg (by omega), Int.toNat_natCast, Int.toNat_natCast, ← pdS_eq]
  obtain ⟨d, hd⟩ : ∃ d, d = l.drop (p + 1) := ⟨_, rfl⟩
  rw [← hd]
  have hdl : d.length = l.length - (p + 1) := by rw [hd]; exact List.length_drop ..
  have hfb := rfb_spec (pdS d m) (by rw [pdS_len]; omega)
  refine Fn.enter Tryz.func25 rfl Tryz.ntmps25 (by simp) (fun I0 w0 => ?_)
  repeat (first | (refine sty ?_; try intro _) | (refine st ?_; try intro _) | (refine stz ?_; try intro _) | (refine stq ?_; try intro _))
  rename_i b6
  refine W.lp (S := Nat) (fun k => ([], [(8, .int .i64 ((k + 1 : Nat) : Int)), (7, .string (ba (pdS d k))), (6, .pointer (some ⟨b6, 0, none⟩)), (2, .int .i64 (m : Int)), (1, .int .i64 (p : Int)), (0, .string (ba l))], [(b6, Ob Word.zero.cells 49)])) (fun k => k ≤ m) (fun k => m - k) 0 ?_ (h0 := Nat.zero_le _)
  intro k hk
  dsimp only at hk ⊢
  have hkl := pdS_len d k
  by_cases hkm : k = m
  · subst hkm
    repeat (first | (refine sty ?_; try intro _) | (refine st ?_; try intro _) | (refine stz ?_; try intro _) | (refine stq ?_; try intro _))
    refine o_callV rfl rfl rfl rfl hfb rfl ?_
    repeat (first | (refine sty ?_; try intro _) | (refine st ?_; try intro _) | (refine stz ?_; try intro _) | (refine stq ?_; try intro _))
    refine G.retV ?_
    rfl
  · have hst := pdS_succ d k
    by_cases hin : p + 1 + k < l.length
    · have e : (l.take (p + (k + 1) + 1)).drop (p + (k + 1)) = [d.getD k 0] := by
        rw [List.drop_take, show p + (k + 1) + 1 - (p + (k + 1)) = 1 from by omega, show p + (k + 1) = (p + 1) + k from by omega, ← List.drop_drop, ← hd]
        rw [List.drop_eq_getElem_cons (show k < d.length by omega), List.take_succ_cons, List.take_zero]
        simp [List.getD_eq_getElem?_getD, List.getElem?_eq_getElem (show k < d.length by omega)]
      repeat (first | (refine sty ?_; try intro _) | (refine st ?_; try intro _) | (refine stz ?_; try intro _) | (refine stq ?_; try intro _))
      rw [e]
      rw [← hst]
      exact G.ag (S := Nat) (k + 1) (hpre := by show k + 1 ≤ m; omega)
    · have hz : d.getD k 0 = 0 := by rw [List.getD_eq_getElem?_getD, List.getElem?_eq_none (by omega)]; rfl
      rw [hz] at hst
      repeat (first | (refine sty ?_; try intro _) | (refine st ?_; try intro _) | (refine stz ?_; try intro _) | (refine stq ?_; try intro _))
      rw [show pdS d k ++ [0] = pdS d (k + 1) from hst.symm]
      exact G.ag (S := Nat) (k + 1) (hpre := by show k + 1 ≤ m; omega)
end Go.Rail
