/- Layer 14: OpcodePushes, walked. -/
import Derived.Test.YtkocobiglipecaaDoorABGBK
namespace Go.Rail
open Go Go.Proofs
set_option linter.unusedSimpArgs false
set_option linter.unusedVariables false
set_option maxHeartbeats 400000
set_option maxRecDepth 4000
attribute [local irreducible] OpK G W LW wpListIn Exit.then Exit.inBlock Post rounds opRun bodyPostM intOp
set_option maxHeartbeats 2000000
def wantP (x : List UInt8) (k j : Nat) : List UInt8 := (List.range j).map fun i => x.getD (k + 1 + i) 0
theorem wantP_len (x : List UInt8) (k j : Nat) : (wantP x k j).length = j := by simp [wantP]
theorem wantP_succ (x : List UInt8) (k j : Nat) : wantP x k (j + 1) = wantP x k j ++ [x.getD (k + 1 + j) 0] := by simp [wantP, List.range_succ]
theorem push_want (x : List UInt8) (k m : Nat) (hk : k < x.length) (h1 : 1 ≤ m) (h2 : m ≤ 32) : pushL x (k : Int) (m : Int) = wordB (wantP x k m) := by
  unfold pushL
  rw [if_neg (by omega), Int.toNat_natCast, Int.toNat_natCast]
  congr 1
  apply List.ext_getElem?
  intro i
  have hl : ((x.drop (k + 1)).take m).length = min m (x.length - (k + 1)) := by rw [List.length_take, List.length_drop]
  by_cases hi : i < m
  · rw [wantP, List.getElem?_map, List.getElem?_range hi, Option.map_some]
    by_cases h3 : k + 1 + i < x.length
    · rw [List.getElem?_append_left (by omega), List.getElem?_take, if_pos hi, List.getElem?_drop, List.getD_eq_getElem?_getD, List.getElem?_eq_getElem h3]; rfl
    · rw [List.getElem?_append_right (by omega), List.getElem?_replicate, if_pos (by omega), List.getD_eq_getElem?_getD, List.getElem?_eq_none (by omega)]; rfl
  · rw [List.getElem?_eq_none (by rw [List.length_append, List.length_replicate]; omega), List.getElem?_eq_none (by rw [wantP_len]; omega)]
theorem push_none (x : List UInt8) (n : Int) : pushL x (x.length : Int) n = .zero := by
  unfold pushL; rw [if_pos (.inr (.inr (.inr (Int.le_refl _))))]
theorem push_zero (x : List UInt8) (k : Int) : pushL x k 0 = .zero := by
  unfold pushL; rw [if_pos (.inl (by decide))]
attribute [local irreducible] wordB pushL wantP
theorem pushes_walk (l : List UInt8) (pc n : Int) (hl : l.length ≤ 4611686018427387904) (h1 : -9223372036854775808 ≤ pc) (h2 : -9223372036854775808 ≤ n) :
    FnV Tryd.prog 7 [.string (ba l), .int .i64 pc, .int .i64 n] [] (.bool true) := by
  refine Fn.enter Tryd.func7 rfl Tryd.ntmps7 (by simp) (fun I0 w0 => ?_)
  repeat (first | (refine sty ?_; try intro _) | (refine st ?_; try intro _) | (refine stz ?_; try intro _) | (refine stq ?_; try intro _))
  refine o_callV rfl rfl rfl rfl awake14_spec rfl ?_
  repeat (first | (refine sty ?_; try intro _) | (refine st ?_; try intro _) | (refine stz ?_; try intro _) | (refine stq ?_; try intro _))
  refine o_slT 0 (min l.length 60) rfl rfl rfl bd0 ⟨_, _, rfl, by split <;> omega⟩ (Nat.zero_le _) (by omega) ?_
  rw [List.drop_zero]
  have hx : (l.take (min l.length 60)).length ≤ 60 := by rw [List.length_take]; omega
  generalize l.take (min l.length 60) = x at hx ⊢
  by_cases h0 : x = []
  · subst h0
    have hp := push_spec [] 0 1 (by decide)
    rw [show pushL [] 0 1 = .zero from by unfold pushL; rfl] at hp
    repeat (first | (refine sty ?_; try intro _) | (refine st ?_; try intro _) | (refine stz ?_; try intro _) | (refine stq ?_; try intro _))
    refine o_callV rfl rfl rfl rfl hp rfl ?_
    repeat (first | (refine sty ?_; try intro _) | (refine st ?_; try intro _) | (refine stz ?_; try intro _) | (refine stq ?_; try intro _))
    refine G.retV ?_
    rfl
  have hxl : 0 < x.length := List.length_pos_iff.2 h0
  have hp1 := pick14_spec pc ((x.length : Nat) : Int) h1 (by omega)
  have hn1 := pickI_nn pc ((x.length : Nat) : Int) (by omega)
  obtain ⟨k, hk⟩ : ∃ k : Nat, pickI pc ((x.length : Nat) : Int) = (k : Int) := ⟨(pickI pc ((x.length : Nat) : Int)).toNat, by omega⟩
  rw [hk] at hp1 hn1
  have hp2 := pick14_spec n 32 h2 (by decide)
  have hn2 := pickI_nn n 32 (by decide)
  obtain ⟨m, hm⟩ : ∃ m : Nat, pickI n 32 = (m : Int) := ⟨(pickI n 32).toNat, by omega⟩
  rw [hm] at hp2 hn2
  repeat (first | (refine sty ?_; try intro _) | (refine st ?_; try intro _) | (refine stz ?_; try intro _) | (refine stq ?_; try intro _))
  refine o_callV rfl rfl rfl rfl hp1 rfl ?_
  repeat (first | (refine sty ?_; try intro _) | (refine st ?_; try intro _) | (refine stz ?_; try intro _) | (refine stq ?_; try intro _))
  refine o_callV rfl rfl rfl rfl hp2 rfl ?_
  repeat (first | (refine sty ?_; try intro _) | (refine st ?_; try intro _) | (refine stz ?_; try intro _) | (refine stq ?_; try intro _))
  clear hk hm hp1 hp2
  obtain ⟨q, hq⟩ : ∃ q, q = 1 + m := ⟨_, rfl⟩
  rw [← hq]
  refine W.lp (S := Nat) (fun j => ([], [(12, .int .i64 ((j + 1 : Nat) : Int)), (11, .string (ba (wantP x k j))), (10, .int .i64 ((q : Nat) : Int)), (9, .int .i64 (k : Int)), (8, .string (ba x)), (7, .bool true)], [])) (fun j => j ≤ q) (fun j => q - j) 0 ?_ (h0 := Nat.zero_le _) (hL := look_sub_cons rfl (look_sub_cons (by unfold wantP; rfl) (look_sub_cons rfl (look_sub_cons rfl (look_sub_cons rfl (look_sub_cons rfl look_sub_nil))))))
  intro j hj
  dsimp only
  have hwl := wantP_len x k j
  have hws := wantP_succ x k j
  by_cases hje : j = q
  · have e1 := push_want x k q (by omega) (by omega) (by omega)
    have hpa := push_spec x (k : Int) (q : Int) (by omega)
    rw [e1] at hpa
    have hfb := rfb_spec (wantP x k q) (by rw [wantP_len]; omega)
    have hpb := push_spec x (x.length : Int) (q : Int) (by omega)
    rw [push_none] at hpb
    have hpc := push_spec x (k : Int) 0 (by omega)
    rw [push_zero] at hpc
    subst hje
    generalize wordB (wantP x k j) = wd at hpa hfb
    repeat (first | (refine sty ?_; try intro _) | (refine st ?_; try intro _) | (refine stz ?_; try intro _) | (refine stq ?_; try intro _))
    refine o_callV rfl rfl rfl rfl hpa rfl ?_
    repeat (first | (refine sty ?_; try intro _) | (refine st ?_; try intro _) | (refine stz ?_; try intro _) | (refine stq ?_; try intro _))
    refine o_callV rfl rfl rfl rfl hfb rfl ?_
    repeat (first | (refine sty ?_; try intro _) | (refine st ?_; try intro _) | (refine stz ?_; try intro _) | (refine stq ?_; try intro _))
    refine o_callV rfl rfl rfl rfl hpb rfl ?_
    repeat (first | (refine sty ?_; try intro _) | (refine st ?_; try intro _) | (refine stz ?_; try intro _) | (refine stq ?_; try intro _))
    refine o_callV rfl rfl rfl rfl hpc rfl ?_
    repeat (first | (refine sty ?_; try intro _) | (refine st ?_; try intro _) | (refine stz ?_; try intro _) | (refine stq ?_; try intro _))
    refine G.retV ?_
    rfl
  · by_cases hin : k + 1 + j < x.length
    · have hsl : ((x.take (k + (j + 1) + 1)).drop (k + (j + 1))) = [x.getD (k + 1 + j) 0] := by
        rw [show k + (j + 1) = k + 1 + j from by omega, List.getD_eq_getElem?_getD, List.getElem?_eq_getElem hin, List.drop_take, show k + 1 + j + 1 - (k + 1 + j) = 1 from by omega, List.drop_eq_getElem_cons hin]
        rfl
      repeat (first | (refine sty ?_; try intro _) | (refine st ?_; try intro _) | (refine stz ?_; try intro _) | (refine stq ?_; try intro _))
      rw [hsl, ← hws]
      exact G.ag (S := Nat) (j + 1)
    · have hg0 : x.getD (k + 1 + j) 0 = 0 := by rw [List.getD_eq_getElem?_getD, List.getElem?_eq_none (by omega)]; rfl
      rw [hg0] at hws
      repeat (first | (refine sty ?_; try intro _) | (refine st ?_; try intro _) | (refine stz ?_; try intro _) | (refine stq ?_; try intro _))
      rw [← hws]
      exact G.ag (S := Nat) (j + 1)
end Go.Rail
namespace Go.Rail
open Go Go.Proofs
set_option linter.unusedSimpArgs false
set_option linter.unusedVariables false
set_option maxHeartbeats 400000
set_option maxRecDepth 4000
attribute [local irreducible] OpK G W LW wpListIn Exit.then Exit.inBlock Post rounds opRun bodyPostM intOp
set_option maxHeartbeats 8000000
theorem bytesC_len (cs : List Chk) (h : ∀ p ∈ cs, wholeC p) : (bytesC cs).length ≤ 33 * cs.length := by
  induction cs with
  | nil => exact Nat.zero_le _
  | cons p cs ih =>
    have h2 := h p (.head _)
    have h3 := behN_le p.1.toNat
    have ih := ih (fun p hp => h p (.tail _ hp))
    unfold wholeC at h2
    rw [bytesC, List.flatMap_cons, List.length_append, List.length_cons, bytC, List.length_cons]
    unfold bytesC at ih
    omega
theorem codeR_len (raw : List (Int × Int)) : (codeR raw).length ≤ 1320 := by
  have h := bytesC_len _ (cksR_whole raw)
  have h2 : (cksR raw).length ≤ 40 := by rw [cksR, List.length_map, List.length_take]; omega
  rw [codeR]; omega
theorem txL_len (l : List UInt8) : (txL l).length ≤ 100 * l.length := by
  have := txT_len l (plc l).length
  rwa [txT_all] at this
end Go.Rail
namespace Go.Rail
open Go Go.Proofs
set_option linter.unusedSimpArgs false
set_option linter.unusedVariables false
set_option maxHeartbeats 400000
set_option maxRecDepth 4000
attribute [local irreducible] OpK G W LW wpListIn Exit.then Exit.inBlock Post rounds opRun bodyPostM intOp
set_option maxHeartbeats 2000000
def whatL : List UInt8 := [87, 72, 65, 84]
def push2L : List UInt8 := [80, 85, 83, 72, 50, 32, 48, 120, 48, 49]
def stopL : List UInt8 := [83, 84, 79, 80]
theorem what_line (last : Bool) : lineR whatL last = ([], 42) := by cases last <;> kernel_rfl
theorem push2_line : lineR push2L false = ([], 3) := by kernel_rfl
theorem lns_len (cs : List Chk) (h : ∀ p ∈ cs, wholeC p) (hl : cs.length ≤ 40) : (lns cs).length ≤ 132000 := by
  have h1 := txL_len (bytesC cs)
  have h2 := bytesC_len cs h
  have h3 := txL_whole cs h []
  rw [List.append_nil, show txL [] = [] from rfl, List.append_nil] at h3
  rw [h3] at h1
  omega
theorem txL_code (cs : List Chk) (h : ∀ p ∈ cs, wholeC p) : txL (bytesC cs) = lns cs := by
  have h3 := txL_whole cs h []
  rwa [List.append_nil, show txL [] = [] from rfl, List.append_nil] at h3
theorem parse_both (cs ds : List Chk) (hc : ∀ p ∈ cs, wholeC p) (hd : ∀ p ∈ ds, wholeC p) : parseL (lns cs ++ lns ds) = (bytesC cs ++ bytesC ds, 0, 0) := by
  have h := parse_text (bytesC cs ++ bytesC ds)
  rwa [txL_whole cs hc, txL_code ds hd] at h
theorem parse_what (cs ds : List Chk) (hc : ∀ p ∈ cs, wholeC p) : parseL (lns cs ++ (whatL ++ 10 :: lns ds)) = ([], 42, cs.length) := by
  have h := parse_wrong cs hc whatL (by decide) ds [] (fun _ h => by cases h) 42 (by decide) (fun last _ => what_line last)
  rwa [List.append_nil] at h
theorem parse_push2 (cs ds : List Chk) (hc : ∀ p ∈ cs, wholeC p) : parseL (lns cs ++ (push2L ++ 10 :: (lns ds ++ stopL))) = ([], 3, cs.length) :=
  parse_wrong cs hc push2L (by decide) ds stopL (by decide) 3 (by decide) (fun last h => by rw [h (by decide)]; exact push2_line)
theorem cksR_len (raw : List (Int × Int)) : (cksR raw).length ≤ 40 := by rw [cksR, List.length_map, List.length_take]; omega
attribute [local irreducible] parseL txL lns bytesC cksR wholeC
theorem lines_walk (v u : Value) (one two : List (Int × Int)) (h1 : ∀ a ∈ one, okR a) (h2 : ∀ a ∈ two, okR a) :
    FnV Tryd.prog 6 [v, u] [fRp v one, fRp u two] (.bool true) := by
  have hc1 := code14_spec v one h1
  have hc2 := code14_spec u two h2
  have w1 := cksR_whole one
  have w2 := cksR_whole two
  have l1 := cksR_len one
  have l2 := cksR_len two
  unfold codeR at hc1 hc2
  generalize cksR one = cs at hc1 w1 l1
  generalize cksR two = ds at hc2 w2 l2
  have b1 := bytesC_len cs w1
  have b2 := bytesC_len ds w2
  have n1 := lns_len cs w1 l1
  have n2 := lns_len ds w2 l2
  have ht1 := text_spec (bytesC cs) (by omega)
  have ht2 := text_spec (bytesC ds) (by omega)
  have ht3 := text_spec (bytesC cs ++ bytesC ds) (by rw [List.length_append]; omega)
  rw [txL_code cs w1] at ht1
  rw [txL_code ds w2] at ht2
  rw [txL_whole cs w1, txL_code ds w2] at ht3
  have hp1 := parse_spec (lns cs ++ lns ds) (by rw [List.length_append]; omega)
  rw [parse_both cs ds w1 w2] at hp1
  have hp2 := parse_spec (lns cs ++ (whatL ++ 10 :: lns ds)) (by simp only [List.length_append, List.length_cons, whatL, List.length_nil]; omega)
  rw [parse_what cs ds w1] at hp2
  have hp3 := parse_spec (lns cs ++ (push2L ++ 10 :: (lns ds ++ stopL))) (by simp only [List.length_append, List.length_cons, push2L, stopL, List.length_nil]; omega)
  rw [parse_push2 cs ds w1] at hp3
  have e2 : lns cs ++ [87, 72, 65, 84, 10] ++ lns ds = lns cs ++ (whatL ++ 10 :: lns ds) := by simp [whatL]
  have e3 : lns cs ++ [80, 85, 83, 72, 50, 32, 48, 120, 48, 49, 10] ++ lns ds ++ [83, 84, 79, 80] = lns cs ++ (push2L ++ 10 :: (lns ds ++ stopL)) := by simp [push2L, stopL]
  have hcnt := lns_count cs
  rw [← e2] at hp2
  rw [← e3] at hp3
  clear e2 e3
  generalize lns cs = s at *
  generalize lns ds = t at *
  generalize bytesC cs = a at *
  generalize bytesC ds = b at *
  generalize cs.length = nc at *
  refine Fn.enter Tryd.func6 rfl Tryd.ntmps6 (by simp) (fun I0 w0 => ?_)
  repeat (first | (refine sty ?_; try intro _) | (refine st ?_; try intro _) | (refine stz ?_; try intro _) | (refine stq ?_; try intro _))
  refine o_callV rfl rfl rfl rfl awake14_spec rfl ?_
  repeat (first | (refine sty ?_; try intro _) | (refine st ?_; try intro _) | (refine stz ?_; try intro _) | (refine stq ?_; try intro _))
  refine o_callV rfl rfl rfl rfl hc1 rfl ?_
  repeat (first | (refine sty ?_; try intro _) | (refine st ?_; try intro _) | (refine stz ?_; try intro _) | (refine stq ?_; try intro _))
  refine o_callV rfl rfl rfl rfl hc2 rfl ?_
  repeat (first | (refine sty ?_; try intro _) | (refine st ?_; try intro _) | (refine stz ?_; try intro _) | (refine stq ?_; try intro _))
  refine o_callV rfl rfl rfl rfl ht1 rfl ?_
  repeat (first | (refine sty ?_; try intro _) | (refine st ?_; try intro _) | (refine stz ?_; try intro _) | (refine stq ?_; try intro _))
  refine o_callV rfl rfl rfl rfl ht2 rfl ?_
  repeat (first | (refine sty ?_; try intro _) | (refine st ?_; try intro _) | (refine stz ?_; try intro _) | (refine stq ?_; try intro _))
  refine o_callV rfl rfl rfl rfl hp1 rfl ?_
  repeat (first | (refine sty ?_; try intro _) | (refine st ?_; try intro _) | (refine stz ?_; try intro _) | (refine stq ?_; try intro _))
  refine W.lp (S := Nat) (fun i => ([], [(14, .int .i64 (i : Int)), (13, .int .i64 (((s.take i).count 10 : Nat) : Int)), (12, .int .i64 0), (11, .int .i64 0), (10, .string (ba (a ++ b))), (9, .string (ba t)), (8, .string (ba s)), (7, .string (ba b)), (6, .string (ba a)), (5, .bool true)], [])) (fun i => i ≤ s.length) (fun i => s.length - i) 0 ?_ (h0 := Nat.zero_le _)
  intro i hi
  dsimp only
  have hci : (s.take i).count 10 ≤ s.length := Nat.le_trans List.count_le_length (by rw [List.length_take]; omega)
  by_cases hie : i = s.length
  · subst hie
    rw [List.take_length, hcnt]
    repeat (first | (refine sty ?_; try intro _) | (refine st ?_; try intro _) | (refine stz ?_; try intro _) | (refine stq ?_; try intro _))
    refine o_callV rfl rfl rfl rfl hp2 rfl ?_
    repeat (first | (refine sty ?_; try intro _) | (refine st ?_; try intro _) | (refine stz ?_; try intro _) | (refine stq ?_; try intro _))
    refine o_callV rfl rfl rfl rfl hp3 rfl ?_
    repeat (first | (refine sty ?_; try intro _) | (refine st ?_; try intro _) | (refine stz ?_; try intro _) | (refine stq ?_; try intro _))
    simp only [decide_true]
    repeat (first | (refine sty ?_; try intro _) | (refine st ?_; try intro _) | (refine stz ?_; try intro _) | (refine stq ?_; try intro _))
    refine o_callV rfl rfl rfl rfl ht3 rfl ?_
    repeat (first | (refine sty ?_; try intro _) | (refine st ?_; try intro _) | (refine stz ?_; try intro _) | (refine stq ?_; try intro _))
    simp only [decide_true]
    repeat (first | (refine sty ?_; try intro _) | (refine st ?_; try intro _) | (refine stz ?_; try intro _) | (refine stq ?_; try intro _))
    refine G.retV ?_
    rfl
  · have hil : i < s.length := by omega
    have hget : s[i]? = some (s[i]'hil) := List.getElem?_eq_getElem hil
    have hst : s.take (i + 1) = s.take i ++ [s[i]'hil] := List.take_succ_eq_append_getElem hil
    have he : ∃ ch, s[i]'hil = ch := ⟨_, rfl⟩
    obtain ⟨ch, he⟩ := he
    rw [he] at hst
    have he2 : (s[i]'hil).toNat = ch.toNat := by rw [he]
    have hcs : (s.take (i + 1)).count 10 = (s.take i).count 10 + (if ch.toNat = 10 then 1 else 0) := by
      rw [hst, List.count_append]
      congr 1
      by_cases h10 : ch.toNat = 10
      · have : ch = 10 := UInt8.toNat_inj.1 h10
        subst this; rfl
      · rw [if_neg h10, List.count_singleton, if_neg (fun h => h10 (by rw [eq_of_beq h]; rfl))]
    by_cases h10 : ch.toNat = 10
    · rw [if_pos h10] at hcs
      repeat (first | (refine sty ?_; try intro _) | (refine st ?_; try intro _) | (refine stz ?_; try intro _) | (refine stq ?_; try intro _))
      exact G.ag (S := Nat) (i + 1) (hL := look_sub_cons rfl (look_sub_cons (congrArg (fun n : Nat => some (Value.int .i64 (n : Int))) hcs.symm) (look_sub_cons rfl (look_sub_cons rfl (look_sub_cons rfl (look_sub_cons rfl (look_sub_cons rfl (look_sub_cons rfl (look_sub_cons rfl (look_sub_cons rfl look_sub_nil))))))))))
    · rw [if_neg h10] at hcs
      repeat (first | (refine sty ?_; try intro _) | (refine st ?_; try intro _) | (refine stz ?_; try intro _) | (refine stq ?_; try intro _))
      exact G.ag (S := Nat) (i + 1) (hL := look_sub_cons rfl (look_sub_cons (congrArg (fun n : Nat => some (Value.int .i64 (n : Int))) hcs.symm) (look_sub_cons rfl (look_sub_cons rfl (look_sub_cons rfl (look_sub_cons rfl (look_sub_cons rfl (look_sub_cons rfl (look_sub_cons rfl (look_sub_cons rfl look_sub_nil))))))))))
end Go.Rail
