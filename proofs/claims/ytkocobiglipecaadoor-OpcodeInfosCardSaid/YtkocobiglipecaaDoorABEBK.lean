/- opcode.Parse: a text's lines read. Plain part; the walk is still to be written. -/
import Derived.Test.YtkocobiglipecaaDoorAB9BD
import Derived.Test.YtkocobiglipecaaDoorRailD
import Derived.Test.YtkocobiglipecaaDoorAEqB2
import Derived.Test.YtkocobiglipecaaDoorRailB
import Derived.Test.YtkocobiglipecaaDoorABIBJ
namespace Go.Rail
open Go Go.Proofs
set_option linter.unusedSimpArgs false
set_option linter.unusedVariables false
set_option maxHeartbeats 400000
set_option maxRecDepth 4000
attribute [local irreducible] OpK G W LW wpListIn Exit.then Exit.inBlock Post rounds opRun bodyPostM intOp
set_option maxHeartbeats 4000000
/-- The lines of a text: an empty last one is none. -/
def linesL (l : List UInt8) : List (List UInt8) := if (splitB 10 l).getLast? = some [] then (splitB 10 l).dropLast else splitB 10 l
/-- Lines read from the i-th on: the bytes, or the fault and its line. -/
def parseF (ls : List (List UInt8)) : Nat → List UInt8 → List (List UInt8) → List UInt8 × Int × Nat
  | _, xs, [] => (xs, 0, 0)
  | i, xs, a :: r => if (lineR a (decide (i + 1 = ls.length))).2 = 0 then parseF ls (i + 1) (xs ++ (lineR a (decide (i + 1 = ls.length))).1) r else ([], (lineR a (decide (i + 1 = ls.length))).2, i)
theorem parseF_cons (ls : List (List UInt8)) (i : Nat) (xs a : List UInt8) (r : List (List UInt8)) : parseF ls i xs (a :: r) = if (lineR a (decide (i + 1 = ls.length))).2 = 0 then parseF ls (i + 1) (xs ++ (lineR a (decide (i + 1 = ls.length))).1) r else ([], (lineR a (decide (i + 1 = ls.length))).2, i) := rfl
def parseL (l : List UInt8) : List UInt8 × Int × Nat := parseF (linesL l) 0 [] (linesL l)
theorem splitB_le (q : UInt8) : ∀ (l : List UInt8), ∀ a ∈ splitB q l, a.length ≤ l.length
  | [], a, h => by rw [show splitB q [] = [[]] from rfl, List.mem_singleton] at h; subst h; exact Nat.le_refl _
  | x :: r, a, h => by
    have ih := splitB_le q r
    unfold splitB at h
    split at h
    · rcases List.mem_cons.1 h with rfl | h
      · exact Nat.zero_le _
      · have := ih a h; rw [List.length_cons]; omega
    · cases hs : splitB q r with
      | nil => exact absurd hs (splitB_ne q r)
      | cons b t =>
        rw [hs] at h ih
        rcases List.mem_cons.1 h with rfl | h
        · have := ih b (.head _); rw [List.length_cons, List.length_cons]; omega
        · have := ih a (.tail _ h); rw [List.length_cons]; omega
theorem lineR_len (l : List UInt8) (last : Bool) : (lineR l last).1.length ≤ 33 := by
  unfold lineR
  split
  · exact Nat.zero_le _
  · rename_i n hn
    have hb := behN_le n
    split
    · split
      · exact Nat.zero_le _
      · exact (by decide : 1 ≤ 33)
    · split
      · exact Nat.zero_le _
      · split
        · exact Nat.zero_le _
        · rw [List.length_append, List.length_cons, List.length_nil]; omega
structure PaSt where
  i : Nat
  xs : List UInt8
  a : Option Addr
  v : Value
  o : BO
theorem parse_spec (l : List UInt8) (hl : l.length ≤ 1000000) : FnV Tryd.prog 11 [.string (ba l)] [] (.tuple #[.string (ba (parseL l).1), .int .i64 (parseL l).2.1, .int .i64 ((parseL l).2.2 : Int)]) := by
  refine Fn.enter Tryd.func11 rfl Tryd.ntmps11 (by simp) (fun I0 w0 => ?_)
  repeat (first | (refine sty ?_; try intro _) | (refine st ?_; try intro _) | (refine stz ?_; try intro _) | (refine stq ?_; try intro _))
  refine o_callD rfl rfl rfl rfl (sSplit_spec l 10 (by omega)) ?_
  intro v
  have hne : 0 < (splitB 10 l).length := by rw [splitB_len]; omega
  have hle : (splitB 10 l).length ≤ l.length + 1 := by rw [splitB_len]; have := List.count_le_length (a := (10 : UInt8)) (l := l); omega
  have hall := splitB_le 10 l
  unfold parseL linesL
  generalize splitB 10 l = ls at hne hle hall ⊢
  obtain ⟨ini, z, rfl⟩ : ∃ ini z, ls = ini ++ [z] := ⟨ls.dropLast, ls.getLast (fun h => by rw [h] at hne; cases hne), (List.dropLast_concat_getLast _).symm⟩
  rw [List.getLast?_concat, List.dropLast_concat]
  have hall2 : ∀ a ∈ (if some z = some [] then ini else ini ++ [z]), a.length ≤ l.length := by
    split
    · exact fun a ha => hall a (List.mem_append_left _ ha)
    · exact hall
  have hle2 : (if some z = some [] then ini else ini ++ [z]).length ≤ 1000001 := by
    rw [List.length_append, List.length_cons, List.length_nil] at hle
    split
    · omega
    · rw [List.length_append, List.length_cons, List.length_nil]; omega
  refine G.slice v ((ini ++ [z]).map ba) ?_; intro ad cap e1 k1; subst e1
  have hlen : ((ini ++ [z]).map ba).length = ini.length + 1 := by simp
  rw [hlen] at k1 ⊢
  rw [List.length_append, List.length_cons, List.length_nil] at hle
  repeat (first | (refine sty ?_; try intro _) | (refine st ?_; try intro _) | (refine stz ?_; try intro _) | (refine stq ?_; try intro _))
  refine W.cutE (S := List (List UInt8) × Value) (fun s => ([fRp s.2 (s.1.map ba)], [(5, s.2)], [])) (fun s => s.1 = if some z = some [] then ini else ini ++ [z]) ?_ ?_
  · by_cases hze : z = []
    · subst hze
      rw [if_pos rfl]
      refine W.cond_t rfl (decide_eq_true (by simp)) ?_
      repeat (first | (refine sty ?_; try intro _) | (refine st ?_; try intro _) | (refine stz ?_; try intro _) | (refine stq ?_; try intro _))
      refine o_slice 0 ini.length rfl rfl rfl bd0 ⟨_, _, rfl, by simp⟩ (Nat.zero_le _) (by simp) ?_
      intro v'
      have e : ((ini ++ [([] : List UInt8)]).map ba).take ini.length = ini.map ba := by simp
      rw [List.drop_zero, e]
      repeat (first | (refine sty ?_; try intro _) | (refine st ?_; try intro _) | (refine stz ?_; try intro _) | (refine stq ?_; try intro _))
      exact G.kpE (ini, v') rfl (show Ents _ [fRp v' (ini.map ba)] from inferInstance) (look_sub_cons rfl look_sub_nil) (List.nil_sublist _)
    · rw [if_neg (fun h => hze (Option.some.inj h))]
      refine W.cond_f rfl (decide_eq_false (by simpa using hze)) ?_
      repeat (first | (refine sty ?_; try intro _) | (refine st ?_; try intro _) | (refine stz ?_; try intro _) | (refine stq ?_; try intro _))
      exact G.kpE (ini ++ [z], (.slice ad (ini.length + 1) cap)) rfl (show Ents _ [fRp (.slice ad (ini.length + 1) cap) ((ini ++ [z]).map ba)] from inferInstance) (look_sub_cons rfl look_sub_nil) (List.nil_sublist _)
  rintro ⟨ls, v⟩ hls
  dsimp only at hls ⊢
  rw [← hls] at hall2 hle2 ⊢
  clear hls hall hne hle k1 hlen
  have hm : (ls.map ba).length = ls.length := List.length_map _
  have hat : ∀ (i : Nat) (h : i < (ls.map ba).length) (h2 : i < ls.length), (ls.map ba)[i]'h = ba (ls[i]'h2) := by intro i h h2; simp
  generalize ls.map ba = A at hm hat ⊢
  refine G.slice v A ?_; intro ad cap e1 k1; subst e1
  repeat (first | (refine sty ?_; try intro _) | (refine st ?_; try intro _) | (refine stz ?_; try intro _) | (refine stq ?_; try intro _))
  refine OpK.call rfl rfl rfl rfl names_spec inferInstance (Mr := []) (List.Perm.refl _) ?_
  rintro u Φ' Mc' ⟨b, rfl, rfl, rfl⟩
  dsimp only [List.cons_append, List.nil_append]
  repeat (first | (refine sty ?_; try intro _) | (refine st ?_; try intro _) | (refine stz ?_; try intro _) | (refine stq ?_; try intro _))
  rename_i B
  refine W.bare (G.perm ?_ (List.Perm.swap _ _ _))
  refine G.code ?_
  refine W.lp (S := PaSt) (fun s => ([fRp (.slice ad A.length cap) A], [(29, .int .i64 (s.i : Int)), (28, .int .i64 (A.length : Int)), (27, .slice ad A.length cap), (7, .pointer (some ⟨B, 0, none⟩)), (6, .map (some b)), (5, .slice ad A.length cap)], (b, MapT (namesL 256)) :: bldM B s.a s.v s.xs s.o)) (fun s => s.i ≤ ls.length ∧ s.xs.length ≤ 33 * s.i ∧ (s.a = none ∨ s.a = some ⟨B, 0, none⟩) ∧ IsBuf s.v s.xs s.o ∧ parseF ls s.i s.xs (ls.drop s.i) = parseF ls 0 [] ls) (fun s => ls.length - s.i) ⟨0, [], none, .slice none 0 0, none⟩ ?_ (h0 := ⟨Nat.zero_le _, Nat.zero_le _, .inl rfl, ⟨rfl, rfl⟩, rfl⟩)
  rintro ⟨i, xs, a, v, o⟩ ⟨hi, hxs, ha, hb, hpf⟩
  dsimp only at hi hxs ha hb hpf ⊢
  by_cases hie : i = ls.length
  · subst hie
    rw [List.drop_length] at hpf
    rw [← hpf]
    have hs := bString_spec B a v xs o hb (by omega)
    repeat (first | (refine sty ?_; try intro _) | (refine st ?_; try intro _) | (refine stz ?_; try intro _) | (refine stq ?_; try intro _))
    refine OpK.call rfl rfl rfl rfl hs inferInstance (Mr := [_]) (List.perm_append_comm (l₁ := [_])) ?_
    rintro u Φ' Mc' ⟨o', hb', rfl, rfl, rfl⟩
    dsimp only [List.cons_append, List.nil_append]
    repeat (first | (refine sty ?_; try intro _) | (refine st ?_; try intro _) | (refine stz ?_; try intro _) | (refine stq ?_; try intro _))
    refine G.retV ?_
    rfl
  · have hil : i < ls.length := by omega
    rw [List.drop_eq_getElem_cons hil] at hpf
    rw [parseF_cons] at hpf
    have hln := hall2 ls[i] (List.getElem_mem hil)
    have hline := line_spec b ls[i] (decide (i + 1 = ls.length)) (by omega)
    have hrl := lineR_len ls[i] (decide (i + 1 = ls.length))
    have hget : ∀ h, A[i]'h = ba ls[i] := fun h => hat i h hil
    generalize ls[i] = z at hpf hln hline hrl hget
    generalize hlr : lineR z (decide (i + 1 = ls.length)) = r at hpf hline hrl
    obtain ⟨r1, r2⟩ := r
    dsimp only at hpf hline hrl
    repeat (first | (refine sty ?_; try intro _) | (refine st ?_; try intro _) | (refine stz ?_; try intro _) | (refine stq ?_; try intro _))
    refine OpK.call (vs := [.string (ba z), .map (some b), .bool (decide (i + 1 = ls.length))]) (cap := []) rfl rfl rfl ?_ hline inferInstance (Mr := bldM B a v xs o) (List.Perm.refl _) ?_
    · show some [Value.string A[i], Value.map (some b), Value.bool (decide _)] = _
      rw [hget]
      exact congrArg (fun q => some [Value.string (ba z), Value.map (some b), Value.bool q]) (decide_eq_decide.2 (by omega))
    rintro u Φ' Mc' ⟨rfl, rfl, rfl⟩
    dsimp only [List.cons_append, List.nil_append]
    by_cases h0 : r2 = 0
    · subst h0
      rw [if_pos rfl] at hpf
      have hw := writeString_spec B a ha v xs r1 o hb (by omega)
      repeat (first | (refine sty ?_; try intro _) | (refine st ?_; try intro _) | (refine stz ?_; try intro _) | (refine stq ?_; try intro _))
      refine OpK.call rfl rfl rfl rfl hw inferInstance (Mr := [_]) (List.perm_append_comm (l₁ := [_])) ?_
      rintro u Φ' Mc' ⟨v2, o2, hb2, rfl, rfl, rfl⟩
      refine G.perm ?_ List.perm_append_comm
      dsimp only [List.cons_append, List.nil_append]
      repeat (first | (refine sty ?_; try intro _) | (refine st ?_; try intro _) | (refine stz ?_; try intro _) | (refine stq ?_; try intro _))
      exact G.ag (S := PaSt) ⟨i + 1, xs ++ r1, some ⟨B, 0, none⟩, v2, o2⟩ (hpre := ⟨by dsimp only; omega, by dsimp only; rw [List.length_append]; omega, .inr rfl, hb2, hpf⟩)
    · rw [if_neg h0] at hpf
      rw [← hpf]
      repeat (first | (refine sty ?_; try intro _) | (refine st ?_; try intro _) | (refine stz ?_; try intro _) | (refine stq ?_; try intro _))
      refine G.retV ?_
      rfl
end Go.Rail
set_option linter.unusedSimpArgs false
namespace Go.Rail
open Go Go.Proofs
set_option maxHeartbeats 4000000
theorem name_inj (i j : Nat) (hi : i < 256) (hj : j < 256) (h : nameL (UInt8.ofNat i) = nameL (UInt8.ofNat j)) : i = j := by
  have key : ∀ i j, i < j → j < 256 → nameL (UInt8.ofNat i) ≠ nameL (UInt8.ofNat j) := by
    intro i j hij hj
    have h1 := fresh_at allNames [] j (nameL (UInt8.ofNat j)) fresh_all (by simp [allNames, hj])
    rw [List.nil_append, allNames, ← List.map_take, List.take_range, show min j 256 = j from by omega, List.all_map] at h1
    exact of_decide_eq_true (List.all_eq_true.1 h1 i (List.mem_range.2 hij))
  rcases Nat.lt_trichotomy i j with h1 | h1 | h1
  · exact absurd h (key i j h1 hj)
  · exact h1
  · exact absurd h.symm (key j i h1 hi)
end Go.Rail
namespace Go.Rail
open Go Go.Proofs
set_option linter.unusedSimpArgs false
set_option linter.unusedVariables false
set_option maxHeartbeats 400000
set_option maxRecDepth 4000
attribute [local irreducible] OpK G W LW wpListIn Exit.then Exit.inBlock Post rounds opRun bodyPostM intOp
attribute [local irreducible] u8 u64
attribute [local irreducible] pickI
theorem of_spec (n : Int) : FnV Tryd.prog 18 [.int .i64 n] [] (Word.of n).v := by
  refine Fn.enter Tryd.func18 rfl Tryd.ntmps18 (by simp) (fun I0 w0 => ?_)
  by_cases hc : n < 0
  · repeat (first | refine stp ?_ | (refine sti ?_; intro _) | refine stf ?_ | (refine stb ?_; intro _))
    refine W.loopN 4 ?_
    repeat (first | refine stp ?_ | (refine sti ?_; intro _) | refine stf ?_ | (refine stb ?_; intro _))
    refine G.ret rfl (.cons (.cellA rfl rfl) .nil) (Φ' := []) (M' := []) inferInstance (List.nil_sublist _) ⟨?_, rfl, rfl⟩
    simp [tup, Word.of, hc, Word.v, Word.cells, cellsL]
  · repeat (first | refine stp ?_ | (refine sti ?_; intro _) | refine stf ?_ | (refine stb ?_; intro _))
    refine G.ret rfl (.cons (.cellA rfl rfl) .nil) (Φ' := []) (M' := []) inferInstance (List.nil_sublist _) ⟨?_, rfl, rfl⟩
    simp [tup, Word.of, hc, Word.v, Word.cells, cellsL]
end Go.Rail
namespace Go.Rail
open Go Go.Proofs
set_option linter.unusedSimpArgs false
set_option linter.unusedVariables false
set_option maxHeartbeats 400000
set_option maxRecDepth 4000
attribute [local irreducible] OpK G W LW wpListIn Exit.then Exit.inBlock Post rounds opRun bodyPostM intOp
set_option maxHeartbeats 8000000
def addRow : Row := ⟨[65, 68, 68], 2, 1, 3⟩
theorem eq_add (w : World) : (Op.equalIn 10000 37 (rowV addRow) (rowV addRow)).run Tryd.prog w = .ok true w := by kernel_rfl
instance eqAdd : EqOn Tryd.prog 37 (rowV addRow) (rowV addRow) true where
  eq := fun w => by rw [run_eql_struct, eq_add]; simp only [Result.andThen_ok]
  ne := fun w => by rw [run_neq_struct, eq_add]; simp only [Result.andThen_ok]
  guard := fun op p q w => run_eqGuard_agg _ _ _ _ _ _ _ (by kernel_rfl)
def tx1 : List UInt8 := [80, 85, 83, 72, 49, 32, 48, 120, 48, 53, 10, 74, 85, 77, 80, 68, 69, 83, 84, 10]
theorem parse_one : parseL tx1 = ([96, 5, 91], 0, 0) := by kernel_rfl
theorem parse_two : parseL [65, 68, 68, 10, 65, 68, 68, 88, 10] = ([], 42, 1) := by kernel_rfl
theorem parse_three : parseL [65, 68, 68, 32, 49] = ([], 3, 0) := by kernel_rfl
theorem jm_one : jmL [96, 91, 91] = [2] := by kernel_rfl
theorem tx_one : txL [96, 5, 91] = tx1 := by kernel_rfl
theorem push_one : pushL [96, 5, 91] 0 1 = Word.of 5 := by kernel_rfl
theorem awake14_spec : FnV Tryd.prog 8 [] [] (.bool true) := by
  have c1 := info_spec 1 (by decide)
  have c2 := info_spec 12 (by decide)
  rw [show infoV 1 = .tuple #[rowV addRow, .bool true] from by kernel_rfl] at c1
  rw [show infoV 12 = .tuple #[rowV noRow, .bool false] from by kernel_rfl] at c2
  have c3 := Fn.given (jumpsO_spec [96, 91, 91] (by decide))
  rw [jm_one] at c3
  have c4 := parse_spec tx1 (by decide)
  have c5 := parse_spec [65, 68, 68, 10, 65, 68, 68, 88, 10] (by decide)
  have c6 := parse_spec [65, 68, 68, 32, 49] (by decide)
  rw [parse_one] at c4
  rw [parse_two] at c5
  rw [parse_three] at c6
  have c7 := text_spec [96, 5, 91] (by decide)
  rw [tx_one] at c7
  have c8 := push_spec [96, 5, 91] 0 1 (by decide)
  rw [push_one] at c8
  have c9 := of_spec 5
  refine Fn.enter Tryd.func8 rfl Tryd.ntmps8 (by simp) (fun I0 w0 => ?_)
  repeat (first | (refine sty ?_; try intro _) | (refine st ?_; try intro _) | (refine stz ?_; try intro _) | (refine stq ?_; try intro _))
  refine o_callV rfl rfl rfl rfl c1 rfl ?_
  repeat (first | (refine sty ?_; try intro _) | (refine st ?_; try intro _) | (refine stz ?_; try intro _) | (refine stq ?_; try intro _))
  refine o_callV rfl rfl rfl rfl c2 rfl ?_
  repeat (first | (refine sty ?_; try intro _) | (refine st ?_; try intro _) | (refine stz ?_; try intro _) | (refine stq ?_; try intro _))
  refine o_callD rfl rfl rfl rfl c3 ?_
  intro v3
  repeat (first | (refine sty ?_; try intro _) | (refine st ?_; try intro _) | (refine stz ?_; try intro _) | (refine stq ?_; try intro _))
  refine o_callV rfl rfl rfl rfl c4 rfl ?_
  repeat (first | (refine sty ?_; try intro _) | (refine st ?_; try intro _) | (refine stz ?_; try intro _) | (refine stq ?_; try intro _))
  refine o_callV rfl rfl rfl rfl c5 rfl ?_
  repeat (first | (refine sty ?_; try intro _) | (refine st ?_; try intro _) | (refine stz ?_; try intro _) | (refine stq ?_; try intro _))
  refine o_callV rfl rfl rfl rfl c6 rfl ?_
  repeat (first | (refine sty ?_; try intro _) | (refine st ?_; try intro _) | (refine stz ?_; try intro _) | (refine stq ?_; try intro _))
  refine o_eql (u := rowV addRow) (v := rowV addRow) rfl rfl rfl rfl (r := true) rfl ?_
  repeat (first | (refine sty ?_; try intro _) | (refine st ?_; try intro _) | (refine stz ?_; try intro _) | (refine stq ?_; try intro _))
  refine o_callV rfl rfl rfl rfl c7 rfl ?_
  repeat (first | (refine sty ?_; try intro _) | (refine st ?_; try intro _) | (refine stz ?_; try intro _) | (refine stq ?_; try intro _))
  refine o_callV rfl rfl rfl rfl c8 rfl ?_
  repeat (first | (refine sty ?_; try intro _) | (refine st ?_; try intro _) | (refine stz ?_; try intro _) | (refine stq ?_; try intro _))
  refine o_callV rfl rfl rfl rfl c9 rfl ?_
  repeat (first | (refine sty ?_; try intro _) | (refine st ?_; try intro _) | (refine stz ?_; try intro _) | (refine stq ?_; try intro _))
  refine G.retV ?_
  rfl
end Go.Rail
