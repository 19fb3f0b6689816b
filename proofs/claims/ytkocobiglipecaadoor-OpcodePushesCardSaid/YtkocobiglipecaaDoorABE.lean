/- opcode.Parse: a text's lines read. Plain part; the walk is still to be written. -/
import Derived.Test.YtkocobiglipecaaDoorABDMul
import Derived.Test.YtkocobiglipecaaDoorRailD
namespace Go.Rail
open Go Go.Proofs
set_option linter.unusedSimpArgs false
set_option linter.unusedVariables false
set_option maxHeartbeats 400000
set_option maxRecDepth 4000
attribute [local irreducible] OpK G W LW wpListIn Exit.then Exit.inBlock Post rounds opRun bodyPostM intOp
set_option maxHeartbeats 4000000
/-- The lines of a text: an empty last one is none. -/
def linesL (l : List UInt8) : List (List UInt8) := if (splitB 10 l).getLast? = some [] then (splitB 10 l).dropLast else splitB 10 l
/-- Lines read from the i-th on: the bytes, or the fault and its line. -/
def parseF (ls : List (List UInt8)) : Nat → List UInt8 → List (List UInt8) → List UInt8 × Int × Nat
  | _, xs, [] => (xs, 0, 0)
  | i, xs, a :: r => if (lineR a (decide (i + 1 = ls.length))).2 = 0 then parseF ls (i + 1) (xs ++ (lineR a (decide (i + 1 = ls.length))).1) r else ([], (lineR a (decide (i + 1 = ls.length))).2, i)
theorem parseF_cons (ls : List (List UInt8)) (i : Nat) (xs a : List UInt8) (r : List (List UInt8)) : parseF ls i xs (a :: r) = if (lineR a (decide (i + 1 = ls.length))).2 = 0 then parseF ls (i + 1) (xs ++ (lineR a (decide (i + 1 = ls.length))).1) r else ([], (lineR a (decide (i + 1 = ls.length))).2, i) := rfl
def parseL (l : List UInt8) : List UInt8 × Int × Nat := parseF (linesL l) 0 [] (linesL l)
theorem splitB_le (q : UInt8) : ∀ (l : List UInt8), ∀ a ∈ splitB q l, a.length ≤ l.length
  | [], a, h => by rw [show splitB q [] = [[]] from rfl, List.mem_singleton] at h; subst h; exact Nat.le_refl _
  | x :: r, a, h => by
    have ih := splitB_le q r
    unfold splitB at h
    split at h
    · rcases List.mem_cons.1 h with rfl | h
      · exact Nat.zero_le _
      · have := ih a h; rw [List.length_cons]; omega
    · cases hs : splitB q r with
      | nil => exact absurd hs (splitB_ne q r)
      | cons b t =>
        rw [hs] at h ih
        rcases List.mem_cons.1 h with rfl | h
        · have := ih b (.head _); rw [List.length_cons, List.length_cons]; omega
        · have := ih a (.tail _ h); rw [List.length_cons]; omega
theorem lineR_len (l : List UInt8) (last : Bool) : (lineR l last).1.length ≤ 33 := by
  unfold lineR
  split
  · exact Nat.zero_le _
  · rename_i n hn
    have hb := behN_le n
    split
    · split
      · exact Nat.zero_le _
      · exact (by decide : 1 ≤ 33)
    · split
      · exact Nat.zero_le _
      · split
        · exact Nat.zero_le _
        · rw [List.length_append, List.length_cons, List.length_nil]; omega
structure PaSt where
  i : Nat
  xs : List UInt8
  a : Option Addr
  v : Value
  o : BO
theorem parse_spec (l : List UInt8) (hl : l.length ≤ 1000000) : FnV Tryd.prog 11 [.string (ba l)] [] (.tuple #[.string (ba (parseL l).1), .int .i64 (parseL l).2.1, .int .i64 ((parseL l).2.2 : Int)]) := by
  refine Fn.enter Tryd.func11 rfl Tryd.ntmps11 (by simp) (fun I0 w0 => ?_)
  repeat (first | (refine sty ?_; try intro _) | (refine st ?_; try intro _) | (refine stz ?_; try intro _) | (refine stq ?_; try intro _))
  refine o_callD rfl rfl rfl rfl (sSplit_spec l 10 (by omega)) ?_
  intro v
  have hne : 0 < (splitB 10 l).length := by rw [splitB_len]; omega
  have hle : (splitB 10 l).length ≤ l.length + 1 := by rw [splitB_len]; have := List.count_le_length (a := (10 : UInt8)) (l := l); omega
  have hall := splitB_le 10 l
  unfold parseL linesL
  generalize splitB 10 l = ls at hne hle hall ⊢
  obtain ⟨ini, z, rfl⟩ : ∃ ini z, ls = ini ++ [z] := ⟨ls.dropLast, ls.getLast (fun h => by rw [h] at hne; cases hne), (List.dropLast_concat_getLast _).symm⟩
  rw [List.getLast?_concat, List.dropLast_concat]
  have hall2 : ∀ a ∈ (if some z = some [] then ini else ini ++ [z]), a.length ≤ l.length := by
    split
    · exact fun a ha => hall a (List.mem_append_left _ ha)
    · exact hall
  have hle2 : (if some z = some [] then ini else ini ++ [z]).length ≤ 1000001 := by
    rw [List.length_append, List.length_cons, List.length_nil] at hle
    split
    · omega
    · rw [List.length_append, List.length_cons, List.length_nil]; omega
  refine G.slice v ((ini ++ [z]).map ba) ?_; intro ad cap e1 k1; subst e1
  have hlen : ((ini ++ [z]).map ba).length = ini.length + 1 := by simp
  rw [hlen] at k1 ⊢
  rw [List.length_append, List.length_cons, List.length_nil] at hle
  repeat (first | (refine sty ?_; try intro _) | (refine st ?_; try intro _) | (refine stz ?_; try intro _) | (refine stq ?_; try intro _))
  refine W.cutE (S := List (List UInt8) × Value) (fun s => ([fRp s.2 (s.1.map ba)], [(5, s.2)], [])) (fun s => s.1 = if some z = some [] then ini else ini ++ [z]) ?_ ?_
  · by_cases hze : z = []
    · subst hze
      rw [if_pos rfl]
      refine W.cond_t rfl (decide_eq_true (by simp)) ?_
      repeat (first | (refine sty ?_; try intro _) | (refine st ?_; try intro _) | (refine stz ?_; try intro _) | (refine stq ?_; try intro _))
      refine o_slice 0 ini.length rfl rfl rfl bd0 ⟨_, _, rfl, by simp⟩ (Nat.zero_le _) (by simp) ?_
      intro v'
      have e : ((ini ++ [([] : List UInt8)]).map ba).take ini.length = ini.map ba := by simp
      rw [List.drop_zero, e]
      repeat (first | (refine sty ?_; try intro _) | (refine st ?_; try intro _) | (refine stz ?_; try intro _) | (refine stq ?_; try intro _))
      exact G.kpE (ini, v') rfl (show Ents _ [fRp v' (ini.map ba)] from inferInstance) (look_sub_cons rfl look_sub_nil) (List.nil_sublist _)
    · rw [if_neg (fun h => hze (Option.some.inj h))]
      refine W.cond_f rfl (decide_eq_false (by simpa using hze)) ?_
      repeat (first | (refine sty ?_; try intro _) | (refine st ?_; try intro _) | (refine stz ?_; try intro _) | (refine stq ?_; try intro _))
      exact G.kpE (ini ++ [z], (.slice ad (ini.length + 1) cap)) rfl (show Ents _ [fRp (.slice ad (ini.length + 1) cap) ((ini ++ [z]).map ba)] from inferInstance) (look_sub_cons rfl look_sub_nil) (List.nil_sublist _)
  rintro ⟨ls, v⟩ hls
  dsimp only at hls ⊢
  rw [← hls] at hall2 hle2 ⊢
  clear hls hall hne hle k1 hlen
  have hm : (ls.map ba).length = ls.length := List.length_map _
  have hat : ∀ (i : Nat) (h : i < (ls.map ba).length) (h2 : i < ls.length), (ls.map ba)[i]'h = ba (ls[i]'h2) := by intro i h h2; simp
  generalize ls.map ba = A at hm hat ⊢
  refine G.slice v A ?_; intro ad cap e1 k1; subst e1
  repeat (first | (refine sty ?_; try intro _) | (refine st ?_; try intro _) | (refine stz ?_; try intro _) | (refine stq ?_; try intro _))
  refine OpK.call rfl rfl rfl rfl names_spec inferInstance (Mr := []) (List.Perm.refl _) ?_
  rintro u Φ' Mc' ⟨b, rfl, rfl, rfl⟩
  dsimp only [List.cons_append, List.nil_append]
  repeat (first | (refine sty ?_; try intro _) | (refine st ?_; try intro _) | (refine stz ?_; try intro _) | (refine stq ?_; try intro _))
  rename_i B
  refine W.bare (G.perm ?_ (List.Perm.swap _ _ _))
  refine G.code ?_
  refine W.lp (S := PaSt) (fun s => ([fRp (.slice ad A.length cap) A], [(29, .int .i64 (s.i : Int)), (28, .int .i64 (A.length : Int)), (27, .slice ad A.length cap), (7, .pointer (some ⟨B, 0, none⟩)), (6, .map (some b)), (5, .slice ad A.length cap)], (b, MapT (namesL 256)) :: bldM B s.a s.v s.xs s.o)) (fun s => s.i ≤ ls.length ∧ s.xs.length ≤ 33 * s.i ∧ (s.a = none ∨ s.a = some ⟨B, 0, none⟩) ∧ IsBuf s.v s.xs s.o ∧ parseF ls s.i s.xs (ls.drop s.i) = parseF ls 0 [] ls) (fun s => ls.length - s.i) ⟨0, [], none, .slice none 0 0, none⟩ ?_ (h0 := ⟨Nat.zero_le _, Nat.zero_le _, .inl rfl, ⟨rfl, rfl⟩, rfl⟩)
  rintro ⟨i, xs, a, v, o⟩ ⟨hi, hxs, ha, hb, hpf⟩
  dsimp only at hi hxs ha hb hpf ⊢
  by_cases hie : i = ls.length
  · subst hie
    rw [List.drop_length] at hpf
    rw [← hpf]
    have hs := bString_spec B a v xs o hb (by omega)
    repeat (first | (refine sty ?_; try intro _) | (refine st ?_; try intro _) | (refine stz ?_; try intro _) | (refine stq ?_; try intro _))
    refine OpK.call rfl rfl rfl rfl hs inferInstance (Mr := [_]) (List.perm_append_comm (l₁ := [_])) ?_
    rintro u Φ' Mc' ⟨o', hb', rfl, rfl, rfl⟩
    dsimp only [List.cons_append, List.nil_append]
    repeat (first | (refine sty ?_; try intro _) | (refine st ?_; try intro _) | (refine stz ?_; try intro _) | (refine stq ?_; try intro _))
    refine G.retV ?_
    rfl
  · have hil : i < ls.length := by omega
    rw [List.drop_eq_getElem_cons hil] at hpf
    rw [parseF_cons] at hpf
    have hln := hall2 ls[i] (List.getElem_mem hil)
    have hline := line_spec b ls[i] (decide (i + 1 = ls.length)) (by omega)
    have hrl := lineR_len ls[i] (decide (i + 1 = ls.length))
    have hget : ∀ h, A[i]'h = ba ls[i] := fun h => hat i h hil
    generalize ls[i] = z at hpf hln hline hrl hget
    generalize hlr : lineR z (decide (i + 1 = ls.length)) = r at hpf hline hrl
    obtain ⟨r1, r2⟩ := r
    dsimp only at hpf hline hrl
    repeat (first | (refine sty ?_; try intro _) | (refine st ?_; try intro _) | (refine stz ?_; try intro _) | (refine stq ?_; try intro _))
    refine OpK.call (vs := [.string (ba z), .map (some b), .bool (decide (i + 1 = ls.length))]) (cap := []) rfl rfl rfl ?_ hline inferInstance (Mr := bldM B a v xs o) (List.Perm.refl _) ?_
    · show some [Value.string A[i], Value.map (some b), Value.bool (decide _)] = _
      rw [hget]
      exact congrArg (fun q => some [Value.string (ba z), Value.map (some b), Value.bool q]) (decide_eq_decide.2 (by omega))
    rintro u Φ' Mc' ⟨rfl, rfl, rfl⟩
    dsimp only [List.cons_append, List.nil_append]
    by_cases h0 : r2 = 0
    · subst h0
      rw [if_pos rfl] at hpf
      have hw := writeString_spec B a ha v xs r1 o hb (by omega)
      repeat (first | (refine sty ?_; try intro _) | (refine st ?_; try intro _) | (refine stz ?_; try intro _) | (refine stq ?_; try intro _))
      refine OpK.call rfl rfl rfl rfl hw inferInstance (Mr := [_]) (List.perm_append_comm (l₁ := [_])) ?_
      rintro u Φ' Mc' ⟨v2, o2, hb2, rfl, rfl, rfl⟩
      refine G.perm ?_ List.perm_append_comm
      dsimp only [List.cons_append, List.nil_append]
      repeat (first | (refine sty ?_; try intro _) | (refine st ?_; try intro _) | (refine stz ?_; try intro _) | (refine stq ?_; try intro _))
      exact G.ag (S := PaSt) ⟨i + 1, xs ++ r1, some ⟨B, 0, none⟩, v2, o2⟩ (hpre := ⟨by dsimp only; omega, by dsimp only; rw [List.length_append]; omega, .inr rfl, hb2, hpf⟩)
    · rw [if_neg h0] at hpf
      rw [← hpf]
      repeat (first | (refine sty ?_; try intro _) | (refine st ?_; try intro _) | (refine stz ?_; try intro _) | (refine stq ?_; try intro _))
      refine G.retV ?_
      rfl
end Go.Rail
