/- opcode.Parse: a text's lines read. Plain part; the walk is still to be written. -/
import Derived.Test.YtkocobiglipecaaDoorAB9BD
import Derived.Test.YtkocobiglipecaaDoorRailD
namespace Go.Rail
open Go Go.Proofs
set_option linter.unusedSimpArgs false
set_option linter.unusedVariables false
set_option maxHeartbeats 400000
set_option maxRecDepth 4000
attribute [local irreducible] OpK G W LW wpListIn Exit.then Exit.inBlock Post rounds opRun bodyPostM intOp
set_option maxHeartbeats 4000000
/-- The lines of a text: an empty last one is none. -/
def linesL (l : List UInt8) : List (List UInt8) := if (splitB 10 l).getLast? = some [] then (splitB 10 l).dropLast else splitB 10 l
/-- Lines read from the i-th on: the bytes, or the fault and its line. -/
def parseF (ls : List (List UInt8)) : Nat → List UInt8 → List (List UInt8) → List UInt8 × Int × Nat
  | _, xs, [] => (xs, 0, 0)
  | i, xs, a :: r => if (lineR a (decide (i + 1 = ls.length))).2 = 0 then parseF ls (i + 1) (xs ++ (lineR a (decide (i + 1 = ls.length))).1) r else ([], (lineR a (decide (i + 1 = ls.length))).2, i)
theorem parseF_cons (ls : List (List UInt8)) (i : Nat) (xs a : List UInt8) (r : List (List UInt8)) : parseF ls i xs (a :: r) = if (lineR a (decide (i + 1 = ls.length))).2 = 0 then parseF ls (i + 1) (xs ++ (lineR a (decide (i + 1 = ls.length))).1) r else ([], (lineR a (decide (i + 1 = ls.length))).2, i) := rfl
def parseL (l : List UInt8) : List UInt8 × Int × Nat := parseF (linesL l) 0 [] (linesL l)
theorem splitB_le (q : UInt8) : ∀ (l : List UInt8), ∀ a ∈ splitB q l, a.length ≤ l.length
  | [], a, h => by rw [show splitB q [] = [[]] from rfl, List.mem_singleton] at h; subst h; exact Nat.le_refl _
  | x :: r, a, h => by
    have ih := splitB_le q r
    unfold splitB at h
    split at h
    · rcases List.mem_cons.1 h with rfl | h
      · exact Nat.zero_le _
      · have := ih a h; rw [List.length_cons]; omega
    · cases hs : splitB q r with
      | nil => exact absurd hs (splitB_ne q r)
      | cons b t =>
        rw [hs] at h ih
        rcases List.mem_cons.1 h with rfl | h
        · have := ih b (.head _); rw [List.length_cons, List.length_cons]; omega
        · have := ih a (.tail _ h); rw [List.length_cons]; omega
theorem lineR_len (l : List UInt8) (last : Bool) : (lineR l last).1.length ≤ 33 := by
  unfold lineR
  split
  · exact Nat.zero_le _
  · rename_i n hn
    have hb := behN_le n
    split
    · split
      · exact Nat.zero_le _
      · exact (by decide : 1 ≤ 33)
    · split
      · exact Nat.zero_le _
      · split
        · exact Nat.zero_le _
        · rw [List.length_append, List.length_cons, List.length_nil]; omega
structure PaSt where
  i : Nat
  xs : List UInt8
  a : Option Addr
  v : Value
  o : BO
theorem parse_spec (l : List UInt8) (hl : l.length ≤ 1000000) : FnV Tryd.prog 11 [.string (ba l)] [] (.tuple #[.string (ba (parseL l).1), .int .i64 (parseL l).2.1, .int .i64 ((parseL l).2.2 : Int)]) := by
  refine Fn.enter Tryd.func11 rfl Tryd.ntmps11 (by simp) (fun I0 w0 => ?_)
  repeat (first | (refine sty ?_; try intro _) | (refine st ?_; try intro _) | (refine stz ?_; try intro _) | (refine stq ?_; try intro _))
  refine o_callD rfl rfl rfl rfl (sSplit_spec l 10 (by omega)) ?_
  intro v
  have hne : 0 < (splitB 10 l).length := by rw [splitB_len]; omega
  have hle : (splitB 10 l).length ≤ l.length + 1 := by rw [splitB_len]; have := List.count_le_length (a := (10 : UInt8)) (l := l); omega
  have hall := splitB_le 10 l
  unfold parseL linesL
  generalize splitB 10 l = ls at hne hle hall ⊢
  obtain ⟨ini, z, rfl⟩ : ∃ ini z, ls = ini ++ [z] := ⟨ls.dropLast, ls.getLast (fun h => by rw [h] at hne; cases hne), (List.dropLast_concat_getLast _).symm⟩
  rw [List.getLast?_concat, List.dropLast_concat]
  have hall2 : ∀ a ∈ (if some z = some [] then ini else ini ++ [z]), a.length ≤ l.length := by
    split
    · exact fun a ha => hall a (List.mem_append_left _ ha)
    · exact hall
  have hle2 : (if some z = some [] then ini else ini ++ [z]).length ≤ 1000001 := by
    rw [List.length_append, List.length_cons, List.length_nil] at hle
    split
    · omega
    · rw [List.length_append, List.length_cons, List.length_nil]; omega
  refine G.slice v ((ini ++ [z]).map ba) ?_; intro ad cap e1 k1; subst e1
  have hlen : ((ini ++ [z]).map ba).length = ini.length + 1 := by simp
  rw [hlen] at k1 ⊢
  rw [List.length_append, List.length_cons, List.length_nil] at hle
  repeat (first | (refine sty ?_; try intro _) | (refine st ?_; try intro _) | (refine stz ?_; try intro _) | (refine stq ?_; try intro _))
  refine W.cutE (S := List (List UInt8) × Value) (fun s => ([fRp s.2 (s.1.map ba)], [(5, s.2)], [])) (fun s => s.1 = if some z = some [] then ini else ini ++ [z]) ?_ ?_
  · by_cases hze : z = []
    · subst hze
      rw [if_pos rfl]
      refine W.cond_t rfl (decide_eq_true (by simp)) ?_
      repeat (first | (refine sty ?_; try intro _) | (refine st ?_; try intro _) | (refine stz ?_; try intro _) | (refine stq ?_; try intro _))
      refine o_slice 0 ini.length rfl rfl rfl bd0 ⟨_, _, rfl, by simp⟩ (Nat.zero_le _) (by simp) ?_
      intro v'
      have e : ((ini ++ [([] : List UInt8)]).map ba).take ini.length = ini.map ba := by simp
      rw [List.drop_zero, e]
      repeat (first | (refine sty ?_; try intro _) | (refine st ?_; try intro _) | (refine stz ?_; try intro _) | (refine stq ?_; try intro _))
      exact G.kpE (ini, v') rfl (show Ents _ [fRp v' (ini.map ba)] from inferInstance) (look_sub_cons rfl look_sub_nil) (List.nil_sublist _)
    · rw [if_neg (fun h => hze (Option.some.inj h))]
      refine W.cond_f rfl (decide_eq_false (by simpa using hze)) ?_
      repeat (first | (refine sty ?_; try intro _) | (refine st ?_; try intro _) | (refine stz ?_; try intro _) | (refine stq ?_; try intro _))
      exact G.kpE (ini ++ [z], (.slice ad (ini.length + 1) cap)) rfl (show Ents _ [fRp (.slice ad (ini.length + 1) cap) ((ini ++ [z]).map ba)] from inferInstance) (look_sub_cons rfl look_sub_nil) (List.nil_sublist _)
  rintro ⟨ls, v⟩ hls
  dsimp only at hls ⊢
  rw [← hls] at hall2 hle2 ⊢
  clear hls hall hne hle k1 hlen
  have hm : (ls.map ba).length = ls.length := List.length_map _
  have hat : ∀ (i : Nat) (h : i < (ls.map ba).length) (h2 : i < ls.length), (ls.map ba)[i]'h = ba (ls[i]'h2) := by intro i h h2; simp
  generalize ls.map ba = A at hm hat ⊢
  refine G.slice v A ?_; intro ad cap e1 k1; subst e1
  repeat (first | (refine sty ?_; try intro _) | (refine st ?_; try intro _) | (refine stz ?_; try intro _) | (refine stq ?_; try intro _))
  refine OpK.call rfl rfl rfl rfl names_spec inferInstance (Mr := []) (List.Perm.refl _) ?_
  rintro u Φ' Mc' ⟨b, rfl, rfl, rfl⟩
  dsimp only [List.cons_append, List.nil_append]
  repeat (first | (refine sty ?_; try intro _) | (refine st ?_; try intro _) | (refine stz ?_; try intro _) | (refine stq ?_; try intro _))
  rename_i B
  refine W.bare (G.perm ?_ (List.Perm.swap _ _ _))
  refine G.code ?_
  refine W.lp (S := PaSt) (fun s => ([fRp (.slice ad A.length cap) A], [(29, .int .i64 (s.i : Int)), (28, .int .i64 (A.length : Int)), (27, .slice ad A.length cap), (7, .pointer (some ⟨B, 0, none⟩)), (6, .map (some b)), (5, .slice ad A.length cap)], (b, MapT (namesL 256)) :: bldM B s.a s.v s.xs s.o)) (fun s => s.i ≤ ls.length ∧ s.xs.length ≤ 33 * s.i ∧ (s.a = none ∨ s.a = some ⟨B, 0, none⟩) ∧ IsBuf s.v s.xs s.o ∧ parseF ls s.i s.xs (ls.drop s.i) = parseF ls 0 [] ls) (fun s => ls.length - s.i) ⟨0, [], none, .slice none 0 0, none⟩ ?_ (h0 := ⟨Nat.zero_le _, Nat.zero_le _, .inl rfl, ⟨rfl, rfl⟩, rfl⟩)
  rintro ⟨i, xs, a, v, o⟩ ⟨hi, hxs, ha, hb, hpf⟩
  dsimp only at hi hxs ha hb hpf ⊢
  by_cases hie : i = ls.length
  · subst hie
    rw [List.drop_length] at hpf
    rw [← hpf]
    have hs := bString_spec B a v xs o hb (by omega)
    repeat (first | (refine sty ?_; try intro _) | (refine st ?_; try intro _) | (refine stz ?_; try intro _) | (refine stq ?_; try intro _))
    refine OpK.call rfl rfl rfl rfl hs inferInstance (Mr := [_]) (List.perm_append_comm (l₁ := [_])) ?_
    rintro u Φ' Mc' ⟨o', hb', rfl, rfl, rfl⟩
    dsimp only [List.cons_append, List.nil_append]
    repeat (first | (refine sty ?_; try intro _) | (refine st ?_; try intro _) | (refine stz ?_; try intro _) | (refine stq ?_; try intro _))
    refine G.retV ?_
    rfl
  · have hil : i < ls.length := by omega
    rw [List.drop_eq_getElem_cons hil] at hpf
    rw [parseF_cons] at hpf
    have hln := hall2 ls[i] (List.getElem_mem hil)
    have hline := line_spec b ls[i] (decide (i + 1 = ls.length)) (by omega)
    have hrl := lineR_len ls[i] (decide (i + 1 = ls.length))
    have hget : ∀ h, A[i]'h = ba ls[i] := fun h => hat i h hil
    generalize ls[i] = z at hpf hln hline hrl hget
    generalize hlr : lineR z (decide (i + 1 = ls.length)) = r at hpf hline hrl
    obtain ⟨r1, r2⟩ := r
    dsimp only at hpf hline hrl
    repeat (first | (refine sty ?_; try intro _) | (refine st ?_; try intro _) | (refine stz ?_; try intro _) | (refine stq ?_; try intro _))
    refine OpK.call (vs := [.string (ba z), .map (some b), .bool (decide (i + 1 = ls.length))]) (cap := []) rfl rfl rfl ?_ hline inferInstance (Mr := bldM B a v xs o) (List.Perm.refl _) ?_
    · show some [Value.string A[i], Value.map (some b), Value.bool (decide _)] = _
      rw [hget]
      exact congrArg (fun q => some [Value.string (ba z), Value.map (some b), Value.bool q]) (decide_eq_decide.2 (by omega))
    rintro u Φ' Mc' ⟨rfl, rfl, rfl⟩
    dsimp only [List.cons_append, List.nil_append]
    by_cases h0 : r2 = 0
    · subst h0
      rw [if_pos rfl] at hpf
      have hw := writeString_spec B a ha v xs r1 o hb (by omega)
      repeat (first | (refine sty ?_; try intro _) | (refine st ?_; try intro _) | (refine stz ?_; try intro _) | (refine stq ?_; try intro _))
      refine OpK.call rfl rfl rfl rfl hw inferInstance (Mr := [_]) (List.perm_append_comm (l₁ := [_])) ?_
      rintro u Φ' Mc' ⟨v2, o2, hb2, rfl, rfl, rfl⟩
      refine G.perm ?_ List.perm_append_comm
      dsimp only [List.cons_append, List.nil_append]
      repeat (first | (refine sty ?_; try intro _) | (refine st ?_; try intro _) | (refine stz ?_; try intro _) | (refine stq ?_; try intro _))
      exact G.ag (S := PaSt) ⟨i + 1, xs ++ r1, some ⟨B, 0, none⟩, v2, o2⟩ (hpre := ⟨by dsimp only; omega, by dsimp only; rw [List.length_append]; omega, .inr rfl, hb2, hpf⟩)
    · rw [if_neg h0] at hpf
      rw [← hpf]
      repeat (first | (refine sty ?_; try intro _) | (refine st ?_; try intro _) | (refine stz ?_; try intro _) | (refine stq ?_; try intro _))
      refine G.retV ?_
      rfl
end Go.Rail
set_option linter.unusedSimpArgs false
namespace Go.Rail
open Go Go.Proofs
set_option maxHeartbeats 4000000
/-- A code, parted: an opcode and what stands behind it. -/
abbrev Chk := UInt8 × List UInt8
def chkF : Nat → List UInt8 → List Chk
  | 0, _ => []
  | _ + 1, [] => []
  | f + 1, o :: r => (o, r.take (behN o.toNat)) :: chkF f (r.drop (behN o.toNat))
def chk (l : List UInt8) : List Chk := chkF l.length l
def bytC (p : Chk) : List UInt8 := p.1 :: p.2
def bytesC (cs : List Chk) : List UInt8 := cs.flatMap bytC
def linC (p : Chk) : List UInt8 := nameL p.1 ++ (if 0 < behN p.1.toNat then [32] ++ ([48, 120] ++ hexL p.2) else [])
theorem chkF_fuel : ∀ (f g : Nat) (l : List UInt8), l.length ≤ f → l.length ≤ g → chkF f l = chkF g l
  | 0, g, l, hf, _ => by
    have : l = [] := List.length_eq_zero_iff.1 (by omega)
    subst this; cases g <;> rfl
  | f + 1, 0, l, _, hg => by
    have : l = [] := List.length_eq_zero_iff.1 (by omega)
    subst this; rfl
  | f + 1, g + 1, [], _, _ => rfl
  | f + 1, g + 1, o :: r, hf, hg => by
    rw [List.length_cons] at hf hg
    unfold chkF
    rw [chkF_fuel f g _ (by rw [List.length_drop]; omega) (by rw [List.length_drop]; omega)]
theorem chk_nil : chk [] = [] := rfl
theorem chk_cons (o : UInt8) (r : List UInt8) : chk (o :: r) = (o, r.take (behN o.toNat)) :: chk (r.drop (behN o.toNat)) := by
  show chkF (r.length + 1) (o :: r) = _
  unfold chkF
  rw [chk, chkF_fuel r.length _ _ (by rw [List.length_drop]; omega) (Nat.le_refl _)]
theorem chk_ind {p : List UInt8 → Prop} (h0 : p []) (h1 : ∀ o r, p (r.drop (behN o.toNat)) → p (o :: r)) : ∀ l, p l := by
  have h : ∀ n, ∀ l : List UInt8, l.length ≤ n → p l := by
    intro n
    induction n with
    | zero => intro l hl; rw [List.length_eq_zero_iff.1 (by omega : l.length = 0)]; exact h0
    | succ n ih =>
      intro l hl
      cases l with
      | nil => exact h0
      | cons o r => exact h1 o r (ih _ (by rw [List.length_drop]; rw [List.length_cons] at hl; omega))
  exact fun l => h l.length l (Nat.le_refl _)
theorem chk_bytes (l : List UInt8) : bytesC (chk l) = l := by
  refine chk_ind (p := fun l => bytesC (chk l) = l) rfl ?_ l
  intro o r ih
  show bytesC (chk (o :: r)) = o :: r
  rw [chk_cons, bytesC, List.flatMap_cons]
  show (o :: r.take _) ++ bytesC (chk (r.drop _)) = _
  rw [ih, List.cons_append, List.take_append_drop]
theorem chk_good (l : List UInt8) : ∀ (i : Nat) (p : Chk), (chk l)[i]? = some p → p.2.length ≤ behN p.1.toNat ∧ (i + 1 < (chk l).length → p.2.length = behN p.1.toNat) := by
  refine chk_ind (p := fun l => ∀ (i : Nat) (p : Chk), (chk l)[i]? = some p → p.2.length ≤ behN p.1.toNat ∧ (i + 1 < (chk l).length → p.2.length = behN p.1.toNat)) ?_ ?_ l
  · intro i p h; simp [chk_nil] at h
  · intro o r ih i p h
    rw [chk_cons] at h ⊢
    cases i with
    | zero =>
      simp only [List.getElem?_cons_zero, Option.some.injEq] at h
      subst h
      dsimp only
      refine ⟨by rw [List.length_take]; omega, fun h2 => ?_⟩
      rw [List.length_cons] at h2
      rw [List.length_take]
      by_cases hn : behN o.toNat ≤ r.length
      · omega
      · rw [List.drop_eq_nil_of_le (by omega), chk_nil] at h2
        simp at h2
    | succ i =>
      rw [List.getElem?_cons_succ] at h
      obtain ⟨h1, h2⟩ := ih i p h
      refine ⟨h1, fun h3 => h2 ?_⟩
      rw [List.length_cons] at h3; omega
def wholeC (p : Chk) : Prop := p.2.length = behN p.1.toNat
theorem tailB_eq (l : List UInt8) (p n : Nat) : tailB l p n = (l.drop (p + 1)).take n := by
  apply List.ext_getElem?
  intro i
  rw [tailB, List.getElem?_drop, List.getElem?_take, List.getElem?_take, List.getElem?_drop]
  by_cases h : i < n
  · rw [if_pos h]
    by_cases h2 : p + 1 + i < l.length
    · rw [if_pos (by omega)]
    · rw [List.getElem?_eq_none (by omega)]; split <;> rfl
  · rw [if_neg h, if_neg (by omega)]
theorem plcF_chk (l : List UInt8) : ∀ f p, l.length ≤ f + p → (plcF l f p).flatMap (txE l) = (chk (l.drop p)).flatMap (fun c => linC c ++ [10])
  | 0, p, h => by rw [List.drop_eq_nil_of_le (by omega)]; rfl
  | f + 1, p, h => by
    by_cases hp : p < l.length
    · have e : l.drop p = l.getD p 0 :: l.drop (p + 1) := by
        rw [List.drop_eq_getElem_cons hp, List.getD_eq_getElem?_getD, List.getElem?_eq_getElem hp]; rfl
      unfold plcF
      rw [if_pos hp, List.flatMap_cons, plcF_chk l f _ (by omega), e, chk_cons, List.flatMap_cons, List.drop_drop, ← tailB_eq]
      congr 1
      rw [txE, linC, List.append_assoc]
    · rw [plcF_done (by omega), List.drop_eq_nil_of_le (by omega)]; rfl
def lns (cs : List Chk) : List UInt8 := cs.flatMap fun c => linC c ++ [10]
theorem txL_chk (l : List UInt8) : txL l = lns (chk l) := plcF_chk l l.length 0 (by omega)
theorem nameL_clean_all : ((List.range 256).all fun n => (nameL (UInt8.ofNat n)).all fun b => decide (b ≠ 10 ∧ b ≠ 32)) = true := by kernel_rfl
theorem nameL_clean (ch : UInt8) : ∀ b ∈ nameL ch, b ≠ 10 ∧ b ≠ 32 := by
  have h := List.all_eq_true.1 nameL_clean_all ch.toNat (List.mem_range.2 ch.toNat_lt)
  rw [UInt8.ofNat_toNat] at h
  exact fun b hb => of_decide_eq_true (List.all_eq_true.1 h b hb)
theorem hx1_clean (n : Nat) : hx1 n ≠ 10 := by
  by_cases h : n < 16
  · revert n
    exact of_decide_eq_true (by kernel_rfl)
  · unfold hx1
    rw [List.getD_eq_getElem?_getD, List.getElem?_eq_none (by show 16 ≤ n; omega)]
    decide
theorem hexL_clean (l : List UInt8) : ∀ b ∈ hexL l, b ≠ 10 := by
  intro b hb
  obtain ⟨a, _, ha⟩ := List.mem_flatMap.1 hb
  rcases List.mem_cons.1 ha with rfl | ha
  · exact hx1_clean _
  · rcases List.mem_cons.1 ha with rfl | ha
    · exact hx1_clean _
    · cases ha
theorem linC_clean (p : Chk) : ∀ b ∈ linC p, b ≠ 10 := by
  intro b hb
  rcases List.mem_append.1 hb with hb | hb
  · exact (nameL_clean _ b hb).1
  · split at hb
    · rcases List.mem_append.1 hb with hb | hb
      · rw [List.mem_singleton.1 hb]; decide
      · rcases List.mem_append.1 hb with hb | hb
        · rcases List.mem_cons.1 hb with rfl | hb
          · decide
          · rw [List.mem_singleton.1 hb]; decide
        · exact hexL_clean _ b hb
    · cases hb
theorem splitB_app (q : UInt8) (r : List UInt8) : ∀ a : List UInt8, (∀ b ∈ a, b ≠ q) → splitB q (a ++ q :: r) = a :: splitB q r
  | [], _ => by rw [List.nil_append]; conv => lhs; unfold splitB
                rw [if_pos rfl]
  | x :: a, h => by
    rw [List.cons_append]
    conv => lhs; unfold splitB
    rw [if_neg (h x (.head _)), splitB_app q r a (fun b hb => h b (.tail _ hb))]
theorem splitB_flat (L : List (List UInt8)) (h : ∀ a ∈ L, ∀ b ∈ a, b ≠ 10) (r : List UInt8) : splitB 10 (L.flatMap (fun a => a ++ [10]) ++ r) = L ++ splitB 10 r := by
  induction L with
  | nil => rfl
  | cons a L ih =>
    rw [List.flatMap_cons, List.append_assoc, List.append_assoc, List.singleton_append, splitB_app 10 _ a (h a (.head _)), ih (fun a ha => h a (.tail _ ha)), List.cons_append]
theorem linesL_flat (L : List (List UInt8)) (h : ∀ a ∈ L, ∀ b ∈ a, b ≠ 10) : linesL (L.flatMap (fun a => a ++ [10])) = L := by
  have e := splitB_flat L h []
  rw [List.append_nil] at e
  unfold linesL
  rw [e, show splitB 10 [] = [[]] from rfl, List.getLast?_concat, if_pos rfl, List.dropLast_concat]
theorem lns_flat (cs : List Chk) : lns cs = (cs.map linC).flatMap (fun a => a ++ [10]) := by
  rw [lns, List.flatMap_map]
theorem lin_all (cs : List Chk) : ∀ a ∈ cs.map linC, ∀ b ∈ a, b ≠ 10 := by
  intro a ha
  obtain ⟨p, _, rfl⟩ := List.mem_map.1 ha
  exact linC_clean p
theorem idxB_app (q : UInt8) (r : List UInt8) : ∀ a : List UInt8, (∀ b ∈ a, b ≠ q) → idxB (a ++ q :: r) q = a.length
  | [], _ => idxB_eq q r
  | x :: a, h => by rw [List.cons_append, idxB_ne _ (h x (.head _)), idxB_app q r a (fun b hb => h b (.tail _ hb)), List.length_cons]
theorem idxB_none (q : UInt8) : ∀ a : List UInt8, (∀ b ∈ a, b ≠ q) → idxB a q = a.length
  | [], _ => rfl
  | x :: a, h => by rw [idxB_ne _ (h x (.head _)), idxB_none q a (fun b hb => h b (.tail _ hb)), List.length_cons]
theorem cutB_none (q : UInt8) (a : List UInt8) (h : ∀ b ∈ a, b ≠ q) : cutB a q = (a, [], false) := by
  unfold cutB
  rw [idxB_none q a h, if_neg (Nat.lt_irrefl _)]
theorem cutB_app (q : UInt8) (a r : List UInt8) (h : ∀ b ∈ a, b ≠ q) : cutB (a ++ q :: r) q = (a, r, true) := by
  unfold cutB
  rw [idxB_app q r a h, if_pos (by rw [List.length_append, List.length_cons]; omega), List.take_left, ← List.drop_drop, List.drop_left]
  rfl
theorem dig_idx : ∀ n < 16, idxB digsL (hx1 n) = n := of_decide_eq_true (by kernel_rfl)
theorem unhP_hex (t : List UInt8) : unhP (hexL t) = some t := by
  induction t with
  | nil => rfl
  | cons a t ih =>
    have h1 := a.toNat_lt
    have e1 := dig_idx (a.toNat / 16) (by omega)
    have e2 := dig_idx (a.toNat % 16) (Nat.mod_lt _ (by decide))
    show unhP (hx1 (a.toNat / 16) :: hx1 (a.toNat % 16) :: hexL t) = _
    unfold unhP
    rw [e1, e2, if_pos ⟨by omega, by omega⟩, ih, show 16 * (a.toNat / 16) + a.toNat % 16 = a.toNat from by omega, UInt8.ofNat_toNat]
    rfl
theorem unhL_hex (t : List UInt8) : unhL ([48, 120] ++ hexL t) = some t := by
  unfold unhL
  rw [if_pos (by simp [List.isPrefixOf])]
  exact unhP_hex t
theorem name_inj (i j : Nat) (hi : i < 256) (hj : j < 256) (h : nameL (UInt8.ofNat i) = nameL (UInt8.ofNat j)) : i = j := by
  have key : ∀ i j, i < j → j < 256 → nameL (UInt8.ofNat i) ≠ nameL (UInt8.ofNat j) := by
    intro i j hij hj
    have h1 := fresh_at allNames [] j (nameL (UInt8.ofNat j)) fresh_all (by simp [allNames, hj])
    rw [List.nil_append, allNames, ← List.map_take, List.take_range, show min j 256 = j from by omega, List.all_map] at h1
    exact of_decide_eq_true (List.all_eq_true.1 h1 i (List.mem_range.2 hij))
  rcases Nat.lt_trichotomy i j with h1 | h1 | h1
  · exact absurd h (key i j h1 hj)
  · exact h1
  · exact absurd h.symm (key j i h1 hi)
theorem find_at {p : Nat → Bool} : ∀ (l : List Nat) (n : Nat), n ∈ l → p n = true → (∀ i ∈ l, p i = true → i = n) → l.find? p = some n
  | [], _, h, _, _ => by cases h
  | a :: l, n, h, hp, hu => by
    cases ha : p a with
    | true => rw [List.find?_cons_of_pos ha, hu a (.head _) ha]
    | false =>
      rw [List.find?_cons_of_neg (by rw [ha]; decide)]
      rcases List.mem_cons.1 h with rfl | h
      · rw [hp] at ha; cases ha
      · exact find_at l n h hp (fun i hi => hu i (.tail _ hi))
theorem numN_name (ch : UInt8) : numN (nameL ch) = some ch.toNat := by
  have hlt := ch.toNat_lt
  refine find_at _ _ (List.mem_range.2 hlt) (decide_eq_true (by rw [UInt8.ofNat_toNat])) ?_
  intro i hi h
  have h1 := of_decide_eq_true h
  rw [← UInt8.ofNat_toNat (x := ch)] at h1
  exact (name_inj _ _ hlt (List.mem_range.1 hi) h1).symm
theorem lineR_chk (p : Chk) (last : Bool) (h1 : p.2.length ≤ behN p.1.toNat) (h2 : last = false → p.2.length = behN p.1.toNat) : lineR (linC p) last = (bytC p, 0) := by
  obtain ⟨o, t⟩ := p
  dsimp only at h1 h2
  unfold lineR linC bytC
  dsimp only
  have hcl := nameL_clean o
  have hn := numN_name o
  by_cases h0 : 0 < behN o.toNat
  · rw [if_pos h0, List.singleton_append, cutB_app 32 _ _ (fun b hb => (hcl b hb).2)]
    dsimp only
    rw [hn]
    dsimp only
    rw [if_neg (by omega), unhL_hex]
    dsimp only
    rw [if_neg ?_, UInt8.ofNat_toNat]
    · rfl
    · rintro (h | ⟨h, hl⟩)
      · omega
      · have := h2 hl; omega
  · rw [if_neg h0, List.append_nil, cutB_none 32 _ (fun b hb => (hcl b hb).2)]
    dsimp only
    rw [hn]
    dsimp only
    rw [if_pos (by omega), UInt8.ofNat_toNat, List.length_eq_zero_iff.1 (by omega : t.length = 0)]
    rfl
theorem parseF_ok (ls : List (List UInt8)) : ∀ (cs : List Chk) (i : Nat) (xs : List UInt8) (r : List (List UInt8)), (∀ j p, cs[j]? = some p → p.2.length ≤ behN p.1.toNat ∧ (i + j + 1 ≠ ls.length → p.2.length = behN p.1.toNat)) →
    parseF ls i xs (cs.map linC ++ r) = parseF ls (i + cs.length) (xs ++ bytesC cs) r
  | [], i, xs, r, _ => by simp [bytesC]
  | p :: cs, i, xs, r, h => by
    have h0 := h 0 p rfl
    have e := lineR_chk p (decide (i + 1 = ls.length)) h0.1 (fun hl => h0.2 (of_decide_eq_false hl))
    rw [List.map_cons, List.cons_append]
    conv => lhs; unfold parseF
    rw [e]
    dsimp only
    rw [if_pos rfl, parseF_ok ls cs (i + 1) _ r (fun j p hj => by
      have := h (j + 1) p (by simpa using hj)
      rw [show i + (j + 1) + 1 = i + 1 + j + 1 from by omega] at this
      exact this)]
    rw [List.length_cons, show i + 1 + cs.length = i + (cs.length + 1) from by omega, List.append_assoc]
    rfl
/-- Parse undoes Text. -/
theorem parse_text (l : List UInt8) : parseL (txL l) = (l, 0, 0) := by
  have hl : linesL (txL l) = (chk l).map linC := by rw [txL_chk, lns_flat, linesL_flat _ (lin_all _)]
  unfold parseL
  rw [hl]
  have h := parseF_ok ((chk l).map linC) (chk l) 0 [] [] (fun j p hj => by
    obtain ⟨h1, h2⟩ := chk_good l j p hj
    refine ⟨h1, fun h3 => h2 ?_⟩
    have := (List.getElem?_eq_some_iff.1 hj).1
    rw [List.length_map] at h3
    omega)
  rw [List.append_nil] at h
  rw [h, List.nil_append, chk_bytes]
  rfl
end Go.Rail
