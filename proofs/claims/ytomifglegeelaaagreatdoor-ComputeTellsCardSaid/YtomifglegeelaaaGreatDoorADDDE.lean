/- The document's opcodes that work on the stack alone. -/
import Derived.Test.YtomifglegeelaaaGreatDoorADCC16
import Derived.Test.YtomifglegeelaaaGreatDoorAC19C20
namespace Go.Rail
open Go Go.Proofs
set_option linter.unusedSimpArgs false
set_option linter.unusedVariables false
set_option maxHeartbeats 400000
set_option maxRecDepth 4000
attribute [local irreducible] OpK G W LW wpListIn Exit.then Exit.inBlock Post rounds opRun bodyPostM intOp
set_option maxHeartbeats 4000000
attribute [local irreducible] lexN cmpW Word.nat subW mulW addW divW modW sdivW smodW addmodW mulmodW expW andW orW xorW notW shlW shrW sarW byteW signW lessW Word.num
instance cvDD_1 (a b : Word) {Φ : List Fa} : CV Tryz.prog 49 [a.v, b.v] Φ (sdivW a b).v := ⟨Fn.weaken (rsdiv_spec a b)⟩
instance cvDD_2 (a b : Word) {Φ : List Fa} : CV Tryz.prog 51 [a.v, b.v] Φ (smodW a b).v := ⟨Fn.weaken (rsmod_spec a b)⟩
instance cvDD_3 (a b c : Word) {Φ : List Fa} : CV Tryz.prog 52 [a.v, b.v, c.v] Φ (addmodW a b c).v := ⟨Fn.weaken (raddmod_spec a b c)⟩
instance cvDD_4 (a b c : Word) {Φ : List Fa} : CV Tryz.prog 53 [a.v, b.v, c.v] Φ (mulmodW a b c).v := ⟨Fn.weaken (rmulmod_spec a b c)⟩
instance cvDD_5 (a b : Word) {Φ : List Fa} : CV Tryz.prog 54 [a.v, b.v] Φ (expW a b).v := ⟨Fn.weaken (rexp_spec a b)⟩
instance cvDD_6 (a b : Word) {Φ : List Fa} : CV Tryz.prog 55 [a.v, b.v] Φ (signW a b).v := ⟨Fn.weaken (rsign_spec a b)⟩
instance cvDD_7 (a b : Word) {Φ : List Fa} : CV Tryz.prog 58 [a.v, b.v] Φ (.bool (lessW a b)) := ⟨Fn.weaken (rless3_spec a b)⟩
instance cvDD_8 (a b : Word) {Φ : List Fa} : CV Tryz.prog 59 [a.v, b.v] Φ (andW a b).v := ⟨Fn.weaken (rand_spec a b)⟩
instance cvDD_9 (a b : Word) {Φ : List Fa} : CV Tryz.prog 60 [a.v, b.v] Φ (orW a b).v := ⟨Fn.weaken (ror_spec a b)⟩
instance cvDD_10 (a b : Word) {Φ : List Fa} : CV Tryz.prog 61 [a.v, b.v] Φ (xorW a b).v := ⟨Fn.weaken (rxor_spec a b)⟩
instance cvDD_11 (a : Word) {Φ : List Fa} : CV Tryz.prog 62 [a.v] Φ (notW a).v := ⟨Fn.weaken (rnot_spec a)⟩
instance cvDD_12 (a b : Word) {Φ : List Fa} : CV Tryz.prog 63 [a.v, b.v] Φ (byteW a b).v := ⟨Fn.weaken (rbyte_spec a b)⟩
instance cvDD_13 (a b : Word) {Φ : List Fa} : CV Tryz.prog 64 [a.v, b.v] Φ (shlW a b).v := ⟨Fn.weaken (rshl_spec a b)⟩
instance cvDD_14 (a b : Word) {Φ : List Fa} : CV Tryz.prog 65 [a.v, b.v] Φ (shrW a b).v := ⟨Fn.weaken (rshr_spec a b)⟩
instance cvDD_15 (a b : Word) {Φ : List Fa} : CV Tryz.prog 66 [a.v, b.v] Φ (sarW a b).v := ⟨Fn.weaken (rsar_spec a b)⟩
theorem rflag_spec (b : Bool) : FnV Tryz.prog 56 [.bool b] [] (flagW b).v := by
  cases b
  · refine Fn.enter Tryz.func56 rfl Tryz.ntmps56 (by simp) (fun I0 w0 => ?_)
    repeat (first | (refine sty ?_; try intro _) | (refine st ?_; try intro _) | (refine stz ?_; try intro _))
    refine G.retV ?_
    rfl
  · refine Fn.enter Tryz.func56 rfl Tryz.ntmps56 (by simp) (fun I0 w0 => ?_)
    repeat (first | (refine sty ?_; try intro _) | (refine st ?_; try intro _) | (refine stz ?_; try intro _))
    refine G.retV ?_
    rfl
instance cvDD_16 (b : Bool) {Φ : List Fa} : CV Tryz.prog 56 [.bool b] Φ (flagW b).v := ⟨Fn.weaken (rflag_spec b)⟩
def sumsL : List (Nat × (Word → Word → Word → Word)) := [(1, fun a b _ => addW a b), (2, fun a b _ => mulW a b), (3, fun a b _ => subW a b), (4, fun a b _ => divW a b), (5, fun a b _ => sdivW a b), (6, fun a b _ => modW a b), (7, fun a b _ => smodW a b), (8, addmodW), (9, mulmodW), (10, fun a b _ => expW a b), (11, fun a b _ => signW a b)]
def bitsL : List (Nat × (Word → Word → Word)) := [(16, fun a b => flagW (decide (cmpW a b < 0))), (17, fun a b => flagW (decide (0 < cmpW a b))), (18, fun a b => flagW (lessW a b)), (19, fun a b => flagW (lessW b a)), (20, fun a b => flagW (decide (a = b))), (21, fun a _ => flagW (decide (a = .zero))),
  (22, andW), (23, orW), (24, xorW), (25, fun a _ => notW a), (26, byteW), (27, shlW), (28, shrW), (29, sarW)]
theorem sums_spec : ∀ e ∈ sumsL, ∀ a b c : Word, FnV Tryz.prog 28 [.int .u8 (e.1 : Int), a.v, b.v, c.v] [] (e.2 a b c).v := by
  simp only [sumsL, List.forall_mem_cons]
  refine ⟨?_, ?_, ?_, ?_, ?_, ?_, ?_, ?_, ?_, ?_, ?_, fun _ h => by cases h⟩
  all_goals
    intro a b c
    refine Fn.enter Tryz.func28 rfl Tryz.ntmps28 (by simp) (fun I0 w0 => ?_)
    repeat (first | (refine sty ?_; try intro _) | (refine st ?_; try intro _) | (refine stz ?_; try intro _))
    refine G.retV ?_
    rfl
theorem bits16_spec : ∀ e ∈ bitsL, ∀ a b : Word, FnV Tryz.prog 29 [.int .u8 (e.1 : Int), a.v, b.v] [] (e.2 a b).v := by
  simp only [bitsL, List.forall_mem_cons]
  refine ⟨?_, ?_, ?_, ?_, ?_, ?_, ?_, ?_, ?_, ?_, ?_, ?_, ?_, ?_, fun _ h => by cases h⟩
  all_goals
    intro a b
    refine Fn.enter Tryz.func29 rfl Tryz.ntmps29 (by simp) (fun I0 w0 => ?_)
    repeat (first | (refine sty ?_; try intro _) | (refine st ?_; try intro _) | (refine stz ?_; try intro _))
    refine G.retV ?_
    rfl
end Go.Rail
namespace Go.Rail
open Go Go.Proofs
set_option linter.unusedSimpArgs false
set_option linter.unusedVariables false
set_option maxHeartbeats 400000
set_option maxRecDepth 4000
attribute [local irreducible] OpK G W LW wpListIn Exit.then Exit.inBlock Post rounds opRun bodyPostM intOp
set_option maxHeartbeats 16000000
set_option maxRecDepth 20000
attribute [local irreducible] lexN cmpW Word.nat subW mulW addW divW modW sdivW smodW addmodW mulmodW expW andW orW xorW notW shlW shrW sarW byteW signW lessW Word.num
def isI (n : Nat) : Bool := decide (1 ≤ n ∧ n ≤ 11 ∨ 16 ≤ n ∧ n ≤ 29 ∨ n = 80 ∨ 128 ≤ n ∧ n ≤ 159)
theorem isI_eq (n : Nat) (hn : n < 256) : isC n = isI n := by
  have h1 : ((List.range 256).all fun k => isC k == isI k) = true := by kernel_rfl
  have := List.all_eq_true.1 h1 n (by simpa using hn)
  simpa using this
theorem is16_spec (n : Nat) (hn : n < 256) : FnV Tryz.prog 15 [.int .u8 (n : Int)] [] (.bool (isC n)) := by
  rw [isI_eq n hn]
  obtain h | h | h | h | h | h | h | h : n = 0 ∨ (1 ≤ n ∧ n ≤ 11) ∨ (12 ≤ n ∧ n ≤ 15) ∨ (16 ≤ n ∧ n ≤ 29) ∨ (30 ≤ n ∧ n ≤ 127 ∧ n ≠ 80) ∨ n = 80 ∨ (128 ≤ n ∧ n ≤ 159) ∨ 160 ≤ n := by omega
  all_goals
    refine Fn.enter Tryz.func15 rfl Tryz.ntmps15 (by simp) (fun I0 w0 => ?_)
    repeat (first | (refine sty ?_; try intro _) | (refine st ?_; try intro _) | (refine stz ?_; try intro _))
    refine G.retV ?_
    first
      | (rw [show isI n = true from decide_eq_true (by omega)]; rfl)
      | (rw [show isI n = false from decide_eq_false (by omega)]; rfl)
theorem made_sums : ∀ e ∈ sumsL, ∀ l : List Word, madeL e.1 l = [e.2 (l.getD 0 .zero) (l.getD 1 .zero) (l.getD 2 .zero)] := by
  simp only [sumsL, List.forall_mem_cons]
  refine ⟨?_, ?_, ?_, ?_, ?_, ?_, ?_, ?_, ?_, ?_, ?_, fun _ h => by cases h⟩ <;> exact fun l => rfl
theorem made_bits : ∀ e ∈ bitsL, ∀ l : List Word, madeL e.1 l = [e.2 (l.getD 0 .zero) (l.getD 1 .zero)] := by
  simp only [bitsL, List.forall_mem_cons]
  refine ⟨?_, ?_, ?_, ?_, ?_, ?_, ?_, ?_, ?_, ?_, ?_, ?_, ?_, ?_, fun _ h => by cases h⟩ <;> exact fun l => rfl
theorem which_all : ((List.range 128).all fun n => !(isC n) || Nat.beq n 80 || (if Nat.ble n 11 then sumsL.any (fun e => Nat.beq e.1 n) else bitsL.any (fun e => Nat.beq e.1 n)) && Nat.ble 1 (popsN n)) = true := by kernel_rfl
theorem which (n : Nat) (hn : n < 128) (h : isC n = true) (h80 : n ≠ 80) : 1 ≤ popsN n ∧ (n ≤ 11 → ∃ e ∈ sumsL, e.1 = n) ∧ (11 < n → ∃ e ∈ bitsL, e.1 = n) := by
  have := List.all_eq_true.1 which_all n (by simpa using hn)
  have hb : Nat.beq n 80 = false := by
    cases hb : Nat.beq n 80 with
    | false => rfl
    | true => exact absurd (Nat.eq_of_beq_eq_true hb) h80
  rw [h, hb] at this
  simp only [Bool.not_true, Bool.false_or, Bool.and_eq_true, Nat.ble_eq] at this
  refine ⟨this.2, fun h1 => ?_, fun h1 => ?_⟩
  · rw [if_pos h1] at this
    obtain ⟨e, he, h2⟩ := List.any_eq_true.1 this.1
    exact ⟨e, he, Nat.eq_of_beq_eq_true h2⟩
  · rw [if_neg (by omega)] at this
    obtain ⟨e, he, h2⟩ := List.any_eq_true.1 this.1
    exact ⟨e, he, Nat.eq_of_beq_eq_true h2⟩
theorem get_two (l : List Word) (i : Nat) (h : i < (l ++ [Word.zero, Word.zero]).length) : (l ++ [Word.zero, Word.zero])[i]? = some (l.getD i .zero) := by
  rw [List.getElem?_eq_getElem h]
  congr 1
  by_cases hi : i < l.length
  · rw [List.getElem_append_left hi, List.getD_eq_getElem?_getD, List.getElem?_eq_getElem hi]; rfl
  · rw [List.getElem_append_right (by omega), List.getD_eq_getElem?_getD, List.getElem?_eq_none (by omega)]
    simp only [List.length_append, List.length_cons, List.length_nil] at h
    obtain h1 | h1 : i - l.length = 0 ∨ i - l.length = 1 := by omega
    · simp only [h1]; rfl
    · simp only [h1]; rfl
theorem sub_le1 {a b : Nat} (h1 : 1 ≤ b) (h2 : a ≤ 1024) (h3 : b ≤ a) : a - b + 1 ≤ 1024 := by omega
theorem push_one {rest : List Word} (x : Word) (h : rest.length + 1 ≤ 1024) : pushL rest [x] = (rest ++ [x], 0) := by
  unfold pushL
  rw [if_neg (by omega), if_neg (by simp; omega)]
theorem do16_spec (n : Nat) (hn : n < 256) (v : Value) (s : List Word) (hs : s.length ≤ 100000) : Fn Tryz.prog 12 [.int .u8 (n : Int), v] [fRp v s] [] (RD (doC n s).2 (doC n s).1) := by
  have hi := is16_spec n hn
  unfold doC
  refine Fn.enter Tryz.func12 rfl Tryz.ntmps12 (by simp) (fun I0 w0 => ?_)
  refine W.bare (G.slice v s ?_); intro a1 c1 e1 k1; subst e1
  refine G.code ?_
  repeat (first | (refine sty ?_; try intro _) | (refine st ?_; try intro _) | (refine stz ?_; try intro _))
  refine o_app2 (α := Word) (Mr := []) none (xs := []) (ys := s) ⟨rfl, rfl⟩ ⟨by simp; omega, by simp; omega, rfl⟩ rfl rfl rfl rfl (show Ent' _ (fRow [] ([] : List Word)) from inferInstance) inferInstance (List.Perm.refl _) ?_
  intro w o ho
  rw [List.nil_append] at ho ⊢
  dsimp only [List.nil_append]
  refine G.giveOwn2 (Mr := []) w s o 24 ho inferInstance (List.Perm.refl _) ?_
  cases hc : isC n with
  | false =>
    rw [hc] at hi
    rw [if_pos rfl]
    repeat (first | (refine sty ?_; try intro _) | (refine st ?_; try intro _) | (refine stz ?_; try intro _))
    refine o_callV rfl rfl rfl rfl hi rfl ?_
    repeat (first | (refine sty ?_; try intro _) | (refine st ?_; try intro _) | (refine stz ?_; try intro _))
    exact G.ret rfl (.cons (.tmp rfl) (.cons (.tmp rfl) .nil)) (Φ' := [fRp w s]) (M' := []) inferInstance (List.nil_sublist _) ⟨_, rfl, rfl, rfl⟩
  | true =>
  rw [hc] at hi
  rw [if_neg (by decide)]
  by_cases h1 : 1024 < s.length
  · rw [if_pos h1]
    repeat (first | (refine sty ?_; try intro _) | (refine st ?_; try intro _) | (refine stz ?_; try intro _))
    refine o_callV rfl rfl rfl rfl hi rfl ?_
    repeat (first | (refine sty ?_; try intro _) | (refine st ?_; try intro _) | (refine stz ?_; try intro _))
    exact G.ret rfl (.cons (.tmp rfl) (.cons (.tmp rfl) .nil)) (Φ' := [fRp w s]) (M' := []) inferInstance (List.nil_sublist _) ⟨_, rfl, rfl, rfl⟩
  rw [if_neg h1]
  by_cases h2 : 144 ≤ n
  · rw [if_pos h2]
    have hsw := swap13_spec (.slice a1 s.length c1) s (n - 143) (by omega) hs
    generalize (swapL s (n - 143)).1 = r at hsw ⊢
    generalize (swapL s (n - 143)).2 = e at hsw ⊢
    repeat (first | (refine sty ?_; try intro _) | (refine st ?_; try intro _) | (refine stz ?_; try intro _))
    refine o_callV rfl rfl rfl rfl hi rfl ?_
    repeat (first | (refine sty ?_; try intro _) | (refine st ?_; try intro _) | (refine stz ?_; try intro _))
    refine OpK.call rfl rfl rfl rfl hsw inferInstance (Mr := _) (List.Perm.refl _) ?_
    rintro u Φ' Mc' ⟨sv, rfl, rfl, rfl⟩
    dsimp only [List.cons_append, List.nil_append]
    unfold tupD
    repeat (first | (refine sty ?_; try intro _) | (refine st ?_; try intro _) | (refine stz ?_; try intro _))
    exact G.ret rfl (.cons (.tmp rfl) (.cons (.tmp rfl) .nil)) (Φ' := [fRp sv _]) (M' := []) inferInstance (List.nil_sublist _) ⟨_, rfl, rfl, rfl⟩
  rw [if_neg h2]
  by_cases h3 : 128 ≤ n
  · rw [if_pos h3]
    have hsw := dup13_spec (.slice a1 s.length c1) s (n - 127) (by omega) hs
    generalize (dupL s (n - 127)).1 = r at hsw ⊢
    generalize (dupL s (n - 127)).2 = e at hsw ⊢
    repeat (first | (refine sty ?_; try intro _) | (refine st ?_; try intro _) | (refine stz ?_; try intro _))
    refine o_callV rfl rfl rfl rfl hi rfl ?_
    repeat (first | (refine sty ?_; try intro _) | (refine st ?_; try intro _) | (refine stz ?_; try intro _))
    refine OpK.call rfl rfl rfl rfl hsw inferInstance (Mr := _) (List.Perm.refl _) ?_
    rintro u Φ' Mc' ⟨sv, rfl, rfl, rfl⟩
    dsimp only [List.cons_append, List.nil_append]
    unfold tupD
    repeat (first | (refine sty ?_; try intro _) | (refine st ?_; try intro _) | (refine stz ?_; try intro _))
    exact G.ret rfl (.cons (.tmp rfl) (.cons (.tmp rfl) .nil)) (Φ' := [fRp sv _]) (M' := []) inferInstance (List.nil_sublist _) ⟨_, rfl, rfl, rfl⟩
  rw [if_neg h3]
  obtain ⟨p1, -, -, -⟩ := pops_ok n (by omega) hc
  have hin := rinfo_spec n hn
  have hpop := pop13_spec (.slice a1 s.length c1) s (popsN n) (by omega) hs
  unfold infoV rowV at hin
  rw [show ((infoN n).getD noRow).pops = popsN n from rfl] at hin
  by_cases h4 : (popL s (popsN n)).2.2 = 0
  · rw [if_neg (by simpa using h4)]
    obtain ⟨q1, q2, q3⟩ := popL_ok h4
    have hlen : (popL s (popsN n)).2.1.length = popsN n := by rw [q2]; simp; omega
    have hlen1 : (popL s (popsN n)).1.length = s.length - popsN n := by rw [q1, List.length_take]; omega
    rw [h4] at hpop
    generalize (popL s (popsN n)).1 = rest at hpop hlen1 ⊢
    generalize (popL s (popsN n)).2.1 = l at hpop hlen ⊢
    by_cases h80 : n = 80
    · subst h80
      have hm : madeL 80 l = [] := rfl
      have e : pushL rest [] = (rest, 0) := by
        unfold pushL
        rw [if_neg (by omega), if_neg (by simp; omega), List.append_nil]
      rw [hm, e]
      generalize popsN 80 = p at hin hpop
      repeat (first | (refine sty ?_; try intro _) | (refine st ?_; try intro _) | (refine stz ?_; try intro _))
      refine o_callV rfl rfl rfl rfl hi rfl ?_
      repeat (first | (refine sty ?_; try intro _) | (refine st ?_; try intro _) | (refine stz ?_; try intro _))
      refine o_callV rfl rfl rfl rfl hin rfl ?_
      repeat (first | (refine sty ?_; try intro _) | (refine st ?_; try intro _) | (refine stz ?_; try intro _))
      rename_i b7
      refine OpK.call rfl rfl rfl rfl hpop inferInstance (Mr := _) (List.Perm.refl _) ?_
      rintro u Φ' Mc' ⟨v1, v2, o1, o2, rfl, ho1, ho2, rfl, rfl⟩
      dsimp only [List.cons_append, List.nil_append]
      refine G.perm ?_ (List.perm_append_singleton _ _)
      refine G.drop b7 ?_
      refine G.giveOwn2 (Mr := ownM 24 o2) v1 rest o1 24 ho1 inferInstance List.perm_append_comm ?_
      repeat (first | (refine sty ?_; try intro _) | (refine st ?_; try intro _) | (refine stz ?_; try intro _))
      exact G.ret rfl (.cons (.tmp rfl) (.cons (.tmp rfl) .nil)) (Φ' := [fRp v1 rest]) (M' := []) inferInstance (List.nil_sublist _) ⟨_, rfl, rfl, rfl⟩
    · obtain ⟨w1, w2, w3⟩ := which n (by omega) hc h80
      have hr8 : rest.length + 1 ≤ 1024 := by
        rw [hlen1]
        exact sub_le1 w1 (Nat.le_of_not_lt h1) q3
      have e : ∀ x, pushL rest [x] = (rest ++ [x], 0) := fun x => push_one x hr8
      have hl7 : l.length ≤ 7 := by rw [hlen]; exact p1
      have hl1 : 1 ≤ l.length := by rw [hlen]; exact w1
      have hr7 : rest.length ≤ 1024 := Nat.le_of_succ_le hr8
      clear hlen1 q1 q2 q3 hlen w1
      have g0 := get_two l 0 (by simp)
      have g1 := get_two l 1 (by simp)
      have g2 := get_two l 2 (by simp; omega)
      by_cases h11 : n ≤ 11
      · obtain ⟨q, hq1, hq2⟩ := w2 h11
        have hsu := sums_spec q hq1 (l.getD 0 .zero) (l.getD 1 .zero) (l.getD 2 .zero)
        have hm := made_sums q hq1 l
        rw [hq2] at hsu hm
        rw [hm, e]
        generalize q.2 (l.getD 0 .zero) (l.getD 1 .zero) (l.getD 2 .zero) = x at hsu ⊢
        clear hm
        generalize l.getD 0 .zero = x0 at g0 hsu
        generalize l.getD 1 .zero = x1 at g1 hsu
        generalize l.getD 2 .zero = x2 at g2 hsu
        generalize popsN n = p at hin hpop
        repeat (first | (refine sty ?_; try intro _) | (refine st ?_; try intro _) | (refine stz ?_; try intro _))
        refine o_callV rfl rfl rfl rfl hi rfl ?_
        repeat (first | (refine sty ?_; try intro _) | (refine st ?_; try intro _) | (refine stz ?_; try intro _))
        refine o_callV rfl rfl rfl rfl hin rfl ?_
        repeat (first | (refine sty ?_; try intro _) | (refine st ?_; try intro _) | (refine stz ?_; try intro _))
        rename_i b7
        refine OpK.call rfl rfl rfl rfl hpop inferInstance (Mr := _) (List.Perm.refl _) ?_
        rintro u Φ' Mc' ⟨v1, v2, o1, o2, rfl, ho1, ho2, rfl, rfl⟩
        dsimp only [List.cons_append, List.nil_append]
        refine G.perm ?_ (List.perm_append_singleton _ _)
        refine G.drop b7 ?_
        repeat (first | (refine sty ?_; try intro _) | (refine st ?_; try intro _) | (refine stz ?_; try intro _))
        refine o_app2 (α := Word) (Mr := ownM 24 o1) o2 (xs := l) (ys := [Word.zero, Word.zero]) ho2 ⟨by simp; omega, by simp; omega, rfl⟩ rfl rfl rfl rfl inferInstance inferInstance (List.Perm.refl _) ?_
        intro v3 o3 ho3
        refine G.giveOwn2 (Mr := ownM 24 o1) v3 (l ++ [Word.zero, Word.zero]) o3 24 ho3 inferInstance (List.Perm.refl _) ?_
        repeat (first | (refine sty ?_; try intro _) | (refine st ?_; try intro _) | (refine stz ?_; try intro _))
        refine W.drawA 13 [dq _, dq _, dq _, dk _, dq _, dq _, dk _, dq _, dq _, dk _, dq _, dq _, dk _] [[], [], [], [2], [3], [], [5], [6], [], [8], [9], [1,4,7,10], [11]] [0, 12] (hrest := fun c => nrm ?_) (hops := by
          iterate 3 refine AllQ.az ?_
          refine AllQ.mk (by intro c z0 Φr Lr K; refine nrm ?_; intro hK; refine o_idxG 0 x0 rfl rfl rfl rfl rfl g0 ?_; exact hK) ?_
          iterate 2 refine AllQ.az ?_
          refine AllQ.mk (by intro c z0 Φr Lr K; refine nrm ?_; intro hK; refine o_idxG 1 x1 rfl rfl rfl rfl rfl g1 ?_; exact hK) ?_
          iterate 2 refine AllQ.az ?_
          refine AllQ.mk (by intro c z0 Φr Lr K; refine nrm ?_; intro hK; refine o_idxG 2 x2 rfl rfl rfl rfl rfl g2 ?_; exact hK) ?_
          iterate 1 refine AllQ.az ?_
          refine AllQ.mk (by intro c z0 Φr Lr K; refine nrm ?_; intro hK; refine o_callV rfl rfl rfl rfl hsu rfl ?_; exact hK z0) ?_
          iterate 1 refine AllQ.az ?_
          exact AllQ.nil)
        refine LW.cons ?_
        refine o_app2 (α := Word) (Mr := []) o1 (xs := rest) (ys := [x]) ho1 ⟨by simp; omega, by simp; omega, rfl⟩ rfl rfl rfl rfl inferInstance inferInstance (List.Perm.refl _) ?_
        intro v4 o4 ho4
        refine G.giveOwn2 (Mr := []) v4 (rest ++ [x]) o4 24 ho4 inferInstance (List.Perm.refl _) ?_
        repeat (first | (refine sty ?_; try intro _) | (refine st ?_; try intro _) | (refine stz ?_; try intro _))
        exact G.ret rfl (.cons (.tmp rfl) (.cons (.tmp rfl) .nil)) (Φ' := [fRp v4 (rest ++ [x])]) (M' := []) inferInstance (List.nil_sublist _) ⟨_, rfl, rfl, rfl⟩
      · obtain ⟨q, hq1, hq2⟩ := w3 (by omega)
        have hsu := bits16_spec q hq1 (l.getD 0 .zero) (l.getD 1 .zero)
        have hm := made_bits q hq1 l
        rw [hq2] at hsu hm
        rw [hm, e]
        generalize q.2 (l.getD 0 .zero) (l.getD 1 .zero) = x at hsu ⊢
        clear hm
        generalize l.getD 0 .zero = x0 at g0 hsu
        generalize l.getD 1 .zero = x1 at g1 hsu
        generalize popsN n = p at hin hpop
        repeat (first | (refine sty ?_; try intro _) | (refine st ?_; try intro _) | (refine stz ?_; try intro _))
        refine o_callV rfl rfl rfl rfl hi rfl ?_
        repeat (first | (refine sty ?_; try intro _) | (refine st ?_; try intro _) | (refine stz ?_; try intro _))
        refine o_callV rfl rfl rfl rfl hin rfl ?_
        repeat (first | (refine sty ?_; try intro _) | (refine st ?_; try intro _) | (refine stz ?_; try intro _))
        rename_i b7
        refine OpK.call rfl rfl rfl rfl hpop inferInstance (Mr := _) (List.Perm.refl _) ?_
        rintro u Φ' Mc' ⟨v1, v2, o1, o2, rfl, ho1, ho2, rfl, rfl⟩
        dsimp only [List.cons_append, List.nil_append]
        refine G.perm ?_ (List.perm_append_singleton _ _)
        refine G.drop b7 ?_
        repeat (first | (refine sty ?_; try intro _) | (refine st ?_; try intro _) | (refine stz ?_; try intro _))
        refine o_app2 (α := Word) (Mr := ownM 24 o1) o2 (xs := l) (ys := [Word.zero, Word.zero]) ho2 ⟨by simp; omega, by simp; omega, rfl⟩ rfl rfl rfl rfl inferInstance inferInstance (List.Perm.refl _) ?_
        intro v3 o3 ho3
        refine G.giveOwn2 (Mr := ownM 24 o1) v3 (l ++ [Word.zero, Word.zero]) o3 24 ho3 inferInstance (List.Perm.refl _) ?_
        repeat (first | (refine sty ?_; try intro _) | (refine st ?_; try intro _) | (refine stz ?_; try intro _))
        refine W.drawA 10 [dq _, dq _, dq _, dk _, dq _, dq _, dk _, dq _, dq _, dk _] [[], [], [], [2], [3], [], [5], [6], [1,4,7], [8]] [0, 9] (hrest := fun c => nrm ?_) (hops := by
          iterate 3 refine AllQ.az ?_
          refine AllQ.mk (by intro c z0 Φr Lr K; refine nrm ?_; intro hK; refine o_idxG 0 x0 rfl rfl rfl rfl rfl g0 ?_; exact hK) ?_
          iterate 2 refine AllQ.az ?_
          refine AllQ.mk (by intro c z0 Φr Lr K; refine nrm ?_; intro hK; refine o_idxG 1 x1 rfl rfl rfl rfl rfl g1 ?_; exact hK) ?_
          iterate 1 refine AllQ.az ?_
          refine AllQ.mk (by intro c z0 Φr Lr K; refine nrm ?_; intro hK; refine o_callV rfl rfl rfl rfl hsu rfl ?_; exact hK z0) ?_
          iterate 1 refine AllQ.az ?_
          exact AllQ.nil)
        refine LW.cons ?_
        refine o_app2 (α := Word) (Mr := []) o1 (xs := rest) (ys := [x]) ho1 ⟨by simp; omega, by simp; omega, rfl⟩ rfl rfl rfl rfl inferInstance inferInstance (List.Perm.refl _) ?_
        intro v4 o4 ho4
        refine G.giveOwn2 (Mr := []) v4 (rest ++ [x]) o4 24 ho4 inferInstance (List.Perm.refl _) ?_
        repeat (first | (refine sty ?_; try intro _) | (refine st ?_; try intro _) | (refine stz ?_; try intro _))
        exact G.ret rfl (.cons (.tmp rfl) (.cons (.tmp rfl) .nil)) (Φ' := [fRp v4 (rest ++ [x])]) (M' := []) inferInstance (List.nil_sublist _) ⟨_, rfl, rfl, rfl⟩
  · rw [if_pos h4]
    generalize (popL s (popsN n)).1 = rest at hpop ⊢
    generalize (popL s (popsN n)).2.1 = l at hpop
    generalize (popL s (popsN n)).2.2 = e at h4 hpop ⊢
    generalize popsN n = p at hin hpop
    repeat (first | (refine sty ?_; try intro _) | (refine st ?_; try intro _) | (refine stz ?_; try intro _))
    refine o_callV rfl rfl rfl rfl hi rfl ?_
    repeat (first | (refine sty ?_; try intro _) | (refine st ?_; try intro _) | (refine stz ?_; try intro _))
    refine o_callV rfl rfl rfl rfl hin rfl ?_
    repeat (first | (refine sty ?_; try intro _) | (refine st ?_; try intro _) | (refine stz ?_; try intro _))
    rename_i b7
    refine OpK.call rfl rfl rfl rfl hpop inferInstance (Mr := _) (List.Perm.refl _) ?_
    rintro u Φ' Mc' ⟨v1, v2, o1, o2, rfl, ho1, ho2, rfl, rfl⟩
    dsimp only [List.cons_append, List.nil_append]
    refine G.perm ?_ (List.perm_append_singleton _ _)
    refine G.drop b7 ?_
    refine G.giveOwn2 (Mr := ownM 24 o2) v1 rest o1 24 ho1 inferInstance List.perm_append_comm ?_
    repeat (first | (refine sty ?_; try intro _) | (refine st ?_; try intro _) | (refine stz ?_; try intro _))
    exact G.ret rfl (.cons (.tmp rfl) (.cons (.tmp rfl) .nil)) (Φ' := [fRp v1 rest]) (M' := []) inferInstance (List.nil_sublist _) ⟨_, rfl, rfl, rfl⟩
end Go.Rail
