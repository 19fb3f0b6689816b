/- The document's numbers: signs. -/
import Derived.Test.YtomifglegeelaaaGreatDoorAD9DA
import Derived.Test.YtomifglegeelaaaGreatDoorAC10D8
namespace Go.Rail
open Go Go.Proofs
set_option linter.unusedSimpArgs false
set_option linter.unusedVariables false
set_option maxHeartbeats 400000
set_option maxRecDepth 4000
attribute [local irreducible] OpK G W LW wpListIn Exit.then Exit.inBlock Post rounds opRun bodyPostM intOp
set_option maxHeartbeats 4000000
attribute [local irreducible] Word.num Word.nat
/-- Bits from p on that are as the one below. -/
def sF (x p i k : Nat) : Nat := if p ≤ k ∧ k < i then bt x (p - 1) else bt x k
theorem sF_low (x p i : Nat) (hp : 0 < p) : sF x p i (p - 1) = bt x (p - 1) := by unfold sF; rw [if_neg (by omega)]
theorem sF_lt (x p i k : Nat) : sF x p i k < 2 := by unfold sF; split <;> exact bt_lt _ _
theorem sF_begin (x p : Nat) : (fun k => ((bt x k : Nat) : Int)) = fun k => ((sF x p p k : Nat) : Int) := by
  funext k; unfold sF; rw [if_neg (by omega)]
theorem sF_step (x p i : Nat) (h : p ≤ i) : (fun k => if k = i then ((bt x (p - 1) : Nat) : Int) else ((sF x p i k : Nat) : Int)) = fun k => ((sF x p (i + 1) k : Nat) : Int) := by
  funext k
  unfold sF
  by_cases hk : k = i
  · subst hk; rw [if_pos rfl, if_pos (by omega)]
  · rw [if_neg hk]
    by_cases h2 : p ≤ k ∧ k < i
    · rw [if_pos h2, if_pos (by omega)]
    · rw [if_neg h2, if_neg (by omega)]
theorem sign_bits (i a : Word) (n k : Nat) (hn : n = min i.num 31) (hk : k < 256) : bt (signW i a).num k = sF a.num (8 * n + 8) 256 k := by
  unfold signW
  rw [← hn, sar_bits _ _ _ hk]
  have hs : (Word.nat (248 - 8 * n)).num = 248 - 8 * n := by rw [Word.num_nat, Nat.mod_eq_of_lt (by simp only [top256]; omega)]
  unfold shlW
  rw [hs, Nat.min_eq_left (by omega), bt_num (by decide), bt_mul]
  unfold mvF sF
  by_cases h : 8 * n + 8 ≤ k ∧ k < 256
  · rw [if_neg (by omega), if_pos h, if_pos (by omega), show 255 - (248 - 8 * n) = 8 * n + 8 - 1 from by omega]
  · rw [if_pos (by omega), if_neg h, bt_num (by omega), bt_mul, if_pos (by omega)]
    congr 1
    omega
theorem rsign_spec (i a : Word) : FnV Tryz.prog 55 [i.v, a.v] [] (signW i a).v := by
  have hs := small_spec i 31 (by decide)
  obtain ⟨n, hn⟩ : ∃ n, n = min i.num 31 := ⟨_, rfl⟩
  have hw : ∀ g : Nat → Nat, (∀ k < 256, g k = sF a.num (8 * n + 8) 256 k) → Word.nat (sumB 2 g 256) = signW i a := fun g hg => by
    rw [sum_bits (y := (signW i a).num) (fun k hk => by rw [hg k hk]; exact sign_bits i a n k hn hk), Word.nat_num]
  rw [← hn] at hs
  have hn31 : n ≤ 31 := by omega
  refine Fn.enter Tryz.func55 rfl Tryz.ntmps55 (by simp) (fun I0 w0 => ?_)
  by_cases h31 : n = 31
  · subst h31
    have e : a = signW i a := by
      rw [← hw (bt a.num) (fun k hk => by unfold sF; rw [if_neg (by omega)]), sum_bits (y := a.num) (fun _ _ => rfl), Word.nat_num]
    rw [← e]
    repeat (first | (refine sty ?_; try intro _) | (refine st ?_; try intro _) | (refine stz ?_; try intro _))
    refine o_callV rfl rfl rfl rfl hs rfl ?_
    repeat (first | (refine sty ?_; try intro _) | (refine st ?_; try intro _) | (refine stz ?_; try intro _))
    refine G.retV ?_
    rfl
  · repeat (first | (refine sty ?_; try intro _) | (refine st ?_; try intro _) | (refine stz ?_; try intro _))
    rename_i b2 b3 b4
    refine o_callV rfl rfl rfl rfl hs rfl ?_
    repeat (first | (refine sty ?_; try intro _) | (refine st ?_; try intro _) | (refine stz ?_; try intro _))
    refine o_callO rfl rfl rfl rfl (bits_spec a) ?_
    intro vx ox hox
    rw [rowZ_length] at hox
    refine G.ownZ (f := fun k => ((bt a.num k : Nat) : Int)) (by decide) hox ?_
    intro bx ex cx e1 e2 hcx
    subst e1 e2
    dsimp only [ownM, List.cons_append, List.nil_append]
    rw [sF_begin a.num (8 * n + 8)]
    repeat (first | (refine sty ?_; try intro _) | (refine st ?_; try intro _) | (refine stz ?_; try intro _))
    refine W.lp (fun (i : Nat) => ([], [(7, .int .i64 (i : Int)), (6, .slice (some ⟨bx, 0, none⟩) 256 cx), (5, .int .i64 (n : Int)), (4, .pointer (some ⟨b4, 0, none⟩))], [(b4, Ob Word.zero.cells 24), (bx, Ob (cIx (rowN 256 (sF a.num (8 * n + 8) i)) ex) 3)])) (fun i => 8 * n + 8 ≤ i ∧ i ≤ 256) (fun i => 256 - i) (8 * n + 8) ?_ (hM := .cons_cons _ (.cons _ (.cons _ (.refl _))))
    rintro i ⟨hi1, hi2⟩
    dsimp only
    by_cases hi : i = 256
    · subst hi
      refine W.bare (G.giveZ bx cx hcx ?_)
      refine G.code ?_
      repeat (first | (refine sty ?_; try intro _) | (refine st ?_; try intro _) | (refine stz ?_; try intro _))
      refine o_callV rfl rfl rfl rfl (fromBits_spec _ (sF a.num (8 * n + 8) 256) (fun i _ => sF_lt _ _ _ _)) (by rw [hw _ (fun _ _ => rfl)]) ?_
      repeat (first | (refine sty ?_; try intro _) | (refine st ?_; try intro _) | (refine stz ?_; try intro _))
      refine G.retV ?_
      rfl
    · have h0 : sF a.num (8 * n + 8) i (8 * n + 7) = bt a.num (8 * n + 8 - 1) := sF_low a.num (8 * n + 8) i (by omega)
      repeat (first | (refine sty ?_; try intro _) | (refine st ?_; try intro _) | (refine stz ?_; try intro _))
      rw [h0]
      repeat (first | (refine sty ?_; try intro _) | (refine st ?_; try intro _) | (refine stz ?_; try intro _))
      rw [sF_step _ _ _ hi1]
      exact G.ag (i + 1)
theorem flip_num (a : Word) : (flipW a).num = if negW a then a.num - 57896044618658097711785492504343953926634992332820282019728792003956564819968 else a.num + 57896044618658097711785492504343953926634992332820282019728792003956564819968 := by
  have h1 := a.a.toNat_lt; have h2 := a.b.toNat_lt; have h3 := a.c.toNat_lt; have h4 := a.d.toNat_lt
  have hx : a.d.toNat ^^^ 9223372036854775808 = if negW a then a.d.toNat - 9223372036854775808 else a.d.toNat + 9223372036854775808 := by
    have e1 := Nat.xor_div_two_pow (a := a.d.toNat) (b := 9223372036854775808) (n := 63)
    have e2 := Nat.xor_mod_two_pow (a := a.d.toNat) (b := 9223372036854775808) (n := 63)
    rw [show (9223372036854775808 : Nat) / 2 ^ 63 = 1 from rfl] at e1
    rw [show (9223372036854775808 : Nat) % 2 ^ 63 = 0 from rfl, Nat.xor_zero] at e2
    unfold negW
    by_cases h : 9223372036854775808 ≤ a.d.toNat
    · rw [decide_eq_true h, if_pos rfl]
      rw [show a.d.toNat / 2 ^ 63 = 1 from by omega, Nat.xor_self] at e1
      omega
    · rw [decide_eq_false h, if_neg (by decide)]
      rw [show a.d.toNat / 2 ^ 63 = 0 from by omega, Nat.zero_xor] at e1
      omega
  have hl : (a.d.toNat ^^^ 9223372036854775808) < 18446744073709551616 := xor_lt64 h4 (by decide)
  unfold Word.num flipW
  simp only [UInt64.toNat_ofNat']
  rw [show (2 : Nat) ^ 64 = 18446744073709551616 from rfl, Nat.mod_eq_of_lt hl, hx]
  unfold negW
  by_cases h : 9223372036854775808 ≤ a.d.toNat
  · rw [decide_eq_true h, if_pos rfl, if_pos rfl]; omega
  · rw [decide_eq_false h, if_neg (by decide), if_neg (by decide)]; omega
theorem neg_le (a : Word) : negW a = decide (57896044618658097711785492504343953926634992332820282019728792003956564819968 ≤ a.num) := by
  have h := over_iff a
  refine decide_eq_decide.2 ?_
  rw [h]; simp only [top256]; omega
theorem less_law (a b : Word) : lessW a b = if negW a = negW b then decide (cmpW a b < 0) else negW a := by
  unfold lessW
  rw [cmpW_num, cmpW_num, flip_num, flip_num, neg_le, neg_le]
  have ha := a.num_lt; have hb := b.num_lt
  simp only [top256] at ha hb
  by_cases h1 : 57896044618658097711785492504343953926634992332820282019728792003956564819968 ≤ a.num <;> by_cases h2 : 57896044618658097711785492504343953926634992332820282019728792003956564819968 ≤ b.num
  all_goals
    simp only [h1, h2, decide_true, decide_false, if_true, if_false, Bool.false_eq_true, reduceCtorEq, decide_eq_true_eq]
    by_cases h3 : a.num < b.num <;> by_cases h4 : b.num < a.num <;> simp [h3, h4] <;> omega
theorem rless3_spec (a b : Word) : FnV Tryz.prog 58 [a.v, b.v] [] (.bool (lessW a b)) := by
  have e1 := neg_bt a
  have e2 := neg_bt b
  have hl := less_law a b
  refine Fn.enter Tryz.func58 rfl Tryz.ntmps58 (by simp) (fun I0 w0 => ?_)
  rw [hl]
  cases ha : negW a <;> cases hb : negW b
  all_goals
    rw [ha] at e1; rw [hb] at e2
    simp only [if_true, if_false, Bool.false_eq_true, reduceCtorEq] at e1 e2 ⊢
    repeat (first | (refine sty ?_; try intro _) | (refine st ?_; try intro _) | (refine stz ?_; try intro _))
    refine o_callD rfl rfl rfl rfl (bits_given a) ?_
    intro v1
    repeat (first | (refine sty ?_; try intro _) | (refine st ?_; try intro _) | (refine stz ?_; try intro _))
    refine o_callD rfl rfl rfl rfl (bits_given b) ?_
    intro v2
    repeat (first | (refine sty ?_; try intro _) | (refine st ?_; try intro _) | (refine stz ?_; try intro _))
    refine G.retV ?_
    first | rfl | (refine congrArg Value.bool ?_; simp; done) | (refine congrArg Value.bool ?_; omega)
end Go.Rail
namespace Go.Rail
open Go Go.Proofs
set_option linter.unusedSimpArgs false
set_option linter.unusedVariables false
set_option maxHeartbeats 400000
set_option maxRecDepth 4000
attribute [local irreducible] OpK G W LW wpListIn Exit.then Exit.inBlock Post rounds opRun bodyPostM intOp
set_option maxHeartbeats 16000000
set_option maxRecDepth 20000
attribute [local irreducible] lexN cmpW Word.nat subW mulW addW divW modW sdivW smodW addmodW mulmodW expW andW orW xorW notW shlW shrW sarW byteW signW lessW
def find2 {α : Type} : List (Nat × α) → Nat → Option α
  | [], _ => none
  | (k, r) :: l, n => if n = k then some r else find2 l n
theorem find2_mem {α : Type} {l : List (Nat × α)} {n : Nat} {x : α} (h : find2 l n = some x) : (n, x) ∈ l := by
  induction l with
  | nil => cases h
  | cons e l ih =>
    obtain ⟨k, r⟩ := e
    simp only [find2] at h
    by_cases hk : n = k
    · rw [if_pos hk] at h; cases h; subst hk; exact .head _
    · rw [if_neg hk] at h; exact .tail _ (ih h)
theorem find2_map {α β : Type} (f : α → β) (l : List (Nat × α)) (n : Nat) : find2 (l.map fun e => (e.1, f e.2)) n = (find2 l n).map f := by
  induction l with
  | nil => rfl
  | cons e l ih =>
    obtain ⟨k, r⟩ := e
    simp only [List.map_cons, find2, ih]
    by_cases hk : n = k <;> simp [hk]
theorem getV_find {α : Type} (f : α → Value) (l : List (Nat × α)) (n : Nat) : getV (l.map fun e => ((e.1 : Int), f e.2)) (n : Int) = (find2 l n).map f := by
  induction l with
  | nil => rfl
  | cons e l ih =>
    obtain ⟨k, r⟩ := e
    simp only [List.map_cons, getV, find2, ih]
    by_cases hk : n = k
    · subst hk; simp
    · rw [if_neg hk, if_neg (by omega)]
def ops1 : List (Nat × (Word → Word)) := [(21, fun a => flagW (decide (a = .zero))), (25, notW)]
def ops2 : List (Nat × (Word → Word → Word)) := [(1, addW), (2, mulW), (3, subW), (4, divW), (5, sdivW), (6, modW), (7, smodW), (10, expW), (11, signW),
  (16, fun a b => flagW (decide (cmpW a b < 0))), (17, fun a b => flagW (decide (0 < cmpW a b))), (18, fun a b => flagW (lessW a b)), (19, fun a b => flagW (lessW b a)), (20, fun a b => flagW (decide (a = b))),
  (22, andW), (23, orW), (24, xorW), (26, byteW), (27, shlW), (28, shrW), (29, sarW)]
def ops3 : List (Nat × (Word → Word → Word → Word)) := [(8, addmodW), (9, mulmodW)]
def isC (n : Nat) : Bool := decide (n = 80 ∨ 128 ≤ n ∧ n ≤ 159) || (find2 ops1 n).isSome || (find2 ops2 n).isSome || (find2 ops3 n).isSome
def madeL (n : Nat) (l : List Word) : List Word :=
  match find2 ops1 n with
  | some f => [f (l.getD 0 .zero)]
  | none => match find2 ops2 n with
    | some f => [f (l.getD 0 .zero) (l.getD 1 .zero)]
    | none => match find2 ops3 n with
      | some f => [f (l.getD 0 .zero) (l.getD 1 .zero) (l.getD 2 .zero)]
      | none => []
def fv (f : FuncId) : Value := .func (.func f) #[] #[]
def K1 : List (Nat × FuncId × (Word → Word)) := [(21, 67, fun a => flagW (decide (a = .zero))), (25, 69, notW)]
def K2 : List (Nat × FuncId × (Word → Word → Word)) := [(1, 70, addW), (2, 71, mulW), (3, 72, subW), (4, 73, divW), (5, 74, sdivW), (6, 75, modW), (7, 76, smodW), (10, 77, expW), (11, 78, signW),
  (16, 79, fun a b => flagW (decide (cmpW a b < 0))), (17, 81, fun a b => flagW (decide (0 < cmpW a b))), (18, 82, fun a b => flagW (lessW a b)), (19, 84, fun a b => flagW (lessW b a)), (20, 85, fun a b => flagW (decide (a = b))),
  (22, 86, andW), (23, 87, orW), (24, 88, xorW), (26, 89, byteW), (27, 90, shlW), (28, 91, shrW), (29, 92, sarW)]
def K3 : List (Nat × FuncId × (Word → Word → Word → Word)) := [(8, 93, addmodW), (9, 94, mulmodW)]
theorem K1_ok : ∀ e ∈ K1, HasFn Tryz.prog e.2.1 ∧ ∀ a : Word, FnV Tryz.prog e.2.1 [a.v] [] (e.2.2 a).v := by
  simp only [K1, List.forall_mem_cons]
  exact ⟨⟨inferInstance, isz_spec⟩, ⟨inferInstance, bnot_spec⟩, by simp⟩
theorem K2_ok : ∀ e ∈ K2, HasFn Tryz.prog e.2.1 ∧ ∀ a b : Word, FnV Tryz.prog e.2.1 [a.v, b.v] [] (e.2.2 a b).v := by
  simp only [K2, List.forall_mem_cons]
  exact ⟨⟨inferInstance, wadd_spec⟩, ⟨inferInstance, wmul_spec⟩, ⟨inferInstance, wsub_spec⟩, ⟨inferInstance, div_spec⟩, ⟨inferInstance, sdiv_spec⟩, ⟨inferInstance, mod_spec⟩, ⟨inferInstance, smod_spec⟩, ⟨inferInstance, exp_spec⟩, ⟨inferInstance, bsign_spec⟩,
    ⟨inferInstance, lt_spec⟩, ⟨inferInstance, gt_spec⟩, ⟨inferInstance, slt_spec⟩, ⟨inferInstance, sgt_spec⟩, ⟨inferInstance, eqq_spec⟩, ⟨inferInstance, band_spec⟩, ⟨inferInstance, bor_spec⟩, ⟨inferInstance, bxor_spec⟩, ⟨inferInstance, bbyte_spec⟩, ⟨inferInstance, bshl_spec⟩, ⟨inferInstance, bshr_spec⟩, ⟨inferInstance, bsar_spec⟩, by simp⟩
theorem K3_ok : ∀ e ∈ K3, HasFn Tryz.prog e.2.1 ∧ ∀ a b c : Word, FnV Tryz.prog e.2.1 [a.v, b.v, c.v] [] (e.2.2 a b c).v := by
  simp only [K3, List.forall_mem_cons]
  exact ⟨⟨inferInstance, addmod_spec⟩, ⟨inferInstance, mulmod_spec⟩, by simp⟩
theorem K1_find (n : Nat) : find2 ops1 n = (find2 K1 n).map Prod.snd := find2_map Prod.snd K1 n
theorem K2_find (n : Nat) : find2 ops2 n = (find2 K2 n).map Prod.snd := find2_map Prod.snd K2 n
theorem K3_find (n : Nat) : find2 ops3 n = (find2 K3 n).map Prod.snd := find2_map Prod.snd K3 n
def L1 : List (Int × Value) := K1.map fun e => ((e.1 : Int), fv e.2.1)
def L2 : List (Int × Value) := K2.map fun e => ((e.1 : Int), fv e.2.1)
def L3 : List (Int × Value) := K3.map fun e => ((e.1 : Int), fv e.2.1)
theorem one_spec : Fn Tryz.prog 30 [] [] [] (RMapV L1) := by
  refine Fn.enter Tryz.func30 rfl Tryz.ntmps30 (by simp) (fun I0 w0 => ?_)
  repeat (refine st ?_; try intro _)
  refine o_makeMapV rfl rfl ?_
  intro b
  repeat (first | refine st ?_ | refine o_insV rfl rfl rfl rfl (by kernel_rfl) ?_)
  exact G.ret rfl (.cons (.tmp rfl) .nil) (Φ' := []) (M' := [(b, MapV L1)]) inferInstance (List.Sublist.refl _) ⟨b, rfl, rfl, rfl⟩
theorem two_spec : Fn Tryz.prog 31 [] [] [] (RMapV L2) := by
  refine Fn.enter Tryz.func31 rfl Tryz.ntmps31 (by simp) (fun I0 w0 => ?_)
  repeat (refine st ?_; try intro _)
  refine o_makeMapV rfl rfl ?_
  intro b
  repeat (first | refine st ?_ | refine o_insV rfl rfl rfl rfl (by kernel_rfl) ?_)
  exact G.ret rfl (.cons (.tmp rfl) .nil) (Φ' := []) (M' := [(b, MapV L2)]) inferInstance (List.Sublist.refl _) ⟨b, rfl, rfl, rfl⟩
theorem three_spec : Fn Tryz.prog 32 [] [] [] (RMapV L3) := by
  refine Fn.enter Tryz.func32 rfl Tryz.ntmps32 (by simp) (fun I0 w0 => ?_)
  repeat (refine st ?_; try intro _)
  refine o_makeMapV rfl rfl ?_
  intro b
  repeat (first | refine st ?_ | refine o_insV rfl rfl rfl rfl (by kernel_rfl) ?_)
  exact G.ret rfl (.cons (.tmp rfl) .nil) (Φ' := []) (M' := [(b, MapV L3)]) inferInstance (List.Sublist.refl _) ⟨b, rfl, rfl, rfl⟩
theorem L1_get (n : Nat) : getV L1 n = (find2 K1 n).map fun e => fv e.1 := getV_find (fun e : FuncId × (Word → Word) => fv e.1) K1 n
theorem L2_get (n : Nat) : getV L2 n = (find2 K2 n).map fun e => fv e.1 := getV_find (fun e : FuncId × (Word → Word → Word) => fv e.1) K2 n
theorem L3_get (n : Nat) : getV L3 n = (find2 K3 n).map fun e => fv e.1 := getV_find (fun e : FuncId × (Word → Word → Word → Word) => fv e.1) K3 n
theorem is_spec (n : Nat) (hn : n < 256) : FnV Tryz.prog 14 [.int .u8 (n : Int)] [] (.bool (isC n)) := by
  unfold isC
  rw [K1_find, K2_find, K3_find]
  refine Fn.enter Tryz.func14 rfl Tryz.ntmps14 (by simp) (fun I0 w0 => ?_)
  by_cases h0 : n = 80
  · repeat (refine st ?_; try intro _)
    refine G.retV ?_
    rw [decide_eq_true (by omega)]; rfl
  by_cases h1 : 128 ≤ n ∧ n ≤ 159
  · repeat (refine st ?_; try intro _)
    refine G.retV ?_
    rw [decide_eq_true (by omega)]; rfl
  rw [decide_eq_false (by omega)]
  have h2 : n < 128 ∨ 159 < n := by omega
  have g1 := L1_get n
  have g2 := L2_get n
  have g3 := L3_get n
  generalize find2 K1 n = R1 at g1 ⊢
  generalize find2 K2 n = R2 at g2 ⊢
  generalize find2 K3 n = R3 at g3 ⊢
  rcases h2 with h2 | h2 <;> cases R1 <;> cases R2 <;> cases R3
  all_goals
    repeat (refine st ?_; try intro _)
    refine o_callM rfl rfl rfl rfl one_spec ?_
    intro b1
    repeat (refine st ?_; try intro _)
    refine o_lookV (l := L1) rfl rfl rfl rfl (by simp) (by rw [g1]) (by rw [g1]) ?_
    repeat (refine st ?_; try intro _)
    refine o_callM rfl rfl rfl rfl two_spec ?_
    intro b2
    repeat (refine st ?_; try intro _)
    refine o_lookV (l := L2) rfl rfl rfl rfl (by simp) (by rw [g2]) (by rw [g2]) ?_
    repeat (refine st ?_; try intro _)
    refine o_callM rfl rfl rfl rfl three_spec ?_
    intro b3
    repeat (refine st ?_; try intro _)
    refine o_lookV (l := L3) rfl rfl rfl rfl (by simp) (by rw [g3]) (by rw [g3]) ?_
    repeat (refine st ?_; try intro _)
    refine G.retV ?_
    rfl
theorem made_spec (n : Nat) (hn : n < 256) (v : Value) (xs : List Word) (h1 : (find2 ops1 n).isSome → 1 ≤ xs.length) (h2 : (find2 ops2 n).isSome → 2 ≤ xs.length) (h3 : (find2 ops3 n).isSome → 3 ≤ xs.length) :
    FnD Tryz.prog 24 [.int .u8 (n : Int), v] [fRp v xs] (fun u => [fRp u (madeL n xs)]) := by
  unfold madeL
  rw [K1_find] at h1 ⊢
  rw [K2_find] at h2 ⊢
  rw [K3_find] at h3 ⊢
  have g1 := L1_get n
  have g2 := L2_get n
  have g3 := L3_get n
  refine Fn.enter Tryz.func24 rfl Tryz.ntmps24 (by simp) (fun I0 w0 => ?_)
  cases e1 : find2 K1 n with
  | some e =>
    obtain ⟨hf, hc⟩ := K1_ok _ (find2_mem e1)
    rw [e1] at g1 h1
    have hx := h1 rfl
    obtain ⟨x, xs, rfl⟩ : ∃ x ys, xs = x :: ys := by cases xs with | nil => simp at hx | cons x ys => exact ⟨_, _, rfl⟩
    have hc := hc x
    show W _ _ (Post _ _ _ _ _ (fun u Φ' Mc' => Φ' = [fRp u [e.2 x]] ∧ Mc' = [])) _ _ _
    dsimp only at hf hc g1
    repeat (refine st ?_; try intro _)
    refine o_callM rfl rfl rfl rfl one_spec ?_
    intro b1
    repeat (refine st ?_; try intro _)
    refine o_lookV (l := L1) rfl rfl rfl rfl (by simp) (by rw [g1]) (by rw [g1]) ?_
    repeat (refine st ?_; try intro _)
    refine o_callV rfl rfl rfl rfl hc rfl ?_
    repeat (refine st ?_; try intro _)
    exact G.retD rfl rfl
  | none =>
  rw [e1] at g1
  cases e2 : find2 K2 n with
  | some e =>
    obtain ⟨hf, hc⟩ := K2_ok _ (find2_mem e2)
    rw [e2] at g2 h2
    have hx := h2 rfl
    obtain ⟨x, y, xs, rfl⟩ : ∃ x y ys, xs = x :: y :: ys := by match xs, hx with | x :: y :: ys, _ => exact ⟨_, _, _, rfl⟩
    have hc := hc x y
    show W _ _ (Post _ _ _ _ _ (fun u Φ' Mc' => Φ' = [fRp u [e.2 x y]] ∧ Mc' = [])) _ _ _
    dsimp only at hf hc g2
    have i0 : 0 < (x :: y :: xs).length := Nat.zero_lt_succ _
    have i1 : 1 < (x :: y :: xs).length := Nat.succ_lt_succ (Nat.zero_lt_succ _)
    repeat (refine st ?_; try intro _)
    refine o_callM rfl rfl rfl rfl one_spec ?_
    intro b1
    repeat (refine st ?_; try intro _)
    refine o_lookV (l := L1) rfl rfl rfl rfl (by simp) (by rw [g1]) (by rw [g1]) ?_
    repeat (refine st ?_; try intro _)
    refine o_callM rfl rfl rfl rfl two_spec ?_
    intro b2
    repeat (refine st ?_; try intro _)
    refine o_lookV (l := L2) rfl rfl rfl rfl (by simp) (by rw [g2]) (by rw [g2]) ?_
    repeat (refine st ?_; try intro _)
    refine W.drawA 7 [dq _, dq _, dk _, dq _, dq _, dk _, dq _] [[], [], [1], [2], [], [4], [5]] [0, 3, 6] (hrest := fun c => nrm ?_)
    repeat (refine st ?_; try intro _)
    refine o_callV rfl rfl rfl rfl hc rfl ?_
    repeat (refine st ?_; try intro _)
    exact G.retD rfl rfl
  | none =>
  rw [e2] at g2
  cases e3 : find2 K3 n with
  | some e =>
    obtain ⟨hf, hc⟩ := K3_ok _ (find2_mem e3)
    rw [e3] at g3 h3
    have hx := h3 rfl
    obtain ⟨x, y, z, xs, rfl⟩ : ∃ x y z ys, xs = x :: y :: z :: ys := by match xs, hx with | x :: y :: z :: ys, _ => exact ⟨_, _, _, _, rfl⟩
    have hc := hc x y z
    show W _ _ (Post _ _ _ _ _ (fun u Φ' Mc' => Φ' = [fRp u [e.2 x y z]] ∧ Mc' = [])) _ _ _
    dsimp only at hf hc g3
    repeat (refine st ?_; try intro _)
    refine o_callM rfl rfl rfl rfl one_spec ?_
    intro b1
    repeat (refine st ?_; try intro _)
    refine o_lookV (l := L1) rfl rfl rfl rfl (by simp) (by rw [g1]) (by rw [g1]) ?_
    repeat (refine st ?_; try intro _)
    refine o_callM rfl rfl rfl rfl two_spec ?_
    intro b2
    repeat (refine st ?_; try intro _)
    refine o_lookV (l := L2) rfl rfl rfl rfl (by simp) (by rw [g2]) (by rw [g2]) ?_
    repeat (refine st ?_; try intro _)
    refine o_callM rfl rfl rfl rfl three_spec ?_
    intro b3
    repeat (refine st ?_; try intro _)
    refine o_lookV (l := L3) rfl rfl rfl rfl (by simp) (by rw [g3]) (by rw [g3]) ?_
    repeat (refine st ?_; try intro _)
    refine W.drawA 10 [dq _, dq _, dk _, dq _, dq _, dk _, dq _, dq _, dk _, dq _] [[], [], [1], [2], [], [4], [5], [], [7], [8]] [0, 3, 6, 9] (hrest := fun c => nrm ?_)
    repeat (refine st ?_; try intro _)
    refine o_callV rfl rfl rfl rfl hc rfl ?_
    repeat (refine st ?_; try intro _)
    exact G.retD rfl rfl
  | none =>
    rw [e3] at g3
    show W _ _ (Post _ _ _ _ _ (fun u Φ' Mc' => Φ' = [fRp u ([] : List Word)] ∧ Mc' = [])) _ _ _
    repeat (refine st ?_; try intro _)
    refine o_callM rfl rfl rfl rfl one_spec ?_
    intro b1
    repeat (refine st ?_; try intro _)
    refine o_lookV (l := L1) rfl rfl rfl rfl (by simp) (by rw [g1]) (by rw [g1]) ?_
    repeat (refine st ?_; try intro _)
    refine o_callM rfl rfl rfl rfl two_spec ?_
    intro b2
    repeat (refine st ?_; try intro _)
    refine o_lookV (l := L2) rfl rfl rfl rfl (by simp) (by rw [g2]) (by rw [g2]) ?_
    repeat (refine st ?_; try intro _)
    refine o_callM rfl rfl rfl rfl three_spec ?_
    intro b3
    repeat (refine st ?_; try intro _)
    refine o_lookV (l := L3) rfl rfl rfl rfl (by simp) (by rw [g3]) (by rw [g3]) ?_
    repeat (refine st ?_; try intro _)
    exact G.retD rfl rfl
end Go.Rail
