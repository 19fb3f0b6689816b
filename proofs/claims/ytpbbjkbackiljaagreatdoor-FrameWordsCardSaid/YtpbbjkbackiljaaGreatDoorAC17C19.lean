/- compute: what opcodes make of words. -/
import Derived.Test.YtpbbjkbackiljaaGreatDoorAC14C10
set_option linter.unusedSimpArgs false
set_option linter.unusedVariables false
namespace Go.Rail
open Go Go.Proofs
set_option maxHeartbeats 400000
set_option maxRecDepth 4000
attribute [local irreducible] OpK G W LW wpListIn Exit.then Exit.inBlock Post rounds opRun bodyPostM intOp
set_option maxHeartbeats 16000000
attribute [local irreducible] lexN cmpW Word.nat subW mulW addW divW modW sdivW smodW addmodW mulmodW expW andW orW xorW notW shlW shrW sarW byteW signW
def flipW (a : Word) : Word := ⟨a.a, a.b, a.c, UInt64.ofNat (a.d.toNat ^^^ 9223372036854775808)⟩
theorem flipW_v (a : Word) : Value.agg [.int .u64 (a.a.toNat : Int), .int .u64 (a.b.toNat : Int), .int .u64 (a.c.toNat : Int), .int .u64 ((a.d.toNat ^^^ 9223372036854775808 : Nat) : Int)].toArray = (flipW a).v := by
  have h : a.d.toNat ^^^ 9223372036854775808 < 2 ^ 64 := xor_lt64 a.d.toNat_lt (by decide)
  simp only [Word.v, Word.cells, flipW, UInt64.toNat_ofNat', Nat.mod_eq_of_lt h]
def lessW (a b : Word) : Bool := decide (cmpW (flipW a) (flipW b) < 0)
theorem less_spec (a b : Word) : FnV Tryz.prog 153 [a.v, b.v] [] (.bool (lessW a b)) := by
  have hc := wcmp_spec (flipW a) (flipW b)
  refine Fn.enter Tryz.func153 rfl Tryz.ntmps153 (by simp) (fun I0 w0 => ?_)
  repeat (refine st ?_; try intro _)
  rw [flipW_v a, flipW_v b]
  refine o_callV rfl rfl rfl rfl hc rfl ?_
  repeat (refine st ?_; try intro _)
  refine G.retV ?_
  rfl
theorem cflag_spec (b : Bool) : FnV Tryz.prog 138 [.bool b] [] (flagW b).v := by
  cases b
  · refine Fn.enter Tryz.func138 rfl Tryz.ntmps138 (by simp) (fun I0 w0 => ?_)
    repeat (refine st ?_; try intro _)
    refine G.retV ?_
    rfl
  · refine Fn.enter Tryz.func138 rfl Tryz.ntmps138 (by simp) (fun I0 w0 => ?_)
    repeat (refine st ?_; try intro _)
    refine G.retV ?_
    rfl
instance (b : Bool) {Φ : List Fa} : CV Tryz.prog 138 [.bool b] Φ (flagW b).v := ⟨Fn.weaken (cflag_spec b)⟩
instance (a b : Word) {Φ : List Fa} : CV Tryz.prog 153 [a.v, b.v] Φ (.bool (lessW a b)) := ⟨Fn.weaken (less_spec a b)⟩
instance (a b : Word) {Φ : List Fa} : CV Tryz.prog 150 [a.v, b.v] Φ (.int .i64 (cmpW a b)) := ⟨Fn.weaken (wcmp_spec a b)⟩
theorem isz_spec (a : Word) : FnV Tryz.prog 137 [a.v] [] (flagW (decide (a = .zero))).v := by
  refine Fn.enter Tryz.func137 rfl Tryz.ntmps137 (by simp) (fun I0 w0 => ?_)
  repeat (refine st ?_; try intro _)
  refine G.retV ?_
  rfl
theorem lt_spec (a b : Word) : FnV Tryz.prog 149 [a.v, b.v] [] (flagW (decide (cmpW a b < 0))).v := by
  refine Fn.enter Tryz.func149 rfl Tryz.ntmps149 (by simp) (fun I0 w0 => ?_)
  repeat (refine st ?_; try intro _)
  refine G.retV ?_
  rfl
theorem gt_spec (a b : Word) : FnV Tryz.prog 151 [a.v, b.v] [] (flagW (decide (0 < cmpW a b))).v := by
  refine Fn.enter Tryz.func151 rfl Tryz.ntmps151 (by simp) (fun I0 w0 => ?_)
  repeat (refine st ?_; try intro _)
  refine G.retV ?_
  rfl
theorem slt_spec (a b : Word) : FnV Tryz.prog 152 [a.v, b.v] [] (flagW (lessW a b)).v := by
  refine Fn.enter Tryz.func152 rfl Tryz.ntmps152 (by simp) (fun I0 w0 => ?_)
  repeat (refine st ?_; try intro _)
  refine G.retV ?_
  rfl
theorem sgt_spec (a b : Word) : FnV Tryz.prog 154 [a.v, b.v] [] (flagW (lessW b a)).v := by
  refine Fn.enter Tryz.func154 rfl Tryz.ntmps154 (by simp) (fun I0 w0 => ?_)
  repeat (refine st ?_; try intro _)
  refine G.retV ?_
  rfl
theorem eqq_spec (a b : Word) : FnV Tryz.prog 155 [a.v, b.v] [] (flagW (decide (a = b))).v := by
  refine Fn.enter Tryz.func155 rfl Tryz.ntmps155 (by simp) (fun I0 w0 => ?_)
  repeat (refine st ?_; try intro _)
  refine G.retV ?_
  rfl
end Go.Rail
namespace Go.Rail
open Go Go.Proofs
set_option maxHeartbeats 400000
set_option maxRecDepth 4000
attribute [local irreducible] OpK G W LW wpListIn Exit.then Exit.inBlock Post rounds opRun bodyPostM intOp
set_option maxHeartbeats 16000000
set_option maxRecDepth 20000
attribute [local irreducible] lexN cmpW Word.nat subW mulW addW divW modW sdivW smodW addmodW mulmodW expW andW orW xorW notW shlW shrW sarW byteW signW lessW
def find2 {α : Type} : List (Nat × α) → Nat → Option α
  | [], _ => none
  | (k, r) :: l, n => if n = k then some r else find2 l n
theorem find2_mem {α : Type} {l : List (Nat × α)} {n : Nat} {x : α} (h : find2 l n = some x) : (n, x) ∈ l := by
  induction l with
  | nil => cases h
  | cons e l ih =>
    obtain ⟨k, r⟩ := e
    simp only [find2] at h
    by_cases hk : n = k
    · rw [if_pos hk] at h; cases h; subst hk; exact .head _
    · rw [if_neg hk] at h; exact .tail _ (ih h)
theorem find2_map {α β : Type} (f : α → β) (l : List (Nat × α)) (n : Nat) : find2 (l.map fun e => (e.1, f e.2)) n = (find2 l n).map f := by
  induction l with
  | nil => rfl
  | cons e l ih =>
    obtain ⟨k, r⟩ := e
    simp only [List.map_cons, find2, ih]
    by_cases hk : n = k <;> simp [hk]
theorem getV_find {α : Type} (f : α → Value) (l : List (Nat × α)) (n : Nat) : getV (l.map fun e => ((e.1 : Int), f e.2)) (n : Int) = (find2 l n).map f := by
  induction l with
  | nil => rfl
  | cons e l ih =>
    obtain ⟨k, r⟩ := e
    simp only [List.map_cons, getV, find2, ih]
    by_cases hk : n = k
    · subst hk; simp
    · rw [if_neg hk, if_neg (by omega)]
def ops1 : List (Nat × (Word → Word)) := [(21, fun a => flagW (decide (a = .zero))), (25, notW)]
def ops2 : List (Nat × (Word → Word → Word)) := [(1, addW), (2, mulW), (3, subW), (4, divW), (5, sdivW), (6, modW), (7, smodW), (10, expW), (11, signW),
  (16, fun a b => flagW (decide (cmpW a b < 0))), (17, fun a b => flagW (decide (0 < cmpW a b))), (18, fun a b => flagW (lessW a b)), (19, fun a b => flagW (lessW b a)), (20, fun a b => flagW (decide (a = b))),
  (22, andW), (23, orW), (24, xorW), (26, byteW), (27, shlW), (28, shrW), (29, sarW)]
def ops3 : List (Nat × (Word → Word → Word → Word)) := [(8, addmodW), (9, mulmodW)]
def isC (n : Nat) : Bool := decide (n = 80 ∨ 128 ≤ n ∧ n ≤ 159) || (find2 ops1 n).isSome || (find2 ops2 n).isSome || (find2 ops3 n).isSome
def madeL (n : Nat) (l : List Word) : List Word :=
  match find2 ops1 n with
  | some f => [f (l.getD 0 .zero)]
  | none => match find2 ops2 n with
    | some f => [f (l.getD 0 .zero) (l.getD 1 .zero)]
    | none => match find2 ops3 n with
      | some f => [f (l.getD 0 .zero) (l.getD 1 .zero) (l.getD 2 .zero)]
      | none => []
def fv (f : FuncId) : Value := .func (.func f) #[] #[]
def K1 : List (Nat × FuncId × (Word → Word)) := [(21, 137, fun a => flagW (decide (a = .zero))), (25, 139, notW)]
def K2 : List (Nat × FuncId × (Word → Word → Word)) := [(1, 140, addW), (2, 141, mulW), (3, 142, subW), (4, 143, divW), (5, 144, sdivW), (6, 145, modW), (7, 146, smodW), (10, 147, expW), (11, 148, signW),
  (16, 149, fun a b => flagW (decide (cmpW a b < 0))), (17, 151, fun a b => flagW (decide (0 < cmpW a b))), (18, 152, fun a b => flagW (lessW a b)), (19, 154, fun a b => flagW (lessW b a)), (20, 155, fun a b => flagW (decide (a = b))),
  (22, 156, andW), (23, 157, orW), (24, 158, xorW), (26, 159, byteW), (27, 160, shlW), (28, 161, shrW), (29, 162, sarW)]
def K3 : List (Nat × FuncId × (Word → Word → Word → Word)) := [(8, 163, addmodW), (9, 164, mulmodW)]
theorem K1_ok : ∀ e ∈ K1, HasFn Tryz.prog e.2.1 ∧ ∀ a : Word, FnV Tryz.prog e.2.1 [a.v] [] (e.2.2 a).v := by
  simp only [K1, List.forall_mem_cons]
  exact ⟨⟨inferInstance, isz_spec⟩, ⟨inferInstance, bnot_spec⟩, by simp⟩
theorem K2_ok : ∀ e ∈ K2, HasFn Tryz.prog e.2.1 ∧ ∀ a b : Word, FnV Tryz.prog e.2.1 [a.v, b.v] [] (e.2.2 a b).v := by
  simp only [K2, List.forall_mem_cons]
  exact ⟨⟨inferInstance, wadd_spec⟩, ⟨inferInstance, wmul_spec⟩, ⟨inferInstance, wsub_spec⟩, ⟨inferInstance, div_spec⟩, ⟨inferInstance, sdiv_spec⟩, ⟨inferInstance, mod_spec⟩, ⟨inferInstance, smod_spec⟩, ⟨inferInstance, exp_spec⟩, ⟨inferInstance, bsign_spec⟩,
    ⟨inferInstance, lt_spec⟩, ⟨inferInstance, gt_spec⟩, ⟨inferInstance, slt_spec⟩, ⟨inferInstance, sgt_spec⟩, ⟨inferInstance, eqq_spec⟩, ⟨inferInstance, band_spec⟩, ⟨inferInstance, bor_spec⟩, ⟨inferInstance, bxor_spec⟩, ⟨inferInstance, bbyte_spec⟩, ⟨inferInstance, bshl_spec⟩, ⟨inferInstance, bshr_spec⟩, ⟨inferInstance, bsar_spec⟩, by simp⟩
theorem K3_ok : ∀ e ∈ K3, HasFn Tryz.prog e.2.1 ∧ ∀ a b c : Word, FnV Tryz.prog e.2.1 [a.v, b.v, c.v] [] (e.2.2 a b c).v := by
  simp only [K3, List.forall_mem_cons]
  exact ⟨⟨inferInstance, addmod_spec⟩, ⟨inferInstance, mulmod_spec⟩, by simp⟩
theorem K1_find (n : Nat) : find2 ops1 n = (find2 K1 n).map Prod.snd := find2_map Prod.snd K1 n
theorem K2_find (n : Nat) : find2 ops2 n = (find2 K2 n).map Prod.snd := find2_map Prod.snd K2 n
theorem K3_find (n : Nat) : find2 ops3 n = (find2 K3 n).map Prod.snd := find2_map Prod.snd K3 n
def L1 : List (Int × Value) := K1.map fun e => ((e.1 : Int), fv e.2.1)
def L2 : List (Int × Value) := K2.map fun e => ((e.1 : Int), fv e.2.1)
def L3 : List (Int × Value) := K3.map fun e => ((e.1 : Int), fv e.2.1)
theorem one_spec : Fn Tryz.prog 82 [] [] [] (RMapV L1) := by
  refine Fn.enter Tryz.func82 rfl Tryz.ntmps82 (by simp) (fun I0 w0 => ?_)
  repeat (refine st ?_; try intro _)
  refine o_makeMapV rfl rfl ?_
  intro b
  repeat (first | refine st ?_ | refine o_insV rfl rfl rfl rfl (by kernel_rfl) ?_)
  exact G.ret rfl (.cons (.tmp rfl) .nil) (Φ' := []) (M' := [(b, MapV L1)]) inferInstance (List.Sublist.refl _) ⟨b, rfl, rfl, rfl⟩
theorem two_spec : Fn Tryz.prog 83 [] [] [] (RMapV L2) := by
  refine Fn.enter Tryz.func83 rfl Tryz.ntmps83 (by simp) (fun I0 w0 => ?_)
  repeat (refine st ?_; try intro _)
  refine o_makeMapV rfl rfl ?_
  intro b
  repeat (first | refine st ?_ | refine o_insV rfl rfl rfl rfl (by kernel_rfl) ?_)
  exact G.ret rfl (.cons (.tmp rfl) .nil) (Φ' := []) (M' := [(b, MapV L2)]) inferInstance (List.Sublist.refl _) ⟨b, rfl, rfl, rfl⟩
theorem three_spec : Fn Tryz.prog 84 [] [] [] (RMapV L3) := by
  refine Fn.enter Tryz.func84 rfl Tryz.ntmps84 (by simp) (fun I0 w0 => ?_)
  repeat (refine st ?_; try intro _)
  refine o_makeMapV rfl rfl ?_
  intro b
  repeat (first | refine st ?_ | refine o_insV rfl rfl rfl rfl (by kernel_rfl) ?_)
  exact G.ret rfl (.cons (.tmp rfl) .nil) (Φ' := []) (M' := [(b, MapV L3)]) inferInstance (List.Sublist.refl _) ⟨b, rfl, rfl, rfl⟩
theorem L1_get (n : Nat) : getV L1 n = (find2 K1 n).map fun e => fv e.1 := getV_find (fun e : FuncId × (Word → Word) => fv e.1) K1 n
theorem L2_get (n : Nat) : getV L2 n = (find2 K2 n).map fun e => fv e.1 := getV_find (fun e : FuncId × (Word → Word → Word) => fv e.1) K2 n
theorem L3_get (n : Nat) : getV L3 n = (find2 K3 n).map fun e => fv e.1 := getV_find (fun e : FuncId × (Word → Word → Word → Word) => fv e.1) K3 n
theorem is_spec (n : Nat) (hn : n < 256) : FnV Tryz.prog 52 [.int .u8 (n : Int)] [] (.bool (isC n)) := by
  unfold isC
  rw [K1_find, K2_find, K3_find]
  refine Fn.enter Tryz.func52 rfl Tryz.ntmps52 (by simp) (fun I0 w0 => ?_)
  by_cases h0 : n = 80
  · repeat (refine st ?_; try intro _)
    refine G.retV ?_
    rw [decide_eq_true (by omega)]; rfl
  by_cases h1 : 128 ≤ n ∧ n ≤ 159
  · repeat (refine st ?_; try intro _)
    refine G.retV ?_
    rw [decide_eq_true (by omega)]; rfl
  rw [decide_eq_false (by omega)]
  have h2 : n < 128 ∨ 159 < n := by omega
  have g1 := L1_get n
  have g2 := L2_get n
  have g3 := L3_get n
  generalize find2 K1 n = R1 at g1 ⊢
  generalize find2 K2 n = R2 at g2 ⊢
  generalize find2 K3 n = R3 at g3 ⊢
  rcases h2 with h2 | h2 <;> cases R1 <;> cases R2 <;> cases R3
  all_goals
    repeat (refine st ?_; try intro _)
    refine o_callM rfl rfl rfl rfl one_spec ?_
    intro b1
    repeat (refine st ?_; try intro _)
    refine o_lookV (l := L1) rfl rfl rfl rfl (by simp) (by rw [g1]) (by rw [g1]) ?_
    repeat (refine st ?_; try intro _)
    refine o_callM rfl rfl rfl rfl two_spec ?_
    intro b2
    repeat (refine st ?_; try intro _)
    refine o_lookV (l := L2) rfl rfl rfl rfl (by simp) (by rw [g2]) (by rw [g2]) ?_
    repeat (refine st ?_; try intro _)
    refine o_callM rfl rfl rfl rfl three_spec ?_
    intro b3
    repeat (refine st ?_; try intro _)
    refine o_lookV (l := L3) rfl rfl rfl rfl (by simp) (by rw [g3]) (by rw [g3]) ?_
    repeat (refine st ?_; try intro _)
    refine G.retV ?_
    rfl
theorem made_spec (n : Nat) (hn : n < 256) (v : Value) (xs : List Word) (h1 : (find2 ops1 n).isSome → 1 ≤ xs.length) (h2 : (find2 ops2 n).isSome → 2 ≤ xs.length) (h3 : (find2 ops3 n).isSome → 3 ≤ xs.length) :
    FnD Tryz.prog 89 [.int .u8 (n : Int), v] [fRp v xs] (fun u => [fRp u (madeL n xs)]) := by
  unfold madeL
  rw [K1_find] at h1 ⊢
  rw [K2_find] at h2 ⊢
  rw [K3_find] at h3 ⊢
  have g1 := L1_get n
  have g2 := L2_get n
  have g3 := L3_get n
  refine Fn.enter Tryz.func89 rfl Tryz.ntmps89 (by simp) (fun I0 w0 => ?_)
  cases e1 : find2 K1 n with
  | some e =>
    obtain ⟨hf, hc⟩ := K1_ok _ (find2_mem e1)
    rw [e1] at g1 h1
    have hx := h1 rfl
    obtain ⟨x, xs, rfl⟩ : ∃ x ys, xs = x :: ys := by cases xs with | nil => simp at hx | cons x ys => exact ⟨_, _, rfl⟩
    have hc := hc x
    show W _ _ (Post _ _ _ _ _ (fun u Φ' Mc' => Φ' = [fRp u [e.2 x]] ∧ Mc' = [])) _ _ _
    dsimp only at hf hc g1
    repeat (refine st ?_; try intro _)
    refine o_callM rfl rfl rfl rfl one_spec ?_
    intro b1
    repeat (refine st ?_; try intro _)
    refine o_lookV (l := L1) rfl rfl rfl rfl (by simp) (by rw [g1]) (by rw [g1]) ?_
    repeat (refine st ?_; try intro _)
    refine o_callV rfl rfl rfl rfl hc rfl ?_
    repeat (refine st ?_; try intro _)
    exact G.retD rfl rfl
  | none =>
  rw [e1] at g1
  cases e2 : find2 K2 n with
  | some e =>
    obtain ⟨hf, hc⟩ := K2_ok _ (find2_mem e2)
    rw [e2] at g2 h2
    have hx := h2 rfl
    obtain ⟨x, y, xs, rfl⟩ : ∃ x y ys, xs = x :: y :: ys := by match xs, hx with | x :: y :: ys, _ => exact ⟨_, _, _, rfl⟩
    have hc := hc x y
    show W _ _ (Post _ _ _ _ _ (fun u Φ' Mc' => Φ' = [fRp u [e.2 x y]] ∧ Mc' = [])) _ _ _
    dsimp only at hf hc g2
    have i0 : 0 < (x :: y :: xs).length := Nat.zero_lt_succ _
    have i1 : 1 < (x :: y :: xs).length := Nat.succ_lt_succ (Nat.zero_lt_succ _)
    repeat (refine st ?_; try intro _)
    refine o_callM rfl rfl rfl rfl one_spec ?_
    intro b1
    repeat (refine st ?_; try intro _)
    refine o_lookV (l := L1) rfl rfl rfl rfl (by simp) (by rw [g1]) (by rw [g1]) ?_
    repeat (refine st ?_; try intro _)
    refine o_callM rfl rfl rfl rfl two_spec ?_
    intro b2
    repeat (refine st ?_; try intro _)
    refine o_lookV (l := L2) rfl rfl rfl rfl (by simp) (by rw [g2]) (by rw [g2]) ?_
    repeat (refine st ?_; try intro _)
    refine W.drawA 7 [dq _, dq _, dk _, dq _, dq _, dk _, dq _] [[], [], [1], [2], [], [4], [5]] [0, 3, 6] (hrest := fun c => nrm ?_)
    repeat (refine st ?_; try intro _)
    refine o_callV rfl rfl rfl rfl hc rfl ?_
    repeat (refine st ?_; try intro _)
    exact G.retD rfl rfl
  | none =>
  rw [e2] at g2
  cases e3 : find2 K3 n with
  | some e =>
    obtain ⟨hf, hc⟩ := K3_ok _ (find2_mem e3)
    rw [e3] at g3 h3
    have hx := h3 rfl
    obtain ⟨x, y, z, xs, rfl⟩ : ∃ x y z ys, xs = x :: y :: z :: ys := by match xs, hx with | x :: y :: z :: ys, _ => exact ⟨_, _, _, _, rfl⟩
    have hc := hc x y z
    show W _ _ (Post _ _ _ _ _ (fun u Φ' Mc' => Φ' = [fRp u [e.2 x y z]] ∧ Mc' = [])) _ _ _
    dsimp only at hf hc g3
    repeat (refine st ?_; try intro _)
    refine o_callM rfl rfl rfl rfl one_spec ?_
    intro b1
    repeat (refine st ?_; try intro _)
    refine o_lookV (l := L1) rfl rfl rfl rfl (by simp) (by rw [g1]) (by rw [g1]) ?_
    repeat (refine st ?_; try intro _)
    refine o_callM rfl rfl rfl rfl two_spec ?_
    intro b2
    repeat (refine st ?_; try intro _)
    refine o_lookV (l := L2) rfl rfl rfl rfl (by simp) (by rw [g2]) (by rw [g2]) ?_
    repeat (refine st ?_; try intro _)
    refine o_callM rfl rfl rfl rfl three_spec ?_
    intro b3
    repeat (refine st ?_; try intro _)
    refine o_lookV (l := L3) rfl rfl rfl rfl (by simp) (by rw [g3]) (by rw [g3]) ?_
    repeat (refine st ?_; try intro _)
    refine W.drawA 10 [dq _, dq _, dk _, dq _, dq _, dk _, dq _, dq _, dk _, dq _] [[], [], [1], [2], [], [4], [5], [], [7], [8]] [0, 3, 6, 9] (hrest := fun c => nrm ?_)
    repeat (refine st ?_; try intro _)
    refine o_callV rfl rfl rfl rfl hc rfl ?_
    repeat (refine st ?_; try intro _)
    exact G.retD rfl rfl
  | none =>
    rw [e3] at g3
    show W _ _ (Post _ _ _ _ _ (fun u Φ' Mc' => Φ' = [fRp u ([] : List Word)] ∧ Mc' = [])) _ _ _
    repeat (refine st ?_; try intro _)
    refine o_callM rfl rfl rfl rfl one_spec ?_
    intro b1
    repeat (refine st ?_; try intro _)
    refine o_lookV (l := L1) rfl rfl rfl rfl (by simp) (by rw [g1]) (by rw [g1]) ?_
    repeat (refine st ?_; try intro _)
    refine o_callM rfl rfl rfl rfl two_spec ?_
    intro b2
    repeat (refine st ?_; try intro _)
    refine o_lookV (l := L2) rfl rfl rfl rfl (by simp) (by rw [g2]) (by rw [g2]) ?_
    repeat (refine st ?_; try intro _)
    refine o_callM rfl rfl rfl rfl three_spec ?_
    intro b3
    repeat (refine st ?_; try intro _)
    refine o_lookV (l := L3) rfl rfl rfl rfl (by simp) (by rw [g3]) (by rw [g3]) ?_
    repeat (refine st ?_; try intro _)
    exact G.retD rfl rfl
end Go.Rail
namespace Go.Rail
open Go Go.Proofs
set_option maxHeartbeats 400000
set_option maxRecDepth 4000
attribute [local irreducible] OpK G W LW wpListIn Exit.then Exit.inBlock Post rounds opRun bodyPostM intOp
set_option maxHeartbeats 16000000
set_option maxRecDepth 20000
attribute [local irreducible] lexN cmpW Word.nat subW mulW addW divW modW sdivW smodW addmodW mulmodW expW andW orW xorW notW shlW shrW sarW byteW signW lessW
def popsN (n : Nat) : Nat := ((infoN n).getD noRow).pops
def doC (n : Nat) (s : List Word) : List Word × Int :=
  if isC n = false then (s, 42) else if 1024 < s.length then (s, 1)
  else if 144 ≤ n then swapL s (n - 143) else if 128 ≤ n then dupL s (n - 127)
  else if (popL s (popsN n)).2.2 ≠ 0 then ((popL s (popsN n)).1, (popL s (popsN n)).2.2)
  else pushL (popL s (popsN n)).1 (madeL n (popL s (popsN n)).2.1)
def chkP (n : Nat) : Bool := !(isC n) || (Nat.ble (popsN n) 7 && (!(find2 ops1 n).isSome || Nat.ble 1 (popsN n)) && (!(find2 ops2 n).isSome || Nat.ble 2 (popsN n)) && (!(find2 ops3 n).isSome || Nat.ble 3 (popsN n)) && (infoN n).isSome)
theorem chkP_all : ((List.range 128).all chkP) = true := by kernel_rfl
theorem pops_ok (n : Nat) (hn : n < 128) (h : isC n = true) : popsN n ≤ 7 ∧ ((find2 ops1 n).isSome → 1 ≤ popsN n) ∧ ((find2 ops2 n).isSome → 2 ≤ popsN n) ∧ ((find2 ops3 n).isSome → 3 ≤ popsN n) := by
  have := List.all_eq_true.1 chkP_all n (by simpa using hn)
  simp only [chkP, h, Bool.not_true, Bool.false_or, Bool.and_eq_true, Bool.or_eq_true, Bool.not_eq_true', Nat.ble_eq] at this
  obtain ⟨⟨⟨⟨h1, h2⟩, h3⟩, h4⟩, _⟩ := this
  refine ⟨h1, fun h => h2.resolve_left (by rw [h]; decide), fun h => h3.resolve_left (by rw [h]; decide), fun h => h4.resolve_left (by rw [h]; decide)⟩
theorem popL_ok {s : List Word} {n : Nat} (h : (popL s n).2.2 = 0) : (popL s n).1 = s.take (s.length - n) ∧ (popL s n).2.1 = (s.drop (s.length - n)).reverse ∧ n ≤ s.length := by
  unfold popL at h ⊢
  by_cases hw : wrongL s n 0 = 0
  · rw [if_pos hw]
    refine ⟨rfl, rfl, ?_⟩
    unfold wrongL at hw
    by_cases h1 : 1024 < s.length ∨ (n : Int) < 0
    · rw [if_pos h1] at hw; cases hw
    · rw [if_neg h1] at hw
      by_cases h2 : (s.length : Int) < n
      · rw [if_pos h2] at hw; cases hw
      · omega
  · rw [if_neg hw] at h; exact absurd h hw
theorem do_spec (n : Nat) (hn : n < 256) (v : Value) (s : List Word) (hs : s.length ≤ 100000) : Fn Tryz.prog 54 [.int .u8 (n : Int), v] [fRp v s] [] (RD (doC n s).2 (doC n s).1) := by
  have hi := is_spec n hn
  have hcl := fun w => Fn.given (cloneW_spec w s (by omega))
  unfold doC
  refine Fn.enter Tryz.func54 rfl Tryz.ntmps54 (by simp) (fun I0 w0 => ?_)
  cases hc : isC n with
  | false =>
    rw [hc] at hi
    rw [if_pos rfl]
    repeat (refine st ?_; try intro _)
    refine o_callV rfl rfl rfl rfl hi rfl ?_
    repeat (refine st ?_; try intro _)
    refine o_callD rfl rfl rfl rfl (hcl v) ?_
    intro r
    repeat (refine st ?_; try intro _)
    exact G.ret rfl (.cons (.tmp rfl) (.cons (.tmp rfl) .nil)) (Φ' := [fRp r s]) (M' := []) inferInstance (List.nil_sublist _) ⟨_, rfl, rfl, rfl⟩
  | true =>
  rw [hc] at hi
  rw [if_neg (by decide)]
  by_cases h1 : 1024 < s.length
  · rw [if_pos h1]
    repeat (refine st ?_; try intro _)
    refine o_callV rfl rfl rfl rfl hi rfl ?_
    repeat (refine st ?_; try intro _)
    refine o_callD rfl rfl rfl rfl (hcl v) ?_
    intro r
    repeat (refine st ?_; try intro _)
    exact G.ret rfl (.cons (.tmp rfl) (.cons (.tmp rfl) .nil)) (Φ' := [fRp r s]) (M' := []) inferInstance (List.nil_sublist _) ⟨_, rfl, rfl, rfl⟩
  rw [if_neg h1]
  by_cases h2 : 144 ≤ n
  · rw [if_pos h2]
    have hsw := swap_spec v s (n - 144 + 1) (by omega) hs
    rw [show n - 143 = n - 144 + 1 from by omega]
    repeat (refine st ?_; try intro _)
    refine o_callV rfl rfl rfl rfl hi rfl ?_
    repeat (refine st ?_; try intro _)
    refine OpK.call rfl rfl rfl rfl hsw inferInstance (Mr := _) (List.Perm.refl _) ?_
    rintro u Φ' Mc' ⟨sv, rfl, rfl, rfl⟩
    dsimp only [List.cons_append, List.nil_append]
    unfold tupD
    repeat (refine st ?_; try intro _)
    exact G.ret rfl (.cons (.tmp rfl) (.cons (.tmp rfl) .nil)) (Φ' := [fRp sv _]) (M' := []) inferInstance (List.nil_sublist _) ⟨_, rfl, rfl, rfl⟩
  rw [if_neg h2]
  by_cases h3 : 128 ≤ n
  · rw [if_pos h3]
    have hsw := dup_spec v s (n - 128 + 1) (by omega) hs
    rw [show n - 127 = n - 128 + 1 from by omega]
    repeat (refine st ?_; try intro _)
    refine o_callV rfl rfl rfl rfl hi rfl ?_
    repeat (refine st ?_; try intro _)
    refine OpK.call rfl rfl rfl rfl hsw inferInstance (Mr := _) (List.Perm.refl _) ?_
    rintro u Φ' Mc' ⟨sv, rfl, rfl, rfl⟩
    dsimp only [List.cons_append, List.nil_append]
    unfold tupD
    repeat (refine st ?_; try intro _)
    exact G.ret rfl (.cons (.tmp rfl) (.cons (.tmp rfl) .nil)) (Φ' := [fRp sv _]) (M' := []) inferInstance (List.nil_sublist _) ⟨_, rfl, rfl, rfl⟩
  rw [if_neg h3]
  obtain ⟨p1, p2, p3, p4⟩ := pops_ok n (by omega) hc
  have hin := info_spec n hn
  have hpop := pop_spec v s (popsN n) (by omega) hs
  unfold infoV rowV at hin
  rw [show ((infoN n).getD noRow).pops = popsN n from rfl] at hin
  by_cases h4 : (popL s (popsN n)).2.2 = 0
  · rw [if_neg (by simpa using h4)]
    obtain ⟨q1, q2, q3⟩ := popL_ok h4
    have hlen : (popL s (popsN n)).2.1.length = popsN n := by rw [q2]; simp; omega
    have hlen1 : (popL s (popsN n)).1.length ≤ 100000 := by rw [q1, List.length_take]; omega
    rw [h4] at hpop
    generalize (popL s (popsN n)).1 = rest at hpop hlen1 ⊢
    generalize (popL s (popsN n)).2.1 = l at hpop hlen ⊢
    have hmd := fun w => made_spec n hn w l (fun h => by rw [hlen]; exact p2 h) (fun h => by rw [hlen]; exact p3 h) (fun h => by rw [hlen]; exact p4 h)
    have hml : (madeL n l).length ≤ 100000 := by
      unfold madeL
      split
      · simp
      · split
        · simp
        · split <;> simp
    generalize popsN n = p at hin hpop
    repeat (refine st ?_; try intro _)
    refine o_callV rfl rfl rfl rfl hi rfl ?_
    repeat (refine st ?_; try intro _)
    refine o_callV rfl rfl rfl rfl hin rfl ?_
    repeat (refine st ?_; try intro _)
    refine OpK.call rfl rfl rfl rfl hpop inferInstance (Mr := _) (List.Perm.refl _) ?_
    rintro u Φ' Mc' ⟨v1, v2, rfl, rfl, rfl⟩
    dsimp only [List.cons_append, List.nil_append]
    repeat (refine st ?_; try intro _)
    refine o_callD rfl rfl rfl rfl (hmd v2) ?_
    intro u
    repeat (refine st ?_; try intro _)
    refine OpK.call rfl rfl rfl rfl (push_spec v1 u rest (madeL n l) hlen1 hml) inferInstance (Mr := _) (List.Perm.refl _) ?_
    rintro w Φ' Mc' ⟨sv, rfl, rfl, rfl⟩
    dsimp only [List.cons_append, List.nil_append]
    unfold tupD
    repeat (refine st ?_; try intro _)
    exact G.ret rfl (.cons (.tmp rfl) (.cons (.tmp rfl) .nil)) (Φ' := [fRp sv _]) (M' := []) inferInstance (List.nil_sublist _) ⟨_, rfl, rfl, rfl⟩
  · rw [if_pos h4]
    generalize (popL s (popsN n)).1 = rest at hpop ⊢
    generalize (popL s (popsN n)).2.1 = l at hpop
    generalize (popL s (popsN n)).2.2 = e at h4 hpop ⊢
    generalize popsN n = p at hin hpop
    repeat (refine st ?_; try intro _)
    refine o_callV rfl rfl rfl rfl hi rfl ?_
    repeat (refine st ?_; try intro _)
    refine o_callV rfl rfl rfl rfl hin rfl ?_
    repeat (refine st ?_; try intro _)
    refine OpK.call rfl rfl rfl rfl hpop inferInstance (Mr := _) (List.Perm.refl _) ?_
    rintro u Φ' Mc' ⟨v1, v2, rfl, rfl, rfl⟩
    dsimp only [List.cons_append, List.nil_append]
    repeat (refine st ?_; try intro _)
    exact G.ret rfl (.cons (.tmp rfl) (.cons (.tmp rfl) .nil)) (Φ' := [fRp v1 _]) (M' := []) inferInstance (List.nil_sublist _) ⟨_, rfl, rfl, rfl⟩
end Go.Rail
