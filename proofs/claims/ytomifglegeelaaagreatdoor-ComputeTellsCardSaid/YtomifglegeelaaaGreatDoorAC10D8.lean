/- stack: Swap. -/
import Derived.Test.YtomifglegeelaaaGreatDoorAC9
import Derived.Test.YtomifglegeelaaaGreatDoorAC14C15
import Derived.Test.YtomifglegeelaaaGreatDoorAD7
namespace Go.Rail
open Go Go.Proofs
set_option linter.unusedSimpArgs false
set_option linter.unusedVariables false
set_option maxHeartbeats 400000
set_option maxRecDepth 4000
attribute [local irreducible] OpK G W LW wpListIn Exit.then Exit.inBlock Post rounds opRun bodyPostM intOp
set_option maxHeartbeats 4000000
def swapE (s : List Word) (n : Nat) : Int := if wrongL s n 1 = 0 ∧ n = s.length then 40 else wrongL s n 1
def swapS (s : List Word) (n : Nat) : List Word := (s.set (s.length - 1) (s.getD (s.length - 1 - n) .zero)).set (s.length - 1 - n) (s.getD (s.length - 1) .zero)
def swapL (s : List Word) (n : Nat) : List Word × Int := (if swapE s n = 0 then swapS s n else s, swapE s n)
theorem wrong_zero {s : List Word} {n : Nat} (h : wrongL s n 1 = 0) : 1 ≤ n ∧ n ≤ s.length := by
  unfold wrongL at h
  by_cases h1 : 1024 < s.length ∨ (n : Int) < 1
  · rw [if_pos h1] at h; cases h
  · rw [if_neg h1] at h
    by_cases h2 : (s.length : Int) < n
    · rw [if_pos h2] at h; cases h
    · omega
theorem swap_spec (v : Value) (s : List Word) (n : Nat) (hn : n ≤ 1000) (hs : s.length ≤ 100000) : Fn Tryz.prog 19 [v, .int .i64 n] [fRp v s] [] (RD (swapL s n).2 (swapL s n).1) := by
  have hw := fun w => wrong_spec w s n 1 hs
  have hcl := fun w => Fn.given (cloneW_spec w s (by omega))
  refine Fn.enter Tryz.func19 rfl Tryz.ntmps19 (by simp) (fun I0 w0 => ?_)
  by_cases h : wrongL s n 1 = 0
  case neg =>
    have e1 : swapL s n = (s, wrongL s n 1) := by
      unfold swapL swapE
      rw [if_neg (c := _ ∧ _) (fun h' => h h'.1), if_neg h]
    rw [e1]
    repeat (first | refine stp ?_ | (refine sti ?_; intro _) | refine stf ?_ | (refine stb ?_; intro _))
    refine o_callV rfl rfl rfl rfl (hw v) rfl ?_
    repeat (first | refine stp ?_ | (refine sti ?_; intro _) | refine stf ?_ | (refine stb ?_; intro _))
    refine o_callD rfl rfl rfl rfl (hcl v) ?_
    intro r
    repeat (first | refine stp ?_ | (refine sti ?_; intro _) | refine stf ?_ | (refine stb ?_; intro _))
    exact G.ret rfl (.cons (.tmp rfl) (.cons (.tmp rfl) .nil)) (Φ' := [fRp r s]) (M' := []) inferInstance (List.nil_sublist _) ⟨_, rfl, rfl, rfl⟩
  have hl := wrong_zero h
  rw [h] at hw
  by_cases hnl : n = s.length
  · have e1 : swapL s n = (s, 40) := by
      unfold swapL swapE
      rw [if_pos (c := _ ∧ _) ⟨h, hnl⟩]; rfl
    rw [e1]
    repeat (first | refine stp ?_ | (refine sti ?_; intro _) | refine stf ?_ | (refine stb ?_; intro _))
    refine o_callV rfl rfl rfl rfl (hw v) rfl ?_
    repeat (first | refine stp ?_ | (refine sti ?_; intro _) | refine stf ?_ | (refine stb ?_; intro _))
    refine o_callD rfl rfl rfl rfl (hcl v) ?_
    intro r
    repeat (first | refine stp ?_ | (refine sti ?_; intro _) | refine stf ?_ | (refine stb ?_; intro _))
    exact G.ret rfl (.cons (.tmp rfl) (.cons (.tmp rfl) .nil)) (Φ' := [fRp r s]) (M' := []) inferInstance (List.nil_sublist _) ⟨_, rfl, rfl, rfl⟩
  have i1 : s.length - 1 < s.length := by omega
  have i2 : s.length - 1 - n < s.length := by omega
  have e1 : swapL s n = ((s.set (s.length - 1) s[s.length - 1 - n]).set (s.length - 1 - n) s[s.length - 1], 0) := by
    unfold swapL swapE swapS
    rw [if_neg (c := _ ∧ _) (fun h' => hnl h'.2), h, if_pos rfl]
    simp only [List.getD, List.getElem?_eq_getElem i1, List.getElem?_eq_getElem i2, Option.getD_some]
  rw [e1]
  repeat (first | refine stp ?_ | (refine sti ?_; intro _) | refine stf ?_ | (refine stb ?_; intro _))
  refine o_callV rfl rfl rfl rfl (hw v) rfl ?_
  repeat (first | refine stp ?_ | (refine sti ?_; intro _) | refine stf ?_ | (refine stb ?_; intro _))
  refine o_callO rfl rfl rfl rfl (cloneW_spec v s (by omega)) ?_
  intro v' o ho
  cases o with
  | none => obtain ⟨_, h0⟩ := ho; omega
  | some q =>
    obtain ⟨b, cs⟩ := q
    obtain ⟨cap, rfl, hcs, hcap⟩ := ho
    dsimp only [List.cons_append, List.nil_append, ocells, ownM]
    repeat (first | refine stp ?_ | (refine sti ?_; intro _) | refine stf ?_ | (refine stb ?_; intro _))
    refine W.drawX 18 (fun D c => [(b, Ob (bif D 17 then cellsL (c 17) else cs) 24)]) [⟨?v0_1, fun _ z => []⟩, ⟨?v1_1, fun _ z => []⟩, ⟨?v2_1, fun _ z => []⟩, ⟨?v3_1, fun _ z => []⟩, ⟨?v4_1, fun _ z => []⟩, ⟨?v5_1, fun _ z => []⟩, ⟨?v6_1, fun _ z => []⟩, ⟨?v7_1, fun _ z => []⟩, ⟨?v8_1, fun _ z => []⟩, ⟨?v9_1, fun _ z => []⟩, ⟨?v10_1, fun _ z => []⟩, ⟨?v11_1, fun _ z => []⟩, ⟨?v12_1, fun _ z => []⟩, ⟨?v13_1, fun _ z => []⟩, ⟨?v14_1, fun _ z => []⟩, ⟨?v15_1, fun _ z => []⟩, ⟨?v16_1, fun _ z => []⟩, ⟨fun _ z => z, fun _ z => [fPure ((cellsL z).length = cs.length), fRow (cellsL z) (s.set (s.length - 1) s[s.length - 1 - n])]⟩] [[], [], [], [], [], [3, 4], [], [], [], [7, 8], [6, 9], [10], [], [], [12, 13], [14], [0, 1], [11, 16]] [17, 2, 5, 15] (by kernel_rfl) (by kernel_rfl) (by kernel_rfl) (by kernel_rfl) ?loc_1 ?hz_1 ?ops_1 ?rest_1
    case ops_1 =>
      simp only [AllX, Nat.reduceAdd, and_true]
      refine ⟨?_, ?_, ?_, ?_, ?_, ?_, ?_, ?_, ?_, ?_, ?_, ?_, ?_, ?_, ?_, ?_, ?_, ?_⟩
      all_goals (intro D c z0 Φr Lr K hDi hAnc hDn hK; dsimp only [dstOf, dstX, putX, kval, kfac, ancE, ancX, ancF, getD_z, getD_s, List.getElem?_cons_zero, List.getElem?_cons_succ, List.getElem?_nil, Option.getD_some, Option.getD_none, List.nil_append, List.cons_append, Option.getD] at hK ⊢)
      iterate 10 (refine stp ?_; exact hK z0)
      · refine o_idxO rfl rfl rfl rfl (by omega) (by omega) (o' := (s.length - 1 - n) * 4) (by omega) ?_; exact hK z0
      · have h17 : D 17 = false := dnF hDn hDi (by kernel_rfl); simp only [updD, h17, Nat.reduceEqDiff, ↓reduceIte, cond_false] at hK ⊢; refine o_loadO (α := Word) (xs := s) (s.length - 1 - n) i2 rfl rfl rfl rfl rfl ?_; exact hK z0
      · refine stp ?_; exact hK z0
      · refine stp ?_; exact hK z0
      · refine o_idxO rfl rfl rfl rfl (by omega) (by omega) (o' := (s.length - 1) * 4) (by omega) ?_; exact hK z0
      · have h17 : D 17 = false := dnF hDn hDi (by kernel_rfl); simp only [updD, h17, Nat.reduceEqDiff, ↓reduceIte, cond_false] at hK ⊢; refine o_loadO (α := Word) (xs := s) (s.length - 1) i1 rfl rfl rfl rfl rfl ?_; exact hK z0
      · refine o_idxO rfl rfl rfl rfl (by omega) (by omega) (o' := (s.length - 1) * 4) (by omega) ?_; exact hK z0
      · simp only [updD, updC, hDi, Nat.reduceEqDiff, ↓reduceIte, cond_false, cond_true] at hK ⊢; refine o_storeO (α := Word) s[s.length - 1 - n] (s.length - 1) i1 rfl rfl rfl ⟨fun _ _ => Rp.flat.2 rfl⟩ rfl ?_; intro cs1 hc1; refine G.learn (fPure ((cellsL (.agg cs1.toArray)).length = cs.length)) (e := ⟨fun _ _ => hc1⟩) ?_; exact hK (.agg cs1.toArray)
    case hz_1 => intro c; rfl
    case loc_1 =>
      simp only [AllL, Nat.reduceAdd, and_true]
      refine ⟨?_, ?_, ?_, ?_, ?_, ?_, ?_, ?_, ?_, ?_, ?_, ?_, ?_, ?_, ?_, ?_, ?_, ?_⟩
      all_goals (intro c c' z h; first | exact ⟨rfl, rfl⟩ | (skip))
    intro c
    dsimp only [dstOf, dstX, putX, kval, kfac, ancE, ancX,  ancF, getD_z, getD_s, List.getElem?_cons_zero, List.getElem?_cons_succ, List.getElem?_nil, Option.getD_some, Option.getD_none, List.nil_append, List.cons_append, List.drop_succ_cons, List.drop_zero, Option.getD]
    refine LW.bare (G.use (p := (cellsL (c 17)).length = cs.length) (fun I hp => hp (fPure _) (.head _)) ?_)
    intro hc17
    refine LW.back ?_
    show LW _ _ _ _ _ _ [(b, Ob (cellsL (c 17)) 24)]
    refine LW.cons ?_
    refine o_idxO rfl rfl rfl rfl (by omega) (by omega) (o' := (s.length - 1 - n) * 4) (by omega) ?_
    repeat (first | refine stp ?_ | (refine sti ?_; intro _) | refine stf ?_ | (refine stb ?_; intro _))
    refine o_storeO (α := Word) (xs := s.set (s.length - 1) s[s.length - 1 - n]) s[s.length - 1] (s.length - 1 - n) (by simp; omega) rfl rfl rfl ⟨fun _ _ => Rp.flat.2 rfl⟩ rfl ?_
    intro cs2 hc2
    repeat (first | refine stp ?_ | (refine sti ?_; intro _) | refine stf ?_ | (refine stb ?_; intro _))
    refine G.giveOwn2 (Mr := []) (.slice (some ⟨b, 0, none⟩) s.length cap) ((s.set (s.length - 1) s[s.length - 1 - n]).set (s.length - 1 - n) s[s.length - 1]) (some (b, cs2)) 24 ⟨cap, by simp, by rw [hc2, hc17]; exact hcs, by simpa using hcap⟩ (show Ent' _ (fRow cs2 _) from inferInstance) (List.Perm.refl _) ?_
    exact G.ret rfl (.cons (.tmp rfl) (.cons (.tmp rfl) .nil)) (Φ' := [fRp _ ((s.set (s.length - 1) s[s.length - 1 - n]).set (s.length - 1 - n) s[s.length - 1])]) (M' := []) inferInstance (List.nil_sublist _) ⟨_, rfl, rfl, rfl⟩
end Go.Rail
namespace Go.Rail
open Go Go.Proofs
set_option linter.unusedSimpArgs false
set_option linter.unusedVariables false
set_option maxHeartbeats 400000
set_option maxRecDepth 4000
attribute [local irreducible] OpK G W LW wpListIn Exit.then Exit.inBlock Post rounds opRun bodyPostM intOp
set_option maxHeartbeats 16000000
attribute [local irreducible] lexN cmpW Word.nat subW mulW addW divW modW sdivW smodW addmodW mulmodW expW andW orW xorW notW shlW shrW sarW byteW signW
/-- A word with its highest bit turned. -/
def flipW (a : Word) : Word := ⟨a.a, a.b, a.c, UInt64.ofNat (a.d.toNat ^^^ 9223372036854775808)⟩
theorem flipW_v (a : Word) : Value.agg [.int .u64 (a.a.toNat : Int), .int .u64 (a.b.toNat : Int), .int .u64 (a.c.toNat : Int), .int .u64 ((a.d.toNat ^^^ 9223372036854775808 : Nat) : Int)].toArray = (flipW a).v := by
  have h : a.d.toNat ^^^ 9223372036854775808 < 2 ^ 64 := xor_lt64 a.d.toNat_lt (by decide)
  simp only [Word.v, Word.cells, flipW, UInt64.toNat_ofNat', Nat.mod_eq_of_lt h]
def lessW (a b : Word) : Bool := decide (cmpW (flipW a) (flipW b) < 0)
theorem less_spec (a b : Word) : FnV Tryz.prog 83 [a.v, b.v] [] (.bool (lessW a b)) := by
  have hc := wcmp_spec (flipW a) (flipW b)
  refine Fn.enter Tryz.func83 rfl Tryz.ntmps83 (by simp) (fun I0 w0 => ?_)
  repeat (refine st ?_; try intro _)
  rw [flipW_v a, flipW_v b]
  refine o_callV rfl rfl rfl rfl hc rfl ?_
  repeat (refine st ?_; try intro _)
  refine G.retV ?_
  rfl
theorem cflag_spec (b : Bool) : FnV Tryz.prog 68 [.bool b] [] (flagW b).v := by
  cases b
  · refine Fn.enter Tryz.func68 rfl Tryz.ntmps68 (by simp) (fun I0 w0 => ?_)
    repeat (refine st ?_; try intro _)
    refine G.retV ?_
    rfl
  · refine Fn.enter Tryz.func68 rfl Tryz.ntmps68 (by simp) (fun I0 w0 => ?_)
    repeat (refine st ?_; try intro _)
    refine G.retV ?_
    rfl
instance (b : Bool) {Φ : List Fa} : CV Tryz.prog 68 [.bool b] Φ (flagW b).v := ⟨Fn.weaken (cflag_spec b)⟩
instance (a b : Word) {Φ : List Fa} : CV Tryz.prog 83 [a.v, b.v] Φ (.bool (lessW a b)) := ⟨Fn.weaken (less_spec a b)⟩
instance (a b : Word) {Φ : List Fa} : CV Tryz.prog 80 [a.v, b.v] Φ (.int .i64 (cmpW a b)) := ⟨Fn.weaken (wcmp_spec a b)⟩
theorem isz_spec (a : Word) : FnV Tryz.prog 67 [a.v] [] (flagW (decide (a = .zero))).v := by
  refine Fn.enter Tryz.func67 rfl Tryz.ntmps67 (by simp) (fun I0 w0 => ?_)
  repeat (refine st ?_; try intro _)
  refine G.retV ?_
  rfl
theorem lt_spec (a b : Word) : FnV Tryz.prog 79 [a.v, b.v] [] (flagW (decide (cmpW a b < 0))).v := by
  refine Fn.enter Tryz.func79 rfl Tryz.ntmps79 (by simp) (fun I0 w0 => ?_)
  repeat (refine st ?_; try intro _)
  refine G.retV ?_
  rfl
theorem gt_spec (a b : Word) : FnV Tryz.prog 81 [a.v, b.v] [] (flagW (decide (0 < cmpW a b))).v := by
  refine Fn.enter Tryz.func81 rfl Tryz.ntmps81 (by simp) (fun I0 w0 => ?_)
  repeat (refine st ?_; try intro _)
  refine G.retV ?_
  rfl
theorem slt_spec (a b : Word) : FnV Tryz.prog 82 [a.v, b.v] [] (flagW (lessW a b)).v := by
  refine Fn.enter Tryz.func82 rfl Tryz.ntmps82 (by simp) (fun I0 w0 => ?_)
  repeat (refine st ?_; try intro _)
  refine G.retV ?_
  rfl
theorem sgt_spec (a b : Word) : FnV Tryz.prog 84 [a.v, b.v] [] (flagW (lessW b a)).v := by
  refine Fn.enter Tryz.func84 rfl Tryz.ntmps84 (by simp) (fun I0 w0 => ?_)
  repeat (refine st ?_; try intro _)
  refine G.retV ?_
  rfl
theorem eqq_spec (a b : Word) : FnV Tryz.prog 85 [a.v, b.v] [] (flagW (decide (a = b))).v := by
  refine Fn.enter Tryz.func85 rfl Tryz.ntmps85 (by simp) (fun I0 w0 => ?_)
  repeat (refine st ?_; try intro _)
  refine G.retV ?_
  rfl
end Go.Rail
namespace Go.Rail
open Go Go.Proofs
set_option linter.unusedSimpArgs false
set_option linter.unusedVariables false
set_option maxHeartbeats 400000
set_option maxRecDepth 4000
attribute [local irreducible] OpK G W LW wpListIn Exit.then Exit.inBlock Post rounds opRun bodyPostM intOp
set_option maxHeartbeats 4000000
attribute [local irreducible] Word.num Word.nat
theorem bt_lt (x i : Nat) : bt x i < 2 := Nat.mod_lt _ (by decide)
theorem bt_test (x i : Nat) : bt x i = (x.testBit i).toNat := by
  rw [Nat.testBit_eq_decide_div_mod_eq]
  show x / 2 ^ i % 2 = _
  have : x / 2 ^ i % 2 < 2 := Nat.mod_lt _ (by decide)
  generalize x / 2 ^ i % 2 = t at *
  by_cases h : t = 1
  · subst h; rfl
  · rw [decide_eq_false h]; show t = 0; omega
theorem nat_bits {x y : Nat} (h : ∀ i < 256, bt x i = bt y i) : Word.nat x = Word.nat y := by
  refine Word.nat_eq ?_
  have e : top256 = 2 ^ 256 := by kernel_rfl
  rw [e]
  refine dig_ext (b := 2) (n := 256) (by decide) (Nat.mod_lt _ (Nat.pow_pos (by decide))) (Nat.mod_lt _ (Nat.pow_pos (by decide))) (fun i hi => ?_)
  rw [dig_mod (by decide) hi, dig_mod (by decide) hi]
  exact h i hi
theorem bt_sum {g : Nat → Nat} (hg : ∀ i < 256, g i < 2) {i : Nat} (hi : i < 256) : bt (sumB 2 g 256) i = g i := sumB_dig (by decide) hi hg
theorem sum_bits {g : Nat → Nat} {y : Nat} (h : ∀ i < 256, bt y i = g i) : Word.nat (sumB 2 g 256) = Word.nat y :=
  nat_bits (fun i hi => by rw [bt_sum (fun j hj => by rw [← h j hj]; exact bt_lt _ _) hi, h i hi])
theorem bt_top {x i : Nat} (hx : x < top256) (hi : 256 ≤ i) : bt x i = 0 := by
  show x / 2 ^ i % 2 = 0
  rw [Nat.div_eq_of_lt (Nat.lt_of_lt_of_le (Nat.lt_of_lt_of_eq hx (show top256 = 2 ^ 256 by kernel_rfl)) (Nat.pow_le_pow_right (by decide) hi))]
theorem rint_spec (w : Word) : FnV Tryz.prog 140 [w.v] [] (.tuple #[.int .i64 ((if w.num ≤ 4611686018427387903 then w.num else 0 : Nat) : Int), .bool (decide (w.num ≤ 4611686018427387903))]) := by
  have := w.a.toNat_lt
  have hnum : w.num = w.a.toNat + 18446744073709551616 * w.b.toNat + 340282366920938463463374607431768211456 * w.c.toNat + 6277101735386680763835789423207666416102355444464034512896 * w.d.toNat := by unfold Word.num; rfl
  refine Fn.enter Tryz.func140 rfl Tryz.ntmps140 (by simp) (fun I0 w0 => ?_)
  by_cases h1 : 0 < w.b.toNat
  · repeat (first | (refine sty ?_; try intro _) | (refine st ?_; try intro _) | (refine stz ?_; try intro _))
    refine G.retV ?_
    rw [if_neg (by omega), decide_eq_false (by omega)]; rfl
  by_cases h2 : 0 < w.c.toNat
  · repeat (first | (refine sty ?_; try intro _) | (refine st ?_; try intro _) | (refine stz ?_; try intro _))
    refine G.retV ?_
    rw [if_neg (by omega), decide_eq_false (by omega)]; rfl
  by_cases h3 : 0 < w.d.toNat
  · repeat (first | (refine sty ?_; try intro _) | (refine st ?_; try intro _) | (refine stz ?_; try intro _))
    refine G.retV ?_
    rw [if_neg (by omega), decide_eq_false (by omega)]; rfl
  by_cases h4 : 4611686018427387903 < w.a.toNat
  · repeat (first | (refine sty ?_; try intro _) | (refine st ?_; try intro _) | (refine stz ?_; try intro _))
    refine G.retV ?_
    rw [if_neg (by omega), decide_eq_false (by omega)]; rfl
  · repeat (first | (refine sty ?_; try intro _) | (refine st ?_; try intro _) | (refine stz ?_; try intro _))
    refine G.retV ?_
    rw [if_pos (by omega), decide_eq_true (by omega), show w.num = w.a.toNat from by omega]; rfl
theorem small_spec (w : Word) (m : Nat) (hm : m ≤ 4611686018427387903) : FnV Tryz.prog 111 [w.v, .int .i64 (m : Int)] [] (.int .i64 ((min w.num m : Nat) : Int)) := by
  have hi := rint_spec w
  refine Fn.enter Tryz.func111 rfl Tryz.ntmps111 (by simp) (fun I0 w0 => ?_)
  by_cases h : w.num ≤ 4611686018427387903
  · rw [if_pos h, decide_eq_true h] at hi
    by_cases h2 : m < w.num
    · rw [Nat.min_eq_right (by omega)]
      repeat (first | (refine sty ?_; try intro _) | (refine st ?_; try intro _) | (refine stz ?_; try intro _))
      refine o_callV rfl rfl rfl rfl hi rfl ?_
      repeat (first | (refine sty ?_; try intro _) | (refine st ?_; try intro _) | (refine stz ?_; try intro _))
      refine G.retV ?_
      rfl
    · rw [Nat.min_eq_left (by omega)]
      repeat (first | (refine sty ?_; try intro _) | (refine st ?_; try intro _) | (refine stz ?_; try intro _))
      refine o_callV rfl rfl rfl rfl hi rfl ?_
      repeat (first | (refine sty ?_; try intro _) | (refine st ?_; try intro _) | (refine stz ?_; try intro _))
      refine G.retV ?_
      rfl
  · rw [if_neg h, decide_eq_false h] at hi
    rw [Nat.min_eq_right (by omega)]
    repeat (first | (refine sty ?_; try intro _) | (refine st ?_; try intro _) | (refine stz ?_; try intro _))
    refine o_callV rfl rfl rfl rfl hi rfl ?_
    repeat (first | (refine sty ?_; try intro _) | (refine st ?_; try intro _) | (refine stz ?_; try intro _))
    refine G.retV ?_
    rfl
/-- Bit by bit, by a table. -/
def bF (T : Nat → Nat) (x y i k : Nat) : Nat := if k < i then T (2 * bt x k + bt y k) else bt x k
theorem bF_at (T : Nat → Nat) (x y i : Nat) : bF T x y i i = bt x i := by unfold bF; rw [if_neg (by omega)]
theorem bF_step (T : Nat → Nat) (x y i : Nat) : (fun k => if k = i then ((T (2 * bt x i + bt y i) : Nat) : Int) else ((bF T x y i k : Nat) : Int)) = fun k => ((bF T x y (i + 1) k : Nat) : Int) := by
  funext k
  unfold bF
  by_cases h : k = i
  · subst h; rw [if_pos rfl, if_pos (by omega)]
  · rw [if_neg h]
    by_cases h2 : k < i
    · rw [if_pos h2, if_pos (by omega)]
    · rw [if_neg h2, if_neg (by omega)]
theorem both_spec (a b : Word) (T : Nat → Nat) (hT : ∀ i < 4, T i < 2) : FnV Tryz.prog 113 [a.v, b.v, .agg (cI (rowN 4 T)).toArray] [] (Word.nat (sumB 2 (fun i => T (2 * bt a.num i + bt b.num i)) 256)).v := by
  refine Fn.enter Tryz.func113 rfl Tryz.ntmps113 (by simp) (fun I0 w0 => ?_)
  repeat (first | (refine sty ?_; try intro _) | (refine st ?_; try intro _) | (refine stz ?_; try intro _))
  rename_i b3 b4 b5 b6
  refine o_callO rfl rfl rfl rfl (bits_spec a) ?_
  intro vx ox hox
  rw [rowZ_length] at hox
  refine G.ownZ (f := fun k => ((bt a.num k : Nat) : Int)) (by decide) hox ?_
  intro bx ex cx e1 e2 hcx
  subst e1 e2
  dsimp only [ownM, List.cons_append, List.nil_append]
  repeat (first | (refine sty ?_; try intro _) | (refine st ?_; try intro _) | (refine stz ?_; try intro _))
  refine o_callO rfl rfl rfl rfl (bits_spec b) ?_
  intro vy oy hoy
  refine G.giveOwn2 vy (rowN 256 (bt b.num)) oy 3 hoy inferInstance (List.Perm.refl _) ?_
  repeat (first | (refine sty ?_; try intro _) | (refine st ?_; try intro _) | (refine stz ?_; try intro _))
  refine W.lp (fun (i : Nat) => ([fRp vy (rowN 256 (bt b.num))], [(9, .int .i64 (i : Int)), (8, vy), (7, .slice (some ⟨bx, 0, none⟩) 256 cx), (6, .pointer (some ⟨b6, 0, none⟩)), (5, .pointer (some ⟨b5, 0, none⟩))], [(b6, Ob Word.zero.cells 24), (b5, Ob (cIx (rowN 4 T) []) 104), (bx, Ob (cIx (rowN 256 (bF T a.num b.num i)) ex) 3)])) (fun i => i ≤ 256) (fun i => 256 - i) 0 ?_ (hM := .cons_cons _ (.cons_cons _ (.cons _ (.cons _ (.refl _)))))
  intro i hi
  dsimp only
  by_cases hi32 : i = 256
  · subst hi32
    refine W.bare (G.giveZ bx cx hcx ?_)
    refine G.code ?_
    have e : rowZ 256 (fun k => ((bF T a.num b.num 256 k : Nat) : Int)) = rowN 256 (fun i => T (2 * bt a.num i + bt b.num i)) := rowZ_congr (fun k hk => by unfold bF; rw [if_pos hk])
    rw [e]
    have ht : ∀ i, T (2 * bt a.num i + bt b.num i) < 2 := fun i => hT _ (by have := bt_lt a.num i; have := bt_lt b.num i; omega)
    repeat (first | (refine sty ?_; try intro _) | (refine st ?_; try intro _) | (refine stz ?_; try intro _))
    refine o_callV rfl rfl rfl rfl (fromBits_spec _ (fun i => T (2 * bt a.num i + bt b.num i)) (fun i _ => ht i)) rfl ?_
    repeat (first | (refine sty ?_; try intro _) | (refine st ?_; try intro _) | (refine stz ?_; try intro _))
    refine G.retV ?_
    rfl
  · have h0 := bF_at T a.num b.num i
    have h1 := bt_lt a.num i
    have h2 := bt_lt b.num i
    have h3 := hT (2 * bt a.num i + bt b.num i) (by omega)
    repeat (first | (refine sty ?_; try intro _) | (refine st ?_; try intro _) | (refine stz ?_; try intro _))
    refine W.drawA 14 [dq _, dq _, dq _, dq _, dq _, dq _, dq _, dq _, dq _, dk _, dq _, dq _, dq _, dq _] [[], [], [], [], [2,3], [4], [5], [], [], [7,8], [9], [6,10], [11], [12]] [0, 1, 13] (hrest := fun c => nrm ?_) (hops := by
      iterate 5 refine AllQ.az ?_
      refine AllQ.mk (by intro c z0 Φr Lr K; refine nrm ?_; intro hK; refine stz ?_; rw [h0]; exact hK z0) ?_
      iterate 8 refine AllQ.az ?_
      exact AllQ.nil)
    repeat (first | (refine sty ?_; try intro _) | (refine st ?_; try intro _) | (refine stz ?_; try intro _))
    rw [bF_step]
    exact G.ag (i + 1)
end Go.Rail
