/- stack: Swap. -/
import Derived.Test.YtpbbjkbackiljaaGreatDoorAC9
import Derived.Test.YtpbbjkbackiljaaGreatDoorAC14C15
namespace Go.Rail
open Go Go.Proofs
set_option linter.unusedSimpArgs false
set_option linter.unusedVariables false
set_option maxHeartbeats 400000
set_option maxRecDepth 4000
attribute [local irreducible] OpK G W LW wpListIn Exit.then Exit.inBlock Post rounds opRun bodyPostM intOp
set_option maxHeartbeats 4000000
def swapE (s : List Word) (n : Nat) : Int := if wrongL s n 1 = 0 ∧ n = s.length then 40 else wrongL s n 1
def swapS (s : List Word) (n : Nat) : List Word := (s.set (s.length - 1) (s.getD (s.length - 1 - n) .zero)).set (s.length - 1 - n) (s.getD (s.length - 1) .zero)
def swapL (s : List Word) (n : Nat) : List Word × Int := (if swapE s n = 0 then swapS s n else s, swapE s n)
theorem wrong_zero {s : List Word} {n : Nat} (h : wrongL s n 1 = 0) : 1 ≤ n ∧ n ≤ s.length := by
  unfold wrongL at h
  by_cases h1 : 1024 < s.length ∨ (n : Int) < 1
  · rw [if_pos h1] at h; cases h
  · rw [if_neg h1] at h
    by_cases h2 : (s.length : Int) < n
    · rw [if_pos h2] at h; cases h
    · omega
theorem swap_spec (v : Value) (s : List Word) (n : Nat) (hn : n ≤ 1000) (hs : s.length ≤ 100000) : Fn Tryz.prog 85 [v, .int .i64 n] [fRp v s] [] (RD (swapL s n).2 (swapL s n).1) := by
  have hw := fun w => wrong_spec w s n 1 hs
  have hcl := fun w => Fn.given (cloneW_spec w s (by omega))
  refine Fn.enter Tryz.func85 rfl Tryz.ntmps85 (by simp) (fun I0 w0 => ?_)
  by_cases h : wrongL s n 1 = 0
  case neg =>
    have e1 : swapL s n = (s, wrongL s n 1) := by
      unfold swapL swapE
      rw [if_neg (c := _ ∧ _) (fun h' => h h'.1), if_neg h]
    rw [e1]
    repeat (first | refine stp ?_ | (refine sti ?_; intro _) | refine stf ?_ | (refine stb ?_; intro _))
    refine o_callV rfl rfl rfl rfl (hw v) rfl ?_
    repeat (first | refine stp ?_ | (refine sti ?_; intro _) | refine stf ?_ | (refine stb ?_; intro _))
    refine o_callD rfl rfl rfl rfl (hcl v) ?_
    intro r
    repeat (first | refine stp ?_ | (refine sti ?_; intro _) | refine stf ?_ | (refine stb ?_; intro _))
    exact G.ret rfl (.cons (.tmp rfl) (.cons (.tmp rfl) .nil)) (Φ' := [fRp r s]) (M' := []) inferInstance (List.nil_sublist _) ⟨_, rfl, rfl, rfl⟩
  have hl := wrong_zero h
  rw [h] at hw
  by_cases hnl : n = s.length
  · have e1 : swapL s n = (s, 40) := by
      unfold swapL swapE
      rw [if_pos (c := _ ∧ _) ⟨h, hnl⟩]; rfl
    rw [e1]
    repeat (first | refine stp ?_ | (refine sti ?_; intro _) | refine stf ?_ | (refine stb ?_; intro _))
    refine o_callV rfl rfl rfl rfl (hw v) rfl ?_
    repeat (first | refine stp ?_ | (refine sti ?_; intro _) | refine stf ?_ | (refine stb ?_; intro _))
    refine o_callD rfl rfl rfl rfl (hcl v) ?_
    intro r
    repeat (first | refine stp ?_ | (refine sti ?_; intro _) | refine stf ?_ | (refine stb ?_; intro _))
    exact G.ret rfl (.cons (.tmp rfl) (.cons (.tmp rfl) .nil)) (Φ' := [fRp r s]) (M' := []) inferInstance (List.nil_sublist _) ⟨_, rfl, rfl, rfl⟩
  have i1 : s.length - 1 < s.length := by omega
  have i2 : s.length - 1 - n < s.length := by omega
  have e1 : swapL s n = ((s.set (s.length - 1) s[s.length - 1 - n]).set (s.length - 1 - n) s[s.length - 1], 0) := by
    unfold swapL swapE swapS
    rw [if_neg (c := _ ∧ _) (fun h' => hnl h'.2), h, if_pos rfl]
    simp only [List.getD, List.getElem?_eq_getElem i1, List.getElem?_eq_getElem i2, Option.getD_some]
  rw [e1]
  repeat (first | refine stp ?_ | (refine sti ?_; intro _) | refine stf ?_ | (refine stb ?_; intro _))
  refine o_callV rfl rfl rfl rfl (hw v) rfl ?_
  repeat (first | refine stp ?_ | (refine sti ?_; intro _) | refine stf ?_ | (refine stb ?_; intro _))
  refine o_callO rfl rfl rfl rfl (cloneW_spec v s (by omega)) ?_
  intro v' o ho
  cases o with
  | none => obtain ⟨_, h0⟩ := ho; omega
  | some q =>
    obtain ⟨b, cs⟩ := q
    obtain ⟨cap, rfl, hcs, hcap⟩ := ho
    dsimp only [List.cons_append, List.nil_append, ocells, ownM]
    repeat (first | refine stp ?_ | (refine sti ?_; intro _) | refine stf ?_ | (refine stb ?_; intro _))
    refine W.drawX 18 (fun D c => [(b, Ob (bif D 17 then cellsL (c 17) else cs) 49)]) [⟨?v0_1, fun _ z => []⟩, ⟨?v1_1, fun _ z => []⟩, ⟨?v2_1, fun _ z => []⟩, ⟨?v3_1, fun _ z => []⟩, ⟨?v4_1, fun _ z => []⟩, ⟨?v5_1, fun _ z => []⟩, ⟨?v6_1, fun _ z => []⟩, ⟨?v7_1, fun _ z => []⟩, ⟨?v8_1, fun _ z => []⟩, ⟨?v9_1, fun _ z => []⟩, ⟨?v10_1, fun _ z => []⟩, ⟨?v11_1, fun _ z => []⟩, ⟨?v12_1, fun _ z => []⟩, ⟨?v13_1, fun _ z => []⟩, ⟨?v14_1, fun _ z => []⟩, ⟨?v15_1, fun _ z => []⟩, ⟨?v16_1, fun _ z => []⟩, ⟨fun _ z => z, fun _ z => [fPure ((cellsL z).length = cs.length), fRow (cellsL z) (s.set (s.length - 1) s[s.length - 1 - n])]⟩] [[], [], [], [], [], [3, 4], [], [], [], [7, 8], [6, 9], [10], [], [], [12, 13], [14], [0, 1], [11, 16]] [17, 2, 5, 15] (by kernel_rfl) (by kernel_rfl) (by kernel_rfl) (by kernel_rfl) ?loc_1 ?hz_1 ?ops_1 ?rest_1
    case ops_1 =>
      simp only [AllX, Nat.reduceAdd, and_true]
      refine ⟨?_, ?_, ?_, ?_, ?_, ?_, ?_, ?_, ?_, ?_, ?_, ?_, ?_, ?_, ?_, ?_, ?_, ?_⟩
      all_goals (intro D c z0 Φr Lr K hDi hAnc hDn hK; dsimp only [dstOf, dstX, putX, kval, kfac, ancE, ancX, ancF, getD_z, getD_s, List.getElem?_cons_zero, List.getElem?_cons_succ, List.getElem?_nil, Option.getD_some, Option.getD_none, List.nil_append, List.cons_append, Option.getD] at hK ⊢)
      iterate 10 (refine stp ?_; exact hK z0)
      · refine o_idxO rfl rfl rfl rfl (by omega) (by omega) (o' := (s.length - 1 - n) * 4) (by omega) ?_; exact hK z0
      · have h17 : D 17 = false := dnF hDn hDi (by kernel_rfl); simp only [updD, h17, Nat.reduceEqDiff, ↓reduceIte, cond_false] at hK ⊢; refine o_loadO (α := Word) (xs := s) (s.length - 1 - n) i2 rfl rfl rfl rfl rfl ?_; exact hK z0
      · refine stp ?_; exact hK z0
      · refine stp ?_; exact hK z0
      · refine o_idxO rfl rfl rfl rfl (by omega) (by omega) (o' := (s.length - 1) * 4) (by omega) ?_; exact hK z0
      · have h17 : D 17 = false := dnF hDn hDi (by kernel_rfl); simp only [updD, h17, Nat.reduceEqDiff, ↓reduceIte, cond_false] at hK ⊢; refine o_loadO (α := Word) (xs := s) (s.length - 1) i1 rfl rfl rfl rfl rfl ?_; exact hK z0
      · refine o_idxO rfl rfl rfl rfl (by omega) (by omega) (o' := (s.length - 1) * 4) (by omega) ?_; exact hK z0
      · simp only [updD, updC, hDi, Nat.reduceEqDiff, ↓reduceIte, cond_false, cond_true] at hK ⊢; refine o_storeO (α := Word) s[s.length - 1 - n] (s.length - 1) i1 rfl rfl rfl ⟨fun _ _ => Rp.flat.2 rfl⟩ rfl ?_; intro cs1 hc1; refine G.learn (fPure ((cellsL (.agg cs1.toArray)).length = cs.length)) (e := ⟨fun _ _ => hc1⟩) ?_; exact hK (.agg cs1.toArray)
    case hz_1 => intro c; rfl
    case loc_1 =>
      simp only [AllL, Nat.reduceAdd, and_true]
      refine ⟨?_, ?_, ?_, ?_, ?_, ?_, ?_, ?_, ?_, ?_, ?_, ?_, ?_, ?_, ?_, ?_, ?_, ?_⟩
      all_goals (intro c c' z h; first | exact ⟨rfl, rfl⟩ | (skip))
    intro c
    dsimp only [dstOf, dstX, putX, kval, kfac, ancE, ancX,  ancF, getD_z, getD_s, List.getElem?_cons_zero, List.getElem?_cons_succ, List.getElem?_nil, Option.getD_some, Option.getD_none, List.nil_append, List.cons_append, List.drop_succ_cons, List.drop_zero, Option.getD]
    refine LW.bare (G.use (p := (cellsL (c 17)).length = cs.length) (fun I hp => hp (fPure _) (.head _)) ?_)
    intro hc17
    refine LW.back ?_
    show LW _ _ _ _ _ _ [(b, Ob (cellsL (c 17)) 49)]
    refine LW.cons ?_
    refine o_idxO rfl rfl rfl rfl (by omega) (by omega) (o' := (s.length - 1 - n) * 4) (by omega) ?_
    repeat (first | refine stp ?_ | (refine sti ?_; intro _) | refine stf ?_ | (refine stb ?_; intro _))
    refine o_storeO (α := Word) (xs := s.set (s.length - 1) s[s.length - 1 - n]) s[s.length - 1] (s.length - 1 - n) (by simp; omega) rfl rfl rfl ⟨fun _ _ => Rp.flat.2 rfl⟩ rfl ?_
    intro cs2 hc2
    repeat (first | refine stp ?_ | (refine sti ?_; intro _) | refine stf ?_ | (refine stb ?_; intro _))
    refine G.giveOwn2 (Mr := []) (.slice (some ⟨b, 0, none⟩) s.length cap) ((s.set (s.length - 1) s[s.length - 1 - n]).set (s.length - 1 - n) s[s.length - 1]) (some (b, cs2)) 49 ⟨cap, by simp, by rw [hc2, hc17]; exact hcs, by simpa using hcap⟩ (show Ent' _ (fRow cs2 _) from inferInstance) (List.Perm.refl _) ?_
    exact G.ret rfl (.cons (.tmp rfl) (.cons (.tmp rfl) .nil)) (Φ' := [fRp _ ((s.set (s.length - 1) s[s.length - 1 - n]).set (s.length - 1 - n) s[s.length - 1])]) (M' := []) inferInstance (List.nil_sublist _) ⟨_, rfl, rfl, rfl⟩
end Go.Rail
namespace Go.Rail
open Go Go.Proofs
set_option linter.unusedSimpArgs false
set_option linter.unusedVariables false
set_option maxHeartbeats 400000
set_option maxRecDepth 4000
attribute [local irreducible] OpK G W LW wpListIn Exit.then Exit.inBlock Post rounds opRun bodyPostM intOp
set_option maxHeartbeats 16000000
attribute [local irreducible] lexN cmpW Word.nat subW mulW addW divW modW sdivW smodW addmodW mulmodW expW andW orW xorW notW shlW shrW sarW byteW signW
/-- A word with its highest bit turned. -/
def flipW (a : Word) : Word := ⟨a.a, a.b, a.c, UInt64.ofNat (a.d.toNat ^^^ 9223372036854775808)⟩
theorem flipW_v (a : Word) : Value.agg [.int .u64 (a.a.toNat : Int), .int .u64 (a.b.toNat : Int), .int .u64 (a.c.toNat : Int), .int .u64 ((a.d.toNat ^^^ 9223372036854775808 : Nat) : Int)].toArray = (flipW a).v := by
  have h : a.d.toNat ^^^ 9223372036854775808 < 2 ^ 64 := xor_lt64 a.d.toNat_lt (by decide)
  simp only [Word.v, Word.cells, flipW, UInt64.toNat_ofNat', Nat.mod_eq_of_lt h]
def lessW (a b : Word) : Bool := decide (cmpW (flipW a) (flipW b) < 0)
theorem less_spec (a b : Word) : FnV Tryz.prog 153 [a.v, b.v] [] (.bool (lessW a b)) := by
  have hc := wcmp_spec (flipW a) (flipW b)
  refine Fn.enter Tryz.func153 rfl Tryz.ntmps153 (by simp) (fun I0 w0 => ?_)
  repeat (refine st ?_; try intro _)
  rw [flipW_v a, flipW_v b]
  refine o_callV rfl rfl rfl rfl hc rfl ?_
  repeat (refine st ?_; try intro _)
  refine G.retV ?_
  rfl
theorem cflag_spec (b : Bool) : FnV Tryz.prog 138 [.bool b] [] (flagW b).v := by
  cases b
  · refine Fn.enter Tryz.func138 rfl Tryz.ntmps138 (by simp) (fun I0 w0 => ?_)
    repeat (refine st ?_; try intro _)
    refine G.retV ?_
    rfl
  · refine Fn.enter Tryz.func138 rfl Tryz.ntmps138 (by simp) (fun I0 w0 => ?_)
    repeat (refine st ?_; try intro _)
    refine G.retV ?_
    rfl
instance (b : Bool) {Φ : List Fa} : CV Tryz.prog 138 [.bool b] Φ (flagW b).v := ⟨Fn.weaken (cflag_spec b)⟩
instance (a b : Word) {Φ : List Fa} : CV Tryz.prog 153 [a.v, b.v] Φ (.bool (lessW a b)) := ⟨Fn.weaken (less_spec a b)⟩
instance (a b : Word) {Φ : List Fa} : CV Tryz.prog 150 [a.v, b.v] Φ (.int .i64 (cmpW a b)) := ⟨Fn.weaken (wcmp_spec a b)⟩
theorem isz_spec (a : Word) : FnV Tryz.prog 137 [a.v] [] (flagW (decide (a = .zero))).v := by
  refine Fn.enter Tryz.func137 rfl Tryz.ntmps137 (by simp) (fun I0 w0 => ?_)
  repeat (refine st ?_; try intro _)
  refine G.retV ?_
  rfl
theorem lt_spec (a b : Word) : FnV Tryz.prog 149 [a.v, b.v] [] (flagW (decide (cmpW a b < 0))).v := by
  refine Fn.enter Tryz.func149 rfl Tryz.ntmps149 (by simp) (fun I0 w0 => ?_)
  repeat (refine st ?_; try intro _)
  refine G.retV ?_
  rfl
theorem gt_spec (a b : Word) : FnV Tryz.prog 151 [a.v, b.v] [] (flagW (decide (0 < cmpW a b))).v := by
  refine Fn.enter Tryz.func151 rfl Tryz.ntmps151 (by simp) (fun I0 w0 => ?_)
  repeat (refine st ?_; try intro _)
  refine G.retV ?_
  rfl
theorem slt_spec (a b : Word) : FnV Tryz.prog 152 [a.v, b.v] [] (flagW (lessW a b)).v := by
  refine Fn.enter Tryz.func152 rfl Tryz.ntmps152 (by simp) (fun I0 w0 => ?_)
  repeat (refine st ?_; try intro _)
  refine G.retV ?_
  rfl
theorem sgt_spec (a b : Word) : FnV Tryz.prog 154 [a.v, b.v] [] (flagW (lessW b a)).v := by
  refine Fn.enter Tryz.func154 rfl Tryz.ntmps154 (by simp) (fun I0 w0 => ?_)
  repeat (refine st ?_; try intro _)
  refine G.retV ?_
  rfl
theorem eqq_spec (a b : Word) : FnV Tryz.prog 155 [a.v, b.v] [] (flagW (decide (a = b))).v := by
  refine Fn.enter Tryz.func155 rfl Tryz.ntmps155 (by simp) (fun I0 w0 => ?_)
  repeat (refine st ?_; try intro _)
  refine G.retV ?_
  rfl
end Go.Rail
