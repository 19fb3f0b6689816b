/- How words, addresses and keys compare. -/
import Derived.Test.YtkocobiglipecaaDoorRailB
import Derived.Test.YtkocobiglipecaaDoorAFacts
import Derived.Test.YtkocobiglipecaaDoorRailH
import Derived.Test.YtkocobiglipecaaDoorRailI
namespace Go.Rail
open Go Go.Proofs
set_option linter.unusedSimpArgs false
theorem info_some {P : Program} {t : TypeId} (h : (P.info? t).isSome = true) : ∃ i, P.info? t = some i := Option.isSome_iff_exists.1 h

theorem eq_word (d : Nat) (x y : Word) (w : World) : (Op.equalIn (d + 2) 43 x.v y.v).run Tryd.prog w = .ok (decide (x = y)) w := by
  obtain ⟨i, hi⟩ := info_some (P := Tryd.prog) (t := 41) (by kernel_rfl)
  have h := run_equalIn_ints (P := Tryd.prog) (d := d) (k := .u64) Tryd.underlying43 Tryd.underlying41 hi (by kernel_rfl) Tryd.isAgg41 (x.parts.map fun u => (u.toNat : Int)) (y.parts.map fun u => (u.toNat : Int)) rfl rfl w
  have e : (x.parts.map fun u => (u.toNat : Int)) = (y.parts.map fun u => (u.toNat : Int)) ↔ x = y := by
    cases x; cases y
    simp only [Word.parts, List.map_cons, List.map_nil, List.cons.injEq, Int.natCast_inj, UInt64.toNat_inj, and_true, Word.mk.injEq]
  have e2 : decide ((x.parts.map fun u => (u.toNat : Int)) = (y.parts.map fun u => (u.toNat : Int))) = decide (x = y) := decide_eq_decide.2 e
  rw [← e2]; exact h
instance (x y : Word) : EqOn Tryd.prog 43 x.v y.v (decide (x = y)) where
  eq := fun w => by
    have h : (Op.equalIn 10000 43 x.v y.v).run Tryd.prog w = _ := eq_word 9998 x y w
    unfold Word.v at h ⊢
    rw [run_eql_struct, h]; simp only [Result.andThen_ok]
  ne := fun w => by
    have h : (Op.equalIn 10000 43 x.v y.v).run Tryd.prog w = _ := eq_word 9998 x y w
    unfold Word.v at h ⊢
    rw [run_neq_struct, h]; simp only [Result.andThen_ok]
  guard := fun op p q w => by simp only [Word.v]; exact run_eqGuard_agg _ _ _ _ _ _ _ (by kernel_rfl)

instance (a b : Bool) : EqOn Tryd.prog 4 (.bool a) (.bool b) (a == b) where
  eq := fun w => by
    have h : (Op.equalIn 10000 4 (.bool a) (.bool b)).run Tryd.prog w = .ok (a == b) w := run_equalIn_bool' w 9999 4 a b Tryd.underlying4
    have e : binOp .eql 4 (.bool a) (.bool b) = (do pure (Value.bool (← Op.equalIn 10000 4 (.bool a) (.bool b)))) := rfl
    rw [e, Sem.run_bind, h]; simp only [Result.andThen_ok, Sem.run_pure]
  ne := fun w => by
    have h : (Op.equalIn 10000 4 (.bool a) (.bool b)).run Tryd.prog w = .ok (a == b) w := run_equalIn_bool' w 9999 4 a b Tryd.underlying4
    have e : binOp .neq 4 (.bool a) (.bool b) = (do pure (Value.bool (!(← Op.equalIn 10000 4 (.bool a) (.bool b))))) := rfl
    rw [e, Sem.run_bind, h]; simp only [Result.andThen_ok, Sem.run_pure]
  guard := fun op p q w => run_eqGuard_bool w
end Go.Rail
namespace Go.Rail
open Go Go.Proofs
set_option linter.unusedSimpArgs false
set_option linter.unusedVariables false
set_option maxHeartbeats 400000
set_option maxRecDepth 4000
attribute [local irreducible] OpK G W LW wpListIn Exit.then Exit.inBlock Post rounds opRun bodyPostM intOp
set_option maxHeartbeats 4000000
instance ptB : PtTy Tryd.prog 54 56 := ⟨Tryd.underlying54⟩
instance ptU : PtTy Tryd.prog 83 5 := ⟨Tryd.underlying83⟩
instance unP : UnTy Tryd.prog 99 := ⟨Tryd.underlying99⟩
instance rmB : Rm Tryd.prog 56 := Rm.of (by kernel_rfl)
instance exNE : ExtF Tryd.prog 55 Extern.AbiNoEscape.same := ⟨fun args w => run_callFunc_extern Tryd.func55 (by kernel_rfl) (by kernel_rfl) (by kernel_rfl) (by kernel_rfl) args w⟩
/-- A builder: where it lies, what it has. -/
def bldM (B : Nat) (a : Option Addr) (v : Value) (xs : List UInt8) (o : BO) : Own := (B, Ob [.pointer a, v] 56) :: bufM 5 xs o
theorem copyCheck_spec (B : Nat) (a : Option Addr) (ha : a = none ∨ a = some ⟨B, 0, none⟩) (v : Value) : Fn Tryd.prog 40 [.pointer (some ⟨B, 0, none⟩)] [] [(B, Ob [.pointer a, v] 56)] (fun u Φ' M' => Φ' = [] ∧ M' = [(B, Ob [.pointer (some ⟨B, 0, none⟩), v] 56)]) := by
  rcases ha with rfl | rfl
  · refine Fn.enter Tryd.func40 rfl Tryd.ntmps40 (by simp) (fun I0 w0 => ?_)
    repeat (first | (refine sty ?_; try intro _) | (refine st ?_; try intro _) | (refine stz ?_; try intro _) | (refine stq ?_; try intro _))
    exact G.fin rfl .nil (Φ' := []) (M' := [(B, Ob [.pointer (some ⟨B, 0, none⟩), v] 56)]) inferInstance (List.Sublist.refl _) ⟨rfl, rfl⟩
  · refine Fn.enter Tryd.func40 rfl Tryd.ntmps40 (by simp) (fun I0 w0 => ?_)
    repeat (first | (refine sty ?_; try intro _) | (refine st ?_; try intro _) | (refine stz ?_; try intro _) | (refine stq ?_; try intro _))
    exact G.fin rfl .nil (Φ' := []) (M' := [(B, Ob [.pointer (some ⟨B, 0, none⟩), v] 56)]) inferInstance (List.Sublist.refl _) ⟨rfl, rfl⟩
/-- What a method that writes leaves. -/
def RBld (B : Nat) (r : Value) (xs : List UInt8) : Value → List Fa → Own → Prop := fun u Φ' M' => ∃ v' o', IsBuf v' xs o' ∧ u = r ∧ Φ' = [] ∧ M' = bldM B (some ⟨B, 0, none⟩) v' xs o'
theorem writeString_spec (B : Nat) (a : Option Addr) (ha : a = none ∨ a = some ⟨B, 0, none⟩) (v : Value) (xs ys : List UInt8) (o : BO) (hv : IsBuf v xs o) (hl : 2 * (xs.length + ys.length) + 200 ≤ 281474976710656) :
    Fn Tryd.prog 23 [.pointer (some ⟨B, 0, none⟩), .string (ba ys)] [] (bldM B a v xs o) (RBld B (.tuple #[.int .i64 (ys.length : Int), .nilIface]) (xs ++ ys)) := by
  have hc := copyCheck_spec B a ha v
  unfold bldM
  refine Fn.enter Tryd.func23 rfl Tryd.ntmps23 (by simp) (fun I0 w0 => ?_)
  repeat (first | (refine sty ?_; try intro _) | (refine st ?_; try intro _) | (refine stz ?_; try intro _) | (refine stq ?_; try intro _))
  refine OpK.call rfl rfl rfl rfl hc inferInstance (Mr := bufM 5 xs o) (List.Perm.refl _) ?_
  rintro u Φ' Mc' ⟨rfl, rfl⟩
  dsimp only [List.cons_append, List.nil_append]
  repeat (first | (refine sty ?_; try intro _) | (refine st ?_; try intro _) | (refine stz ?_; try intro _) | (refine stq ?_; try intro _))
  refine o_appB (Mr := [(B, Ob [.pointer (some ⟨B, 0, none⟩), v] 56)]) (xs := xs) (ys := ys) o hv hl rfl rfl rfl rfl (List.perm_append_singleton _ _).symm ?_
  intro v' o' hv'
  refine G.perm ?_ (List.perm_append_singleton _ _)
  repeat (first | (refine sty ?_; try intro _) | (refine st ?_; try intro _) | (refine stz ?_; try intro _) | (refine stq ?_; try intro _))
  refine o_store (vs := [v']) rfl rfl rfl (buf_cell hv').1 rfl (Nat.le_refl _) (buf_cell hv').2 rfl ?_
  repeat (first | (refine sty ?_; try intro _) | (refine st ?_; try intro _) | (refine stz ?_; try intro _) | (refine stq ?_; try intro _))
  exact G.ret rfl (.cons (.tmp rfl) (.cons (.tmp rfl) .nil)) (Φ' := []) (M' := (B, Ob [.pointer (some ⟨B, 0, none⟩), v'] 56) :: bufM 5 (xs ++ ys) o') inferInstance (List.Sublist.refl _) ⟨v', o', hv', rfl, rfl, rfl⟩
theorem writeByte_spec (B : Nat) (a : Option Addr) (ha : a = none ∨ a = some ⟨B, 0, none⟩) (v : Value) (xs : List UInt8) (c : UInt8) (o : BO) (hv : IsBuf v xs o) (hl : 2 * (xs.length + 1) + 200 ≤ 281474976710656) :
    Fn Tryd.prog 29 [.pointer (some ⟨B, 0, none⟩), .int .u8 (c.toNat : Int)] [] (bldM B a v xs o) (RBld B .nilIface (xs ++ [c])) := by
  have hc := copyCheck_spec B a ha v
  unfold bldM
  refine Fn.enter Tryd.func29 rfl Tryd.ntmps29 (by simp) (fun I0 w0 => ?_)
  repeat (first | (refine sty ?_; try intro _) | (refine st ?_; try intro _) | (refine stz ?_; try intro _) | (refine stq ?_; try intro _))
  refine OpK.call rfl rfl rfl rfl hc inferInstance (Mr := bufM 5 xs o) (List.Perm.refl _) ?_
  rintro u Φ' Mc' ⟨rfl, rfl⟩
  dsimp only [List.cons_append, List.nil_append]
  repeat (first | (refine sty ?_; try intro _) | (refine st ?_; try intro _) | (refine stz ?_; try intro _) | (refine stq ?_; try intro _))
  refine o_appB (Mr := [(B, Ob [.pointer (some ⟨B, 0, none⟩), v] 56)]) (xs := xs) (ys := [c]) o hv hl rfl rfl rfl rfl (List.perm_append_singleton _ _).symm ?_
  intro v' o' hv'
  refine G.perm ?_ (List.perm_append_singleton _ _)
  repeat (first | (refine sty ?_; try intro _) | (refine st ?_; try intro _) | (refine stz ?_; try intro _) | (refine stq ?_; try intro _))
  refine o_store (vs := [v']) rfl rfl rfl (buf_cell hv').1 rfl (Nat.le_refl _) (buf_cell hv').2 rfl ?_
  repeat (first | (refine sty ?_; try intro _) | (refine st ?_; try intro _) | (refine stz ?_; try intro _) | (refine stq ?_; try intro _))
  exact G.ret rfl (.cons (.tmp rfl) .nil) (Φ' := []) (M' := (B, Ob [.pointer (some ⟨B, 0, none⟩), v'] 56) :: bufM 5 (xs ++ [c]) o') inferInstance (List.Sublist.refl _) ⟨v', o', hv', rfl, rfl, rfl⟩
/-- The text, and the builder behind it: its bytes lie frozen. -/
theorem bString_spec (B : Nat) (a : Option Addr) (v : Value) (xs : List UInt8) (o : BO) (hv : IsBuf v xs o) (hl : xs.length ≤ 9223372036854775807) :
    Fn Tryd.prog 24 [.pointer (some ⟨B, 0, none⟩)] [] (bldM B a v xs o) (fun u Φ' M' => ∃ o', IsBuf v xs o' ∧ u = .string (ba xs) ∧ Φ' = [] ∧ M' = bldM B a v xs o') := by
  unfold bldM
  cases o with
  | none =>
    obtain ⟨rfl, rfl⟩ := hv
    unfold bufM
    refine Fn.enter Tryd.func24 rfl Tryd.ntmps24 (by simp) (fun I0 w0 => ?_)
    repeat (first | (refine sty ?_; try intro _) | (refine st ?_; try intro _) | (refine stz ?_; try intro _) | (refine stq ?_; try intro _))
    refine W.drawA 10 [dq _, dq _, dq _, dq _, dq _, dq _, dq _, dq _, dq _, dq _] [[], [0], [1], [2], [3], [], [5], [6], [7], [8]] [4, 9] (hrest := fun c => nrm ?_) (hops := by
      iterate 10 refine AllQ.aq ?_
      exact AllQ.nil)
    repeat (first | (refine sty ?_; try intro _) | (refine st ?_; try intro _) | (refine stz ?_; try intro _) | (refine stq ?_; try intro _))
    refine o_unsafeString0 rfl rfl rfl rfl ?_
    repeat (first | (refine sty ?_; try intro _) | (refine st ?_; try intro _) | (refine stz ?_; try intro _) | (refine stq ?_; try intro _))
    exact G.ret rfl (.cons (.tmp rfl) .nil) (Φ' := []) (M' := [(B, Ob [.pointer a, .slice none 0 0] 56)]) inferInstance (List.Sublist.refl _) ⟨none, ⟨rfl, rfl⟩, rfl, rfl, rfl⟩
  | some q =>
    obtain ⟨b, ex, k⟩ := q
    obtain ⟨rfl, hk1, hk2⟩ := hv
    unfold bufM
    refine Fn.enter Tryd.func24 rfl Tryd.ntmps24 (by simp) (fun I0 w0 => ?_)
    repeat (first | (refine sty ?_; try intro _) | (refine st ?_; try intro _) | (refine stz ?_; try intro _) | (refine stq ?_; try intro _))
    refine W.drawA 10 [dq _, dq _, dq _, dq _, dq _, dq _, dq _, dq _, dq _, dq _] [[], [0], [1], [2], [3], [], [5], [6], [7], [8]] [4, 9] (hrest := fun c => nrm ?_) (hops := by
      iterate 10 refine AllQ.aq ?_
      exact AllQ.nil)
    repeat (first | (refine sty ?_; try intro _) | (refine st ?_; try intro _) | (refine stz ?_; try intro _) | (refine stq ?_; try intro _))
    refine o_unsafeString (by kernel_rfl) hk1 hl rfl rfl rfl rfl ?_
    repeat (first | (refine sty ?_; try intro _) | (refine st ?_; try intro _) | (refine stz ?_; try intro _) | (refine stq ?_; try intro _))
    exact G.ret rfl (.cons (.tmp rfl) .nil) (Φ' := []) (M' := [(B, Ob [.pointer a, .slice (some ⟨b, 0, none⟩) xs.length (xs.length + ex.length)] 56), (b, bufO 5 xs ex xs.length)]) inferInstance (List.Sublist.refl _) ⟨some (b, ex, xs.length), ⟨rfl, Nat.le_refl _, hk2⟩, rfl, rfl, rfl⟩
end Go.Rail
namespace Go.Rail
open Go Go.Proofs
set_option linter.unusedSimpArgs false
set_option linter.unusedVariables false
set_option maxHeartbeats 400000
set_option maxRecDepth 4000
attribute [local irreducible] OpK G W LW wpListIn Exit.then Exit.inBlock Post rounds opRun bodyPostM intOp
set_option maxHeartbeats 4000000
instance exIB : ExtF Tryd.prog 75 Extern.BytealgIndexByte.indexByte := ⟨fun args w => run_callFunc_extern Tryd.func75 (by kernel_rfl) (by kernel_rfl) (by kernel_rfl) (by kernel_rfl) args w⟩
instance exCS : ExtF Tryd.prog 65 Extern.BytealgCount.count := ⟨fun args w => run_callFunc_extern Tryd.func65 (by kernel_rfl) (by kernel_rfl) (by kernel_rfl) (by kernel_rfl) args w⟩
theorem slIndexByte_spec (l : List UInt8) (c : UInt8) : FnV Tryd.prog 68 [.string (ba l), .int .u8 (c.toNat : Int)] [] (.int .i64 (Lib.indexByte l c)) := by
  refine Fn.enter Tryd.func68 rfl Tryd.ntmps68 (by simp) (fun I0 w0 => ?_)
  repeat (first | (refine sty ?_; try intro _) | (refine st ?_; try intro _) | (refine stz ?_; try intro _) | (refine stq ?_; try intro _))
  refine o_idxByteT rfl rfl rfl rfl rfl ?_
  repeat (first | (refine sty ?_; try intro _) | (refine st ?_; try intro _) | (refine stz ?_; try intro _) | (refine stq ?_; try intro _))
  refine G.retV ?_
  rfl
theorem sIndexByte_spec (l : List UInt8) (c : UInt8) : FnV Tryd.prog 54 [.string (ba l), .int .u8 (c.toNat : Int)] [] (.int .i64 (Lib.indexByte l c)) := by
  have h := slIndexByte_spec l c
  refine Fn.enter Tryd.func54 rfl Tryd.ntmps54 (by simp) (fun I0 w0 => ?_)
  repeat (first | (refine sty ?_; try intro _) | (refine st ?_; try intro _) | (refine stz ?_; try intro _) | (refine stq ?_; try intro _))
  refine o_callV rfl rfl rfl rfl h rfl ?_
  repeat (first | (refine sty ?_; try intro _) | (refine st ?_; try intro _) | (refine stz ?_; try intro _) | (refine stq ?_; try intro _))
  refine G.retV ?_
  rfl
theorem indexByte_one (c b : UInt8) : Lib.indexByte [b] c = if b = c then 0 else -1 := by
  unfold Lib.indexByte
  by_cases h : b = c
  · subst h; simp
  · have h1 : (b == c) = false := by simpa using h
    rw [h1, if_neg h]; rfl
theorem slIndex_spec (l : List UInt8) (c : UInt8) : FnV Tryd.prog 66 [.string (ba l), .string (ba [c])] [] (.int .i64 (Lib.indexByte l c)) := by
  have h := slIndexByte_spec l c
  refine Fn.enter Tryd.func66 rfl Tryd.ntmps66 (by simp) (fun I0 w0 => ?_)
  by_cases hl : [c] = l
  · have e : Lib.indexByte l c = 0 := by rw [← hl, indexByte_one, if_pos rfl]
    rw [e]
    repeat (first | (refine sty ?_; try intro _) | (refine st ?_; try intro _) | (refine stz ?_; try intro _) | (refine stq ?_; try intro _))
    refine G.retV ?_
    rfl
  · repeat (first | (refine sty ?_; try intro _) | (refine st ?_; try intro _) | (refine stz ?_; try intro _) | (refine stq ?_; try intro _))
    refine o_ixT 0 rfl rfl rfl rfl rfl (Nat.zero_lt_succ _) ?_
    repeat (first | (refine sty ?_; try intro _) | (refine st ?_; try intro _) | (refine stz ?_; try intro _) | (refine stq ?_; try intro _))
    refine o_callV rfl rfl rfl rfl h rfl ?_
    repeat (first | (refine sty ?_; try intro _) | (refine st ?_; try intro _) | (refine stz ?_; try intro _) | (refine stq ?_; try intro _))
    refine G.retV ?_
    rfl
theorem sIndex_spec (l : List UInt8) (c : UInt8) : FnV Tryd.prog 51 [.string (ba l), .string (ba [c])] [] (.int .i64 (Lib.indexByte l c)) := by
  have h := slIndex_spec l c
  refine Fn.enter Tryd.func51 rfl Tryd.ntmps51 (by simp) (fun I0 w0 => ?_)
  repeat (first | (refine sty ?_; try intro _) | (refine st ?_; try intro _) | (refine stz ?_; try intro _) | (refine stq ?_; try intro _))
  refine o_callV rfl rfl rfl rfl h rfl ?_
  repeat (first | (refine sty ?_; try intro _) | (refine st ?_; try intro _) | (refine stz ?_; try intro _) | (refine stq ?_; try intro _))
  refine G.retV ?_
  rfl
theorem sCount_spec (l : List UInt8) (c : UInt8) : FnV Tryd.prog 50 [.string (ba l), .string (ba [c])] [] (.int .i64 ((l.count c : Nat) : Int)) := by
  refine Fn.enter Tryd.func50 rfl Tryd.ntmps50 (by simp) (fun I0 w0 => ?_)
  repeat (first | (refine sty ?_; try intro _) | (refine st ?_; try intro _) | (refine stz ?_; try intro _) | (refine stq ?_; try intro _))
  refine o_ixT 0 rfl rfl rfl rfl rfl (Nat.zero_lt_succ _) ?_
  repeat (first | (refine sty ?_; try intro _) | (refine st ?_; try intro _) | (refine stz ?_; try intro _) | (refine stq ?_; try intro _))
  refine o_countT rfl rfl rfl rfl rfl ?_
  repeat (first | (refine sty ?_; try intro _) | (refine st ?_; try intro _) | (refine stz ?_; try intro _) | (refine stq ?_; try intro _))
  refine G.retV ?_
  rfl
/-- A text, cut at a byte. -/
def cutB (l : List UInt8) (c : UInt8) : List UInt8 × List UInt8 × Bool := if idxB l c < l.length then (l.take (idxB l c), l.drop (idxB l c + 1), true) else (l, [], false)
def cutV (p : List UInt8 × List UInt8 × Bool) : Value := .tuple #[.string (ba p.1), .string (ba p.2.1), .bool p.2.2]
theorem slCut_spec (l : List UInt8) (c : UInt8) (hl : l.length ≤ 4611686018427387904) : FnV Tryd.prog 52 [.string (ba l), .string (ba [c])] [] (cutV (cutB l c)) := by
  have h := slIndex_spec l c
  rw [indexByte_eq] at h
  unfold cutV cutB
  refine Fn.enter Tryd.func52 rfl Tryd.ntmps52 (by simp) (fun I0 w0 => ?_)
  by_cases hi : idxB l c < l.length
  · rw [if_pos hi] at h ⊢
    repeat (first | (refine sty ?_; try intro _) | (refine st ?_; try intro _) | (refine stz ?_; try intro _) | (refine stq ?_; try intro _))
    refine o_callV rfl rfl rfl rfl h rfl ?_
    repeat (first | (refine sty ?_; try intro _) | (refine st ?_; try intro _) | (refine stz ?_; try intro _) | (refine stq ?_; try intro _))
    refine W.drawA 10 [dq _, dq _, dq _, dq _, dq _, dq _, dq _, dq _, dq _, dq _] [[], [], [0,1], [], [], [], [5], [4,6], [3,7], [2]] [8, 9] (hrest := fun c => nrm ?_) (hops := by
      iterate 7 refine AllQ.aq ?_
      refine AllQ.mk (by intro c z0 Φr Lr K; refine nrm ?_; intro hK; refine o_int rfl rfl rfl rfl (n_addi (by simp; omega)) ?_; exact hK z0) ?_
      iterate 2 refine AllQ.aq ?_
      exact AllQ.nil)
    repeat (first | (refine sty ?_; try intro _) | (refine st ?_; try intro _) | (refine stz ?_; try intro _) | (refine stq ?_; try intro _))
    refine G.retV ?_
    simp [tup]
  · rw [if_neg hi] at h ⊢
    repeat (first | (refine sty ?_; try intro _) | (refine st ?_; try intro _) | (refine stz ?_; try intro _) | (refine stq ?_; try intro _))
    refine o_callV rfl rfl rfl rfl h rfl ?_
    repeat (first | (refine sty ?_; try intro _) | (refine st ?_; try intro _) | (refine stz ?_; try intro _) | (refine stq ?_; try intro _))
    refine G.retV ?_
    rfl
theorem sCut_spec (l : List UInt8) (c : UInt8) (hl : l.length ≤ 4611686018427387904) : FnV Tryd.prog 38 [.string (ba l), .string (ba [c])] [] (cutV (cutB l c)) := by
  have h := slCut_spec l c hl
  unfold cutV at h ⊢
  refine Fn.enter Tryd.func38 rfl Tryd.ntmps38 (by simp) (fun I0 w0 => ?_)
  repeat (first | (refine sty ?_; try intro _) | (refine st ?_; try intro _) | (refine stz ?_; try intro _) | (refine stq ?_; try intro _))
  refine o_callV rfl rfl rfl rfl h rfl ?_
  repeat (first | (refine sty ?_; try intro _) | (refine st ?_; try intro _) | (refine stz ?_; try intro _) | (refine stq ?_; try intro _))
  refine G.retV ?_
  rfl
theorem slHasPrefix_spec (l p : List UInt8) (hl : l.length ≤ 4611686018427387904) : FnV Tryd.prog 61 [.string (ba l), .string (ba p)] [] (.bool (p.isPrefixOf l)) := by
  have hp : p.isPrefixOf l = decide (p.length ≤ l.length ∧ l.take p.length = p) := by
    rw [Bool.eq_iff_iff, List.isPrefixOf_iff_prefix, List.prefix_iff_eq_take]
    simp only [decide_eq_true_eq]
    constructor
    · intro h
      refine ⟨?_, h.symm⟩
      rw [h, List.length_take]; omega
    · intro h; exact h.2.symm
  rw [hp]
  refine Fn.enter Tryd.func61 rfl Tryd.ntmps61 (by simp) (fun I0 w0 => ?_)
  by_cases h1 : p.length ≤ l.length
  · repeat (first | (refine sty ?_; try intro _) | (refine st ?_; try intro _) | (refine stz ?_; try intro _) | (refine stq ?_; try intro _))
    refine G.retV ?_
    refine congrArg Value.bool (decide_eq_decide.2 ?_)
    simp [h1]
  · rw [decide_eq_false (fun h => h1 h.1)]
    repeat (first | (refine sty ?_; try intro _) | (refine st ?_; try intro _) | (refine stz ?_; try intro _) | (refine stq ?_; try intro _))
    refine G.retV ?_
    rfl
theorem slCutPrefix_spec (l p : List UInt8) (hl : l.length ≤ 4611686018427387904) : FnV Tryd.prog 67 [.string (ba l), .string (ba p)] [] (.tuple #[.string (ba (if p.isPrefixOf l then l.drop p.length else l)), .bool (p.isPrefixOf l)]) := by
  have h := slHasPrefix_spec l p hl
  have hp : p.isPrefixOf l = true → p.length ≤ l.length := fun h => by
    rw [List.isPrefixOf_iff_prefix] at h; exact h.length_le
  refine Fn.enter Tryd.func67 rfl Tryd.ntmps67 (by simp) (fun I0 w0 => ?_)
  cases hb : p.isPrefixOf l
  · rw [hb] at h
    repeat (first | (refine sty ?_; try intro _) | (refine st ?_; try intro _) | (refine stz ?_; try intro _) | (refine stq ?_; try intro _))
    refine o_callV rfl rfl rfl rfl h rfl ?_
    repeat (first | (refine sty ?_; try intro _) | (refine st ?_; try intro _) | (refine stz ?_; try intro _) | (refine stq ?_; try intro _))
    refine G.retV ?_
    rfl
  · have hp := hp hb
    rw [hb] at h
    repeat (first | (refine sty ?_; try intro _) | (refine st ?_; try intro _) | (refine stz ?_; try intro _) | (refine stq ?_; try intro _))
    refine o_callV rfl rfl rfl rfl h rfl ?_
    repeat (first | (refine sty ?_; try intro _) | (refine st ?_; try intro _) | (refine stz ?_; try intro _) | (refine stq ?_; try intro _))
    refine G.retV ?_
    simp [tup]
theorem sCutPrefix_spec (l p : List UInt8) (hl : l.length ≤ 4611686018427387904) : FnV Tryd.prog 53 [.string (ba l), .string (ba p)] [] (.tuple #[.string (ba (if p.isPrefixOf l then l.drop p.length else l)), .bool (p.isPrefixOf l)]) := by
  have h := slCutPrefix_spec l p hl
  refine Fn.enter Tryd.func53 rfl Tryd.ntmps53 (by simp) (fun I0 w0 => ?_)
  repeat (first | (refine sty ?_; try intro _) | (refine st ?_; try intro _) | (refine stz ?_; try intro _) | (refine stq ?_; try intro _))
  refine o_callV rfl rfl rfl rfl h rfl ?_
  repeat (first | (refine sty ?_; try intro _) | (refine st ?_; try intro _) | (refine stz ?_; try intro _) | (refine stq ?_; try intro _))
  refine G.retV ?_
  rfl
end Go.Rail
