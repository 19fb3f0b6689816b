/- opcode.line: one line read. -/
import Derived.Test.YtkocobiglipecaaDoorAB9BC
import Derived.Test.YtkocobiglipecaaDoorAEqB2
import Derived.Lib.Mul64
import Derived.Laws.Bits64b
namespace Go.Rail
open Go Go.Proofs
set_option linter.unusedSimpArgs false
set_option linter.unusedVariables false
set_option maxHeartbeats 400000
set_option maxRecDepth 4000
attribute [local irreducible] OpK G W LW wpListIn Exit.then Exit.inBlock Post rounds opRun bodyPostM intOp
set_option maxHeartbeats 4000000
/-- The number that bears a name. -/
def numN (k : List UInt8) : Option Nat := (List.range 256).find? fun i => decide (k = nameL (UInt8.ofNat i))
theorem getT_find (r : List Nat) (k : List UInt8) : getT (r.map fun (i : Nat) => (nameL (UInt8.ofNat i), Value.int .i64 (i : Int))) k = (r.find? fun i => decide (k = nameL (UInt8.ofNat i))).map fun (i : Nat) => Value.int .i64 (i : Int) := by
  induction r with
  | nil => rfl
  | cons a r ih =>
    rw [List.map_cons, getT, List.find?_cons, ih]
    by_cases h : k = nameL (UInt8.ofNat a)
    · rw [if_pos h, decide_eq_true h]; rfl
    · rw [if_neg h, decide_eq_false h]
theorem getT_num (k : List UInt8) : getT (namesL 256) k = (numN k).map fun (i : Nat) => Value.int .i64 (i : Int) := getT_find _ _
theorem numN_lt (k : List UInt8) (n : Nat) (h : numN k = some n) : n < 256 := List.mem_range.1 (List.mem_of_find?_eq_some h)
def lineR (l : List UInt8) (last : Bool) : List UInt8 × Int :=
  match numN (cutB l 32).1 with
  | none => ([], 42)
  | some n =>
    if behN n = 0 then (if (cutB l 32).2.2 then ([], 3) else ([UInt8.ofNat n], 0))
    else match unhL (cutB l 32).2.1 with
      | none => ([], 3)
      | some r => if behN n < r.length ∨ (r.length < behN n ∧ last = false) then ([], 3) else ([UInt8.ofNat n] ++ r, 0)
def RLine (b : Nat) (p : List UInt8 × Int) : Value → List Fa → Own → Prop := fun u Φ' M' => u = .tuple #[.string (ba p.1), .int .i64 p.2] ∧ Φ' = [] ∧ M' = [(b, MapT (namesL 256))]
theorem line_spec (b : Nat) (l : List UInt8) (last : Bool) (hl : l.length ≤ 1000000) : Fn Tryd.prog 22 [.string (ba l), .map (some b), .bool last] [] [(b, MapT (namesL 256))] (RLine b (lineR l last)) := by
  have hc := sCut_spec l 32 (by omega)
  have hl2 : (cutB l 32).2.1.length ≤ l.length := by unfold cutB; split <;> simp
  unfold lineR
  unfold cutV at hc
  obtain ⟨⟨k, r, o⟩, hk⟩ : ∃ p, p = cutB l 32 := ⟨_, rfl⟩
  rw [← hk] at hc hl2 ⊢
  dsimp only at hc hl2 ⊢
  have hg := getT_num k
  refine Fn.enter Tryd.func22 rfl Tryd.ntmps22 (by simp) (fun I0 w0 => ?_)
  repeat (first | (refine sty ?_; try intro _) | (refine st ?_; try intro _) | (refine stz ?_; try intro _) | (refine stq ?_; try intro _))
  refine o_callV rfl rfl rfl rfl hc rfl ?_
  repeat (first | (refine sty ?_; try intro _) | (refine st ?_; try intro _) | (refine stz ?_; try intro _) | (refine stq ?_; try intro _))
  cases hn : numN k with
  | none =>
    rw [hn] at hg
    refine o_lookT (l := namesL 256) rfl rfl rfl rfl (by simp) (by rw [hg]) (by rw [hg]) ?_
    repeat (first | (refine sty ?_; try intro _) | (refine st ?_; try intro _) | (refine stz ?_; try intro _) | (refine stq ?_; try intro _))
    exact G.ret rfl (.cons (.tmp rfl) (.cons (.tmp rfl) .nil)) (Φ' := []) (M' := [(b, MapT (namesL 256))]) inferInstance (List.Sublist.refl _) ⟨rfl, rfl, rfl⟩
  | some n =>
    rw [hn] at hg
    have hn256 := numN_lt k n hn
    have hbh := behind_spec n hn256
    refine o_lookT (l := namesL 256) (is := true) (v := .int .i64 (n : Int)) rfl rfl rfl rfl (by simp) (by rw [hg]; rfl) (by rw [hg]; rfl) ?_
    repeat (first | (refine sty ?_; try intro _) | (refine st ?_; try intro _) | (refine stz ?_; try intro _) | (refine stq ?_; try intro _))
    have e8 : (UInt8.ofNat n).toNat = n := by rw [UInt8.toNat_ofNat']; omega
    generalize UInt8.ofNat n = ch at e8 ⊢
    subst e8
    refine W.drawA 7 [dq _, dq _, dk fun _ z => fRp z [ch], dq _, dq _, dq _, dq _] [[], [0], [1], [2], [], [4], [5]] [3, 6] (hrest := fun c => nrm ?_) (hops := by
      iterate 2 refine AllQ.aq ?_
      refine AllQ.mk (by intro c z0 Φr Lr K; refine nrm ?_; intro hK; (first | refine sty ?_ | refine st ?_ | refine stz ?_ | refine stq ?_); intro p; exact hK p) ?_
      iterate 3 refine AllQ.aq ?_
      refine AllQ.mk (by intro c z0 Φr Lr K; refine nrm ?_; intro hK; refine o_callV rfl rfl rfl rfl hbh rfl ?_; exact hK z0) ?_
      exact AllQ.nil)
    have hx := unhex_spec r (by omega)
    by_cases h0 : behN ch.toNat = 0
    · rw [if_pos h0]
      cases o with
      | true =>
        repeat (first | (refine sty ?_; try intro _) | (refine st ?_; try intro _) | (refine stz ?_; try intro _) | (refine stq ?_; try intro _))
        exact G.ret rfl (.cons (.tmp rfl) (.cons (.tmp rfl) .nil)) (Φ' := []) (M' := [(b, MapT (namesL 256))]) inferInstance (List.Sublist.refl _) ⟨rfl, rfl, rfl⟩
      | false =>
        repeat (first | (refine sty ?_; try intro _) | (refine st ?_; try intro _) | (refine stz ?_; try intro _) | (refine stq ?_; try intro _))
        exact G.ret rfl (.cons (.tmp rfl) (.cons (.tmp rfl) .nil)) (Φ' := []) (M' := [(b, MapT (namesL 256))]) inferInstance (List.Sublist.refl _) ⟨by rw [UInt8.ofNat_toNat]; rfl, rfl, rfl⟩
    · rw [if_neg h0]
      have hb32 := behN_le ch.toNat
      generalize behN ch.toNat = m at h0 hb32 ⊢
      repeat (first | (refine sty ?_; try intro _) | (refine st ?_; try intro _) | (refine stz ?_; try intro _) | (refine stq ?_; try intro _))
      unfold unV at hx
      cases hu : unhL r with
      | none =>
        rw [hu] at hx
        refine o_callV rfl rfl rfl rfl hx rfl ?_
        repeat (first | (refine sty ?_; try intro _) | (refine st ?_; try intro _) | (refine stz ?_; try intro _) | (refine stq ?_; try intro _))
        exact G.ret rfl (.cons (.tmp rfl) (.cons (.tmp rfl) .nil)) (Φ' := []) (M' := [(b, MapT (namesL 256))]) inferInstance (List.Sublist.refl _) ⟨rfl, rfl, rfl⟩
      | some t =>
        rw [hu] at hx
        dsimp only [Option.getD_some, Option.isSome_some] at hx
        dsimp only
        by_cases h1 : m < t.length
        · rw [if_pos (Or.inl h1)]
          refine o_callV rfl rfl rfl rfl hx rfl ?_
          repeat (first | (refine sty ?_; try intro _) | (refine st ?_; try intro _) | (refine stz ?_; try intro _) | (refine stq ?_; try intro _))
          exact G.ret rfl (.cons (.tmp rfl) (.cons (.tmp rfl) .nil)) (Φ' := []) (M' := [(b, MapT (namesL 256))]) inferInstance (List.Sublist.refl _) ⟨rfl, rfl, rfl⟩
        · by_cases h2 : t.length < m
          · cases last with
            | false =>
              rw [if_pos (Or.inr ⟨h2, rfl⟩)]
              refine o_callV rfl rfl rfl rfl hx rfl ?_
              repeat (first | (refine sty ?_; try intro _) | (refine st ?_; try intro _) | (refine stz ?_; try intro _) | (refine stq ?_; try intro _))
              exact G.ret rfl (.cons (.tmp rfl) (.cons (.tmp rfl) .nil)) (Φ' := []) (M' := [(b, MapT (namesL 256))]) inferInstance (List.Sublist.refl _) ⟨rfl, rfl, rfl⟩
            | true =>
              rw [if_neg (by simp; omega)]
              refine o_callV rfl rfl rfl rfl hx rfl ?_
              repeat (first | (refine sty ?_; try intro _) | (refine st ?_; try intro _) | (refine stz ?_; try intro _) | (refine stq ?_; try intro _))
              exact G.ret rfl (.cons (.tmp rfl) (.cons (.tmp rfl) .nil)) (Φ' := []) (M' := [(b, MapT (namesL 256))]) inferInstance (List.Sublist.refl _) ⟨by rw [UInt8.ofNat_toNat]; rfl, rfl, rfl⟩
          · rw [if_neg (by omega)]
            refine o_callV rfl rfl rfl rfl hx rfl ?_
            repeat (first | (refine sty ?_; try intro _) | (refine st ?_; try intro _) | (refine stz ?_; try intro _) | (refine stq ?_; try intro _))
            exact G.ret rfl (.cons (.tmp rfl) (.cons (.tmp rfl) .nil)) (Φ' := []) (M' := [(b, MapT (namesL 256))]) inferInstance (List.Sublist.refl _) ⟨by rw [UInt8.ofNat_toNat]; rfl, rfl, rfl⟩
end Go.Rail
namespace Go.Rail
open Go Go.Proofs
set_option linter.unusedSimpArgs false
set_option linter.unusedVariables false
set_option maxHeartbeats 400000
set_option maxRecDepth 4000
attribute [local irreducible] OpK G W LW wpListIn Exit.then Exit.inBlock Post rounds opRun bodyPostM intOp
theorem u_mask (a : Nat) (ha : a < 18446744073709551616) : intOp .and .u64 (a : Int) 4294967295 = some (.int .u64 ((a % 4294967296 : Nat) : Int)) := by
  have h := bits_and_u64_nat a 4294967295 ha (by omega)
  have e : a &&& 4294967295 = a % 4294967296 := Nat.and_two_pow_sub_one_eq_mod a 32
  rw [e] at h
  unfold intOp
  exact congrArg (fun v => some (Value.int .u64 v)) h
theorem u_mul (a b : Nat) (h : a * b < 18446744073709551616) : intOp .mul .u64 (a : Int) (b : Int) = some (.int .u64 ((a * b : Nat) : Int)) := by
  unfold intOp
  refine congrArg (fun v => some (Value.int .u64 v)) ?_
  rw [← Int.natCast_mul, IntKind.wrap_u64]
  omega
theorem u_mulw (a b : Nat) : intOp .mul .u64 (a : Int) (b : Int) = some (.int .u64 ((a * b % 18446744073709551616 : Nat) : Int)) := by
  unfold intOp
  refine congrArg (fun v => some (Value.int .u64 v)) ?_
  rw [← Int.natCast_mul, IntKind.wrap_u64]
  omega
theorem u_add (a b : Nat) (h : a + b < 18446744073709551616) : intOp .add .u64 (a : Int) (b : Int) = some (.int .u64 ((a + b : Nat) : Int)) := by
  unfold intOp
  refine congrArg (fun v => some (Value.int .u64 v)) ?_
  rw [← Int.natCast_add, IntKind.wrap_u64]
  omega
theorem u_half (a : Nat) : Value.int .u64 ((a : Int).fdiv (2 ^ (min (32 : Int).toNat IntKind.u64.bits))) = .int .u64 ((a / 4294967296 : Nat) : Int) := by
  refine congrArg (Value.int .u64) ?_
  have e : (2 : Int) ^ (min (32 : Int).toNat IntKind.u64.bits) = 4294967296 := by decide
  rw [e, Int.fdiv_eq_ediv_of_nonneg _ (by omega)]
  omega
theorem mul64_spec (x y : Nat) (hx : x < 18446744073709551616) (hy : y < 18446744073709551616) : FnV Tryd.prog 60 [.int .u64 x, .int .u64 y] [] (.tuple #[.int .u64 ((x * y / 18446744073709551616 : Nat) : Int), .int .u64 ((x * y % 18446744073709551616 : Nat) : Int)]) := by
  obtain ⟨bd, bt, bw, hhi⟩ := Lib.mul64_hi x y hx hy
  have ba := Lib.half_mul_le (a := x / 4294967296) (b := y / 4294967296) (by omega) (by omega)
  have bb := Lib.half_mul_le (a := x / 4294967296) (b := y % 4294967296) (by omega) (by omega)
  have bc := Lib.half_mul_le (a := x % 4294967296) (b := y / 4294967296) (by omega) (by omega)
  refine Fn.enter Tryd.func60 rfl Tryd.ntmps60 (by simp) (fun I0 w0 => ?_)
  repeat (first | refine stp ?_ | (refine sti ?_; intro _) | refine stf ?_ | (refine stb ?_; intro _))
  refine o_int rfl rfl rfl rfl (u_mask x hx) ?_
  repeat (first | refine stp ?_ | (refine sti ?_; intro _) | refine stf ?_ | (refine stb ?_; intro _))
  refine o_shr rfl rfl rfl rfl (by decide) (u_half x) ?_
  repeat (first | refine stp ?_ | (refine sti ?_; intro _) | refine stf ?_ | (refine stb ?_; intro _))
  refine o_int rfl rfl rfl rfl (u_mask y hy) ?_
  repeat (first | refine stp ?_ | (refine sti ?_; intro _) | refine stf ?_ | (refine stb ?_; intro _))
  refine o_shr rfl rfl rfl rfl (by decide) (u_half y) ?_
  repeat (first | refine stp ?_ | (refine sti ?_; intro _) | refine stf ?_ | (refine stb ?_; intro _))
  refine o_int rfl rfl rfl rfl (u_mul _ _ (by omega)) ?_
  repeat (first | refine stp ?_ | (refine sti ?_; intro _) | refine stf ?_ | (refine stb ?_; intro _))
  refine o_int rfl rfl rfl rfl (u_mul _ _ (by omega)) ?_
  repeat (first | refine stp ?_ | (refine sti ?_; intro _) | refine stf ?_ | (refine stb ?_; intro _))
  refine o_shr rfl rfl rfl rfl (by decide) (u_half _) ?_
  repeat (first | refine stp ?_ | (refine sti ?_; intro _) | refine stf ?_ | (refine stb ?_; intro _))
  refine o_int rfl rfl rfl rfl (u_add _ _ (by omega)) ?_
  repeat (first | refine stp ?_ | (refine sti ?_; intro _) | refine stf ?_ | (refine stb ?_; intro _))
  refine o_int rfl rfl rfl rfl (u_mask _ (by omega)) ?_
  repeat (first | refine stp ?_ | (refine sti ?_; intro _) | refine stf ?_ | (refine stb ?_; intro _))
  refine o_shr rfl rfl rfl rfl (by decide) (u_half _) ?_
  repeat (first | refine stp ?_ | (refine sti ?_; intro _) | refine stf ?_ | (refine stb ?_; intro _))
  refine o_int rfl rfl rfl rfl (u_mul _ _ (by omega)) ?_
  repeat (first | refine stp ?_ | (refine sti ?_; intro _) | refine stf ?_ | (refine stb ?_; intro _))
  refine o_int rfl rfl rfl rfl (u_add _ _ (by omega)) ?_
  repeat (first | refine stp ?_ | (refine sti ?_; intro _) | refine stf ?_ | (refine stb ?_; intro _))
  refine o_int rfl rfl rfl rfl (u_mul _ _ (by omega)) ?_
  repeat (first | refine stp ?_ | (refine sti ?_; intro _) | refine stf ?_ | (refine stb ?_; intro _))
  refine o_int rfl rfl rfl rfl (u_add _ _ (by omega)) ?_
  repeat (first | refine stp ?_ | (refine sti ?_; intro _) | refine stf ?_ | (refine stb ?_; intro _))
  refine o_shr rfl rfl rfl rfl (by decide) (u_half _) ?_
  repeat (first | refine stp ?_ | (refine sti ?_; intro _) | refine stf ?_ | (refine stb ?_; intro _))
  refine o_int rfl rfl rfl rfl (u_add _ _ (by omega)) ?_
  repeat (first | refine stp ?_ | (refine sti ?_; intro _) | refine stf ?_ | (refine stb ?_; intro _))
  refine o_int rfl rfl rfl rfl (u_mulw x y) ?_
  repeat (first | refine stp ?_ | (refine sti ?_; intro _) | refine stf ?_ | (refine stb ?_; intro _))
  refine G.ret rfl (.cons (.tmp rfl) (.cons (.tmp rfl) .nil)) (Φ' := []) (M' := []) inferInstance (List.nil_sublist _) ⟨?_, rfl, rfl⟩
  rw [hhi]; rfl
end Go.Rail
