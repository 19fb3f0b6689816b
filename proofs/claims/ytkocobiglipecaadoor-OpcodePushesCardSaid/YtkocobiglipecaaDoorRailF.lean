/- Words of 64 bits; maps by a byte. -/
import Derived.Test.YtkocobiglipecaaDoorRailD
import Derived.Test.YtkocobiglipecaaDoorRailC
import Derived.Test.YtkocobiglipecaaDoorRailB
import Derived.Laws.Externs
import Derived.Laws.BitsAllLaws
set_option linter.unusedSimpArgs false
set_option linter.unusedVariables false
namespace Go.Rail
open Go
def mapV (l : List (Int × Value)) (j : Nat) : List MapEntry := (l.zipIdx j).map fun e => ⟨.int .u8 e.1.1, e.1.2, e.2⟩
def MapV (l : List (Int × Value)) : Obj := .map (mapV l 0).toArray l.length
def getV : List (Int × Value) → Int → Option Value
  | [], _ => none
  | e :: r, k => if k = e.1 then some e.2 else getV r k
theorem mapV_cons (e : Int × Value) (r : List (Int × Value)) (j : Nat) : mapV (e :: r) j = ⟨.int .u8 e.1, e.2, j⟩ :: mapV r (j + 1) := by
  simp [mapV, List.zipIdx_cons]
theorem findNow_mapV (kd : IntKind) (k : Int) (l : List (Int × Value)) (j i : Nat) : ∃ f : Option (Nat × Value), Instr.findNow (.int kd) (.int .u8 k) (mapV l j) i = some f ∧ f.map Prod.snd = getV l k := by
  induction l generalizing i j with
  | nil => exact ⟨none, rfl, rfl⟩
  | cons e r ih =>
    rw [mapV_cons, Instr.findNow, getV]
    by_cases h : k = e.1
    · exact ⟨some (i, e.2), by simp [Instr.sameNow, h], by simp [h]⟩
    · have hb : (k == e.1) = false := by simpa using h
      obtain ⟨f, h1, h2⟩ := ih (j + 1) (i + 1)
      exact ⟨f, by simp [Instr.sameNow, h, hb, h1], by simp [h, h2]⟩
theorem findKey_v {P : Program} {t : TypeId} {kd : IntKind} {k : Int} {l : List (Int × Value)} {w : World} (ht : P.underlying t = some (.int kd)) : ∃ f : Option (Nat × Value), (Instr.findKey t (.int .u8 k) (mapV l 0)).run P w = .ok f w ∧ f.map Prod.snd = getV l k := by
  obtain ⟨f, h1, h2⟩ := findNow_mapV kd k l 0 0
  exact ⟨f, by simp [Instr.findKey, run_underlying ht, Sem.run_bind, Result.andThen, Sem.run_pure, h1], h2⟩
theorem insV_run {P : Program} {t kt et : TypeId} {kd : IntKind} {b : Nat} {l : List (Int × Value)} {k : Int} {v : Value} {w : World} (ht : P.underlying t = some (.map kt et)) (hkt : P.underlying kt = some (.int kd)) (hn : getV l k = none) (hb : w.heap[b]? = some (MapV l)) :
    (Instr.mapUpdate t (.map (some b)) (.int .u8 k) v).run P w = .ok () { w with heap := w.heap.setIfInBounds b (MapV (l ++ [(k, v)])) } := by
  have hc : ∀ w, (Instr.checkKey false 10000 kt (.int .u8 k)).run P w = .ok () w := fun w => checkKey_int (n := 9999) hkt
  obtain ⟨f, hf, h2⟩ := findKey_v (P := P) (k := k) (l := l) (w := w) hkt
  rw [hn] at h2
  have hf0 : f = none := by cases f <;> simp_all
  subst hf0
  have e2 : MapV (l ++ [(k, v)]) = .map ((mapV l 0).toArray.push ⟨.int .u8 k, v, l.length⟩) (l.length + 1) := by
    rw [MapV, mapV, mapV]
    simp [List.zipIdx_append]
  rw [e2]
  simp [Instr.mapUpdate, run_underlying ht, Sem.run_bind, Result.andThen, Sem.run_pure, run_getMap hb, hc, hf, run_setMap _ hb]
theorem lookV_run {P : Program} {t kt et : TypeId} {kd : IntKind} {b : Nat} {l : List (Int × Value)} {k : Int} {z : Value} {w : World} (ht : P.underlying t = some (.map kt et)) (hkt : P.underlying kt = some (.int kd)) (hz : ∀ w, (zeroValue et).run P w = .ok z w) (hb : w.heap[b]? = some (MapV l)) :
    (Instr.lookup t (.map (some b)) (.int .u8 k) true).run P w = .ok (.tuple #[(getV l k).getD z, .bool (getV l k).isSome]) w := by
  have hc : ∀ bb w, (Instr.checkKey bb 10000 kt (.int .u8 k)).run P w = .ok () w := fun bb w => checkKey_int (n := 9999) hkt
  obtain ⟨f, hf, h2⟩ := findKey_v (P := P) (k := k) (l := l) (w := w) hkt
  rw [← h2]
  cases f with
  | none => simp [Instr.lookup, run_underlying ht, Sem.run_bind, Result.andThen, Sem.run_pure, run_getMap hb, hc, hf, hz]
  | some p => simp [Instr.lookup, run_underlying ht, Sem.run_bind, Result.andThen, Sem.run_pure, run_getMap hb, hc, hf]
/-- What hands back such a map of its own. -/
def RMapV (l : List (Int × Value)) : Value → List Fa → Own → Prop := fun u Φ' M' => ∃ b, u = .map (some b) ∧ Φ' = [] ∧ M' = [(b, MapV l)]
section
variable {x : Cx} {Q : Exit → Act → World → Prop} {Φ : List Fa} {L : Env} {M : Own} {ops : Array Oper} {K : Act → World → Prop}
variable {d : Nat} {ty : TypeId} {pos : String} {af : Array Edge} {g : Option (Nat × Bool)}
theorem o_makeMapV {t : TypeId} (hdN : Nat.blt d x.N = true) (hg : gd ops L g = some true)
    (h : ∀ b, G x Φ ((d, .map (some b)) :: L) ((b, MapV []) :: M) K) : OpK x ops Q ⟨some d, .makeMap t none, ty, pos, af, g⟩ Φ L M K :=
  OpK.mem rfl hdN hg (by simp) (fun I a w hp hk hw =>
    ⟨.map (some w.heap.size), w.alloc (MapV []), Φ, _, I, by simp [execOp, Instr.makeMap, run_newMap, Sem.run_bind, Result.andThen, Sem.run_pure, MapV, mapV], hp, hw.alloc _, h w.heap.size⟩)
theorem o_insV {t kt et : TypeId} {kd : IntKind} {y z u : Operand} {b : Nat} {l : List (Int × Value)} {k : Int} {v : Value} {M : Own} [ht : MpTy x.P t kt et] [hkt : IntTy x.P kt kd] (hg : gd ops L g = some true) (hy : ev L y = some (.map (some b))) (hz : ev L z = some (.int .u8 k)) (hu : ev L u = some v) (hn : getV l k = none)
    (h : G x Φ L ((b, MapV (l ++ [(k, v)])) :: M) K) : OpK x ops Q ⟨none, .insert t y z u, ty, pos, af, g⟩ Φ L ((b, MapV l) :: M) K :=
  OpK.mem0 rfl hg (by simp) (fun I a w hp hk hw => by
    have hb := hw.own (b, MapV l) List.mem_cons_self
    refine ⟨{ w with heap := w.heap.setIfInBounds b (MapV (l ++ [(k, v)])) }, Φ, _, I, ?_, hp, Wd.setMap (o := MapV l) hw, h⟩
    simp [execOp, hk.eval hy, hk.eval hz, hk.eval hu, Sem.run_bind, Result.andThen, Sem.run_pure, insV_run ht.h hkt.h hn hb])
theorem o_lookV {t kt et : TypeId} {kd : IntKind} {y z : Operand} {b : Nat} {l : List (Int × Value)} {k : Int} {v : Value} {is : Bool} {z0 : Value} [ht : MpTy x.P t kt et] [hkt : IntTy x.P kt kd] [hz0 : ZerV x.P et z0] (hdN : Nat.blt d x.N = true) (hg : gd ops L g = some true) (hy : ev L y = some (.map (some b))) (hz : ev L z = some (.int .u8 k))
    (hm : (b, MapV l) ∈ M) (hv : (getV l k).getD z0 = v) (hi : (getV l k).isSome = is)
    (h : G x Φ ((d, .tuple #[v, .bool is]) :: L) M K) : OpK x ops Q ⟨some d, .lookup t y z true, ty, pos, af, g⟩ Φ L M K :=
  OpK.val rfl hdN hg (by simp) (fun I a w hp hk hw => by
    have hb := hw.own _ hm
    subst hv; subst hi
    simp [execOp, hk.eval hy, hk.eval hz, Sem.run_bind, Result.andThen, Sem.run_pure, lookV_run ht.h hkt.h hz0.h hb]) h
theorem o_callM {y : Operand} {args : List Operand} {vs cap : List Value} {ts : Array TypeId} {f : FuncId} {Φc : List Fa} {l : List (Int × Value)}
    (hdN : Nat.blt d x.N = true) (hg : gd ops L g = some true) (hy : ev L y = some (.func (.func f) #[] cap.toArray)) [hf : HasFn x.P f] (hargs : args.mapM (ev L) = some vs) (c : Fn x.P f (vs ++ cap) Φc [] (RMapV l)) [hΦ : Ents Φ Φc]
    (h : ∀ b, G x Φ ((d, .map (some b)) :: L) ((b, MapV l) :: M) K) : OpK x ops Q ⟨some d, .call ⟨.value y, args.toArray, ts⟩, ty, pos, af, g⟩ Φ L M K :=
  OpK.call hdN hg hy hargs c hΦ (Mr := M) (by simp) (by
    rintro u Φ' Mc' ⟨b, rfl, rfl, rfl⟩
    exact h b)
end
end Go.Rail
set_option linter.unusedSimpArgs false
set_option linter.unusedVariables false
namespace Go.Rail
open Go
def Word.nat (n : Nat) : Word := ⟨UInt64.ofNat n, UInt64.ofNat (n / 18446744073709551616), UInt64.ofNat (n / 340282366920938463463374607431768211456), UInt64.ofNat (n / 6277101735386680763835789423207666416102355444464034512896)⟩
abbrev top256 : Nat := 115792089237316195423570985008687907853269984665640564039457584007913129639936
/-- A word told by its four parts. -/
theorem Word.nat_cells {n p q r s : Nat} (hp : p < 18446744073709551616) (hq : q < 18446744073709551616) (hr : r < 18446744073709551616) (hs : s < 18446744073709551616)
    (h : p + 18446744073709551616 * q + 340282366920938463463374607431768211456 * r + 6277101735386680763835789423207666416102355444464034512896 * s = n % top256) :
    (Word.nat n).cells = [.int .u64 (p : Int), .int .u64 (q : Int), .int .u64 (r : Int), .int .u64 (s : Int)] := by
  simp only [top256] at h
  simp only [Word.nat, Word.cells, UInt64.toNat_ofNat']
  have e1 : n % 2 ^ 64 = p := by omega
  have e2 : n / 18446744073709551616 % 2 ^ 64 = q := by omega
  have e3 : n / 340282366920938463463374607431768211456 % 2 ^ 64 = r := by omega
  have e4 : n / 6277101735386680763835789423207666416102355444464034512896 % 2 ^ 64 = s := by omega
  rw [e1, e2, e3, e4]
theorem Word.v_nat {n p q r s : Nat} (h : p + 18446744073709551616 * q + 340282366920938463463374607431768211456 * r + 6277101735386680763835789423207666416102355444464034512896 * s = n % top256) (hp : p < 18446744073709551616) (hq : q < 18446744073709551616) (hr : r < 18446744073709551616) (hs : s < 18446744073709551616) :
    Value.agg [.int .u64 (p : Int), .int .u64 (q : Int), .int .u64 (r : Int), .int .u64 (s : Int)].toArray = (Word.nat n).v := by
  rw [Word.v, Word.nat_cells hp hq hr hs h]
end Go.Rail
set_option linter.unusedSimpArgs false
set_option linter.unusedVariables false
namespace Go.Rail
open Go
theorem u_or (a b : Nat) (ha : a < 18446744073709551616) (hb : b < 18446744073709551616) : intOp .or .u64 (a : Int) (b : Int) = some (.int .u64 ((a ||| b : Nat) : Int)) := by
  have h := u64_or_nat a b ha hb
  unfold intOp; exact congrArg (fun v => some (Value.int .u64 v)) h
theorem u_and (a b : Nat) (ha : a < 18446744073709551616) (hb : b < 18446744073709551616) : intOp .and .u64 (a : Int) (b : Int) = some (.int .u64 ((a &&& b : Nat) : Int)) := by
  have h := u64_and_nat a b ha hb
  unfold intOp; exact congrArg (fun v => some (Value.int .u64 v)) h
theorem u_xor (a b : Nat) (ha : a < 18446744073709551616) (hb : b < 18446744073709551616) : intOp .xor .u64 (a : Int) (b : Int) = some (.int .u64 ((a ^^^ b : Nat) : Int)) := by
  have h := u64_xor_nat a b ha hb
  unfold intOp; exact congrArg (fun v => some (Value.int .u64 v)) h
theorem u_shr (a : Nat) (n : Nat) (hn : n < 64) : Value.int .u64 ((a : Int).fdiv (2 ^ (min (n : Int).toNat IntKind.u64.bits))) = .int .u64 ((a / 2 ^ n : Nat) : Int) := by
  refine congrArg (Value.int .u64) ?_
  have e : min (n : Int).toNat IntKind.u64.bits = n := by
    have : IntKind.u64.bits = 64 := rfl
    omega
  rw [e, Int.fdiv_eq_ediv_of_nonneg _ (by have : (0 : Int) < 2 ^ n := Int.pow_pos (by decide); omega)]
  simp
theorem u_shl (a : Nat) (n : Nat) (hn : n < 64) : Value.int .u64 (IntKind.u64.wrap ((a : Int) * 2 ^ (min (n : Int).toNat IntKind.u64.bits))) = .int .u64 ((a * 2 ^ n % 18446744073709551616 : Nat) : Int) := by
  refine congrArg (Value.int .u64) ?_
  have e : min (n : Int).toNat IntKind.u64.bits = n := by
    have : IntKind.u64.bits = 64 := rfl
    omega
  rw [e, IntKind.wrap_u64]
  simp
/-- The parts of a number. -/
def numC (len n : Nat) : List Value := (List.range len).map fun i => .int .u64 ((n / 18446744073709551616 ^ i % 18446744073709551616 : Nat) : Int)
theorem numC_at (len n i : Nat) (h : i < len) : (numC len n)[i]? = some (.int .u64 ((n / 2 ^ (64 * i) % 18446744073709551616 : Nat) : Int)) := by
  have e : (18446744073709551616 : Nat) ^ i = 2 ^ (64 * i) := by rw [Nat.pow_mul]
  rw [← e]
  simp [numC, h]
section
variable {x : Cx} {Q : Exit → Act → World → Prop} {Φ : List Fa} {L : Env} {M : Own} {ops : Array Oper} {K : Act → World → Prop}
variable {d : Nat} {ty : TypeId} {pos : String} {af : Array Edge} {g : Option (Nat × Bool)}
/-- Slots that are needed no more. -/
theorem W.keep {c : Code} {L' : Env} (hL : ∀ t v, look L' t = some v → look L t = some v) (h : W x c Q Φ L' M) : W x c Q Φ L M := W.bare (G.weaken (G.code h) (fun _ h => h) hL (List.Sublist.refl _))
/-- One part of an array that is a value. -/
theorem o_indexV {t e n : Nat} {y z : Operand} {cs : List Value} {k : IntKind} {i : Nat} {v : Value} [ht : ArTy x.P t n e] [hs : Siz x.P e 1] [ha : IsAg x.P e false] (hdN : Nat.blt d x.N = true) (hg : gd ops L g = some true) (hy : ev L y = some (.agg cs.toArray)) (hz : ev L z = some (.int k i)) (hi : i < n) (hv : cs[i]? = some v)
    (h : G x Φ ((d, v) :: L) M K) : OpK x ops Q ⟨some d, .index t y z, ty, pos, af, g⟩ Φ L M K :=
  OpK.val rfl hdN hg (by simp) (fun I ac w hp hk hw => by
    simp [execOp, hk.eval hy, hk.eval hz, Instr.index, asIntOf, run_underlying ht.h, part, ha.h, hs.h, hi, hv, Sem.run_bind, Result.andThen, Sem.run_pure]) h
end
end Go.Rail
