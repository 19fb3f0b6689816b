/- Functions without a body: bytes compared. -/
import Derived.Test.YtoiepfapghnccaaRailKeys
import Derived.Test.YtoiepfapghnccaaRailDrawX
import Derived.Lib.BytesEntry
import Derived.Laws.Externs
set_option linter.unusedSimpArgs false
set_option linter.unusedVariables false
namespace Go.Rail
open Go

class ExtF (P : Program) (f : FuncId) (e : outParam (Array Value → Sem Value)) : Prop where
  h : ∀ args w, (callFunc f args).run P w = ((e args).run P w).andThen fun v w' => .ok (.value v) w'
theorem compareBytes_lex : ∀ (xs ys : List UInt8), Lib.compareBytes xs ys = lexN (xs.map UInt8.toNat) (ys.map UInt8.toNat)
  | [], [] => rfl
  | [], _ :: _ => rfl
  | _ :: _, [] => rfl
  | a :: xs, b :: ys => by
    simp only [Lib.compareBytes, List.map_cons, lexN, compareBytes_lex xs ys, UInt8.lt_iff_toNat_lt]
theorem bytesOf_u8 (xs : List UInt8) : (Lib.bytesOf (xs.map fun x => (x.toNat : Int))) = xs := by
  induction xs with
  | nil => rfl
  | cons x xs ih =>
    simp only [Lib.bytesOf, List.map_cons, List.map_map] at ih ⊢
    rw [ih]
    simp
section
variable {x : Cx} {Q : Exit → Act → World → Prop} {Φ : List Fa} {L : Env} {M : Own} {ops : Array Oper} {K : Act → World → Prop}
variable {d : Nat} {ty : TypeId} {pos : String} {af : Array Edge} {g : Option (Nat × Bool)}
theorem run_bytesOf_rep {P : Program} {I : Imm} {v : Value} {xs : List UInt8} {w : World} (hi : ∀ b o, I b = some o → w.heap[b]? = some o) (h : Rp I v xs) : (Extern.Bytes.bytesOf v).run P w = .ok ⟨xs.toArray⟩ w := by
  obtain ⟨a, cap, rfl, h1, h2⟩ := h.slice
  by_cases hne : xs = []
  · subst hne
    cases a with
    | none => simp [Extern.Bytes.bytesOf, Sem.run_pure]; rfl
    | some ad => simp [Extern.Bytes.bytesOf, Extern.Bytes.loadBytes, Sem.run_pure]; rfl
  · obtain ⟨⟨b, off, sp⟩, c, t, fr, rfl, hsp, hb, hr1, hr2⟩ := h2 hne
    simp only at hsp hb hr1 hr2
    subst hsp
    have hb' := hi _ _ hb
    have := Lib.run_loadBytesX (P := P) w (xs.map fun x => (x.toNat : Int)) ⟨b, off, none⟩ .empty (fun j y hj => by
      rw [List.getElem?_map] at hj
      obtain ⟨z, hz, rfl⟩ := Option.map_eq_some_iff.1 hj
      obtain ⟨hjl, rfl⟩ := List.getElem?_eq_some_iff.1 hz
      have hc : chunk c.toList off 1 j = [.int .u8 xs[j].toNat] := hr2 j hjl
      rw [add_mk]
      simp only [World.cell?, hb']
      unfold chunk at hc
      have h5 : c.toList[off + j * 1]? = some (.int .u8 xs[j].toNat) := by
        have h6 : (List.take 1 (List.drop (off + j * 1) c.toList))[0]? = some (.int .u8 xs[j].toNat) := by rw [hc]; rfl
        rw [List.getElem?_take, if_pos (by omega), List.getElem?_drop] at h6
        simpa using h6
      simpa using h5)
    rw [bytesOf_u8, List.length_map] at this
    simp only [Extern.Bytes.bytesOf]
    rw [this]
    congr 1
    apply ByteArray.ext
    simp
/-- internal/bytealg.Compare. -/
theorem o_cmpB {y p q : Operand} {ts : Array TypeId} {f : FuncId} {v u : Value} {xs ys : List UInt8} (hdN : Nat.blt d x.N = true) (hg : gd ops L g = some true) (hy : ev L y = some (.func (.func f) #[] #[])) [hf : ExtF x.P f Extern.BytealgCompare.compare] (hp' : ev L p = some v) (hq' : ev L q = some u) [k1 : Ent' Φ (fRp v xs)] [k2 : Ent' Φ (fRp u ys)]
    (h : G x Φ ((d, .int .i64 (lexN (xs.map UInt8.toNat) (ys.map UInt8.toNat))) :: L) M K) : OpK x ops Q ⟨some d, .call ⟨.value y, #[p, q], ts⟩, ty, pos, af, g⟩ Φ L M K :=
  OpK.val rfl hdN hg (by simp) (fun I a w hp hk hw => by
    have h1 := run_bytesOf_rep (P := x.P) hw.imm (k1.h I hp)
    have h2 := run_bytesOf_rep (P := x.P) hw.imm (k2.h I hp)
    have e1 : (Extern.BytealgCompare.compare #[v, u]).run x.P w = .ok (.int .i64 (lexN (xs.map UInt8.toNat) (ys.map UInt8.toNat))) w := by
      change Sem.run x.P (do pure (goInt (Extern.BytealgCompare.cmp (← Extern.Bytes.bytesOf v) (← Extern.Bytes.bytesOf u)))) w = _
      simp only [Sem.run_bind, h1, h2, Result.andThen, Sem.run_pure, Lib.cmp_eq, compareBytes_lex]
      rfl
    simp [execOp, resolve, hk.eval hy, hk.eval hp', hk.eval hq', Deferred.ofValue, invoke, hf.h, e1, Sem.run_bind, Result.andThen, Sem.run_pure]) h
/-- A slice's value, laid open; a nil one has no elements. -/
theorem G.sliceN {F : Act → World → Prop} {α : Type} [GoTy α] (v : Value) (xs : List α) [k : Ent' Φ (fRp v xs)] (h : ∀ a cap, v = .slice a xs.length cap → xs.length ≤ cap → (a = none → xs = []) → G x Φ L M F) : G x Φ L M F := by
  intro I a w hp hk hw
  obtain ⟨ad, cap, e, h1⟩ := Rp.slice (k.h I hp)
  refine h ad cap e h1.1 (fun hn => ?_) I a w hp hk hw
  apply Classical.byContradiction
  intro hne
  obtain ⟨b, _, _, _, hb, _⟩ := h1.2 hne
  rw [hn] at hb; cases hb
/-- A slice set against nil. -/
theorem o_eqNil {t t' e : TypeId} {y z : Operand} {a : Option Addr} {n cap : Nat} {r : Bool} [ht : SlTy x.P t e] (hdN : Nat.blt d x.N = true) (hg : gd ops L g = some true) (hy : ev L y = some (.slice a n cap)) (hz : ev L z = some (.slice none 0 0)) (hr : a.isNone = r)
    (h : G x Φ ((d, .bool r) :: L) M K) : OpK x ops Q ⟨some d, .binOp .eql t y z t', ty, pos, af, g⟩ Φ L M K :=
  OpK.val rfl hdN hg (by simp) (fun I b w hp hk hw => by
    subst hr
    have e1 : (Op.equalIn 10000 t (.slice a n cap) (.slice none 0 0)).run x.P w = .ok a.isNone w := by
      rw [show (10000 : Nat) = 9999 + 1 from rfl, Op.equalIn]
      simp only [Sem.run_bind, run_underlying ht.h, Result.andThen]
      cases a <;> simp [Sem.run_pure]
    have e2 : (binOp .eql t (.slice a n cap) (.slice none 0 0)).run x.P w = .ok (.bool a.isNone) w := by
      have e : binOp .eql t (.slice a n cap) (.slice none 0 0) = (do pure (Value.bool (← Op.equalIn 10000 t (.slice a n cap) (.slice none 0 0)))) := rfl
      rw [e, Sem.run_bind, e1]; simp only [Result.andThen_ok, Sem.run_pure]
    have e3 : (eqGuard .eql t y z (.slice a n cap) (.slice none 0 0)).run x.P w = .ok () w := by
      simp [eqGuard, Sem.run_pure, Sem.run_bind, Result.andThen]
    simp [execOp, hk.eval hy, hk.eval hz, e2, e3, Sem.run_bind, Result.andThen, Sem.run_pure]) h

/-- What hands back a slice of its own. -/
def ROwn {α : Type} [GoTy α] (e : TypeId) (xs : List α) : Value → List Fa → Own → Prop := fun u Φ' M' => ∃ o, IsOwn (GoTy.sz α) u xs.length o ∧ Φ' = [fRow (ocells o) xs] ∧ M' = ownM e o
/-- What turns a slice of the caller's own in its place. -/
def RIn {α : Type} [GoTy α] (e : TypeId) (v : Value) (xs : List α) : Value → List Fa → Own → Prop := fun u Φ' M' => ∃ o, IsOwn (GoTy.sz α) v xs.length o ∧ Φ' = [fRow (ocells o) xs] ∧ M' = ownM e o
theorem o_callO {α : Type} [GoTy α] {y : Operand} {args : List Operand} {vs cap : List Value} {ts : Array TypeId} {f : FuncId} {Φc : List Fa} {e : TypeId} {xs : List α}
    (hdN : Nat.blt d x.N = true) (hg : gd ops L g = some true) (hy : ev L y = some (.func (.func f) #[] cap.toArray)) [hf : HasFn x.P f] (hargs : args.mapM (ev L) = some vs) (c : Fn x.P f (vs ++ cap) Φc [] (ROwn e xs)) [hΦ : Ents Φ Φc]
    (h : ∀ v o, IsOwn (GoTy.sz α) v xs.length o → G x (fRow (ocells o) xs :: Φ) ((d, v) :: L) (M ++ ownM e o) K) : OpK x ops Q ⟨some d, .call ⟨.value y, args.toArray, ts⟩, ty, pos, af, g⟩ Φ L M K :=
  OpK.call hdN hg hy hargs c hΦ (Mr := M) (by simp) (by
    rintro u Φ' Mc' ⟨o, ho, rfl, rfl⟩
    exact G.perm (h u o ho) List.perm_append_comm)
/-- ... given a slice of the caller's own. -/
theorem o_callOO {α β : Type} [GoTy α] [GoTy β] {y : Operand} {args : List Operand} {vs cap : List Value} {ts : Array TypeId} {f : FuncId} {Φc : List Fa} {e e' : TypeId} {xs : List α} (o : OR) {Mr : Own}
    (hdN : Nat.blt d x.N = true) (hg : gd ops L g = some true) (hy : ev L y = some (.func (.func f) #[] cap.toArray)) [hf : HasFn x.P f] (hargs : args.mapM (ev L) = some vs) (c : Fn x.P f (vs ++ cap) Φc (ownM e' o) (ROwn e xs)) [hΦ : Ents Φ Φc] (hM : M.Perm (Mr ++ ownM e' o))
    (h : ∀ v o, IsOwn (GoTy.sz α) v xs.length o → G x (fRow (ocells o) xs :: Φ) ((d, v) :: L) (Mr ++ ownM e o) K) : OpK x ops Q ⟨some d, .call ⟨.value y, args.toArray, ts⟩, ty, pos, af, g⟩ Φ L M K :=
  OpK.call hdN hg hy hargs c hΦ (Mr := Mr) (hM.trans List.perm_append_comm) (by
    rintro u Φ' Mc' ⟨o, ho, rfl, rfl⟩
    exact G.perm (h u o ho) List.perm_append_comm)
theorem o_callI {α : Type} [GoTy α] {y : Operand} {args : List Operand} {vs cap : List Value} {ts : Array TypeId} {f : FuncId} {Φc : List Fa} {e : TypeId} {v : Value} {xs : List α} (o : OR) {Mr : Own}
    (hdN : Nat.blt d x.N = true) (hg : gd ops L g = some true) (hy : ev L y = some (.func (.func f) #[] cap.toArray)) [hf : HasFn x.P f] (hargs : args.mapM (ev L) = some vs) (c : Fn x.P f (vs ++ cap) Φc (ownM e o) (RIn e v xs)) [hΦ : Ents Φ Φc] (hM : M.Perm (Mr ++ ownM e o))
    (h : ∀ u o, IsOwn (GoTy.sz α) v xs.length o → G x (fRow (ocells o) xs :: Φ) ((d, u) :: L) (Mr ++ ownM e o) K) : OpK x ops Q ⟨some d, .call ⟨.value y, args.toArray, ts⟩, ty, pos, af, g⟩ Φ L M K :=
  OpK.call hdN hg hy hargs c hΦ (Mr := Mr) (hM.trans List.perm_append_comm) (by
    rintro u Φ' Mc' ⟨o, ho, rfl, rfl⟩
    exact G.perm (h u o ho) List.perm_append_comm)
end
end Go.Rail
