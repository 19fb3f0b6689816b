/- Sorting, ranges over functions, regions in any order. -/
import Derived.Test.YtoiepfapghnccaaGreatRailB
import Derived.Lib.BytesEntry
import Derived.Laws.Externs
import Derived.RangeFuncRecord
import Derived.RangeFuncIn
set_option linter.unusedSimpArgs false
set_option linter.unusedVariables false
namespace Go.Rail
open Go
class ExtF (P : Program) (f : FuncId) (e : outParam (Array Value → Sem Value)) : Prop where
  h : ∀ args w, (callFunc f args).run P w = ((e args).run P w).andThen fun v w' => .ok (.value v) w'
theorem compareBytes_lex : ∀ (xs ys : List UInt8), Lib.compareBytes xs ys = lexN (xs.map UInt8.toNat) (ys.map UInt8.toNat)
  | [], [] => rfl
  | [], _ :: _ => rfl
  | _ :: _, [] => rfl
  | a :: xs, b :: ys => by
    simp only [Lib.compareBytes, List.map_cons, lexN, compareBytes_lex xs ys, UInt8.lt_iff_toNat_lt]
theorem bytesOf_u8 (xs : List UInt8) : (Lib.bytesOf (xs.map fun x => (x.toNat : Int))) = xs := by
  induction xs with
  | nil => rfl
  | cons x xs ih =>
    simp only [Lib.bytesOf, List.map_cons, List.map_map] at ih ⊢
    rw [ih]
    simp
section
variable {x : Cx} {Q : Exit → Act → World → Prop} {Φ : List Fa} {L : Env} {M : Own} {ops : Array Oper} {K : Act → World → Prop}
variable {d : Nat} {ty : TypeId} {pos : String} {af : Array Edge} {g : Option (Nat × Bool)}
theorem run_bytesOf_rep {P : Program} {I : Imm} {v : Value} {xs : List UInt8} {w : World} (hi : ∀ b o, I b = some o → w.heap[b]? = some o) (h : Rp I v xs) : (Extern.Bytes.bytesOf v).run P w = .ok ⟨xs.toArray⟩ w := by
  obtain ⟨a, cap, rfl, h1, h2⟩ := h.slice
  by_cases hne : xs = []
  · subst hne
    cases a with
    | none => simp [Extern.Bytes.bytesOf, Sem.run_pure]; rfl
    | some ad => simp [Extern.Bytes.bytesOf, Extern.Bytes.loadBytes, Sem.run_pure]; rfl
  · obtain ⟨⟨b, off, sp⟩, c, t, fr, rfl, hsp, hb, hr1, hr2⟩ := h2 hne
    simp only at hsp hb hr1 hr2
    subst hsp
    have hb' := hi _ _ hb
    have := Lib.run_loadBytesX (P := P) w (xs.map fun x => (x.toNat : Int)) ⟨b, off, none⟩ .empty (fun j y hj => by
      rw [List.getElem?_map] at hj
      obtain ⟨z, hz, rfl⟩ := Option.map_eq_some_iff.1 hj
      obtain ⟨hjl, rfl⟩ := List.getElem?_eq_some_iff.1 hz
      have hc : chunk c.toList off 1 j = [.int .u8 xs[j].toNat] := hr2 j hjl
      rw [add_mk]
      simp only [World.cell?, hb']
      unfold chunk at hc
      have h5 : c.toList[off + j * 1]? = some (.int .u8 xs[j].toNat) := by
        have h6 : (List.take 1 (List.drop (off + j * 1) c.toList))[0]? = some (.int .u8 xs[j].toNat) := by rw [hc]; rfl
        rw [List.getElem?_take, if_pos (by omega), List.getElem?_drop] at h6
        simpa using h6
      simpa using h5)
    rw [bytesOf_u8, List.length_map] at this
    simp only [Extern.Bytes.bytesOf]
    rw [this]
    congr 1
    apply ByteArray.ext
    simp
/-- internal/bytealg.Compare. -/
theorem o_cmpB {y p q : Operand} {ts : Array TypeId} {f : FuncId} {v u : Value} {xs ys : List UInt8} (hdN : Nat.blt d x.N = true) (hg : gd ops L g = some true) (hy : ev L y = some (.func (.func f) #[] #[])) [hf : ExtF x.P f Extern.BytealgCompare.compare] (hp' : ev L p = some v) (hq' : ev L q = some u) [k1 : Ent' Φ (fRp v xs)] [k2 : Ent' Φ (fRp u ys)]
    (h : G x Φ ((d, .int .i64 (lexN (xs.map UInt8.toNat) (ys.map UInt8.toNat))) :: L) M K) : OpK x ops Q ⟨some d, .call ⟨.value y, #[p, q], ts⟩, ty, pos, af, g⟩ Φ L M K :=
  OpK.val rfl hdN hg (by simp) (fun I a w hp hk hw => by
    have h1 := run_bytesOf_rep (P := x.P) hw.imm (k1.h I hp)
    have h2 := run_bytesOf_rep (P := x.P) hw.imm (k2.h I hp)
    have e1 : (Extern.BytealgCompare.compare #[v, u]).run x.P w = .ok (.int .i64 (lexN (xs.map UInt8.toNat) (ys.map UInt8.toNat))) w := by
      change Sem.run x.P (do pure (goInt (Extern.BytealgCompare.cmp (← Extern.Bytes.bytesOf v) (← Extern.Bytes.bytesOf u)))) w = _
      simp only [Sem.run_bind, h1, h2, Result.andThen, Sem.run_pure, Lib.cmp_eq, compareBytes_lex]
      rfl
    simp [execOp, resolve, hk.eval hy, hk.eval hp', hk.eval hq', Deferred.ofValue, invoke, hf.h, e1, Sem.run_bind, Result.andThen, Sem.run_pure]) h
/-- A slice's value, laid open; a nil one has no elements. -/
theorem G.sliceN {F : Act → World → Prop} {α : Type} [GoTy α] (v : Value) (xs : List α) [k : Ent' Φ (fRp v xs)] (h : ∀ a cap, v = .slice a xs.length cap → xs.length ≤ cap → (a = none → xs = []) → G x Φ L M F) : G x Φ L M F := by
  intro I a w hp hk hw
  obtain ⟨ad, cap, e, h1⟩ := Rp.slice (k.h I hp)
  refine h ad cap e h1.1 (fun hn => ?_) I a w hp hk hw
  apply Classical.byContradiction
  intro hne
  obtain ⟨b, _, _, _, hb, _⟩ := h1.2 hne
  rw [hn] at hb; cases hb
/-- A slice set against nil. -/
theorem o_eqNil {t t' e : TypeId} {y z : Operand} {a : Option Addr} {n cap : Nat} {r : Bool} [ht : SlTy x.P t e] (hdN : Nat.blt d x.N = true) (hg : gd ops L g = some true) (hy : ev L y = some (.slice a n cap)) (hz : ev L z = some (.slice none 0 0)) (hr : a.isNone = r)
    (h : G x Φ ((d, .bool r) :: L) M K) : OpK x ops Q ⟨some d, .binOp .eql t y z t', ty, pos, af, g⟩ Φ L M K :=
  OpK.val rfl hdN hg (by simp) (fun I b w hp hk hw => by
    subst hr
    have e1 : (Op.equalIn 10000 t (.slice a n cap) (.slice none 0 0)).run x.P w = .ok a.isNone w := by
      rw [show (10000 : Nat) = 9999 + 1 from rfl, Op.equalIn]
      simp only [Sem.run_bind, run_underlying ht.h, Result.andThen]
      cases a <;> simp [Sem.run_pure]
    have e2 : (binOp .eql t (.slice a n cap) (.slice none 0 0)).run x.P w = .ok (.bool a.isNone) w := by
      have e : binOp .eql t (.slice a n cap) (.slice none 0 0) = (do pure (Value.bool (← Op.equalIn 10000 t (.slice a n cap) (.slice none 0 0)))) := rfl
      rw [e, Sem.run_bind, e1]; simp only [Result.andThen_ok, Sem.run_pure]
    have e3 : (eqGuard .eql t y z (.slice a n cap) (.slice none 0 0)).run x.P w = .ok () w := by
      simp [eqGuard, Sem.run_pure, Sem.run_bind, Result.andThen]
    simp [execOp, hk.eval hy, hk.eval hz, e2, e3, Sem.run_bind, Result.andThen, Sem.run_pure]) h

/-- What hands back a slice of its own. -/
def ROwn {α : Type} [GoTy α] (e : TypeId) (xs : List α) : Value → List Fa → Own → Prop := fun u Φ' M' => ∃ o, IsOwn (GoTy.sz α) u xs.length o ∧ Φ' = [fRow (ocells o) xs] ∧ M' = ownM e o
/-- What turns a slice of the caller's own in its place. -/
def RIn {α : Type} [GoTy α] (e : TypeId) (v : Value) (xs : List α) : Value → List Fa → Own → Prop := fun u Φ' M' => ∃ o, IsOwn (GoTy.sz α) v xs.length o ∧ Φ' = [fRow (ocells o) xs] ∧ M' = ownM e o
theorem o_callO {α : Type} [GoTy α] {y : Operand} {args : List Operand} {vs cap : List Value} {ts : Array TypeId} {f : FuncId} {Φc : List Fa} {e : TypeId} {xs : List α}
    (hdN : Nat.blt d x.N = true) (hg : gd ops L g = some true) (hy : ev L y = some (.func (.func f) #[] cap.toArray)) [hf : HasFn x.P f] (hargs : args.mapM (ev L) = some vs) (c : Fn x.P f (vs ++ cap) Φc [] (ROwn e xs)) [hΦ : Ents Φ Φc]
    (h : ∀ v o, IsOwn (GoTy.sz α) v xs.length o → G x (fRow (ocells o) xs :: Φ) ((d, v) :: L) (M ++ ownM e o) K) : OpK x ops Q ⟨some d, .call ⟨.value y, args.toArray, ts⟩, ty, pos, af, g⟩ Φ L M K :=
  OpK.call hdN hg hy hargs c hΦ (Mr := M) (by simp) (by
    rintro u Φ' Mc' ⟨o, ho, rfl, rfl⟩
    exact G.perm (h u o ho) List.perm_append_comm)
/-- ... given a slice of the caller's own. -/
theorem o_callOO {α β : Type} [GoTy α] [GoTy β] {y : Operand} {args : List Operand} {vs cap : List Value} {ts : Array TypeId} {f : FuncId} {Φc : List Fa} {e e' : TypeId} {xs : List α} (o : OR) {Mr : Own}
    (hdN : Nat.blt d x.N = true) (hg : gd ops L g = some true) (hy : ev L y = some (.func (.func f) #[] cap.toArray)) [hf : HasFn x.P f] (hargs : args.mapM (ev L) = some vs) (c : Fn x.P f (vs ++ cap) Φc (ownM e' o) (ROwn e xs)) [hΦ : Ents Φ Φc] (hM : M.Perm (Mr ++ ownM e' o))
    (h : ∀ v o, IsOwn (GoTy.sz α) v xs.length o → G x (fRow (ocells o) xs :: Φ) ((d, v) :: L) (Mr ++ ownM e o) K) : OpK x ops Q ⟨some d, .call ⟨.value y, args.toArray, ts⟩, ty, pos, af, g⟩ Φ L M K :=
  OpK.call hdN hg hy hargs c hΦ (Mr := Mr) (hM.trans List.perm_append_comm) (by
    rintro u Φ' Mc' ⟨o, ho, rfl, rfl⟩
    exact G.perm (h u o ho) List.perm_append_comm)
theorem o_callI {α : Type} [GoTy α] {y : Operand} {args : List Operand} {vs cap : List Value} {ts : Array TypeId} {f : FuncId} {Φc : List Fa} {e : TypeId} {v : Value} {xs : List α} (o : OR) {Mr : Own}
    (hdN : Nat.blt d x.N = true) (hg : gd ops L g = some true) (hy : ev L y = some (.func (.func f) #[] cap.toArray)) [hf : HasFn x.P f] (hargs : args.mapM (ev L) = some vs) (c : Fn x.P f (vs ++ cap) Φc (ownM e o) (RIn e v xs)) [hΦ : Ents Φ Φc] (hM : M.Perm (Mr ++ ownM e o))
    (h : ∀ u o, IsOwn (GoTy.sz α) v xs.length o → G x (fRow (ocells o) xs :: Φ) ((d, u) :: L) (Mr ++ ownM e o) K) : OpK x ops Q ⟨some d, .call ⟨.value y, args.toArray, ts⟩, ty, pos, af, g⟩ Φ L M K :=
  OpK.call hdN hg hy hargs c hΦ (Mr := Mr) (hM.trans List.perm_append_comm) (by
    rintro u Φ' Mc' ⟨o, ho, rfl, rfl⟩
    exact G.perm (h u o ho) List.perm_append_comm)
end
end Go.Rail
set_option linter.unusedSimpArgs false
set_option linter.unusedVariables false
namespace Go.Rail
open Go
section
variable {x : Cx} {Q : Exit → Act → World → Prop} {Φ : List Fa} {L : Env} {M : Own} {ops : Array Oper} {K : Act → World → Prop}
variable {d : Nat} {ty : TypeId} {pos : String} {af : Array Edge} {g : Option (Nat × Bool)}
/-- An operation that turns memory; what it yields goes nowhere. -/
theorem OpK.memV {o : Oper} (hd : o.dst = none) (hg : gd ops L o.guard = some true) (hnd : ∀ c, o.op ≠ .defer c)
    (h : ∀ I a w, (∀ φ ∈ Φ, φ.p I) → Kn x.N L x.ds a → Wd x.E I M w → ∃ v w' Φ' M' I', (execOp a.eval o).run x.P w = .ok (.value v) w' ∧ (∀ φ ∈ Φ', φ.p I') ∧ Wd x.E I' M' w' ∧ G x Φ' L M' K) : OpK x ops Q o Φ L M K := by
  intro I a w hp hk hw
  unfold opRun
  rw [if_pos (gd_wanted hk hg)]
  refine ⟨fun f _ => FR_fn _ f, ?_⟩
  obtain ⟨v, w', Φ', M', I', hr, hp', hw', hG⟩ := h I a w hp hk hw
  rw [Oper.semAt_eq _ _ _ hnd, hr]
  simp only [Oper.uponIn, hd]
  exact hG I' _ w' hp' (hk.put_none v) hw'
theorem RowRep.keep {α : Type} [GoTy α] {I : Imm} {cs vs : List Value} {xs : List α} {k : Nat} (h : RowRep I cs 0 xs) (hk : k ≤ xs.length) (hl : k * GoTy.sz α + vs.length ≤ cs.length) : RowRep I (splice cs (k * GoTy.sz α) vs) 0 (xs.take k) := by
  have hlen : (splice cs (k * GoTy.sz α) vs).length = cs.length := by simp [splice]; omega
  have hkl : (xs.take k).length = k := by simp; omega
  refine ⟨by rw [hlen, hkl]; omega, fun j hj => ?_⟩
  rw [hkl] at hj
  have h1 := h.2 j (by omega)
  have hjk := Nat.mul_le_mul_right (GoTy.sz α) (Nat.succ_le_of_lt hj)
  rw [Nat.succ_mul] at hjk
  unfold chunk at h1 ⊢
  rw [Nat.zero_add] at h1 ⊢
  rw [List.getElem_take]
  unfold splice
  rw [List.append_assoc, List.drop_append_of_le_length (by simp; omega), List.take_append_of_le_length (by simp; omega), List.drop_take, List.take_take, Nat.min_eq_left (by omega)]
  exact h1
theorem o_clearO {α : Type} [GoTy α] {t e bytes : Nat} {y : Operand} {b off n cap : Nat} {cs zs : List Value} {xs : List α} {Mr : Own} (k : Nat) (hk' : k ≤ xs.length) [ht : SlTy x.P t e] [hb : Inf x.P e zs (GoTy.sz α) bytes] [m : MDel M b (Ob cs e) Mr] [hr : KRow Φ cs xs] (hg : gd ops L g = some true) (hy : ev L y = some (.slice (some ⟨b, off, none⟩) n cap)) (ho : off = k * GoTy.sz α) (hle : off + n * GoTy.sz α ≤ cs.length) (hz : zs.length = GoTy.sz α) (h1 : ones zs = true)
    (h : ∀ cs', cs'.length = cs.length → G x (fRow cs' (xs.take k) :: Φ) L ((b, Ob cs' e) :: Mr) K) : OpK x ops Q ⟨none, .call ⟨.builtin .clear, #[y], #[t]⟩, ty, pos, af, g⟩ Φ L M K :=
  OpK.memV rfl hg (by simp) (fun I a w hp hk hw => by
    subst ho
    have hw' := hw.perm m.h
    have hbk := hw'.own (b, Ob cs e) (by simp)
    have hrow : RowRep I cs 0 xs := hp _ hr.h
    obtain ⟨ti, zv, hi, hz0, hzs, hsz, hby⟩ := hb.get
    have hzl : (Builtin.zeroCells zv.cells n).toList.length = n * GoTy.sz α := by
      rw [Array.length_toList, size_zeroCells, ← Array.length_toList, cells_toList, hzs, hz]
    by_cases hn : n = 0
    · subst hn
      refine ⟨.tuple #[], w, fRow cs (xs.take k) :: Φ, _, I, ?_, ?_, hw', h cs rfl⟩
      · simp [execOp, resolve, hk.eval hy, invoke, builtin, Builtin.clear_, run_underlying ht.h, Sem.run_bind, Result.andThen, Sem.run_pure]
      · intro φ hφ
        rcases List.mem_cons.1 hφ with rfl | hφ
        · exact hrow.take k
        · exact hp φ hφ
    · have hst := storeCells_obj (P := x.P) (vs := (Builtin.zeroCells zv.cells n).toList) hbk (by rw [hzl]; exact hle) (by
        rw [ones, List.all_eq_true]
        intro u hu
        simp only [Builtin.zeroCells, Array.toList_map, List.mem_map, Array.toList_range, List.mem_range] at hu
        obtain ⟨j, hj, rfl⟩ := hu
        have hs0 : 0 < zv.cells.size := by
          rcases Nat.eq_zero_or_pos zv.cells.size with h0 | h0
          · rw [h0] at hj; omega
          · exact h0
        have hlt : j % zv.cells.size < zv.cells.size := Nat.mod_lt _ hs0
        rw [getElem!_pos zv.cells _ hlt]
        rw [ones, List.all_eq_true] at h1
        refine h1 _ ?_
        rw [← hzs, ← cells_toList]
        simp)
      refine ⟨.tuple #[], w.setRow b (splice cs (k * GoTy.sz α) (Builtin.zeroCells zv.cells n).toList).toArray, fRow (splice cs (k * GoTy.sz α) (Builtin.zeroCells zv.cells n).toList) (xs.take k) :: Φ, (b, Ob (splice cs (k * GoTy.sz α) (Builtin.zeroCells zv.cells n).toList) e) :: Mr, I, ?_, ?_, Wd.setRow (cs := cs) (t := e) hw', h _ ?_⟩
      · have hnz : ∃ m, n = m + 1 := ⟨n - 1, by omega⟩
        obtain ⟨m, rfl⟩ := hnz
        have e1 : (Builtin.clear_ #[t] ty #[.slice (some ⟨b, k * GoTy.sz α, none⟩) (m + 1) cap]).run x.P w = .ok (.tuple #[]) (w.setRow b (splice cs (k * GoTy.sz α) (Builtin.zeroCells zv.cells (m + 1)).toList).toArray) := by
          have hst' := hst
          rw [show cs.take (k * GoTy.sz α) ++ (Builtin.zeroCells zv.cells (m + 1)).toList ++ cs.drop (k * GoTy.sz α + (Builtin.zeroCells zv.cells (m + 1)).toList.length) = splice cs (k * GoTy.sz α) (Builtin.zeroCells zv.cells (m + 1)).toList from rfl] at hst'
          simp [Builtin.clear_, run_underlying ht.h, zeroValue, typeInfo, hi, hz0, hst', Sem.run_bind, Result.andThen, Sem.run_pure]
        simp [execOp, resolve, hk.eval hy, invoke, builtin, e1, Sem.run_bind, Result.andThen, Sem.run_pure]
      · intro φ hφ
        rcases List.mem_cons.1 hφ with rfl | hφ
        · exact hrow.keep hk' (by rw [hzl]; exact hle)
        · exact hp φ hφ
      · simp [splice, hzl]; omega)
end
end Go.Rail
set_option linter.unusedSimpArgs false
set_option linter.unusedVariables false
namespace Go.Rail
open Go
theorem ltK_irrefl (a : Key) : ¬ ltK a a := by unfold ltK; rw [cmpK_self]; omega
theorem ltK_asymm {a b : Key} (h : ltK a b) : ¬ ltK b a := fun k => ltK_irrefl a (ltK_trans h k)
theorem ltK_total {a b : Key} (h : ¬ ltK a b) (k : ¬ ltK b a) : a = b := by
  unfold ltK at h k
  have h1 := cmpK_anti a b
  exact cmpK_zero.1 (by omega)
/-- A list in order is told by its members. -/
theorem asc_unique : ∀ {l m : List Key}, l.Pairwise ltK → m.Pairwise ltK → (∀ k, k ∈ l ↔ k ∈ m) → l = m
  | [], [], _, _, _ => rfl
  | [], b :: m, _, _, h => absurd ((h b).2 (by simp)) (by simp)
  | a :: l, [], _, _, h => absurd ((h a).1 (by simp)) (by simp)
  | a :: l, b :: m, hl, hm, h => by
    rw [List.pairwise_cons] at hl hm
    have e : a = b := by
      by_cases e : a = b
      · exact e
      · have h1 : a ∈ m := by
          have := (h a).1 (by simp)
          rcases List.mem_cons.1 this with h | h
          · exact absurd h e
          · exact h
        have h2 : b ∈ l := by
          have := (h b).2 (by simp)
          rcases List.mem_cons.1 this with h | h
          · exact absurd h.symm e
          · exact h
        exact absurd (hl.1 b h2) (ltK_asymm (hm.1 a h1))
    subst e
    rw [asc_unique hl.2 hm.2 (fun k => ⟨fun hk => ?_, fun hk => ?_⟩)]
    · rcases List.mem_cons.1 ((h k).1 (List.mem_cons_of_mem _ hk)) with rfl | h'
      · exact absurd (hl.1 _ hk) (ltK_irrefl _)
      · exact h'
    · rcases List.mem_cons.1 ((h k).2 (List.mem_cons_of_mem _ hk)) with rfl | h'
      · exact absurd (hm.1 _ hk) (ltK_irrefl _)
      · exact h'

theorem putR_true (k : Key) : ∀ l, putR k true l = l
  | [] => rfl
  | a :: l => by simp only [putR, putR_true k l]; split <;> simp
theorem mem_putR (k c : Key) : ∀ l, c ∈ putR k false l ↔ c = k ∨ c ∈ l
  | [] => by simp [putR]
  | a :: l => by
    simp only [putR, putR_true, and_true]
    by_cases h : cmpK k a = 0
    · have := cmpK_zero.1 h
      subst this
      simp [cmpK_self]
    · rw [if_neg h]
      by_cases h1 : cmpK k a < 0
      · rw [if_pos h1]; simp
      · rw [if_neg h1, List.mem_cons, mem_putR k c l, List.mem_cons]
        exact ⟨fun h => by rcases h with h | h | h <;> simp [h], fun h => by rcases h with h | h | h <;> simp [h]⟩
theorem asc_putR (k : Key) : ∀ l, l.Pairwise ltK → (putR k false l).Pairwise ltK
  | [], _ => by simp [putR]
  | a :: l, h => by
    simp only [putR, putR_true, and_true]
    by_cases h0 : cmpK k a = 0
    · rw [if_pos h0]; exact h
    · rw [if_neg h0]
      by_cases h1 : cmpK k a < 0
      · rw [if_pos h1]
        have h2 := List.pairwise_cons.1 h
        refine List.pairwise_cons.2 ⟨fun c hc => ?_, h⟩
        rcases List.mem_cons.1 hc with rfl | hc
        · exact h1
        · exact ltK_trans h1 (h2.1 c hc)
      · rw [if_neg h1]
        have h2 := List.pairwise_cons.1 h
        refine List.pairwise_cons.2 ⟨fun c hc => ?_, asc_putR k l h2.2⟩
        rcases (mem_putR k c l).1 hc with rfl | hc
        · have h3 := cmpK_anti c a
          unfold ltK; omega
        · exact h2.1 c hc
theorem foldPut (xs : List Key) : ∀ acc : List Key, acc.Pairwise ltK → (xs.foldl (fun l k => putR k false l) acc).Pairwise ltK ∧ ∀ c, c ∈ xs.foldl (fun l k => putR k false l) acc ↔ c ∈ acc ∨ c ∈ xs := by
  induction xs with
  | nil => intro acc h; exact ⟨h, fun c => by simp⟩
  | cons a xs ih =>
    intro acc h
    obtain ⟨h1, h2⟩ := ih (putR a false acc) (asc_putR a acc h)
    refine ⟨h1, fun c => ?_⟩
    rw [List.foldl_cons, h2, mem_putR, List.mem_cons]
    exact ⟨fun h => by rcases h with (h | h) | h <;> simp [h], fun h => by rcases h with h | h | h <;> simp [h]⟩
theorem asc_setK (xs : List Key) : (setK xs).Pairwise ltK := (foldPut xs [] .nil).1
theorem mem_setK (xs : List Key) (c : Key) : c ∈ setK xs ↔ c ∈ xs := by
  have := (foldPut xs [] .nil).2 c
  simpa [setK] using this

/-- The order, weakly. -/
def leKB (x y : Key) : Bool := !decide (cmpK y x < 0)
theorem leKB_trans (a b c : Key) (h1 : leKB a b = true) (h2 : leKB b c = true) : leKB a c = true := by
  simp only [leKB, Bool.not_eq_true', decide_eq_false_iff_not] at *
  intro h
  by_cases e : a = b
  · subst e; exact h2 h
  · by_cases h3 : cmpK a b < 0
    · exact h2 (cmpK_trans h h3)
    · exact e (ltK_total h3 h1)
theorem leKB_total (a b : Key) : (leKB a b || leKB b a) = true := by
  simp only [leKB, Bool.or_eq_true, Bool.not_eq_true', decide_eq_false_iff_not]
  have := cmpK_anti a b
  omega
theorem mem_compactK (c : Key) : ∀ l, c ∈ compactK l ↔ c ∈ l
  | [] => by simp [compactK]
  | [a] => by simp [compactK]
  | a :: b :: l => by
    have ih := mem_compactK c (b :: l)
    simp only [compactK]
    by_cases e : a = b
    · subst e
      rw [if_pos rfl, ih]; simp
    · rw [if_neg e, List.mem_cons, ih]; simp
theorem asc_compactK : ∀ l : List Key, l.Pairwise (fun a b => leKB a b = true) → (compactK l).Pairwise ltK
  | [], _ => .nil
  | [a], _ => by simp [compactK]
  | a :: b :: l, h => by
    have h1 := List.pairwise_cons.1 h
    have ih := asc_compactK (b :: l) h1.2
    simp only [compactK]
    by_cases e : a = b
    · rw [if_pos e]; exact ih
    · rw [if_neg e]
      refine List.pairwise_cons.2 ⟨fun c hc => ?_, ih⟩
      rw [mem_compactK] at hc
      have hab : ltK a b := by
        have := h1.1 b (by simp)
        simp only [leKB, Bool.not_eq_true', decide_eq_false_iff_not] at this
        apply Classical.byContradiction
        intro h3
        exact e (ltK_total h3 this)
      rcases List.mem_cons.1 hc with rfl | hc
      · exact hab
      · have := (List.pairwise_cons.1 h1.2).1 c hc
        simp only [leKB, Bool.not_eq_true', decide_eq_false_iff_not] at this
        by_cases e2 : b = c
        · subst e2; exact hab
        · refine ltK_trans hab ?_
          apply Classical.byContradiction
          intro h3
          exact e2 (ltK_total h3 this)
/-- **What the program's set comes to is what the document's comes to.** -/
theorem set_law (xs : List Key) : compactK (xs.mergeSort leKB) = setK xs := by
  refine asc_unique (asc_compactK _ ?_) (asc_setK xs) (fun c => ?_)
  · exact List.pairwise_mergeSort leKB_trans leKB_total xs
  · rw [mem_compactK, List.mem_mergeSort, mem_setK]
theorem compactK_length : ∀ l : List Key, (compactK l).length ≤ l.length
  | [] => by simp [compactK]
  | [a] => by simp [compactK]
  | a :: b :: l => by
    have ih := compactK_length (b :: l)
    simp only [compactK]
    split
    · simp at ih ⊢; omega
    · simp at ih ⊢; omega
theorem compactK_chain : ∀ l : List Key, (compactK l).length = l.length → ∀ j, (h : j + 1 < l.length) → l[j] ≠ l[j + 1]
  | [], _, j, h => by simp at h
  | [a], _, j, h => by simp at h
  | a :: b :: l, hl, j, h => by
    have h1 := compactK_length (b :: l)
    simp only [compactK] at hl
    by_cases e : a = b
    · rw [if_pos e] at hl; simp at hl h1; omega
    · rw [if_neg e] at hl
      cases j with
      | zero => simpa using e
      | succ j =>
        have := compactK_chain (b :: l) (by simpa using hl) j (by simpa using h)
        simpa using this
theorem compactK_asc : ∀ l : List Key, l.Pairwise ltK → compactK l = l
  | [], _ => rfl
  | [a], _ => rfl
  | a :: b :: l, h => by
    have h1 := List.pairwise_cons.1 h
    have h2 : a ≠ b := fun e => by subst e; exact ltK_irrefl a (h1.1 a (by simp))
    rw [compactK, if_neg h2, compactK_asc _ h1.2]
theorem asc_of_chain : ∀ l : List Key, (∀ j, (h : j + 1 < l.length) → ltK l[j] l[j + 1]) → l.Pairwise ltK
  | [], _ => .nil
  | [a], _ => by simp
  | a :: b :: l, h => by
    have h1 := asc_of_chain (b :: l) (fun j hj => by have := h (j + 1) (by simpa using hj); simpa using this)
    have h2 : ltK a b := h 0 (by simp)
    refine List.pairwise_cons.2 ⟨fun c hc => ?_, h1⟩
    rcases List.mem_cons.1 hc with rfl | hc
    · exact h2
    · exact ltK_trans h2 ((List.pairwise_cons.1 h1).1 c hc)
/-- **When a list may be, as the program asks.** -/
theorem right_law (xs : List Key) : rightB xs = true ↔ xs.length ≤ 200 ∧ (∀ k ∈ xs, mayK k = true) ∧ (∀ j, (h : j < xs.length - 1) → ¬ ltK (xs[j + 1]'(by omega)) (xs[j]'(by omega))) ∧ (compactK xs).length = xs.length := by
  rw [rightB, decide_eq_true_iff]
  constructor
  · rintro ⟨h1, h2, h3⟩
    refine ⟨h3, h1, fun j hj => ?_, by rw [compactK_asc _ h2]⟩
    exact ltK_asymm (List.pairwise_iff_getElem.1 h2 j (j + 1) (by omega) (by omega) (by omega))
  · rintro ⟨h1, h2, h3, h4⟩
    refine ⟨h2, asc_of_chain _ (fun j hj => ?_), h1⟩
    have h5 := h3 j (by omega)
    have h6 := compactK_chain xs h4 j hj
    apply Classical.byContradiction
    intro h7
    exact h6 (ltK_total h7 h5)
/-- Two lists have one in common. -/
def common (l m : List Key) : Bool := decide (∃ k ∈ l, k ∈ m)
theorem clash_law (a b : Sets) : (common a.writes b.writes || common a.writes b.reads || common a.reads b.writes) = clashS a b := by
  rw [Bool.eq_iff_iff]
  simp only [clashS, oneS, common, Bool.or_eq_true, decide_eq_true_iff]
  constructor
  · rintro ((⟨k, h1, h2⟩ | ⟨k, h1, h2⟩) | ⟨k, h1, h2⟩)
    · exact .inl ⟨k, h1, .inr h2⟩
    · exact .inl ⟨k, h1, .inl h2⟩
    · exact .inr ⟨k, h2, .inl h1⟩
  · rintro (⟨k, h1, h2 | h2⟩ | ⟨k, h1, h2 | h2⟩)
    · exact .inl (.inr ⟨k, h1, h2⟩)
    · exact .inl (.inl ⟨k, h1, h2⟩)
    · exact .inr ⟨k, h2, h1⟩
    · exact .inl (.inl ⟨k, h2, h1⟩)
theorem common_set (l m : List Key) : common (setK l) (setK m) = common l m := by
  rw [Bool.eq_iff_iff]; simp only [common, decide_eq_true_iff, mem_setK]
theorem common_nil_left (m : List Key) : common [] m = false := by simp [common]
theorem common_nil_right (m : List Key) : common m [] = false := by simp [common]
theorem makeS_eq (r w : List Key) : makeS r w = if ¬ ((∀ k ∈ r, mayK k = true) ∧ (∀ k ∈ w, mayK k = true)) then (noSets, 1) else if rightS ⟨setK r, setK w⟩ then (⟨setK r, setK w⟩, 0) else (noSets, 2) := by
  unfold makeS
  by_cases h : (∀ k ∈ r, mayK k = true) ∧ (∀ k ∈ w, mayK k = true)
  · have e : rightS ⟨setK r, setK w⟩ = decide ((setK r).length ≤ 200 ∧ (setK w).length ≤ 200) := by
      have h1 : ∀ xs : List Key, (∀ k ∈ xs, mayK k = true) → rightB (setK xs) = decide ((setK xs).length ≤ 200) := by
        intro xs hx
        have : ∀ k ∈ setK xs, mayK k = true := fun k hk => hx k ((mem_setK xs k).1 hk)
        simp only [rightB, asc_setK, true_and]
        rw [decide_eq_decide]
        exact ⟨fun h => h.2, fun h => ⟨this, h⟩⟩
      rw [rightS, h1 r h.1, h1 w h.2, Bool.decide_and]
    have h' : ¬ ¬ ((∀ k ∈ r, mayK k = true) ∧ (∀ k ∈ w, mayK k = true)) := fun hh => hh h
    rw [e, if_neg h', if_neg h']
    by_cases h2 : (setK r).length ≤ 200 ∧ (setK w).length ≤ 200
    · rw [if_neg (fun h3 => by omega), if_pos (decide_eq_true h2)]
    · rw [if_pos (show 200 < (setK r).length ∨ 200 < (setK w).length from by omega), if_neg (by simpa using h2)]
  · rw [if_pos h, if_pos h]
/-- What is in both of two lists, in the first one's order. -/
def commonL (l m : List Key) : List Key := l.filter fun k => decide (k ∈ m)
theorem commonL_nil (l m : List Key) : commonL l m = [] ↔ common l m = false := by
  rw [commonL, List.filter_eq_nil_iff, common, decide_eq_false_iff_not]
  simp
theorem commonL_lt {a b : Key} {l m : List Key} (h : ltK a b) (hm : (b :: m).Pairwise ltK) : commonL (a :: l) (b :: m) = commonL l (b :: m) := by
  have h1 : a ∉ b :: m := fun h2 => by
    rcases List.mem_cons.1 h2 with rfl | h2
    · exact ltK_irrefl _ h
    · exact ltK_asymm h ((List.pairwise_cons.1 hm).1 _ h2)
  rw [commonL, List.filter_cons_of_neg (by simpa using h1)]; rfl
theorem commonL_gt {a b : Key} {l m : List Key} (h : ltK b a) (hl : (a :: l).Pairwise ltK) : commonL (a :: l) (b :: m) = commonL (a :: l) m := by
  unfold commonL
  refine List.filter_congr fun k hk => ?_
  have : k ≠ b := fun e => by
    subst e
    rcases List.mem_cons.1 hk with rfl | h2
    · exact ltK_irrefl _ h
    · exact ltK_asymm h ((List.pairwise_cons.1 hl).1 _ h2)
  simp [this]
theorem commonL_eq {a : Key} {l m : List Key} (hl : (a :: l).Pairwise ltK) : commonL (a :: l) (a :: m) = a :: commonL l m := by
  unfold commonL
  rw [List.filter_cons_of_pos (by simp)]
  congr 1
  refine List.filter_congr fun k hk => ?_
  have : k ≠ a := fun e => by
    subst e
    exact ltK_irrefl _ ((List.pairwise_cons.1 hl).1 _ hk)
  simp [this]
end Go.Rail
set_option linter.unusedSimpArgs false
set_option linter.unusedVariables false
namespace Go.Rail
open Go
theorem roundIn_FR {r : Option Nat} {n : Nat} {P : Program} {l : Nat} {f : FuncId} {tm : Array Value} {as bo : Code} {w : World} {R : Ending → World → Prop} (h : RoundIn Fence.wide n P l f tm as bo w R) : RoundIn (FR r) n P l f tm as bo w R := by
  cases r with
  | none => exact h
  | some l => exact ⟨trivial, h.2⟩

/-- What a walk that begins at 'w0' with Mc must come to. -/
def RP (I : Imm) (Mc : Own) (w0 : World) (R : Value → List Fa → Own → Prop) : Ending → World → Prop :=
  fun e w' => ∃ v Φ' Mc' I', e = .returned v ∧ R v Φ' Mc' ∧ (∀ φ ∈ Φ', φ.p I') ∧ Wd ⟨I, doms Mc, w0⟩ I' Mc' w'
/-- What a yield does: as a function's contract. -/
def FnY (P : Program) (l : Nat) (args : List Value) (Φ : List Fa) (Mc : Own) (R : Value → List Fa → Own → Prop) : Prop :=
  ∀ I w, (∀ φ ∈ Φ, φ.p I) → Wd ⟨I, doms Mc, w⟩ I Mc w →
    ∃ f tm as bo, (Instr.yield l args.toArray).run P w = .ok (.round l f tm as bo) w ∧ RoundIn Fence.wide 0 P l f tm as bo w (RP I Mc w R)

/-- What is between two rounds: facts, blocks. -/
abbrev St := List Fa × Own
/-- What a yield hands back: on, or stop. -/
def YR (nx : St) (Z : St → Prop) : Value → List Fa → Own → Prop := fun u Φ' M' => (u = .bool true ∧ Φ' = nx.1 ∧ M' = nx.2) ∨ (u = .bool false ∧ Z (Φ', M'))
/-- What an iterator hands back. -/
def IR (nx : St) (Z : St → Prop) : Value → List Fa → Own → Prop := fun _ Φ' M' => (Φ' = nx.1 ∧ M' = nx.2) ∨ Z (Φ', M')
/-- **An iterator's contract**: it yields these, in order, until it is told to stop. -/
def IterS (P : Program) (gf : FuncId) (lb : List Value) (enc : List (List Value)) (Φ : List Fa) : Prop :=
  ∀ (l : Nat) (T : Nat → St) (Z : St → Prop), (∀ k (h : k < enc.length), FnY P l enc[k] (T k).1 (T k).2 (YR (T (k + 1)) Z)) →
    Fn P gf (.func (.yield l) #[] #[] :: lb) (Φ ++ (T 0).1) (T 0).2 (IR (T enc.length) Z)

section
variable {x : Cx} {Q : Exit → Act → World → Prop} {Φ : List Fa} {L : Env} {M : Own} {ops : Array Oper} {K : Act → World → Prop}
variable {d : Nat} {ty : TypeId} {pos : String} {af : Array Edge} {g : Option (Nat × Bool)}
/-- A yield. -/
theorem o_yield {y : Operand} {args : List Operand} {vs : List Value} {ts : Array TypeId} {l : Nat} {Φc : List Fa} {Mc Mr : Own} {nx : St} {Z : St → Prop}
    (hdN : Nat.blt d x.N = true) (hg : gd ops L g = some true) (hy : ev L y = some (.func (.yield l) #[] #[])) (hargs : args.mapM (ev L) = some vs) (c : FnY x.P l vs Φc Mc (YR nx Z)) (hΦ : ∀ I, (∀ φ ∈ Φ, φ.p I) → ∀ φ ∈ Φc, φ.p I) (hM : M.Perm (Mc ++ Mr))
    (h : G x (nx.1 ++ Φ) ((d, .bool true) :: L) (nx.2 ++ Mr) K) (hz : ∀ s, Z s → G x (s.1 ++ Φ) ((d, .bool false) :: L) (s.2 ++ Mr) K) : OpK x ops Q ⟨some d, .call ⟨.value y, args.toArray, ts⟩, ty, pos, af, g⟩ Φ L M K := by
  intro I a w hp hk hw
  unfold opRun
  rw [if_pos (gd_wanted hk hg)]
  refine ⟨fun f _ => FR_fn _ f, ?_⟩
  rw [Oper.semAt_eq _ _ _ (by simp)]
  have hw' := hw.perm hM
  have hws : Wd ⟨I, doms Mc, w⟩ I Mc w := hw'.start (List.sublist_append_left _ _)
  obtain ⟨f, tm, as, bo, hyl, hc⟩ := c I w (hΦ I hp) hws
  have hrun : (execOp a.eval ⟨some d, .call ⟨.value y, args.toArray, ts⟩, ty, pos, af, g⟩).run x.P w = .ok (.round l f tm as bo) w := by
    simp [execOp, resolve, hk.eval hy, Deferred.ofValue, evs_map hk hargs, invoke, hyl, Sem.run_bind, Result.andThen, Sem.run_pure]
  rw [hrun]
  simp only [Oper.uponIn]
  refine ⟨fun hd => (by rw [FR_depth] at hd; cases hd), (roundIn_FR hc).mono ?_⟩
  rintro e w' ⟨v, Φ', Mc', I', rfl, hR, hf', hwd⟩
  have hall : ∀ φ ∈ Φ' ++ Φ, φ.p I' := by
    intro φ hφ
    rcases List.mem_append.1 hφ with hφ | hφ
    · exact hf' φ hφ
    · exact φ.mono _ _ hwd.up (hp φ hφ)
  rcases hR with ⟨rfl, rfl, rfl⟩ | ⟨rfl, hZ⟩
  · exact h I' _ w' hall (hk.put _ hdN) (hw'.back hwd)
  · exact hz _ hZ I' _ w' hall (hk.put _ hdN) (hw'.back hwd)

/-- A slice's literal: its block lies unchanging, cell by cell. -/
theorem o_litB {α : Type} [GoTy α] {t e n : Nat} {parts : List (Nat × Operand)} {vs : List Value} {xs : List α} {zs : List Value} [ht : SlTy x.P t e] [hs : Siz x.P e (GoTy.sz α)] [hz : Zer x.P e zs] (hsz : n * GoTy.sz α ≤ 16777216 ∧ zs.length = GoTy.sz α ∧ 0 < GoTy.sz α) (hdN : Nat.blt d x.N = true) (hg : gd ops L g = some true)
    (hv : evSeq L 0 parts = some vs) (hx : RpL Φ vs xs) (hn : xs.length = n) (h : ∀ b, G x (fBlk b ((vs.map cellsL).flatten) e :: Φ) ((d, .slice (some ⟨b, 0, none⟩) n n) :: L) M K) : OpK x ops Q ⟨some d, .buildSlice t n parts.toArray, ty, pos, af, g⟩ Φ L M K :=
  OpK.mem rfl hdN hg (by simp) (fun I a w hp hk hw => by
    obtain ⟨e1, e2, e3⟩ := RpL.cells hp hx
    obtain ⟨zv, hzr, hzs⟩ := hz.h w
    have hzc : zv.cells.size = GoTy.sz α := by rw [← Array.length_toList, cells_toList, hzs]; exact hsz.2.1
    let o : Obj := Ob ((vs.map cellsL).flatten) e
    have hfill : ∀ c : Array Value, c.size = n * GoTy.sz α → Instr.fill (fun i => some (i * GoTy.sz α, GoTy.sz α)) c (vs.zipIdx 0 |>.map fun p => (p.2, p.1)) = some ((vs.map cellsL).flatten).toArray := by
      intro c hc
      have := fill_seq (GoTy.sz α) vs 0 [] c.toList (by simp) (by simp [hc, e1, hn]) e2
      simpa using this
    have hrun : (execOp a.eval ⟨some d, .buildSlice t n parts.toArray, ty, pos, af, g⟩).run x.P w = .ok (.value (.slice (some ⟨w.heap.size, 0, none⟩) n n)) (w.alloc o) := by
      have hev : (parts.toArray.map fun (x : Nat × Operand) => match x with | (i, x) => (i, a.eval x)).toList = (vs.zipIdx 0 |>.map fun p => (p.2, p.1)) := by
        rw [← evSeq_zip hk hv]; simp
      simp only [execOp, Instr.buildSlice, Sem.run_bind, run_underlying ht.h, hs.h, Result.andThen_ok]
      rw [if_neg (by omega)]
      by_cases h0 : n * GoTy.sz α = 0
      · simp only [h0, if_true, Sem.run_pure, Sem.run_bind, Result.andThen_ok, hev]
        have := hfill (Array.map (fun x => (#[] : Array Value)[x % (#[] : Array Value).size]!) (Array.range 0)) (by simp [h0])
        rw [this]
        simp [newRow, Sem.run_bind, Result.andThen, Sem.run_pure, o, Ob]
      · simp only [h0, if_false, Sem.run_pure, Sem.run_bind, Result.andThen_ok, hev, hzr]
        have := hfill (Array.map (fun x => zv.cells[x % zv.cells.size]!) (Array.range (n * GoTy.sz α))) (by simp)
        rw [this]
        simp [newRow, Sem.run_bind, Result.andThen, Sem.run_pure, o, Ob]
    have hw' := hw.alloc o
    have hn0 : I w.heap.size = none := hw'.sep (w.heap.size, o) (by simp)
    refine ⟨_, w.alloc o, _, M, _, hrun, ?_, hw'.give, h w.heap.size⟩
    intro φ hφ
    rcases List.mem_cons.1 hφ with rfl | hφ
    · show (if w.heap.size = w.heap.size then some o else I w.heap.size) = some o; simp
    · exact φ.mono _ _ (Le.give hn0) (hp φ hφ))

/-- A slice's literal: its block lies unchanging, cell by cell: whatever its elements are. -/
theorem o_litC {t e n sz : Nat} {parts : List (Nat × Operand)} {vs : List Value} {zs : List Value} [ht : SlTy x.P t e] [hs : Siz x.P e (sz)] [hz : Zer x.P e zs] (hsz : n * sz ≤ 16777216 ∧ zs.length = sz ∧ 0 < sz) (hdN : Nat.blt d x.N = true) (hg : gd ops L g = some true)
    (hv : evSeq L 0 parts = some vs) (e1 : vs.length = n) (e2 : ∀ v ∈ vs, (cellsL v).length = sz) (h : ∀ b, G x (fBlk b ((vs.map cellsL).flatten) e :: Φ) ((d, .slice (some ⟨b, 0, none⟩) n n) :: L) M K) : OpK x ops Q ⟨some d, .buildSlice t n parts.toArray, ty, pos, af, g⟩ Φ L M K :=
  OpK.mem rfl hdN hg (by simp) (fun I a w hp hk hw => by
    obtain ⟨zv, hzr, hzs⟩ := hz.h w
    have hzc : zv.cells.size = sz := by rw [← Array.length_toList, cells_toList, hzs]; exact hsz.2.1
    let o : Obj := Ob ((vs.map cellsL).flatten) e
    have hfill : ∀ c : Array Value, c.size = n * sz → Instr.fill (fun i => some (i * sz, sz)) c (vs.zipIdx 0 |>.map fun p => (p.2, p.1)) = some ((vs.map cellsL).flatten).toArray := by
      intro c hc
      have := fill_seq (sz) vs 0 [] c.toList (by simp) (by simp [hc, e1]) e2
      simpa using this
    have hrun : (execOp a.eval ⟨some d, .buildSlice t n parts.toArray, ty, pos, af, g⟩).run x.P w = .ok (.value (.slice (some ⟨w.heap.size, 0, none⟩) n n)) (w.alloc o) := by
      have hev : (parts.toArray.map fun (x : Nat × Operand) => match x with | (i, x) => (i, a.eval x)).toList = (vs.zipIdx 0 |>.map fun p => (p.2, p.1)) := by
        rw [← evSeq_zip hk hv]; simp
      simp only [execOp, Instr.buildSlice, Sem.run_bind, run_underlying ht.h, hs.h, Result.andThen_ok]
      rw [if_neg (by omega)]
      by_cases h0 : n * sz = 0
      · simp only [h0, if_true, Sem.run_pure, Sem.run_bind, Result.andThen_ok, hev]
        have := hfill (Array.map (fun x => (#[] : Array Value)[x % (#[] : Array Value).size]!) (Array.range 0)) (by simp [h0])
        rw [this]
        simp [newRow, Sem.run_bind, Result.andThen, Sem.run_pure, o, Ob]
      · simp only [h0, if_false, Sem.run_pure, Sem.run_bind, Result.andThen_ok, hev, hzr]
        have := hfill (Array.map (fun x => zv.cells[x % zv.cells.size]!) (Array.range (n * sz))) (by simp)
        rw [this]
        simp [newRow, Sem.run_bind, Result.andThen, Sem.run_pure, o, Ob]
    have hw' := hw.alloc o
    have hn0 : I w.heap.size = none := hw'.sep (w.heap.size, o) (by simp)
    refine ⟨_, w.alloc o, _, M, _, hrun, ?_, hw'.give, h w.heap.size⟩
    intro φ hφ
    rcases List.mem_cons.1 hφ with rfl | hφ
    · show (if w.heap.size = w.heap.size then some o else I w.heap.size) = some o; simp
    · exact φ.mono _ _ (Le.give hn0) (hp φ hφ))

/-- The length of a slice of one's own. -/
theorem o_lenO {t e : TypeId} {y : Operand} {sz n : Nat} {v : Value} (o : OR) (ho : IsOwn sz v n o) [ht : SlTy x.P t e] (hdN : Nat.blt d x.N = true) (hg : gd ops L g = some true) (hy : ev L y = some v)
    (h : G x Φ ((d, .int .i64 n) :: L) M K) : OpK x ops Q ⟨some d, .call ⟨.builtin .len, #[y], #[t]⟩, ty, pos, af, g⟩ Φ L M K := by
  cases o with
  | none => obtain ⟨rfl, rfl⟩ := ho; exact o_lenS hdN hg hy h
  | some q => obtain ⟨b, cs⟩ := q; obtain ⟨cap, rfl, _⟩ := ho; exact o_lenS hdN hg hy h
/-- What hands back a slice of its own may be said to hand back data. -/
theorem Fn.given {P : Program} {f : FuncId} {args : List Value} {Φc : List Fa} {e : TypeId} {α : Type} [GoTy α] {xs : List α} (h : Fn P f args Φc [] (ROwn e xs)) : FnD P f args Φc (fun v => [fRp v xs]) := by
  intro I w hp hw
  refine (h I w hp hw).mono ?_
  rintro e' w' ⟨v, Φ', Mc', I', rfl, ⟨o, ho, rfl, rfl⟩, hf, hwd⟩
  exact G.giveOwn2 (x := ⟨P, none, ⟨I, doms [], w⟩, 0, []⟩) (Φ := [fRow (ocells o) xs]) (L := []) (M := ownM e o) (F := fun _ w' => ∃ v' Φ' Mc' I', (Ending.returned v = .returned v') ∧ (Φ' = [fRp v' xs] ∧ Mc' = []) ∧ (∀ φ ∈ Φ', φ.p I') ∧ Wd ⟨I, doms [], w⟩ I' Mc' w') v xs o e (Mr := []) ho inferInstance (List.Perm.refl _)
    (fun I'' a w'' hp'' _ hw'' => ⟨v, _, _, I'', rfl, ⟨rfl, rfl⟩, fun φ hφ => (by
      rcases List.mem_cons.1 hφ with rfl | h
      · exact hp'' _ (.head _)
      · cases h), hw''⟩) I' { tmps := #[], defers := [] } w' hf ⟨rfl, fun t v h => (by cases h), rfl⟩ hwd
/-- How the assignments of a round must end. -/
def BeginK (P : Program) (l : Nat) (bo : Code) (Qr : Exit → Act → World → Prop) : Act → World → Prop := fun a w => ∃ w2, (Instr.beginRound l).run P w = .ok () w2 ∧ bo.wpIn (FR (some l)) 0 P Qr a w2
def AsP (P : Program) (l : Nat) (bo : Code) (I : Imm) (Mc : Own) (w0 : World) (R : Value → List Fa → Own → Prop) : Exit → Act → World → Prop :=
  Exit.then (BeginK P l bo (roundPost P l (RP I Mc w0 R))) (fun _ _ _ => False)

theorem putObj_turn {E : Ent} {I : Imm} {M M' : Own} {b : Nat} {o o' : Obj} {w : World} (h : Wd E I M w) (m : MDel M b o M') : Wd E I ((b, o') :: M') (w.putObj b o') := by
  have h1 := h.perm m.h
  have hlt := h1.lt (p := (b, o)) (by simp)
  exact Wd.turn (M1 := []) h1 rfl rfl rfl rfl (by simp) (World.putObj_heap_same hlt) (fun k hk => World.putObj_heap_other hk)

theorem G.begin {P : Program} {l : Nat} {bo : Code} {E : Ent} {I : Imm} {Mc : Own} {w0 : World} {R : Value → List Fa → Own → Prop} {N : Nat} {ds : List Deferred} {r : Loop} {M' : Own} [m : MDel M l (.loop r) M'] (hr : r.state = .ready)
    (h : W ⟨P, some l, E, N, ds⟩ bo (roundPost P l (RP I Mc w0 R)) Φ L ((l, .loop { r with state := .busy }) :: M')) : G ⟨P, some l, E, N, ds⟩ Φ L M (BeginK P l bo (roundPost P l (RP I Mc w0 R))) := by
  intro I' a w hp hk hw
  have hl : w.heap[l]? = some (.loop r) := (hw.perm m.h).own (l, .loop r) (by simp)
  exact ⟨_, run_beginRound hl hr, h I' a _ hp hk (putObj_turn hw m)⟩
/-- A round's end. -/
theorem G.roundEnd {P : Program} {l : Nat} {I0 : Imm} {Mc : Own} {w0 : World} {R : Value → List Fa → Own → Prop} {N : Nat} {ds : List Deferred} {r : Loop} {M' M'' : Own} {Φ' : List Fa} (m : MDel M l (.loop r) M')
    (hR : R (.bool true) Φ' ((l, .loop { r with state := .ready, pending := none }) :: M'')) (hΦ : Ents Φ Φ') (hM : M''.Sublist M') : G ⟨P, some l, ⟨I0, doms Mc, w0⟩, N, ds⟩ Φ L M (roundPost P l (RP I0 Mc w0 R) .normal) := by
  intro I a w hp hk hw
  have hl : w.heap[l]? = some (.loop r) := (hw.perm m.h).own (l, .loop r) (by simp)
  exact ⟨_, _, run_endRound none hl, _, Φ', _, I, rfl, hR, hΦ.h I hp, (putObj_turn hw m).sub (hM.cons_cons _)⟩
theorem G.roundRet {P : Program} {l : Nat} {I0 : Imm} {Mc : Own} {w0 : World} {R : Value → List Fa → Own → Prop} {N : Nat} {ds : List Deferred} {r : Loop} {M' M'' : Own} {Φ' : List Fa} (m : MDel M l (.loop r) M')
    (hR : R (.bool false) Φ' ((l, .loop { r with state := .done, pending := some .ret }) :: M'')) (hΦ : Ents Φ Φ') (hM : M''.Sublist M') : G ⟨P, some l, ⟨I0, doms Mc, w0⟩, N, ds⟩ Φ L M (roundPost P l (RP I0 Mc w0 R) .ret) := by
  intro I a w hp hk hw
  have hl : w.heap[l]? = some (.loop r) := (hw.perm m.h).own (l, .loop r) (by simp)
  exact ⟨_, _, run_endRound (some .ret) hl, _, Φ', _, I, rfl, hR, hΦ.h I hp, (putObj_turn hw m).sub (hM.cons_cons _)⟩
theorem G.roundExit {P : Program} {l id : Nat} {I0 : Imm} {Mc : Own} {w0 : World} {R : Value → List Fa → Own → Prop} {N : Nat} {ds : List Deferred} {r : Loop} {M' M'' : Own} {Φ' : List Fa} (m : MDel M l (.loop r) M')
    (hR : R (.bool false) Φ' ((l, .loop { r with state := .done, pending := some (.exit id) }) :: M'')) (hΦ : Ents Φ Φ') (hM : M''.Sublist M') : G ⟨P, some l, ⟨I0, doms Mc, w0⟩, N, ds⟩ Φ L M (roundPost P l (RP I0 Mc w0 R) (.exit id)) := by
  intro I a w hp hk hw
  have hl : w.heap[l]? = some (.loop r) := (hw.perm m.h).own (l, .loop r) (by simp)
  exact ⟨_, _, run_endRound (some (.exit id)) hl, _, Φ', _, I, rfl, hR, hΦ.h I hp, (putObj_turn hw m).sub (hM.cons_cons _)⟩

/-- The slots of a round: what was yielded, put into the parameters. -/
theorem Kn.params {N : Nat} {ds : List Deferred} {a : Act} (hk : Kn N L ds a) : ∀ (ps : List Nat) (vs : List Value), (∀ p ∈ ps, Nat.blt p N = true) → Kn N ((ps.zip vs).reverse ++ L) [] { tmps := (ps.zip vs).foldl (fun t (p, v) => t.setIfInBounds p v) a.tmps, defers := [] } := by
  intro ps
  suffices H : ∀ (ps : List Nat) (vs : List Value) (tm : Array Value) (L : Env), tm.size = N → (∀ t v, look L t = some v → tm[t]? = some v) → (∀ p ∈ ps, Nat.blt p N = true) →
      Kn N ((ps.zip vs).reverse ++ L) [] { tmps := (ps.zip vs).foldl (fun t (p, v) => t.setIfInBounds p v) tm, defers := [] } from fun vs h => H ps vs a.tmps L hk.sz hk.val h
  intro ps
  induction ps with
  | nil => intro vs tm L hs hv _; exact ⟨hs, hv, rfl⟩
  | cons p ps ih =>
    intro vs tm L hs hv hp
    cases vs with
    | nil => exact ⟨hs, hv, rfl⟩
    | cons v vs =>
      simp only [List.zip_cons_cons, List.reverse_cons, List.append_assoc, List.singleton_append, List.foldl_cons]
      have k1 : Kn N L [] { tmps := tm, defers := [] } := ⟨hs, hv, rfl⟩
      have k2 := k1.put v (hp p (by simp))
      exact ih vs _ _ k2.sz k2.val (fun q hq => hp q (by simp [hq]))

/-- **The statement.** S k: what is known behind k rounds; X c: what is known where a round was left by the jump c. -/
theorem W.rangeFunc {P : Program} {E : Ent} {N : Nat} {ds : List Deferred} {Q : Exit → Act → World → Prop} {gop : Operand} {ps : List Nat} {as bo : Code} {gf : FuncId} {lb : List Value} {enc : List (List Value)} {Φi : List Fa} {Mr : Own}
    (S : Nat → St) (X : Code → St → Prop)
    (hy : ev L gop = some (.func (.func gf) #[] lb.toArray)) [hf : HasFn P gf] (hit : IterS P gf lb enc Φi) (hps : ∀ p ∈ ps, Nat.blt p N = true) (hen : ∀ vs ∈ enc, vs.length = ps.length)
    (hΦi : Ents Φ Φi) (hΦ : Ents Φ (S 0).1) (hM : M.Perm ((S 0).2 ++ Mr))
    (hround : ∀ (l : Nat) (r : Loop) (I0 : Imm) (w0 : World) (k : Nat) (hk : k < enc.length),
      W ⟨P, some l, ⟨I0, doms ((l, .loop { r with state := .ready, pending := none }) :: (S k).2), w0⟩, N, []⟩ as (AsP P l bo I0 ((l, .loop { r with state := .ready, pending := none }) :: (S k).2) w0 (YR ((S (k + 1)).1, (l, .loop { r with state := .ready, pending := none }) :: (S (k + 1)).2) (fun s => ∃ c s', X c s' ∧ s = (s'.1, (l, .loop { r with state := .done, pending := some c }) :: s'.2))))
        (S k).1 ((ps.zip enc[k]).reverse ++ L) ((l, .loop { r with state := .ready, pending := none }) :: (S k).2))
    (hdone : ∀ D, G ⟨P, none, E, N, ⟨.collected D, #[]⟩ :: ds⟩ ((S enc.length).1 ++ Φ) L ((S enc.length).2 ++ (D, .deferred (some [])) :: Mr) (Q .normal))
    (hexit : ∀ D c s, X c s → W ⟨P, none, E, N, ⟨.collected D, #[]⟩ :: ds⟩ c Q (s.1 ++ Φ) L (s.2 ++ (D, .deferred (some [])) :: Mr)) :
    W ⟨P, none, E, N, ds⟩ (.rangeFunc gop ps.toArray as bo) Q Φ L M := by
  intro I a w hp hk hw
  refine wpIn_rangeFunc ?_
  intro fn hfn
  obtain ⟨r, hr⟩ : ∃ r : Loop, r = { state := .ready, pending := none, fn := fn, tmps := a.tmps, params := ps.toArray, assign := as, body := bo, defers := w.heap.size } := ⟨_, rfl⟩
  have hw1 := ((hw.perm hM).alloc (.deferred (some []))).alloc (.loop r)
  rw [World.size_alloc] at hw1
  have hw2 := hw1.perm (M' := ((w.heap.size + 1, .loop r) :: (S 0).2) ++ (w.heap.size, .deferred (some [])) :: Mr) (by
    refine .cons _ ?_
    exact List.perm_middle.symm)
  refine ⟨w.heap.size + 1, [{ target := .collected w.heap.size, args := #[] }], (w.alloc (.deferred (some []))).alloc (.loop r), { target := .fn (.func gf) lb.toArray, args := #[.func (.yield (w.heap.size + 1)) #[] #[]] }, (w.alloc (.deferred (some []))).alloc (.loop r), gf,
    (.func (.yield (w.heap.size + 1)) #[] #[] :: lb).toArray, (w.alloc (.deferred (some []))).alloc (.loop r), ?_, ?_, ?_, ?_, fun hd => (by rw [FR_depth] at hd; cases hd), ?_⟩
  · rw [hr]; exact run_enterLoop_outer _ _ _ _ _
  · simp only [resolve, hk.eval hy]
    simp [Deferred.ofValue, Sem.run_bind, Result.andThen, Sem.run_pure, Act.eval]
  · intro f' _; exact FR_fn _ f'
  · simp [invoke, hf.h]
  have hc := hit (w.heap.size + 1) (fun k => ((S k).1, (w.heap.size + 1, .loop r) :: (S k).2)) (fun s => ∃ c s', X c s' ∧ s = (s'.1, (w.heap.size + 1, .loop { r with state := .done, pending := some c }) :: s'.2)) ?_ I _ ?_ (hw2.start (List.sublist_append_left _ _))
  · refine (callsIn_FR hc).mono ?_
    rintro e w' ⟨v, Φ', Mc', I', rfl, hR, hf', hwd⟩
    have hback := hw2.back hwd
    have hkn : Kn N L (⟨.collected w.heap.size, #[]⟩ :: ds) { a with defers := [{ target := .collected w.heap.size, args := #[] }] ++ a.defers } := ⟨hk.sz, hk.val, by rw [hk.df]; rfl⟩
    have hall : ∀ φ ∈ Φ' ++ Φ, φ.p I' := by
      intro φ hφ
      rcases List.mem_append.1 hφ with hφ | hφ
      · exact hf' φ hφ
      · exact φ.mono _ _ hwd.up (hp φ hφ)
    rcases hR with ⟨rfl, rfl⟩ | ⟨c, s', hX, hs⟩
    · have hl : w'.heap[w.heap.size + 1]? = some (.loop r) := hback.own _ (List.mem_append_left _ List.mem_cons_self)
      refine ⟨_, _, run_endLoop hl (by rw [hr]; simp), ?_⟩
      have hpn : r.pending = none := by rw [hr]
      rw [hpn]
      exact hdone _ I' _ _ hall hkn ((putObj_turn hback (MDel.head (M := (S enc.length).2 ++ (w.heap.size, .deferred (some [])) :: Mr))).sub (List.sublist_cons_self _ _))
    · cases hs
      have hl : w'.heap[w.heap.size + 1]? = some (.loop { r with state := .done, pending := some c }) := hback.own _ (List.mem_append_left _ List.mem_cons_self)
      refine ⟨_, _, run_endLoop hl (by simp), ?_⟩
      exact hexit _ c s' hX I' _ _ hall hkn ((putObj_turn hback (MDel.head (M := s'.2 ++ (w.heap.size, .deferred (some [])) :: Mr))).sub (List.sublist_cons_self _ _))
  · intro k hkn I1 w1 hp1 hwd1
    have hl : w1.heap[w.heap.size + 1]? = some (.loop r) := hwd1.own _ List.mem_cons_self
    have hsz : enc[k].toArray.size = r.params.size := by rw [hr]; simp [hen _ (List.getElem_mem hkn)]
    refine ⟨_, _, _, _, run_yield hl hsz, ?_⟩
    refine roundIn_of_wpIn trivial ?_
    have hrr : { r with state := .ready, pending := none } = r := by rw [hr]
    have h3 := hround (w.heap.size + 1) r I1 w1 k hkn I1 _ w1 hp1 (hk.params ps enc[k] hps) (by rw [hrr]; exact hwd1)
    rw [hrr] at h3
    rw [hr] at h3 ⊢
    delta AsP BeginK at h3
    simpa [FR] using h3
  · intro φ hφ
    rcases List.mem_append.1 hφ with hφ | hφ
    · exact hΦi.h I hp φ hφ
    · exact hΦ.h I hp φ hφ

/-- A round of an unrolled loop, with marks more than at its beginning. -/
theorem G.roundM {P : Program} {r : Option Nat} {E E2 : Ent} {N N2 n : Nat} {ds ds2 : List Deferred} {c : Code} (h : W ⟨P, r, E, N, ds⟩ c (Exit.then (rounds ⟨P, r, E2, N2, ds2⟩ c Q n) Q) Φ L M) : G ⟨P, r, E, N, ds⟩ Φ L M (rounds ⟨P, r, E2, N2, ds2⟩ c Q (n + 1)) := h
/-- The end of a function that holds ranges over functions: their marks are come to. -/
theorem G.unmark {P : Program} {fn : Func} {I0 : Imm} {Mc : Own} {w0 : World} {E : Ent} {N : Nat} {ds : List Deferred} {R : Value → List Fa → Own → Prop} {D : Nat} {M' : Own} (m : MDel M D (.deferred (some [])) M')
    (h : G ⟨P, none, E, N, ds⟩ Φ L M' (Post P fn I0 Mc w0 R .ret)) : G ⟨P, none, E, N, ⟨.collected D, #[]⟩ :: ds⟩ Φ L M (Post P fn I0 Mc w0 R .ret) := by
  intro I a w hp hk hw
  change LeavesInM (FR none) 0 P fn a.tmps _ a.defers .returning w
  rw [hk.df]
  have hl : w.heap[D]? = some (.deferred (some [])) := (hw.perm m.h).own (D, .deferred (some [])) (by simp)
  refine ⟨(fun h => by cases h), .inl ⟨D, _, rfl, run_takeDeferred hl, ?_⟩⟩
  exact h I { a with defers := ds } _ hp ⟨hk.sz, hk.val, rfl⟩ ((putObj_turn hw m).sub (List.sublist_cons_self _ _))
end
end Go.Rail
set_option linter.unusedSimpArgs false
set_option linter.unusedVariables false
namespace Go.Rail
open Go
def AllR (p : Nat → Prop) : List Nat → Prop
  | [] => True
  | i :: l => p i ∧ AllR p l
theorem AllR.at {p : Nat → Prop} : ∀ {l : List Nat} {i : Nat}, AllR p l → i ∈ l → p i
  | a :: l, i, h, hi => by
    rcases List.mem_cons.1 hi with rfl | hi
    · exact h.1
    · exact AllR.at h.2 hi
section
variable {x : Cx} {Q : Exit → Act → World → Prop} {Φ : List Fa} {L : Env} {M : Own}
theorem W.any {id : Nat} {l : List Oper} (hm : x.P.follows .mixedOrders = true) (h : G x Φ L M (wpAnyIn (FR x.r) 0 x.P .any l.toArray Q l.length (Array.replicate l.length false))) : W x (.region id l.toArray true) Q Φ L M :=
  fun I a w hp hk hw => wpIn_region_any hm (by simpa using h I a _ hp hk hw.drew)
theorem G.anyStep {l : List Oper} {fuel : Nat} {listed : Array Bool} (rs : List Nat) (hr : Region.ready .any l.toArray listed = rs) (hlt : (rs.all fun i => Nat.blt i l.length) = true) (hne : rs.isEmpty = false)
    (h : AllR (fun i => OpK x l.toArray Q (l.getD i default) Φ L M (wpAnyIn (FR x.r) 0 x.P .any l.toArray Q fuel (listed.setIfInBounds i true))) rs) : G x Φ L M (wpAnyIn (FR x.r) 0 x.P .any l.toArray Q (fuel + 1) listed) := by
  intro I a w hp hk hw
  refine ⟨fun h0 => ?_, fun i hi => ?_⟩
  · rw [hr] at h0; rw [h0] at hne; cases hne
  · rw [hr] at hi
    have hil : i < l.length := by
      have := List.all_eq_true.1 hlt i hi
      simpa using this
    have h1 := AllR.at h hi I a w hp hk hw
    unfold wpOpIn
    have ho : l.toArray[i]? = some (l.getD i default) := by simp [hil]
    rw [ho]
    exact h1
theorem G.anyEnd {l : List Oper} {listed : Array Bool} (hr : Region.ready .any l.toArray listed = []) (h : G x Φ L M (Q .normal)) : G x Φ L M (wpAnyIn (FR x.r) 0 x.P .any l.toArray Q 0 listed) := fun I a w hp hk hw => ⟨hr, h I a w hp hk hw⟩
end
end Go.Rail
set_option linter.unusedSimpArgs false
set_option linter.unusedVariables false
namespace Go.Rail
open Go
section
variable {x : Cx} {Q : Exit → Act → World → Prop} {Φ : List Fa} {L : Env} {M : Own} {ops : Array Oper} {K : Act → World → Prop}
variable {d : Option Nat} {ty t t' : TypeId} {pos : String} {af : Array Edge} {g : Option (Nat × Bool)} {y z c : Operand} {o : Oper}
theorem kf_op {pp : Prop} (h : pp → OpK x ops Q o Φ L M K) : pp → OpK x ops Q o Φ L M K := h
theorem kf_g {F : Act → World → Prop} {pp : Prop} (h : pp → G x Φ L M F) : pp → G x Φ L M F := h
theorem kf_w {c : Code} {pp : Prop} (h : pp → W x c Q Φ L M) : pp → W x c Q Φ L M := h
theorem kf_lw {l : List Oper} {pp : Prop} (h : pp → LW x ops Q l Φ L M) : pp → LW x ops Q l Φ L M := h
theorem kf_move {pp : Prop} (h : pp → OpK x ops Q ⟨d, .move y, ty, pos, af, g⟩ Φ L M K) : pp → OpK x ops Q ⟨d, .move y, ty, pos, af, g⟩ Φ L M K := h
theorem kf_assign {pp : Prop} (h : pp → OpK x ops Q ⟨d, .assign y, ty, pos, af, g⟩ Φ L M K) : pp → OpK x ops Q ⟨d, .assign y, ty, pos, af, g⟩ Φ L M K := h
theorem kf_load {pp : Prop} (h : pp → OpK x ops Q ⟨d, .load t y, ty, pos, af, g⟩ Φ L M K) : pp → OpK x ops Q ⟨d, .load t y, ty, pos, af, g⟩ Φ L M K := h
theorem kf_store {pp : Prop} (h : pp → OpK x ops Q ⟨d, .store t y z, ty, pos, af, g⟩ Φ L M K) : pp → OpK x ops Q ⟨d, .store t y z, ty, pos, af, g⟩ Φ L M K := h
theorem kf_indexAddr {pp : Prop} (h : pp → OpK x ops Q ⟨d, .indexAddr t y z, ty, pos, af, g⟩ Φ L M K) : pp → OpK x ops Q ⟨d, .indexAddr t y z, ty, pos, af, g⟩ Φ L M K := h
theorem kf_fieldAddr {i : Nat} {pp : Prop} (h : pp → OpK x ops Q ⟨d, .fieldAddr t y i, ty, pos, af, g⟩ Φ L M K) : pp → OpK x ops Q ⟨d, .fieldAddr t y i, ty, pos, af, g⟩ Φ L M K := h
theorem kf_binOp {op : BinOp} {pp : Prop} (h : pp → OpK x ops Q ⟨d, .binOp op t y z t', ty, pos, af, g⟩ Φ L M K) : pp → OpK x ops Q ⟨d, .binOp op t y z t', ty, pos, af, g⟩ Φ L M K := h
theorem kf_unOp {op : UnOp} {pp : Prop} (h : pp → OpK x ops Q ⟨d, .unOp op t y, ty, pos, af, g⟩ Φ L M K) : pp → OpK x ops Q ⟨d, .unOp op t y, ty, pos, af, g⟩ Φ L M K := h
theorem kf_pick {pp : Prop} (h : pp → OpK x ops Q ⟨d, .pick c y z, ty, pos, af, g⟩ Φ L M K) : pp → OpK x ops Q ⟨d, .pick c y z, ty, pos, af, g⟩ Φ L M K := h
theorem kf_extract {i : Nat} {pp : Prop} (h : pp → OpK x ops Q ⟨d, .extract y i, ty, pos, af, g⟩ Φ L M K) : pp → OpK x ops Q ⟨d, .extract y i, ty, pos, af, g⟩ Φ L M K := h
theorem kf_build {ps : Array (Nat × Operand)} {pp : Prop} (h : pp → OpK x ops Q ⟨d, .build t ps, ty, pos, af, g⟩ Φ L M K) : pp → OpK x ops Q ⟨d, .build t ps, ty, pos, af, g⟩ Φ L M K := h
theorem kf_convert {pp : Prop} (h : pp → OpK x ops Q ⟨d, .convert t t' y, ty, pos, af, g⟩ Φ L M K) : pp → OpK x ops Q ⟨d, .convert t t' y, ty, pos, af, g⟩ Φ L M K := h
theorem kf_box {pp : Prop} (h : pp → OpK x ops Q ⟨d, .box t y, ty, pos, af, g⟩ Φ L M K) : pp → OpK x ops Q ⟨d, .box t y, ty, pos, af, g⟩ Φ L M K := h
theorem kf_alloc {pp : Prop} (h : pp → OpK x ops Q ⟨d, .alloc t, ty, pos, af, g⟩ Φ L M K) : pp → OpK x ops Q ⟨d, .alloc t, ty, pos, af, g⟩ Φ L M K := h
theorem kf_call {cl : Call} {pp : Prop} (h : pp → OpK x ops Q ⟨d, .call cl, ty, pos, af, g⟩ Φ L M K) : pp → OpK x ops Q ⟨d, .call cl, ty, pos, af, g⟩ Φ L M K := h
end
theorem stp {p q : Prop} (hp : p) (s : p → q := by
  first
    | (apply kf_op; first
      | exact OpK.pass rfl rfl rfl
      | (apply kf_move; first | exact o_move rfl rfl rfl)
      | (apply kf_assign; first | exact o_assign rfl rfl rfl)
      | (apply kf_pick; first | exact o_pick rfl rfl rfl rfl)
      | (apply kf_extract; first | exact o_extract rfl rfl rfl rfl)
      | (apply kf_load; first | exact o_load1 rfl rfl rfl rfl | (refine o_loadN (vs := ?_) rfl rfl rfl rfl ?_; rotate_left; (focus (repeat (first | exact NormL.nil rfl | (refine NormL.cons (t' := ?_) rfl ?_; rotate_left))); done)) | exact o_loadT (α := Key) _ rfl rfl rfl rfl (Key.le_all _) (Key.cells_all _) | exact o_loadT (α := Word) _ rfl rfl rfl rfl (Key.le_key _) (Key.cells_key _) | exact o_loadA rfl rfl rfl (by first | exact rfl | exact Nat.le_of_ble_eq_true rfl | decide | (simp; done) | omega) rfl)
      | (apply kf_indexAddr; first | exact o_index rfl rfl rfl rfl (by first | exact rfl | exact Nat.le_of_ble_eq_true rfl | decide | (simp; done) | omega) (by first | exact rfl | exact Nat.le_of_ble_eq_true rfl | decide | (simp; done) | omega) rfl)
      | (apply kf_fieldAddr; first | exact o_field rfl rfl rfl)
      | (apply kf_build; first | (refine o_build (cs := ?_) rfl rfl rfl ?_; rotate_left; (focus (repeat (first | exact FillR.nil | (refine FillR.cons (cs1 := ?_) rfl rfl (by first | exact rfl | exact Nat.le_of_ble_eq_true rfl | decide | (simp; done) | omega) (by first | exact rfl | exact Nat.le_of_ble_eq_true rfl | decide | (simp; done) | omega) ?_ ?_; rotate_left; (focus (repeat (first | exact NormL.nil rfl | (refine NormL.cons (t' := ?_) rfl ?_; rotate_left))); done)))))))
      | (apply kf_convert; first | exact o_conv rfl rfl rfl (by first | exact u64_wrap _ | exact u8_wrap _ | (rw [wrap_i64 (by omega) (by omega)]; rfl)))
      | (apply kf_store; first | (refine o_storeN (cs' := ?_) (M' := ?_) rfl rfl rfl rfl rfl rfl rfl ?_ ?_; rotate_left; rotate_left; (focus (repeat (first | exact NormL.nil rfl | (refine NormL.cons (t' := ?_) rfl ?_; rotate_left))); done); (focus infer_instance)) | exact o_store rfl rfl rfl rfl (by first | exact rfl | exact Nat.le_of_ble_eq_true rfl | decide | (simp; done) | omega) (by first | exact rfl | exact Nat.le_of_ble_eq_true rfl | decide | (simp; done) | omega) (by first | exact rfl | exact Nat.le_of_ble_eq_true rfl | decide | (simp; done) | omega) rfl)
      | (apply kf_binOp; first | exact o_int rfl rfl rfl rfl (by first | exact i_lss_t (by omega) | exact i_lss_f (by omega) | exact i_leq_t (by omega) | exact i_leq_f (by omega) | exact i_gtr_t (by omega) | exact i_gtr_f (by omega) | exact i_geq_t (by omega) | exact i_geq_f (by omega) | exact i_eql_t (by omega) | exact i_eql_f (by omega) | exact i_neq_t (by omega) | exact i_neq_f (by omega) | exact i_add (by omega) (by omega) | exact i_sub (by omega) (by omega) | exact i_mul (by omega) (by omega) | exact i_rem (by omega) | exact i_lss_d | exact i_leq_d | exact i_gtr_d | exact i_geq_d | exact i_eql_d | exact i_neq_d) | exact o_eql rfl rfl rfl rfl rfl  | exact o_neq rfl rfl rfl rfl rfl )
      | (apply kf_unOp; first | exact o_not rfl rfl rfl rfl  | exact o_neg rfl rfl rfl (neg_in (by omega) (by omega)))
      | (apply kf_call; first | exact o_len rfl rfl rfl  | exact o_lenS rfl rfl rfl ))
    | (apply kf_g; first | exact G.cons | exact G.then_normal | exact G.nil | exact G.in_normal | exact G.then_normalG | exact G.then_ret | exact G.in_ret | exact G.in_exit | exact G.in_exit_ne rfl | exact G.then_exit | exact G.round | exact G.code)
    | (apply kf_w; first | exact W.seq | exact W.region | exact W.cond_true rfl | exact W.cond_false rfl | exact W.block | exact W.skip | exact W.ret | exact W.exit)
    | (apply kf_lw; first | exact LW.cons | exact LW.nil)) : q := s hp
theorem stb {F : Nat → Prop} {q : Prop} (hp : ∀ b, F b) (s : (∀ b, F b) → q := by
  first
    | (apply kf_op; first
      | (apply kf_box; first | exact o_box rfl rfl rfl rfl)
      | (apply kf_alloc; first | exact o_alloc rfl rfl))) : q := s hp
theorem stl {F : Value → Prop} {q : Prop} (hp : ∀ v, F v) (s : (∀ v, F v) → q := by
  first
    | (apply kf_op; apply kf_load; exact o_loadR rfl rfl rfl rfl)) : q := s hp
section
variable {x : Cx} {Q : Exit → Act → World → Prop} {Φ : List Fa} {L : Env} {M : Own} {ops : Array Oper} {K : Act → World → Prop}
variable {d : Nat} {ty : TypeId} {pos : String} {af : Array Edge} {g : Option (Nat × Bool)}
theorem o_ixA {α : Type} [GoTy α] {t e : TypeId} {y z : Operand} {k : IntKind} {n : Int} {v : Value} {xs : List α} (i : Nat) [ht : SlTy x.P t e] [hs : Siz x.P e (GoTy.sz α)] [kr : KRp Φ v xs] (hdN : Nat.blt d x.N = true) (hg : gd ops L g = some true) (hy : ev L y = some v) (hz : ev L z = some (.int k n)) (hn : n = (i : Int))
    (hi : i < xs.length := by first | exact rfl | exact Nat.le_of_ble_eq_true rfl | decide | (simp; done) | omega) (h : ∀ p, G x (fPt p xs[i] :: Φ) ((d, p) :: L) M K) : OpK x ops Q ⟨some d, .indexAddr t y z, ty, pos, af, g⟩ Φ L M K := o_idxN i hdN hg hy hz hn hi h
theorem o_ixB {α : Type} [GoTy α] {t e : TypeId} {y z : Operand} {k : IntKind} {n : Int} {v : Value} {xs : List α} [ht : SlTy x.P t e] [hs : Siz x.P e (GoTy.sz α)] [kr : KRp Φ v xs] (hdN : Nat.blt d x.N = true) (hg : gd ops L g = some true) (hy : ev L y = some v) (hz : ev L z = some (.int k n))
    (h0 : 0 ≤ n := by first | exact rfl | exact Nat.le_of_ble_eq_true rfl | decide | (simp; done) | omega) (hi : n.toNat < xs.length := by first | exact rfl | exact Nat.le_of_ble_eq_true rfl | decide | (simp; done) | omega) (h : ∀ p, G x (fPt p xs[n.toNat] :: Φ) ((d, p) :: L) M K) : OpK x ops Q ⟨some d, .indexAddr t y z, ty, pos, af, g⟩ Φ L M K := o_idx hdN hg hy hz h0 hi h
end
theorem sti {F : Value → Prop} {q : Prop} (hp : ∀ v, F v) (s : (∀ v, F v) → q := by
  first
    | (apply kf_op; apply kf_indexAddr; first | exact fun h => o_ixA _ rfl rfl rfl rfl rfl (h := h) | exact fun h => o_ixB rfl rfl rfl rfl (h := h))) : q := s hp
theorem stf {p q : Prop} (hp : p) (s : p → q := by
  first
    | (apply kf_op; apply kf_load; exact fun h => o_loadF rfl rfl rfl rfl h)) : q := s hp
end Go.Rail
