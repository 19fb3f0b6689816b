/- The builtin clear, at a part of a slice of one's own. -/
import Derived.Test.YtoiepfapghnccaaRailExt
set_option linter.unusedSimpArgs false
set_option linter.unusedVariables false
namespace Go.Rail
open Go
section
variable {x : Cx} {Q : Exit → Act → World → Prop} {Φ : List Fa} {L : Env} {M : Own} {ops : Array Oper} {K : Act → World → Prop}
variable {d : Nat} {ty : TypeId} {pos : String} {af : Array Edge} {g : Option (Nat × Bool)}

/-- An operation that turns memory; what it yields goes nowhere. -/
theorem OpK.memV {o : Oper} (hd : o.dst = none) (hg : gd ops L o.guard = some true) (hnd : ∀ c, o.op ≠ .defer c)
    (h : ∀ I a w, (∀ φ ∈ Φ, φ.p I) → Kn x.N L x.ds a → Wd x.E I M w → ∃ v w' Φ' M' I', (execOp a.eval o).run x.P w = .ok (.value v) w' ∧ (∀ φ ∈ Φ', φ.p I') ∧ Wd x.E I' M' w' ∧ G x Φ' L M' K) : OpK x ops Q o Φ L M K := by
  intro I a w hp hk hw
  unfold opRun
  rw [if_pos (gd_wanted hk hg)]
  refine ⟨fun f _ => FR_fn _ f, ?_⟩
  obtain ⟨v, w', Φ', M', I', hr, hp', hw', hG⟩ := h I a w hp hk hw
  rw [Oper.semAt_eq _ _ _ hnd, hr]
  simp only [Oper.uponIn, hd]
  exact hG I' _ w' hp' (hk.put_none v) hw'
theorem RowRep.keep {α : Type} [GoTy α] {I : Imm} {cs vs : List Value} {xs : List α} {k : Nat} (h : RowRep I cs 0 xs) (hk : k ≤ xs.length) (hl : k * GoTy.sz α + vs.length ≤ cs.length) : RowRep I (splice cs (k * GoTy.sz α) vs) 0 (xs.take k) := by
  have hlen : (splice cs (k * GoTy.sz α) vs).length = cs.length := by simp [splice]; omega
  have hkl : (xs.take k).length = k := by simp; omega
  refine ⟨by rw [hlen, hkl]; omega, fun j hj => ?_⟩
  rw [hkl] at hj
  have h1 := h.2 j (by omega)
  have hjk := Nat.mul_le_mul_right (GoTy.sz α) (Nat.succ_le_of_lt hj)
  rw [Nat.succ_mul] at hjk
  unfold chunk at h1 ⊢
  rw [Nat.zero_add] at h1 ⊢
  rw [List.getElem_take]
  unfold splice
  rw [List.append_assoc, List.drop_append_of_le_length (by simp; omega), List.take_append_of_le_length (by simp; omega), List.drop_take, List.take_take, Nat.min_eq_left (by omega)]
  exact h1
theorem o_clearO {α : Type} [GoTy α] {t e bytes : Nat} {y : Operand} {b off n cap : Nat} {cs zs : List Value} {xs : List α} {Mr : Own} (k : Nat) (hk' : k ≤ xs.length) [ht : SlTy x.P t e] [hb : Inf x.P e zs (GoTy.sz α) bytes] [m : MDel M b (Ob cs e) Mr] [hr : KRow Φ cs xs] (hg : gd ops L g = some true) (hy : ev L y = some (.slice (some ⟨b, off, none⟩) n cap)) (ho : off = k * GoTy.sz α) (hle : off + n * GoTy.sz α ≤ cs.length) (hz : zs.length = GoTy.sz α) (h1 : ones zs = true)
    (h : ∀ cs', cs'.length = cs.length → G x (fRow cs' (xs.take k) :: Φ) L ((b, Ob cs' e) :: Mr) K) : OpK x ops Q ⟨none, .call ⟨.builtin .clear, #[y], #[t]⟩, ty, pos, af, g⟩ Φ L M K :=
  OpK.memV rfl hg (by simp) (fun I a w hp hk hw => by
    subst ho
    have hw' := hw.perm m.h
    have hbk := hw'.own (b, Ob cs e) (by simp)
    have hrow : RowRep I cs 0 xs := hp _ hr.h
    obtain ⟨ti, zv, hi, hz0, hzs, hsz, hby⟩ := hb.get
    have hzl : (Builtin.zeroCells zv.cells n).toList.length = n * GoTy.sz α := by
      rw [Array.length_toList, size_zeroCells, ← Array.length_toList, cells_toList, hzs, hz]
    by_cases hn : n = 0
    · subst hn
      refine ⟨.tuple #[], w, fRow cs (xs.take k) :: Φ, _, I, ?_, ?_, hw', h cs rfl⟩
      · simp [execOp, resolve, hk.eval hy, invoke, builtin, Builtin.clear_, run_underlying ht.h, Sem.run_bind, Result.andThen, Sem.run_pure]
      · intro φ hφ
        rcases List.mem_cons.1 hφ with rfl | hφ
        · exact hrow.take k
        · exact hp φ hφ
    · have hst := storeCells_obj (P := x.P) (vs := (Builtin.zeroCells zv.cells n).toList) hbk (by rw [hzl]; exact hle) (by
        rw [ones, List.all_eq_true]
        intro u hu
        simp only [Builtin.zeroCells, Array.toList_map, List.mem_map, Array.toList_range, List.mem_range] at hu
        obtain ⟨j, hj, rfl⟩ := hu
        have hs0 : 0 < zv.cells.size := by
          rcases Nat.eq_zero_or_pos zv.cells.size with h0 | h0
          · rw [h0] at hj; omega
          · exact h0
        have hlt : j % zv.cells.size < zv.cells.size := Nat.mod_lt _ hs0
        rw [getElem!_pos zv.cells _ hlt]
        rw [ones, List.all_eq_true] at h1
        refine h1 _ ?_
        rw [← hzs, ← cells_toList]
        simp)
      refine ⟨.tuple #[], w.setRow b (splice cs (k * GoTy.sz α) (Builtin.zeroCells zv.cells n).toList).toArray, fRow (splice cs (k * GoTy.sz α) (Builtin.zeroCells zv.cells n).toList) (xs.take k) :: Φ, (b, Ob (splice cs (k * GoTy.sz α) (Builtin.zeroCells zv.cells n).toList) e) :: Mr, I, ?_, ?_, Wd.setRow (cs := cs) (t := e) hw', h _ ?_⟩
      · have hnz : ∃ m, n = m + 1 := ⟨n - 1, by omega⟩
        obtain ⟨m, rfl⟩ := hnz
        have e1 : (Builtin.clear_ #[t] ty #[.slice (some ⟨b, k * GoTy.sz α, none⟩) (m + 1) cap]).run x.P w = .ok (.tuple #[]) (w.setRow b (splice cs (k * GoTy.sz α) (Builtin.zeroCells zv.cells (m + 1)).toList).toArray) := by
          have hst' := hst
          rw [show cs.take (k * GoTy.sz α) ++ (Builtin.zeroCells zv.cells (m + 1)).toList ++ cs.drop (k * GoTy.sz α + (Builtin.zeroCells zv.cells (m + 1)).toList.length) = splice cs (k * GoTy.sz α) (Builtin.zeroCells zv.cells (m + 1)).toList from rfl] at hst'
          simp [Builtin.clear_, run_underlying ht.h, zeroValue, typeInfo, hi, hz0, hst', Sem.run_bind, Result.andThen, Sem.run_pure]
        simp [execOp, resolve, hk.eval hy, invoke, builtin, e1, Sem.run_bind, Result.andThen, Sem.run_pure]
      · intro φ hφ
        rcases List.mem_cons.1 hφ with rfl | hφ
        · exact hrow.keep hk' (by rw [hzl]; exact hle)
        · exact hp φ hφ
      · simp [splice, hzl]; omega)
end
end Go.Rail
