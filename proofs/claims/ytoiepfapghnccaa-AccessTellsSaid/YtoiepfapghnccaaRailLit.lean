/- Literals of slices; equality of arrays; appends onto a slice of one's own. -/
import Derived.Test.YtoiepfapghnccaaRailMore
import Derived.Laws.StructEq
import Derived.ChangeKeysEq
set_option linter.unusedSimpArgs false
set_option linter.unusedVariables false
namespace Go.Rail
open Go

theorem neg_in {p : Int} (h1 : -9223372036854775808 ≤ -p) (h2 : -p < 9223372036854775808) : Value.int .i64 (IntKind.i64.wrap (0 - p)) = .int .i64 (-p) := by
  rw [show 0 - p = -p from by omega, wrap_i64 h1 h2]

theorem run_eqItems1 {P : Program} {e d : Nat} {xs ys : Array Value} (f : Nat → Bool) (hag : ∀ w, (isAgg e).run P w = .ok false w) {w : World} : ∀ (is : List Nat),
    (∀ i ∈ is, ∃ a b, xs[i]? = some a ∧ ys[i]? = some b ∧ (Op.equalIn d e a b).run P w = .ok (f i) w) → (Op.eqItems d e 1 xs ys is).run P w = .ok (is.all f) w
  | [], _ => by simp [Op.eqItems]
  | i :: is, h => by
    obtain ⟨a, b, h1, h2, h3⟩ := h i (by simp)
    have ih := run_eqItems1 f hag is (fun j hj => h j (by simp [hj]))
    have p1 : (part e xs (i * 1)).run P w = .ok a w := by simp [part, hag, Sem.run_bind, Result.andThen, h1, Sem.run_pure]
    have p2 : (part e ys (i * 1)).run P w = .ok b w := by simp [part, hag, Sem.run_bind, Result.andThen, h2, Sem.run_pure]
    simp only [Op.eqItems, Sem.run_bind, p1, p2, h3, Result.andThen_ok]
    cases hf : f i with
    | false => simp [hf]
    | true => simp [hf, ih]
/-- Arrays of one-cell integers are the same, if each of them is. -/
theorem run_equalIn_ints {P : Program} {t e n d : Nat} {k k' : IntKind} {i : TypeInfo} (ht : P.underlying t = some (.array n e)) (he : P.underlying e = some (.int k')) (hi : P.info? e = some i) (hc : P.cellsOf e = 1) (hag : ∀ w, (isAgg e).run P w = .ok false w)
    (xs ys : List Int) (hx : xs.length = n) (hy : ys.length = n) (w : World) :
    (Op.equalIn (d + 2) t (.agg (xs.map (Value.int k)).toArray) (.agg (ys.map (Value.int k)).toArray)).run P w = .ok (decide (xs = ys)) w := by
  rw [run_equalIn_array w (d + 1) _ _ ht hi, hc, run_eqItems1 (fun j => xs[j]? == ys[j]?) hag]
  · congr 1
    rw [Bool.eq_iff_iff]
    simp only [List.all_eq_true, List.mem_range, beq_iff_eq, decide_eq_true_eq]
    constructor
    · intro h
      apply List.ext_getElem?
      intro j
      rcases Nat.lt_or_ge j n with hj | hj
      · exact h j hj
      · rw [List.getElem?_eq_none (by omega), List.getElem?_eq_none (by omega)]
    · intro h j _; rw [h]
  · intro j hj
    have hj : j < n := by simpa using hj
    refine ⟨.int k xs[j], .int k ys[j], by simp [hx, hj], by simp [hy, hj], ?_⟩
    rw [run_equalIn_int w d e k k' _ _ he]
    congr 1
    simp [hx, hy, hj]

section
variable {x : Cx} {Q : Exit → Act → World → Prop} {Φ : List Fa} {L : Env} {M : Own} {ops : Array Oper} {K : Act → World → Prop}
variable {d : Nat} {ty : TypeId} {pos : String} {af : Array Edge} {g : Option (Nat × Bool)}

/-- Values that read so, one by one. -/
def RpL {α : Type} [GoTy α] (Φ : List Fa) : List Value → List α → Prop
  | [], [] => True
  | v :: vs, y :: ys => (∀ I, (∀ ψ ∈ Φ, ψ.p I) → Rp I v y) ∧ RpL Φ vs ys
  | _, _ => False
theorem RpL.cells {α : Type} [GoTy α] {I : Imm} (hp : ∀ ψ ∈ Φ, ψ.p I) : ∀ {vs : List Value} {ys : List α}, RpL Φ vs ys → vs.length = ys.length ∧ (∀ v ∈ vs, (cellsL v).length = GoTy.sz α) ∧ RowRep I ((vs.map cellsL).flatten) 0 ys
  | [], [], _ => ⟨rfl, by simp, by simp [RowRep]⟩
  | v :: vs, y :: ys, h => by
    obtain ⟨h1, h2⟩ := h
    obtain ⟨e1, e2, e3, e4⟩ := RpL.cells hp h2
    have hr := (h1 I hp).cells
    have hl := GoTy.len hr
    refine ⟨by simp [e1], ?_, ?_, ?_⟩
    · intro u hu
      rcases List.mem_cons.1 hu with rfl | hu
      · exact hl
      · exact e2 u hu
    · simp only [List.length_cons, Nat.succ_mul, List.map_cons, List.flatten_cons, List.length_append, hl]
      omega
    · intro k hk
      unfold chunk
      cases k with
      | zero =>
        simp only [Nat.zero_mul, Nat.add_zero, List.drop_zero, List.map_cons, List.flatten_cons, List.getElem_cons_zero]
        rw [List.take_append_of_le_length (by omega), List.take_of_length_le (by omega)]
        exact hr
      | succ k =>
        have := e4 k (by simpa using hk)
        unfold chunk at this
        simp only [List.map_cons, List.flatten_cons, List.getElem_cons_succ]
        rw [show 0 + (k + 1) * GoTy.sz α = (cellsL v).length + (0 + k * GoTy.sz α) from by rw [hl, Nat.succ_mul]; omega, ← List.drop_drop, List.drop_left]
        exact this
  | [], _ :: _, h => h.elim
  | _ :: _, [], h => h.elim

/-- The parts of a slice's literal, in their order. -/
def evSeq (L : Env) : Nat → List (Nat × Operand) → Option (List Value)
  | _, [] => some []
  | i, (j, o) :: l => if j = i then (match ev L o, evSeq L (i + 1) l with
    | some v, some vs => some (v :: vs)
    | _, _ => none) else none

theorem fill_seq (size : Nat) : ∀ (vs : List Value) (k : Nat) (pre post : List Value), pre.length = k * size → post.length = vs.length * size → (∀ v ∈ vs, (cellsL v).length = size) →
    Instr.fill (fun i => some (i * size, size)) (pre ++ post).toArray (vs.zipIdx k |>.map fun p => (p.2, p.1)) = some (pre ++ (vs.map cellsL).flatten).toArray
  | [], k, pre, post, h1, h2, _ => by
    have : post = [] := List.length_eq_zero_iff.1 (by simpa using h2)
    subst this; simp [Instr.fill]
  | v :: vs, k, pre, post, h1, h2, h3 => by
    have hl := h3 v (by simp)
    have hpl : size ≤ post.length := by rw [h2, List.length_cons, Nat.succ_mul]; omega
    have hsz : v.cells.size = size := by rw [← Array.length_toList, cells_toList, hl]
    simp only [List.zipIdx_cons, List.map_cons, Instr.fill]
    rw [if_neg (by simp [hsz]; omega)]
    have h5 := foldl_splice (cellsL v) (pre ++ post) (k * size) 0 (by simp; omega)
    have e : v.cells = (cellsL v).toArray := by rw [← cells_toList, Array.toArray_toList]
    rw [Nat.add_zero] at h5
    rw [e, h5]
    have e2 : splice (pre ++ post) (k * size) (cellsL v) = (pre ++ cellsL v) ++ post.drop size := by
      unfold splice
      rw [← h1, List.take_left, hl, List.drop_append, List.drop_eq_nil_of_le (by omega)]
      simp
    rw [e2, fill_seq size vs (k + 1) (pre ++ cellsL v) (post.drop size) (by simp [hl, h1, Nat.succ_mul]) (by simp [h2, Nat.succ_mul]) (fun u hu => h3 u (by simp [hu]))]
    simp
theorem evSeq_zip {N : Nat} {ds : List Deferred} {a : Act} (hk : Kn N L ds a) : ∀ {l : List (Nat × Operand)} {i : Nat} {vs : List Value}, evSeq L i l = some vs → l.map (fun p => (p.1, a.eval p.2)) = (vs.zipIdx i).map fun p => (p.2, p.1)
  | [], i, vs, h => by simp [evSeq] at h; subst h; rfl
  | (j, o) :: l, i, vs, h => by
    simp only [evSeq] at h
    split at h
    · rename_i e; subst e
      cases hv : ev L o with
      | none => rw [hv] at h; cases h
      | some v =>
        cases hvs : evSeq L (j + 1) l with
        | none => rw [hv, hvs] at h; cases h
        | some vs' =>
          rw [hv, hvs] at h
          simp only [Option.some.injEq] at h
          subst h
          simp [hk.eval hv, evSeq_zip hk hvs]
    · cases h
/-- A slice's literal: it lies unchanging. -/
theorem o_lit {α : Type} [GoTy α] {t e n : Nat} {parts : List (Nat × Operand)} {vs : List Value} {xs : List α} {zs : List Value} [ht : SlTy x.P t e] [hs : Siz x.P e (GoTy.sz α)] [hz : Zer x.P e zs] (hsz : n * GoTy.sz α ≤ 16777216 ∧ zs.length = GoTy.sz α ∧ 0 < GoTy.sz α) (hdN : Nat.blt d x.N = true) (hg : gd ops L g = some true)
    (hv : evSeq L 0 parts = some vs) (hx : RpL Φ vs xs) (hn : xs.length = n) (h : ∀ v, G x (fRp v xs :: Φ) ((d, v) :: L) M K) : OpK x ops Q ⟨some d, .buildSlice t n parts.toArray, ty, pos, af, g⟩ Φ L M K :=
  OpK.mem rfl hdN hg (by simp) (fun I a w hp hk hw => by
    obtain ⟨e1, e2, e3⟩ := RpL.cells hp hx
    obtain ⟨zv, hzr, hzs⟩ := hz.h w
    have hzc : zv.cells.size = GoTy.sz α := by rw [← Array.length_toList, cells_toList, hzs]; exact hsz.2.1
    have hcl : ((vs.map cellsL).flatten).length = n * GoTy.sz α := by
      rw [List.length_flatten, List.map_map]
      have : vs.map (List.length ∘ cellsL) = vs.map fun _ => GoTy.sz α := List.map_congr_left fun v hv => e2 v hv
      rw [this, List.map_const', List.sum_replicate_nat, e1, hn]
    let o : Obj := Ob ((vs.map cellsL).flatten) e
    have hfill : ∀ c : Array Value, c.size = n * GoTy.sz α → Instr.fill (fun i => some (i * GoTy.sz α, GoTy.sz α)) c (vs.zipIdx 0 |>.map fun p => (p.2, p.1)) = some ((vs.map cellsL).flatten).toArray := by
      intro c hc
      have := fill_seq (GoTy.sz α) vs 0 [] c.toList (by simp) (by simp [hc, e1, hn]) e2
      simpa using this
    have hrun : (execOp a.eval ⟨some d, .buildSlice t n parts.toArray, ty, pos, af, g⟩).run x.P w = .ok (.value (.slice (some ⟨w.heap.size, 0, none⟩) n n)) (w.alloc o) := by
      have hev : (parts.toArray.map fun (x : Nat × Operand) => match x with | (i, x) => (i, a.eval x)).toList = (vs.zipIdx 0 |>.map fun p => (p.2, p.1)) := by
        rw [← evSeq_zip hk hv]; simp
      simp only [execOp, Instr.buildSlice, Sem.run_bind, run_underlying ht.h, hs.h, Result.andThen_ok]
      rw [if_neg (by omega)]
      by_cases h0 : n * GoTy.sz α = 0
      · simp only [h0, if_true, Sem.run_pure, Sem.run_bind, Result.andThen_ok, hev]
        have := hfill (Array.map (fun x => (#[] : Array Value)[x % (#[] : Array Value).size]!) (Array.range 0)) (by simp [h0])
        rw [this]
        simp [newRow, Sem.run_bind, Result.andThen, Sem.run_pure, o, Ob]
      · simp only [h0, if_false, Sem.run_pure, Sem.run_bind, Result.andThen_ok, hev, hzr]
        have := hfill (Array.map (fun x => zv.cells[x % zv.cells.size]!) (Array.range (n * GoTy.sz α))) (by simp)
        rw [this]
        simp [newRow, Sem.run_bind, Result.andThen, Sem.run_pure, o, Ob]
    have hw' := hw.alloc o
    have hg' := hw'.give
    have hnone : I w.heap.size = none := hw'.sep (w.heap.size, o) (by simp)
    refine ⟨_, w.alloc o, _, M, _, hrun, ?_, hg', h _⟩
    intro φ hφ
    rcases List.mem_cons.1 hφ with rfl | hφ
    · refine Rp.mkSlice ⟨by omega, fun hne => ⟨⟨w.heap.size, 0, none⟩, ((vs.map cellsL).flatten).toArray, e, (0, 0), rfl, rfl, ?_, ?_⟩⟩ hn.symm
      · simp [o, Ob]
      · exact (by simpa using e3 : RowRep I (((vs.map cellsL).flatten).toArray.toList) 0 xs).mono (Le.give hnone)
    · exact φ.mono _ _ (Le.give hnone) (hp φ hφ))
end
end Go.Rail
