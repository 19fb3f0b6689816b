/- A sorted list, and how the library sorts. -/
import Derived.Test.YtoiepfapghnccaaGreatRailC
import Derived.Shelf.SlSortCmp.NoneTotal
set_option linter.unusedSimpArgs false
set_option linter.unusedVariables false
namespace Go.Rail
open Go Go.Sort Go.Proofs
section row
variable {α : Type} [GoTy α] [GoFlat α]
theorem row_get {I : Imm} {cs : List Value} {xs : List α} (h : RowRep I cs 0 xs) (t : Nat) (ht : t < xs.length * GoTy.sz α) : cs[t]? = (xs[t / GoTy.sz α]?).bind fun x => (GoFlat.enc x)[t % GoTy.sz α]? := by
  have hs : 0 < GoTy.sz α := by
    rcases Nat.eq_zero_or_pos (GoTy.sz α) with h | h
    · rw [h] at ht; omega
    · exact h
  have hq : t / GoTy.sz α < xs.length := Nat.div_lt_of_lt_mul (by rw [Nat.mul_comm]; exact ht)
  have h1 := GoFlat.rep_iff.1 (h.2 _ hq)
  rw [List.getElem?_eq_getElem hq, Option.bind_some, ← h1]
  unfold chunk
  rw [List.getElem?_take, if_pos (Nat.mod_lt _ hs), List.getElem?_drop]
  congr 1
  have := Nat.div_add_mod t (GoTy.sz α)
  rw [Nat.mul_comm] at this; omega
theorem row_of_get {I : Imm} {cs : List Value} {xs : List α} (hl : xs.length * GoTy.sz α ≤ cs.length) (hsz : ∀ x : α, (GoFlat.enc x).length = GoTy.sz α) (h : ∀ t, t < xs.length * GoTy.sz α → cs[t]? = (xs[t / GoTy.sz α]?).bind fun x => (GoFlat.enc x)[t % GoTy.sz α]?) : RowRep I cs 0 xs := by
  refine ⟨by omega, fun k hk => GoFlat.rep_iff.2 ?_⟩
  have hk1 := Nat.mul_le_mul_right (GoTy.sz α) (Nat.succ_le_of_lt hk)
  rw [Nat.succ_mul] at hk1
  apply List.ext_getElem?
  intro i
  unfold chunk
  rw [List.getElem?_take]
  by_cases hi : i < GoTy.sz α
  · rw [if_pos hi, List.getElem?_drop, Nat.zero_add, h _ (by omega)]
    have e1 : (k * GoTy.sz α + i) / GoTy.sz α = k := by
      rw [Nat.mul_comm, Nat.mul_add_div (by omega), Nat.div_eq_of_lt hi, Nat.add_zero]
    have e2 : (k * GoTy.sz α + i) % GoTy.sz α = i := by
      rw [Nat.mul_comm, Nat.mul_add_mod, Nat.mod_eq_of_lt hi]
    rw [e1, e2, List.getElem?_eq_getElem hk, Option.bind_some]
  · rw [if_neg hi, List.getElem?_eq_none (by rw [hsz]; omega)]
end row
theorem Wd.grow {E : Ent} {I : Imm} {M : Own} {w : World} (h : Wd E I M w) (os : Array Obj) : Wd E I M (Go.Sort.grow w os) := by
  have hold : ∀ (b : Nat) (o : Obj), w.heap[b]? = some o → (Go.Sort.grow w os).heap[b]? = some o := by
    intro b o hb
    show (w.heap ++ os)[b]? = some o
    rw [Array.getElem?_append_left (Array.getElem?_eq_some_iff.1 hb).1, hb]
  refine ⟨h.os, h.tape, h.drawn, h.output, ?_, ?_, h.up, h.new, fun b o hb => hold b o (h.imm b o hb), fun p hp => hold _ _ (h.own p hp), h.sep, h.nd, h.low⟩
  · show E.w0.heap.size ≤ (w.heap ++ os).size
    rw [Array.size_append]; have := h.size; omega
  · intro b hb hD
    show (w.heap ++ os)[b]? = _
    rw [Array.getElem?_append_left (by have := h.size; omega), h.blk b hb hD]

/-- What a walk that owns nothing leaves behind is the world that it met, with draws and blocks more. -/
theorem Wd.grown {I I' : Imm} {w w' : World} (h : Wd ⟨I, [], w⟩ I' [] w') : ∃ q os', w' = Go.Sort.grow (w.drewN q) os' := by
  refine ⟨w'.drawn - w.drawn, w'.heap.extract w.heap.size w'.heap.size, ?_⟩
  have h1 := h.os
  have h2 := h.tape
  have h3 := h.drawn
  have h4 := h.output
  have h5 := h.size
  have h6 := h.blk
  obtain ⟨hp', tp', dr', os', ou'⟩ := w'
  simp only at h1 h2 h3 h4 h5 h6 ⊢
  subst h1 h2 h4
  simp only [Go.Sort.grow, World.drewN, World.mk.injEq, true_and, and_true]
  refine ⟨?_, by omega⟩
  apply Array.ext_getElem?
  intro k
  by_cases hk : k < w.heap.size
  · rw [Array.getElem?_append_left hk]; exact h6 k hk (by simp)
  · rw [Array.getElem?_append_right (by omega), Array.getElem?_extract]
    by_cases hk2 : k < hp'.size
    · rw [if_pos (by omega)]; congr 1; omega
    · rw [if_neg (by omega), Array.getElem?_eq_none (by omega)]

instance : Inhabited Key := ⟨⟨⟨List.replicate 20 0, by simp⟩, false, Word.zero⟩⟩
theorem swoK : SWO (ltOf cmpK) where
  irrefl x := by simp [ltOf, cmpK_self]
  trans x y z h1 h2 := by simp only [ltOf, decide_eq_true_eq] at *; exact cmpK_trans h1 h2
  ntrans x y z h1 h2 := by
    have h3 := leKB_trans z y x (by simpa [leKB, ltOf] using h2) (by simpa [leKB, ltOf] using h1)
    simpa [leKB, ltOf] using h3
theorem totK (x y : Key) (h1 : ltOf cmpK x y = false) (h2 : ltOf cmpK y x = false) : x = y := by
  simp only [ltOf, decide_eq_false_iff_not] at h1 h2
  exact ltK_total h1 h2
theorem leK_eq : (fun x y : Key => !ltOf cmpK y x) = leKB := rfl

theorem Fn.sort {P : Program} {ρ : Go.Shelf.Ren} {g : FuncId} {e : TypeId} [hf : HasFn P g] (L : SlLaysF0.n6 P ρ) (aE : ∀ w, (isAgg (ρ.t 24)).run P w = .ok true w) (zE : ∀ w, (Go.sizeOf (ρ.t 24)).run P w = .ok 25 w)
    (hc : ∀ x y : Key, FnV P g [x.v, y.v] [] (.int .i64 (cmpK x y))) (v : Value) (xs : List Key) (o : OR) (hx : xs.length ≤ 1000000) (ho : IsOwn 25 v xs.length o) :
    Fn P (ρ.f 6) [v, .func (.func g) #[] #[]] [fRow (ocells o) xs] (ownM e o) (RIn e v (xs.mergeSort leKB)) := by
  intro I w hp hw
  have hlen : (xs.mergeSort leKB).length = xs.length := List.length_mergeSort xs
  cases o with
  | none =>
    obtain ⟨rfl, hx0⟩ := ho
    have hxs : xs = [] := List.length_eq_zero_iff.1 hx0
    subst hxs
    refine (AnyF.slices_SortFunc_none L none 0 _ w).mono ?_
    rintro e' w' ⟨rfl, rfl⟩
    exact ⟨_, _, _, I, rfl, ⟨none, ⟨rfl, by simp⟩, rfl, rfl⟩, fun φ hφ => (by
      rcases List.mem_cons.1 hφ with rfl | h
      · exact ⟨by simp, fun k hk => by simp at hk⟩
      · cases h), hw⟩
  | some q =>
    obtain ⟨b, cs⟩ := q
    obtain ⟨cap, rfl, hcs, hcap⟩ := ho
    have hrow : RowRep I cs 0 xs := hp _ (.head _)
    by_cases hne : xs = []
    · subst hne
      refine (AnyF.slices_SortFunc_none L (some ⟨b, 0, none⟩) cap _ w).mono ?_
      rintro e' w' ⟨rfl, rfl⟩
      exact ⟨_, _, _, I, rfl, ⟨some (b, cs), ⟨cap, by simp, hcs, by simp⟩, rfl, rfl⟩, fun φ hφ => (by
        rcases List.mem_cons.1 hφ with rfl | h
        · exact ⟨by simp, fun k hk => by simp at hk⟩
        · cases h), hw⟩
    · have hb : w.heap[b]? = some (Ob cs e) := hw.own (b, Ob cs e) (by simp [ownM])
      have hH : HoldsK Key.cells 25 w b 0 xs.toArray := by
        intro j hj
        rw [size_flatK] at hj
        simp only [List.size_toArray] at hj
        have h1 := row_get hrow j hj
        have hq : j / 25 < xs.length := Nat.div_lt_of_lt_mul (by rw [Nat.mul_comm]; exact hj)
        have hm : j % 25 < 25 := Nat.mod_lt _ (by omega)
        refine ⟨?_, by rw [Nat.zero_add]; exact frozen_Ob hb⟩
        rw [Nat.zero_add, get_flatK _ _ _ j (by simpa using hj)]
        refine cell_Ob hb ?_
        rw [h1]
        show (xs[j / 25]?).bind (fun x => (Key.cells x)[j % 25]?) = _
        rw [List.getElem?_eq_getElem hq, Option.bind_some]
        have h3 : (Key.cells xs[j / 25]).length = 25 := Key.cells_length _
        rw [List.getElem?_eq_getElem (by omega)]
        simp [hq, h3, hm]
      have hcmp : CmpLays P g #[] Key.cells 25 cmpK b 0 xs.toArray.size w := by
        intro m os dk hdk x y
        refine (hc x y (fun _ => none) _ (fun _ h => by cases h) ⟨rfl, rfl, Nat.le_refl _, rfl, Nat.le_refl _, fun _ _ _ => rfl, Le.refl _, fun _ _ _ h => (by cases h), fun _ _ h => (by cases h), fun _ h => (by cases h), fun _ h => (by cases h), .nil, fun _ h => (by cases h)⟩).mono ?_
        rintro e' w' ⟨u, Φ', Mc', I', rfl, ⟨rfl, rfl, rfl⟩, _, hwd⟩
        exact ⟨rfl, hwd.grown⟩
      refine (AnyQ.slices_SortFunc_total L 25 aE zE Key.cells Key.cells_length (fun x v hv => List.all_eq_true.1 (Key.cells_one x) v hv) cmpK swoK g #[] b 0 cap xs.toArray w hf.h hcmp hH (hw.lt (p := (b, Ob cs e)) (by simp [ownM])) (by simp; omega) totK).mono ?_
      rintro e' w' ⟨rfl, n, os, rfl⟩
      rw [leK_eq]
      let F := flatK Key.cells 25 (xs.mergeSort leKB).toArray
      have hFs : F.size = xs.length * 25 := by simp [F, hlen]
      let cs' := (putCells id 0 F cs.toArray).toList
      have hcl : cs'.length = cs.length := by simp [cs', putCells]
      have hput : (putRow id (Sort.ahead w n) b 0 F).heap[b]? = some (Ob cs' e) := by
        have h9 : (Sort.ahead w n).heap[b]? = some (Ob cs e) := hb
        simp only [putRow, mapBlock, Array.getElem?_modify, if_true, h9, Option.map_some]
        simp [Ob, onCells, cs']
      have hoth : ∀ k, k ≠ b → (putRow id (Sort.ahead w n) b 0 F).heap[k]? = w.heap[k]? := by
        intro k hk
        simp only [putRow, mapBlock, Array.getElem?_modify]
        rw [if_neg (fun h => hk h.symm)]; rfl
      have hw1 : Wd ⟨I, doms (ownM e (some (b, cs))), w⟩ I [(b, Ob cs e)] (Sort.ahead w n) := Wd.drewBy hw rfl rfl rfl (Nat.le_add_right _ _) rfl
      have hw2 := Wd.turn (M1 := []) (M2 := []) hw1 (w' := putRow id (Sort.ahead w n) b 0 F) (o' := Ob cs' e) rfl rfl rfl rfl (Go.Sort.size_putRow _ _ _ _ _) hput hoth
      refine ⟨_, _, _, I, rfl, ⟨some (b, cs'), ⟨cap, by rw [hlen], by rw [hcl]; exact hcs, by rw [hlen]; exact hcap⟩, rfl, rfl⟩, ?_, hw2.grow os⟩
      intro φ hφ
      rcases List.mem_cons.1 hφ with rfl | h
      · refine row_of_get (by rw [hlen, show (ocells (some (b, cs'))).length = cs'.length from rfl, hcl]; have := hrow.1; omega) Key.cells_length (fun t ht => ?_)
        rw [hlen] at ht
        have ht25 : t < xs.length * 25 := ht
        have hq : t / 25 < (xs.mergeSort leKB).length := by rw [hlen]; exact Nat.div_lt_of_lt_mul (by rw [Nat.mul_comm]; exact ht)
        have htl : t < cs.length := by have := hrow.1; have e25 : GoTy.sz Key = 25 := rfl; omega
        have h3 : (Key.cells (xs.mergeSort leKB)[t / 25]).length = 25 := Key.cells_length _
        have hm : t % 25 < 25 := Nat.mod_lt _ (by omega)
        show cs'[t]? = ((xs.mergeSort leKB)[t / 25]?).bind fun x => (Key.cells x)[t % 25]?
        rw [List.getElem?_eq_getElem hq, Option.bind_some]
        have h8 : cs'[t]? = some F[t]! := by
          simp only [cs', putCells, Array.getElem?_toList, Array.getElem?_mapIdx]
          simp [htl, hFs, ht25]
        rw [h8, get_flatK _ _ _ t (by simpa [hlen] using ht25), getElem!_pos (xs.mergeSort leKB).toArray (t / 25) (by simpa using hq)]
        simp only [List.getElem_toArray]
        rw [getElem!_pos _ (t % 25) (by omega), List.getElem?_eq_getElem (by omega)]
      · cases h
end Go.Rail
