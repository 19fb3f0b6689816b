/- From a contract to a statement: what is true of every input; the input reads as it did. -/
import Derived.Test.YtoiepfapghnccaaRailRead
import Derived.Test.YtoiepfapghnccaaRailCall
import Derived.SizedLaws
set_option linter.unusedSimpArgs false
set_option linter.unusedVariables false
namespace Go.Rail
open Go Go.RowKit Go.ChangeShapes Go.WideShapes Go.ChangeAt

theorem Fn.below {P : Program} {f : FuncId} {args : List Value} {Φ : List Fa} {R : Value → List Fa → Own → Prop} (c : Fn P f args Φ [] R) (W : World) (hΦ : ∀ φ ∈ Φ, φ.p (fun b => W.heap[b]?)) :
    Calls P f args.toArray W fun e W' => ∃ v Φ' M', e = .returned v ∧ R v Φ' M' ∧ Below W.heap.size W W' := by
  refine (c (fun b => W.heap[b]?) W hΦ ⟨rfl, rfl, Nat.le_refl _, rfl, Nat.le_refl _, fun _ _ _ => rfl, Le.refl _, fun _ _ _ h => .inl h, fun _ _ h => h, fun _ h => (by cases h), fun _ h => (by cases h), .nil, fun _ h => (by cases h)⟩).mono ?_
  rintro e W' ⟨v, Φ', M', I', rfl, hR, _, hw⟩
  exact ⟨v, Φ', M', rfl, hR, hw.os, hw.tape, hw.output, hw.size, fun k hk => hw.blk k hk (by simp)⟩

theorem trodAll_stays {H : Type} {enc : TypeId × Value → H} {P : Program} (hl : laidOutB P = true) {W W' : World} (hb : Below W.heap.size W W') {sp : Nat → Bool} :
    ∀ {ts : List TypeId} {vs : List Value} {ds : List (DataW H)} {ps : List MemPlace}, (ts.all fun t => P.readableRec t && decide (t < P.types.size)) = true → DataW.TrodAll enc P W 0 (fun _ => true) true ts vs ds ps →
      (∀ x ∈ ps, x.block < W.heap.size) → (∀ x ∈ ps, sp x.block = true) → DataW.TrodAll enc P W' 0 sp true ts vs ds ps
  | [], [], [], ps, _, h, _, _ => h
  | t :: ts, v :: vs, d :: ds, ps, ha, h, hlt, hsp => by
    obtain ⟨p, q, h1, h2, rfl⟩ := h
    simp only [List.all_cons, Bool.and_eq_true, decide_eq_true_eq] at ha
    exact ⟨p, q, WideElems.Trod_stays hl ha.1.1 ha.1.2 h1 (fun x hx => hb.same (hlt x (by simp [hx]))) (fun x hx => hsp x (by simp [hx])),
      trodAll_stays hl hb (by simpa using ha.2) h2 (fun x hx => hlt x (by simp [hx])) (fun x hx => hsp x (by simp [hx])), rfl⟩
  | [], [], _ :: _, _, _, h, _, _ => h.elim
  | [], _ :: _, _, _, _, h, _, _ => h.elim
  | _ :: _, [], _, _, _, h, _, _ => h.elim
  | _ :: _, _ :: _, [], _, _, h, _, _ => h.elim

theorem law_post {H : Type} {enc : TypeId × Value → H} {P : Program} {f : Func} {s : ChangeSpec} {W W' : World} {args : Array Value} {ds gs : List (DataW H)} {before : List MemPlace} {tb : TypeId} (hl : laidOutB P = true)
    (hall : (f.params.toList.all fun t => P.readableRec t && decide (t < P.types.size)) = true) (hvars : s.vars = []) (hfn : s.fn H ds = { results := [.lit (.bool true)], args := ds }) (hres : f.resultTypes = #[tb]) (hb : P.underlying tb = some .bool)
    (hW : DataW.Whole enc P f.params.toList s.vars false W args.toList ds gs before) (hbel : Below W.heap.size W W') : s.post enc P f false true false false W args (.bool true) W' := by
  have hW' := hW
  have hlt : ∀ p ∈ before, p.block < W.heap.size := fun p hp => hW'.lt p hp
  obtain ⟨p, q, hA, hV, rfl, hz, hn⟩ := hW
  rw [hvars] at hV
  obtain ⟨rfl, rfl⟩ := trodVars_none hV
  rw [List.append_nil] at hW' hlt
  have hfn' : s.fn H (ds ++ []) = { results := [.lit (.bool true)], args := ds } := by rw [List.append_nil]; exact hfn
  refine ⟨ds, [], p, [], p, [], hW', ?_, ?_, ?_, hbel.frame _, fun h => by cases h⟩
  · rw [hfn', hres]
    exact trodAll_mk1 (shut_bool hb true)
  · rw [hfn']
    exact trodAll_stays hl hbel hall hA hlt (fun x hx => by simpa using hlt x hx)
  · rw [hfn', hvars]; rfl
end Go.Rail
namespace Go.Rail
open Go
theorem wt_of {H : Type} {P : Program} {ts : List TypeId} {ds : List (DataW H)} (h : (DataW.weightsEach P ts ds).all (· ≤ reachBytes) = true) (i : Nat) {u : TypeId} {d : DataW H} (ht : ts[i]? = some u) (hd : ds[i]? = some d) : ∀ n ∈ d.weights P u, n ≤ reachBytes := fun n hn => by
  have := List.all_eq_true.1 h n (weightsEach_mem ht hd n hn)
  simpa using this
end Go.Rail
