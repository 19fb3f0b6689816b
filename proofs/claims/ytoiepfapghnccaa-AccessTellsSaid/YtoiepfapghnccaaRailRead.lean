/- From the reading of an argument, as the statements have it, to what the walks know of it. -/
import Derived.Test.YtoiepfapghnccaaRailKeys
import Derived.ProofKit
set_option linter.unusedSimpArgs false
set_option linter.unusedVariables false
namespace Go.Rail
open Go

theorem mapM_get {α β : Type} {f : α → Option β} : ∀ {l : List α} {r : List β}, l.mapM f = some r → r.length = l.length ∧ ∀ (i : Nat) (a : α) (b : β), l[i]? = some a → r[i]? = some b → f a = some b
  | [], r, h => by
    simp at h; subst h
    exact ⟨rfl, fun i a b ha => by simp at ha⟩
  | x :: l, r, h => by
    simp only [List.mapM_cons, Option.bind_eq_bind, Option.bind_eq_some_iff, Option.pure_def, Option.some.injEq] at h
    obtain ⟨y, hy, r', hr', rfl⟩ := h
    obtain ⟨h1, h2⟩ := mapM_get hr'
    refine ⟨by simp [h1], fun i a b ha hb => ?_⟩
    cases i with
    | zero => simp at ha hb; subst ha hb; exact hy
    | succ i => exact h2 i a b (by simpa using ha) (by simpa using hb)

def RdH (P : Program) (t : TypeId) (α : Type) [GoTy α] (ok : α → Prop) : Prop :=
  ∀ {H : Type} (enc : TypeId × Value → H) (W : World) (fuel : Nat) (cs : List Value) (d : DataW H) (ps : List MemPlace), DataW.trod enc P W 0 (fun _ => true) true fuel t cs = some (d, ps) →
    (∀ n ∈ d.weights P t, n ≤ reachBytes) → ∃ x : α, GoTy.rep (fun b => W.heap[b]?) cs x ∧ ok x

section
variable {P : Program} {t e : TypeId}
theorem trod_bool {H : Type} {enc : TypeId × Value → H} {W : World} {fuel : Nat} {cs : List Value} {d : DataW H} {ps : List MemPlace} (hu : P.underlying t = some .bool) (h : DataW.trod enc P W 0 (fun _ => true) true fuel t cs = some (d, ps)) : ∃ b, cs = [.bool b] := by
  cases fuel with
  | zero => simp [DataW.trod] at h
  | succ n =>
    unfold DataW.trod at h
    rw [hu] at h
    split at h <;> simp_all
theorem RdH.bool (hu : P.underlying t = some .bool) : RdH P t Bool (fun _ => True) := by
  intro H enc W fuel cs d ps h _
  obtain ⟨b, rfl⟩ := trod_bool hu h
  exact ⟨b, rfl, trivial⟩
theorem trod_int {H : Type} {enc : TypeId × Value → H} {W : World} {fuel : Nat} {cs : List Value} {d : DataW H} {ps : List MemPlace} {k : IntKind} (hu : P.underlying t = some (.int k)) (h : DataW.trod enc P W 0 (fun _ => true) true fuel t cs = some (d, ps)) : ∃ n, cs = [.int k n] ∧ (Lit.int k n).wf = true := by
  cases fuel with
  | zero => simp [DataW.trod] at h
  | succ m =>
    unfold DataW.trod at h
    rw [hu] at h
    split at h <;> simp_all
theorem RdH.int (hu : P.underlying t = some (.int .i64)) : RdH P t Int (fun n => -9223372036854775808 ≤ n ∧ n ≤ 9223372036854775807) := by
  intro H enc W fuel cs d ps h _
  obtain ⟨n, rfl, hn⟩ := trod_int hu h
  refine ⟨n, rfl, ?_⟩
  simpa [Lit.wf, IntKind.min, IntKind.max, IntKind.signed, IntKind.bits] using hn
theorem RdH.u8 (hu : P.underlying t = some (.int .u8)) : RdH P t UInt8 (fun _ => True) := by
  intro H enc W fuel cs d ps h _
  obtain ⟨n, rfl, hn⟩ := trod_int hu h
  have h1 : 0 ≤ n ∧ n ≤ 255 := by simpa [Lit.wf, IntKind.min, IntKind.max, IntKind.signed, IntKind.bits] using hn
  refine ⟨UInt8.ofNat n.toNat, ?_, trivial⟩
  show [Value.int .u8 n] = [.int .u8 ((UInt8.ofNat n.toNat).toNat : Int)]
  have : (UInt8.ofNat n.toNat).toNat = n.toNat := by simp [UInt8.toNat_ofNat]; omega
  rw [this]
  congr 2; omega
theorem RdH.u64 (hu : P.underlying t = some (.int .u64)) : RdH P t UInt64 (fun _ => True) := by
  intro H enc W fuel cs d ps h _
  obtain ⟨n, rfl, hn⟩ := trod_int hu h
  have h1 : 0 ≤ n ∧ n ≤ 18446744073709551615 := by simpa [Lit.wf, IntKind.min, IntKind.max, IntKind.signed, IntKind.bits] using hn
  refine ⟨UInt64.ofNat n.toNat, ?_, trivial⟩
  show [Value.int .u64 n] = [.int .u64 ((UInt64.ofNat n.toNat).toNat : Int)]
  have : (UInt64.ofNat n.toNat).toNat = n.toNat := by simp [UInt64.toNat_ofNat]; omega
  rw [this]
  congr 2; omega

theorem weightsAll_mem {H : Type} : ∀ {ds : List (DataW H)} {d : DataW H}, d ∈ ds → ∀ n ∈ d.weights P e, n ∈ DataW.weightsAll P e ds
  | a :: ds, d, h, n, hn => by
    rw [DataW.weightsAll, List.mem_append]
    rcases List.mem_cons.1 h with rfl | h
    · exact .inl hn
    · exact .inr (weightsAll_mem h n hn)

/-- Readings one by one are the reading of a list. -/
theorem list_of {α : Type} (n : Nat) (R : Nat → α → Prop) (h : ∀ i, i < n → ∃ x, R i x) : ∃ l : List α, l.length = n ∧ ∀ i (hi : i < l.length), R i l[i] := by
  induction n with
  | zero => exact ⟨[], rfl, fun i hi => by simp at hi⟩
  | succ n ih =>
    obtain ⟨l, hl, hR⟩ := ih (fun i hi => h i (by omega))
    obtain ⟨x, hx⟩ := h n (by omega)
    refine ⟨l ++ [x], by simp [hl], fun i hi => ?_⟩
    by_cases e : i < l.length
    · rw [List.getElem_append_left e]; exact hR i e
    · have : i = n := by simp at hi; omega
      subst this
      rw [List.getElem_append_right (by omega)]
      simpa using hx

theorem cells_get {W : World} {a : Addr} {n : Nat} {cs : List Value} (h : W.cells? 0 a n = some cs) : cs.length = n ∧ ∀ i, i < n → W.cell? (a.add i) = cs[i]? := by
  unfold World.cells? at h
  rw [if_pos (Nat.zero_le _)] at h
  obtain ⟨h1, h2⟩ := mapM_get h
  rw [List.length_range] at h1
  refine ⟨h1, fun i hi => ?_⟩
  have h3 := h2 i i cs[i] (by rw [List.getElem?_range hi]) (by rw [List.getElem?_eq_getElem (by omega)])
  rw [h3, List.getElem?_eq_getElem (by omega)]
theorem cell_block {W : World} {a : Addr} {v : Value} (h : W.cell? a = some v) : a.spot = none ∧ ∃ c t fr, W.heap[a.block]? = some (.cells c t fr) ∧ c[a.off]? = some v := by
  unfold World.cell? at h
  cases hb : W.heap[a.block]? with
  | none => rw [hb] at h; simp at h
  | some o =>
    rw [hb] at h
    cases o <;> simp at h
    rename_i c t fr
    exact ⟨by simpa using h.1, c, t, fr, rfl, h.2⟩
theorem RdH.slice {α : Type} [GoTy α] {ok : α → Prop} (hu : P.underlying t = some (.slice e)) (hc : P.cellsOf e = GoTy.sz α) (hs : 0 < GoTy.sz α) (hb : 0 < P.bytesOf e) (he : RdH P e α ok) : RdH P t (List α) (fun xs => xs.length ≤ reachBytes ∧ ∀ x ∈ xs, ok x) := by
  intro H enc W fuel cs d ps h hw
  have nil : ∀ (a : Option Addr) (cap : Nat), ∃ x : List α, GoTy.rep (fun b => W.heap[b]?) [.slice a 0 cap] x ∧ (x.length ≤ reachBytes ∧ ∀ y ∈ x, ok y) := fun a cap => ⟨[], ⟨a, cap, rfl, Nat.zero_le _, fun hn => absurd rfl hn⟩, by simp, by simp⟩
  cases fuel with
  | zero => simp [DataW.trod] at h
  | succ m =>
    have key : cs = [.slice none 0 0] ∨ ∃ a len cap, cs = [.slice (some a) len cap] := by
      unfold DataW.trod at h
      rw [hu] at h
      split at h <;> simp_all
    rcases key with rfl | ⟨a, len, cap, rfl⟩
    · exact nil none 0
    · unfold DataW.trod at h
      simp only [hu] at h
      split at h
      · rename_i hif
        simp only [Option.bind_eq_some_iff, Option.map_eq_some_iff, Prod.mk.injEq] at h
        obtain ⟨elems, hel, rest, hre, rfl, rfl⟩ := h
        obtain ⟨hl1, hl2⟩ := mapM_get hel
        rw [List.length_range] at hl1
        have hlw : len ≤ reachBytes := by
          have h9 := hw ((elems.map (·.1)).length + (rest.map (·.1)).length |> (· * P.bytesOf e)) (by simp [DataW.weights, hu])
          simp only [List.length_map] at h9
          have h10 : elems.length + rest.length ≤ (elems.length + rest.length) * P.bytesOf e := Nat.le_mul_of_pos_right _ hb
          omega
        obtain ⟨l, hll, hR⟩ := list_of (α := α) len (fun i x => ∃ ci, W.cells? 0 (a.add (i * P.cellsOf e)) (P.cellsOf e) = some ci ∧ GoTy.rep (fun b => W.heap[b]?) ci x ∧ ok x) (fun i hi => by
          have h5 := hl2 i i elems[i] (by rw [List.getElem?_range hi]) (by rw [List.getElem?_eq_getElem (by omega)])
          obtain ⟨ci, hci, htr⟩ := Option.bind_eq_some_iff.1 h5
          obtain ⟨x, hx, hox⟩ := he enc W m ci elems[i].1 elems[i].2 htr (fun n hn => hw n (by
            simp only [DataW.weights, hu, List.mem_cons, List.mem_append]
            exact .inr (.inl (weightsAll_mem (List.mem_map_of_mem (List.getElem_mem _)) n hn))))
          exact ⟨x, ci, hci, hx, hox⟩)
        refine ⟨l, ⟨some a, cap, by rw [hll], by omega, fun hne => ?_⟩, by omega, fun x hx => ?_⟩
        · have hlen : 0 < l.length := List.length_pos_iff.2 hne
          obtain ⟨c0, hc0, _, _⟩ := hR 0 hlen
          obtain ⟨h01, h02⟩ := cells_get hc0
          have h03 := h02 0 (by omega)
          rw [List.getElem?_eq_getElem (by omega), Nat.zero_mul] at h03
          have ea : (a.add 0).add 0 = a := by simp [Addr.add]
          rw [ea] at h03
          obtain ⟨hsp, c, ct, fr, hbk, _⟩ := cell_block h03
          obtain ⟨b, off, sp⟩ := a
          simp only at hsp hbk
          subst hsp
          have hcell : ∀ k (hk : k < l.length), ∃ ck : List Value, ck.length = GoTy.sz α ∧ (∀ j, j < GoTy.sz α → c[off + k * GoTy.sz α + j]? = ck[j]?) ∧ GoTy.rep (fun b => W.heap[b]?) ck l[k] := by
            intro k hk
            obtain ⟨ck, hck, hrk, _⟩ := hR k hk
            obtain ⟨h1, h2⟩ := cells_get hck
            rw [hc] at h1 h2
            refine ⟨ck, h1, fun j hj => ?_, hrk⟩
            have h3 := h2 j hj
            rw [add_mk, add_mk] at h3
            rw [← h3]
            simp [World.cell?, hbk]
          have hsize : off + l.length * GoTy.sz α ≤ c.size := by
            obtain ⟨ck, h1, h2, _⟩ := hcell (l.length - 1) (by omega)
            have h3 := h2 (GoTy.sz α - 1) (by omega)
            rw [List.getElem?_eq_getElem (by omega)] at h3
            have h4 := (Array.getElem?_eq_some_iff.1 h3).1
            have h5 : l.length * GoTy.sz α = (l.length - 1) * GoTy.sz α + GoTy.sz α := by
              rw [← Nat.succ_mul]; congr 1; omega
            omega
          refine ⟨⟨b, off, none⟩, c, ct, fr, rfl, rfl, hbk, by simpa using hsize, fun k hk => ?_⟩
          obtain ⟨ck, h1, h2, h3⟩ := hcell k hk
          have : chunk c.toList off (GoTy.sz α) k = ck := by
            apply List.ext_getElem?
            intro j
            unfold chunk
            rw [List.getElem?_take]
            by_cases hj : j < GoTy.sz α
            · rw [if_pos hj, List.getElem?_drop, ← h2 j hj]; simp
            · rw [if_neg hj, List.getElem?_eq_none (by omega)]
          show GoTy.rep _ (chunk c.toList off (GoTy.sz α) k) l[k]
          rw [this]; exact h3
        · obtain ⟨i, hi, rfl⟩ := List.getElem_of_mem hx
          obtain ⟨_, _, _, hox⟩ := hR i hi
          exact hox
      · simp at h
theorem weightsEach_mem {H : Type} : ∀ {ts : List TypeId} {ds : List (DataW H)} {i : Nat} {u : TypeId} {d : DataW H}, ts[i]? = some u → ds[i]? = some d → ∀ n ∈ d.weights P u, n ∈ DataW.weightsEach P ts ds
  | [], _, i, u, d, h, _, _, _ => by simp at h
  | _ :: _, [], i, u, d, _, h, _, _ => by simp at h
  | a :: ts, b :: ds, i, u, d, h, k, n, hn => by
    rw [DataW.weightsEach, List.mem_append]
    cases i with
    | zero => simp at h k; subst h k; exact .inl hn
    | succ i => exact .inr (weightsEach_mem (by simpa using h) (by simpa using k) n hn)
theorem trod_len {H : Type} {enc : TypeId × Value → H} {W : World} {fuel : Nat} {cs : List Value} {d : DataW H} {ps : List MemPlace} {fs : Array Field} (hu : P.underlying t = some (.struct fs)) (h : DataW.trod enc P W 0 (fun _ => true) true fuel t cs = some (d, ps)) : cs.length = P.cellsOf t := by
  cases fuel with
  | zero => simp [DataW.trod] at h
  | succ m =>
    unfold DataW.trod at h
    simp only [hu] at h
    split at h
    · assumption
    · cases h
theorem trod_field {H : Type} {enc : TypeId × Value → H} {W : World} {fuel : Nat} {cs : List Value} {d : DataW H} {ps : List MemPlace} {fs : Array Field} {α : Type} [GoTy α] {ok : α → Prop} (hu : P.underlying t = some (.struct fs)) (h : DataW.trod enc P W 0 (fun _ => true) true fuel t cs = some (d, ps)) (hw : ∀ n ∈ d.weights P t, n ≤ reachBytes)
    (i : Nat) {f : Field} (hf : fs.toList[i]? = some f) (hr : RdH P f.type α ok) : ∃ x : α, GoTy.rep (fun b => W.heap[b]?) ((cs.drop f.offset).take (P.cellsOf f.type)) x ∧ ok x := by
  cases fuel with
  | zero => simp [DataW.trod] at h
  | succ m =>
    unfold DataW.trod at h
    simp only [hu] at h
    split at h
    · simp only [Option.map_eq_some_iff, Prod.mk.injEq] at h
      obtain ⟨xs, hxs, rfl, rfl⟩ := h
      obtain ⟨hl1, hl2⟩ := mapM_get hxs
      have hil : i < xs.length := by rw [hl1]; exact (List.getElem?_eq_some_iff.1 hf).1
      have h5 := hl2 i f xs[i] hf (List.getElem?_eq_getElem hil)
      refine hr enc W m _ xs[i].1 xs[i].2 h5 (fun n hn => hw n ?_)
      simp only [DataW.weights, hu]
      exact weightsEach_mem (i := i) (u := f.type) (d := xs[i].1) (by simpa using congrArg (Option.map Field.type) hf) (by simp [hil]) n hn
    · cases h
theorem trod_arr {H : Type} {enc : TypeId × Value → H} {W : World} {fuel : Nat} {cs : List Value} {d : DataW H} {ps : List MemPlace} {n : Nat} {α : Type} [GoTy α] {ok : α → Prop} (hu : P.underlying t = some (.array n e)) (hc : P.cellsOf e = GoTy.sz α) (hct : P.cellsOf t = n * GoTy.sz α) (h : DataW.trod enc P W 0 (fun _ => true) true fuel t cs = some (d, ps)) (hw : ∀ n ∈ d.weights P t, n ≤ reachBytes)
    (hr : RdH P e α ok) : ∃ l : List α, l.length = n ∧ cs.length = n * GoTy.sz α ∧ RowRep (fun b => W.heap[b]?) cs 0 l ∧ ∀ x ∈ l, ok x := by
  cases fuel with
  | zero => simp [DataW.trod] at h
  | succ m =>
    unfold DataW.trod at h
    simp only [hu] at h
    split at h
    · rename_i hlen
      simp only [Option.map_eq_some_iff, Prod.mk.injEq] at h
      obtain ⟨xs, hxs, rfl, rfl⟩ := h
      obtain ⟨hl1, hl2⟩ := mapM_get hxs
      rw [List.length_range] at hl1
      obtain ⟨l, hll, hR⟩ := list_of (α := α) n (fun i x => GoTy.rep (fun b => W.heap[b]?) ((cs.drop (i * P.cellsOf e)).take (P.cellsOf e)) x ∧ ok x) (fun i hi => by
        have h5 := hl2 i i xs[i] (by rw [List.getElem?_range hi]) (by rw [List.getElem?_eq_getElem (by omega)])
        exact hr enc W m _ xs[i].1 xs[i].2 h5 (fun n hn => hw n (by
          simp only [DataW.weights, hu]
          exact weightsAll_mem (List.mem_map_of_mem (List.getElem_mem _)) n hn)))
      refine ⟨l, hll, by rw [hlen, hct], ⟨by rw [hlen, hct, hll]; omega, fun k hk => ?_⟩, fun x hx => ?_⟩
      · have := (hR k hk).1
        rw [hc] at this
        unfold chunk
        rw [Nat.zero_add]; exact this
      · obtain ⟨i, hi, rfl⟩ := List.getElem_of_mem hx
        exact (hR i hi).2
    · cases h
/-- Flat elements of one cell, side by side. -/
theorem row_cells {α : Type} [GoTy α] [GoFlat α] {I : Imm} {cs : List Value} {l : List α} (f : α → Value) (hs : GoTy.sz α = 1) (hf : ∀ x : α, GoFlat.enc x = [f x]) (hl : cs.length = l.length) (h : RowRep I cs 0 l) : cs = l.map f := by
  apply List.ext_getElem?
  intro k
  by_cases hk : k < l.length
  · have h1 := GoFlat.rep_iff.1 (h.2 k hk)
    unfold chunk at h1
    rw [hs, hf, Nat.zero_add, Nat.mul_one] at h1
    have h2 : ((cs.drop k).take 1)[0]? = some (f l[k]) := by rw [h1]; rfl
    rw [List.getElem?_take, if_pos (by omega), List.getElem?_drop, Nat.add_zero] at h2
    rw [h2]; simp [hk]
  · rw [List.getElem?_eq_none (by omega), List.getElem?_eq_none (by simp; omega)]
theorem RdH.word (hu : P.underlying t = some (.array 4 e)) (hue : P.underlying e = some (.int .u64)) (hc : P.cellsOf e = 1) (hct : P.cellsOf t = 4) : RdH P t Word (fun _ => True) := by
  intro H enc W fuel cs d ps h hw
  obtain ⟨l, hl, hcl, hr, _⟩ := trod_arr (α := UInt64) hu hc hct h hw (RdH.u64 hue)
  have := row_cells (fun x : UInt64 => Value.int .u64 x.toNat) rfl (fun _ => rfl) (by rw [hcl, hl]; rfl) hr
  match l, hl with
  | [a, b, c, d], _ => exact ⟨⟨a, b, c, d⟩, this, trivial⟩
theorem RdH.addr (hu : P.underlying t = some (.array 20 e)) (hue : P.underlying e = some (.int .u8)) (hc : P.cellsOf e = 1) (hct : P.cellsOf t = 20) : RdH P t Addr20 (fun _ => True) := by
  intro H enc W fuel cs d ps h hw
  obtain ⟨l, hl, hcl, hr, _⟩ := trod_arr (α := UInt8) hu hc hct h hw (RdH.u8 hue)
  have := row_cells (fun x : UInt8 => Value.int .u8 x.toNat) rfl (fun _ => rfl) (by rw [hcl, hl]; rfl) hr
  exact ⟨⟨l, hl⟩, this, trivial⟩
theorem RdH.pair (hu : P.underlying t = some (.array 2 e)) (hue : P.underlying e = some (.int .i64)) (hc : P.cellsOf e = 1) (hct : P.cellsOf t = 2) : RdH P t (Int × Int) (fun p => (-9223372036854775808 ≤ p.1 ∧ p.1 ≤ 9223372036854775807) ∧ (-9223372036854775808 ≤ p.2 ∧ p.2 ≤ 9223372036854775807)) := by
  intro H enc W fuel cs d ps h hw
  obtain ⟨l, hl, hcl, hr, hok⟩ := trod_arr (α := Int) hu hc hct h hw (RdH.int hue)
  have := row_cells (fun x : Int => Value.int .i64 x) rfl (fun _ => rfl) (by rw [hcl, hl]; rfl) hr
  match l, hl with
  | [a, b], _ => exact ⟨(a, b), this, hok a (by simp), hok b (by simp)⟩
theorem RdH.key {ta tb tw : TypeId} {f0 f1 f2 : Field} (hu : P.underlying t = some (.struct #[f0, f1, f2])) (h0 : f0.type = ta ∧ f0.offset = 0) (h1 : f1.type = tb ∧ f1.offset = 20) (h2 : f2.type = tw ∧ f2.offset = 21)
    (c0 : P.cellsOf ta = 20) (c1 : P.cellsOf tb = 1) (c2 : P.cellsOf tw = 4) (c : P.cellsOf t = 25) (r0 : RdH P ta Addr20 (fun _ => True)) (r1 : RdH P tb Bool (fun _ => True)) (r2 : RdH P tw Word (fun _ => True)) : RdH P t Key (fun _ => True) := by
  intro H enc W fuel cs d ps h hw
  obtain ⟨rfl, e0⟩ := h0
  obtain ⟨rfl, e1⟩ := h1
  obtain ⟨rfl, e2⟩ := h2
  have hl := trod_len hu h
  obtain ⟨a, ha, _⟩ := trod_field hu h hw 0 rfl r0
  obtain ⟨b, hb, _⟩ := trod_field hu h hw 1 rfl r1
  obtain ⟨w, hww, _⟩ := trod_field hu h hw 2 rfl r2
  rw [e0, c0] at ha
  rw [e1, c1] at hb
  rw [e2, c2] at hww
  refine ⟨⟨a, b, w⟩, ?_, trivial⟩
  have ha' : (cs.drop 0).take 20 = a.cells := ha
  have hb' : (cs.drop 20).take 1 = [.bool b] := hb
  have hw' : (cs.drop 21).take 4 = w.cells := hww
  show cs = a.cells ++ (.bool b :: w.cells)
  rw [← ha', ← hw', show (Value.bool b :: (cs.drop 21).take 4) = [.bool b] ++ (cs.drop 21).take 4 from rfl, ← hb', List.drop_zero]
  rw [List.take_of_length_le (l := cs.drop 21) (by simp; omega)]
  have e3 : cs.drop 20 = (cs.drop 20).take 1 ++ cs.drop 21 := by
    conv => lhs; rw [← List.take_append_drop 1 (cs.drop 20), List.drop_drop]
  rw [← e3, List.take_append_drop]
theorem RdH.sets {tl : TypeId} {ok : List Key → Prop} {f0 f1 : Field} (hu : P.underlying t = some (.struct #[f0, f1])) (h0 : f0.type = tl ∧ f0.offset = 0) (h1 : f1.type = tl ∧ f1.offset = 1)
    (c0 : P.cellsOf tl = 1) (c : P.cellsOf t = 2) (r0 : RdH P tl (List Key) ok) : RdH P t Sets (fun s => ok s.reads ∧ ok s.writes) := by
  intro H enc W fuel cs d ps h hw
  obtain ⟨t0, e0⟩ := h0
  obtain ⟨t1, e1⟩ := h1
  have hl := trod_len hu h
  obtain ⟨a, ha, hoa⟩ := trod_field hu h hw 0 rfl (by rw [t0]; exact r0)
  obtain ⟨b, hb, hob⟩ := trod_field hu h hw 1 rfl (by rw [t1]; exact r0)
  rw [e0, t0, c0] at ha
  rw [e1, t1, c0] at hb
  match cs, (hl.trans c) with
  | [u, v], _ =>
    have h3 : Rp (fun b => W.heap[b]?) u a := by
      obtain ⟨x, y, hx, hy⟩ := ha
      simp at hx; subst hx
      exact Rp.mkSlice hy rfl
    have h4 : Rp (fun b => W.heap[b]?) v b := by
      obtain ⟨x, y, hx, hy⟩ := hb
      simp at hx; subst hx
      exact Rp.mkSlice hy rfl
    refine ⟨⟨a, b⟩, ?_, hoa, hob⟩
    have := (Rp.mkSets (s := ⟨a, b⟩) h3 h4).cells
    simpa [cellsL] using this
/-- An argument that reads so. -/
theorem RdH.arg {α : Type} [GoTy α] {ok : α → Prop} (hr : RdH P t α ok) {H : Type} {enc : TypeId × Value → H} {W : World} {v : Value} {d : DataW H} {ps : List MemPlace} (h : DataW.Trod enc P W 0 (fun _ => true) true t v d ps) (hw : ∀ n ∈ d.weights P t, n ≤ reachBytes)
    (hag : GoTy.agg α = true → GoTy.sz α ≠ 1) (hna : GoTy.agg α = false → ∀ cs, v ≠ .agg cs) : ∃ x : α, Rp (fun b => W.heap[b]?) v x ∧ ok x := by
  obtain ⟨fuel, h⟩ := h
  obtain ⟨x, hx, hok⟩ := hr enc W fuel _ d ps h hw
  refine ⟨x, ⟨v.cells.toList, ?_, hx⟩, hok⟩
  have hl := GoTy.len hx
  cases hg : GoTy.agg α with
  | false =>
    have hs := GoTy.agg1 hg
    have ho := GoTy.one hx
    rw [hs] at hl
    cases v with
    | agg cs => exact absurd rfl (hna hg cs)
    | _ => rfl
  | true =>
    have hs := hag hg
    cases v with
    | agg cs => simp [mkv, Value.cells]
    | _ => simp [Value.cells] at hl; omega
theorem okWide_slice {W : World} {base : Nat} {v : Value} (hu : P.underlying t = some (.slice e)) (h : Value.okWide P W .any base t v) : ∀ cs, v ≠ .agg cs := by
  intro cs hv
  subst hv
  unfold Value.okWide at h
  rw [hu] at h
  simp [Cell.okWide, Cell.ok, hu] at h
theorem okWide_int {W : World} {base : Nat} {v : Value} {k : IntKind} (hu : P.underlying t = some (.int k)) (h : Value.okWide P W .any base t v) : ∀ cs, v ≠ .agg cs := by
  intro cs hv
  subst hv
  unfold Value.okWide at h
  rw [hu] at h
  simp [Cell.okWide, Cell.ok, hu] at h
/-- An argument that is an array of two lists. -/
theorem arg_two {α : Type} [GoTy α] {ok : List α → Prop} (hu : P.underlying t = some (.array 2 e)) (hc : P.cellsOf e = 1) (hct : P.cellsOf t = 2) (r : RdH P e (List α) ok) {H : Type} {enc : TypeId × Value → H} {W : World} {v : Value} {d : DataW H} {ps : List MemPlace} (h : DataW.Trod enc P W 0 (fun _ => true) true t v d ps) (hw : ∀ n ∈ d.weights P t, n ≤ reachBytes) :
    ∃ va vb a b, v = .agg #[va, vb] ∧ Rp (fun b => W.heap[b]?) va a ∧ Rp (fun b => W.heap[b]?) vb b ∧ ok a ∧ ok b := by
  obtain ⟨fuel, h⟩ := h
  obtain ⟨l, hl, hcl, hr, hok⟩ := trod_arr (α := List α) hu hc hct h hw r
  match l, hl with
  | [a, b], _ =>
    have hlen : v.cells.toList.length = 2 := hcl
    cases v with
    | agg cs =>
      have h0 := hr.2 0 (by simp)
      have h1 := hr.2 1 (by simp)
      have hcs : cs.toList.length = 2 := hlen
      match hq : cs.toList, hcs with
      | [c0, c1], _ =>
        have he : (Value.agg cs).cells.toList = [c0, c1] := hq
        rw [he] at h0 h1
        refine ⟨c0, c1, a, b, ?_, ?_, ?_, hok a (by simp), hok b (by simp)⟩
        · rw [← Array.toArray_toList (xs := cs), hq]
        · exact ⟨[c0], rfl, h0⟩
        · exact ⟨[c1], rfl, h1⟩
    | _ => simp [Value.cells] at hlen
end
end Go.Rail
