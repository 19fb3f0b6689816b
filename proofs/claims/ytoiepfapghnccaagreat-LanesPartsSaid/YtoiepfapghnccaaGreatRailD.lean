/- From arguments to facts; plain laws; maps; rows of one's own; lending. -/
import Derived.Test.YtoiepfapghnccaaGreatRailC
import Derived.Test.YtoiepfapghnccaaGreatRailB
import Derived.ProofKit
import Derived.Test.YtoiepfapghnccaaGreatRailA
import Derived.SizedLaws
set_option linter.unusedSimpArgs false
set_option linter.unusedVariables false
namespace Go.Rail
open Go
def aA : Addr20 := ⟨[1, 0, 0, 0, 0, 0, 0, 0, 0, 0, 0, 0, 0, 0, 0, 0, 0, 0, 0, 0], rfl⟩
def lK : Key := ⟨aA, false, ⟨0, 0, 0, 0⟩⟩
end Go.Rail
set_option linter.unusedSimpArgs false
set_option linter.unusedVariables false
namespace Go.Rail
open Go
theorem mapM_get {α β : Type} {f : α → Option β} : ∀ {l : List α} {r : List β}, l.mapM f = some r → r.length = l.length ∧ ∀ (i : Nat) (a : α) (b : β), l[i]? = some a → r[i]? = some b → f a = some b
  | [], r, h => by
    simp at h; subst h
    exact ⟨rfl, fun i a b ha => by simp at ha⟩
  | x :: l, r, h => by
    simp only [List.mapM_cons, Option.bind_eq_bind, Option.bind_eq_some_iff, Option.pure_def, Option.some.injEq] at h
    obtain ⟨y, hy, r', hr', rfl⟩ := h
    obtain ⟨h1, h2⟩ := mapM_get hr'
    refine ⟨by simp [h1], fun i a b ha hb => ?_⟩
    cases i with
    | zero => simp at ha hb; subst ha hb; exact hy
    | succ i => exact h2 i a b (by simpa using ha) (by simpa using hb)

def RdH (P : Program) (t : TypeId) (α : Type) [GoTy α] (ok : α → Prop) : Prop :=
  ∀ {H : Type} (enc : TypeId × Value → H) (W : World) (fuel : Nat) (cs : List Value) (d : DataW H) (ps : List MemPlace), DataW.trod enc P W 0 (fun _ => true) true fuel t cs = some (d, ps) →
    (∀ n ∈ d.weights P t, n ≤ reachBytes) → ∃ x : α, GoTy.rep (fun b => W.heap[b]?) cs x ∧ ok x

section
variable {P : Program} {t e : TypeId}
theorem trod_bool {H : Type} {enc : TypeId × Value → H} {W : World} {fuel : Nat} {cs : List Value} {d : DataW H} {ps : List MemPlace} (hu : P.underlying t = some .bool) (h : DataW.trod enc P W 0 (fun _ => true) true fuel t cs = some (d, ps)) : ∃ b, cs = [.bool b] := by
  cases fuel with
  | zero => simp [DataW.trod] at h
  | succ n =>
    unfold DataW.trod at h
    rw [hu] at h
    split at h <;> simp_all
theorem RdH.bool (hu : P.underlying t = some .bool) : RdH P t Bool (fun _ => True) := by
  intro H enc W fuel cs d ps h _
  obtain ⟨b, rfl⟩ := trod_bool hu h
  exact ⟨b, rfl, trivial⟩
theorem trod_int {H : Type} {enc : TypeId × Value → H} {W : World} {fuel : Nat} {cs : List Value} {d : DataW H} {ps : List MemPlace} {k : IntKind} (hu : P.underlying t = some (.int k)) (h : DataW.trod enc P W 0 (fun _ => true) true fuel t cs = some (d, ps)) : ∃ n, cs = [.int k n] ∧ (Lit.int k n).wf = true := by
  cases fuel with
  | zero => simp [DataW.trod] at h
  | succ m =>
    unfold DataW.trod at h
    rw [hu] at h
    split at h <;> simp_all
theorem RdH.int (hu : P.underlying t = some (.int .i64)) : RdH P t Int (fun n => -9223372036854775808 ≤ n ∧ n ≤ 9223372036854775807) := by
  intro H enc W fuel cs d ps h _
  obtain ⟨n, rfl, hn⟩ := trod_int hu h
  refine ⟨n, rfl, ?_⟩
  simpa [Lit.wf, IntKind.min, IntKind.max, IntKind.signed, IntKind.bits] using hn
theorem RdH.u8 (hu : P.underlying t = some (.int .u8)) : RdH P t UInt8 (fun _ => True) := by
  intro H enc W fuel cs d ps h _
  obtain ⟨n, rfl, hn⟩ := trod_int hu h
  have h1 : 0 ≤ n ∧ n ≤ 255 := by simpa [Lit.wf, IntKind.min, IntKind.max, IntKind.signed, IntKind.bits] using hn
  refine ⟨UInt8.ofNat n.toNat, ?_, trivial⟩
  show [Value.int .u8 n] = [.int .u8 ((UInt8.ofNat n.toNat).toNat : Int)]
  have : (UInt8.ofNat n.toNat).toNat = n.toNat := by simp [UInt8.toNat_ofNat]; omega
  rw [this]
  congr 2; omega
theorem RdH.u64 (hu : P.underlying t = some (.int .u64)) : RdH P t UInt64 (fun _ => True) := by
  intro H enc W fuel cs d ps h _
  obtain ⟨n, rfl, hn⟩ := trod_int hu h
  have h1 : 0 ≤ n ∧ n ≤ 18446744073709551615 := by simpa [Lit.wf, IntKind.min, IntKind.max, IntKind.signed, IntKind.bits] using hn
  refine ⟨UInt64.ofNat n.toNat, ?_, trivial⟩
  show [Value.int .u64 n] = [.int .u64 ((UInt64.ofNat n.toNat).toNat : Int)]
  have : (UInt64.ofNat n.toNat).toNat = n.toNat := by simp [UInt64.toNat_ofNat]; omega
  rw [this]
  congr 2; omega

theorem weightsAll_mem {H : Type} : ∀ {ds : List (DataW H)} {d : DataW H}, d ∈ ds → ∀ n ∈ d.weights P e, n ∈ DataW.weightsAll P e ds
  | a :: ds, d, h, n, hn => by
    rw [DataW.weightsAll, List.mem_append]
    rcases List.mem_cons.1 h with rfl | h
    · exact .inl hn
    · exact .inr (weightsAll_mem h n hn)

/-- Readings one by one are the reading of a list. -/
theorem list_of {α : Type} (n : Nat) (R : Nat → α → Prop) (h : ∀ i, i < n → ∃ x, R i x) : ∃ l : List α, l.length = n ∧ ∀ i (hi : i < l.length), R i l[i] := by
  induction n with
  | zero => exact ⟨[], rfl, fun i hi => by simp at hi⟩
  | succ n ih =>
    obtain ⟨l, hl, hR⟩ := ih (fun i hi => h i (by omega))
    obtain ⟨x, hx⟩ := h n (by omega)
    refine ⟨l ++ [x], by simp [hl], fun i hi => ?_⟩
    by_cases e : i < l.length
    · rw [List.getElem_append_left e]; exact hR i e
    · have : i = n := by simp at hi; omega
      subst this
      rw [List.getElem_append_right (by omega)]
      simpa using hx

theorem cells_get {W : World} {a : Addr} {n : Nat} {cs : List Value} (h : W.cells? 0 a n = some cs) : cs.length = n ∧ ∀ i, i < n → W.cell? (a.add i) = cs[i]? := by
  unfold World.cells? at h
  rw [if_pos (Nat.zero_le _)] at h
  obtain ⟨h1, h2⟩ := mapM_get h
  rw [List.length_range] at h1
  refine ⟨h1, fun i hi => ?_⟩
  have h3 := h2 i i cs[i] (by rw [List.getElem?_range hi]) (by rw [List.getElem?_eq_getElem (by omega)])
  rw [h3, List.getElem?_eq_getElem (by omega)]
theorem cell_block {W : World} {a : Addr} {v : Value} (h : W.cell? a = some v) : a.spot = none ∧ ∃ c t fr, W.heap[a.block]? = some (.cells c t fr) ∧ c[a.off]? = some v := by
  unfold World.cell? at h
  cases hb : W.heap[a.block]? with
  | none => rw [hb] at h; simp at h
  | some o =>
    rw [hb] at h
    cases o <;> simp at h
    rename_i c t fr
    exact ⟨by simpa using h.1, c, t, fr, rfl, h.2⟩
theorem RdH.slice {α : Type} [GoTy α] {ok : α → Prop} (hu : P.underlying t = some (.slice e)) (hc : P.cellsOf e = GoTy.sz α) (hs : 0 < GoTy.sz α) (hb : 0 < P.bytesOf e) (he : RdH P e α ok) : RdH P t (List α) (fun xs => xs.length ≤ reachBytes ∧ ∀ x ∈ xs, ok x) := by
  intro H enc W fuel cs d ps h hw
  have nil : ∀ (a : Option Addr) (cap : Nat), ∃ x : List α, GoTy.rep (fun b => W.heap[b]?) [.slice a 0 cap] x ∧ (x.length ≤ reachBytes ∧ ∀ y ∈ x, ok y) := fun a cap => ⟨[], ⟨a, cap, rfl, Nat.zero_le _, fun hn => absurd rfl hn⟩, by simp, by simp⟩
  cases fuel with
  | zero => simp [DataW.trod] at h
  | succ m =>
    have key : cs = [.slice none 0 0] ∨ ∃ a len cap, cs = [.slice (some a) len cap] := by
      unfold DataW.trod at h
      rw [hu] at h
      split at h <;> simp_all
    rcases key with rfl | ⟨a, len, cap, rfl⟩
    · exact nil none 0
    · unfold DataW.trod at h
      simp only [hu] at h
      split at h
      · rename_i hif
        simp only [Option.bind_eq_some_iff, Option.map_eq_some_iff, Prod.mk.injEq] at h
        obtain ⟨elems, hel, rest, hre, rfl, rfl⟩ := h
        obtain ⟨hl1, hl2⟩ := mapM_get hel
        rw [List.length_range] at hl1
        have hlw : len ≤ reachBytes := by
          have h9 := hw ((elems.map (·.1)).length + (rest.map (·.1)).length |> (· * P.bytesOf e)) (by simp [DataW.weights, hu])
          simp only [List.length_map] at h9
          have h10 : elems.length + rest.length ≤ (elems.length + rest.length) * P.bytesOf e := Nat.le_mul_of_pos_right _ hb
          omega
        obtain ⟨l, hll, hR⟩ := list_of (α := α) len (fun i x => ∃ ci, W.cells? 0 (a.add (i * P.cellsOf e)) (P.cellsOf e) = some ci ∧ GoTy.rep (fun b => W.heap[b]?) ci x ∧ ok x) (fun i hi => by
          have h5 := hl2 i i elems[i] (by rw [List.getElem?_range hi]) (by rw [List.getElem?_eq_getElem (by omega)])
          obtain ⟨ci, hci, htr⟩ := Option.bind_eq_some_iff.1 h5
          obtain ⟨x, hx, hox⟩ := he enc W m ci elems[i].1 elems[i].2 htr (fun n hn => hw n (by
            simp only [DataW.weights, hu, List.mem_cons, List.mem_append]
            exact .inr (.inl (weightsAll_mem (List.mem_map_of_mem (List.getElem_mem _)) n hn))))
          exact ⟨x, ci, hci, hx, hox⟩)
        refine ⟨l, ⟨some a, cap, by rw [hll], by omega, fun hne => ?_⟩, by omega, fun x hx => ?_⟩
        · have hlen : 0 < l.length := List.length_pos_iff.2 hne
          obtain ⟨c0, hc0, _, _⟩ := hR 0 hlen
          obtain ⟨h01, h02⟩ := cells_get hc0
          have h03 := h02 0 (by omega)
          rw [List.getElem?_eq_getElem (by omega), Nat.zero_mul] at h03
          have ea : (a.add 0).add 0 = a := by simp [Addr.add]
          rw [ea] at h03
          obtain ⟨hsp, c, ct, fr, hbk, _⟩ := cell_block h03
          obtain ⟨b, off, sp⟩ := a
          simp only at hsp hbk
          subst hsp
          have hcell : ∀ k (hk : k < l.length), ∃ ck : List Value, ck.length = GoTy.sz α ∧ (∀ j, j < GoTy.sz α → c[off + k * GoTy.sz α + j]? = ck[j]?) ∧ GoTy.rep (fun b => W.heap[b]?) ck l[k] := by
            intro k hk
            obtain ⟨ck, hck, hrk, _⟩ := hR k hk
            obtain ⟨h1, h2⟩ := cells_get hck
            rw [hc] at h1 h2
            refine ⟨ck, h1, fun j hj => ?_, hrk⟩
            have h3 := h2 j hj
            rw [add_mk, add_mk] at h3
            rw [← h3]
            simp [World.cell?, hbk]
          have hsize : off + l.length * GoTy.sz α ≤ c.size := by
            obtain ⟨ck, h1, h2, _⟩ := hcell (l.length - 1) (by omega)
            have h3 := h2 (GoTy.sz α - 1) (by omega)
            rw [List.getElem?_eq_getElem (by omega)] at h3
            have h4 := (Array.getElem?_eq_some_iff.1 h3).1
            have h5 : l.length * GoTy.sz α = (l.length - 1) * GoTy.sz α + GoTy.sz α := by
              rw [← Nat.succ_mul]; congr 1; omega
            omega
          refine ⟨⟨b, off, none⟩, c, ct, fr, rfl, rfl, hbk, by simpa using hsize, fun k hk => ?_⟩
          obtain ⟨ck, h1, h2, h3⟩ := hcell k hk
          have : chunk c.toList off (GoTy.sz α) k = ck := by
            apply List.ext_getElem?
            intro j
            unfold chunk
            rw [List.getElem?_take]
            by_cases hj : j < GoTy.sz α
            · rw [if_pos hj, List.getElem?_drop, ← h2 j hj]; simp
            · rw [if_neg hj, List.getElem?_eq_none (by omega)]
          show GoTy.rep _ (chunk c.toList off (GoTy.sz α) k) l[k]
          rw [this]; exact h3
        · obtain ⟨i, hi, rfl⟩ := List.getElem_of_mem hx
          obtain ⟨_, _, _, hox⟩ := hR i hi
          exact hox
      · simp at h
theorem weightsEach_mem {H : Type} : ∀ {ts : List TypeId} {ds : List (DataW H)} {i : Nat} {u : TypeId} {d : DataW H}, ts[i]? = some u → ds[i]? = some d → ∀ n ∈ d.weights P u, n ∈ DataW.weightsEach P ts ds
  | [], _, i, u, d, h, _, _, _ => by simp at h
  | _ :: _, [], i, u, d, _, h, _, _ => by simp at h
  | a :: ts, b :: ds, i, u, d, h, k, n, hn => by
    rw [DataW.weightsEach, List.mem_append]
    cases i with
    | zero => simp at h k; subst h k; exact .inl hn
    | succ i => exact .inr (weightsEach_mem (by simpa using h) (by simpa using k) n hn)
theorem trod_len {H : Type} {enc : TypeId × Value → H} {W : World} {fuel : Nat} {cs : List Value} {d : DataW H} {ps : List MemPlace} {fs : Array Field} (hu : P.underlying t = some (.struct fs)) (h : DataW.trod enc P W 0 (fun _ => true) true fuel t cs = some (d, ps)) : cs.length = P.cellsOf t := by
  cases fuel with
  | zero => simp [DataW.trod] at h
  | succ m =>
    unfold DataW.trod at h
    simp only [hu] at h
    split at h
    · assumption
    · cases h
theorem trod_field {H : Type} {enc : TypeId × Value → H} {W : World} {fuel : Nat} {cs : List Value} {d : DataW H} {ps : List MemPlace} {fs : Array Field} {α : Type} [GoTy α] {ok : α → Prop} (hu : P.underlying t = some (.struct fs)) (h : DataW.trod enc P W 0 (fun _ => true) true fuel t cs = some (d, ps)) (hw : ∀ n ∈ d.weights P t, n ≤ reachBytes)
    (i : Nat) {f : Field} (hf : fs.toList[i]? = some f) (hr : RdH P f.type α ok) : ∃ x : α, GoTy.rep (fun b => W.heap[b]?) ((cs.drop f.offset).take (P.cellsOf f.type)) x ∧ ok x := by
  cases fuel with
  | zero => simp [DataW.trod] at h
  | succ m =>
    unfold DataW.trod at h
    simp only [hu] at h
    split at h
    · simp only [Option.map_eq_some_iff, Prod.mk.injEq] at h
      obtain ⟨xs, hxs, rfl, rfl⟩ := h
      obtain ⟨hl1, hl2⟩ := mapM_get hxs
      have hil : i < xs.length := by rw [hl1]; exact (List.getElem?_eq_some_iff.1 hf).1
      have h5 := hl2 i f xs[i] hf (List.getElem?_eq_getElem hil)
      refine hr enc W m _ xs[i].1 xs[i].2 h5 (fun n hn => hw n ?_)
      simp only [DataW.weights, hu]
      exact weightsEach_mem (i := i) (u := f.type) (d := xs[i].1) (by simpa using congrArg (Option.map Field.type) hf) (by simp [hil]) n hn
    · cases h
theorem trod_arr {H : Type} {enc : TypeId × Value → H} {W : World} {fuel : Nat} {cs : List Value} {d : DataW H} {ps : List MemPlace} {n : Nat} {α : Type} [GoTy α] {ok : α → Prop} (hu : P.underlying t = some (.array n e)) (hc : P.cellsOf e = GoTy.sz α) (hct : P.cellsOf t = n * GoTy.sz α) (h : DataW.trod enc P W 0 (fun _ => true) true fuel t cs = some (d, ps)) (hw : ∀ n ∈ d.weights P t, n ≤ reachBytes)
    (hr : RdH P e α ok) : ∃ l : List α, l.length = n ∧ cs.length = n * GoTy.sz α ∧ RowRep (fun b => W.heap[b]?) cs 0 l ∧ ∀ x ∈ l, ok x := by
  cases fuel with
  | zero => simp [DataW.trod] at h
  | succ m =>
    unfold DataW.trod at h
    simp only [hu] at h
    split at h
    · rename_i hlen
      simp only [Option.map_eq_some_iff, Prod.mk.injEq] at h
      obtain ⟨xs, hxs, rfl, rfl⟩ := h
      obtain ⟨hl1, hl2⟩ := mapM_get hxs
      rw [List.length_range] at hl1
      obtain ⟨l, hll, hR⟩ := list_of (α := α) n (fun i x => GoTy.rep (fun b => W.heap[b]?) ((cs.drop (i * P.cellsOf e)).take (P.cellsOf e)) x ∧ ok x) (fun i hi => by
        have h5 := hl2 i i xs[i] (by rw [List.getElem?_range hi]) (by rw [List.getElem?_eq_getElem (by omega)])
        exact hr enc W m _ xs[i].1 xs[i].2 h5 (fun n hn => hw n (by
          simp only [DataW.weights, hu]
          exact weightsAll_mem (List.mem_map_of_mem (List.getElem_mem _)) n hn)))
      refine ⟨l, hll, by rw [hlen, hct], ⟨by rw [hlen, hct, hll]; omega, fun k hk => ?_⟩, fun x hx => ?_⟩
      · have := (hR k hk).1
        rw [hc] at this
        unfold chunk
        rw [Nat.zero_add]; exact this
      · obtain ⟨i, hi, rfl⟩ := List.getElem_of_mem hx
        exact (hR i hi).2
    · cases h
/-- Flat elements of one cell, side by side. -/
theorem row_cells {α : Type} [GoTy α] [GoFlat α] {I : Imm} {cs : List Value} {l : List α} (f : α → Value) (hs : GoTy.sz α = 1) (hf : ∀ x : α, GoFlat.enc x = [f x]) (hl : cs.length = l.length) (h : RowRep I cs 0 l) : cs = l.map f := by
  apply List.ext_getElem?
  intro k
  by_cases hk : k < l.length
  · have h1 := GoFlat.rep_iff.1 (h.2 k hk)
    unfold chunk at h1
    rw [hs, hf, Nat.zero_add, Nat.mul_one] at h1
    have h2 : ((cs.drop k).take 1)[0]? = some (f l[k]) := by rw [h1]; rfl
    rw [List.getElem?_take, if_pos (by omega), List.getElem?_drop, Nat.add_zero] at h2
    rw [h2]; simp [hk]
  · rw [List.getElem?_eq_none (by omega), List.getElem?_eq_none (by simp; omega)]
theorem RdH.word (hu : P.underlying t = some (.array 4 e)) (hue : P.underlying e = some (.int .u64)) (hc : P.cellsOf e = 1) (hct : P.cellsOf t = 4) : RdH P t Word (fun _ => True) := by
  intro H enc W fuel cs d ps h hw
  obtain ⟨l, hl, hcl, hr, _⟩ := trod_arr (α := UInt64) hu hc hct h hw (RdH.u64 hue)
  have := row_cells (fun x : UInt64 => Value.int .u64 x.toNat) rfl (fun _ => rfl) (by rw [hcl, hl]; rfl) hr
  match l, hl with
  | [a, b, c, d], _ => exact ⟨⟨a, b, c, d⟩, this, trivial⟩
theorem RdH.pair (hu : P.underlying t = some (.array 2 e)) (hue : P.underlying e = some (.int .i64)) (hc : P.cellsOf e = 1) (hct : P.cellsOf t = 2) : RdH P t (Int × Int) (fun p => (-9223372036854775808 ≤ p.1 ∧ p.1 ≤ 9223372036854775807) ∧ (-9223372036854775808 ≤ p.2 ∧ p.2 ≤ 9223372036854775807)) := by
  intro H enc W fuel cs d ps h hw
  obtain ⟨l, hl, hcl, hr, hok⟩ := trod_arr (α := Int) hu hc hct h hw (RdH.int hue)
  have := row_cells (fun x : Int => Value.int .i64 x) rfl (fun _ => rfl) (by rw [hcl, hl]; rfl) hr
  match l, hl with
  | [a, b], _ => exact ⟨(a, b), this, hok a (by simp), hok b (by simp)⟩
theorem RdH.key {ta tb tw : TypeId} {f0 f1 f2 : Field} (hu : P.underlying t = some (.struct #[f0, f1, f2])) (h0 : f0.type = ta ∧ f0.offset = 0) (h1 : f1.type = tb ∧ f1.offset = 20) (h2 : f2.type = tw ∧ f2.offset = 21)
    (c0 : P.cellsOf ta = 20) (c1 : P.cellsOf tb = 1) (c2 : P.cellsOf tw = 4) (c : P.cellsOf t = 25) (r0 : RdH P ta Addr20 (fun _ => True)) (r1 : RdH P tb Bool (fun _ => True)) (r2 : RdH P tw Word (fun _ => True)) : RdH P t Key (fun _ => True) := by
  intro H enc W fuel cs d ps h hw
  obtain ⟨rfl, e0⟩ := h0
  obtain ⟨rfl, e1⟩ := h1
  obtain ⟨rfl, e2⟩ := h2
  have hl := trod_len hu h
  obtain ⟨a, ha, _⟩ := trod_field hu h hw 0 rfl r0
  obtain ⟨b, hb, _⟩ := trod_field hu h hw 1 rfl r1
  obtain ⟨w, hww, _⟩ := trod_field hu h hw 2 rfl r2
  rw [e0, c0] at ha
  rw [e1, c1] at hb
  rw [e2, c2] at hww
  refine ⟨⟨a, b, w⟩, ?_, trivial⟩
  have ha' : (cs.drop 0).take 20 = a.cells := ha
  have hb' : (cs.drop 20).take 1 = [.bool b] := hb
  have hw' : (cs.drop 21).take 4 = w.cells := hww
  show cs = a.cells ++ (.bool b :: w.cells)
  rw [← ha', ← hw', show (Value.bool b :: (cs.drop 21).take 4) = [.bool b] ++ (cs.drop 21).take 4 from rfl, ← hb', List.drop_zero]
  rw [List.take_of_length_le (l := cs.drop 21) (by simp; omega)]
  have e3 : cs.drop 20 = (cs.drop 20).take 1 ++ cs.drop 21 := by
    conv => lhs; rw [← List.take_append_drop 1 (cs.drop 20), List.drop_drop]
  rw [← e3, List.take_append_drop]
theorem RdH.sets {tl : TypeId} {ok : List Key → Prop} {f0 f1 : Field} (hu : P.underlying t = some (.struct #[f0, f1])) (h0 : f0.type = tl ∧ f0.offset = 0) (h1 : f1.type = tl ∧ f1.offset = 1)
    (c0 : P.cellsOf tl = 1) (c : P.cellsOf t = 2) (r0 : RdH P tl (List Key) ok) : RdH P t Sets (fun s => ok s.reads ∧ ok s.writes) := by
  intro H enc W fuel cs d ps h hw
  obtain ⟨t0, e0⟩ := h0
  obtain ⟨t1, e1⟩ := h1
  have hl := trod_len hu h
  obtain ⟨a, ha, hoa⟩ := trod_field hu h hw 0 rfl (by rw [t0]; exact r0)
  obtain ⟨b, hb, hob⟩ := trod_field hu h hw 1 rfl (by rw [t1]; exact r0)
  rw [e0, t0, c0] at ha
  rw [e1, t1, c0] at hb
  match cs, (hl.trans c) with
  | [u, v], _ =>
    have h3 : Rp (fun b => W.heap[b]?) u a := by
      obtain ⟨x, y, hx, hy⟩ := ha
      simp at hx; subst hx
      exact Rp.mkSlice hy rfl
    have h4 : Rp (fun b => W.heap[b]?) v b := by
      obtain ⟨x, y, hx, hy⟩ := hb
      simp at hx; subst hx
      exact Rp.mkSlice hy rfl
    refine ⟨⟨a, b⟩, ?_, hoa, hob⟩
    have := (Rp.mkSets (s := ⟨a, b⟩) h3 h4).cells
    simpa [cellsL] using this
/-- An argument that reads so. -/
theorem RdH.arg {α : Type} [GoTy α] {ok : α → Prop} (hr : RdH P t α ok) {H : Type} {enc : TypeId × Value → H} {W : World} {v : Value} {d : DataW H} {ps : List MemPlace} (h : DataW.Trod enc P W 0 (fun _ => true) true t v d ps) (hw : ∀ n ∈ d.weights P t, n ≤ reachBytes)
    (hag : GoTy.agg α = true → GoTy.sz α ≠ 1) (hna : GoTy.agg α = false → ∀ cs, v ≠ .agg cs) : ∃ x : α, Rp (fun b => W.heap[b]?) v x ∧ ok x := by
  obtain ⟨fuel, h⟩ := h
  obtain ⟨x, hx, hok⟩ := hr enc W fuel _ d ps h hw
  refine ⟨x, ⟨v.cells.toList, ?_, hx⟩, hok⟩
  have hl := GoTy.len hx
  cases hg : GoTy.agg α with
  | false =>
    have hs := GoTy.agg1 hg
    have ho := GoTy.one hx
    rw [hs] at hl
    cases v with
    | agg cs => exact absurd rfl (hna hg cs)
    | _ => rfl
  | true =>
    have hs := hag hg
    cases v with
    | agg cs => simp [mkv, Value.cells]
    | _ => simp [Value.cells] at hl; omega
theorem okWide_slice {W : World} {base : Nat} {v : Value} (hu : P.underlying t = some (.slice e)) (h : Value.okWide P W .any base t v) : ∀ cs, v ≠ .agg cs := by
  intro cs hv
  subst hv
  unfold Value.okWide at h
  rw [hu] at h
  simp [Cell.okWide, Cell.ok, hu] at h
theorem okWide_int {W : World} {base : Nat} {v : Value} {k : IntKind} (hu : P.underlying t = some (.int k)) (h : Value.okWide P W .any base t v) : ∀ cs, v ≠ .agg cs := by
  intro cs hv
  subst hv
  unfold Value.okWide at h
  rw [hu] at h
  simp [Cell.okWide, Cell.ok, hu] at h
end
end Go.Rail
set_option linter.unusedSimpArgs false
set_option linter.unusedVariables false
namespace Go.Rail
open Go Go.RowKit Go.ChangeShapes Go.WideShapes Go.ChangeAt
theorem Fn.below {P : Program} {f : FuncId} {args : List Value} {Φ : List Fa} {R : Value → List Fa → Own → Prop} (c : Fn P f args Φ [] R) (W : World) (hΦ : ∀ φ ∈ Φ, φ.p (fun b => W.heap[b]?)) :
    Calls P f args.toArray W fun e W' => ∃ v Φ' M', e = .returned v ∧ R v Φ' M' ∧ Below W.heap.size W W' := by
  refine (c (fun b => W.heap[b]?) W hΦ ⟨rfl, rfl, Nat.le_refl _, rfl, Nat.le_refl _, fun _ _ _ => rfl, Le.refl _, fun _ _ _ h => .inl h, fun _ _ h => h, fun _ h => (by cases h), fun _ h => (by cases h), .nil, fun _ h => (by cases h)⟩).mono ?_
  rintro e W' ⟨v, Φ', M', I', rfl, hR, _, hw⟩
  exact ⟨v, Φ', M', rfl, hR, hw.os, hw.tape, hw.output, hw.size, fun k hk => hw.blk k hk (by simp)⟩

theorem trodAll_stays {H : Type} {enc : TypeId × Value → H} {P : Program} (hl : laidOutB P = true) {W W' : World} (hb : Below W.heap.size W W') {sp : Nat → Bool} :
    ∀ {ts : List TypeId} {vs : List Value} {ds : List (DataW H)} {ps : List MemPlace}, (ts.all fun t => P.readableRec t && decide (t < P.types.size)) = true → DataW.TrodAll enc P W 0 (fun _ => true) true ts vs ds ps →
      (∀ x ∈ ps, x.block < W.heap.size) → (∀ x ∈ ps, sp x.block = true) → DataW.TrodAll enc P W' 0 sp true ts vs ds ps
  | [], [], [], ps, _, h, _, _ => h
  | t :: ts, v :: vs, d :: ds, ps, ha, h, hlt, hsp => by
    obtain ⟨p, q, h1, h2, rfl⟩ := h
    simp only [List.all_cons, Bool.and_eq_true, decide_eq_true_eq] at ha
    exact ⟨p, q, WideElems.Trod_stays hl ha.1.1 ha.1.2 h1 (fun x hx => hb.same (hlt x (by simp [hx]))) (fun x hx => hsp x (by simp [hx])),
      trodAll_stays hl hb (by simpa using ha.2) h2 (fun x hx => hlt x (by simp [hx])) (fun x hx => hsp x (by simp [hx])), rfl⟩
  | [], [], _ :: _, _, _, h, _, _ => h.elim
  | [], _ :: _, _, _, _, h, _, _ => h.elim
  | _ :: _, [], _, _, _, h, _, _ => h.elim
  | _ :: _, _ :: _, [], _, _, h, _, _ => h.elim

theorem law_post {H : Type} {enc : TypeId × Value → H} {P : Program} {f : Func} {s : ChangeSpec} {W W' : World} {args : Array Value} {ds gs : List (DataW H)} {before : List MemPlace} {tb : TypeId} (hl : laidOutB P = true)
    (hall : (f.params.toList.all fun t => P.readableRec t && decide (t < P.types.size)) = true) (hvars : s.vars = []) (hfn : s.fn H ds = { results := [.lit (.bool true)], args := ds }) (hres : f.resultTypes = #[tb]) (hb : P.underlying tb = some .bool)
    (hW : DataW.Whole enc P f.params.toList s.vars false W args.toList ds gs before) (hbel : Below W.heap.size W W') : s.post enc P f false true false false W args (.bool true) W' := by
  have hW' := hW
  have hlt : ∀ p ∈ before, p.block < W.heap.size := fun p hp => hW'.lt p hp
  obtain ⟨p, q, hA, hV, rfl, hz, hn⟩ := hW
  rw [hvars] at hV
  obtain ⟨rfl, rfl⟩ := trodVars_none hV
  rw [List.append_nil] at hW' hlt
  have hfn' : s.fn H (ds ++ []) = { results := [.lit (.bool true)], args := ds } := by rw [List.append_nil]; exact hfn
  refine ⟨ds, [], p, [], p, [], hW', ?_, ?_, ?_, hbel.frame _, fun h => by cases h⟩
  · rw [hfn', hres]
    exact trodAll_mk1 (shut_bool hb true)
  · rw [hfn']
    exact trodAll_stays hl hbel hall hA hlt (fun x hx => by simpa using hlt x hx)
  · rw [hfn', hvars]; rfl
end Go.Rail
namespace Go.Rail
open Go
theorem wt_of {H : Type} {P : Program} {ts : List TypeId} {ds : List (DataW H)} (h : (DataW.weightsEach P ts ds).all (· ≤ reachBytes) = true) (i : Nat) {u : TypeId} {d : DataW H} (ht : ts[i]? = some u) (hd : ds[i]? = some d) : ∀ n ∈ d.weights P u, n ≤ reachBytes := fun n hn => by
  have := List.all_eq_true.1 h n (weightsEach_mem ht hd n hn)
  simpa using this
end Go.Rail
set_option linter.unusedSimpArgs false
set_option linter.unusedVariables false
namespace Go.Rail
open Go
/-- What joins two sets. -/
def J (s t : Sets) : Sets := ⟨setK (s.reads ++ t.reads), setK (s.writes ++ t.writes)⟩
def small (n : Nat) (s : Sets) : Prop := s.reads.length ≤ n ∧ s.writes.length ≤ n
theorem right_setK {xs ys : List Key} (hx : ∀ k ∈ xs, mayK k = true) (hy : ∀ k ∈ ys, mayK k = true) (lx : xs.length ≤ 200) (ly : ys.length ≤ 200) : rightS ⟨setK xs, setK ys⟩ = true := by
  have h1 := setK_length xs
  have h2 := setK_length ys
  rw [rightS, Bool.and_eq_true, rightB, rightB, decide_eq_true_iff, decide_eq_true_iff]
  exact ⟨⟨fun k hk => hx k ((mem_setK _ _).1 hk), asc_setK _, by dsimp only; omega⟩, ⟨fun k hk => hy k ((mem_setK _ _).1 hk), asc_setK _, by dsimp only; omega⟩⟩
theorem clash_comm (a b : Sets) : clashS a b = clashS b a := by unfold clashS; rw [Bool.or_comm]
theorem mayK_of (a b : Int) : mayK (Key.of a b) = true := by
  unfold Key.of
  split
  · simp [mayK]
  · simp [mayK]
end Go.Rail
set_option linter.unusedSimpArgs false
set_option linter.unusedVariables false
namespace Go.Rail
open Go
def Kp (x : Cx) (Φ : List Fa) (L : Env) (M : Own) : Act → World → Prop := fun a w => ∃ I, (∀ φ ∈ Φ, φ.p I) ∧ Kn x.N L x.ds a ∧ Wd x.E I M w
section
variable {x : Cx} {Q : Exit → Act → World → Prop} {Φ : List Fa} {L : Env} {M : Own}
theorem W.cut {c d : Code} (Φ0 : List Fa) (L0 : Env) (M0 : Own) (h1 : W x c (Exit.then (Kp x Φ0 L0 M0) Q) Φ L M) (h2 : W x d Q Φ0 L0 M0) : W x (.seq c d) Q Φ L M := by
  refine W.seq (W.mono h1 ?_)
  intro e a w hq
  cases e with
  | normal =>
    obtain ⟨I, hf, hk, hw⟩ := hq
    exact h2 I a w hf hk hw
  | exit id => exact hq
  | goto l => exact hq
  | ret => exact hq
  | panic ch => exact hq
  | outgrown => exact hq
theorem W.cutThen {c : Code} {K : Act → World → Prop} (Φ0 : List Fa) (L0 : Env) (M0 : Own) (h1 : W x c (Exit.then (Kp x Φ0 L0 M0) Q) Φ L M) (h2 : G x Φ0 L0 M0 K) : W x c (Exit.then K Q) Φ L M := by
  refine W.mono h1 ?_
  intro e a w hq
  cases e with
  | normal =>
    obtain ⟨I, hf, hk, hw⟩ := hq
    exact h2 I a w hf hk hw
  | exit id => exact hq
  | goto l => exact hq
  | ret => exact hq
  | panic ch => exact hq
  | outgrown => exact hq
theorem G.kp {Φ0 : List Fa} {L0 : Env} {M0 : Own} (hΦ : Ents Φ Φ0) (hL : ∀ t v, look L0 t = some v → look L t = some v) (hM : M0.Sublist M) : G x Φ L M (Kp x Φ0 L0 M0) :=
  fun I a w hp hk hw => ⟨I, hΦ.h I hp, ⟨hk.sz, fun t v e => hk.val t v (hL t v e), hk.df⟩, hw.sub hM⟩
end
section
variable {x : Cx} {Q : Exit → Act → World → Prop} {Φ : List Fa} {L : Env} {M : Own} {ops : Array Oper} {K : Act → World → Prop}
variable {d : Nat} {ty : TypeId} {pos : String} {af : Array Edge} {g : Option (Nat × Bool)}
end
/-- What stands for a slice: its address and its room. -/
def sa : Value → Option Addr
  | .slice a _ _ => a
  | _ => none
def sc : Value → Nat
  | .slice _ _ c => c
  | _ => 0
/-- The block to which a pointer points. -/
def pb : Value → Nat
  | .pointer (some a) => a.block
  | _ => 0
end Go.Rail
set_option linter.unusedSimpArgs false
set_option linter.unusedVariables false
namespace Go.Rail
open Go
/-- So many zero values, side by side. -/
def zerosL (zs : List Value) (n : Nat) : List Value := (List.range (n * zs.length)).map fun i => zs.getD (i % zs.length) undef
theorem zerosL_length (zs : List Value) (n : Nat) : (zerosL zs n).length = n * zs.length := by simp [zerosL]
theorem zerosL_chunk (zs : List Value) (n k : Nat) (hk : k < n) : chunk (zerosL zs n) 0 zs.length k = zs := by
  apply List.ext_getElem?
  intro i
  unfold chunk zerosL
  rw [List.getElem?_take]
  have hk1 := Nat.mul_le_mul_right zs.length (Nat.succ_le_of_lt hk)
  rw [Nat.succ_mul] at hk1
  by_cases hi : i < zs.length
  · rw [if_pos hi, List.getElem?_drop, Nat.zero_add, List.getElem?_map, List.getElem?_range (by omega)]
    have e2 : (k * zs.length + i) % zs.length = i := by rw [Nat.mul_comm, Nat.mul_add_mod, Nat.mod_eq_of_lt hi]
    simp [e2, hi]
  · rw [if_neg hi, List.getElem?_eq_none (by omega)]
theorem row_zeros {α : Type} [GoTy α] {I : Imm} {zs : List Value} {zx : α} (n cap : Nat) (hn : n ≤ cap) (hz : zs.length = GoTy.sz α) (hr : GoTy.rep I zs zx) : RowRep I (zerosL zs cap) 0 (List.replicate n zx) := by
  refine ⟨?_, fun k hk => ?_⟩
  · rw [zerosL_length, hz, List.length_replicate]
    have := Nat.mul_le_mul_right (GoTy.sz α) hn
    omega
  · simp only [List.length_replicate] at hk
    rw [List.getElem_replicate, ← hz, zerosL_chunk zs cap k (by omega)]
    exact hr
section
variable {x : Cx} {Q : Exit → Act → World → Prop} {Φ : List Fa} {L : Env} {M : Own} {ops : Array Oper} {K : Act → World → Prop}
variable {d : Nat} {ty : TypeId} {pos : String} {af : Array Edge} {g : Option (Nat × Bool)}
/-- A new slice of zero values, of one's own. -/
theorem o_make {α : Type} [GoTy α] {t e bytes : Nat} {y z : Operand} (n cap : Nat) {p q : Int} {zs : List Value} (zx : α) [ht : SlTy x.P t e] [hb : Inf x.P e zs (GoTy.sz α) bytes] (hdN : Nat.blt d x.N = true) (hg : gd ops L g = some true) (hy : ev L y = some (.int .i64 p)) (hz : ev L z = some (.int .i64 q)) (hp' : p = (n : Int)) (hq' : q = (cap : Int)) (hn : n ≤ cap) (hc : cap < 9223372036854775808 ∧ bytes * cap ≤ 281474976710656 ∧ cap * bytes ≤ roomBytes) (hzl : zs.length = GoTy.sz α) (hrep : ∀ I, GoTy.rep I zs zx)
    (h : ∀ b, G x (fRow (zerosL zs cap) (List.replicate n zx) :: Φ) ((d, .slice (some ⟨b, 0, none⟩) n cap) :: L) ((b, Ob (zerosL zs cap) e) :: M) K) : OpK x ops Q ⟨some d, .makeSlice t y z, ty, pos, af, g⟩ Φ L M K :=
  OpK.mem rfl hdN hg (by simp) (fun I a w hp hk hw => by
    subst hp' hq'
    obtain ⟨ti, zv, hi, hz0, hzs, hsz, hby⟩ := hb.get
    obtain ⟨hc1, hc2, hc3⟩ := hc
    have wr : ∀ m : Nat, m ≤ cap → IntKind.i64.wrap (m : Int) = m := fun m hm => wrap_i64 (by omega) (by omega)
    have hzc : zv.cells = zs.toArray := by rw [← hzs, ← cells_toList, Array.toArray_toList]
    have hb2 : ¬ (281474976710656 < (bytes : Int) * (cap : Int)) := by
      have h3 := Int.ofNat_le.2 hc2
      rw [Int.natCast_mul] at h3
      omega
    have hroom : ¬ (roomBytes < cap * bytes) := by omega
    have hn0 : ¬ ((cap : Int) < n) := by omega
    have hneg : ¬ ((cap : Int) < 0 ∨ (n : Int) < 0) := by omega
    have hc0 : ¬ ((cap : Int) < 0) := by omega
    have hnn : ¬ ((n : Int) < 0) := by omega
    refine ⟨.slice (some ⟨w.heap.size, 0, none⟩) n cap, w.alloc (Ob (zerosL zs cap) e), fRow (zerosL zs cap) (List.replicate n zx) :: Φ, _, I, ?_, ?_, hw.alloc _, h w.heap.size⟩
    · have hcells : (Array.range (cap * GoTy.sz α)).map (fun i => zs.toArray[i % zs.toArray.size]!) = (zerosL zs cap).toArray := by
        rw [zerosL, hzl]
        apply Array.ext'
        simp only [Array.toList_map, Array.toList_range, List.size_toArray, hzl]
        refine List.map_congr_left fun i hi => ?_
        have h0 : 0 < GoTy.sz α := by
          rcases Nat.eq_zero_or_pos (GoTy.sz α) with h | h
          · rw [h] at hi; simp at hi
          · exact h
        have : i % GoTy.sz α < zs.length := by rw [hzl]; exact Nat.mod_lt _ h0
        simp [this]
      by_cases h0 : cap * GoTy.sz α = 0
      · have hz1 : zerosL zs cap = [] := by rw [zerosL, hzl, h0]; rfl
        simp [execOp, Instr.makeSlice, hk.eval hy, hk.eval hz, run_underlying ht.h, typeInfo, hi, asInt, asIntOf, Sem.run_bind, Result.andThen, Sem.run_pure, wr n hn, wr cap (Nat.le_refl _), hby, hb2, hn0, hc0, hnn, askRoom, hroom, sizeOf, hsz, h0, newRow, Ob, hz1]
        congr 2
        apply Array.ext'
        simp
      · simp [execOp, Instr.makeSlice, hk.eval hy, hk.eval hz, run_underlying ht.h, typeInfo, hi, asInt, asIntOf, Sem.run_bind, Result.andThen, Sem.run_pure, wr n hn, wr cap (Nat.le_refl _), hby, hb2, hn0, hc0, hnn, askRoom, hroom, sizeOf, hsz, h0, zeroValue, hz0, hzc, newRow, Ob, ← hcells]
    · intro φ hφ
      rcases List.mem_cons.1 hφ with rfl | hφ
      · exact row_zeros n cap hn hzl (hrep I)
      · exact hp φ hφ)
end
end Go.Rail
set_option linter.unusedSimpArgs false
set_option linter.unusedVariables false
namespace Go.Rail
open Go
class ZerV (P : Program) (t : TypeId) (v : outParam Value) : Prop where h : ∀ w, (zeroValue t).run P w = .ok v w
section
variable {x : Cx} {Q : Exit → Act → World → Prop} {Φ : List Fa} {L : Env} {M : Own} {ops : Array Oper} {K : Act → World → Prop}
variable {d : Nat} {ty : TypeId} {pos : String} {af : Array Edge} {g : Option (Nat × Bool)}
end
end Go.Rail
namespace Go.Rail
open Go
def idxG {α : Type} (p : α → Bool) (xs : List α) : Int := if xs.any p then (xs.findIdx p : Int) else -1
theorem idxG_none {α : Type} {p : α → Bool} {xs : List α} (h : ∀ k ∈ xs, p k = false) : idxG p xs = -1 := by
  rw [idxG, if_neg]; simpa using h
theorem idxG_at {α : Type} {p : α → Bool} {xs : List α} {i : Nat} (hi : i < xs.length) (h : ∀ k ∈ xs.take i, p k = false) (hp : p xs[i] = true) : idxG p xs = i := by
  rw [idxG, if_pos (List.any_eq_true.2 ⟨_, List.getElem_mem hi, hp⟩)]
  congr 1
  refine (List.findIdx_eq hi).2 ⟨hp, fun j hj => ?_⟩
  exact h _ (List.mem_take_iff_getElem.2 ⟨j, by omega, rfl⟩)
theorem idxG_nn {α : Type} (p : α → Bool) (xs : List α) : decide (idxG p xs ≥ 0) = xs.any p := by
  unfold idxG
  cases xs.any p <;> simp
/-- May sets be? -/
def mayG (l : List Sets) : Bool := decide (l.length ≤ 64) && l.all rightS
/-- Does the i-th clash with the k-th one? -/
def clG (l : List Sets) (i k : Nat) : Bool := match l[i]?, l[k]? with
  | some a, some b => clashS a b
  | _, _ => false
theorem clG_eq {l : List Sets} {i k : Nat} (hi : i < l.length) (hk : k < l.length) : clG l i k = clashS l[i] l[k] := by
  unfold clG; rw [List.getElem?_eq_getElem hi, List.getElem?_eq_getElem hk]
/-- The pairs of the i-th one with those from k on; all pairs from the i-th one on. -/
def rowG (l : List Sets) (i k : Nat) : List (Nat × Nat) := ((List.range' k (l.length - k)).filter fun k => clG l i k).map fun k => (i, k)
def restG (l : List Sets) (i : Nat) : List (Nat × Nat) := (List.range' i (l.length - i)).flatMap fun i => rowG l i (i + 1)
def edgesG (l : List Sets) : List (Nat × Nat) := restG l 0
theorem rowG_end {l : List Sets} {i k : Nat} (h : l.length ≤ k) : rowG l i k = [] := by
  unfold rowG; rw [Nat.sub_eq_zero_of_le h]; rfl
theorem rowG_step {l : List Sets} {i k : Nat} (h : k < l.length) : rowG l i k = if clG l i k then (i, k) :: rowG l i (k + 1) else rowG l i (k + 1) := by
  unfold rowG
  have e : l.length - k = (l.length - (k + 1)) + 1 := by omega
  rw [e, List.range'_succ, List.filter_cons]
  split <;> rfl
theorem restG_end {l : List Sets} {i : Nat} (h : l.length ≤ i) : restG l i = [] := by
  unfold restG; rw [Nat.sub_eq_zero_of_le h]; rfl
theorem restG_step {l : List Sets} {i : Nat} (h : i < l.length) : restG l i = rowG l i (i + 1) ++ restG l (i + 1) := by
  unfold restG
  have e : l.length - i = (l.length - (i + 1)) + 1 := by omega
  rw [e, List.range'_succ, List.flatMap_cons]
theorem mem_edgesG {l : List Sets} {p : Nat × Nat} : p ∈ edgesG l ↔ p.1 < p.2 ∧ p.2 < l.length ∧ clG l p.1 p.2 = true := by
  unfold edgesG restG rowG
  simp only [List.mem_flatMap, List.mem_map, List.mem_filter, List.mem_range'_1]
  constructor
  · rintro ⟨i, _, k, ⟨⟨h1, h2⟩, h3⟩, rfl⟩
    exact ⟨by dsimp only; omega, by dsimp only; omega, h3⟩
  · rintro ⟨h1, h2, h3⟩
    exact ⟨p.1, by omega, p.2, ⟨⟨by omega, by omega⟩, h3⟩, rfl⟩
end Go.Rail
set_option linter.unusedSimpArgs false
set_option linter.unusedVariables false
namespace Go.Rail
open Go
def ltE (p q : Nat × Nat) : Prop := p.1 < q.1 ∨ (p.1 = q.1 ∧ p.2 < q.2)
theorem edges_sorted (l : List Sets) : (edgesG l).Pairwise ltE := by
  unfold edgesG restG rowG
  rw [List.pairwise_flatMap]
  refine ⟨fun i _ => ?_, ?_⟩
  · rw [List.pairwise_map]
    refine List.Pairwise.imp (fun {a b} h => .inr ⟨rfl, h⟩) (List.Pairwise.filter _ List.pairwise_lt_range')
  · refine List.Pairwise.imp (fun {a b} h => ?_) (List.pairwise_lt_range' (s := 0) (n := l.length - 0))
    intro x hx y hy
    obtain ⟨k, _, rfl⟩ := List.mem_map.1 hx
    obtain ⟨k', _, rfl⟩ := List.mem_map.1 hy
    exact .inl h
theorem edges_at {l : List Sets} {c : Nat} (h : c < (edgesG l).length) : (edgesG l)[c].1 < (edgesG l)[c].2 ∧ (edgesG l)[c].2 < l.length ∧ clG l (edgesG l)[c].1 (edgesG l)[c].2 = true := mem_edgesG.1 (List.getElem_mem h)
def waitB (l : List Sets) (d : List Bool) (c k : Nat) : Bool := ((edgesG l).take c).any fun e => e.2 == k && !(d.getD e.1 false)
def waitP (l : List Sets) (d : List Bool) (c : Nat) : List Bool := (List.range l.length).map fun k => waitB l d c k
theorem waitP_length (l : List Sets) (d : List Bool) (c : Nat) : (waitP l d c).length = l.length := by simp [waitP]
theorem waitP_get (l : List Sets) (d : List Bool) (c : Nat) {k : Nat} (hk : k < (waitP l d c).length) : (waitP l d c)[k] = waitB l d c k := by simp [waitP]
theorem waitB_succ {l : List Sets} {d : List Bool} {c : Nat} (h : c < (edgesG l).length) (k : Nat) : waitB l d (c + 1) k = (waitB l d c k || ((edgesG l)[c].2 == k && !(d.getD (edgesG l)[c].1 false))) := by
  unfold waitB
  rw [List.take_add_one, List.getElem?_eq_getElem h, Option.toList_some, List.any_append]
  simp
theorem waitB_zero (l : List Sets) (d : List Bool) (k : Nat) : waitB l d 0 k = false := rfl
theorem waitP_zero (l : List Sets) (d : List Bool) : waitP l d 0 = List.replicate l.length false := by
  unfold waitP
  rw [show (fun k => waitB l d 0 k) = fun _ => false from rfl, List.map_const', List.length_range]
theorem waitP_succ {l : List Sets} {d : List Bool} {c : Nat} (h : c < (edgesG l).length) : waitP l d (c + 1) = (waitP l d c).set (edgesG l)[c].2 (waitB l d c (edgesG l)[c].2 || !(d.getD (edgesG l)[c].1 false)) := by
  apply List.ext_getElem
  · simp [waitP]
  · intro k h1 h2
    rw [List.getElem_set, waitP_get, waitP_get, waitB_succ h]
    split
    · rename_i e; rw [e]; simp
    · rename_i e
      have : ((edgesG l)[c].2 == k) = false := by simpa using e
      simp [this]
def waitE (l : List Sets) (d : List Bool) (k : Nat) : Bool := (edgesG l).any fun e => e.2 == k && !(d.getD e.1 false)
theorem waitB_end (l : List Sets) (d : List Bool) (k : Nat) : waitB l d (edgesG l).length k = waitE l d k := by rw [waitB, List.take_length]; rfl
/-- Is something done that has not begun, among the first i? -/
def badG (b d : List Bool) (i : Nat) : Bool := (List.range i).any fun k => d.getD k false && !(b.getD k false)
theorem badG_succ (b d : List Bool) (i : Nat) : badG b d (i + 1) = (badG b d i || (d.getD i false && !(b.getD i false))) := by
  unfold badG; rw [List.range_succ, List.any_append]; simp
theorem badG_mono {b d : List Bool} {i n : Nat} (h : i ≤ n) (hb : badG b d i = true) : badG b d n = true := by
  obtain ⟨k, hk, h1⟩ := List.any_eq_true.1 hb
  exact List.any_eq_true.2 ⟨k, List.mem_range.2 (by have := List.mem_range.1 hk; omega), h1⟩
def mayBegin (l : List Sets) (b d : List Bool) (k : Nat) : Bool := !(b.getD k false) && !(waitE l d k)
def readyP (l : List Sets) (b d : List Bool) (i : Nat) : List Int := ((List.range i).filter (mayBegin l b d)).map fun (k : Nat) => (k : Int)
theorem readyP_zero (l : List Sets) (b d : List Bool) : readyP l b d 0 = [] := rfl
theorem readyP_succ (l : List Sets) (b d : List Bool) (i : Nat) : readyP l b d (i + 1) = if mayBegin l b d i then readyP l b d i ++ [(i : Int)] else readyP l b d i := by
  unfold readyP
  rw [List.range_succ, List.filter_append, List.map_append]
  by_cases h : mayBegin l b d i = true
  · rw [if_pos h, List.filter_cons_of_pos h]; rfl
  · rw [if_neg h, List.filter_cons_of_neg (by simpa using h)]; simp
theorem readyP_length (l : List Sets) (b d : List Bool) (i : Nat) : (readyP l b d i).length ≤ i := by
  unfold readyP
  rw [List.length_map]
  exact Nat.le_trans (List.length_filter_le _ _) (by simp)
theorem mem_readyP {l : List Sets} {b d : List Bool} {i : Nat} {v : Int} : v ∈ readyP l b d i ↔ ∃ k : Nat, k < i ∧ v = k ∧ mayBegin l b d k = true := by
  unfold readyP
  simp only [List.mem_map, List.mem_filter, List.mem_range]
  constructor
  · rintro ⟨k, ⟨h1, h2⟩, rfl⟩; exact ⟨k, h1, rfl, h2⟩
  · rintro ⟨k, h1, rfl, h2⟩; exact ⟨k, ⟨h1, h2⟩, rfl⟩
/-- May one ask who is ready? -/
def okR (l : List Sets) (b d : List Bool) : Bool := mayG l && decide (b.length = l.length) && decide (d.length = l.length) && !(badG b d l.length)

def inR (n : Nat) (k : Int) : Bool := decide (0 ≤ k) && decide (k < n)
def posO (o : List Int) (k : Nat) : Nat := o.idxOf (k : Int)
def permB (n : Nat) (o : List Int) : Bool := decide (o.length = n) && decide o.Nodup && o.all (inR n)
def ordG (l : List Sets) (o : List Int) : Bool := mayG l && permB l.length o && (edgesG l).all fun e => decide (posO o e.1 ≤ posO o e.2)
end Go.Rail
set_option linter.unusedSimpArgs false
set_option linter.unusedVariables false
namespace Go.Rail
open Go
theorem nodup_bound (n : Nat) : ∀ (L : List Int), L.Nodup → (∀ x ∈ L, 0 ≤ x ∧ x < n) → L.length ≤ n := by
  induction n with
  | zero =>
    intro L _ h
    cases L with
    | nil => simp
    | cons a r => have := h a (by simp); omega
  | succ n ih =>
    intro L hn h
    by_cases hm : (n : Int) ∈ L
    · have h1 := ih (L.erase n) (hn.erase _) (fun x hx => by
        have := (List.Nodup.mem_erase_iff hn).1 hx
        have h2 := h x this.2
        have := this.1
        omega)
      rw [List.length_erase_of_mem hm] at h1
      omega
    · have h1 := ih L hn (fun x hx => by
        have h2 := h x hx
        have : x ≠ n := fun e => hm (e ▸ hx)
        omega)
      omega
theorem all_in {n : Nat} {o : List Int} (hl : o.length = n) (hn : o.Nodup) (h : ∀ x ∈ o, 0 ≤ x ∧ x < n) {k : Nat} (hk : k < n) : (k : Int) ∈ o := by
  apply Classical.byContradiction
  intro hm
  have := nodup_bound n ((k : Int) :: o) (List.nodup_cons.2 ⟨hm, hn⟩) (fun x hx => by
    rcases List.mem_cons.1 hx with rfl | hx
    · omega
    · exact h x hx)
  rw [List.length_cons] at this
  omega
theorem permB_iff {n : Nat} {o : List Int} : permB n o = true ↔ o.length = n ∧ o.Nodup ∧ ∀ x ∈ o, 0 ≤ x ∧ x < n := by
  simp [permB, inR, and_assoc]
theorem permB_mem {n : Nat} {o : List Int} (h : permB n o = true) {k : Nat} (hk : k < n) : (k : Int) ∈ o := by
  obtain ⟨h1, h2, h3⟩ := permB_iff.1 h
  exact all_in h1 h2 h3 hk
end Go.Rail
set_option linter.unusedSimpArgs false
set_option linter.unusedVariables false
namespace Go.Rail
open Go
def toI (p : Nat × Nat) : Int × Int := ((p.1 : Int), (p.2 : Int))
def edgesI (l : List Sets) : List (Int × Int) := (edgesG l).map toI
theorem edgesI_length (l : List Sets) : (edgesI l).length = (edgesG l).length := by simp [edgesI]
theorem edgesI_get (l : List Sets) {i : Nat} (h : i < (edgesI l).length) : (edgesI l)[i] = toI ((edgesG l)[i]'(by simpa [edgesI] using h)) := by simp [edgesI]
theorem nodup_sub {α : Type} [DecidableEq α] : ∀ {A B : List α}, A.Nodup → (∀ x ∈ A, x ∈ B) → A.length ≤ B.length
  | [], _, _, _ => by simp
  | a :: A, B, hn, hs => by
    have h1 := List.nodup_cons.1 hn
    have h2 : A.length ≤ (B.erase a).length := nodup_sub h1.2 (fun x hx => (List.mem_erase_of_ne (fun e => h1.1 (by rw [← e]; exact hx))).2 (hs x (by simp [hx])))
    have h3 := hs a (by simp)
    rw [List.length_erase_of_mem h3] at h2
    have := List.length_pos_of_mem h3
    rw [List.length_cons]; omega
theorem clG_comm (l : List Sets) (i k : Nat) : clG l i k = clG l k i := by
  unfold clG
  cases l[i]? <;> cases l[k]? <;> simp [clash_comm]
theorem edges_nodup (l : List Sets) : (edgesG l).Nodup := (edges_sorted l).imp (fun {a b} h e => by subst e; unfold ltE at h; omega)
def errG (l : List Sets) : Int := if mayG l then 0 else 1
def edgesR (l : List Sets) : List (Int × Int) := if mayG l then edgesI l else []
def errR (l : List Sets) (b d : List Bool) : Int := if okR l b d then 0 else 1
def readyR (l : List Sets) (b d : List Bool) : List Int := if okR l b d then readyP l b d l.length else []
theorem may_len {l : List Sets} (h : mayG l = true) : l.length ≤ 64 := by
  simp only [mayG, Bool.and_eq_true, decide_eq_true_eq] at h; exact h.1
theorem edges_len (l : List Sets) : (edgesG l).length ≤ l.length * l.length := by
  have h1 := nodup_sub (A := (edgesG l).map fun p => p.1 * l.length + p.2) (B := List.range (l.length * l.length)) (by
    unfold List.Nodup
    rw [List.pairwise_map]
    refine List.Pairwise.imp_of_mem (fun {a b} ha hb hab => ?_) (edges_nodup l)
    intro e
    have h1 := mem_edgesG.1 ha
    have h2 := mem_edgesG.1 hb
    have e1 : a.1 = b.1 := by
      have e' : l.length * a.1 + a.2 = l.length * b.1 + b.2 := by rw [Nat.mul_comm, Nat.mul_comm l.length b.1]; exact e
      have : (l.length * a.1 + a.2) / l.length = (l.length * b.1 + b.2) / l.length := by rw [e']
      rw [Nat.mul_add_div (by omega), Nat.mul_add_div (by omega), Nat.div_eq_of_lt h1.2.1, Nat.div_eq_of_lt h2.2.1] at this
      omega
    have e : a.1 * l.length + a.2 = b.1 * l.length + b.2 := e
    rw [e1] at e
    exact hab (Prod.ext e1 (by omega))) (fun x hx => by
    obtain ⟨p, hp, rfl⟩ := List.mem_map.1 hx
    have h1 := mem_edgesG.1 hp
    rw [List.mem_range]
    have h3 := Nat.mul_le_mul_right l.length (show p.1 + 1 ≤ l.length by omega)
    rw [Nat.succ_mul] at h3
    omega)
  simpa using h1
theorem edges_few {l : List Sets} (h : mayG l = true) : (edgesG l).length ≤ 4096 := by
  have h1 := may_len h
  have h2 := edges_len l
  have h3 := Nat.mul_le_mul h1 h1
  omega

end Go.Rail
set_option linter.unusedSimpArgs false
set_option linter.unusedVariables false
namespace Go.Rail
open Go
theorem getD_set (B : List Bool) {k : Nat} (hk : k < B.length) (u : Bool) (i : Nat) : (B.set k u).getD i false = if i = k then u else B.getD i false := by
  rw [List.getD_eq_getElem?_getD, List.getElem?_set, List.getD_eq_getElem?_getD]
  by_cases e : k = i
  · subst e
    simp [hk]
  · rw [if_neg e, if_neg (Ne.symm e)]
structure RunI (l : List Sets) (B D : List Bool) (O R : List Int) : Prop where
  lb : B.length = l.length
  ld : D.length = l.length
  db : ∀ k, k < l.length → D.getD k false = true → B.getD k false = true
  on : O.Nodup
  om : ∀ v, v ∈ O ↔ ∃ k : Nat, k < l.length ∧ v = k ∧ B.getD k false = true ∧ D.getD k false = false
  rn : R.Nodup
  rm : ∀ v, v ∈ R ↔ ∃ k : Nat, k < l.length ∧ v = k ∧ B.getD k false = true
  pd : ∀ i k, i < k → k < l.length → clG l i k = true → B.getD k false = true → D.getD i false = true
  po : ∀ i k, i < k → k < l.length → clG l i k = true → B.getD k false = true → posO R i < posO R k
theorem getD_rep (n i : Nat) : (List.replicate n false).getD i false = false := by
  rw [List.getD_eq_getElem?_getD, List.getElem?_replicate]
  split <;> rfl
section
variable {l : List Sets} {B D : List Bool} {O R : List Int}
theorem RunI.ok (h : RunI l B D O R) (hm : mayG l = true) : okR l B D = true := by
  have hb : badG B D l.length = false := by
    rw [badG, List.any_eq_false]
    intro k hk
    rw [List.mem_range] at hk
    cases hd : D.getD k false with
    | false => simp
    | true => rw [h.db k hk hd]; simp
  rw [okR, hm, decide_eq_true h.lb, decide_eq_true h.ld, hb]; rfl
theorem waitE_iff {l : List Sets} {D : List Bool} {k : Nat} (hk : k < l.length) : waitE l D k = false ↔ ∀ i, i < k → clG l i k = true → D.getD i false = true := by
  rw [waitE, List.any_eq_false]
  constructor
  · intro h i hi hc
    have := h (i, k) (mem_edgesG.2 ⟨hi, hk, hc⟩)
    simpa using this
  · intro h e he
    obtain ⟨h1, h2, h3⟩ := mem_edgesG.1 he
    by_cases ek : e.2 = k
    · rw [ek] at h1 h3
      have h4 := h e.1 h1 h3
      rw [h4]; simp
    · have : (e.2 == k) = false := by simpa using ek
      rw [this]; simp
theorem mem_ready {l : List Sets} {B D : List Bool} {v : Int} (hv : v ∈ readyP l B D l.length) : ∃ k : Nat, k < l.length ∧ v = k ∧ B.getD k false = false ∧ ∀ i, i < k → clG l i k = true → D.getD i false = true := by
  obtain ⟨k, hk, rfl, hb⟩ := mem_readyP.1 hv
  simp only [mayBegin, Bool.and_eq_true, Bool.not_eq_true'] at hb
  exact ⟨k, hk, rfl, hb.1, (waitE_iff hk).1 hb.2⟩
theorem leastN {p : Nat → Prop} [DecidablePred p] (n : Nat) : (∃ k, k < n ∧ p k) → ∃ k, k < n ∧ p k ∧ ∀ i, i < k → ¬ p i := by
  rintro ⟨k, hk, hp⟩
  induction k using Nat.strongRecOn with
  | ind k ih =>
    by_cases h : ∃ i, i < k ∧ p i
    · obtain ⟨i, hi, hpi⟩ := h
      exact ih i hi (by omega) hpi
    · exact ⟨k, hk, hp, fun i hi hpi => h ⟨i, hi, hpi⟩⟩
/-- One is always ready, or open. -/
theorem RunI.some (h : RunI l B D O R) (ho : O = []) (hr : R.length < l.length) : readyP l B D l.length ≠ [] := by
  have hex : ∃ k, k < l.length ∧ B.getD k false = false := by
    apply Classical.byContradiction
    intro hn
    have hall : ∀ k, k < l.length → B.getD k false = true := fun k hk => by
      cases hb : B.getD k false with
      | true => rfl
      | false => exact absurd ⟨k, hk, hb⟩ hn
    have h1 : ((List.range l.length).map fun (k : Nat) => (k : Int)).Nodup := by
      unfold List.Nodup
      rw [List.pairwise_map]
      exact List.Pairwise.imp (fun {a b} hab e => hab (by omega)) List.nodup_range
    have := nodup_sub h1 (B := R) (fun x hx => by
      obtain ⟨k, hk, rfl⟩ := List.mem_map.1 hx
      exact (h.rm _).2 ⟨k, List.mem_range.1 hk, rfl, hall k (List.mem_range.1 hk)⟩)
    rw [List.length_map, List.length_range] at this
    omega
  obtain ⟨k, hk, hb, hlt⟩ := leastN l.length hex
  have hmem : (k : Int) ∈ readyP l B D l.length := by
    refine mem_readyP.2 ⟨k, hk, rfl, ?_⟩
    rw [mayBegin, hb, (waitE_iff hk).2 (fun i hi hc => ?_)]
    · rfl
    · have hbi : B.getD i false = true := by
        have := hlt i hi
        simpa using this
      cases hd : D.getD i false with
      | true => rfl
      | false =>
        have : (i : Int) ∈ O := (h.om _).2 ⟨i, by omega, rfl, hbi, hd⟩
        rw [ho] at this; cases this
  intro e
  rw [e] at hmem; cases hmem
theorem RunI.begin (h : RunI l B D O R) {k : Nat} (hk : k < l.length) (hb : B.getD k false = false) (hw : ∀ i, i < k → clG l i k = true → D.getD i false = true) : RunI l (B.set k true) D (O ++ [(k : Int)]) (R ++ [(k : Int)]) := by
  have hkb : k < B.length := by rw [h.lb]; exact hk
  have hg := getD_set B hkb true
  have hdk : D.getD k false = false := by
    cases hd : D.getD k false with
    | false => rfl
    | true => have := h.db k hk hd; rw [hb] at this; cases this
  have hkO : (k : Int) ∉ O := fun hm => by
    obtain ⟨i, _, e, hbi, _⟩ := (h.om _).1 hm
    have : k = i := by omega
    subst this; rw [hb] at hbi; cases hbi
  have hkR : (k : Int) ∉ R := fun hm => by
    obtain ⟨i, _, e, hbi⟩ := (h.rm _).1 hm
    have : k = i := by omega
    subst this; rw [hb] at hbi; cases hbi
  have hpd : ∀ i j, i < j → j < l.length → clG l i j = true → (B.set k true).getD j false = true → D.getD i false = true := by
    intro i j hij hj hc hbj
    rw [hg] at hbj
    by_cases e : j = k
    · subst e; exact hw i hij hc
    · rw [if_neg e] at hbj; exact h.pd i j hij hj hc hbj
  refine ⟨by rw [List.length_set]; exact h.lb, h.ld, ?_, ?_, ?_, ?_, ?_, hpd, ?_⟩
  · intro j hj hd
    rw [hg]
    split
    · rfl
    · exact h.db j hj hd
  · exact List.nodup_append.2 ⟨h.on, by simp, fun a ha b hb' e => by rw [List.mem_singleton] at hb'; exact hkO (by rw [← hb', ← e]; exact ha)⟩
  · intro v
    rw [List.mem_append, List.mem_singleton, h.om]
    constructor
    · rintro (⟨j, hj, rfl, hbj, hdj⟩ | rfl)
      · exact ⟨j, hj, rfl, by rw [hg]; split <;> simp_all, hdj⟩
      · exact ⟨k, hk, rfl, by rw [hg, if_pos rfl], hdk⟩
    · rintro ⟨j, hj, rfl, hbj, hdj⟩
      rw [hg] at hbj
      by_cases e : j = k
      · exact .inr (by rw [e])
      · rw [if_neg e] at hbj; exact .inl ⟨j, hj, rfl, hbj, hdj⟩
  · exact List.nodup_append.2 ⟨h.rn, by simp, fun a ha b hb' e => by rw [List.mem_singleton] at hb'; exact hkR (by rw [← hb', ← e]; exact ha)⟩
  · intro v
    rw [List.mem_append, List.mem_singleton, h.rm]
    constructor
    · rintro (⟨j, hj, rfl, hbj⟩ | rfl)
      · exact ⟨j, hj, rfl, by rw [hg]; split <;> simp_all⟩
      · exact ⟨k, hk, rfl, by rw [hg, if_pos rfl]⟩
    · rintro ⟨j, hj, rfl, hbj⟩
      rw [hg] at hbj
      by_cases e : j = k
      · exact .inr (by rw [e])
      · rw [if_neg e] at hbj; exact .inl ⟨j, hj, rfl, hbj⟩
  · intro i j hij hj hc hbj
    have hdi := hpd i j hij hj hc hbj
    have hbi := h.db i (by omega) hdi
    have hiR : (i : Int) ∈ R := (h.rm _).2 ⟨i, by omega, rfl, hbi⟩
    have h1 : posO (R ++ [(k : Int)]) i = posO R i := by
      unfold posO; rw [List.idxOf_append, if_pos hiR]
    have h2 : posO R i < R.length := by unfold posO; exact List.idxOf_lt_length_iff.2 hiR
    rw [hg] at hbj
    by_cases e : j = k
    · subst e
      have h3 : posO (R ++ [(j : Int)]) j = R.length := by
        unfold posO
        rw [List.idxOf_append, if_neg hkR]
        simp
      omega
    · rw [if_neg e] at hbj
      have hjR : (j : Int) ∈ R := (h.rm _).2 ⟨j, hj, rfl, hbj⟩
      have h3 : posO (R ++ [(k : Int)]) j = posO R j := by
        unfold posO; rw [List.idxOf_append, if_pos hjR]
      have := h.po i j hij hj hc hbj
      omega
theorem RunI.order (h : RunI l B D O R) (hm : mayG l = true) (hr : R.length = l.length) : ordG l R = true := by
  have hp : permB l.length R = true := permB_iff.2 ⟨hr, h.rn, fun x hx => by
    obtain ⟨k, hk, rfl, _⟩ := (h.rm x).1 hx
    omega⟩
  rw [ordG, hm, hp, Bool.true_and, Bool.true_and, List.all_eq_true]
  intro e he
  obtain ⟨h1, h2, h3⟩ := mem_edgesG.1 he
  have hmem := permB_mem hp h2
  obtain ⟨k, hk, ek, hb⟩ := (h.rm _).1 hmem
  have e2 : e.2 = k := by omega
  rw [← e2] at hb
  exact decide_eq_true (Nat.le_of_lt (h.po e.1 e.2 h1 h2 h3 hb))
end
end Go.Rail
set_option linter.unusedSimpArgs false
set_option linter.unusedVariables false
namespace Go.Rail
open Go
def gA : Sets := ⟨[], [lK]⟩
end Go.Rail
set_option linter.unusedSimpArgs false
set_option linter.unusedVariables false
namespace Go.Rail
open Go
structure RawS where
  a : List (Int × Int)
  b : List (Int × Int)
instance : GoTy RawS where
  sz := 2
  agg := true
  rep := fun I cs s => ∃ r w, cs = [r, w] ∧ Rp I r s.a ∧ Rp I w s.b
  mono := fun hl h => by obtain ⟨r, w, e, h1, h2⟩ := h; exact ⟨r, w, e, h1.mono hl, h2.mono hl⟩
  len := fun h => by obtain ⟨r, w, e, h1, h2⟩ := h; rw [e]; rfl
  one := fun h => by
    obtain ⟨r, w, e, h1, h2⟩ := h
    obtain ⟨_, _, rfl, _⟩ := h1.slice
    obtain ⟨_, _, rfl, _⟩ := h2.slice
    rw [e]; rfl
  agg1 := fun h => by cases h
instance : PartOf (α := RawS) (β := List (Int × Int)) 0 RawS.a where
  le := by decide
  h := fun I cs z h => by
    obtain ⟨r, w, e, h1, h2⟩ := h
    rw [e]
    obtain ⟨a, cap, rfl, hs⟩ := h1.slice
    exact ⟨a, cap, rfl, hs⟩
instance : PartOf (α := RawS) (β := List (Int × Int)) 1 RawS.b where
  le := by decide
  h := fun I cs z h => by
    obtain ⟨r, w, e, h1, h2⟩ := h
    rw [e]
    obtain ⟨a, cap, rfl, hs⟩ := h2.slice
    exact ⟨a, cap, rfl, hs⟩
theorem RdH.rawS {P : Program} {t e : TypeId} {ok : List (Int × Int) → Prop} (hu : P.underlying t = some (.array 2 e)) (hc : P.cellsOf e = 1) (hct : P.cellsOf t = 2) (r : RdH P e (List (Int × Int)) ok) : RdH P t RawS (fun s => ok s.a ∧ ok s.b) := by
  intro H enc W fuel cs d ps h hw
  obtain ⟨l, hl, hcl, hr, hok⟩ := trod_arr (α := List (Int × Int)) hu hc hct h hw r
  match l, hl with
  | [a, b], _ =>
    match cs, hcl with
    | [c0, c1], _ =>
      have h0 := hr.2 0 (by simp)
      have h1 := hr.2 1 (by simp)
      exact ⟨⟨a, b⟩, ⟨c0, c1, rfl, ⟨[c0], rfl, h0⟩, ⟨[c1], rfl, h1⟩⟩, hok a (by simp), hok b (by simp)⟩
end Go.Rail
set_option linter.unusedSimpArgs false
set_option linter.unusedVariables false
namespace Go.Rail
open Go
/-- What lies unchanging, and what is lent. -/
def lentI (I : Imm) (M : Own) : Imm := fun b => match M.find? (fun p => p.1 == b) with
  | some p => some p.2
  | none => I b
theorem lentI_mem {I : Imm} {M : Own} (hn : (M.map Prod.fst).Nodup) {p : Nat × Obj} (hp : p ∈ M) : lentI I M p.1 = some p.2 := by
  unfold lentI
  cases hf : M.find? (fun q => q.1 == p.1) with
  | none => have := List.find?_eq_none.1 hf p hp; simp at this
  | some q =>
    have h1 := List.mem_of_find?_eq_some hf
    have h2 := List.find?_some hf
    have h3 : q.1 = p.1 := by simpa using h2
    obtain ⟨i, hi, rfl⟩ := List.mem_iff_getElem.1 h1
    obtain ⟨j, hj, rfl⟩ := List.mem_iff_getElem.1 hp
    have h4 : i = j := (List.getElem_inj (xs := M.map Prod.fst) (h₀ := by simpa using hi) (h₁ := by simpa using hj) hn).1 (by simpa using h3)
    subst h4
    rfl
theorem lentI_cases {I : Imm} {M : Own} {b : Nat} {o : Obj} (h : lentI I M b = some o) : (b, o) ∈ M ∨ I b = some o := by
  unfold lentI at h
  cases hf : M.find? (fun q => q.1 == b) with
  | none => rw [hf] at h; exact .inr h
  | some q =>
    rw [hf] at h
    have h1 := List.mem_of_find?_eq_some hf
    have h2 := List.find?_some hf
    have h3 : q.1 = b := by simpa using h2
    cases h
    subst h3
    exact .inl h1
theorem lentI_le {I : Imm} {M : Own} (hs : ∀ p ∈ M, I p.1 = none) : Le I (lentI I M) := by
  intro b o e
  unfold lentI
  cases hf : M.find? (fun q => q.1 == b) with
  | none => exact e
  | some q =>
    have h1 := List.mem_of_find?_eq_some hf
    have h2 := List.find?_some hf
    have h3 : q.1 = b := by simpa using h2
    have := hs q h1
    rw [h3, e] at this
    cases this
theorem Wd.lend {E : Ent} {I : Imm} {M : Own} {w : World} (h : Wd E I M w) : Wd ⟨lentI I M, [], w⟩ (lentI I M) [] w where
  os := rfl
  tape := rfl
  drawn := Nat.le_refl _
  output := rfl
  size := Nat.le_refl _
  blk := fun _ _ _ => rfl
  up := Le.refl _
  new := fun _ _ _ e => .inl e
  imm := fun b o e => (lentI_cases e).elim (fun hm => h.own (b, o) hm) (fun hi => h.imm b o hi)
  own := fun _ hp => by cases hp
  sep := fun _ hp => by cases hp
  nd := .nil
  low := fun _ hp => by cases hp
def backI (I I2 : Imm) (n : Nat) : Imm := fun b => if b < n then I b else I2 b
theorem Wd.unlend {E : Ent} {I I2 : Imm} {M Mc : Own} {w w' : World} (h : Wd E I M w) (k : Wd ⟨lentI I M, [], w⟩ I2 Mc w') : Wd E (backI I I2 w.heap.size) (Mc ++ M) w' ∧ Le I (backI I I2 w.heap.size) := by
  have hle : Le I (backI I I2 w.heap.size) := fun b o e => by
    unfold backI; rw [if_pos (h.ilt e)]; exact e
  have hnew : ∀ p ∈ Mc, ¬ p.1 < w.heap.size := fun p hp hlt => by
    have := k.low p hp hlt; cases this
  refine ⟨⟨k.os.trans h.os, k.tape.trans h.tape, Nat.le_trans h.drawn k.drawn, k.output.trans h.output, Nat.le_trans h.size k.size, ?_, h.up.trans hle, ?_, ?_, ?_, ?_, ?_, ?_⟩, hle⟩
  · intro b hb hD
    have := h.size
    exact (k.blk b (by show b < w.heap.size; omega) (by simp)).trans (h.blk b hb hD)
  · intro b o hb hi
    have := h.size
    unfold backI at hi
    rw [if_pos (by omega)] at hi
    exact h.new b o hb hi
  · intro b o hi
    unfold backI at hi
    by_cases hb : b < w.heap.size
    · rw [if_pos hb] at hi
      exact (k.blk b hb (by simp)).trans (h.imm b o hi)
    · rw [if_neg hb] at hi
      exact k.imm b o hi
  · intro p hp
    rcases List.mem_append.1 hp with hp | hp
    · exact k.own p hp
    · exact (k.blk p.1 (h.lt hp) (by simp)).trans (h.own p hp)
  · intro p hp
    unfold backI
    rcases List.mem_append.1 hp with hp | hp
    · rw [if_neg (hnew p hp)]; exact k.sep p hp
    · rw [if_pos (h.lt hp)]; exact h.sep p hp
  · rw [List.map_append]
    refine List.nodup_append.2 ⟨k.nd, h.nd, ?_⟩
    intro a ha b hb e
    obtain ⟨p, hp, rfl⟩ := List.mem_map.1 ha
    obtain ⟨q, hq, rfl⟩ := List.mem_map.1 hb
    exact hnew p hp (by rw [e]; exact h.lt hq)
  · intro p hp hlt
    have := h.size
    rcases List.mem_append.1 hp with hp | hp
    · exact absurd (show p.1 < w.heap.size by omega) (hnew p hp)
    · exact h.low p hp hlt
/-- What does not hang on memory. -/
def Free (φ : Fa) : Prop := ∀ I J, φ.p I → φ.p J
theorem Free.row {α : Type} [GoTy α] [GoFlat α] {cs : List Value} {xs : List α} : Free (fRow cs xs) := by
  intro I J h
  exact ⟨h.1, fun k hk => GoFlat.rep_iff.2 (GoFlat.rep_iff.1 (h.2 k hk))⟩
theorem Free.pure {p : Prop} : Free (fPure p) := fun _ _ h => h
/-- What follows from what is known, and from what one owns when it is lent. -/
class LEnt (Φ : List Fa) (M : Own) (φ : Fa) : Prop where h : ∀ I J, Le I J → (∀ ψ ∈ Φ, ψ.p I) → (∀ p ∈ M, J p.1 = some p.2) → φ.p J
instance LEnt.of {Φ : List Fa} {M : Own} {φ : Fa} [e : Ent' Φ φ] : LEnt Φ M φ := ⟨fun I J hl hp _ => φ.mono I J hl (e.h I hp)⟩
class LEnts (Φ : List Fa) (M : Own) (l : List Fa) : Prop where h : ∀ I J, Le I J → (∀ ψ ∈ Φ, ψ.p I) → (∀ p ∈ M, J p.1 = some p.2) → ∀ φ ∈ l, φ.p J
instance LEnts.nil {Φ : List Fa} {M : Own} : LEnts Φ M [] := ⟨fun _ _ _ _ _ _ h => by cases h⟩
instance LEnts.cons {Φ l : List Fa} {M : Own} {φ : Fa} [a : LEnt Φ M φ] [b : LEnts Φ M l] : LEnts Φ M (φ :: l) := ⟨fun I J hl hp hm ψ hψ => by
  rcases List.mem_cons.1 hψ with rfl | h
  · exact a.h I J hl hp hm
  · exact b.h I J hl hp hm ψ h⟩
/-- A slice of one's own, lent. -/
theorem LEnt.own {α : Type} [GoTy α] {Φ : List Fa} {M : Own} {v : Value} {xs : List α} (o : OR) (e : TypeId) (hv : IsOwn (GoTy.sz α) v xs.length o) (hrow : Ent' Φ (fRow (ocells o) xs)) (hM : ∀ p ∈ ownM e o, p ∈ M) : LEnt Φ M (fRp v xs) := ⟨fun I J hl hp hm => by
  have hr : RowRep J (ocells o) 0 xs := RowRep.mono hl (hrow.h I hp)
  cases o with
  | none =>
    obtain ⟨rfl, hx0⟩ := hv
    have hxs : xs = [] := List.length_eq_zero_iff.1 hx0
    subst hxs
    exact Rp.nil none 0
  | some q =>
    obtain ⟨b, cs⟩ := q
    obtain ⟨cap, rfl, hcs, hle⟩ := hv
    have hb : J b = some (Ob cs e) := hm (b, Ob cs e) (hM _ (by simp [ownM]))
    refine Rp.mkSlice ⟨hle, fun _ => ⟨⟨b, 0, none⟩, cs.toArray, e, (0, 0), rfl, rfl, hb, ?_⟩⟩ rfl
    have hr : RowRep J cs 0 xs := hr
    exact (by simpa using hr : RowRep J cs.toArray.toList 0 xs)⟩
section
variable {x : Cx} {Q : Exit → Act → World → Prop} {Φ : List Fa} {L : Env} {M : Own} {ops : Array Oper} {K : Act → World → Prop}
variable {d : Nat} {ty : TypeId} {pos : String} {af : Array Edge} {g : Option (Nat × Bool)}
theorem OpK.lend {y : Operand} {args : List Operand} {vs cap : List Value} {ts : Array TypeId} {f : FuncId} {R : Value → List Fa → Own → Prop} {Φc : List Fa}
    (hdN : Nat.blt d x.N = true) (hg : gd ops L g = some true) (hy : ev L y = some (.func (.func f) #[] cap.toArray)) [hf : HasFn x.P f] (hargs : args.mapM (ev L) = some vs)
    (c : Fn x.P f (vs ++ cap) Φc [] R) (hΦ : LEnts Φ M Φc) (hfree : ∀ u Φ' M', R u Φ' M' → ∀ φ ∈ Φ', Free φ)
    (h : ∀ v Φ' Mc', R v Φ' Mc' → G x (Φ' ++ Φ) ((d, v) :: L) (Mc' ++ M) K) : OpK x ops Q ⟨some d, .call ⟨.value y, args.toArray, ts⟩, ty, pos, af, g⟩ Φ L M K := by
  intro I a w hp hk hw
  unfold opRun
  rw [if_pos (gd_wanted hk hg)]
  refine ⟨fun f _ => FR_fn _ f, ?_⟩
  rw [Oper.semAt_eq _ _ _ (by simp)]
  have hc := c (lentI I M) w (hΦ.h I _ (lentI_le hw.sep) hp (fun p hp => lentI_mem hw.nd hp)) hw.lend
  have hrun : (execOp a.eval ⟨some d, .call ⟨.value y, args.toArray, ts⟩, ty, pos, af, g⟩).run x.P w = .ok (.enter f (vs ++ cap).toArray) w := by
    simp [execOp, resolve, hk.eval hy, Deferred.ofValue, evs_map hk hargs, invoke, hf.h, Sem.run_bind, Result.andThen, Sem.run_pure]
  rw [hrun]
  simp only [Oper.uponIn]
  refine ⟨fun hd => (by rw [FR_depth] at hd; cases hd), (callsIn_FR hc).mono ?_⟩
  rintro e w' ⟨v, Φ', Mc', I', rfl, hR, hf', hwd⟩
  obtain ⟨hw3, hle⟩ := hw.unlend hwd
  refine h v Φ' Mc' hR _ _ w' ?_ (hk.put v hdN) hw3
  intro φ hφ
  rcases List.mem_append.1 hφ with hφ | hφ
  · exact hfree v Φ' Mc' hR φ hφ _ _ (hf' φ hφ)
  · exact φ.mono _ _ hle (hp φ hφ)
/-- A slice of one's own with something beside it. -/
def RTup {α : Type} [GoTy α] (mk : Value → Value) (e : TypeId) (xs : List α) : Value → List Fa → Own → Prop := fun u Φ' M' => ∃ sv o, u = mk sv ∧ IsOwn (GoTy.sz α) sv xs.length o ∧ Φ' = [fRow (ocells o) xs] ∧ M' = ownM e o
theorem o_lendU {α : Type} [GoTy α] [GoFlat α] {y : Operand} {args : List Operand} {vs cap : List Value} {ts : Array TypeId} {f : FuncId} {Φc : List Fa} {mk : Value → Value} {e : TypeId} {xs : List α}
    (hdN : Nat.blt d x.N = true) (hg : gd ops L g = some true) (hy : ev L y = some (.func (.func f) #[] cap.toArray)) [hf : HasFn x.P f] (hargs : args.mapM (ev L) = some vs) (c : Fn x.P f (vs ++ cap) Φc [] (RTup mk e xs)) (hΦ : LEnts Φ M Φc)
    (h : ∀ v o, IsOwn (GoTy.sz α) v xs.length o → G x (fRow (ocells o) xs :: Φ) ((d, mk v) :: L) (M ++ ownM e o) K) : OpK x ops Q ⟨some d, .call ⟨.value y, args.toArray, ts⟩, ty, pos, af, g⟩ Φ L M K :=
  OpK.lend hdN hg hy hargs c hΦ (by rintro u Φ' M' ⟨sv, o, rfl, ho, rfl, rfl⟩ φ hφ; rw [List.mem_singleton] at hφ; subst hφ; exact Free.row) (by
    rintro u Φ' Mc' ⟨sv, o, rfl, ho, rfl, rfl⟩
    exact G.perm (h sv o ho) List.perm_append_comm)
/-- ... that lies unchanging from then on. -/
theorem Fn.givenT {P : Program} {f : FuncId} {args : List Value} {Φc : List Fa} {mk : Value → Value} {e : TypeId} {α : Type} [GoTy α] {xs : List α} (h : Fn P f args Φc [] (RTup mk e xs)) : Fn P f args Φc [] (fun u Φ' M' => ∃ sv, u = mk sv ∧ Φ' = [fRp sv xs] ∧ M' = []) := by
  intro I w hp hw
  refine (h I w hp hw).mono ?_
  rintro e' w' ⟨u, Φ', M', I', rfl, ⟨sv, o, rfl, ho, rfl, rfl⟩, hf, hwd⟩
  have hr : RowRep I' (ocells o) 0 xs := hf (fRow (ocells o) xs) (by simp)
  cases o with
  | none =>
    obtain ⟨rfl, hx0⟩ := ho
    have hxs : xs = [] := List.length_eq_zero_iff.1 hx0
    subst hxs
    exact ⟨_, _, [], I', rfl, ⟨_, rfl, rfl, rfl⟩, fun φ hφ => by rw [List.mem_singleton] at hφ; subst hφ; exact Rp.nil none 0, hwd⟩
  | some q =>
    obtain ⟨b, cs⟩ := q
    obtain ⟨cap, rfl, hcs, hle⟩ := ho
    have hw2 : Wd _ I' ((b, Ob cs e) :: []) w' := hwd
    have hn : I' b = none := hw2.sep (b, Ob cs e) (by simp)
    refine ⟨_, _, [], _, rfl, ⟨_, rfl, rfl, rfl⟩, fun φ hφ => ?_, hw2.give⟩
    rw [List.mem_singleton] at hφ
    subst hφ
    refine Rp.mkSlice ⟨hle, fun _ => ⟨⟨b, 0, none⟩, cs.toArray, e, (0, 0), rfl, rfl, ?_, ?_⟩⟩ rfl
    · simp [Ob]
    · have hr : RowRep I' cs 0 xs := hr
      exact (by simpa using hr : RowRep I' cs.toArray.toList 0 xs).mono (Le.give hn)
end
end Go.Rail
set_option linter.unusedSimpArgs false
set_option linter.unusedVariables false
namespace Go.Rail
open Go
def cI (xs : List Int) : List Value := xs.map (.int .i64)
def cB (xs : List Bool) : List Value := xs.map .bool
theorem cI_length (xs : List Int) : (cI xs).length = xs.length := by simp [cI]
theorem cB_length (xs : List Bool) : (cB xs).length = xs.length := by simp [cB]
theorem zeros_one (z : Value) (n : Nat) : zerosL [z] n = List.replicate n z := by
  apply List.ext_getElem
  · simp [zerosL]
  · intro i h1 h2
    rw [List.getElem_replicate]
    simp [zerosL, Nat.mod_one]
theorem cI_zeros (n : Nat) : zerosL [.int .i64 0] n = cI (List.replicate n 0) := by rw [zeros_one, cI, List.map_replicate]
theorem cB_zeros (n : Nat) : zerosL [.bool false] n = cB (List.replicate n false) := by rw [zeros_one, cB, List.map_replicate]
theorem chunk_map {α : Type} (f : α → Value) (xs : List α) {k : Nat} (hk : k < xs.length) : chunk (xs.map f) 0 1 k = [f xs[k]] := by
  unfold chunk
  rw [Nat.zero_add, Nat.mul_one, ← List.map_drop, ← List.map_take, List.take_one, List.head?_drop, List.getElem?_eq_getElem hk]; rfl
theorem rowI (I : Imm) (xs : List Int) : RowRep I (cI xs) 0 xs := ⟨by rw [cI_length]; show 0 + xs.length * 1 ≤ _; omega, fun k hk => chunk_map _ xs hk⟩
theorem rowB (I : Imm) (xs : List Bool) : RowRep I (cB xs) 0 xs := ⟨by rw [cB_length]; show 0 + xs.length * 1 ≤ _; omega, fun k hk => chunk_map _ xs hk⟩
instance Ent'.cI {Φ : List Fa} {xs : List Int} : Ent' Φ (fRow (cI xs) xs) := ⟨fun I _ => rowI I xs⟩
instance Ent'.cB {Φ : List Fa} {xs : List Bool} : Ent' Φ (fRow (cB xs) xs) := ⟨fun I _ => rowB I xs⟩
theorem own_cI (b : Nat) (xs : List Int) {n : Nat} (h : n = xs.length) : IsOwn (GoTy.sz Int) (.slice (some ⟨b, 0, none⟩) n n) xs.length (some (b, cI xs)) := ⟨n, by rw [h], by rw [cI_length, h]; show _ = xs.length * 1; omega, by omega⟩
theorem own_cB (b : Nat) (xs : List Bool) {n : Nat} (h : n = xs.length) : IsOwn (GoTy.sz Bool) (.slice (some ⟨b, 0, none⟩) n n) xs.length (some (b, cB xs)) := ⟨n, by rw [h], by rw [cB_length, h]; show _ = xs.length * 1; omega, by omega⟩
theorem own_cell {sz n : Nat} {v : Value} {o : OR} (h : IsOwn sz v n o) : cellsL v = [v] ∧ ones [v] = true := by
  cases o with
  | none => obtain ⟨rfl, _⟩ := h; exact ⟨rfl, rfl⟩
  | some q => obtain ⟨b, cs⟩ := q; obtain ⟨cap, rfl, _⟩ := h; exact ⟨rfl, rfl⟩
theorem set_map {α : Type} (f : α → Value) (xs : List α) (k : Nat) (u : α) (hk : k < xs.length) : (xs.map f).take k ++ [f u] ++ (xs.map f).drop (k + 1) = (xs.set k u).map f := by
  rw [← List.map_take, ← List.map_drop, List.set_eq_take_append_cons_drop, if_pos hk]
  simp
section
variable {x : Cx} {Q : Exit → Act → World → Prop} {Φ : List Fa} {L : Env} {M : Own} {ops : Array Oper} {K : Act → World → Prop}
variable {d : Nat} {ty : TypeId} {pos : String} {af : Array Edge} {g : Option (Nat × Bool)}
theorem o_loadI {t : TypeId} {y : Operand} {b off e : Nat} {xs : List Int} (k : Nat) (hk' : k < xs.length) [ha : IsAg x.P t false] [hh : Holds Φ M b (cI xs) e] (hdN : Nat.blt d x.N = true) (hg : gd ops L g = some true) (hy : ev L y = some (.pointer (some ⟨b, off, none⟩))) (ho : off = k)
    (h : G x Φ ((d, .int .i64 xs[k]) :: L) M K) : OpK x ops Q ⟨some d, .load t y, ty, pos, af, g⟩ Φ L M K := by
  subst ho
  exact o_load1 (hh := hh) hdN hg hy (by simp [cI, hk']) h
theorem o_loadB {t : TypeId} {y : Operand} {b off e : Nat} {xs : List Bool} (k : Nat) (hk' : k < xs.length) [ha : IsAg x.P t false] [hh : Holds Φ M b (cB xs) e] (hdN : Nat.blt d x.N = true) (hg : gd ops L g = some true) (hy : ev L y = some (.pointer (some ⟨b, off, none⟩))) (ho : off = k)
    (h : G x Φ ((d, .bool xs[k]) :: L) M K) : OpK x ops Q ⟨some d, .load t y, ty, pos, af, g⟩ Φ L M K := by
  subst ho
  exact o_load1 (hh := hh) hdN hg hy (by simp [cB, hk']) h
theorem o_storeI {t : TypeId} {y z : Operand} {b off e : Nat} {xs : List Int} {M' : Own} (k : Nat) (u : Int) (hk' : k < xs.length) [hs : Siz x.P t 1] (hg : gd ops L g = some true) (hy : ev L y = some (.pointer (some ⟨b, off, none⟩))) (hz : ev L z = some (.int .i64 u)) (ho : off = k)
    [hm : MGet M b (Ob (cI xs) e)] [hm' : MSet M b (Ob (cI xs) e) (Ob (cI (xs.set k u)) e) M'] (h : G x Φ L M' K) : OpK x ops Q ⟨none, .store t y z, ty, pos, af, g⟩ Φ L M K := by
  subst ho
  exact o_store (hm := hm) (hm' := hm') (vs := [.int .i64 u]) hg hy hz rfl rfl (by rw [cI_length]; show off + 1 ≤ _; omega) rfl (set_map _ xs off u hk') h
theorem o_storeB {t : TypeId} {y z : Operand} {b off e : Nat} {xs : List Bool} {M' : Own} (k : Nat) (u : Bool) (hk' : k < xs.length) [hs : Siz x.P t 1] (hg : gd ops L g = some true) (hy : ev L y = some (.pointer (some ⟨b, off, none⟩))) (hz : ev L z = some (.bool u)) (ho : off = k)
    [hm : MGet M b (Ob (cB xs) e)] [hm' : MSet M b (Ob (cB xs) e) (Ob (cB (xs.set k u)) e) M'] (h : G x Φ L M' K) : OpK x ops Q ⟨none, .store t y z, ty, pos, af, g⟩ Φ L M K := by
  subst ho
  exact o_store (hm := hm) (hm' := hm') (vs := [.bool u]) hg hy hz rfl rfl (by rw [cB_length]; show off + 1 ≤ _; omega) rfl (set_map _ xs off u hk') h
/-- New slices of zeros. -/
theorem o_makeI {t e : Nat} {y z : Operand} (n : Nat) {p q : Int} [ht : SlTy x.P t e] [hb : Inf x.P e [.int .i64 0] 1 8] (hdN : Nat.blt d x.N = true) (hg : gd ops L g = some true) (hy : ev L y = some (.int .i64 p)) (hz : ev L z = some (.int .i64 q)) (hp' : p = (n : Int)) (hq' : q = (n : Int)) (hn : n ≤ 1000000)
    (h : ∀ b, G x Φ ((d, .slice (some ⟨b, 0, none⟩) n n) :: L) ((b, Ob (cI (List.replicate n 0)) e) :: M) K) : OpK x ops Q ⟨some d, .makeSlice t y z, ty, pos, af, g⟩ Φ L M K := by
  refine o_make (α := Int) (ht := ht) (hb := hb) n n 0 hdN hg hy hz hp' hq' (Nat.le_refl _) ⟨by omega, by omega, by show n * 8 ≤ 140737488355328; omega⟩ rfl (fun _ => rfl) ?_
  intro b
  rw [cI_zeros]
  exact fun I a w hp hk hw => h b I a w (fun φ hφ => hp φ (List.mem_cons_of_mem _ hφ)) hk hw
theorem o_makeB {t e : Nat} {y z : Operand} (n : Nat) {p q : Int} [ht : SlTy x.P t e] [hb : Inf x.P e [.bool false] 1 1] (hdN : Nat.blt d x.N = true) (hg : gd ops L g = some true) (hy : ev L y = some (.int .i64 p)) (hz : ev L z = some (.int .i64 q)) (hp' : p = (n : Int)) (hq' : q = (n : Int)) (hn : n ≤ 1000000)
    (h : ∀ b, G x Φ ((d, .slice (some ⟨b, 0, none⟩) n n) :: L) ((b, Ob (cB (List.replicate n false)) e) :: M) K) : OpK x ops Q ⟨some d, .makeSlice t y z, ty, pos, af, g⟩ Φ L M K := by
  refine o_make (α := Bool) (ht := ht) (hb := hb) n n false hdN hg hy hz hp' hq' (Nat.le_refl _) ⟨by omega, by omega, by show n * 1 ≤ 140737488355328; omega⟩ rfl (fun _ => rfl) ?_
  intro b
  rw [cB_zeros]
  exact fun I a w hp hk hw => h b I a w (fun φ hφ => hp φ (List.mem_cons_of_mem _ hφ)) hk hw
/-- A new slice of zero values that lies unchanging. -/
theorem o_makeG {α : Type} [GoTy α] {t e bytes : Nat} {y z : Operand} (n : Nat) {p q : Int} {zs : List Value} (zx : α) [ht : SlTy x.P t e] [hb : Inf x.P e zs (GoTy.sz α) bytes] (hdN : Nat.blt d x.N = true) (hg : gd ops L g = some true) (hy : ev L y = some (.int .i64 p)) (hz : ev L z = some (.int .i64 q)) (hp' : p = (n : Int)) (hq' : q = (n : Int)) (hc : n < 9223372036854775808 ∧ bytes * n ≤ 281474976710656 ∧ n * bytes ≤ 140737488355328) (hzl : zs.length = GoTy.sz α) (hrep : ∀ I, GoTy.rep I zs zx)
    (h : ∀ v, G x (fRp v (List.replicate n zx) :: Φ) ((d, v) :: L) M K) : OpK x ops Q ⟨some d, .makeSlice t y z, ty, pos, af, g⟩ Φ L M K := by
  refine o_make (ht := ht) (hb := hb) n n zx hdN hg hy hz hp' hq' (Nat.le_refl _) ⟨hc.1, hc.2.1, hc.2.2⟩ hzl hrep ?_
  intro b
  refine G.giveOwn (.slice (some ⟨b, 0, none⟩) n n) (List.replicate n zx) (some (b, zerosL zs n)) e (Mr := M) ⟨n, by rw [List.length_replicate], by rw [zerosL_length, hzl], by rw [List.length_replicate]; exact Nat.le_refl _⟩ ⟨fun I hp => hp _ (.head _)⟩ (List.Perm.refl _) ?_
  exact fun I a w hp hk hw => h _ I a w (fun φ hφ => by
    rcases List.mem_cons.1 hφ with rfl | hφ
    · exact hp _ (.head _)
    · exact hp φ (.tail _ (.tail _ hφ))) hk hw
end
end Go.Rail
set_option linter.unusedSimpArgs false
set_option linter.unusedVariables false
namespace Go.Rail
open Go
def YRr (nx Z : St → Prop) : Value → List Fa → Own → Prop := fun u Φ' M' => (u = .bool true ∧ nx (Φ', M')) ∨ (u = .bool false ∧ Z (Φ', M'))
def IRr (nx Z : St → Prop) : Value → List Fa → Own → Prop := fun _ Φ' M' => nx (Φ', M') ∨ Z (Φ', M')
def IterR (P : Program) (gf : FuncId) (lb : List Value) (enc : List (List Value)) (Φ : List Fa) : Prop :=
  ∀ (l : Nat) (T : Nat → St → Prop) (Z : St → Prop), (∀ k (h : k < enc.length) s, T k s → FnY P l enc[k] s.1 s.2 (YRr (T (k + 1)) Z)) →
    ∀ s, T 0 s → Fn P gf (.func (.yield l) #[] #[] :: lb) (Φ ++ s.1) s.2 (IRr (T enc.length) Z)
/-- ... told outright. -/
theorem IterR.plain {P : Program} {gf : FuncId} {lb : List Value} {enc : List (List Value)} {Φ : List Fa} (h : IterR P gf lb enc Φ) : IterS P gf lb enc Φ := by
  intro l T Z hy
  have := h l (fun k s => s = T k) Z (fun k hk s e => by
    subst e
    intro I w hp hw
    obtain ⟨f, tm, as, bo, h1, h2⟩ := hy k hk I w hp hw
    refine ⟨f, tm, as, bo, h1, h2.mono ?_⟩
    rintro e w' ⟨v, Φ', Mc', I', rfl, hR, hf, hwd⟩
    refine ⟨v, Φ', Mc', I', rfl, ?_, hf, hwd⟩
    rcases hR with ⟨rfl, rfl, rfl⟩ | ⟨rfl, hz⟩
    · exact .inl ⟨rfl, rfl⟩
    · exact .inr ⟨rfl, hz⟩) (T 0) rfl
  intro I w hp hw
  refine (this I w hp hw).mono ?_
  rintro e w' ⟨v, Φ', Mc', I', rfl, hR, hf, hwd⟩
  refine ⟨v, Φ', Mc', I', rfl, ?_, hf, hwd⟩
  rcases hR with hR | hz
  · exact .inl ⟨congrArg Prod.fst hR, congrArg Prod.snd hR⟩
  · exact .inr hz

section
variable {x : Cx} {Q : Exit → Act → World → Prop} {Φ : List Fa} {L : Env} {M : Own} {ops : Array Oper} {K : Act → World → Prop}
variable {d : Nat} {ty : TypeId} {pos : String} {af : Array Edge} {g : Option (Nat × Bool)}
/-- A yield. -/
theorem o_yieldR {y : Operand} {args : List Operand} {vs : List Value} {ts : Array TypeId} {l : Nat} {Φc : List Fa} {Mc Mr : Own} {nx Z : St → Prop}
    (hdN : Nat.blt d x.N = true) (hg : gd ops L g = some true) (hy : ev L y = some (.func (.yield l) #[] #[])) (hargs : args.mapM (ev L) = some vs) (c : FnY x.P l vs Φc Mc (YRr nx Z)) (hΦ : ∀ I, (∀ φ ∈ Φ, φ.p I) → ∀ φ ∈ Φc, φ.p I) (hM : M.Perm (Mc ++ Mr))
    (h : ∀ s, nx s → G x (s.1 ++ Φ) ((d, .bool true) :: L) (s.2 ++ Mr) K) (hz : ∀ s, Z s → G x (s.1 ++ Φ) ((d, .bool false) :: L) (s.2 ++ Mr) K) : OpK x ops Q ⟨some d, .call ⟨.value y, args.toArray, ts⟩, ty, pos, af, g⟩ Φ L M K := by
  intro I a w hp hk hw
  unfold opRun
  rw [if_pos (gd_wanted hk hg)]
  refine ⟨fun f _ => FR_fn _ f, ?_⟩
  rw [Oper.semAt_eq _ _ _ (by simp)]
  have hw' := hw.perm hM
  have hws : Wd ⟨I, doms Mc, w⟩ I Mc w := hw'.start (List.sublist_append_left _ _)
  obtain ⟨f, tm, as, bo, hyl, hc⟩ := c I w (hΦ I hp) hws
  have hrun : (execOp a.eval ⟨some d, .call ⟨.value y, args.toArray, ts⟩, ty, pos, af, g⟩).run x.P w = .ok (.round l f tm as bo) w := by
    simp [execOp, resolve, hk.eval hy, Deferred.ofValue, evs_map hk hargs, invoke, hyl, Sem.run_bind, Result.andThen, Sem.run_pure]
  rw [hrun]
  simp only [Oper.uponIn]
  refine ⟨fun hd => (by rw [FR_depth] at hd; cases hd), (roundIn_FR hc).mono ?_⟩
  rintro e w' ⟨v, Φ', Mc', I', rfl, hR, hf', hwd⟩
  have hall : ∀ φ ∈ Φ' ++ Φ, φ.p I' := by
    intro φ hφ
    rcases List.mem_append.1 hφ with hφ | hφ
    · exact hf' φ hφ
    · exact φ.mono _ _ hwd.up (hp φ hφ)
  rcases hR with ⟨rfl, hN⟩ | ⟨rfl, hZ⟩
  · exact h _ hN I' _ w' hall (hk.put _ hdN) (hw'.back hwd)
  · exact hz _ hZ I' _ w' hall (hk.put _ hdN) (hw'.back hwd)

/-- **The statement.** S k: what is known behind k rounds; X c: what is known where a round was left by the jump c. -/
theorem W.rangeFuncR {P : Program} {E : Ent} {N : Nat} {ds : List Deferred} {Q : Exit → Act → World → Prop} {gop : Operand} {ps : List Nat} {as bo : Code} {gf : FuncId} {lb : List Value} {enc : List (List Value)} {Φi : List Fa} {Mr : Own}
    (S : Nat → St → Prop) (X : Code → St → Prop)
    (hy : ev L gop = some (.func (.func gf) #[] lb.toArray)) [hf : HasFn P gf] (hit : IterR P gf lb enc Φi) (hps : ∀ p ∈ ps, Nat.blt p N = true) (hen : ∀ vs ∈ enc, vs.length = ps.length)
    (hΦi : Ents Φ Φi) (s0 : St) (hs0 : S 0 s0) (hΦ : Ents Φ s0.1) (hM : M.Perm (s0.2 ++ Mr))
    (hround : ∀ (l : Nat) (r : Loop) (I0 : Imm) (w0 : World) (k : Nat) (hk : k < enc.length) (s : St), S k s →
      W ⟨P, some l, ⟨I0, doms ((l, .loop { r with state := .ready, pending := none }) :: s.2), w0⟩, N, []⟩ as (AsP P l bo I0 ((l, .loop { r with state := .ready, pending := none }) :: s.2) w0 (YRr (fun t => ∃ s', S (k + 1) s' ∧ t = (s'.1, (l, .loop { r with state := .ready, pending := none }) :: s'.2)) (fun s => ∃ c s', X c s' ∧ s = (s'.1, (l, .loop { r with state := .done, pending := some c }) :: s'.2))))
        s.1 ((ps.zip enc[k]).reverse ++ L) ((l, .loop { r with state := .ready, pending := none }) :: s.2))
    (hdone : ∀ D s, S enc.length s → G ⟨P, none, E, N, ⟨.collected D, #[]⟩ :: ds⟩ (s.1 ++ Φ) L (s.2 ++ (D, .deferred (some [])) :: Mr) (Q .normal))
    (hexit : ∀ D c s, X c s → W ⟨P, none, E, N, ⟨.collected D, #[]⟩ :: ds⟩ c Q (s.1 ++ Φ) L (s.2 ++ (D, .deferred (some [])) :: Mr)) :
    W ⟨P, none, E, N, ds⟩ (.rangeFunc gop ps.toArray as bo) Q Φ L M := by
  intro I a w hp hk hw
  refine wpIn_rangeFunc ?_
  intro fn hfn
  obtain ⟨r, hr⟩ : ∃ r : Loop, r = { state := .ready, pending := none, fn := fn, tmps := a.tmps, params := ps.toArray, assign := as, body := bo, defers := w.heap.size } := ⟨_, rfl⟩
  have hw1 := ((hw.perm hM).alloc (.deferred (some []))).alloc (.loop r)
  rw [World.size_alloc] at hw1
  have hw2 := hw1.perm (M' := ((w.heap.size + 1, .loop r) :: s0.2) ++ (w.heap.size, .deferred (some [])) :: Mr) (by
    refine .cons _ ?_
    exact List.perm_middle.symm)
  refine ⟨w.heap.size + 1, [{ target := .collected w.heap.size, args := #[] }], (w.alloc (.deferred (some []))).alloc (.loop r), { target := .fn (.func gf) lb.toArray, args := #[.func (.yield (w.heap.size + 1)) #[] #[]] }, (w.alloc (.deferred (some []))).alloc (.loop r), gf,
    (.func (.yield (w.heap.size + 1)) #[] #[] :: lb).toArray, (w.alloc (.deferred (some []))).alloc (.loop r), ?_, ?_, ?_, ?_, fun hd => (by rw [FR_depth] at hd; cases hd), ?_⟩
  · rw [hr]; exact run_enterLoop_outer _ _ _ _ _
  · simp only [resolve, hk.eval hy]
    simp [Deferred.ofValue, Sem.run_bind, Result.andThen, Sem.run_pure, Act.eval]
  · intro f' _; exact FR_fn _ f'
  · simp [invoke, hf.h]
  have hc := hit (w.heap.size + 1) (fun k t => ∃ s', S k s' ∧ t = (s'.1, (w.heap.size + 1, .loop r) :: s'.2)) (fun s => ∃ c s', X c s' ∧ s = (s'.1, (w.heap.size + 1, .loop { r with state := .done, pending := some c }) :: s'.2)) ?_ (s0.1, (w.heap.size + 1, .loop r) :: s0.2) ⟨s0, hs0, rfl⟩ I _ ?_ (hw2.start (List.sublist_append_left _ _))
  · refine (callsIn_FR hc).mono ?_
    rintro e w' ⟨v, Φ', Mc', I', rfl, hR, hf', hwd⟩
    have hback := hw2.back hwd
    have hkn : Kn N L (⟨.collected w.heap.size, #[]⟩ :: ds) { a with defers := [{ target := .collected w.heap.size, args := #[] }] ++ a.defers } := ⟨hk.sz, hk.val, by rw [hk.df]; rfl⟩
    have hall : ∀ φ ∈ Φ' ++ Φ, φ.p I' := by
      intro φ hφ
      rcases List.mem_append.1 hφ with hφ | hφ
      · exact hf' φ hφ
      · exact φ.mono _ _ hwd.up (hp φ hφ)
    rcases hR with ⟨s', hS, hs⟩ | ⟨c, s', hX, hs⟩
    · cases hs
      have hl : w'.heap[w.heap.size + 1]? = some (.loop r) := hback.own _ (List.mem_append_left _ List.mem_cons_self)
      refine ⟨_, _, run_endLoop hl (by rw [hr]; simp), ?_⟩
      have hpn : r.pending = none := by rw [hr]
      rw [hpn]
      exact hdone _ s' hS I' _ _ hall hkn ((putObj_turn hback (MDel.head (M := s'.2 ++ (w.heap.size, .deferred (some [])) :: Mr))).sub (List.sublist_cons_self _ _))
    · cases hs
      have hl : w'.heap[w.heap.size + 1]? = some (.loop { r with state := .done, pending := some c }) := hback.own _ (List.mem_append_left _ List.mem_cons_self)
      refine ⟨_, _, run_endLoop hl (by simp), ?_⟩
      exact hexit _ c s' hX I' _ _ hall hkn ((putObj_turn hback (MDel.head (M := s'.2 ++ (w.heap.size, .deferred (some [])) :: Mr))).sub (List.sublist_cons_self _ _))
  · rintro k hkn _ ⟨s, hS, rfl⟩ I1 w1 hp1 hwd1
    have hl : w1.heap[w.heap.size + 1]? = some (.loop r) := hwd1.own _ List.mem_cons_self
    have hsz : enc[k].toArray.size = r.params.size := by rw [hr]; simp [hen _ (List.getElem_mem hkn)]
    refine ⟨_, _, _, _, run_yield hl hsz, ?_⟩
    refine roundIn_of_wpIn trivial ?_
    have hrr : { r with state := .ready, pending := none } = r := by rw [hr]
    have h3 := hround (w.heap.size + 1) r I1 w1 k hkn s hS I1 _ w1 hp1 (hk.params ps enc[k] hps) (by rw [hrr]; exact hwd1)
    rw [hrr] at h3
    rw [hr] at h3 ⊢
    delta AsP BeginK at h3
    simpa [FR] using h3
  · intro φ hφ
    rcases List.mem_append.1 hφ with hφ | hφ
    · exact hΦi.h I hp φ hφ
    · exact hΦ.h I hp φ hφ

end
end Go.Rail
set_option linter.unusedSimpArgs false
set_option linter.unusedVariables false
namespace Go.Rail
open Go
structure Lot where
  sets : List Sets
  left : List Int
  at_ : List Int
  begun : List Bool
  done : List Int
instance : GoTy Lot where
  sz := 5
  agg := true
  rep := fun I cs s => ∃ a b c d e, cs = [a, b, c, d, e] ∧ Rp I a s.sets ∧ Rp I b s.left ∧ Rp I c s.at_ ∧ Rp I d s.begun ∧ Rp I e s.done
  mono := fun hl h => by
    obtain ⟨a, b, c, d, e, h0, h1, h2, h3, h4, h5⟩ := h
    exact ⟨a, b, c, d, e, h0, h1.mono hl, h2.mono hl, h3.mono hl, h4.mono hl, h5.mono hl⟩
  len := fun h => by obtain ⟨a, b, c, d, e, h0, _⟩ := h; rw [h0]; rfl
  one := fun h => by
    obtain ⟨a, b, c, d, e, h0, h1, h2, h3, h4, h5⟩ := h
    obtain ⟨_, _, rfl, _⟩ := h1.slice
    obtain ⟨_, _, rfl, _⟩ := h2.slice
    obtain ⟨_, _, rfl, _⟩ := h3.slice
    obtain ⟨_, _, rfl, _⟩ := h4.slice
    obtain ⟨_, _, rfl, _⟩ := h5.slice
    rw [h0]; rfl
  agg1 := fun h => by cases h
theorem Rp.lot {I : Imm} {v : Value} {s : Lot} (h : Rp I v s) : ∃ a b c d e, v = .agg #[a, b, c, d, e] ∧ Rp I a s.sets ∧ Rp I b s.left ∧ Rp I c s.at_ ∧ Rp I d s.begun ∧ Rp I e s.done := by
  obtain ⟨cs, rfl, a, b, c, d, e, rfl, h⟩ := h
  exact ⟨a, b, c, d, e, rfl, h⟩
theorem Rp.mkLot {I : Imm} {a b c d e : Value} {s : Lot} (h1 : Rp I a s.sets) (h2 : Rp I b s.left) (h3 : Rp I c s.at_) (h4 : Rp I d s.begun) (h5 : Rp I e s.done) : Rp I (.agg #[a, b, c, d, e]) s :=
  ⟨[a, b, c, d, e], rfl, a, b, c, d, e, rfl, h1, h2, h3, h4, h5⟩
instance Ent'.lot {Φ : List Fa} {v1 v2 v3 v4 v5 : Value} {s : Lot} [a : Ent' Φ (fRp v1 s.sets)] [b : Ent' Φ (fRp v2 s.left)] [c : Ent' Φ (fRp v3 s.at_)] [d : Ent' Φ (fRp v4 s.begun)] [e : Ent' Φ (fRp v5 s.done)] : Ent' Φ (fRp (.agg #[v1, v2, v3, v4, v5]) s) :=
  ⟨fun I hp => Rp.mkLot (a.h I hp) (b.h I hp) (c.h I hp) (d.h I hp) (e.h I hp)⟩
section
variable {x : Cx} {Φ : List Fa} {L : Env} {M : Own}
/-- A lot, laid open, down to its slices. -/
theorem G.lot {F : Act → World → Prop} (v : Value) (s : Lot) [k : Ent' Φ (fRp v s)] (h : ∀ a1 c1 a2 c2 a3 c3 a4 c4 a5 c5, v = .agg #[.slice a1 s.sets.length c1, .slice a2 s.left.length c2, .slice a3 s.at_.length c3, .slice a4 s.begun.length c4, .slice a5 s.done.length c5] →
    G x (fRp (.slice a1 s.sets.length c1) s.sets :: fRp (.slice a2 s.left.length c2) s.left :: fRp (.slice a3 s.at_.length c3) s.at_ :: fRp (.slice a4 s.begun.length c4) s.begun :: fRp (.slice a5 s.done.length c5) s.done :: Φ) L M F) : G x Φ L M F := by
  intro I a w hp hk hw
  obtain ⟨v1, v2, v3, v4, v5, e, h1, h2, h3, h4, h5⟩ := Rp.lot (k.h I hp)
  obtain ⟨a1, c1, rfl, g1⟩ := h1.slice
  obtain ⟨a2, c2, rfl, g2⟩ := h2.slice
  obtain ⟨a3, c3, rfl, g3⟩ := h3.slice
  obtain ⟨a4, c4, rfl, g4⟩ := h4.slice
  obtain ⟨a5, c5, rfl, g5⟩ := h5.slice
  refine h a1 c1 a2 c2 a3 c3 a4 c4 a5 c5 e I a w (fun φ hφ => ?_) hk hw
  rcases List.mem_cons.1 hφ with rfl | hφ
  · exact h1
  · rcases List.mem_cons.1 hφ with rfl | hφ
    · exact h2
    · rcases List.mem_cons.1 hφ with rfl | hφ
      · exact h3
      · rcases List.mem_cons.1 hφ with rfl | hφ
        · exact h4
        · rcases List.mem_cons.1 hφ with rfl | hφ
          · exact h5
          · exact hp φ hφ
end
end Go.Rail
set_option linter.unusedSimpArgs false
set_option linter.unusedVariables false
namespace Go.Rail
open Go
def badM (out : List Bool) (k : Int) : Bool := decide (k < 0) || decide ((out.length : Int) ≤ k) || out.getD k.toNat false
/-- Marks, one by one; none: a place is none, or marked already. -/
def markP : List Bool → List Int → Option (List Bool)
  | out, [] => some out
  | out, k :: r => if badM out k then none else markP (out.set k.toNat true) r
/-- ... of what lanes have: -1 is nothing. -/
def markA : List Bool → List Int → Option (List Bool)
  | out, [] => some out
  | out, k :: r => if k = -1 then markA out r else if badM out k then none else markA (out.set k.toNat true) r
theorem markP_len : ∀ (ks : List Int) (out res : List Bool), markP out ks = some res → res.length = out.length
  | [], out, res, h => by cases h; rfl
  | k :: r, out, res, h => by
    rw [markP] at h
    split at h
    · cases h
    · rw [markP_len r _ _ h, List.length_set]
theorem markA_len : ∀ (ks : List Int) (out res : List Bool), markA out ks = some res → res.length = out.length
  | [], out, res, h => by cases h; rfl
  | k :: r, out, res, h => by
    rw [markA] at h
    split at h
    · exact markA_len r _ _ h
    · split at h
      · cases h
      · rw [markA_len r _ _ h, List.length_set]
def donesL (l : Lot) : Option (List Bool) := markP (List.replicate l.sets.length false) l.done
def heldL (l : Lot) : Option (List Bool) := markA (List.replicate l.sets.length false) l.at_
def oddLeft (k : Int) : Bool := decide (k < 0) || decide (1099511627776 < k)
def oddCost (k : Int) : Bool := decide (k < 1) || decide (1099511627776 < k)
def shapeL (l : Lot) : Bool := decide (l.left.length = l.sets.length) && decide (l.begun.length = l.sets.length) && decide (1 ≤ l.at_.length) && decide (l.at_.length ≤ 64) && !(l.left.any oddLeft)
def okI (l : Lot) (D H : List Bool) (i : Nat) : Bool := (D.getD i false == decide (l.left.getD i 0 = 0)) && !(D.getD i false && H.getD i false) && (l.begun.getD i false == (D.getD i false || H.getD i false))
def idxD (l : Lot) (k : Nat) : Int := idxG (fun a => decide ((k : Int) = a)) l.done
def okP (l : Lot) (D : List Bool) (e : Nat × Nat) : Bool := !(l.begun.getD e.2 false && !(D.getD e.1 false)) && !(D.getD e.2 false && decide (idxD l e.2 < idxD l e.1))
def rightL (l : Lot) : Bool := mayG l.sets && shapeL l && (match donesL l, heldL l with
  | some D, some H => (List.range l.sets.length).all (okI l D H) && (edgesG l.sets).all (okP l D)
  | _, _ => false)
theorem rightL_may {l : Lot} (h : mayG l.sets = false) : rightL l = false := by rw [rightL, h]; rfl
theorem rightL_shape {l : Lot} (h : shapeL l = false) : rightL l = false := by rw [rightL, h]; simp
theorem rightL_done {l : Lot} (h : donesL l = none) : rightL l = false := by rw [rightL, h]; simp
theorem rightL_held {l : Lot} (h : heldL l = none) : rightL l = false := by
  rw [rightL, h]
  cases donesL l <;> simp
theorem rightL_i {l : Lot} {D H : List Bool} {i : Nat} (h1 : donesL l = some D) (h2 : heldL l = some H) (hi : i < l.sets.length) (hb : okI l D H i = false) : rightL l = false := by
  have : (List.range l.sets.length).all (okI l D H) = false := List.all_eq_false.2 ⟨i, List.mem_range.2 hi, by rw [hb]; simp⟩
  rw [rightL, h1, h2]
  dsimp only
  rw [this]; simp
theorem rightL_p {l : Lot} {D H : List Bool} {q : Nat} (h1 : donesL l = some D) (h2 : heldL l = some H) (hq : q < (edgesG l.sets).length) (hb : okP l D (edgesG l.sets)[q] = false) : rightL l = false := by
  have : (edgesG l.sets).all (okP l D) = false := List.all_eq_false.2 ⟨_, List.getElem_mem hq, by rw [hb]; simp⟩
  rw [rightL, h1, h2]
  dsimp only
  rw [this]; simp
theorem rightL_all {l : Lot} {D H : List Bool} (hm : mayG l.sets = true) (hs : shapeL l = true) (h1 : donesL l = some D) (h2 : heldL l = some H) (hi : ∀ i, i < l.sets.length → okI l D H i = true) (hp : ∀ q (h : q < (edgesG l.sets).length), okP l D (edgesG l.sets)[q] = true) : rightL l = true := by
  have a : (List.range l.sets.length).all (okI l D H) = true := List.all_eq_true.2 fun i h => hi i (List.mem_range.1 h)
  have b : (edgesG l.sets).all (okP l D) = true := List.all_eq_true.2 fun e h => by
    obtain ⟨q, hq, rfl⟩ := List.mem_iff_getElem.1 h
    exact hp q hq
  rw [rightL, hm, hs, h1, h2]
  dsimp only
  rw [a, b]; rfl
theorem shape_parts {l : Lot} (h : shapeL l = true) : l.left.length = l.sets.length ∧ l.begun.length = l.sets.length ∧ 1 ≤ l.at_.length ∧ l.at_.length ≤ 64 ∧ ∀ k ∈ l.left, 0 ≤ k ∧ k ≤ 1099511627776 := by
  simp only [shapeL, Bool.and_eq_true, decide_eq_true_eq, Bool.not_eq_true'] at h
  obtain ⟨⟨⟨⟨h1, h2⟩, h3⟩, h4⟩, h5⟩ := h
  refine ⟨h1, h2, h3, h4, fun k hk => ?_⟩
  have := List.any_eq_false.1 h5 k hk
  simp [oddLeft] at this
  omega
def idleR (A : List Int) (i : Nat) : List Nat := (List.range' i (A.length - i)).filter fun k => decide (A.getD k 0 = -1)
def idleL (A : List Int) : List Nat := idleR A 0
theorem idleR_end {A : List Int} {i : Nat} (h : A.length ≤ i) : idleR A i = [] := by unfold idleR; rw [Nat.sub_eq_zero_of_le h]; rfl
theorem idleR_step {A : List Int} {i : Nat} (h : i < A.length) : idleR A i = if A[i] = -1 then i :: idleR A (i + 1) else idleR A (i + 1) := by
  unfold idleR
  have e : A.length - i = (A.length - (i + 1)) + 1 := by omega
  rw [e, List.range'_succ, List.filter_cons]
  have hg : A.getD i 0 = A[i] := by rw [List.getD_eq_getElem?_getD, List.getElem?_eq_getElem h]; rfl
  rw [hg]
  by_cases h2 : A[i] = -1
  · rw [if_pos h2, if_pos (decide_eq_true h2)]
  · rw [if_neg h2, if_neg (by simpa using h2)]
theorem sum_take {xs : List Int} {k : Nat} (h : k < xs.length) : (xs.take (k + 1)).sum = (xs.take k).sum + xs[k] := by
  rw [List.take_succ_eq_append_getElem h, List.sum_append]; simp
theorem sum_bound {xs : List Int} (h : ∀ x ∈ xs, 0 ≤ x ∧ x ≤ 1099511627776) (k : Nat) : 0 ≤ (xs.take k).sum ∧ (xs.take k).sum ≤ k * 1099511627776 := by
  induction k with
  | zero => simp
  | succ k ih =>
    by_cases hk : k < xs.length
    · rw [sum_take hk]
      have := h xs[k] (List.getElem_mem hk)
      omega
    · rw [List.take_of_length_le (by omega)]
      rw [List.take_of_length_le (by omega)] at ih
      omega
def measureL (l : Lot) : Int := if rightL l then l.left.sum else 0
def errL (l : Lot) : Int := if rightL l then 0 else 1
def idlesL (l : Lot) : List Int := if rightL l then (idleL l.at_).map fun (k : Nat) => (k : Int) else []
theorem right_parts2 {l : Lot} (h : rightL l = true) : mayG l.sets = true ∧ shapeL l = true := by
  simp only [rightL, Bool.and_eq_true] at h
  exact ⟨h.1.1, h.1.2⟩
end Go.Rail
