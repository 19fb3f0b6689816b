/- A region whose order Go leaves open, in which memory is turned: by operations that come in a fixed order among themselves. -/
import Derived.Test.YtoiepfapghnccaaRailSlice
set_option linter.unusedSimpArgs false
set_option linter.unusedVariables false
namespace Go.Rail
open Go

def dstX (l : List Oper) (j : Nat) : Option Nat := match l[j]? with
  | some o => o.dst
  | none => none
def putX (d : Option Nat) (v : Value) (L : Env) : Env := match d with
  | some d => (d, v) :: L
  | none => L
def ancX (l : List Oper) (ks : List DOp) (c : Nat → Value) : List Nat → Env → Env
  | [], L => L
  | j :: js, L => putX (dstX l j) (kval ks c j) (ancX l ks c js L)
def chkDrawX (l : List Oper) (s : Nat) (as : List (List Nat)) (keys : List Nat) : Bool :=
  let b := Region.before l.toArray
  (List.range l.length).all (fun i => (l.getD i default).after.toList.all fun e => !Region.binds .any e || Nat.blt e.on i) &&
  (List.range l.length).all (fun i => Nat.blt i s || (List.range i).all fun j => (b.getD i 0).testBit j) &&
  (List.range s).all (fun i => (match (l.getD i default).dst with
    | some d => !keys.contains d && (List.range i).all (fun j => (l.getD j default).dst != some d)
    | none => true) && (as.getD i []).all fun j => (b.getD i 0).testBit j) &&
  Nat.ble s l.length
theorem look_ancX {l : List Oper} {ks : List DOp} {c : Nat → Value} : ∀ {js : List Nat} {L : Env} {t : Nat} {v : Value}, look (ancX l ks c js L) t = some v → (∃ j ∈ js, dstX l j = some t ∧ v = kval ks c j) ∨ look L t = some v
  | [], L, t, v, h => .inr h
  | j :: js, L, t, v, h => by
    have rest : look (ancX l ks c js L) t = some v → (∃ k ∈ j :: js, dstX l k = some t ∧ v = kval ks c k) ∨ look L t = some v := fun h => by
      rcases look_ancX h with ⟨k, hk, h1, h2⟩ | h
      · exact .inl ⟨k, by simp [hk], h1, h2⟩
      · exact .inr h
    simp only [ancX] at h
    cases hd : dstX l j with
    | none => rw [hd] at h; exact rest h
    | some d =>
      rw [hd] at h
      simp only [putX] at h
      by_cases e : d = t
      · subst e
        rw [look_cons_eq] at h
        exact .inl ⟨j, by simp, hd, (Option.some.inj h).symm⟩
      · rw [look_cons_ne e] at h; exact rest h
theorem look_ancX_not {l : List Oper} {ks : List DOp} {c : Nat → Value} {t : Nat} {L : Env} : ∀ {js : List Nat}, (∀ j ∈ js, dstX l j ≠ some t) → look (ancX l ks c js L) t = look L t
  | [], _ => rfl
  | j :: js, h => by
    simp only [ancX]
    cases hd : dstX l j with
    | none => simp only [putX]; exact look_ancX_not fun k hk => h k (by simp [hk])
    | some d =>
      have hne : d ≠ t := fun e => h j (by simp) (by rw [hd, e])
      simp only [putX]
      rw [look_cons_ne hne]
      exact look_ancX_not fun k hk => h k (by simp [hk])
theorem look_ancX_is {l : List Oper} {ks : List DOp} {c : Nat → Value} {j t : Nat} {L : Env} (ht : dstX l j = some t) : ∀ {js : List Nat}, (∀ k ∈ js, dstX l k = some t → k = j) → (j ∈ js ∨ look L t = some (kval ks c j)) → look (ancX l ks c js L) t = some (kval ks c j)
  | [], _, h => h.resolve_left (by simp)
  | k :: js, hu, h => by
    simp only [ancX]
    have rest : (j ∈ js ∨ look L t = some (kval ks c j)) → look (ancX l ks c js L) t = some (kval ks c j) := look_ancX_is ht (fun k hk => hu k (by simp [hk]))
    cases hd : dstX l k with
    | none =>
      simp only [putX]
      refine rest (h.imp (fun h => ?_) id)
      rcases List.mem_cons.1 h with rfl | h
      · rw [ht] at hd; cases hd
      · exact h
    | some d =>
      simp only [putX]
      by_cases e : d = t
      · subst e
        have := hu k (by simp) hd
        subst this
        exact look_cons_eq
      · rw [look_cons_ne e]
        refine rest (h.imp (fun h => ?_) id)
        rcases List.mem_cons.1 h with rfl | h
        · rw [ht] at hd; exact absurd (Option.some.inj hd).symm e
        · exact h
theorem look_putX_ne {d : Option Nat} {v : Value} {L : Env} {t : Nat} (h : d ≠ some t) : look (putX d v L) t = look L t := by
  cases d with
  | none => rfl
  | some d => exact look_cons_ne fun e => h (by rw [e])
theorem look_putX_eq {d : Option Nat} {v : Value} {L : Env} {t : Nat} (h : d = some t) : look (putX d v L) t = some v := by
  subst h; exact look_cons_eq
def updD (D : Nat → Bool) (i : Nat) : Nat → Bool := fun j => if j = i then true else D j
def updC (c : Nat → Value) (i : Nat) (z : Value) : Nat → Value := fun j => if j = i then z else c j
/-- What an operation does, with what is owned told by the operations that are done (D), and by what they chose (c). -/
def Turns (x : Cx) (Q : Exit → Act → World → Prop) (l : List Oper) (ks : List DOp) (as : List (List Nat)) (Φ : List Fa) (L : Env) (MX : (Nat → Bool) → (Nat → Value) → Own) (i : Nat) : Prop :=
  ∀ (D : Nat → Bool) (c : Nat → Value) (z0 : Value) (Φr : List Fa) (Lr : Env) (K : Act → World → Prop), D i = false → (∀ j, ((Region.before l.toArray).getD i 0).testBit j = true → D j = true) → (∀ j k, D j = true → ((Region.before l.toArray).getD j 0).testBit k = true → D k = true) →
    (∀ z, G x ((ks.getD i default).facts c z ++ ancF ks c (as.getD i []) (Φ ++ Φr)) (putX (dstX l i) ((ks.getD i default).val c z) (ancX l ks c (as.getD i []) (L ++ Lr))) (MX (updD D i) (updC c i z)) K) →
    OpK x l.toArray Q (l.getD i default) (ancF ks c (as.getD i []) (Φ ++ Φr)) (ancX l ks c (as.getD i []) (L ++ Lr)) (MX D c) K
def AllX (x : Cx) (Q : Exit → Act → World → Prop) (l : List Oper) (ks : List DOp) (as : List (List Nat)) (Φ : List Fa) (L : Env) (MX : (Nat → Bool) → (Nat → Value) → Own) : Nat → Nat → Prop
  | _, 0 => True
  | i, n + 1 => Turns x Q l ks as Φ L MX i ∧ AllX x Q l ks as Φ L MX (i + 1) n
theorem AllX.at {x : Cx} {Q : Exit → Act → World → Prop} {l : List Oper} {ks : List DOp} {as : List (List Nat)} {Φ : List Fa} {L : Env} {MX : (Nat → Bool) → (Nat → Value) → Own} : ∀ {n i j : Nat}, AllX x Q l ks as Φ L MX i n → i ≤ j → j < i + n → Turns x Q l ks as Φ L MX j
  | 0, i, j, _, h1, h2 => by omega
  | n + 1, i, j, h, h1, h2 => by
    by_cases e : i = j
    · subst e; exact h.1
    · exact AllX.at h.2 (by omega) (by omega)

section
variable {x : Cx} {Q : Exit → Act → World → Prop} {Φ : List Fa} {L : Env} {M : Own}

theorem W.drawX {id : Nat} {l : List Oper} (s : Nat) (MX : (Nat → Bool) → (Nat → Value) → Own) (ks : List DOp) (as : List (List Nat)) (live : List Nat) (hm : x.P.follows .mixedOrders = true)
    (hchk : chkDrawX l s as (L.map Prod.fst) = true) (hdN : (List.range s).all (fun i => (dstX l i).all fun d => Nat.blt d x.N) = true) (hlive : live.all (fun j => Nat.blt j s) = true)
    (hloc : AllL l ks 0 s) (h0 : ∀ c, M = MX (fun _ => false) c) (hops : AllX x Q l ks as Φ L MX 0 s)
    (hrest : ∀ c, LW x l.toArray Q (l.drop s) (ancF ks c live Φ) (ancX l ks c live L) (MX (fun j => Nat.blt j s) c)) : W x (.region id l.toArray true) Q Φ L M := by
  -- the look, in words
  unfold chkDrawX at hchk
  simp only [Bool.and_eq_true, List.all_eq_true, List.mem_range, Bool.or_eq_true, Bool.not_eq_true'] at hchk
  obtain ⟨⟨⟨h1, h2⟩, h3⟩, h4⟩ := hchk
  have hs : s ≤ l.length := Nat.le_of_ble_eq_true h4
  have hbk : ∀ k p, l[k]? = some p → ∀ e ∈ p.after.toList, Region.binds .any e = true → e.on < k := by
    intro k p hp e he hb
    have hk := (List.getElem?_eq_some_iff.1 hp).1
    have := h1 k hk e (by rw [List.getD_eq_getElem?_getD, hp]; exact he)
    rcases this with h | h
    · rw [hb] at h; cases h
    · simpa using h
  have htail : ∀ i, i < l.length → s ≤ i → ∀ j, j < i → ((Region.before l.toArray).getD i 0).testBit j = true := by
    intro i hi hsi j hj
    rcases h2 i hi with h | h
    · have : i < s := by simpa using h
      omega
    · exact h j hj
  have hdst : ∀ i, i < s → ∀ d, dstX l i = some d → d ∉ L.map Prod.fst ∧ ∀ j, j < i → dstX l j ≠ some d := by
    intro i hi d hd
    have hil : i < l.length := by omega
    have hd' : l[i].dst = some d := by simpa [dstX, List.getElem?_eq_getElem hil] using hd
    have := (h3 i hi).1
    rw [List.getD_eq_getElem?_getD, List.getElem?_eq_getElem hil, Option.getD_some, hd'] at this
    simp only [Bool.and_eq_true, Bool.not_eq_true', List.all_eq_true, List.mem_range] at this
    refine ⟨by simpa using this.1, fun j hj e => ?_⟩
    have h5 := this.2 j hj
    have hjl : j < l.length := by omega
    rw [List.getD_eq_getElem?_getD, List.getElem?_eq_getElem hjl, Option.getD_some] at h5
    have e' : l[j].dst = some d := by simpa [dstX, List.getElem?_eq_getElem hjl] using e
    simp [e'] at h5
  have hdne : ∀ i j d, i < s → j < s → dstX l i = some d → dstX l j = some d → i = j := by
    intro i j d hi hj h1 h2
    rcases Nat.lt_trichotomy i j with h | h | h
    · exact absurd h1 ((hdst j hj d h2).2 i h)
    · exact h
    · exact absurd h2 ((hdst i hi d h1).2 j h)
  have has : ∀ i, i < s → ∀ j ∈ as.getD i [], ((Region.before l.toArray).getD i 0).testBit j = true := fun i hi j hj => (h3 i hi).2 j hj
  have hanc_lt : ∀ i j, i < l.length → ((Region.before l.toArray).getD i 0).testBit j = true → j < i := by
    intro i
    induction i using Nat.strongRecOn with
    | _ i ih =>
      intro j hi hj
      obtain ⟨e, he, hb, h⟩ := (before_at l i l[i] (List.getElem?_eq_getElem hi) hbk j).1 hj
      have hlt := hbk i l[i] (List.getElem?_eq_getElem hi) e he hb
      rcases h with h | h
      · omega
      · have := ih e.on hlt j (by omega) h; omega
  have hanc_trans : ∀ i j k, i < l.length → ((Region.before l.toArray).getD i 0).testBit j = true → ((Region.before l.toArray).getD j 0).testBit k = true → ((Region.before l.toArray).getD i 0).testBit k = true := by
    intro i
    induction i using Nat.strongRecOn with
    | _ i ih =>
      intro j k hi hj hk
      obtain ⟨e, he, hb, h⟩ := (before_at l i l[i] (List.getElem?_eq_getElem hi) hbk j).1 hj
      have hlt := hbk i l[i] (List.getElem?_eq_getElem hi) e he hb
      refine (before_at l i l[i] (List.getElem?_eq_getElem hi) hbk k).2 ⟨e, he, hb, .inr ?_⟩
      rcases h with h | h
      · rw [h]; exact hk
      · exact ih e.on hlt j k (by omega) h hk
  -- the tail, in its order
  have tail : ∀ fuel k (listed : Array Bool) a w, listed.size = l.length → s ≤ k → k + fuel = l.length → (∀ j, j < l.length → listed.getD j true = decide (j < k)) →
      wpListIn (FR x.r) 0 x.P l.toArray Q (l.drop k) a w → wpAnyIn (FR x.r) 0 x.P .any l.toArray Q fuel listed a w := by
    intro fuel
    induction fuel with
    | zero =>
      intro k listed a w hsz hk hkf hl hw
      have hk' : k = l.length := by omega
      subst hk'
      refine ⟨?_, by rw [List.drop_length] at hw; exact hw⟩
      unfold Region.ready
      rw [List.filter_eq_nil_iff]
      intro i hi
      simp only [List.size_toArray, List.mem_range] at hi
      simp [hl i hi, hi]
    | succ fuel ih =>
      intro k listed a w hsz hk hkf hl hw
      have hkl : k < l.length := by omega
      have hready : ∀ i ∈ Region.ready .any l.toArray listed, i = k := by
        intro i hi
        unfold Region.ready at hi
        simp only [List.mem_filter, List.size_toArray, List.mem_range, Bool.and_eq_true, Bool.not_eq_true'] at hi
        obtain ⟨hil, hnl, hed⟩ := hi
        rw [hl i hil] at hnl
        have hik : k ≤ i := by simpa using hnl
        rcases Nat.lt_or_ge k i with hlt | hge
        · exfalso
          have hb := htail i hil (by omega) k hlt
          obtain ⟨e, he, hbd, h⟩ := (before_at l i l[i] (List.getElem?_eq_getElem hil) hbk k).1 hb
          have hel := hbk i l[i] (List.getElem?_eq_getElem hil) e he hbd
          rw [List.getElem?_toArray, List.getElem?_eq_getElem hil] at hed
          simp only [Option.map_some, Option.getD_some] at hed
          rw [← Array.all_toList, List.all_eq_true] at hed
          have h7 := hed e he
          rw [hbd] at h7
          have h8 : e.on < k := by
            have : listed.getD e.on false = true := by simpa using h7
            have h9 : listed.getD e.on true = true := by
              rw [Array.getD_eq_getD_getElem?] at this ⊢
              cases hx : listed[e.on]? with
              | none => rw [hx] at this; cases this
              | some b => rw [hx] at this; simpa using this
            rw [hl e.on (by omega)] at h9
            simpa using h9
          rcases h with h | h
          · omega
          · have := hanc_lt e.on k (by omega) h; omega
        · omega
      refine ⟨fun hnil => ?_, fun i hi => ?_⟩
      · exfalso
        have : k ∈ Region.ready .any l.toArray listed := by
          unfold Region.ready
          simp only [List.mem_filter, List.size_toArray, List.mem_range, Bool.and_eq_true, Bool.not_eq_true']
          refine ⟨hkl, by rw [hl k hkl]; simp, ?_⟩
          rw [List.getElem?_toArray, List.getElem?_eq_getElem hkl]
          simp only [Option.map_some, Option.getD_some]
          rw [← Array.all_toList, List.all_eq_true]
          intro e he
          by_cases hbd : Region.binds .any e = true
          · have := hbk k l[k] (List.getElem?_eq_getElem hkl) e he hbd
            have h9 := hl e.on (by omega)
            rw [hbd]
            simp only [Bool.not_true, Bool.false_or]
            rw [Array.getD_eq_getD_getElem?] at h9 ⊢
            have : e.on < listed.size := by omega
            rw [Array.getElem?_eq_getElem this] at h9 ⊢
            simp only [Option.getD_some] at h9 ⊢
            rw [h9]; simp; omega
          · simp [hbd]
        rw [hnil] at this; cases this
      · obtain rfl := hready i hi
        unfold wpOpIn
        rw [List.getElem?_toArray, List.getElem?_eq_getElem hkl]
        simp only
        have hdrop : l.drop i = l[i] :: l.drop (i + 1) := by rw [List.drop_eq_getElem_cons hkl]
        rw [hdrop] at hw
        simp only [wpListIn] at hw
        have step : ∀ a w, wpListIn (FR x.r) 0 x.P l.toArray Q (l.drop (i + 1)) a w → wpAnyIn (FR x.r) 0 x.P .any l.toArray Q fuel (listed.setIfInBounds i true) a w := by
          intro a w h
          refine ih (i + 1) _ a w (by simpa using hsz) (by omega) (by omega) ?_ h
          intro j hj
          rw [Array.getD_eq_getD_getElem?, Array.getElem?_setIfInBounds]
          by_cases e : i = j
          · subst e; simp [hsz, hj]
          · simp only [e, if_false]
            rw [← Array.getD_eq_getD_getElem?, hl j hj]
            simp; omega
        split
        · rename_i hwt; rw [if_pos hwt] at hw; exact Oper.wpIn_mono step hw
        · rename_i hwt; rw [if_neg hwt] at hw; exact ⟨hw.1, step _ _ hw.2⟩
  -- the quiet ones, in whatever order
  have main : ∀ fuel (listed : Array Bool) (c : Nat → Value) I a w, listed.size = l.length → (fuel = (l.length - s) + ((List.range s).filter fun j => !listed.getD j true).length) →
      (∀ j, s ≤ j → j < l.length → listed.getD j true = false) → (∀ j, j < s → listed.getD j true = true → ∀ k, ((Region.before l.toArray).getD j 0).testBit k = true → listed.getD k true = true) →
      (∀ φ ∈ Φ, φ.p I) → (∀ j, j < s → listed.getD j true = true → ∀ φ ∈ kfac ks c j, φ.p I) → a.tmps.size = x.N → a.defers = x.ds → (∀ t v, look L t = some v → a.tmps[t]? = some v) →
      (∀ j, j < s → listed.getD j true = true → ∀ d, dstX l j = some d → a.tmps[d]? = some (kval ks c j)) → Wd x.E I (MX (fun j => Nat.blt j s && listed.getD j true) c) w → wpAnyIn (FR x.r) 0 x.P .any l.toArray Q fuel listed a w := by
    intro fuel
    induction fuel with
    | zero =>
      intro listed c I a w hsz hf hnt hcl hpΦ hpf hN hds hL hv hw
      have hsl : l.length = s := by omega
      have hlist : ∀ j, j < s → listed.getD j true = true := by
        intro j hj
        cases hx : listed.getD j true with
        | true => rfl
        | false =>
          have hm : j ∈ (List.range s).filter fun j => !listed.getD j true := List.mem_filter.2 ⟨List.mem_range.2 hj, by rw [hx]; rfl⟩
          have := List.length_pos_of_mem hm
          omega
      refine tail 0 s listed a w hsz (Nat.le_refl _) (by omega) (fun j hj => ?_) ?_
      · rw [hlist j (by omega)]; simp; omega
      · have hD : (fun j => Nat.blt j s && listed.getD j true) = fun j => Nat.blt j s := by
          funext j
          cases hb : Nat.blt j s with
          | false => rfl
          | true => rw [hlist j (by simpa using hb)]; rfl
        rw [hD] at hw
        refine hrest c I a w ?_ ⟨hN, ?_, hds⟩ hw
        · intro φ hφ
          rcases mem_ancF.1 hφ with ⟨j, hj, hφ⟩ | hφ
          · have hjs : j < s := by simpa using List.all_eq_true.1 hlive j hj
            exact hpf j hjs (hlist j hjs) φ hφ
          · exact hpΦ φ hφ
        · intro t v hlk
          rcases look_ancX hlk with ⟨j, hj, hjd, rfl⟩ | hlk
          · have hjs : j < s := by simpa using List.all_eq_true.1 hlive j hj
            exact hv j hjs (hlist j hjs) _ hjd
          · exact hL t v hlk
    | succ fuel ih =>
      intro listed c I a w hsz hf hnt hcl hpΦ hpf hN hds hL hv hw
      by_cases hall : ∀ j, j < s → listed.getD j true = true
      · -- all quiet ones have come: the tail
        have hz : ((List.range s).filter fun j => !listed.getD j true).length = 0 := by
          rw [List.length_eq_zero_iff, List.filter_eq_nil_iff]
          intro j hj
          simp [hall j (by simpa using hj)]
        refine tail (fuel + 1) s listed a w hsz (Nat.le_refl _) (by omega) (fun j hj => ?_) ?_
        · rcases Nat.lt_or_ge j s with h | h
          · rw [hall j h]; simp [h]
          · rw [hnt j h hj]; simp; omega
        · have hD : (fun j => Nat.blt j s && listed.getD j true) = fun j => Nat.blt j s := by
            funext j
            cases hb : Nat.blt j s with
            | false => rfl
            | true => rw [hall j (by simpa using hb)]; rfl
          rw [hD] at hw
          refine hrest c I a w ?_ ⟨hN, ?_, hds⟩ hw
          · intro φ hφ
            rcases mem_ancF.1 hφ with ⟨j, hj, hφ⟩ | hφ
            · have hjs : j < s := by simpa using List.all_eq_true.1 hlive j hj
              exact hpf j hjs (hall j hjs) φ hφ
            · exact hpΦ φ hφ
          · intro t v hlk
            rcases look_ancX hlk with ⟨j, hj, hjd, rfl⟩ | hlk
            · have hjs : j < s := by simpa using List.all_eq_true.1 hlive j hj
              exact hv j hjs (hall j hjs) _ hjd
            · exact hL t v hlk
      · -- some quiet one is left
        obtain ⟨m, hm, hmin⟩ : ∃ m, (m < s ∧ listed.getD m true = false) ∧ ∀ j, j < m → ¬ (j < s ∧ listed.getD j true = false) := by
          have : ∃ m, m < s ∧ listed.getD m true = false := by
            apply Classical.byContradiction
            intro hc
            refine hall fun j hj => ?_
            cases hx : listed.getD j true with
            | true => rfl
            | false => exact absurd ⟨j, hj, hx⟩ hc
          have := least_spec this
          exact ⟨_, this.1, fun j hj hx => (by have := this.2 j hx; omega)⟩
        have getD_tf : ∀ k, k < l.length → listed.getD k false = listed.getD k true := fun k hk => by
          have : k < listed.size := by omega
          simp [Array.getD_eq_getD_getElem?, Array.getElem?_eq_getElem this]
        have hmready : m ∈ Region.ready .any l.toArray listed := by
          have hml : m < l.length := by omega
          unfold Region.ready
          simp only [List.mem_filter, List.size_toArray, List.mem_range, Bool.and_eq_true, Bool.not_eq_true']
          refine ⟨hml, hm.2, ?_⟩
          rw [List.getElem?_toArray, List.getElem?_eq_getElem hml]
          simp only [Option.map_some, Option.getD_some]
          rw [← Array.all_toList, List.all_eq_true]
          intro e he
          by_cases hbd : Region.binds .any e = true
          · have hlt := hbk m l[m] (List.getElem?_eq_getElem hml) e he hbd
            rw [hbd, getD_tf e.on (by omega)]
            simp only [Bool.not_true, Bool.false_or]
            cases hx : listed.getD e.on true with
            | true => rfl
            | false => exact absurd ⟨by omega, hx⟩ (hmin e.on hlt)
          · simp [hbd]
        refine ⟨fun hnil => (by rw [hnil] at hmready; cases hmready), fun i hi => ?_⟩
        have hi0 := hi
        unfold Region.ready at hi
        simp only [List.mem_filter, List.size_toArray, List.mem_range, Bool.and_eq_true, Bool.not_eq_true'] at hi
        obtain ⟨hil, hni, hed⟩ := hi
        have hed' : ∀ e ∈ l[i].after.toList, Region.binds .any e = true → listed.getD e.on true = true := by
          intro e he hbd
          rw [List.getElem?_toArray, List.getElem?_eq_getElem hil] at hed
          simp only [Option.map_some, Option.getD_some] at hed
          rw [← Array.all_toList, List.all_eq_true] at hed
          have h7 := hed e he
          rw [hbd] at h7
          have hlt := hbk i l[i] (List.getElem?_eq_getElem hil) e he hbd
          rw [← getD_tf e.on (by omega)]
          simpa using h7
        have hancl : ∀ k, ((Region.before l.toArray).getD i 0).testBit k = true → listed.getD k true = true := by
          intro k hk
          obtain ⟨e, he, hbd, h⟩ := (before_at l i l[i] (List.getElem?_eq_getElem hil) hbk k).1 hk
          have hlt := hbk i l[i] (List.getElem?_eq_getElem hil) e he hbd
          have hel := hed' e he hbd
          rcases h with h | h
          · rw [← h]; exact hel
          · refine hcl e.on ?_ hel k h
            rcases Nat.lt_or_ge e.on s with h | h
            · exact h
            · rw [hnt e.on h (by omega)] at hel; cases hel
        have his : i < s := by
          rcases Nat.lt_or_ge i s with h | h
          · exact h
          · exfalso
            have := hancl m (htail i hil h m (by omega))
            rw [hm.2] at this; cases this
        -- the operation itself
        let js := (List.range s).filter fun j => listed.getD j true
        have hjs : ∀ j, j ∈ js ↔ j < s ∧ listed.getD j true = true := by intro j; simp [js]
        have hq := hops.at (Nat.zero_le i) (by omega) (fun j => Nat.blt j s && listed.getD j true) c undef (js.flatMap (kfac ks c)) (ancX l ks c js []) (wpAnyIn (FR x.r) 0 x.P .any l.toArray Q fuel (listed.setIfInBounds i true))
        have hmemΦr : ∀ φ, φ ∈ js.flatMap (kfac ks c) → ∃ j, j < s ∧ listed.getD j true = true ∧ φ ∈ kfac ks c j := by
          intro φ hφ
          obtain ⟨j, hj, hφ⟩ := List.mem_flatMap.1 hφ
          exact ⟨j, ((hjs j).1 hj).1, ((hjs j).1 hj).2, hφ⟩
        have hasl : ∀ j ∈ as.getD i [], j < s ∧ listed.getD j true = true := fun j hj => by
          have h1 := has i his j hj
          exact ⟨(by have := hanc_lt i j hil h1; omega), hancl j h1⟩
        have hrun : wpOpIn (FR x.r) 0 x.P l.toArray Q i (wpAnyIn (FR x.r) 0 x.P .any l.toArray Q fuel (listed.setIfInBounds i true)) a w ↔ opRun x l.toArray Q (l.getD i default) (wpAnyIn (FR x.r) 0 x.P .any l.toArray Q fuel (listed.setIfInBounds i true)) a w := by
          unfold wpOpIn opRun
          rw [List.getElem?_toArray, List.getElem?_eq_getElem hil, List.getD_eq_getElem?_getD, List.getElem?_eq_getElem hil]
          exact Iff.rfl
        rw [hrun]
        refine hq (by simp [hni]) (fun j hj => ?_) (fun j k hj hk => ?_) ?_ I a w ?_ ⟨hN, ?_, hds⟩ hw
        · have h1 := hancl j hj
          have h2 := hanc_lt i j hil hj
          rw [h1]; simp; omega
        · simp only [Bool.and_eq_true] at hj ⊢
          have hjs : j < s := by simpa using hj.1
          have h2 := hanc_lt j k (by omega) hk
          exact ⟨by simp; omega, hcl j hjs hj.2 k hk⟩
        · intro z I' a' w' hp' hk' hw'
          have hloci := hloc.at (Nat.zero_le i) (by omega)
          let c' : Nat → Value := fun k => if k = i then z else c k
          have hc'i : c' i = z := by simp [c']
          have hc'j : ∀ j, j ≠ i → c' j = c j := fun j hj => by simp [c', hj]
          have hli := hloci c c' z (fun j hj => (hc'j j (fun e => by subst e; have := hanc_lt j j hil hj; omega)).symm)
          have hvi : kval ks c' i = (ks.getD i default).val c z := by simp only [kval, hc'i]; exact hli.1.symm
          have hfi : kfac ks c' i = (ks.getD i default).facts c z := by simp only [kfac, hc'i]; exact hli.2.symm
          have hoth : ∀ j, j < s → listed.getD j true = true → j ≠ i ∧ kval ks c' j = kval ks c j ∧ kfac ks c' j = kfac ks c j := by
            intro j hj hjl
            have hne : j ≠ i := fun e => by subst e; rw [hni] at hjl; cases hjl
            have := hloc.at (Nat.zero_le j) (by omega) c c' (c j) (fun k hk => (hc'j k (fun e => by
              subst e
              have := hcl j hj hjl k hk
              rw [hni] at this; cases this)).symm)
            refine ⟨hne, ?_, ?_⟩
            · simp only [kval, hc'j j hne]; exact this.1.symm
            · simp only [kfac, hc'j j hne]; exact this.2.symm
          have hl' : ∀ j, (listed.setIfInBounds i true).getD j true = true → j = i ∨ listed.getD j true = true := by
            intro j h
            by_cases e : j = i
            · exact .inl e
            · rw [Array.getD_eq_getD_getElem?, Array.getElem?_setIfInBounds_ne (Ne.symm e), ← Array.getD_eq_getD_getElem?] at h; exact .inr h
          have hl'' : ∀ j, listed.getD j true = true → (listed.setIfInBounds i true).getD j true = true := by
            intro j h
            by_cases e : j = i
            · subst e; simp [Array.getD_eq_getD_getElem?, Array.getElem?_setIfInBounds_self]; split <;> rfl
            · rw [Array.getD_eq_getD_getElem?, Array.getElem?_setIfInBounds_ne (Ne.symm e), ← Array.getD_eq_getD_getElem?]; exact h
          have hDu : (fun j => Nat.blt j s && (listed.setIfInBounds i true).getD j true) = updD (fun j => Nat.blt j s && listed.getD j true) i := by
            funext j
            unfold updD
            by_cases e : j = i
            · subst e
              have h1 : (listed.setIfInBounds j true).getD j true = true := by
                simp [Array.getD_eq_getD_getElem?, Array.getElem?_setIfInBounds_self]; split <;> rfl
              rw [h1]; simp [his]
            · rw [if_neg e, Array.getD_eq_getD_getElem?, Array.getElem?_setIfInBounds_ne (Ne.symm e), ← Array.getD_eq_getD_getElem?]
          have hcu : c' = updC c i z := by
            funext k
            rfl
          rw [← hDu, ← hcu] at hw'
          refine ih (listed.setIfInBounds i true) c' I' a' w' (by simpa using hsz) ?_ ?_ ?_ ?_ ?_ hk'.sz hk'.df ?_ ?_ hw'
          · have := filter_less (l := List.range s) (p := fun j => !listed.getD j true) (q := fun j => !(listed.setIfInBounds i true).getD j true) (i := i) List.nodup_range (by simp [his]) (by simp [hni]) (fun j => by
              by_cases e : j = i
              · subst e; simp [Array.getD_eq_getD_getElem?, Array.getElem?_setIfInBounds_self]; split <;> rfl
              · rw [Array.getD_eq_getD_getElem?, Array.getElem?_setIfInBounds_ne (Ne.symm e), ← Array.getD_eq_getD_getElem?]; simp [e])
            omega
          · intro j hj hjl
            rw [Array.getD_eq_getD_getElem?, Array.getElem?_setIfInBounds_ne (by omega), ← Array.getD_eq_getD_getElem?]; exact hnt j hj hjl
          · intro j hj hjl k hk
            rcases hl' j hjl with rfl | hjl
            · exact hl'' k (hancl k hk)
            · exact hl'' k (hcl j hj hjl k hk)
          · intro φ hφ
            exact hp' φ (List.mem_append_right _ (mem_ancF.2 (.inr (List.mem_append_left _ hφ))))
          · intro j hj hjl φ hφ
            rcases hl' j hjl with rfl | hjl
            · rw [hfi] at hφ; exact hp' φ (List.mem_append_left _ hφ)
            · rw [(hoth j hj hjl).2.2] at hφ
              exact hp' φ (List.mem_append_right _ (mem_ancF.2 (.inr (List.mem_append_right _ (List.mem_flatMap.2 ⟨j, (hjs j).2 ⟨hj, hjl⟩, hφ⟩)))))
          · intro t v hlk
            refine hk'.val t v ?_
            have htk := look_keys hlk
            have hnd : ∀ j, j < s → dstX l j ≠ some t := fun j hj e => (hdst j hj t e).1 htk
            rw [look_putX_ne (hnd i his), look_ancX_not fun j hj => hnd j (hasl j hj).1]
            exact look_append_l hlk
          · intro j hj hjl d hjd
            rcases hl' j hjl with rfl | hjl
            · rw [hvi]; refine hk'.val _ _ ?_
              exact look_putX_eq hjd
            · rw [(hoth j hj hjl).2.1]
              refine hk'.val _ _ ?_
              rw [look_putX_ne (fun e => (hoth j hj hjl).1 (hdne i j d his hj e hjd).symm)]
              refine look_ancX_is hjd (fun k hk e => hdne k j d (hasl k hk).1 hj e hjd) (.inr ?_)
              rw [look_append_r (hdst j hj d hjd).1]
              exact look_ancX_is hjd (fun k hk e => hdne k j d ((hjs k).1 hk).1 hj e hjd) (.inl ((hjs j).2 ⟨hj, hjl⟩))
        · intro φ hφ
          rcases mem_ancF.1 hφ with ⟨j, hj, hφ⟩ | hφ
          · exact hpf j (hasl j hj).1 (hasl j hj).2 φ hφ
          · rcases List.mem_append.1 hφ with hφ | hφ
            · exact hpΦ φ hφ
            · obtain ⟨j, h1, h2, h3⟩ := hmemΦr φ hφ
              exact hpf j h1 h2 φ h3
        · intro t v hlk
          rcases look_ancX hlk with ⟨j, hj, hjd, rfl⟩ | hlk
          · exact hv j (hasl j hj).1 (hasl j hj).2 _ hjd
          · rcases look_append hlk with hlk | hlk
            · exact hL t v hlk
            · rcases look_ancX hlk with ⟨j, hj, hjd, rfl⟩ | hlk
              · exact hv j ((hjs j).1 hj).1 ((hjs j).1 hj).2 _ hjd
              · cases hlk
  intro I a w hp hk hw
  refine wpIn_region_any hm ?_
  have hD0 : (fun j => Nat.blt j s && (Array.replicate l.toArray.size false).getD j true) = fun _ => false := by
    funext j
    by_cases h : j < s
    · have hjl : j < l.length := by omega
      simp [hjl]
    · simp [h]
  refine main l.toArray.size (Array.replicate l.toArray.size false) (fun _ => undef) I a w.drew (by simp) ?_ ?_ ?_ hp ?_ hk.sz hk.df hk.val ?_ (by rw [hD0, ← h0]; exact hw.drew)
  · have : ((List.range s).filter fun j => !(Array.replicate l.toArray.size false).getD j true) = List.range s := by
      rw [List.filter_eq_self]
      intro j hj
      have : j < l.length := by have := List.mem_range.1 hj; omega
      simp [this]
    rw [this]; simp; omega
  · intro j _ hj; simp [hj]
  · intro j hj h; simp [show j < l.length from by omega] at h
  · intro j hj h; simp [show j < l.length from by omega] at h
  · intro j hj h; simp [show j < l.length from by omega] at h
variable {ops : Array Oper} {K : Act → World → Prop} {o : Oper}
theorem OpK.bare (h : G x Φ L M (opRun x ops Q o K)) : OpK x ops Q o Φ L M K := h
theorem OpK.back (h : OpK x ops Q o Φ L M K) : G x Φ L M (opRun x ops Q o K) := h
theorem LW.bare {l : List Oper} (h : G x Φ L M (wpListIn (FR x.r) 0 x.P ops Q l)) : LW x ops Q l Φ L M := h
theorem LW.back {l : List Oper} (h : LW x ops Q l Φ L M) : G x Φ L M (wpListIn (FR x.r) 0 x.P ops Q l) := h
end
theorem G.forget2 {x : Cx} {φ ψ χ : Fa} {Φ : List Fa} {L : Env} {M : Own} {F : Act → World → Prop} (h : G x (φ :: Φ) L M F) : G x (φ :: ψ :: χ :: Φ) L M F :=
  G.weaken h (fun f hf => by
    rcases List.mem_cons.1 hf with rfl | hf
    · exact .head _
    · exact .tail _ (.tail _ (.tail _ hf))) (fun _ _ h => h) (List.Sublist.refl _)
theorem dnF {D : Nat → Bool} {B : Nat → Nat → Bool} (hDn : ∀ j k, D j = true → B j k = true → D k = true) {i j : Nat} (hi : D i = false) (h : B j i = true) : D j = false := by
  cases e : D j with
  | false => rfl
  | true => rw [hDn j i e h] at hi; cases hi
/-- A plain fact. -/
def fPure (p : Prop) : Fa := ⟨undef, fun _ => p, fun _ _ _ h => h⟩
/-- A choice that tells a slot's value and a slice of one's own. -/
def codeO (v : Value) : OR → Value
  | none => .tuple #[v]
  | some (b, cs) => .tuple #[v, .int .i64 b, .agg cs.toArray]
def cv : Value → Value
  | .tuple a => a.getD 0 undef
  | _ => undef
def co : Value → OR
  | .tuple a => match a.toList with
    | [_, .int _ b, .agg cs] => some (b.toNat, cs.toList)
    | _ => none
  | _ => none
theorem cv_code (v : Value) (o : OR) : cv (codeO v o) = v := by cases o <;> rfl
theorem co_code (v : Value) (o : OR) : co (codeO v o) = o := by cases o <;> rfl
end Go.Rail
