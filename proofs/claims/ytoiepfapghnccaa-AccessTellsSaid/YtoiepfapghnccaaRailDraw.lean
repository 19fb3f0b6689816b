/- A region whose order Go leaves open: its quiet operations may come in any order that their edges allow. -/
import Derived.Test.YtoiepfapghnccaaRailCall
set_option linter.unusedSimpArgs false
set_option linter.unusedVariables false
namespace Go.Rail
open Go

/-- What is known of an operation's value: c tells the values of those ahead, z its own, where it is not settled. -/
structure DOp where
  val : (Nat → Value) → Value → Value
  facts : (Nat → Value) → Value → List Fa
instance : Inhabited DOp := ⟨⟨fun _ _ => undef, fun _ _ => []⟩⟩

theorem getD_z {α : Type} (a : α) (l : List α) (d : α) : (a :: l).getD 0 d = a := rfl
theorem getD_s {α : Type} (a : α) (l : List α) (n : Nat) (d : α) : (a :: l).getD (n + 1) d = l.getD n d := rfl
def dstOf (l : List Oper) (j : Nat) : Nat := match l[j]? with
  | some o => o.dst.getD 0
  | none => 0
def kval (ks : List DOp) (c : Nat → Value) (j : Nat) : Value := (ks.getD j default).val c (c j)
def kfac (ks : List DOp) (c : Nat → Value) (j : Nat) : List Fa := (ks.getD j default).facts c (c j)
def ancE (l : List Oper) (ks : List DOp) (c : Nat → Value) : List Nat → Env → Env
  | [], L => L
  | j :: js, L => (dstOf l j, kval ks c j) :: ancE l ks c js L
def ancF (ks : List DOp) (c : Nat → Value) : List Nat → List Fa → List Fa
  | [], Φ => Φ
  | j :: js, Φ => kfac ks c j ++ ancF ks c js Φ

/-- The closed look over a region: edges go back; the last ones, from s on, wait for all; the first s write slots of their own, unlike each other and unlike what is known. -/
def chkDraw (l : List Oper) (s : Nat) (as : List (List Nat)) (keys : List Nat) : Bool :=
  let b := Region.before l.toArray
  (List.range l.length).all (fun i => (l.getD i default).after.toList.all fun e => !Region.binds .any e || Nat.blt e.on i) &&
  (List.range l.length).all (fun i => Nat.blt i s || (List.range i).all fun j => (b.getD i 0).testBit j) &&
  (List.range s).all (fun i => (match (l.getD i default).dst with
    | some d => !keys.contains d && (List.range i).all (fun j => (l.getD j default).dst != some d)
    | none => false) && (as.getD i []).all fun j => (b.getD i 0).testBit j) &&
  Nat.ble s l.length

def Quiet (x : Cx) (Q : Exit → Act → World → Prop) (l : List Oper) (ks : List DOp) (as : List (List Nat)) (Φ : List Fa) (L : Env) (M : Own) (i : Nat) : Prop :=
  ∀ (c : Nat → Value) (z0 : Value) (Φr : List Fa) (Lr : Env) (K : Act → World → Prop), (∀ z, G x ((ks.getD i default).facts c z ++ ancF ks c (as.getD i []) (Φ ++ Φr)) ((dstOf l i, (ks.getD i default).val c z) :: ancE l ks c (as.getD i []) (L ++ Lr)) M K) →
    OpK x l.toArray Q (l.getD i default) (ancF ks c (as.getD i []) (Φ ++ Φr)) (ancE l ks c (as.getD i []) (L ++ Lr)) M K

def AllQ (x : Cx) (Q : Exit → Act → World → Prop) (l : List Oper) (ks : List DOp) (as : List (List Nat)) (Φ : List Fa) (L : Env) (M : Own) : Nat → Nat → Prop
  | _, 0 => True
  | i, n + 1 => Quiet x Q l ks as Φ L M i ∧ AllQ x Q l ks as Φ L M (i + 1) n
theorem AllQ.at {x : Cx} {Q : Exit → Act → World → Prop} {l : List Oper} {ks : List DOp} {as : List (List Nat)} {Φ : List Fa} {L : Env} {M : Own} : ∀ {n i j : Nat}, AllQ x Q l ks as Φ L M i n → i ≤ j → j < i + n → Quiet x Q l ks as Φ L M j
  | 0, i, j, _, h1, h2 => by omega
  | n + 1, i, j, h, h1, h2 => by
    by_cases e : i = j
    · subst e; exact h.1
    · exact AllQ.at h.2 (by omega) (by omega)

/-- An operation's knowledge hangs on those ahead of it alone. -/
def Local (l : List Oper) (ks : List DOp) (i : Nat) : Prop :=
  ∀ c c' z, (∀ j, ((Region.before l.toArray).getD i 0).testBit j = true → c j = c' j) → (ks.getD i default).val c z = (ks.getD i default).val c' z ∧ (ks.getD i default).facts c z = (ks.getD i default).facts c' z
def AllL (l : List Oper) (ks : List DOp) : Nat → Nat → Prop
  | _, 0 => True
  | i, n + 1 => Local l ks i ∧ AllL l ks (i + 1) n
theorem AllL.at {l : List Oper} {ks : List DOp} : ∀ {n i j : Nat}, AllL l ks i n → i ≤ j → j < i + n → Local l ks j
  | 0, i, j, _, h1, h2 => by omega
  | n + 1, i, j, h, h1, h2 => by
    by_cases e : i = j
    · subst e; exact h.1
    · exact AllL.at h.2 (by omega) (by omega)

theorem before_size (ops : Array Oper) : (Region.before ops).size = ops.size := by
  unfold Region.before
  rw [← Array.foldl_toList]
  have : ∀ (l : List Oper) (acc : Array Nat), (l.foldl (fun acc o => acc.push (o.after.foldl (fun s e => if Region.binds .any e then s ||| 2 ^ e.on ||| acc.getD e.on 0 else s) 0)) acc).size = acc.size + l.length := by
    intro l
    induction l with
    | nil => intro acc; rfl
    | cons o l ih => intro acc; rw [List.foldl_cons, ih]; simp; omega
  rw [this]; simp

/-- What 'before' lays at i. -/
theorem before_at (l : List Oper) (i : Nat) (o : Oper) (ho : l[i]? = some o) (hb : ∀ k p, l[k]? = some p → ∀ e ∈ p.after.toList, Region.binds .any e = true → e.on < k) (j : Nat) :
    ((Region.before l.toArray).getD i 0).testBit j = true ↔ ∃ e ∈ o.after.toList, Region.binds .any e = true ∧ (e.on = j ∨ ((Region.before l.toArray).getD e.on 0).testBit j = true) := by
  let step : Array Nat → Oper → Array Nat := fun acc o => acc.push (o.after.foldl (fun s e => if Region.binds .any e then s ||| 2 ^ e.on ||| acc.getD e.on 0 else s) 0)
  have hdef : Region.before l.toArray = l.foldl step #[] := by
    unfold Region.before; rw [← Array.foldl_toList]
  -- what lies at k does not turn any more
  have keep : ∀ (l : List Oper) (acc : Array Nat) (k : Nat), k < acc.size → (l.foldl step acc).getD k 0 = acc.getD k 0 := by
    intro l
    induction l with
    | nil => intro acc k _; rfl
    | cons p l ih =>
      intro acc k hk
      rw [List.foldl_cons, ih _ _ (by simp [step]; omega)]
      simp [step, Array.getD_eq_getD_getElem?, Array.getElem?_push, Nat.ne_of_lt hk]
  have size : ∀ (l : List Oper) (acc : Array Nat), (l.foldl step acc).size = acc.size + l.length := by
    intro l
    induction l with
    | nil => intro acc; rfl
    | cons o l ih => intro acc; rw [List.foldl_cons, ih]; simp [step]; omega
  obtain ⟨l1, l2, rfl, hl1⟩ : ∃ l1 l2, l = l1 ++ o :: l2 ∧ l1.length = i := by
    obtain ⟨hlt, he⟩ := List.getElem?_eq_some_iff.1 ho
    exact ⟨l.take i, l.drop (i + 1), by rw [← he, List.getElem_cons_drop, List.take_append_drop], by simp; omega⟩
  have hacc : (l1.foldl step #[]).size = i := by rw [size]; simp [hl1]
  have hall : ∀ k, k < i → (Region.before (l1 ++ o :: l2).toArray).getD k 0 = (l1.foldl step #[]).getD k 0 := fun k hk => by
    rw [hdef, List.foldl_append, keep _ _ _ (by rw [hacc]; exact hk)]
  have hi : (Region.before (l1 ++ o :: l2).toArray).getD i 0 = o.after.foldl (fun s e => if Region.binds .any e then s ||| 2 ^ e.on ||| (l1.foldl step #[]).getD e.on 0 else s) 0 := by
    rw [hdef, List.foldl_append, List.foldl_cons, keep _ _ _ (by simp only [step, Array.size_push, hacc]; omega)]
    have push_at : ∀ (acc : Array Nat) (v : Nat), acc.size = i → (acc.push v).getD i 0 = v := fun acc v h => by subst h; simp [Array.getD_eq_getD_getElem?]
    exact push_at _ _ hacc
  rw [hi, ← Array.foldl_toList]
  have key : ∀ (es : List Edge) (s : Nat), (es.foldl (fun s e => if Region.binds .any e then s ||| 2 ^ e.on ||| (l1.foldl step #[]).getD e.on 0 else s) s).testBit j = true ↔
      s.testBit j = true ∨ ∃ e ∈ es, Region.binds .any e = true ∧ (e.on = j ∨ ((l1.foldl step #[]).getD e.on 0).testBit j = true) := by
    intro es
    induction es with
    | nil => intro s; simp
    | cons e es ih =>
      intro s
      rw [List.foldl_cons, ih]
      by_cases hbd : Region.binds .any e = true
      · simp only [hbd, if_true, Nat.testBit_or, Bool.or_eq_true, List.mem_cons, exists_eq_or_imp, true_and, Nat.testBit_two_pow, decide_eq_true_eq]
        grind
      · simp only [hbd, List.mem_cons, exists_eq_or_imp]
        simp
  rw [key]
  simp only [Nat.zero_testBit, Bool.false_eq_true, false_or]
  constructor
  · rintro ⟨e, he, hbd, h⟩
    refine ⟨e, he, hbd, h.imp id (fun h => ?_)⟩
    rw [hall _ (hb _ _ ho e he hbd)]; exact h
  · rintro ⟨e, he, hbd, h⟩
    refine ⟨e, he, hbd, h.imp id (fun h => ?_)⟩
    rw [hall _ (hb _ _ ho e he hbd)] at h; exact h

def envAll (l : List Oper) (ks : List DOp) (c : Nat → Value) (js : List Nat) : Env := ancE l ks c js []

theorem look_ancE {l : List Oper} {ks : List DOp} {c : Nat → Value} : ∀ {js : List Nat} {L : Env} {t : Nat} {v : Value}, look (ancE l ks c js L) t = some v → (∃ j ∈ js, dstOf l j = t ∧ v = kval ks c j) ∨ look L t = some v
  | [], L, t, v, h => .inr h
  | j :: js, L, t, v, h => by
    simp only [ancE, look] at h
    by_cases e : dstOf l j = t
    · rw [show Nat.beq (dstOf l j) t = true from by rw [e]; exact Nat.beq_refl t] at h
      simp only [cond_true, Option.some.injEq] at h
      exact .inl ⟨j, by simp, e, h.symm⟩
    · rw [nbeq_ne e] at h
      simp only [cond_false] at h
      rcases look_ancE h with ⟨k, hk, h1, h2⟩ | h
      · exact .inl ⟨k, by simp [hk], h1, h2⟩
      · exact .inr h
theorem mem_ancF {ks : List DOp} {c : Nat → Value} : ∀ {js : List Nat} {Φ : List Fa} {φ : Fa}, φ ∈ ancF ks c js Φ ↔ (∃ j ∈ js, φ ∈ kfac ks c j) ∨ φ ∈ Φ
  | [], Φ, φ => by simp [ancF]
  | j :: js, Φ, φ => by simp only [ancF, List.mem_append, mem_ancF, List.mem_cons, exists_eq_or_imp, or_assoc]

theorem look_cons_ne {k t : Nat} {v : Value} {L : Env} (h : k ≠ t) : look ((k, v) :: L) t = look L t := by
  show (bif Nat.beq k t then some v else look L t) = look L t; rw [nbeq_ne h]; rfl
theorem look_cons_eq {k : Nat} {v : Value} {L : Env} : look ((k, v) :: L) k = some v := by
  show (bif Nat.beq k k then some v else look L k) = some v; rw [Nat.beq_refl]; rfl
theorem look_keys : ∀ {L : Env} {t : Nat} {v : Value}, look L t = some v → t ∈ L.map Prod.fst
  | [], _, _, h => by cases h
  | (k, u) :: L, t, v, h => by
    simp only [look] at h
    by_cases e : k = t
    · simp [e]
    · rw [nbeq_ne e] at h
      have := look_keys (L := L) h
      simp [this]
theorem look_append : ∀ {L L' : Env} {t : Nat} {v : Value}, look (L ++ L') t = some v → look L t = some v ∨ look L' t = some v
  | [], _, _, _, h => .inr h
  | (k, u) :: L, L', t, v, h => by
    simp only [List.cons_append, look] at h ⊢
    cases e : Nat.beq k t with
    | true => rw [e] at h; exact .inl h
    | false => rw [e] at h; simp only [cond_false] at h ⊢; exact look_append h
theorem look_append_l : ∀ {L L' : Env} {t : Nat} {v : Value}, look L t = some v → look (L ++ L') t = some v
  | [], _, _, _, h => by cases h
  | (k, u) :: L, L', t, v, h => by
    simp only [List.cons_append, look] at h ⊢
    cases e : Nat.beq k t with
    | true => rw [e] at h; exact h
    | false => rw [e] at h; simp only [cond_false] at h ⊢; exact look_append_l h
theorem look_append_r : ∀ {L L' : Env} {t : Nat}, t ∉ L.map Prod.fst → look (L ++ L') t = look L' t
  | [], _, _, _ => rfl
  | (k, u) :: L, L', t, h => by
    simp only [List.map_cons, List.mem_cons, not_or] at h
    simp only [List.cons_append, look]
    rw [nbeq_ne (Ne.symm h.1)]
    simp only [cond_false]
    exact look_append_r h.2
theorem look_ancE_not {l : List Oper} {ks : List DOp} {c : Nat → Value} {t : Nat} {L : Env} : ∀ {js : List Nat}, (∀ j ∈ js, dstOf l j ≠ t) → look (ancE l ks c js L) t = look L t
  | [], _ => rfl
  | j :: js, h => by
    simp only [ancE, look]
    rw [nbeq_ne (h j (by simp))]
    simp only [cond_false]
    exact look_ancE_not fun k hk => h k (by simp [hk])
theorem look_ancE_is {l : List Oper} {ks : List DOp} {c : Nat → Value} {j : Nat} {L : Env} : ∀ {js : List Nat}, (∀ k ∈ js, dstOf l k = dstOf l j → k = j) → (j ∈ js ∨ look L (dstOf l j) = some (kval ks c j)) → look (ancE l ks c js L) (dstOf l j) = some (kval ks c j)
  | [], _, h => h.resolve_left (by simp)
  | k :: js, hu, h => by
    simp only [ancE, look]
    by_cases e : dstOf l k = dstOf l j
    · rw [show Nat.beq (dstOf l k) (dstOf l j) = true from by rw [e]; exact Nat.beq_refl _]
      rw [hu k (by simp) e]; rfl
    · rw [nbeq_ne e]
      simp only [cond_false]
      refine look_ancE_is (fun k hk => hu k (by simp [hk])) (h.imp (fun h => ?_) id)
      rcases List.mem_cons.1 h with rfl | h
      · exact absurd rfl e
      · exact h
theorem filter_less : ∀ {l : List Nat} {p q : Nat → Bool} {i : Nat}, l.Nodup → i ∈ l → p i = true → (∀ j, q j = (p j && j != i)) → (l.filter q).length + 1 = (l.filter p).length
  | [], _, _, _, _, h, _, _ => by cases h
  | k :: l, p, q, i, hn, hi, hp, hq => by
    have hn' := List.nodup_cons.1 hn
    by_cases e : k = i
    · subst e
      have : l.filter q = l.filter p := List.filter_congr fun j hj => by
        rw [hq]
        have : j ≠ k := fun e => hn'.1 (e ▸ hj)
        simp [this]
      simp [List.filter_cons, hq, hp, this]
    · have hil : i ∈ l := by rcases List.mem_cons.1 hi with h | h; exact absurd h.symm e; exact h
      have ih := filter_less hn'.2 hil hp hq
      have hqk : q k = p k := by rw [hq]; simp [e]
      simp only [List.filter_cons, hqk]
      split <;> (try simp only [List.length_cons]) <;> omega

section
variable {x : Cx} {Q : Exit → Act → World → Prop} {Φ : List Fa} {L : Env} {M : Own}

theorem W.draw {id : Nat} {l : List Oper} (s : Nat) (ks : List DOp) (as : List (List Nat)) (live : List Nat) (hm : x.P.follows .mixedOrders = true)
    (hchk : chkDraw l s as (L.map Prod.fst) = true) (hdN : (List.range s).all (fun i => Nat.blt (dstOf l i) x.N) = true) (hlive : live.all (fun j => Nat.blt j s) = true)
    (hloc : AllL l ks 0 s) (hops : AllQ x Q l ks as Φ L M 0 s)
    (hrest : ∀ c, LW x l.toArray Q (l.drop s) (ancF ks c live Φ) (ancE l ks c live L) M) : W x (.region id l.toArray true) Q Φ L M := by
  -- the look, in words
  unfold chkDraw at hchk
  simp only [Bool.and_eq_true, List.all_eq_true, List.mem_range, Bool.or_eq_true, Bool.not_eq_true'] at hchk
  obtain ⟨⟨⟨h1, h2⟩, h3⟩, h4⟩ := hchk
  have hs : s ≤ l.length := Nat.le_of_ble_eq_true h4
  have hbk : ∀ k p, l[k]? = some p → ∀ e ∈ p.after.toList, Region.binds .any e = true → e.on < k := by
    intro k p hp e he hb
    have hk := (List.getElem?_eq_some_iff.1 hp).1
    have := h1 k hk e (by rw [List.getD_eq_getElem?_getD, hp]; exact he)
    rcases this with h | h
    · rw [hb] at h; cases h
    · simpa using h
  have htail : ∀ i, i < l.length → s ≤ i → ∀ j, j < i → ((Region.before l.toArray).getD i 0).testBit j = true := by
    intro i hi hsi j hj
    rcases h2 i hi with h | h
    · have : i < s := by simpa using h
      omega
    · exact h j hj
  have hdst : ∀ i, i < s → ∃ d o, l[i]? = some o ∧ o.dst = some d ∧ dstOf l i = d ∧ d ∉ L.map Prod.fst ∧ ∀ j, j < i → dstOf l j ≠ d := by
    intro i hi
    have hil : i < l.length := by omega
    have := (h3 i hi).1
    rw [List.getD_eq_getElem?_getD, List.getElem?_eq_getElem hil, Option.getD_some] at this
    cases hd : l[i].dst with
    | none => rw [hd] at this; cases this
    | some d =>
      rw [hd] at this
      simp only [Bool.and_eq_true, Bool.not_eq_true', List.all_eq_true, List.mem_range] at this
      refine ⟨d, l[i], List.getElem?_eq_getElem hil, hd, by simp [dstOf, List.getElem?_eq_getElem hil, hd], by simpa using this.1, fun j hj => ?_⟩
      have h5 := this.2 j hj
      have hjl : j < l.length := by omega
      rw [List.getD_eq_getElem?_getD, List.getElem?_eq_getElem hjl, Option.getD_some] at h5
      intro e
      obtain ⟨d', hd'⟩ : ∃ d', l[j].dst = some d' := by
        have h6 := (h3 j (by omega)).1
        rw [List.getD_eq_getElem?_getD, List.getElem?_eq_getElem hjl, Option.getD_some] at h6
        cases hd' : l[j].dst with
        | none => rw [hd'] at h6; cases h6
        | some d' => exact ⟨d', rfl⟩
      simp [dstOf, List.getElem?_eq_getElem hjl, hd'] at e
      subst e
      simp [hd'] at h5
  have hdne : ∀ i j, i < s → j < s → i ≠ j → dstOf l i ≠ dstOf l j := by
    intro i j hi hj hne e
    obtain ⟨d, o, _, _, e1, _, hu⟩ := hdst i hi
    obtain ⟨d', o', _, _, e2, _, hu'⟩ := hdst j hj
    rcases Nat.lt_or_gt_of_ne hne with h | h
    · exact hu' i h (e.trans e2)
    · exact hu j h (e.symm.trans e1)
  have has : ∀ i, i < s → ∀ j ∈ as.getD i [], ((Region.before l.toArray).getD i 0).testBit j = true := fun i hi j hj => (h3 i hi).2 j hj
  have hanc_lt : ∀ i j, i < l.length → ((Region.before l.toArray).getD i 0).testBit j = true → j < i := by
    intro i
    induction i using Nat.strongRecOn with
    | _ i ih =>
      intro j hi hj
      obtain ⟨e, he, hb, h⟩ := (before_at l i l[i] (List.getElem?_eq_getElem hi) hbk j).1 hj
      have hlt := hbk i l[i] (List.getElem?_eq_getElem hi) e he hb
      rcases h with h | h
      · omega
      · have := ih e.on hlt j (by omega) h; omega
  have hanc_trans : ∀ i j k, i < l.length → ((Region.before l.toArray).getD i 0).testBit j = true → ((Region.before l.toArray).getD j 0).testBit k = true → ((Region.before l.toArray).getD i 0).testBit k = true := by
    intro i
    induction i using Nat.strongRecOn with
    | _ i ih =>
      intro j k hi hj hk
      obtain ⟨e, he, hb, h⟩ := (before_at l i l[i] (List.getElem?_eq_getElem hi) hbk j).1 hj
      have hlt := hbk i l[i] (List.getElem?_eq_getElem hi) e he hb
      refine (before_at l i l[i] (List.getElem?_eq_getElem hi) hbk k).2 ⟨e, he, hb, .inr ?_⟩
      rcases h with h | h
      · rw [h]; exact hk
      · exact ih e.on hlt j k (by omega) h hk
  -- the tail, in its order
  have tail : ∀ fuel k (listed : Array Bool) a w, listed.size = l.length → s ≤ k → k + fuel = l.length → (∀ j, j < l.length → listed.getD j true = decide (j < k)) →
      wpListIn (FR x.r) 0 x.P l.toArray Q (l.drop k) a w → wpAnyIn (FR x.r) 0 x.P .any l.toArray Q fuel listed a w := by
    intro fuel
    induction fuel with
    | zero =>
      intro k listed a w hsz hk hkf hl hw
      have hk' : k = l.length := by omega
      subst hk'
      refine ⟨?_, by rw [List.drop_length] at hw; exact hw⟩
      unfold Region.ready
      rw [List.filter_eq_nil_iff]
      intro i hi
      simp only [List.size_toArray, List.mem_range] at hi
      simp [hl i hi, hi]
    | succ fuel ih =>
      intro k listed a w hsz hk hkf hl hw
      have hkl : k < l.length := by omega
      have hready : ∀ i ∈ Region.ready .any l.toArray listed, i = k := by
        intro i hi
        unfold Region.ready at hi
        simp only [List.mem_filter, List.size_toArray, List.mem_range, Bool.and_eq_true, Bool.not_eq_true'] at hi
        obtain ⟨hil, hnl, hed⟩ := hi
        rw [hl i hil] at hnl
        have hik : k ≤ i := by simpa using hnl
        rcases Nat.lt_or_ge k i with hlt | hge
        · exfalso
          have hb := htail i hil (by omega) k hlt
          obtain ⟨e, he, hbd, h⟩ := (before_at l i l[i] (List.getElem?_eq_getElem hil) hbk k).1 hb
          have hel := hbk i l[i] (List.getElem?_eq_getElem hil) e he hbd
          rw [List.getElem?_toArray, List.getElem?_eq_getElem hil] at hed
          simp only [Option.map_some, Option.getD_some] at hed
          rw [← Array.all_toList, List.all_eq_true] at hed
          have h7 := hed e he
          rw [hbd] at h7
          have h8 : e.on < k := by
            have : listed.getD e.on false = true := by simpa using h7
            have h9 : listed.getD e.on true = true := by
              rw [Array.getD_eq_getD_getElem?] at this ⊢
              cases hx : listed[e.on]? with
              | none => rw [hx] at this; cases this
              | some b => rw [hx] at this; simpa using this
            rw [hl e.on (by omega)] at h9
            simpa using h9
          rcases h with h | h
          · omega
          · have := hanc_lt e.on k (by omega) h; omega
        · omega
      refine ⟨fun hnil => ?_, fun i hi => ?_⟩
      · exfalso
        have : k ∈ Region.ready .any l.toArray listed := by
          unfold Region.ready
          simp only [List.mem_filter, List.size_toArray, List.mem_range, Bool.and_eq_true, Bool.not_eq_true']
          refine ⟨hkl, by rw [hl k hkl]; simp, ?_⟩
          rw [List.getElem?_toArray, List.getElem?_eq_getElem hkl]
          simp only [Option.map_some, Option.getD_some]
          rw [← Array.all_toList, List.all_eq_true]
          intro e he
          by_cases hbd : Region.binds .any e = true
          · have := hbk k l[k] (List.getElem?_eq_getElem hkl) e he hbd
            have h9 := hl e.on (by omega)
            rw [hbd]
            simp only [Bool.not_true, Bool.false_or]
            rw [Array.getD_eq_getD_getElem?] at h9 ⊢
            have : e.on < listed.size := by omega
            rw [Array.getElem?_eq_getElem this] at h9 ⊢
            simp only [Option.getD_some] at h9 ⊢
            rw [h9]; simp; omega
          · simp [hbd]
        rw [hnil] at this; cases this
      · obtain rfl := hready i hi
        unfold wpOpIn
        rw [List.getElem?_toArray, List.getElem?_eq_getElem hkl]
        simp only
        have hdrop : l.drop i = l[i] :: l.drop (i + 1) := by rw [List.drop_eq_getElem_cons hkl]
        rw [hdrop] at hw
        simp only [wpListIn] at hw
        have step : ∀ a w, wpListIn (FR x.r) 0 x.P l.toArray Q (l.drop (i + 1)) a w → wpAnyIn (FR x.r) 0 x.P .any l.toArray Q fuel (listed.setIfInBounds i true) a w := by
          intro a w h
          refine ih (i + 1) _ a w (by simpa using hsz) (by omega) (by omega) ?_ h
          intro j hj
          rw [Array.getD_eq_getD_getElem?, Array.getElem?_setIfInBounds]
          by_cases e : i = j
          · subst e; simp [hsz, hj]
          · simp only [e, if_false]
            rw [← Array.getD_eq_getD_getElem?, hl j hj]
            simp; omega
        split
        · rename_i hwt; rw [if_pos hwt] at hw; exact Oper.wpIn_mono step hw
        · rename_i hwt; rw [if_neg hwt] at hw; exact ⟨hw.1, step _ _ hw.2⟩
  -- the quiet ones, in whatever order
  have main : ∀ fuel (listed : Array Bool) (c : Nat → Value) I a w, listed.size = l.length → (fuel = (l.length - s) + ((List.range s).filter fun j => !listed.getD j true).length) →
      (∀ j, s ≤ j → j < l.length → listed.getD j true = false) → (∀ j, j < s → listed.getD j true = true → ∀ k, ((Region.before l.toArray).getD j 0).testBit k = true → listed.getD k true = true) →
      (∀ φ ∈ Φ, φ.p I) → (∀ j, j < s → listed.getD j true = true → ∀ φ ∈ kfac ks c j, φ.p I) → a.tmps.size = x.N → a.defers = x.ds → (∀ t v, look L t = some v → a.tmps[t]? = some v) →
      (∀ j, j < s → listed.getD j true = true → a.tmps[dstOf l j]? = some (kval ks c j)) → Wd x.E I M w → wpAnyIn (FR x.r) 0 x.P .any l.toArray Q fuel listed a w := by
    intro fuel
    induction fuel with
    | zero =>
      intro listed c I a w hsz hf hnt hcl hpΦ hpf hN hds hL hv hw
      have hsl : l.length = s := by omega
      have hlist : ∀ j, j < s → listed.getD j true = true := by
        intro j hj
        cases hx : listed.getD j true with
        | true => rfl
        | false =>
          have hm : j ∈ (List.range s).filter fun j => !listed.getD j true := List.mem_filter.2 ⟨List.mem_range.2 hj, by rw [hx]; rfl⟩
          have := List.length_pos_of_mem hm
          omega
      refine tail 0 s listed a w hsz (Nat.le_refl _) (by omega) (fun j hj => ?_) ?_
      · rw [hlist j (by omega)]; simp; omega
      · refine hrest c I a w ?_ ⟨hN, ?_, hds⟩ hw
        · intro φ hφ
          rcases mem_ancF.1 hφ with ⟨j, hj, hφ⟩ | hφ
          · have hjs : j < s := by simpa using List.all_eq_true.1 hlive j hj
            exact hpf j hjs (hlist j hjs) φ hφ
          · exact hpΦ φ hφ
        · intro t v hlk
          rcases look_ancE hlk with ⟨j, hj, rfl, rfl⟩ | hlk
          · have hjs : j < s := by simpa using List.all_eq_true.1 hlive j hj
            exact hv j hjs (hlist j hjs)
          · exact hL t v hlk
    | succ fuel ih =>
      intro listed c I a w hsz hf hnt hcl hpΦ hpf hN hds hL hv hw
      by_cases hall : ∀ j, j < s → listed.getD j true = true
      · -- all quiet ones have come: the tail
        have hz : ((List.range s).filter fun j => !listed.getD j true).length = 0 := by
          rw [List.length_eq_zero_iff, List.filter_eq_nil_iff]
          intro j hj
          simp [hall j (by simpa using hj)]
        refine tail (fuel + 1) s listed a w hsz (Nat.le_refl _) (by omega) (fun j hj => ?_) ?_
        · rcases Nat.lt_or_ge j s with h | h
          · rw [hall j h]; simp [h]
          · rw [hnt j h hj]; simp; omega
        · refine hrest c I a w ?_ ⟨hN, ?_, hds⟩ hw
          · intro φ hφ
            rcases mem_ancF.1 hφ with ⟨j, hj, hφ⟩ | hφ
            · have hjs : j < s := by simpa using List.all_eq_true.1 hlive j hj
              exact hpf j hjs (hall j hjs) φ hφ
            · exact hpΦ φ hφ
          · intro t v hlk
            rcases look_ancE hlk with ⟨j, hj, rfl, rfl⟩ | hlk
            · have hjs : j < s := by simpa using List.all_eq_true.1 hlive j hj
              exact hv j hjs (hall j hjs)
            · exact hL t v hlk
      · -- some quiet one is left
        obtain ⟨m, hm, hmin⟩ : ∃ m, (m < s ∧ listed.getD m true = false) ∧ ∀ j, j < m → ¬ (j < s ∧ listed.getD j true = false) := by
          have : ∃ m, m < s ∧ listed.getD m true = false := by
            apply Classical.byContradiction
            intro hc
            refine hall fun j hj => ?_
            cases hx : listed.getD j true with
            | true => rfl
            | false => exact absurd ⟨j, hj, hx⟩ hc
          have := least_spec this
          exact ⟨_, this.1, fun j hj hx => (by have := this.2 j hx; omega)⟩
        have getD_tf : ∀ k, k < l.length → listed.getD k false = listed.getD k true := fun k hk => by
          have : k < listed.size := by omega
          simp [Array.getD_eq_getD_getElem?, Array.getElem?_eq_getElem this]
        have hmready : m ∈ Region.ready .any l.toArray listed := by
          have hml : m < l.length := by omega
          unfold Region.ready
          simp only [List.mem_filter, List.size_toArray, List.mem_range, Bool.and_eq_true, Bool.not_eq_true']
          refine ⟨hml, hm.2, ?_⟩
          rw [List.getElem?_toArray, List.getElem?_eq_getElem hml]
          simp only [Option.map_some, Option.getD_some]
          rw [← Array.all_toList, List.all_eq_true]
          intro e he
          by_cases hbd : Region.binds .any e = true
          · have hlt := hbk m l[m] (List.getElem?_eq_getElem hml) e he hbd
            rw [hbd, getD_tf e.on (by omega)]
            simp only [Bool.not_true, Bool.false_or]
            cases hx : listed.getD e.on true with
            | true => rfl
            | false => exact absurd ⟨by omega, hx⟩ (hmin e.on hlt)
          · simp [hbd]
        refine ⟨fun hnil => (by rw [hnil] at hmready; cases hmready), fun i hi => ?_⟩
        have hi0 := hi
        unfold Region.ready at hi
        simp only [List.mem_filter, List.size_toArray, List.mem_range, Bool.and_eq_true, Bool.not_eq_true'] at hi
        obtain ⟨hil, hni, hed⟩ := hi
        have hed' : ∀ e ∈ l[i].after.toList, Region.binds .any e = true → listed.getD e.on true = true := by
          intro e he hbd
          rw [List.getElem?_toArray, List.getElem?_eq_getElem hil] at hed
          simp only [Option.map_some, Option.getD_some] at hed
          rw [← Array.all_toList, List.all_eq_true] at hed
          have h7 := hed e he
          rw [hbd] at h7
          have hlt := hbk i l[i] (List.getElem?_eq_getElem hil) e he hbd
          rw [← getD_tf e.on (by omega)]
          simpa using h7
        have hancl : ∀ k, ((Region.before l.toArray).getD i 0).testBit k = true → listed.getD k true = true := by
          intro k hk
          obtain ⟨e, he, hbd, h⟩ := (before_at l i l[i] (List.getElem?_eq_getElem hil) hbk k).1 hk
          have hlt := hbk i l[i] (List.getElem?_eq_getElem hil) e he hbd
          have hel := hed' e he hbd
          rcases h with h | h
          · rw [← h]; exact hel
          · refine hcl e.on ?_ hel k h
            rcases Nat.lt_or_ge e.on s with h | h
            · exact h
            · rw [hnt e.on h (by omega)] at hel; cases hel
        have his : i < s := by
          rcases Nat.lt_or_ge i s with h | h
          · exact h
          · exfalso
            have := hancl m (htail i hil h m (by omega))
            rw [hm.2] at this; cases this
        -- the operation itself
        let js := (List.range s).filter fun j => listed.getD j true
        have hjs : ∀ j, j ∈ js ↔ j < s ∧ listed.getD j true = true := by intro j; simp [js]
        have hq := hops.at (Nat.zero_le i) (by omega) c undef (js.flatMap (kfac ks c)) (ancE l ks c js []) (wpAnyIn (FR x.r) 0 x.P .any l.toArray Q fuel (listed.setIfInBounds i true))
        have hmemΦr : ∀ φ, φ ∈ js.flatMap (kfac ks c) → ∃ j, j < s ∧ listed.getD j true = true ∧ φ ∈ kfac ks c j := by
          intro φ hφ
          obtain ⟨j, hj, hφ⟩ := List.mem_flatMap.1 hφ
          exact ⟨j, ((hjs j).1 hj).1, ((hjs j).1 hj).2, hφ⟩
        have hasl : ∀ j ∈ as.getD i [], j < s ∧ listed.getD j true = true := fun j hj => by
          have h1 := has i his j hj
          exact ⟨(by have := hanc_lt i j hil h1; omega), hancl j h1⟩
        have hdd := hdst i his
        obtain ⟨d, o, ho, hod, hdo, hdk, _⟩ := hdd
        have hrun : wpOpIn (FR x.r) 0 x.P l.toArray Q i (wpAnyIn (FR x.r) 0 x.P .any l.toArray Q fuel (listed.setIfInBounds i true)) a w ↔ opRun x l.toArray Q (l.getD i default) (wpAnyIn (FR x.r) 0 x.P .any l.toArray Q fuel (listed.setIfInBounds i true)) a w := by
          unfold wpOpIn opRun
          rw [List.getElem?_toArray, List.getElem?_eq_getElem hil, List.getD_eq_getElem?_getD, List.getElem?_eq_getElem hil]
          exact Iff.rfl
        rw [hrun]
        refine hq ?_ I a w ?_ ⟨hN, ?_, hds⟩ hw
        · intro z I' a' w' hp' hk' hw'
          have hloci := hloc.at (Nat.zero_le i) (by omega)
          let c' : Nat → Value := fun k => if k = i then z else c k
          have hc'i : c' i = z := by simp [c']
          have hc'j : ∀ j, j ≠ i → c' j = c j := fun j hj => by simp [c', hj]
          have hli := hloci c c' z (fun j hj => (hc'j j (fun e => by subst e; have := hanc_lt j j hil hj; omega)).symm)
          have hvi : kval ks c' i = (ks.getD i default).val c z := by simp only [kval, hc'i]; exact hli.1.symm
          have hfi : kfac ks c' i = (ks.getD i default).facts c z := by simp only [kfac, hc'i]; exact hli.2.symm
          have hoth : ∀ j, j < s → listed.getD j true = true → j ≠ i ∧ kval ks c' j = kval ks c j ∧ kfac ks c' j = kfac ks c j := by
            intro j hj hjl
            have hne : j ≠ i := fun e => by subst e; rw [hni] at hjl; cases hjl
            have := hloc.at (Nat.zero_le j) (by omega) c c' (c j) (fun k hk => (hc'j k (fun e => by
              subst e
              have := hcl j hj hjl k hk
              rw [hni] at this; cases this)).symm)
            refine ⟨hne, ?_, ?_⟩
            · simp only [kval, hc'j j hne]; exact this.1.symm
            · simp only [kfac, hc'j j hne]; exact this.2.symm
          have hl' : ∀ j, (listed.setIfInBounds i true).getD j true = true → j = i ∨ listed.getD j true = true := by
            intro j h
            by_cases e : j = i
            · exact .inl e
            · rw [Array.getD_eq_getD_getElem?, Array.getElem?_setIfInBounds_ne (Ne.symm e), ← Array.getD_eq_getD_getElem?] at h; exact .inr h
          have hl'' : ∀ j, listed.getD j true = true → (listed.setIfInBounds i true).getD j true = true := by
            intro j h
            by_cases e : j = i
            · subst e; simp [Array.getD_eq_getD_getElem?, Array.getElem?_setIfInBounds_self]; split <;> rfl
            · rw [Array.getD_eq_getD_getElem?, Array.getElem?_setIfInBounds_ne (Ne.symm e), ← Array.getD_eq_getD_getElem?]; exact h
          refine ih (listed.setIfInBounds i true) c' I' a' w' (by simpa using hsz) ?_ ?_ ?_ ?_ ?_ hk'.sz hk'.df ?_ ?_ hw'
          · have := filter_less (l := List.range s) (p := fun j => !listed.getD j true) (q := fun j => !(listed.setIfInBounds i true).getD j true) (i := i) List.nodup_range (by simp [his]) (by simp [hni]) (fun j => by
              by_cases e : j = i
              · subst e; simp [Array.getD_eq_getD_getElem?, Array.getElem?_setIfInBounds_self]; split <;> rfl
              · rw [Array.getD_eq_getD_getElem?, Array.getElem?_setIfInBounds_ne (Ne.symm e), ← Array.getD_eq_getD_getElem?]; simp [e])
            omega
          · intro j hj hjl
            rw [Array.getD_eq_getD_getElem?, Array.getElem?_setIfInBounds_ne (by omega), ← Array.getD_eq_getD_getElem?]; exact hnt j hj hjl
          · intro j hj hjl k hk
            rcases hl' j hjl with rfl | hjl
            · exact hl'' k (hancl k hk)
            · exact hl'' k (hcl j hj hjl k hk)
          · intro φ hφ
            exact hp' φ (List.mem_append_right _ (mem_ancF.2 (.inr (List.mem_append_left _ hφ))))
          · intro j hj hjl φ hφ
            rcases hl' j hjl with rfl | hjl
            · rw [hfi] at hφ; exact hp' φ (List.mem_append_left _ hφ)
            · rw [(hoth j hj hjl).2.2] at hφ
              exact hp' φ (List.mem_append_right _ (mem_ancF.2 (.inr (List.mem_append_right _ (List.mem_flatMap.2 ⟨j, (hjs j).2 ⟨hj, hjl⟩, hφ⟩)))))
          · intro t v hlk
            refine hk'.val t v ?_
            have htk := look_keys hlk
            have hnd : ∀ j, j < s → dstOf l j ≠ t := fun j hj e => by
              obtain ⟨d', o', _, _, e1, hk1, _⟩ := hdst j hj
              exact hk1 (by rw [← e1, e]; exact htk)
            rw [look_cons_ne (hnd i his), look_ancE_not fun j hj => hnd j (hasl j hj).1]
            exact look_append_l hlk
          · intro j hj hjl
            rcases hl' j hjl with rfl | hjl
            · rw [hvi]; refine hk'.val _ _ ?_
              exact look_cons_eq
            · rw [(hoth j hj hjl).2.1]
              refine hk'.val _ _ ?_
              rw [look_cons_ne (hdne i j his hj (Ne.symm (hoth j hj hjl).1))]
              refine look_ancE_is (fun k hk e => ?_) (.inr ?_)
              · apply Classical.byContradiction
                intro hne
                exact hdne k j (hasl k hk).1 hj hne e
              · obtain ⟨d', o', _, _, e1, hk1, _⟩ := hdst j hj
                rw [look_append_r (by rw [e1]; exact hk1)]
                refine look_ancE_is (fun k hk e => ?_) (.inl ((hjs j).2 ⟨hj, hjl⟩))
                apply Classical.byContradiction
                intro hne
                exact hdne k j ((hjs k).1 hk).1 hj hne e
        · intro φ hφ
          rcases mem_ancF.1 hφ with ⟨j, hj, hφ⟩ | hφ
          · exact hpf j (hasl j hj).1 (hasl j hj).2 φ hφ
          · rcases List.mem_append.1 hφ with hφ | hφ
            · exact hpΦ φ hφ
            · obtain ⟨j, h1, h2, h3⟩ := hmemΦr φ hφ
              exact hpf j h1 h2 φ h3
        · intro t v hlk
          rcases look_ancE hlk with ⟨j, hj, rfl, rfl⟩ | hlk
          · exact hv j (hasl j hj).1 (hasl j hj).2
          · rcases look_append hlk with hlk | hlk
            · exact hL t v hlk
            · rcases look_ancE hlk with ⟨j, hj, rfl, rfl⟩ | hlk
              · exact hv j ((hjs j).1 hj).1 ((hjs j).1 hj).2
              · cases hlk
  intro I a w hp hk hw
  refine wpIn_region_any hm ?_
  refine main l.toArray.size _ (fun _ => undef) I a _ (by simp) ?_ ?_ ?_ hp ?_ hk.sz hk.df hk.val ?_ hw.drew
  · have : ((List.range s).filter fun j => !(Array.replicate l.toArray.size false).getD j true) = List.range s := by
      rw [List.filter_eq_self]
      intro j hj
      have : j < l.length := by have := List.mem_range.1 hj; omega
      simp [this]
    rw [this]; simp; omega
  · intro j _ hj; simp [hj]
  · intro j hj h; simp [show j < l.length from by omega] at h
  · intro j hj h; simp [show j < l.length from by omega] at h
  · intro j hj h; simp [show j < l.length from by omega] at h
end
end Go.Rail
