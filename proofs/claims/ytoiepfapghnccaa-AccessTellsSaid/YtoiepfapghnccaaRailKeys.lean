/- Plain: raw numbers, words, addresses and keys made of them; the order of keys. -/
import Derived.Test.YtoiepfapghnccaaRailTypes
set_option linter.unusedSimpArgs false
set_option linter.unusedVariables false
namespace Go.Rail
open Go

def u64 (n : Int) : UInt64 := UInt64.ofNat (n % 18446744073709551616).toNat
theorem u64_toNat (n : Int) : ((u64 n).toNat : Int) = n % 18446744073709551616 := by
  have h : (n % 18446744073709551616).toNat < 18446744073709551616 := by omega
  simp only [u64, UInt64.toNat_ofNat']
  rw [Nat.mod_eq_of_lt h]; omega
theorem u64_wrap (n : Int) : Value.int .u64 (IntKind.u64.wrap n) = .int .u64 (u64 n).toNat := by
  rw [u64_toNat]; simp [IntKind.wrap, IntKind.signed, IntKind.bits]
def u8 (n : Int) : UInt8 := UInt8.ofNat (n % 256).toNat
theorem u8_toNat (n : Int) : ((u8 n).toNat : Int) = n % 256 := by
  have h : (n % 256).toNat < 256 := by omega
  simp only [u8, UInt8.toNat_ofNat']
  rw [Nat.mod_eq_of_lt h]; omega
theorem u8_wrap (n : Int) : Value.int .u8 (IntKind.u8.wrap n) = .int .u8 (u8 n).toNat := by
  rw [u8_toNat]; simp [IntKind.wrap, IntKind.signed, IntKind.bits]

def pickI (c n : Int) : Int := (if c < 0 then -(c + 1) else c).tmod n
theorem pickI_nn (c n : Int) (hn : 0 < n) : 0 ≤ pickI c n ∧ pickI c n < n := by
  unfold pickI
  have h : 0 ≤ (if c < 0 then -(c + 1) else c) := by split <;> omega
  exact ⟨Int.tmod_nonneg _ h, Int.tmod_lt_of_pos _ hn⟩

def Word.of (n : Int) : Word := if n < 0 then ⟨u64 n, 18446744073709551615, 18446744073709551615, 18446744073709551615⟩ else ⟨u64 n, 0, 0, 0⟩
def Addr20.of (n : Int) : Addr20 := ⟨(if 5 < pickI n 9 then 1 else 0) :: List.replicate 18 0 ++ [u8 (pickI n 9)], by simp⟩
def Key.of (a b : Int) : Key := if pickI b 5 = 0 then ⟨Addr20.of a, false, Word.zero⟩ else ⟨Addr20.of a, true, Word.of (pickI b 5 - 1)⟩

/-- Lists in the order of their first unlike numbers. -/
def lexN : List Nat → List Nat → Int
  | [], [] => 0
  | [], _ :: _ => -1
  | _ :: _, [] => 1
  | a :: l, b :: m => if a < b then -1 else if b < a then 1 else lexN l m
theorem lexN_self : ∀ l, lexN l l = 0
  | [] => rfl
  | a :: l => by simp [lexN, lexN_self l]
theorem lexN_range : ∀ l m, lexN l m = -1 ∨ lexN l m = 0 ∨ lexN l m = 1
  | [], [] => by simp [lexN]
  | [], _ :: _ => by simp [lexN]
  | _ :: _, [] => by simp [lexN]
  | a :: l, b :: m => by
    simp only [lexN]
    split
    · simp
    · split
      · simp
      · exact lexN_range l m
theorem lexN_eq : ∀ {l m}, lexN l m = 0 → l = m
  | [], [], _ => rfl
  | [], _ :: _, h => by simp [lexN] at h
  | _ :: _, [], h => by simp [lexN] at h
  | a :: l, b :: m, h => by
    simp only [lexN] at h
    split at h
    · omega
    · split at h
      · omega
      · have : a = b := by omega
        rw [this, lexN_eq h]
theorem lexN_anti : ∀ l m, lexN m l = - lexN l m
  | [], [] => rfl
  | [], _ :: _ => rfl
  | _ :: _, [] => rfl
  | a :: l, b :: m => by
    simp only [lexN]
    rcases Nat.lt_trichotomy a b with h | h | h
    · rw [if_neg (by omega), if_pos h, if_pos h]; rfl
    · subst h; simp [lexN_anti l m]
    · rw [if_pos h, if_neg (by omega), if_pos h]
theorem lexN_trans : ∀ {l m k}, lexN l m < 0 → lexN m k < 0 → lexN l k < 0
  | [], _, [], h1, h2 => by
    rename_i m; cases m <;> simp [lexN] at h1 h2
  | [], _, _ :: _, _, _ => by simp [lexN]
  | _ :: _, [], _, h1, _ => by simp [lexN] at h1
  | _ :: _, _ :: _, [], _, h2 => by simp [lexN] at h2
  | a :: l, b :: m, c :: k, h1, h2 => by
    simp only [lexN] at *
    by_cases e1 : a < b
    · by_cases e2 : b < c
      · rw [if_pos (by omega)]; omega
      · by_cases e3 : c < b
        · rw [if_neg e2, if_pos e3] at h2; omega
        · rw [if_pos (by omega)]; omega
    · by_cases e1' : b < a
      · rw [if_neg e1, if_pos e1'] at h1; omega
      · have : a = b := by omega
        subst this
        by_cases e2 : a < c
        · rw [if_pos e2]; omega
        · by_cases e3 : c < a
          · rw [if_neg e2, if_pos e3] at h2; omega
          · rw [if_neg e2, if_neg e3] at h2 ⊢
            rw [if_neg e1, if_neg e1'] at h1
            exact lexN_trans h1 h2
theorem lexN_append : ∀ (l m l' m' : List Nat), l.length = m.length → lexN (l ++ l') (m ++ m') = if lexN l m = 0 then lexN l' m' else lexN l m
  | [], [], l', m', _ => by simp [lexN]
  | a :: l, b :: m, l', m', h => by
    simp only [List.cons_append, lexN]
    rw [lexN_append l m l' m' (by simpa using h)]
    split
    · simp
    · split <;> simp
  | [], _ :: _, _, _, h => by simp at h
  | _ :: _, [], _, _, h => by simp at h

/-! ### The code of a key: a list of numbers that orders it -/
def Word.code (w : Word) : List Nat := [w.d.toNat, w.c.toNat, w.b.toNat, w.a.toNat]
def Addr20.code (a : Addr20) : List Nat := a.b.map UInt8.toNat
def kindI (k : Key) : Int := if k.slot then 1 else 0
def Key.code (k : Key) : List Nat := k.at_.code ++ ((if k.slot then 1 else 0) :: k.key.code)
def cmpW (x y : Word) : Int := lexN x.code y.code
def cmpA (x y : Addr20) : Int := lexN x.code y.code
def cmpK (x y : Key) : Int := lexN x.code y.code
theorem Word.code_inj {x y : Word} (h : x.code = y.code) : x = y := by
  cases x; cases y
  simp only [Word.code, List.cons.injEq, UInt64.toNat_inj, and_true] at h
  obtain ⟨h1, h2, h3, h4⟩ := h
  simp [h1, h2, h3, h4]
theorem Addr20.code_inj {x y : Addr20} (h : x.code = y.code) : x = y := by
  cases x with | mk x hx => cases y with | mk y hy =>
  have : x = y := by
    have := (List.map_inj_right (f := UInt8.toNat) (fun a b h => UInt8.toNat_inj.1 h)).1 h
    exact this
  subst this; rfl
theorem Addr20.code_length (x : Addr20) : x.code.length = 20 := by simp [Addr20.code, x.h]
theorem cmpK_eq (x y : Key) : cmpK x y = if cmpA x.at_ y.at_ ≠ 0 then cmpA x.at_ y.at_ else if x.slot = y.slot then cmpW x.key y.key else if y.slot then -1 else 1 := by
  unfold cmpK Key.code
  rw [lexN_append _ _ _ _ (by simp [Addr20.code_length])]
  unfold cmpA
  by_cases h : lexN x.at_.code y.at_.code = 0
  · simp only [h, if_true, ne_eq, not_true_eq_false, if_false, lexN]
    cases x.slot <;> cases y.slot <;> simp [cmpW]
  · simp [h]
theorem Key.code_inj {x y : Key} (h : x.code = y.code) : x = y := by
  have h0 : cmpK x y = 0 := by unfold cmpK; rw [h]; exact lexN_self _
  rw [cmpK_eq] at h0
  split at h0
  · contradiction
  · rename_i ha
    split at h0
    · rename_i hs
      have h1 := Addr20.code_inj (lexN_eq (Decidable.not_not.1 ha))
      have h2 := Word.code_inj (lexN_eq h0)
      cases x; cases y; simp_all
    · split at h0 <;> omega
theorem cmpK_self (x : Key) : cmpK x x = 0 := lexN_self _
theorem cmpK_zero {x y : Key} : cmpK x y = 0 ↔ x = y := ⟨fun h => Key.code_inj (lexN_eq h), fun h => by rw [h, cmpK_self]⟩
theorem cmpK_anti (x y : Key) : cmpK y x = - cmpK x y := lexN_anti _ _
theorem cmpK_range (x y : Key) : cmpK x y = -1 ∨ cmpK x y = 0 ∨ cmpK x y = 1 := lexN_range _ _
theorem cmpK_trans {x y z : Key} (h1 : cmpK x y < 0) (h2 : cmpK y z < 0) : cmpK x z < 0 := lexN_trans h1 h2

/-! ### Lists of keys -/
def mayK (k : Key) : Bool := k.slot || decide (k.key = Word.zero)
def ltK (a b : Key) : Prop := cmpK a b < 0
instance (a b : Key) : Decidable (ltK a b) := inferInstanceAs (Decidable (cmpK a b < 0))
theorem ltK_trans {a b c : Key} (h : ltK a b) (k : ltK b c) : ltK a c := cmpK_trans h k
def rightB (xs : List Key) : Bool := decide ((∀ k ∈ xs, mayK k = true) ∧ xs.Pairwise ltK ∧ xs.length ≤ 200)
def rightS (s : Sets) : Bool := rightB s.reads && rightB s.writes
theorem mem_take_succ {α : Type} {xs : List α} {i : Nat} {k : α} (hi : i < xs.length) : k ∈ xs.take (i + 1) ↔ k ∈ xs.take i ∨ xs[i] = k := by
  rw [List.take_succ_eq_append_getElem hi, List.mem_append, List.mem_singleton]
  exact or_congr_right ⟨fun h => h.symm, fun h => h.symm⟩
theorem asc_succ {xs : List Key} {i : Nat} (hi : i < xs.length) (h : (xs.take i).Pairwise ltK) (hs : 0 < i → ltK xs[i - 1] xs[i]) : (xs.take (i + 1)).Pairwise ltK := by
  rw [List.take_succ_eq_append_getElem hi, List.pairwise_append]
  refine ⟨h, List.pairwise_singleton _ _, ?_⟩
  intro a ha b hb
  rw [List.mem_singleton] at hb
  subst hb
  obtain ⟨j, hj, rfl⟩ := List.getElem_of_mem ha
  have hji : j < i := by simp at hj; omega
  have h0 := hs (by omega)
  rw [List.getElem_take]
  by_cases e : j = i - 1
  · subst e; exact h0
  · have := List.pairwise_iff_getElem.1 h j (i - 1) (by simp; omega) (by simp; omega) (by omega)
    simp only [List.getElem_take] at this
    exact ltK_trans this h0
theorem asc_at {xs : List Key} (h : xs.Pairwise ltK) {i : Nat} (hi : i < xs.length) (h0 : 0 < i) : ltK xs[i - 1] xs[i] := List.pairwise_iff_getElem.1 h (i - 1) i (by omega) hi (by omega)
/-- A list with a key laid in, as the document has it. -/
def putR (k : Key) : Bool → List Key → List Key
  | d, [] => if d then [] else [k]
  | d, a :: l => if cmpK k a = 0 then a :: putR k true l else if cmpK k a < 0 ∧ d = false then k :: a :: putR k true l else a :: putR k d l
def setK (xs : List Key) : List Key := xs.foldl (fun l k => putR k false l) []
theorem putR_length (k : Key) : ∀ (d : Bool) (xs : List Key), (putR k d xs).length ≤ xs.length + 1
  | d, [] => by cases d <;> simp [putR]
  | d, a :: l => by
    have h1 := putR_length k true l
    have h2 := putR_length k d l
    have h3 : ∀ (l : List Key), (putR k true l).length ≤ l.length := by
      intro l
      induction l with
      | nil => simp [putR]
      | cons a l ih => simp only [putR]; split <;> (try split) <;> simp_all
    have h3 := h3 l
    simp only [putR]
    split
    · simp; omega
    · split
      · simp; omega
      · simp; omega
theorem setK_length (xs : List Key) : (setK xs).length ≤ xs.length := by
  have : ∀ (xs acc : List Key), (xs.foldl (fun l k => putR k false l) acc).length ≤ acc.length + xs.length := by
    intro xs
    induction xs with
    | nil => intro acc; simp
    | cons a xs ih =>
      intro acc
      have := ih (putR a false acc)
      have := putR_length a false acc
      simp only [List.foldl_cons, List.length_cons]; omega
  simpa [setK] using this xs []
def inW (s : Sets) (k : Key) : Bool := decide (k ∈ s.writes)
def mayS (s : Sets) (k : Key) (w : Bool) : Bool := decide (k ∈ s.writes) || (!w && decide (k ∈ s.reads))
def oneS (l : List Key) (s : Sets) : Bool := decide (∃ k ∈ l, k ∈ s.reads ∨ k ∈ s.writes)
def clashS (a b : Sets) : Bool := oneS a.writes b || oneS b.writes a
def noSets : Sets := ⟨[], []⟩
/-- What making sets comes to: the sets, the error. -/
def makeS (r w : List Key) : Sets × Int :=
  if ¬ ((∀ k ∈ r, mayK k = true) ∧ (∀ k ∈ w, mayK k = true)) then (noSets, 1)
  else if 200 < (setK r).length ∨ 200 < (setK w).length then (noSets, 2)
  else (⟨setK r, setK w⟩, 0)
def joinS (a b : Sets) : Sets × Int := if rightS a && rightS b then makeS (a.reads ++ b.reads) (a.writes ++ b.writes) else (noSets, 1)

/-- Neighbours that are the same, but once. -/
def compactK : List Key → List Key
  | [] => []
  | [a] => [a]
  | a :: b :: l => if a = b then compactK (b :: l) else a :: compactK (b :: l)
theorem compactK_append (a : Key) : ∀ (l : List Key), compactK (l ++ [a]) = if l.getLast? = some a then compactK l else compactK l ++ [a]
  | [] => by simp [compactK]
  | [b] => by
    simp only [List.singleton_append, compactK, List.getLast?_singleton, Option.some.injEq]
    by_cases e : b = a <;> simp [e]
  | b :: c :: l => by
    have ih := compactK_append a (c :: l)
    simp only [List.cons_append, compactK] at ih ⊢
    rw [ih]
    have e1 : (b :: c :: l).getLast? = (c :: l).getLast? := by simp [List.getLast?_cons]
    rw [e1]
    by_cases e : b = c <;> by_cases h : (c :: l).getLast? = some a <;> simp [e, h]
theorem compactK_succ {xs : List Key} {m : Nat} (h0 : 0 < m) (hm : m < xs.length) : compactK (xs.take (m + 1)) = if xs[m - 1] = xs[m] then compactK (xs.take m) else compactK (xs.take m) ++ [xs[m]] := by
  rw [List.take_succ_eq_append_getElem hm, compactK_append]
  have e : (xs.take m).getLast? = some xs[m - 1] := by
    rw [List.getLast?_eq_getElem?, List.length_take, Nat.min_eq_left (by omega), List.getElem?_take, if_pos (by omega)]
    simp
  rw [e]; simp only [Option.some.injEq]

/-! ### Pairs of numbers; the elements of an array that lies unchanging -/
instance : GoTy (Int × Int) where
  sz := 2
  agg := true
  rep := fun _ cs p => cs = [.int .i64 p.1, .int .i64 p.2]
  mono := fun _ h => h
  len := fun h => by rw [h]; rfl
  one := fun h => by rw [h]; rfl
  agg1 := fun h => by cases h
instance : GoFlat (Int × Int) where
  enc := fun p => [.int .i64 p.1, .int .i64 p.2]
  val := fun p => .agg #[.int .i64 p.1, .int .i64 p.2]
  rep_iff := Iff.rfl
  val_eq := fun _ => rfl
instance (p : Int × Int) : ValOf p (.agg #[.int .i64 p.1, .int .i64 p.2]) := ⟨rfl⟩
instance : PartOf (α := Int × Int) (β := Int) 0 Prod.fst where
  le := by decide
  h := fun I cs z h => by rw [h]; rfl
instance : PartOf (α := Int × Int) (β := Int) 1 Prod.snd where
  le := by decide
  h := fun I cs z h => by rw [h]; rfl
section
variable {x : Cx} {Q : Exit → Act → World → Prop} {Φ : List Fa} {L : Env} {M : Own} {ops : Array Oper} {K : Act → World → Prop}
variable {d : Nat} {ty : TypeId} {pos : String} {af : Array Edge} {g : Option (Nat × Bool)}
/-- A call that hands back a datum with something beside it. -/
theorem o_callT {y : Operand} {args : List Operand} {vs cap : List Value} {ts : Array TypeId} {f : FuncId} {Φc : List Fa} {mk : Value → Value} {ψ : Value → Fa}
    (hdN : Nat.blt d x.N = true) (hg : gd ops L g = some true) (hy : ev L y = some (.func (.func f) #[] cap.toArray)) [hf : HasFn x.P f] (hargs : args.mapM (ev L) = some vs) (c : Fn x.P f (vs ++ cap) Φc [] (fun u Φ' M' => ∃ sv, u = mk sv ∧ Φ' = [ψ sv] ∧ M' = [])) [hΦ : Ents Φ Φc]
    (h : ∀ v, G x (ψ v :: Φ) ((d, mk v) :: L) M K) : OpK x ops Q ⟨some d, .call ⟨.value y, args.toArray, ts⟩, ty, pos, af, g⟩ Φ L M K :=
  OpK.call hdN hg hy hargs c hΦ (Mr := M) (by simp) (by rintro u Φ' Mc' ⟨sv, rfl, rfl, rfl⟩; exact h sv)
theorem o_indexP {α β : Type} [i : GoTy α] [j : GoTy β] {t e : TypeId} {y z : Operand} {n m off : Nat} {k : IntKind} {q : Int} {p : Value} {u : α} [ht : ArTy x.P t n e] [hs : Siz x.P e m] [kp : KPt Φ p u] (get : α → β) [po : PartOf (α := α) (β := β) off get] (hdN : Nat.blt d x.N = true) (hg : gd ops L g = some true) (hy : ev L y = some p) (hz : ev L z = some (.int k q)) (h0 : 0 ≤ q) (hq : q < n) (ho : q.toNat * m = off)
    (h : ∀ p', G x (fPt p' (get u) :: Φ) ((d, p') :: L) M K) : OpK x ops Q ⟨some d, .indexAddr t y z, ty, pos, af, g⟩ Φ L M K :=
  OpK.mem rfl hdN hg (by simp) (fun I a w hp hk hw => by
    obtain ⟨b, o, c, t', fr, rfl, hb, hle, hr⟩ := hp _ kp.h
    subst ho
    refine ⟨.pointer (some ⟨b, o + q.toNat * m, none⟩), w, fPt (.pointer (some ⟨b, o + q.toNat * m, none⟩)) (get u) :: Φ, M, I, ?_, ?_, hw, h _⟩
    · simp [execOp, Instr.indexAt, Instr.sureAddr, asIntOf, hk.eval hy, hk.eval hz, Sem.run_bind, Result.andThen, Sem.run_pure, run_underlying ht.h, hs.h, add_mk, h0, hq]
    · intro φ hφ
      rcases List.mem_cons.1 hφ with rfl | hφ
      · have hle' := po.le
        refine ⟨b, o + q.toNat * m, c, t', fr, rfl, hb, by omega, ?_⟩
        have := po.h I _ u hr
        rw [List.drop_take, List.drop_drop, List.take_take, Nat.min_eq_left (by omega)] at this
        exact this
      · exact hp φ hφ)
end
end Go.Rail
