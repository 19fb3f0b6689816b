/- The program's data as Lean has it: words, addresses, keys, sets. -/
import Derived.Test.YtoiepfapghnccaaRailLit
set_option linter.unusedSimpArgs false
set_option linter.unusedVariables false
namespace Go.Rail
open Go

/-! ### Words: four parts of 64 bits, the lowest one first -/
structure Word where
  a : UInt64
  b : UInt64
  c : UInt64
  d : UInt64
instance : DecidableEq Word := fun x y => decidable_of_iff (x.a = y.a ∧ x.b = y.b ∧ x.c = y.c ∧ x.d = y.d) ⟨fun h => by cases x; cases y; simp_all, fun h => by simp [h]⟩
def Word.parts (w : Word) : List UInt64 := [w.a, w.b, w.c, w.d]
def Word.cells (w : Word) : List Value := [.int .u64 w.a.toNat, .int .u64 w.b.toNat, .int .u64 w.c.toNat, .int .u64 w.d.toNat]
def Word.v (w : Word) : Value := .agg w.cells.toArray
instance : GoTy Word where
  sz := 4
  agg := true
  rep := fun _ cs w => cs = w.cells
  mono := fun _ h => h
  len := fun h => by rw [h]; rfl
  one := fun h => by rw [h]; rfl
  agg1 := fun h => by cases h
instance : GoFlat Word where
  enc := Word.cells
  val := Word.v
  rep_iff := Iff.rfl
  val_eq := fun _ => rfl
def Word.zero : Word := ⟨0, 0, 0, 0⟩

/-! ### Addresses: twenty bytes -/
structure Addr20 where
  b : List UInt8
  h : b.length = 20
instance : DecidableEq Addr20 := fun x y => decidable_of_iff (x.b = y.b) ⟨fun h => by cases x; cases y; simp_all, fun h => by simp [h]⟩
def Addr20.cells (a : Addr20) : List Value := a.b.map fun x => .int .u8 x.toNat
def Addr20.v (a : Addr20) : Value := .agg a.cells.toArray
theorem Addr20.cells_length (a : Addr20) : a.cells.length = 20 := by simp [Addr20.cells, a.h]
theorem Addr20.cells_one (a : Addr20) : ones a.cells = true := by simp [Addr20.cells, ones, Value.oneCell']
def Addr20.zero : Addr20 := ⟨List.replicate 20 0, rfl⟩
instance : GoTy Addr20 where
  sz := 20
  agg := true
  rep := fun _ cs a => cs = a.cells
  mono := fun _ h => h
  len := fun h => by rw [h]; exact Addr20.cells_length _
  one := fun h => by rw [h]; exact Addr20.cells_one _
  agg1 := fun h => by cases h
instance : GoFlat Addr20 where
  enc := Addr20.cells
  val := Addr20.v
  rep_iff := Iff.rfl
  val_eq := fun _ => rfl

/-! ### Keys -/
structure Key where
  at_ : Addr20
  slot : Bool
  key : Word
instance : DecidableEq Key := fun x y => decidable_of_iff (x.at_ = y.at_ ∧ x.slot = y.slot ∧ x.key = y.key) ⟨fun h => by cases x; cases y; simp_all, fun h => by simp [h]⟩
def Key.cells (k : Key) : List Value := k.at_.cells ++ (.bool k.slot :: k.key.cells)
def Key.v (k : Key) : Value := .agg k.cells.toArray
theorem Key.cells_length (k : Key) : k.cells.length = 25 := by simp [Key.cells, Addr20.cells_length, Word.cells]
theorem Key.cells_one (k : Key) : ones k.cells = true := by
  have := Addr20.cells_one k.at_
  simp only [ones, Key.cells, List.all_append, Bool.and_eq_true] at this ⊢
  exact ⟨this, rfl⟩
instance : GoTy Key where
  sz := 25
  agg := true
  rep := fun _ cs a => cs = a.cells
  mono := fun _ h => h
  len := fun h => by rw [h]; exact Key.cells_length _
  one := fun h => by rw [h]; exact Key.cells_one _
  agg1 := fun h => by cases h
instance : GoFlat Key where
  enc := Key.cells
  val := Key.v
  rep_iff := Iff.rfl
  val_eq := fun _ => rfl
instance (k : Key) : ValOf k k.v := ⟨rfl⟩
instance (k : Word) : ValOf k k.v := ⟨rfl⟩
instance (k : Addr20) : ValOf k k.v := ⟨rfl⟩
theorem Key.cells_at (k : Key) : (k.cells.drop 0).take 20 = k.at_.cells := by
  rw [List.drop_zero, Key.cells, List.take_append_of_le_length (by simp [Addr20.cells_length]), List.take_of_length_le (by simp [Addr20.cells_length])]
theorem Key.cells_slot (k : Key) : k.cells[20]? = some (.bool k.slot) := by
  rw [Key.cells, List.getElem?_append_right (by simp [Addr20.cells_length]), Addr20.cells_length]; rfl
theorem Key.cells_key (k : Key) : (k.cells.drop 21).take 4 = k.key.cells := by
  rw [Key.cells, show (21 : Nat) = k.at_.cells.length + 1 from by rw [Addr20.cells_length], ← List.drop_drop, List.drop_left]; rfl
theorem Key.cells_all (k : Key) : (k.cells.drop 0).take 25 = k.cells := by rw [List.drop_zero, List.take_of_length_le (by rw [Key.cells_length]; omega)]
theorem Key.le_all (k : Key) : 0 + 25 ≤ k.cells.length := by rw [Key.cells_length]; omega
theorem Key.le_key (k : Key) : 0 + 21 + 4 ≤ k.cells.length := by rw [Key.cells_length]; omega
theorem Key.le_at (k : Key) : 0 + 0 + 20 ≤ k.cells.length := by rw [Key.cells_length]; omega
theorem Word.cells_all (k : Word) : (k.cells.drop 0).take 4 = k.cells := rfl
theorem Addr20.cells_all (k : Addr20) : (k.cells.drop 0).take 20 = k.cells := by rw [List.drop_zero, List.take_of_length_le (by rw [Addr20.cells_length]; omega)]
instance : PartOf (α := Key) (β := Addr20) 0 Key.at_ where
  le := by decide
  h := fun I cs z h => by rw [show cs = z.cells from h]; exact Key.cells_at z
instance : PartOf (α := Key) (β := Bool) 20 Key.slot where
  le := by decide
  h := fun I cs z h => by
    rw [show cs = z.cells from h]
    show (z.cells.drop 20).take 1 = [.bool z.slot]
    rw [List.take_one, List.head?_drop, Key.cells_slot]; rfl
instance : PartOf (α := Key) (β := Word) 21 Key.key where
  le := by decide
  h := fun I cs z h => by rw [show cs = z.cells from h]; exact Key.cells_key z

/-! ### Sets -/
structure Sets where
  reads : List Key
  writes : List Key
instance : GoTy Sets where
  sz := 2
  agg := true
  rep := fun I cs s => ∃ r w, cs = [r, w] ∧ Rp I r s.reads ∧ Rp I w s.writes
  mono := fun hl h => by obtain ⟨r, w, e, h1, h2⟩ := h; exact ⟨r, w, e, h1.mono hl, h2.mono hl⟩
  len := fun h => by obtain ⟨r, w, e, h1, h2⟩ := h; rw [e]; rfl
  one := fun h => by
    obtain ⟨r, w, e, h1, h2⟩ := h
    obtain ⟨_, _, rfl, _⟩ := h1.slice
    obtain ⟨_, _, rfl, _⟩ := h2.slice
    rw [e]; rfl
  agg1 := fun h => by cases h
instance : PartOf (α := Sets) (β := List Key) 0 Sets.reads where
  le := by decide
  h := fun I cs z h => by
    obtain ⟨r, w, e, h1, h2⟩ := h
    rw [e]
    obtain ⟨a, cap, rfl, hs⟩ := h1.slice
    exact ⟨a, cap, rfl, hs⟩
instance : PartOf (α := Sets) (β := List Key) 1 Sets.writes where
  le := by decide
  h := fun I cs z h => by
    obtain ⟨r, w, e, h1, h2⟩ := h
    rw [e]
    obtain ⟨a, cap, rfl, hs⟩ := h2.slice
    exact ⟨a, cap, rfl, hs⟩
theorem Rp.sets {I : Imm} {v : Value} {s : Sets} (h : Rp I v s) : ∃ r w, v = .agg #[r, w] ∧ Rp I r s.reads ∧ Rp I w s.writes := by
  obtain ⟨cs, rfl, r, w, rfl, h1, h2⟩ := h
  exact ⟨r, w, rfl, h1, h2⟩
theorem Rp.mkSets {I : Imm} {r w : Value} {s : Sets} (h1 : Rp I r s.reads) (h2 : Rp I w s.writes) : Rp I (.agg #[r, w]) s := ⟨[r, w], rfl, r, w, rfl, h1, h2⟩
instance Ent'.sets {Φ : List Fa} {r w : Value} {s : Sets} [a : Ent' Φ (fRp r s.reads)] [b : Ent' Φ (fRp w s.writes)] : Ent' Φ (fRp (.agg #[r, w]) s) := ⟨fun I hp => Rp.mkSets (a.h I hp) (b.h I hp)⟩
section
variable {x : Cx} {Φ : List Fa} {L : Env} {M : Own}
/-- Sets, laid open. -/
theorem G.sets {F : Act → World → Prop} (v : Value) (s : Sets) [k : Ent' Φ (fRp v s)] (h : ∀ r w, v = .agg #[r, w] → G x (fRp r s.reads :: fRp w s.writes :: Φ) L M F) : G x Φ L M F := by
  intro I a w hp hk hw
  obtain ⟨r, u, e, h1, h2⟩ := Rp.sets (k.h I hp)
  refine h r u e I a w (fun φ hφ => ?_) hk hw
  rcases List.mem_cons.1 hφ with rfl | hφ
  · exact h1
  · rcases List.mem_cons.1 hφ with rfl | hφ
    · exact h2
    · exact hp φ hφ
end
end Go.Rail
