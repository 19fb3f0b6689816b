/- Data in memory: how values read, by types; loads through pointers to what lies unchanging; slices. -/
import Derived.Test.YtoiepfapghnccaaRailMem
set_option linter.unusedSimpArgs false
set_option linter.unusedVariables false
namespace Go.Rail
open Go

/-- How the cells of a Go type read as data. -/
class GoTy (α : Type) where
  sz : Nat
  agg : Bool
  rep : Imm → List Value → α → Prop
  mono : ∀ {I J cs x}, Le I J → rep I cs x → rep J cs x
  len : ∀ {I cs x}, rep I cs x → cs.length = sz
  one : ∀ {I cs x}, rep I cs x → ones cs = true
  agg1 : agg = false → sz = 1

/-- The value of so many cells. -/
def mkv (agg : Bool) (cs : List Value) : Value := bif agg then .agg cs.toArray else cs.headD undef
theorem cellsL_mkv_agg (cs : List Value) : cellsL (mkv true cs) = cs := by simp [mkv, cellsL]
theorem cellsL_mkv {agg : Bool} {cs : List Value} (h1 : ones cs = true) (hl : agg = false → cs.length = 1) : cellsL (mkv agg cs) = cs := by
  cases agg with
  | true => exact cellsL_mkv_agg cs
  | false =>
    match cs, hl rfl with
    | [c], _ => cases c <;> simp_all [mkv, cellsL, ones, Value.oneCell']

def Rp {α : Type} [GoTy α] (I : Imm) (v : Value) (x : α) : Prop := ∃ cs, v = mkv (GoTy.agg α) cs ∧ GoTy.rep I cs x
theorem Rp.mono {α : Type} [GoTy α] {I J : Imm} {v : Value} {x : α} (hl : Le I J) (h : Rp I v x) : Rp J v x := by
  obtain ⟨cs, h1, h2⟩ := h; exact ⟨cs, h1, GoTy.mono hl h2⟩
theorem Rp.cells {α : Type} [GoTy α] {I : Imm} {v : Value} {x : α} (h : Rp I v x) : GoTy.rep I (cellsL v) x := by
  obtain ⟨cs, rfl, h2⟩ := h
  rw [cellsL_mkv (GoTy.one h2) (fun e => by rw [GoTy.len h2, GoTy.agg1 e])]
  exact h2

/-- A type that leads to no memory: one form for each value. -/
class GoFlat (α : Type) [GoTy α] where
  enc : α → List Value
  val : α → Value
  rep_iff : ∀ {I cs x}, GoTy.rep I cs x ↔ cs = enc x
  val_eq : ∀ x, val x = mkv (GoTy.agg α) (enc x)

/-! ### Facts -/
def fRp {α : Type} [GoTy α] (v : Value) (x : α) : Fa := ⟨v, fun I => Rp I v x, fun _ _ hl h => h.mono hl⟩
def fBlk (b : Nat) (cs : List Value) (t : TypeId) : Fa := ⟨.pointer (some ⟨b, 0, none⟩), fun I => I b = some (Ob cs t), fun _ _ hl h => hl _ _ h⟩
/-- A pointer to what lies unchanging and reads so. -/
def PtAt {α : Type} [GoTy α] (I : Imm) (p : Value) (x : α) : Prop :=
  ∃ b off c t fr, p = .pointer (some ⟨b, off, none⟩) ∧ I b = some (.cells c t fr) ∧ off + GoTy.sz α ≤ c.size ∧ GoTy.rep I ((c.toList.drop off).take (GoTy.sz α)) x
def fPt {α : Type} [GoTy α] (p : Value) (x : α) : Fa := ⟨p, fun I => PtAt I p x, fun I J hl h => by
  obtain ⟨b, off, c, t, fr, h1, h2, h3, h4⟩ := h; exact ⟨b, off, c, t, fr, h1, hl _ _ h2, h3, GoTy.mono hl h4⟩⟩

class KRp (Φ : List Fa) (v : Value) {α : outParam Type} [i : outParam (GoTy α)] (x : outParam α) : Prop where h : @fRp α i v x ∈ Φ
instance (priority := high) KRp.head {Φ : List Fa} {v : Value} {α : Type} [GoTy α] {x : α} : KRp (fRp v x :: Φ) v x := ⟨.head _⟩
instance KRp.tail {Φ : List Fa} {φ : Fa} {v : Value} {α : Type} [GoTy α] {x : α} [t : KRp Φ v x] : KRp (φ :: Φ) v x := ⟨.tail _ t.h⟩
class KPt (Φ : List Fa) (v : Value) {α : outParam Type} [i : outParam (GoTy α)] (x : outParam α) : Prop where h : @fPt α i v x ∈ Φ
instance (priority := high) KPt.head {Φ : List Fa} {v : Value} {α : Type} [GoTy α] {x : α} : KPt (fPt v x :: Φ) v x := ⟨.head _⟩
instance KPt.tail {Φ : List Fa} {φ : Fa} {v : Value} {α : Type} [GoTy α] {x : α} [t : KPt Φ v x] : KPt (φ :: Φ) v x := ⟨.tail _ t.h⟩
class KBlk (Φ : List Fa) (b : Nat) (cs : outParam (List Value)) (t : outParam TypeId) : Prop where h : fBlk b cs t ∈ Φ
instance (priority := high) KBlk.head {Φ : List Fa} {b : Nat} {cs : List Value} {t : TypeId} : KBlk (fBlk b cs t :: Φ) b cs t := ⟨.head _⟩
instance KBlk.tail {Φ : List Fa} {φ : Fa} {b : Nat} {cs : List Value} {t : TypeId} [t' : KBlk Φ b cs t] : KBlk (φ :: Φ) b cs t := ⟨.tail _ t'.h⟩
instance (priority := low) Holds.blk {Φ : List Fa} {M : Own} {b : Nat} {cs : List Value} {t : TypeId} [k : KBlk Φ b cs t] : Holds Φ M b cs t := ⟨fun _ I _ hp hw => hw.imm b _ (hp _ k.h)⟩

/-- What follows from facts. -/
class Ent' (Φ : List Fa) (φ : Fa) : Prop where h : ∀ I, (∀ ψ ∈ Φ, ψ.p I) → φ.p I
instance Ent'.rp {Φ : List Fa} {v : Value} {α : Type} [GoTy α] {x : α} [k : KRp Φ v x] : Ent' Φ (fRp v x) := ⟨fun _ hp => hp _ k.h⟩
instance Ent'.pt {Φ : List Fa} {v : Value} {α : Type} [GoTy α] {x : α} [k : KPt Φ v x] : Ent' Φ (fPt v x) := ⟨fun _ hp => hp _ k.h⟩
instance Ent'.blk {Φ : List Fa} {b : Nat} {cs : List Value} {t : TypeId} [k : KBlk Φ b cs t] : Ent' Φ (fBlk b cs t) := ⟨fun _ hp => hp _ k.h⟩
class Ents (Φ : List Fa) (l : List Fa) : Prop where h : ∀ I, (∀ ψ ∈ Φ, ψ.p I) → ∀ φ ∈ l, φ.p I
instance Ents.nil {Φ : List Fa} : Ents Φ [] := ⟨fun _ _ _ h => by cases h⟩
instance Ents.cons {Φ l : List Fa} {φ : Fa} [a : Ent' Φ φ] [b : Ents Φ l] : Ents Φ (φ :: l) := ⟨fun I hp ψ hψ => by
  rcases List.mem_cons.1 hψ with rfl | h
  · exact a.h I hp
  · exact b.h I hp ψ h⟩

/-! ### Plain types -/
instance : GoTy Int where
  sz := 1
  agg := false
  rep := fun _ cs n => cs = [.int .i64 n]
  mono := fun _ h => h
  len := fun h => by rw [h]; rfl
  one := fun h => by rw [h]; rfl
  agg1 := fun _ => rfl
instance : GoFlat Int where
  enc := fun n => [.int .i64 n]
  val := fun n => .int .i64 n
  rep_iff := Iff.rfl
  val_eq := fun _ => rfl
instance : GoTy Bool where
  sz := 1
  agg := false
  rep := fun _ cs b => cs = [.bool b]
  mono := fun _ h => h
  len := fun h => by rw [h]; rfl
  one := fun h => by rw [h]; rfl
  agg1 := fun _ => rfl
instance : GoFlat Bool where
  enc := fun n => [.bool n]
  val := fun n => .bool n
  rep_iff := Iff.rfl
  val_eq := fun _ => rfl
instance : GoTy UInt8 where
  sz := 1
  agg := false
  rep := fun _ cs n => cs = [.int .u8 n.toNat]
  mono := fun _ h => h
  len := fun h => by rw [h]; rfl
  one := fun h => by rw [h]; rfl
  agg1 := fun _ => rfl
instance : GoFlat UInt8 where
  enc := fun n => [.int .u8 n.toNat]
  val := fun n => .int .u8 n.toNat
  rep_iff := Iff.rfl
  val_eq := fun _ => rfl
instance : GoTy UInt64 where
  sz := 1
  agg := false
  rep := fun _ cs n => cs = [.int .u64 n.toNat]
  mono := fun _ h => h
  len := fun h => by rw [h]; rfl
  one := fun h => by rw [h]; rfl
  agg1 := fun _ => rfl
instance : GoFlat UInt64 where
  enc := fun n => [.int .u64 n.toNat]
  val := fun n => .int .u64 n.toNat
  rep_iff := Iff.rfl
  val_eq := fun _ => rfl
instance : GoTy ByteArray where
  sz := 1
  agg := false
  rep := fun _ cs n => cs = [.string n]
  mono := fun _ h => h
  len := fun h => by rw [h]; rfl
  one := fun h => by rw [h]; rfl
  agg1 := fun _ => rfl
instance : GoFlat ByteArray where
  enc := fun n => [.string n]
  val := fun n => .string n
  rep_iff := Iff.rfl
  val_eq := fun _ => rfl

/-- The value of a datum, in its own words. -/
class ValOf {α : Type} [GoTy α] [GoFlat α] (z : α) (u : outParam Value) : Prop where h : GoFlat.val z = u
instance (n : Int) : ValOf n (.int .i64 n) := ⟨rfl⟩
instance (n : Bool) : ValOf n (.bool n) := ⟨rfl⟩
instance (n : UInt8) : ValOf n (.int .u8 n.toNat) := ⟨rfl⟩
instance (n : UInt64) : ValOf n (.int .u64 n.toNat) := ⟨rfl⟩
instance (n : ByteArray) : ValOf n (.string n) := ⟨rfl⟩

/-! ### Slices -/
/-- The k-th element's cells in a row that begins at off. -/
def chunk (cs : List Value) (off sz k : Nat) : List Value := (cs.drop (off + k * sz)).take sz
def RowRep {α : Type} [GoTy α] (I : Imm) (cs : List Value) (off : Nat) (xs : List α) : Prop :=
  off + xs.length * GoTy.sz α ≤ cs.length ∧ ∀ k (h : k < xs.length), GoTy.rep I (chunk cs off (GoTy.sz α) k) xs[k]
def SlRep {α : Type} [GoTy α] (I : Imm) (a : Option Addr) (cap : Nat) (xs : List α) : Prop :=
  xs.length ≤ cap ∧ (xs ≠ [] → ∃ ad c t fr, a = some ad ∧ ad.spot = none ∧ I ad.block = some (.cells c t fr) ∧ RowRep I c.toList ad.off xs)
theorem RowRep.mono {α : Type} [GoTy α] {I J : Imm} {cs : List Value} {off : Nat} {xs : List α} (hl : Le I J) (h : RowRep I cs off xs) : RowRep J cs off xs :=
  ⟨h.1, fun k hk => GoTy.mono hl (h.2 k hk)⟩
instance {α : Type} [GoTy α] : GoTy (List α) where
  sz := 1
  agg := false
  rep := fun I cs xs => ∃ a cap, cs = [.slice a xs.length cap] ∧ SlRep I a cap xs
  mono := fun hl h => by
    obtain ⟨a, cap, h1, h2, h3⟩ := h
    refine ⟨a, cap, h1, h2, fun hne => ?_⟩
    obtain ⟨ad, c, t, fr, e1, e2, e3, e4⟩ := h3 hne
    exact ⟨ad, c, t, fr, e1, e2, hl _ _ e3, e4.mono hl⟩
  len := fun h => by obtain ⟨a, cap, h1, _⟩ := h; rw [h1]; rfl
  one := fun h => by obtain ⟨a, cap, h1, _⟩ := h; rw [h1]; rfl
  agg1 := fun _ => rfl
theorem Rp.slice {α : Type} [GoTy α] {I : Imm} {v : Value} {xs : List α} (h : Rp I v xs) : ∃ a cap, v = .slice a xs.length cap ∧ SlRep I a cap xs := by
  obtain ⟨cs, rfl, a, cap, rfl, h2⟩ := h
  exact ⟨a, cap, rfl, h2⟩
theorem Rp.mkSlice {α : Type} [GoTy α] {I : Imm} {a : Option Addr} {cap n : Nat} {xs : List α} (h : SlRep I a cap xs) (hn : n = xs.length) : Rp I (.slice a n cap) xs := by
  subst hn; exact ⟨[.slice a xs.length cap], rfl, a, cap, rfl, h⟩
theorem Rp.nil {α : Type} [GoTy α] {I : Imm} (a : Option Addr) (cap : Nat) : Rp I (.slice a 0 cap) ([] : List α) :=
  Rp.mkSlice ⟨Nat.zero_le _, fun h => absurd rfl h⟩ rfl
/-- The nil slice has no elements. -/
instance Ent'.nil {Φ : List Fa} {α : Type} [GoTy α] {cap : Nat} {a : Option Addr} : Ent' Φ (fRp (.slice a 0 cap) ([] : List α)) := ⟨fun _ _ => Rp.nil a cap⟩
/-- What has no memory of its own reads at once. -/
theorem Rp.flat {α : Type} [GoTy α] [GoFlat α] {I : Imm} {v : Value} {x : α} : Rp I v x ↔ v = GoFlat.val x := by
  constructor
  · rintro ⟨cs, rfl, h⟩; rw [GoFlat.val_eq, ← GoFlat.rep_iff.1 h]
  · rintro rfl; exact ⟨GoFlat.enc x, GoFlat.val_eq x, GoFlat.rep_iff.2 rfl⟩

theorem chunk_drop (cs : List Value) (off sz k : Nat) : chunk cs off sz k = (cs.drop (off + k * sz)).take sz := rfl
theorem RowRep.drop {α : Type} [GoTy α] {I : Imm} {cs : List Value} {off : Nat} {xs : List α} (h : RowRep I cs off xs) (n : Nat) (hn : n ≤ xs.length) : RowRep I cs (off + n * GoTy.sz α) (xs.drop n) := by
  obtain ⟨h1, h2⟩ := h
  refine ⟨?_, fun k hk => ?_⟩
  · rw [List.length_drop, Nat.sub_mul]
    have : n * GoTy.sz α ≤ xs.length * GoTy.sz α := Nat.mul_le_mul_right _ hn
    omega
  · have hk' : n + k < xs.length := by simp at hk; omega
    have := h2 (n + k) hk'
    rw [List.getElem_drop]
    unfold chunk at *
    rwa [Nat.add_mul, ← Nat.add_assoc] at this
theorem RowRep.take {α : Type} [GoTy α] {I : Imm} {cs : List Value} {off : Nat} {xs : List α} (h : RowRep I cs off xs) (n : Nat) : RowRep I cs off (xs.take n) := by
  obtain ⟨h1, h2⟩ := h
  refine ⟨?_, fun k hk => ?_⟩
  · have : (xs.take n).length * GoTy.sz α ≤ xs.length * GoTy.sz α := Nat.mul_le_mul_right _ (by simp; omega)
    omega
  · have hk' : k < xs.length := by simp at hk; omega
    simpa using h2 k hk'
end Go.Rail
