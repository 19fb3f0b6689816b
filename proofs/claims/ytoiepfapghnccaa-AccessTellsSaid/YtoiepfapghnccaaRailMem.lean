/- Memory: owned blocks, blocks that lie unchanging, loads, stores, new blocks; calls; the beginning and the end of a function. -/
import Derived.Test.YtoiepfapghnccaaRailOps
import Derived.Laws.CopyRow
set_option linter.unusedSimpArgs false
set_option linter.unusedVariables false
namespace Go.Rail
open Go

class MGet (M : Own) (b : Nat) (o : outParam Obj) : Prop where h : (b, o) ∈ M
instance (priority := high) MGet.head {M : Own} {b : Nat} {o : Obj} : MGet ((b, o) :: M) b o := ⟨.head _⟩
instance MGet.tail {M : Own} {b b' : Nat} {o o' : Obj} [t : MGet M b o] : MGet ((b', o') :: M) b o := ⟨.tail _ t.h⟩
class MSet (M : Own) (b : Nat) (o : outParam Obj) (o' : Obj) (M' : outParam Own) : Prop where h : ∃ M1 M2, M = M1 ++ (b, o) :: M2 ∧ M' = M1 ++ (b, o') :: M2
instance (priority := high) MSet.head {M : Own} {b : Nat} {o o' : Obj} : MSet ((b, o) :: M) b o o' ((b, o') :: M) := ⟨[], M, rfl, rfl⟩
instance MSet.tail {M M' : Own} {b b' : Nat} {o o' p : Obj} [t : MSet M b o o' M'] : MSet ((b', p) :: M) b o o' ((b', p) :: M') := by
  obtain ⟨M1, M2, h1, h2⟩ := t.h
  exact ⟨(b', p) :: M1, M2, by rw [h1]; rfl, by rw [h2]; rfl⟩
class MDel (M : Own) (b : Nat) (o : outParam Obj) (M' : outParam Own) : Prop where h : M.Perm ((b, o) :: M')
instance (priority := high) MDel.head {M : Own} {b : Nat} {o : Obj} : MDel ((b, o) :: M) b o M := ⟨.refl _⟩
instance MDel.tail {M M' : Own} {b b' : Nat} {o p : Obj} [t : MDel M b o M'] : MDel ((b', p) :: M) b o ((b', p) :: M') := ⟨(t.h.cons _).trans (.swap _ _ _)⟩

/-- A part of a list of cells. -/
class SubL (cs : List Value) (off n : Nat) (vs : outParam (List Value)) : Prop where
  le : off + n ≤ cs.length
  eq : (cs.drop off).take n = vs


section world
variable {P : Program} {w : World}
theorem cell_Ob {b off : Nat} {cs : List Value} {t : TypeId} {v : Value} (h : w.heap[b]? = some (Ob cs t)) (hv : cs[off]? = some v) : w.cell? ⟨b, off, none⟩ = some v := by
  simp [World.cell?, h, Ob, hv]
theorem frozen_Ob {b off : Nat} {cs : List Value} {t : TypeId} (h : w.heap[b]? = some (Ob cs t)) : w.frozen? ⟨b, off, none⟩ = false := by
  simp [World.frozen?, h, Ob]
theorem add_mk (b off n : Nat) : (⟨b, off, none⟩ : Addr).add n = ⟨b, off + n, none⟩ := by
  unfold Addr.add; split <;> simp_all
/-- The cells of a block, as they lie. -/
theorem loadCells_obj {b off n : Nat} {c : Array Value} {t : TypeId} {fr : Nat × Nat} (h : w.heap[b]? = some (.cells c t fr)) (hn : off + n ≤ c.size) :
    (loadCells ⟨b, off, none⟩ n).run P w = .ok ((c.toList.drop off).take n).toArray w := by
  have hl : ((c.toList.drop off).take n).length = n := by simp; omega
  have := run_loadCells_list (P := P) w ⟨b, off, none⟩ ((c.toList.drop off).take n) (fun j v hj => by
    have hjn : j < n := by have := (List.getElem?_eq_some_iff.1 hj).1; omega
    rw [add_mk]
    rw [List.getElem?_take, if_pos hjn, List.getElem?_drop] at hj
    simp only [World.cell?, h]
    simpa using hj)
  rwa [hl] at this
theorem storeCells_obj {b off : Nat} {cs vs : List Value} {t : TypeId} (h : w.heap[b]? = some (Ob cs t)) (hn : off + vs.length ≤ cs.length) (h1 : ones vs = true) :
    (storeCells ⟨b, off, none⟩ vs).run P w = .ok () (w.setRow b (cs.take off ++ vs ++ cs.drop (off + vs.length)).toArray) := by
  have := run_storeCells_at (P := P) b off t vs 0 cs.toArray w h (by simpa using hn) (by simpa [ones] using h1)
  simpa using this
theorem setRow_heap {b : Nat} {c : Array Value} {t : TypeId} {fr : Nat × Nat} {c' : Array Value} (h : w.heap[b]? = some (.cells c t fr)) : (w.setRow b c').heap[b]? = some (.cells c' t fr) := by
  simp [World.setRow, Array.getElem?_modify, h]
theorem setRow_other {b k : Nat} {c' : Array Value} (hk : k ≠ b) : (w.setRow b c').heap[k]? = w.heap[k]? := by
  simp [World.setRow, Array.getElem?_modify, Ne.symm hk]
theorem setRow_size {b : Nat} {c' : Array Value} : (w.setRow b c').heap.size = w.heap.size := by simp [World.setRow]
end world

theorem Wd.setRow {E : Ent} {I : Imm} {M M' : Own} {b : Nat} {cs cs' : List Value} {t : TypeId} {w : World} (h : Wd E I M w) [m : MSet M b (Ob cs t) (Ob cs' t) M'] : Wd E I M' (w.setRow b cs'.toArray) := by
  obtain ⟨M1, M2, rfl, rfl⟩ := m.h
  exact h.turn rfl rfl rfl rfl setRow_size (setRow_heap (h.own (b, Ob cs t) (by simp))) (fun k hk => setRow_other hk)
theorem MSet.mem {M M' : Own} {b : Nat} {o o' : Obj} (m : MSet M b o o' M') : (b, o) ∈ M := by
  obtain ⟨M1, M2, rfl, _⟩ := m.h; simp

section
variable {x : Cx} {Q : Exit → Act → World → Prop} {Φ : List Fa} {L : Env} {M : Own} {ops : Array Oper} {K : Act → World → Prop}
variable {d : Nat} {ty : TypeId} {pos : String} {af : Array Edge} {g : Option (Nat × Bool)}

theorem o_alloc {t : TypeId} {zs : List Value} [z : Zer x.P t zs] (hdN : Nat.blt d x.N = true) (hg : gd ops L g = some true)
    (h : ∀ b, G x Φ ((d, .pointer (some ⟨b, 0, none⟩)) :: L) ((b, Ob zs t) :: M) K) : OpK x ops Q ⟨some d, .alloc t, ty, pos, af, g⟩ Φ L M K :=
  OpK.mem rfl hdN hg (by simp) (fun I a w hp hk hw => by
    obtain ⟨zv, hz, rfl⟩ := z.h w
    refine ⟨_, w.alloc (Ob (cellsL zv) t), Φ, _, I, ?_, hp, hw.alloc _, h w.heap.size⟩
    simp [execOp, Instr.alloc, hz, newVar, newRow, Sem.run_bind, Result.andThen, Sem.run_pure, Ob, ← cells_toList])
theorem o_box {t : TypeId} {y : Operand} {v : Value} {cs : List Value} (hdN : Nat.blt d x.N = true) (hg : gd ops L g = some true) (hy : ev L y = some v) (hc : cellsL v = cs)
    (h : ∀ b, G x Φ ((d, .pointer (some ⟨b, 0, none⟩)) :: L) ((b, Ob cs t) :: M) K) : OpK x ops Q ⟨some d, .box t y, ty, pos, af, g⟩ Φ L M K :=
  OpK.mem rfl hdN hg (by simp) (fun I a w hp hk hw => by
    subst hc
    refine ⟨_, w.alloc (Ob (cellsL v) t), Φ, _, I, ?_, hp, hw.alloc _, h w.heap.size⟩
    simp [execOp, Instr.box, hk.eval hy, newVar, newRow, Sem.run_bind, Result.andThen, Sem.run_pure, Ob, ← cells_toList])

/-- What a pointer's block holds: owned, or unchanging. -/
class Holds (Φ : List Fa) (M : Own) (b : Nat) (cs : outParam (List Value)) (t : outParam TypeId) : Prop where
  h : ∀ E I w, (∀ φ ∈ Φ, φ.p I) → Wd E I M w → w.heap[b]? = some (Ob cs t)
instance (priority := high) Holds.own {Φ : List Fa} {M : Own} {b : Nat} {cs : List Value} {t : TypeId} [m : MGet M b (Ob cs t)] : Holds Φ M b cs t := ⟨fun _ _ _ _ hw => hw.own _ m.h⟩

theorem run_loadVar1 {P : Program} {t : TypeId} {a : Addr} {v : Value} {w : World} (ha : ∀ w, (isAgg t).run P w = .ok false w) (hc : w.cell? a = some v) : (loadVar t a).run P w = .ok v w := by
  simp [loadVar, ha, Sem.run_bind, Result.andThen, run_load, hc]
theorem run_loadVarA {P : Program} {t : TypeId} {b off n : Nat} {cs vs : List Value} {e : TypeId} {w : World} (ha : ∀ w, (isAgg t).run P w = .ok true w) (hs : ∀ w, (sizeOf t).run P w = .ok n w) (hb : w.heap[b]? = some (Ob cs e)) (hn : off + n ≤ cs.length) (hv : (cs.drop off).take n = vs) :
    (loadVar t ⟨b, off, none⟩).run P w = .ok (.agg vs.toArray) w := by
  have := loadCells_obj (P := P) (w := w) (off := off) (n := n) hb (by simpa using hn)
  simp [loadVar, ha, hs, Sem.run_bind, Result.andThen, this, Sem.run_pure, hv]

theorem o_load1 {t : TypeId} {y : Operand} {b off : Nat} {cs : List Value} {e : TypeId} {v : Value} [ha : IsAg x.P t false] [hh : Holds Φ M b cs e] (hdN : Nat.blt d x.N = true) (hg : gd ops L g = some true) (hy : ev L y = some (.pointer (some ⟨b, off, none⟩))) (hv : cs[off]? = some v)
    (h : G x Φ ((d, v) :: L) M K) : OpK x ops Q ⟨some d, .load t y, ty, pos, af, g⟩ Φ L M K :=
  OpK.val rfl hdN hg (by simp) (fun I a w hp hk hw => by
    have hb := hh.h _ _ _ hp hw
    simp [execOp, Instr.loadAt, Instr.sureAddr, hk.eval hy, Sem.run_bind, Result.andThen, Sem.run_pure, run_loadVar1 ha.h (cell_Ob hb hv)]) h
theorem o_loadA {t : TypeId} {y : Operand} {b off n : Nat} {cs vs : List Value} {e : TypeId} [ha : IsAg x.P t true] [hs : Siz x.P t n] [hh : Holds Φ M b cs e] (hdN : Nat.blt d x.N = true) (hg : gd ops L g = some true) (hy : ev L y = some (.pointer (some ⟨b, off, none⟩))) (hn : off + n ≤ cs.length) (hv : (cs.drop off).take n = vs)
    (h : G x Φ ((d, .agg vs.toArray) :: L) M K) : OpK x ops Q ⟨some d, .load t y, ty, pos, af, g⟩ Φ L M K :=
  OpK.val rfl hdN hg (by simp) (fun I a w hp hk hw => by
    have hb := hh.h _ _ _ hp hw
    simp [execOp, Instr.loadAt, Instr.sureAddr, hk.eval hy, Sem.run_bind, Result.andThen, Sem.run_pure, run_loadVarA ha.h hs.h hb hn hv]) h

/-- A list, told by its elements. -/
inductive NormL {α : Type} : List α → List α → Prop
  | nil {l : List α} (h : l = []) : NormL l []
  | cons {l t t' : List α} {a : α} (h : l = a :: t) (k : NormL t t') : NormL l (a :: t')
theorem NormL.eq {α : Type} {l l' : List α} (h : NormL l l') : l = l' := by
  induction h with
  | nil h => exact h
  | cons h _ ih => rw [h, ih]
theorem o_loadN {t : TypeId} {y : Operand} {b off n : Nat} {cs vs : List Value} {e : TypeId} [ha : IsAg x.P t true] [hs : Siz x.P t n] [hh : Holds Φ M b cs e] (hdN : Nat.blt d x.N = true) (hg : gd ops L g = some true) (hy : ev L y = some (.pointer (some ⟨b, off, none⟩))) (hn : Nat.ble (off + n) cs.length = true) (hv : NormL ((cs.drop off).take n) vs)
    (h : G x Φ ((d, .agg vs.toArray) :: L) M K) : OpK x ops Q ⟨some d, .load t y, ty, pos, af, g⟩ Φ L M K :=
  o_loadA (ha := ha) (hs := hs) (hh := hh) hdN hg hy (Nat.le_of_ble_eq_true hn) hv.eq h

theorem run_storeVar {P : Program} {t : TypeId} {b off n : Nat} {cs vs : List Value} {e : TypeId} {v : Value} {w : World} (hs : ∀ w, (sizeOf t).run P w = .ok n w) (hb : w.heap[b]? = some (Ob cs e)) (hc : cellsL v = vs) (hvn : vs.length = n) (hn : off + n ≤ cs.length) (h1 : ones vs = true) :
    (storeVar t ⟨b, off, none⟩ v).run P w = .ok () (w.setRow b (cs.take off ++ vs ++ cs.drop (off + n)).toArray) := by
  have := storeCells_obj (P := P) (off := off) hb (by rw [hvn]; exact hn) h1
  rw [hvn] at this
  have hsz : v.cells.size = n := by rw [← Array.length_toList, cells_toList, hc, hvn]
  simp [storeVar, hs, Sem.run_bind, Result.andThen, hsz, cells_toList, hc, this]
theorem o_store {t : TypeId} {y z : Operand} {b off n : Nat} {cs vs cs' : List Value} {e : TypeId} {v : Value} {M' : Own} [hs : Siz x.P t n] (hg : gd ops L g = some true) (hy : ev L y = some (.pointer (some ⟨b, off, none⟩))) (hz : ev L z = some v)
    [hm : MGet M b (Ob cs e)] (hc : cellsL v = vs) (hvn : vs.length = n) (hn : off + n ≤ cs.length) (h1 : ones vs = true) (hcs : cs.take off ++ vs ++ cs.drop (off + n) = cs') [hm' : MSet M b (Ob cs e) (Ob cs' e) M']
    (h : G x Φ L M' K) : OpK x ops Q ⟨none, .store t y z, ty, pos, af, g⟩ Φ L M K :=
  OpK.mem0 rfl hg (by simp) (fun I a w hp hk hw => by
    have hb := hw.own _ hm.h
    refine ⟨w.setRow b cs'.toArray, Φ, M', I, ?_, hp, Wd.setRow (cs := cs) (t := e) hw, h⟩
    subst hcs
    simp [execOp, Instr.storeAt, Instr.sureAddr, hk.eval hy, hk.eval hz, Sem.run_bind, Result.andThen, Sem.run_pure, run_storeVar hs.h hb hc hvn hn h1])

theorem o_storeN {t : TypeId} {y z : Operand} {b off n : Nat} {cs vs cs' : List Value} {e : TypeId} {v : Value} {M' : Own} [hs : Siz x.P t n] (hg : gd ops L g = some true) (hy : ev L y = some (.pointer (some ⟨b, off, none⟩))) (hz : ev L z = some v)
    [hm : MGet M b (Ob cs e)] (hc : cellsL v = vs) (hvn : vs.length = n) (hn : Nat.ble (off + n) cs.length = true) (h1 : ones vs = true) (hcs : NormL (cs.take off ++ vs ++ cs.drop (off + n)) cs') (hm' : MSet M b (Ob cs e) (Ob cs' e) M')
    (h : G x Φ L M' K) : OpK x ops Q ⟨none, .store t y z, ty, pos, af, g⟩ Φ L M K :=
  o_store (hs := hs) (hm := hm) (hm' := hm') hg hy hz hc hvn (Nat.le_of_ble_eq_true hn) h1 hcs.eq h

theorem o_field {s : TypeId} {y : Operand} {f b off fo : Nat} {ft : TypeId} {n : Nat} [hf : Fld x.P s f fo ft] [hs : Siz x.P ft (n + 1)] (hdN : Nat.blt d x.N = true) (hg : gd ops L g = some true) (hy : ev L y = some (.pointer (some ⟨b, off, none⟩)))
    (h : G x Φ ((d, .pointer (some ⟨b, off + fo, none⟩)) :: L) M K) : OpK x ops Q ⟨some d, .fieldAddr s y f, ty, pos, af, g⟩ Φ L M K :=
  OpK.val rfl hdN hg (by simp) (fun I a w hp hk hw => by
    obtain ⟨fs, fd, h1, h2, rfl, rfl⟩ := hf.h
    simp [execOp, Instr.fieldAt, Instr.sureAddr, hk.eval hy, Sem.run_bind, Result.andThen, Sem.run_pure, run_underlying h1, h2, fieldPlace, hs.h, add_mk]) h
/-- The address of an array's element. -/
theorem o_index {t e : TypeId} {y z : Operand} {k : IntKind} {b off n m : Nat} {i : Int} {o' : Nat} [ht : ArTy x.P t n e] [hs : Siz x.P e m] (hdN : Nat.blt d x.N = true) (hg : gd ops L g = some true) (hy : ev L y = some (.pointer (some ⟨b, off, none⟩))) (hz : ev L z = some (.int k i)) (h0 : 0 ≤ i) (hi : i < n) (ho : off + i.toNat * m = o')
    (h : G x Φ ((d, .pointer (some ⟨b, o', none⟩)) :: L) M K) : OpK x ops Q ⟨some d, .indexAddr t y z, ty, pos, af, g⟩ Φ L M K :=
  OpK.val rfl hdN hg (by simp) (fun I a w hp hk hw => by
    subst ho
    simp [execOp, Instr.indexAt, Instr.sureAddr, asIntOf, hk.eval hy, hk.eval hz, Sem.run_bind, Result.andThen, Sem.run_pure, run_underlying ht.h, hs.h, add_mk, h0, hi]) h

/-- A struct or an array of parts: laid over the zero value. -/
def fillL (place : List (Nat × Nat)) : List Value → List (Nat × Value) → Option (List Value)
  | cs, [] => some cs
  | cs, (i, v) :: rest => match place[i]? with
    | none => none
    | some (off, size) => if (cellsL v).length = size ∧ off + size ≤ cs.length then fillL place (cs.take off ++ cellsL v ++ cs.drop (off + size)) rest else none
end
end Go.Rail
