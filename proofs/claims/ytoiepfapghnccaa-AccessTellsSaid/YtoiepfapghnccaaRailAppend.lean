/- Slices of one's own: made, appended to, given away. -/
import Derived.Test.YtoiepfapghnccaaRailTypes
set_option linter.unusedSimpArgs false
set_option linter.unusedVariables false
namespace Go.Rail
open Go

class Inf (P : Program) (t : TypeId) (zs : outParam (List Value)) (sz bytes : outParam Nat) : Prop where
  h : (P.info? t).map (fun i => (i.zero.map cellsL, i.size, i.bytes)) = some (some zs, sz, bytes)
theorem Inf.get {P : Program} {t : TypeId} {zs : List Value} {sz bytes : Nat} (h : Inf P t zs sz bytes) : ∃ i z, P.info? t = some i ∧ i.zero = some z ∧ cellsL z = zs ∧ i.size = sz ∧ i.bytes = bytes := by
  obtain ⟨h⟩ := h
  cases hi : P.info? t with
  | none => rw [hi] at h; cases h
  | some i =>
    rw [hi] at h
    simp only [Option.map_some, Option.some.injEq, Prod.mk.injEq, Option.map_eq_some_iff] at h
    obtain ⟨⟨z, hz, hc⟩, h2, h3⟩ := h
    exact ⟨i, z, rfl, hz, hc, h2, h3⟩

/-- Cells that read as a row. -/
def fRow {α : Type} [GoTy α] (cs : List Value) (xs : List α) : Fa := ⟨.agg cs.toArray, fun I => RowRep I cs 0 xs, fun _ _ hl h => h.mono hl⟩
class KRow (Φ : List Fa) (cs : List Value) {α : outParam Type} [i : outParam (GoTy α)] (xs : outParam (List α)) : Prop where h : @fRow α i cs xs ∈ Φ
instance (priority := high) KRow.head {Φ : List Fa} {cs : List Value} {α : Type} [GoTy α] {xs : List α} : KRow (fRow cs xs :: Φ) cs xs := ⟨.head _⟩
instance KRow.tail {Φ : List Fa} {φ : Fa} {cs : List Value} {α : Type} [GoTy α] {xs : List α} [t : KRow Φ cs xs] : KRow (φ :: Φ) cs xs := ⟨.tail _ t.h⟩
instance Ent'.row {Φ : List Fa} {cs : List Value} {α : Type} [GoTy α] {xs : List α} [k : KRow Φ cs xs] : Ent' Φ (fRow cs xs) := ⟨fun _ hp => hp _ k.h⟩
instance (priority := high) Ent'.row0 {Φ : List Fa} {cs : List Value} {α : Type} [GoTy α] : Ent' Φ (fRow cs ([] : List α)) := ⟨fun _ _ => ⟨by simp, fun k hk => by cases hk⟩⟩

abbrev OR := Option (Nat × List Value)
def ownM (e : TypeId) : OR → Own
  | none => []
  | some (b, cs) => [(b, Ob cs e)]
def ocells : OR → List Value
  | none => []
  | some (_, cs) => cs
def IsOwn (sz : Nat) (v : Value) (n : Nat) : OR → Prop
  | none => v = .slice none 0 0 ∧ n = 0
  | some (b, cs) => ∃ cap, v = .slice (some ⟨b, 0, none⟩) n cap ∧ cs.length = cap * sz ∧ n ≤ cap

theorem nextslicecap_le (need old : Nat) (h : old < need) : Builtin.nextslicecap need old ≤ 2 * need + 200 := by
  unfold Builtin.nextslicecap
  split
  · omega
  · split
    · omega
    · have key : ∀ r c, c ≤ 2 * need + 200 → Builtin.growBy need r c ≤ 2 * need + 200 := by
        intro r
        induction r with
        | zero => intro c hc; exact hc
        | succ r ih =>
          intro c hc
          unfold Builtin.growBy
          split
          · exact hc
          · exact ih _ (by omega)
      exact key 4 old (by omega)

/-- What append takes from a slice. -/
theorem firstCells_rep {α : Type} [GoTy α] {P : Program} {I : Imm} {v : Value} {ys : List α} {w : World} (hi : ∀ b o, I b = some o → w.heap[b]? = some o) (h : Rp I v ys) :
    ∃ cs, (∀ w', w'.heap = w.heap → (Builtin.firstCells (GoTy.sz α) ys.length v).run P w' = .ok cs.toArray w') ∧ cs.length = ys.length * GoTy.sz α ∧ RowRep I cs 0 ys ∧ ones cs = true := by
  obtain ⟨a, cap, rfl, h1, h2⟩ := h.slice
  by_cases hne : ys = []
  · subst hne
    refine ⟨[], fun w' _ => ?_, by simp, ⟨by simp, fun k hk => by cases hk⟩, rfl⟩
    cases a with
    | none => simp [Builtin.firstCells, Sem.run_pure]
    | some ad => simp [Builtin.firstCells, loadCells, loadCellsFrom, Sem.run_pure]
  · obtain ⟨⟨b, off, sp⟩, c, t, fr, rfl, hsp, hb, hr⟩ := h2 hne
    simp only at hsp hb hr
    subst hsp
    have hle := hr.1
    refine ⟨(c.toList.drop off).take (ys.length * GoTy.sz α), ?_, ?_, ?_, ?_⟩
    · intro w' hw'
      simp only [Builtin.firstCells]
      exact loadCells_obj (by rw [hw']; exact hi _ _ hb) (by simpa using hle)
    · simp at hle ⊢; omega
    · refine ⟨by simp at hle ⊢; omega, fun k hk => ?_⟩
      have := hr.2 k hk
      unfold chunk at this ⊢
      rw [Nat.zero_add, List.drop_take, List.drop_drop, List.take_take, Nat.min_eq_left]
      · exact this
      · have := Nat.mul_le_mul_right (GoTy.sz α) (Nat.succ_le_of_lt hk)
        rw [Nat.succ_mul] at this; omega
    · -- each of the cells is one cell
      rw [ones, List.all_eq_true]
      intro u hu
      obtain ⟨j, hj, rfl⟩ := List.getElem_of_mem hu
      have hjl : j < ys.length * GoTy.sz α := by simp at hj; omega
      have hsz : 0 < GoTy.sz α := by
        rcases Nat.eq_zero_or_pos (GoTy.sz α) with h | h
        · rw [h] at hjl; omega
        · exact h
      have hk : j / GoTy.sz α < ys.length := Nat.div_lt_of_lt_mul (by rw [Nat.mul_comm]; exact hjl)
      have ho := GoTy.one (hr.2 (j / GoTy.sz α) hk)
      rw [ones, List.all_eq_true] at ho
      refine ho _ ?_
      unfold chunk
      have hm : j % GoTy.sz α < GoTy.sz α := Nat.mod_lt _ hsz
      have hlen : off + j < c.toList.length := by simp at hle hj ⊢; omega
      rw [List.mem_iff_getElem?]
      refine ⟨j % GoTy.sz α, ?_⟩
      rw [List.getElem?_take, if_pos hm, List.getElem?_drop]
      rw [show off + j / GoTy.sz α * GoTy.sz α + j % GoTy.sz α = off + j from by have := Nat.div_add_mod j (GoTy.sz α); rw [Nat.mul_comm] at this; omega]
      simp [List.getElem_take, List.getElem_drop]

theorem RowRep.append {α : Type} [GoTy α] {I : Imm} {cs ds rest : List Value} {xs ys : List α} (h : RowRep I cs 0 xs) (hc : cs.length = xs.length * GoTy.sz α) (k : RowRep I ds 0 ys) : RowRep I (cs ++ ds ++ rest) 0 (xs ++ ys) := by
  obtain ⟨h1, h2⟩ := h
  obtain ⟨k1, k2⟩ := k
  refine ⟨?_, fun j hj => ?_⟩
  · simp only [List.length_append, Nat.add_mul, hc]; omega
  · by_cases hjx : j < xs.length
    · have := h2 j hjx
      rw [List.getElem_append_left hjx]
      unfold chunk at this ⊢
      have hle : 0 + j * GoTy.sz α + GoTy.sz α ≤ cs.length := by
        rw [hc]; have := Nat.mul_le_mul_right (GoTy.sz α) (Nat.succ_le_of_lt hjx); rw [Nat.succ_mul] at this; omega
      rw [List.append_assoc, List.drop_append_of_le_length (by omega), List.take_append_of_le_length (by simp; omega)]
      exact this
    · have hjy : j - xs.length < ys.length := by simp at hj; omega
      have := k2 (j - xs.length) hjy
      rw [List.getElem_append_right (by omega)]
      unfold chunk at this ⊢
      have e : 0 + j * GoTy.sz α = cs.length + (0 + (j - xs.length) * GoTy.sz α) := by
        rw [hc]
        have : j * GoTy.sz α = xs.length * GoTy.sz α + (j - xs.length) * GoTy.sz α := by rw [← Nat.add_mul]; congr 1; omega
        omega
      have hle : 0 + (j - xs.length) * GoTy.sz α + GoTy.sz α ≤ ds.length := by
        have := Nat.mul_le_mul_right (GoTy.sz α) (Nat.succ_le_of_lt hjy); rw [Nat.succ_mul] at this; omega
      rw [e, List.append_assoc, ← List.drop_drop, List.drop_left, List.drop_append_of_le_length (by omega), List.take_append_of_le_length (by simp; omega)]
      exact this
theorem RowRep.cut {α : Type} [GoTy α] {I : Imm} {cs : List Value} {xs : List α} (h : RowRep I cs 0 xs) : RowRep I (cs.take (xs.length * GoTy.sz α)) 0 xs := by
  obtain ⟨h1, h2⟩ := h
  refine ⟨by simp at h1 ⊢; omega, fun k hk => ?_⟩
  have := h2 k hk
  unfold chunk at this ⊢
  have hle := Nat.mul_le_mul_right (GoTy.sz α) (Nat.succ_le_of_lt hk)
  rw [Nat.succ_mul] at hle
  rw [List.drop_take, List.take_take, Nat.min_eq_left (by omega)]
  exact this

section
variable {x : Cx} {Q : Exit → Act → World → Prop} {Φ : List Fa} {L : Env} {M : Own} {ops : Array Oper} {K : Act → World → Prop}
variable {d : Nat} {ty : TypeId} {pos : String} {af : Array Edge} {g : Option (Nat × Bool)}

theorem lenOf_rep {α : Type} [GoTy α] {P : Program} {I : Imm} {v : Value} {ys : List α} (h : Rp I v ys) (w : World) : (Builtin.lenOf v).run P w = .ok ys.length w := by
  obtain ⟨a, cap, rfl, _⟩ := h.slice
  simp [Builtin.lenOf, Sem.run_pure]

theorem run_app_grow {P : Program} {w : World} {t t2 e e2 ty : TypeId} {i : TypeInfo} {z u : Value} (ht : P.underlying t = some (.slice e)) (ht2 : P.underlying t2 = some (.slice e2)) (hi : P.info? e = some i) (hz : i.zero = some z)
    {ba : Option Addr} {n cap m : Nat} {olds news : List Value} (ho : ∀ w', w'.heap = w.heap → (Builtin.firstCells i.size n (.slice ba n cap)).run P w' = .ok olds.toArray w') (hn : ∀ w', w'.heap = w.heap → (Builtin.firstCells i.size m u).run P w' = .ok news.toArray w')
    (hl : ∀ w, (Builtin.lenOf u).run P w = .ok m w) (hg : cap < n + m) (h63 : n + m < 9223372036854775807) (hfit : Builtin.nextslicecap (n + m) cap * i.bytes ≤ 281474976710656) :
    ∃ nc, n + m ≤ nc ∧ (Builtin.append_ #[t, t2] ty #[.slice ba n cap, u]).run P w = .ok (.slice (some ⟨w.heap.size, 0, none⟩) (n + m) nc) (w.drew.alloc (Ob (olds ++ news ++ (Builtin.zeroCells z.cells (nc - (n + m))).toList) e)) := by
  have h1 : ¬ (n + m ≤ cap) := by omega
  have h63' : ¬ (9223372036854775807 < ((n : Int) + (m : Int))) := by omega
  have h48' : ¬ (281474976710656 < Builtin.nextslicecap (n + m) cap * i.bytes) := by omega
  have hn' := hn w.drew rfl
  have ho' := ho w.drew rfl
  refine ⟨grownCap w (n + m) cap e, grownCap_ge _ _ _ _, ?_⟩
  simp [Builtin.append_, run_underlying ht, run_underlying ht2, sizeOf, typeInfo, zeroValue, hi, hz, hl, h1, h63', h48', Question.forced, hn', ho', newRow, grownCap, Ob]
  congr 2
  apply Array.ext'
  simp [List.append_assoc]
theorem run_app_room {P : Program} {w : World} {t t2 e e2 ty : TypeId} {i : TypeInfo} {u : Value} (ht : P.underlying t = some (.slice e)) (ht2 : P.underlying t2 = some (.slice e2)) (hi : P.info? e = some i)
    {b n cap m : Nat} {cs news : List Value} (hb : w.heap[b]? = some (Ob cs e)) (hn : ∀ w', w'.heap = w.heap → (Builtin.firstCells i.size m u).run P w' = .ok news.toArray w') (h1 : ones news = true)
    (hl : ∀ w, (Builtin.lenOf u).run P w = .ok m w) (hg : n + m ≤ cap) (hfit : n * i.size + news.length ≤ cs.length) :
    (Builtin.append_ #[t, t2] ty #[.slice (some ⟨b, 0, none⟩) n cap, u]).run P w = .ok (.slice (some ⟨b, 0, none⟩) (n + m) cap) (w.setRow b (splice cs (n * i.size) news).toArray) := by
  have hst := storeCells_obj (P := P) (off := n * i.size) hb hfit h1
  have hn' := hn w rfl
  simp [Builtin.append_, run_underlying ht, run_underlying ht2, sizeOf, typeInfo, hi, hl, hg, hn', add_mk, hst, splice]

/-- Append to a slice of one's own (or to nil). -/
theorem o_app {α : Type} [GoTy α] {t t2 e e2 bytes : Nat} {y z : Operand} {v u : Value} {xs ys : List α} {zs : List Value} (o : OR) {Mr : Own} [ht : SlTy x.P t e] [ht2 : SlTy x.P t2 e2] [hb : Inf x.P e zs (GoTy.sz α) bytes]
    (hv : IsOwn (GoTy.sz α) v xs.length o) (hlen : (2 * (xs.length + ys.length) + 200) * bytes ≤ 281474976710656 ∧ xs.length + ys.length < 9223372036854775807 ∧ zs.length = GoTy.sz α)
    (hdN : Nat.blt d x.N = true) (hg : gd ops L g = some true) (hy : ev L y = some v) (hz' : ev L z = some u) (hrow : Ent' Φ (fRow (ocells o) xs)) (hu : Ent' Φ (fRp u ys)) (hM : M.Perm (ownM e o ++ Mr))
    (h : ∀ v' o', IsOwn (GoTy.sz α) v' (xs ++ ys).length o' → G x (fRow (ocells o') (xs ++ ys) :: Φ) ((d, v') :: L) (ownM e o' ++ Mr) K) : OpK x ops Q ⟨some d, .call ⟨.builtin .append, #[y, z], #[t, t2]⟩, ty, pos, af, g⟩ Φ L M K :=
  OpK.mem rfl hdN hg (by simp) (fun I a w hp hk hw => by
    have hw' := hw.perm hM
    have hru := hu.h I hp
    have hrx : RowRep I (ocells o) 0 xs := hrow.h I hp
    obtain ⟨ds, hd1, hd2, hd3, hd4⟩ := firstCells_rep (P := x.P) (w := w) hw.imm hru
    obtain ⟨i, zv, hi, hz, hzs, hsz, hby⟩ := hb.get
    have hl2 := lenOf_rep (P := x.P) hru
    have base : (execOp a.eval ⟨some d, .call ⟨.builtin .append, #[y, z], #[t, t2]⟩, ty, pos, af, g⟩).run x.P w = ((Builtin.append_ #[t, t2] ty #[v, u]).run x.P w).andThen fun r w' => .ok (.value r) w' := by
      simp [execOp, resolve, hk.eval hy, hk.eval hz', invoke, builtin, Sem.run_bind, Result.andThen, Sem.run_pure]
    rw [← hsz] at hd1
    have grow : ∀ (ba : Option Addr) (cap : Nat) (old : List Value), v = .slice ba xs.length cap → cap < xs.length + ys.length → (∀ w', w'.heap = w.heap → (Builtin.firstCells i.size xs.length v).run x.P w' = .ok old.toArray w') → old.length = xs.length * GoTy.sz α → RowRep I old 0 xs →
        ∃ v' w' Φ' M' I', (execOp a.eval ⟨some d, .call ⟨.builtin .append, #[y, z], #[t, t2]⟩, ty, pos, af, g⟩).run x.P w = .ok (.value v') w' ∧ (∀ φ ∈ Φ', φ.p I') ∧ Wd x.E I' M' w' ∧ G x Φ' ((d, v') :: L) M' K := by
      intro ba cap old hve hcap hold holdl hrold
      subst hve
      have hncap : Builtin.nextslicecap (xs.length + ys.length) cap * i.bytes ≤ 281474976710656 := by
        rw [hby]
        exact Nat.le_trans (Nat.mul_le_mul_right bytes (nextslicecap_le _ _ hcap)) hlen.1
      obtain ⟨nc, hnc, hrun⟩ := run_app_grow (ty := ty) ht.h ht2.h hi hz hold hd1 hl2 hcap (by omega) hncap
      have hzl : (Builtin.zeroCells zv.cells (nc - (xs.length + ys.length))).toList.length = (nc - (xs.length + ys.length)) * GoTy.sz α := by
        rw [Array.length_toList, size_zeroCells, ← Array.length_toList, cells_toList, hzs, hlen.2.2]
      have hcl : (old ++ ds ++ (Builtin.zeroCells zv.cells (nc - (xs.length + ys.length))).toList).length = nc * GoTy.sz α := by
        rw [List.length_append, List.length_append, hzl, holdl, hd2, ← Nat.add_mul, ← Nat.add_mul]
        congr 1
        omega
      refine ⟨_, _, fRow (old ++ ds ++ (Builtin.zeroCells zv.cells (nc - (xs.length + ys.length))).toList) (xs ++ ys) :: Φ, (w.heap.size, Ob (old ++ ds ++ (Builtin.zeroCells zv.cells (nc - (xs.length + ys.length))).toList) e) :: Mr, I, by rw [base, hrun]; rfl, ?_, ?_, ?_⟩
      · intro φ hφ
        rcases List.mem_cons.1 hφ with rfl | hφ
        · exact hrold.append holdl hd3
        · exact hp φ hφ
      · exact (Wd.alloc (Wd.drew (hw'.sub (List.sublist_append_right _ _))) _)
      · exact h _ (some (w.heap.size, _)) ⟨nc, by simp, hcl, by simp; omega⟩
    cases o with
    | none =>
      obtain ⟨rfl, hx0⟩ := hv
      have hxs : xs = [] := List.length_eq_zero_iff.1 hx0
      subst hxs
      by_cases hy0 : ys = []
      · -- nothing is appended to nil: nil
        subst hy0
        have hrun : (Builtin.append_ #[t, t2] ty #[.slice none 0 0, u]).run x.P w = .ok (.slice none 0 0) w := by
          have hn' := hd1 w rfl
          have hds : ds = [] := List.length_eq_zero_iff.1 (by simpa using hd2)
          subst hds
          simp at hn' hl2
          simp [Builtin.append_, run_underlying ht.h, run_underlying ht2.h, sizeOf, typeInfo, hi, hl2, hn']
        refine ⟨_, _, fRow [] ([] : List α) :: Φ, _, I, by rw [base, hrun]; rfl, ?_, hw', h _ none ⟨rfl, by simp⟩⟩
        intro φ hφ
        rcases List.mem_cons.1 hφ with rfl | hφ
        · exact ⟨by simp, fun k hk => by cases hk⟩
        · exact hp φ hφ
      · exact grow none 0 [] (by simp) (by have := List.length_pos_iff.2 hy0; simp; omega) (fun w' _ => by simp [Builtin.firstCells, Sem.run_pure]) (by simp) ⟨by simp, fun k hk => by cases hk⟩
    | some p =>
      obtain ⟨b, cs⟩ := p
      obtain ⟨cap, rfl, hcs, hle⟩ := hv
      have hbk : w.heap[b]? = some (Ob cs e) := hw'.own (b, Ob cs e) (by simp [ownM])
      have hxle : xs.length * GoTy.sz α ≤ cs.length := by rw [hcs]; exact Nat.mul_le_mul_right _ hle
      by_cases hroom : xs.length + ys.length ≤ cap
      · have hfit : xs.length * i.size + ds.length ≤ cs.length := by
          rw [hsz, hd2, ← Nat.add_mul, hcs]; exact Nat.mul_le_mul_right _ hroom
        have hrun := run_app_room (ty := ty) ht.h ht2.h hi hbk hd1 hd4 hl2 hroom hfit
        rw [hsz] at hrun hfit
        have hw2 : Wd x.E I ((b, Ob (splice cs (xs.length * GoTy.sz α) ds) e) :: Mr) (w.setRow b (splice cs (xs.length * GoTy.sz α) ds).toArray) := by
          have hw3 : Wd x.E I ((b, Ob cs e) :: Mr) w := hw'
          exact Wd.setRow (cs := cs) (t := e) hw3
        refine ⟨_, _, fRow (splice cs (xs.length * GoTy.sz α) ds) (xs ++ ys) :: Φ, _, I, by rw [base, hrun]; rfl, ?_, hw2, ?_⟩
        · intro φ hφ
          rcases List.mem_cons.1 hφ with rfl | hφ
          · have := (hrx.cut).append (by rw [List.length_take]; exact Nat.min_eq_left hxle) hd3 (rest := cs.drop (xs.length * GoTy.sz α + ds.length))
            exact this
          · exact hp φ hφ
        · refine h _ (some (b, _)) ⟨cap, by simp, ?_, by simpa using hroom⟩
          simp only [splice, List.length_append, List.length_take, List.length_drop]
          rw [Nat.min_eq_left hxle, ← hcs]; omega
      · refine grow (some ⟨b, 0, none⟩) cap (cs.take (xs.length * GoTy.sz α)) rfl (by omega) (fun w' hw'' => ?_) (by simp; omega) hrx.cut
        simp only [Builtin.firstCells, hsz]
        have := loadCells_obj (P := x.P) (w := w') (b := b) (off := 0) (n := xs.length * GoTy.sz α) (by rw [hw'']; exact hbk) (by simpa using hxle)
        simpa using this)
end
end Go.Rail
