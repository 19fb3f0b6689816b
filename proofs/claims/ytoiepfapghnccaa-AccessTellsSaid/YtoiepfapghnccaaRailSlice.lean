/- Slices: given away; cut; of arrays; made; written to in place. -/
import Derived.Test.YtoiepfapghnccaaRailAppend
set_option linter.unusedSimpArgs false
set_option linter.unusedVariables false
namespace Go.Rail
open Go

theorem RpL.nil {α : Type} [GoTy α] {Φ : List Fa} : RpL (α := α) Φ [] [] := trivial
section
variable {x : Cx} {Q : Exit → Act → World → Prop} {Φ : List Fa} {L : Env} {M : Own} {ops : Array Oper} {K : Act → World → Prop}
variable {d : Nat} {ty : TypeId} {pos : String} {af : Array Edge} {g : Option (Nat × Bool)}

/-- A slice of one's own is given away: it lies unchanging from now on. -/
theorem G.giveOwn {α : Type} [GoTy α] {F : Act → World → Prop} (v : Value) (xs : List α) (o : OR) (e : TypeId) {Mr : Own} (hv : IsOwn (GoTy.sz α) v xs.length o) (hrow : Ent' Φ (fRow (ocells o) xs)) (hM : M.Perm (ownM e o ++ Mr)) (h : G x (fRp v xs :: Φ) L Mr F) : G x Φ L M F := by
  intro I a w hp hk hw
  have hw' := hw.perm hM
  have hr : RowRep I (ocells o) 0 xs := hrow.h I hp
  cases o with
  | none =>
    obtain ⟨rfl, hx0⟩ := hv
    have hxs : xs = [] := List.length_eq_zero_iff.1 hx0
    subst hxs
    refine h I a w ?_ hk hw'
    intro φ hφ
    rcases List.mem_cons.1 hφ with rfl | hφ
    · exact Rp.nil none 0
    · exact hp φ hφ
  | some q =>
    obtain ⟨b, cs⟩ := q
    obtain ⟨cap, rfl, hcs, hle⟩ := hv
    have hw2 : Wd x.E I ((b, Ob cs e) :: Mr) w := hw'
    have hn : I b = none := hw2.sep (b, Ob cs e) (by simp)
    refine h _ a w ?_ hk hw2.give
    intro φ hφ
    rcases List.mem_cons.1 hφ with rfl | hφ
    · refine Rp.mkSlice ⟨hle, fun _ => ⟨⟨b, 0, none⟩, cs.toArray, e, (0, 0), rfl, rfl, ?_, ?_⟩⟩ rfl
      · simp [Ob]
      · have hr : RowRep I cs 0 xs := hr
        exact (by simpa using hr : RowRep I cs.toArray.toList 0 xs).mono (Le.give hn)
    · exact φ.mono _ _ (Le.give hn) (hp φ hφ)

theorem G.giveOwn2 {α : Type} [GoTy α] {F : Act → World → Prop} (v : Value) (xs : List α) (o : OR) (e : TypeId) {Mr : Own} (hv : IsOwn (GoTy.sz α) v xs.length o) (hrow : Ent' Φ (fRow (ocells o) xs)) (hM : M.Perm (Mr ++ ownM e o)) (h : G x (fRp v xs :: Φ) L Mr F) : G x Φ L M F :=
  G.giveOwn v xs o e hv hrow (hM.trans List.perm_append_comm) h
theorem o_app2 {α : Type} [GoTy α] {t t2 e e2 bytes : Nat} {y z : Operand} {v u : Value} {xs ys : List α} {zs : List Value} (o : OR) {Mr : Own} [ht : SlTy x.P t e] [ht2 : SlTy x.P t2 e2] [hb : Inf x.P e zs (GoTy.sz α) bytes]
    (hv : IsOwn (GoTy.sz α) v xs.length o) (hlen : (2 * (xs.length + ys.length) + 200) * bytes ≤ 281474976710656 ∧ xs.length + ys.length < 9223372036854775807 ∧ zs.length = GoTy.sz α)
    (hdN : Nat.blt d x.N = true) (hg : gd ops L g = some true) (hy : ev L y = some v) (hz' : ev L z = some u) (hrow : Ent' Φ (fRow (ocells o) xs)) (hu : Ent' Φ (fRp u ys)) (hM : M.Perm (Mr ++ ownM e o))
    (h : ∀ v' o', IsOwn (GoTy.sz α) v' (xs ++ ys).length o' → G x (fRow (ocells o') (xs ++ ys) :: Φ) ((d, v') :: L) (Mr ++ ownM e o') K) : OpK x ops Q ⟨some d, .call ⟨.builtin .append, #[y, z], #[t, t2]⟩, ty, pos, af, g⟩ Φ L M K :=
  o_app (ht := ht) (ht2 := ht2) (hb := hb) o hv hlen hdN hg hy hz' hrow hu (hM.trans List.perm_append_comm) (fun v' o' hv' => G.perm (h v' o' hv') List.perm_append_comm)

/-- A block that lies unchanging, read as a row. -/
theorem G.row {α : Type} [GoTy α] [GoFlat α] {F : Act → World → Prop} (b off n cap : Nat) (xs : List α) {cs : List Value} {t : TypeId} [k : KBlk Φ b cs t] (hn : n = xs.length) (hcap : n ≤ cap) (hcs : (cs.drop off).take (n * GoTy.sz α) = (xs.map GoFlat.enc).flatten) (hle : off + n * GoTy.sz α ≤ cs.length) (hsz : ∀ y : α, (GoFlat.enc y).length = GoTy.sz α)
    (h : G x (fRp (.slice (some ⟨b, off, none⟩) n cap) xs :: Φ) L M F) : G x Φ L M F := by
  subst hn
  refine G.learn (e := ⟨fun I hp => ?_⟩) _ h
  have hb : I b = some (Ob cs t) := hp _ k.h
  refine Rp.mkSlice ⟨hcap, fun _ => ⟨⟨b, off, none⟩, cs.toArray, t, (0, 0), rfl, rfl, hb, ?_, ?_⟩⟩ rfl
  · simpa using hle
  · intro j hj
    refine GoFlat.rep_iff.2 ?_
    unfold chunk
    have key : ∀ (ys : List α) (j : Nat) (hj : j < ys.length), (((ys.map GoFlat.enc).flatten).drop (j * GoTy.sz α)).take (GoTy.sz α) = GoFlat.enc ys[j] := by
      intro ys
      induction ys with
      | nil => intro j hj; cases hj
      | cons y ys ih =>
        intro j hj
        simp only [List.map_cons, List.flatten_cons]
        cases j with
        | zero =>
          simp only [Nat.zero_mul, List.drop_zero, List.getElem_cons_zero]
          rw [List.take_append_of_le_length (by rw [hsz]; omega), List.take_of_length_le (by rw [hsz]; omega)]
        | succ j =>
          rw [show (j + 1) * GoTy.sz α = (GoFlat.enc y).length + j * GoTy.sz α from by rw [hsz, Nat.succ_mul]; omega, ← List.drop_drop, List.drop_left]
          simpa using ih j (by simpa using hj)
    have h1 := key xs j hj
    rw [← hcs, List.drop_take, List.drop_drop, List.take_take, Nat.min_eq_left] at h1
    · simpa using h1
    · have := Nat.mul_le_mul_right (GoTy.sz α) (Nat.succ_le_of_lt hj)
      rw [Nat.succ_mul] at this; omega

/-- A bound of a slice expression. -/
def Bd (L : Env) (o : Option Operand) (dflt n : Nat) : Prop := match o with
  | none => n = dflt
  | some y => ∃ k i, ev L y = some (.int k i) ∧ i = (n : Int)
theorem run_bound {P : Program} {k : IntKind} {i : Int} {n y : Nat} {c : BoundsCode} (h : i = (n : Int)) (hn : n ≤ y) (w : World) : (Instr.sliceBound (.int k i) y c).run P w = .ok n w := by
  subst h
  have h0 : (0 : Int) ≤ (n : Int) ∧ (n : Int) ≤ (y : Int) := by omega
  simp [Instr.sliceBound, asIntOf, Sem.run_bind, Result.andThen, Sem.run_pure, h0]
theorem run_bounds {P : Program} {isSlice : Bool} {N : Nat} {ds : List Deferred} {a : Act} (hk : Kn N L ds a) {lo hi : Option Operand} {l h len cap : Nat} (hl : Bd L lo 0 l) (hh : Bd L hi len h) (hlh : l ≤ h) (hhc : h ≤ cap) (w : World) :
    (Instr.sliceBounds isSlice len cap (lo.map a.eval) (hi.map a.eval) none).run P w = .ok (l, h, cap) w := by
  cases hi with
  | none =>
    have hh : h = len := hh
    subst hh
    cases lo with
    | none =>
      have hl : l = 0 := hl
      subst hl
      simp [Instr.sliceBounds, Sem.run_bind, Result.andThen, Sem.run_pure]
    | some y =>
      obtain ⟨k, i, hy, e⟩ := hl
      simp [Instr.sliceBounds, Sem.run_bind, Result.andThen, Sem.run_pure, hk.eval hy, run_bound e hlh]
  | some z =>
    obtain ⟨k, i, hz, e⟩ := hh
    cases lo with
    | none =>
      have hl : l = 0 := hl
      subst hl
      simp [Instr.sliceBounds, Sem.run_bind, Result.andThen, Sem.run_pure, hk.eval hz, run_bound e hhc]
    | some y =>
      obtain ⟨k', i', hy, e'⟩ := hl
      simp [Instr.sliceBounds, Sem.run_bind, Result.andThen, Sem.run_pure, hk.eval hz, hk.eval hy, run_bound e hhc, run_bound e' hlh]
/-- A part of a slice. -/
theorem o_slice {α : Type} [GoTy α] {t e : TypeId} {y : Operand} {lo hi : Option Operand} {v : Value} {xs : List α} (l h : Nat) [ht : SlTy x.P t e] [hs : Siz x.P e (GoTy.sz α)] [k : KRp Φ v xs] (hdN : Nat.blt d x.N = true) (hg : gd ops L g = some true) (hy : ev L y = some v) (hl : Bd L lo 0 l) (hh : Bd L hi xs.length h) (hlh : l ≤ h) (hhx : h ≤ xs.length)
    (hG : ∀ v', G x (fRp v' ((xs.take h).drop l) :: Φ) ((d, v') :: L) M K) : OpK x ops Q ⟨some d, .slice t y lo hi none, ty, pos, af, g⟩ Φ L M K :=
  OpK.mem rfl hdN hg (by simp) (fun I a w hp hk hw => by
    obtain ⟨ad, cap, rfl, h1, h2⟩ := Rp.slice (hp _ k.h)
    have hb := run_bounds (P := x.P) (isSlice := true) hk hl hh hlh (Nat.le_trans hhx h1) w
    refine ⟨.slice (if cap = l then ad else ad.map (·.add (l * GoTy.sz α))) (h - l) (cap - l), w, fRp (.slice (if cap = l then ad else ad.map (·.add (l * GoTy.sz α))) (h - l) (cap - l)) ((xs.take h).drop l) :: Φ, M, I, ?_, ?_, hw, hG _⟩
    · simp [execOp, Instr.sliceAt, Instr.slice, hk.eval hy, run_underlying ht.h, hs.h, hb, Sem.run_bind, Result.andThen, Sem.run_pure]
    · intro φ hφ
      rcases List.mem_cons.1 hφ with rfl | hφ
      · have hlen : h - l = ((xs.take h).drop l).length := by simp; omega
        refine Rp.mkSlice ⟨by rw [← hlen]; omega, fun hne => ?_⟩ hlen
        have hpos : 0 < h - l := by rw [hlen]; exact List.length_pos_iff.2 hne
        obtain ⟨⟨b, off, sp⟩, c, t', fr, rfl, hsp, hbk, hr⟩ := h2 (by intro e; subst e; simp at hne)
        simp only at hsp hbk hr
        subst hsp
        rw [if_neg (by omega)]
        refine ⟨⟨b, off + l * GoTy.sz α, none⟩, c, t', fr, ?_, rfl, hbk, ?_⟩
        · simp [add_mk]
        · exact (hr.take h).drop l (by simp; omega)
      · exact hp φ hφ)
/-- A part of a slice of one's own, from its beginning. -/
theorem o_cutO {t e : TypeId} {y : Operand} {hi : Option Operand} {b n cap : Nat} (h : Nat) {sz : Nat} [ht : SlTy x.P t e] [hs : Siz x.P e sz] (hdN : Nat.blt d x.N = true) (hg : gd ops L g = some true) (hy : ev L y = some (.slice (some ⟨b, 0, none⟩) n cap)) (hh : Bd L hi n h) (hhx : h ≤ cap)
    (hG : G x Φ ((d, .slice (some ⟨b, 0, none⟩) h cap) :: L) M K) : OpK x ops Q ⟨some d, .slice t y none hi none, ty, pos, af, g⟩ Φ L M K :=
  OpK.val rfl hdN hg (by simp) (fun I a w hp hk hw => by
    have hb := run_bounds (P := x.P) (isSlice := true) (l := 0) (lo := none) hk rfl hh (Nat.zero_le _) hhx w
    have hb' : (Instr.sliceBounds true n cap none (hi.map a.eval) none).run x.P w = .ok (0, h, cap) w := hb
    simp [execOp, Instr.sliceAt, Instr.slice, hk.eval hy, run_underlying ht.h, hs.h, hb', Sem.run_bind, Result.andThen, Sem.run_pure, add_mk]) hG
/-- ... from l on. -/
theorem o_tailO {t e : TypeId} {y z : Operand} {b off n cap : Nat} (l o' : Nat) {sz : Nat} {k : IntKind} {i : Int} [ht : SlTy x.P t e] [hs : Siz x.P e sz] (hdN : Nat.blt d x.N = true) (hg : gd ops L g = some true) (hy : ev L y = some (.slice (some ⟨b, off, none⟩) n cap)) (hz : ev L z = some (.int k i)) (hi : i = (l : Int)) (hl : l ≤ n) (hlc : l < cap) (hnc : n ≤ cap) (ho : off + l * sz = o')
    (hG : G x Φ ((d, .slice (some ⟨b, o', none⟩) (n - l) (cap - l)) :: L) M K) : OpK x ops Q ⟨some d, .slice t y (some z) none none, ty, pos, af, g⟩ Φ L M K :=
  OpK.val rfl hdN hg (by simp) (fun I a w hp hk hw => by
    have hb := run_bounds (P := x.P) (isSlice := true) (lo := some z) (hi := none) (len := n) (h := n) hk ⟨k, i, hz, hi⟩ rfl hl hnc w
    have hb' : (Instr.sliceBounds true n cap (some (a.eval z)) none none).run x.P w = .ok (l, n, cap) w := hb
    subst ho
    simp [execOp, Instr.sliceAt, Instr.slice, hk.eval hy, run_underlying ht.h, hs.h, hb', Sem.run_bind, Result.andThen, Sem.run_pure, add_mk, show ¬ cap = l from by omega]) hG
/-- A slice of all of an array. -/
theorem o_sliceA {t e n sz : Nat} {y : Operand} {b off : Nat} [ht : ArTy x.P t n e] [hs : Siz x.P e sz] (hdN : Nat.blt d x.N = true) (hg : gd ops L g = some true) (hy : ev L y = some (.pointer (some ⟨b, off, none⟩)))
    (hG : G x Φ ((d, .slice (some ⟨b, off, none⟩) n n) :: L) M K) : OpK x ops Q ⟨some d, .slice t y none none none, ty, pos, af, g⟩ Φ L M K :=
  OpK.val rfl hdN hg (by simp) (fun I a w hp hk hw => by
    have hb := run_bounds (P := x.P) (isSlice := false) (lo := none) (hi := none) (l := 0) (len := n) (h := n) (cap := n) hk rfl rfl (Nat.zero_le _) (Nat.le_refl _) w
    have hb' : (Instr.sliceBounds false n n none none none).run x.P w = .ok (0, n, n) w := hb
    simp [execOp, Instr.sliceAt, Instr.sureAddr, hk.eval hy, run_underlying ht.h, hs.h, hb', Sem.run_bind, Result.andThen, Sem.run_pure, add_mk]) hG
/-- The capacity of a slice of one's own. -/
theorem o_cap {t e : TypeId} {y : Operand} {ad : Option Addr} {n cap : Nat} [ht : SlTy x.P t e] (hdN : Nat.blt d x.N = true) (hg : gd ops L g = some true) (hy : ev L y = some (.slice ad n cap))
    (h : G x Φ ((d, .int .i64 cap) :: L) M K) : OpK x ops Q ⟨some d, .call ⟨.builtin .cap, #[y], #[t]⟩, ty, pos, af, g⟩ Φ L M K :=
  OpK.val rfl hdN hg (by simp) (fun I a w hp hk hw => by
    simp [execOp, resolve, hk.eval hy, invoke, builtin, Builtin.cap_, run_underlying ht.h, goInt, Sem.run_bind, Result.andThen, Sem.run_pure]) h
theorem o_min {ts : Array TypeId} {y z : Operand} {k k' : IntKind} {p q : Int} {v : Value} (hdN : Nat.blt d x.N = true) (hg : gd ops L g = some true) (hy : ev L y = some (.int k p)) (hz : ev L z = some (.int k' q)) (hv : Value.int k (if q < p then q else p) = v)
    (h : G x Φ ((d, v) :: L) M K) : OpK x ops Q ⟨some d, .call ⟨.builtin .min, #[y, z], ts⟩, ty, pos, af, g⟩ Φ L M K :=
  OpK.val rfl hdN hg (by simp) (fun I a w hp hk hw => by
    subst hv
    simp [execOp, resolve, hk.eval hy, hk.eval hz, invoke, builtin, Builtin.min_, Builtin.min2, Sem.run_bind, Result.andThen, Sem.run_pure]) h
theorem o_max {ts : Array TypeId} {y z : Operand} {k k' : IntKind} {p q : Int} {v : Value} (hdN : Nat.blt d x.N = true) (hg : gd ops L g = some true) (hy : ev L y = some (.int k p)) (hz : ev L z = some (.int k' q)) (hv : Value.int k (if p < q then q else p) = v)
    (h : G x Φ ((d, v) :: L) M K) : OpK x ops Q ⟨some d, .call ⟨.builtin .max, #[y, z], ts⟩, ty, pos, af, g⟩ Φ L M K :=
  OpK.val rfl hdN hg (by simp) (fun I a w hp hk hw => by
    subst hv
    simp [execOp, resolve, hk.eval hy, hk.eval hz, invoke, builtin, Builtin.max_, Builtin.max2, Sem.run_bind, Result.andThen, Sem.run_pure]) h

/-! ### A row of one's own, in place -/
theorem o_idxO {t e : TypeId} {y z : Operand} {k : IntKind} {b off n cap sz : Nat} {i : Int} {o' : Nat} [ht : SlTy x.P t e] [hs : Siz x.P e sz] (hdN : Nat.blt d x.N = true) (hg : gd ops L g = some true) (hy : ev L y = some (.slice (some ⟨b, off, none⟩) n cap)) (hz : ev L z = some (.int k i)) (h0 : 0 ≤ i) (hi : i < n) (ho : off + i.toNat * sz = o')
    (h : G x Φ ((d, .pointer (some ⟨b, o', none⟩)) :: L) M K) : OpK x ops Q ⟨some d, .indexAddr t y z, ty, pos, af, g⟩ Φ L M K :=
  OpK.val rfl hdN hg (by simp) (fun I a w hp hk hw => by
    subst ho
    simp [execOp, Instr.indexAt, asIntOf, hk.eval hy, hk.eval hz, Sem.run_bind, Result.andThen, Sem.run_pure, run_underlying ht.h, hs.h, add_mk, h0, hi]) h
theorem o_loadO {α : Type} [GoTy α] [GoFlat α] {t : TypeId} {y : Operand} {b off e : Nat} {cs : List Value} {xs : List α} {ag : Bool} (k : Nat) (hk' : k < xs.length) [ha : IsAg x.P t ag] [hs : Siz x.P t (GoTy.sz α)] [hh : Holds Φ M b cs e] [hr : KRow Φ cs xs] {u : Value} [vo : ValOf xs[k] u] (hdN : Nat.blt d x.N = true) (hg : gd ops L g = some true) (hy : ev L y = some (.pointer (some ⟨b, off, none⟩))) (hag : GoTy.agg α = ag) (ho : off = k * GoTy.sz α)
    (h : G x Φ ((d, u) :: L) M K) : OpK x ops Q ⟨some d, .load t y, ty, pos, af, g⟩ Φ L M K := by
  have hu := vo.h
  subst hu
  exact OpK.val rfl hdN hg (by simp) (fun I a w hp hk hw => by
    subst ho
    have hb := hh.h _ _ _ hp hw
    have hrow : RowRep I cs 0 xs := hp _ hr.h
    have hc := GoFlat.rep_iff.1 (hrow.2 k hk')
    unfold chunk at hc
    rw [Nat.zero_add] at hc
    have hle : k * GoTy.sz α + GoTy.sz α ≤ cs.length := by
      have h1 := hrow.1
      have := Nat.mul_le_mul_right (GoTy.sz α) (Nat.succ_le_of_lt hk')
      rw [Nat.succ_mul] at this; omega
    rw [GoFlat.val_eq, hag]
    cases ag with
    | true =>
      have := run_loadVarA (P := x.P) ha.h hs.h hb hle hc
      simp [execOp, Instr.loadAt, Instr.sureAddr, hk.eval hy, Sem.run_bind, Result.andThen, Sem.run_pure, this, mkv]
    | false =>
      have h1 : GoTy.sz α = 1 := GoTy.agg1 hag
      rw [h1] at hc hle hy
      have hv : cs[k * 1]? = some ((GoFlat.enc xs[k]).headD undef) := by
        rw [← hc]
        have hlt : k < cs.length := by omega
        simp [List.take_one, List.head?_drop, hlt]
      have := run_loadVar1 (P := x.P) ha.h (cell_Ob hb hv)
      simp at this
      simp [execOp, Instr.loadAt, Instr.sureAddr, hk.eval hy, Sem.run_bind, Result.andThen, Sem.run_pure, this, mkv]) h

theorem RowRep.put {α : Type} [GoTy α] {I : Imm} {cs vs : List Value} {xs : List α} {z : α} {k : Nat} (h : RowRep I cs 0 xs) (hk : k < xs.length) (hz : GoTy.rep I vs z) : RowRep I (splice cs (k * GoTy.sz α) vs) 0 (xs.set k z) := by
  have hl := GoTy.len hz
  have hle : k * GoTy.sz α + GoTy.sz α ≤ cs.length := by
    have h1 := h.1
    have := Nat.mul_le_mul_right (GoTy.sz α) (Nat.succ_le_of_lt hk)
    rw [Nat.succ_mul] at this; omega
  have hlen : (splice cs (k * GoTy.sz α) vs).length = cs.length := by simp [splice, hl]; omega
  refine ⟨by rw [hlen]; simpa using h.1, fun j hj => ?_⟩
  have hj' : j < xs.length := by simpa using hj
  have hjl : j * GoTy.sz α + GoTy.sz α ≤ cs.length := by
    have h1 := h.1
    have := Nat.mul_le_mul_right (GoTy.sz α) (Nat.succ_le_of_lt hj')
    rw [Nat.succ_mul] at this; omega
  unfold chunk
  rw [Nat.zero_add]
  rcases Nat.lt_trichotomy j k with e | e | e
  · rw [List.getElem_set_ne (by omega)]
    have hjk : j * GoTy.sz α + GoTy.sz α ≤ k * GoTy.sz α := by have := Nat.mul_le_mul_right (GoTy.sz α) (Nat.succ_le_of_lt e); rw [Nat.succ_mul] at this; omega
    have hc := h.2 j hj'
    unfold chunk at hc
    rw [Nat.zero_add] at hc
    unfold splice
    rw [List.append_assoc, List.drop_append_of_le_length (by simp; omega), List.take_append_of_le_length (by simp; omega), List.drop_take, List.take_take, Nat.min_eq_left (by omega)]
    exact hc
  · subst e
    rw [List.getElem_set_self]
    unfold splice
    rw [List.append_assoc, show List.drop (j * GoTy.sz α) (List.take (j * GoTy.sz α) cs ++ (vs ++ List.drop (j * GoTy.sz α + vs.length) cs)) = vs ++ List.drop (j * GoTy.sz α + vs.length) cs from by
      conv => lhs; rw [show j * GoTy.sz α = (List.take (j * GoTy.sz α) cs).length from by simp; omega]
      rw [show (List.take (List.take (j * GoTy.sz α) cs).length cs) = List.take (j * GoTy.sz α) cs from by simp, List.drop_left]
      simp; congr 1; omega]
    rw [List.take_append_of_le_length (by omega), List.take_of_length_le (by omega)]
    exact hz
  · rw [List.getElem_set_ne (by omega)]
    have hjk : k * GoTy.sz α + GoTy.sz α ≤ j * GoTy.sz α := by have := Nat.mul_le_mul_right (GoTy.sz α) (Nat.succ_le_of_lt e); rw [Nat.succ_mul] at this; omega
    have hc := h.2 j hj'
    unfold chunk at hc
    rw [Nat.zero_add] at hc
    unfold splice
    have hl2 : (List.take (k * GoTy.sz α) cs ++ vs).length = k * GoTy.sz α + GoTy.sz α := by simp [hl]; omega
    rw [show j * GoTy.sz α = (List.take (k * GoTy.sz α) cs ++ vs).length + (j * GoTy.sz α - (k * GoTy.sz α + GoTy.sz α)) from by rw [hl2]; omega, ← List.drop_drop, List.drop_left, List.drop_drop, hl]
    rw [show k * GoTy.sz α + GoTy.sz α + (j * GoTy.sz α - (k * GoTy.sz α + GoTy.sz α)) = j * GoTy.sz α from by omega]
    exact hc
theorem o_storeO {α : Type} [GoTy α] {t : TypeId} {y z : Operand} {b off e : Nat} {cs : List Value} {xs : List α} {v : Value} (u : α) {Mr : Own} (k : Nat) (hk' : k < xs.length) [hs : Siz x.P t (GoTy.sz α)] [m : MDel M b (Ob cs e) Mr] [hr : KRow Φ cs xs] (hg : gd ops L g = some true) (hy : ev L y = some (.pointer (some ⟨b, off, none⟩))) (hz : ev L z = some v) (hu : Ent' Φ (fRp v u)) (ho : off = k * GoTy.sz α)
    (h : ∀ cs', cs'.length = cs.length → G x (fRow cs' (xs.set k u) :: Φ) L ((b, Ob cs' e) :: Mr) K) : OpK x ops Q ⟨none, .store t y z, ty, pos, af, g⟩ Φ L M K :=
  OpK.mem0 rfl hg (by simp) (fun I a w hp hk hw => by
    subst ho
    have hw' := hw.perm m.h
    have hb := hw'.own (b, Ob cs e) (by simp)
    have hrow : RowRep I cs 0 xs := hp _ hr.h
    have hru : Rp I v u := hu.h I hp
    have hrep := hru.cells
    have hl := GoTy.len hrep
    have hle : k * GoTy.sz α + GoTy.sz α ≤ cs.length := by
      have h1 := hrow.1
      have := Nat.mul_le_mul_right (GoTy.sz α) (Nat.succ_le_of_lt hk')
      rw [Nat.succ_mul] at this; omega
    have hst := run_storeVar (P := x.P) (v := v) hs.h hb rfl hl hle (GoTy.one hrep)
    have hsp : cs.take (k * GoTy.sz α) ++ cellsL v ++ cs.drop (k * GoTy.sz α + GoTy.sz α) = splice cs (k * GoTy.sz α) (cellsL v) := by rw [splice, hl]
    rw [hsp] at hst
    have hlen : (splice cs (k * GoTy.sz α) (cellsL v)).length = cs.length := by simp [splice, hl]; omega
    refine ⟨w.setRow b (splice cs (k * GoTy.sz α) (cellsL v)).toArray, _, (b, Ob (splice cs (k * GoTy.sz α) (cellsL v)) e) :: Mr, I, ?_, ?_, Wd.setRow (cs := cs) (t := e) hw', h _ hlen⟩
    · simp [execOp, Instr.storeAt, Instr.sureAddr, hk.eval hy, hk.eval hz, Sem.run_bind, Result.andThen, Sem.run_pure, hst]
    · intro φ hφ
      rcases List.mem_cons.1 hφ with rfl | hφ
      · exact hrow.put hk' hrep
      · exact hp φ hφ)

/-- A slice's literal, of one's own. -/
theorem o_litM {α : Type} [GoTy α] {t e n : Nat} {parts : List (Nat × Operand)} {vs : List Value} {xs : List α} {zs : List Value} [ht : SlTy x.P t e] [hs : Siz x.P e (GoTy.sz α)] [hz : Zer x.P e zs] (hsz : n * GoTy.sz α ≤ 16777216 ∧ zs.length = GoTy.sz α ∧ 0 < GoTy.sz α) (hdN : Nat.blt d x.N = true) (hg : gd ops L g = some true)
    (hv : evSeq L 0 parts = some vs) (hx : RpL Φ vs xs) (hn : xs.length = n) (h : ∀ b cs, cs.length = n * GoTy.sz α → G x (fRow cs xs :: Φ) ((d, .slice (some ⟨b, 0, none⟩) n n) :: L) ((b, Ob cs e) :: M) K) : OpK x ops Q ⟨some d, .buildSlice t n parts.toArray, ty, pos, af, g⟩ Φ L M K :=
  OpK.mem rfl hdN hg (by simp) (fun I a w hp hk hw => by
    obtain ⟨e1, e2, e3⟩ := RpL.cells hp hx
    obtain ⟨zv, hzr, hzs⟩ := hz.h w
    have hzc : zv.cells.size = GoTy.sz α := by rw [← Array.length_toList, cells_toList, hzs]; exact hsz.2.1
    have hcl : ((vs.map cellsL).flatten).length = n * GoTy.sz α := by
      rw [List.length_flatten, List.map_map]
      have : vs.map (List.length ∘ cellsL) = vs.map fun _ => GoTy.sz α := List.map_congr_left fun v hv => e2 v hv
      rw [this, List.map_const', List.sum_replicate_nat, e1, hn]
    let o : Obj := Ob ((vs.map cellsL).flatten) e
    have hfill : ∀ c : Array Value, c.size = n * GoTy.sz α → Instr.fill (fun i => some (i * GoTy.sz α, GoTy.sz α)) c (vs.zipIdx 0 |>.map fun p => (p.2, p.1)) = some ((vs.map cellsL).flatten).toArray := by
      intro c hc
      have := fill_seq (GoTy.sz α) vs 0 [] c.toList (by simp) (by simp [hc, e1, hn]) e2
      simpa using this
    have hrun : (execOp a.eval ⟨some d, .buildSlice t n parts.toArray, ty, pos, af, g⟩).run x.P w = .ok (.value (.slice (some ⟨w.heap.size, 0, none⟩) n n)) (w.alloc o) := by
      have hev : (parts.toArray.map fun (x : Nat × Operand) => match x with | (i, x) => (i, a.eval x)).toList = (vs.zipIdx 0 |>.map fun p => (p.2, p.1)) := by
        rw [← evSeq_zip hk hv]; simp
      simp only [execOp, Instr.buildSlice, Sem.run_bind, run_underlying ht.h, hs.h, Result.andThen_ok]
      rw [if_neg (by omega)]
      by_cases h0 : n * GoTy.sz α = 0
      · simp only [h0, if_true, Sem.run_pure, Sem.run_bind, Result.andThen_ok, hev]
        have := hfill (Array.map (fun x => (#[] : Array Value)[x % (#[] : Array Value).size]!) (Array.range 0)) (by simp [h0])
        rw [this]
        simp [newRow, Sem.run_bind, Result.andThen, Sem.run_pure, o, Ob]
      · simp only [h0, if_false, Sem.run_pure, Sem.run_bind, Result.andThen_ok, hev, hzr]
        have := hfill (Array.map (fun x => zv.cells[x % zv.cells.size]!) (Array.range (n * GoTy.sz α))) (by simp)
        rw [this]
        simp [newRow, Sem.run_bind, Result.andThen, Sem.run_pure, o, Ob]
    have hw' := hw.alloc o
    refine ⟨_, w.alloc o, _, _, I, hrun, ?_, hw', h w.heap.size _ hcl⟩
    intro φ hφ
    rcases List.mem_cons.1 hφ with rfl | hφ
    · exact e3
    · exact hp φ hφ)

end
end Go.Rail
