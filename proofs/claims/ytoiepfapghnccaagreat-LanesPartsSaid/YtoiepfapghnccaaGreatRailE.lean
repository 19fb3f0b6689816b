/- Lots of lanes: plain, and rows of one's own that are told cell by cell. -/
import Derived.Test.YtoiepfapghnccaaGreatRailD
set_option linter.unusedSimpArgs false
set_option linter.unusedVariables false
namespace Go.Rail
open Go
section
variable {x : Cx} {Q : Exit → Act → World → Prop} {Φ : List Fa} {L : Env} {M : Own} {ops : Array Oper} {K : Act → World → Prop}
variable {d : Nat} {ty : TypeId} {pos : String} {af : Array Edge} {g : Option (Nat × Bool)}
theorem o_loadOR {α : Type} [GoTy α] {t : TypeId} {y : Operand} {b off e : Nat} {cs : List Value} {xs : List α} {ag : Bool} (k : Nat) (hk' : k < xs.length) [ha : IsAg x.P t ag] [hs : Siz x.P t (GoTy.sz α)] [hh : Holds Φ M b cs e] [hr : KRow Φ cs xs] (hdN : Nat.blt d x.N = true) (hg : gd ops L g = some true) (hy : ev L y = some (.pointer (some ⟨b, off, none⟩))) (hag : GoTy.agg α = ag) (ho : off = k * GoTy.sz α)
    (h : ∀ v, G x (fRp v xs[k] :: Φ) ((d, v) :: L) M K) : OpK x ops Q ⟨some d, .load t y, ty, pos, af, g⟩ Φ L M K :=
  OpK.mem rfl hdN hg (by simp) (fun I a w hp hk hw => by
    subst ho
    have hb := hh.h _ _ _ hp hw
    have hrow : RowRep I cs 0 xs := hp _ hr.h
    have hc := hrow.2 k hk'
    unfold chunk at hc
    rw [Nat.zero_add] at hc
    have hle : k * GoTy.sz α + GoTy.sz α ≤ cs.length := by
      have h1 := hrow.1
      have := Nat.mul_le_mul_right (GoTy.sz α) (Nat.succ_le_of_lt hk')
      rw [Nat.succ_mul] at this; omega
    refine ⟨mkv ag ((cs.drop (k * GoTy.sz α)).take (GoTy.sz α)), w, fRp (mkv ag ((cs.drop (k * GoTy.sz α)).take (GoTy.sz α))) xs[k] :: Φ, M, I, ?_, ?_, hw, h _⟩
    · cases ag with
      | true =>
        have := run_loadVarA (P := x.P) ha.h hs.h hb hle rfl
        simp [execOp, Instr.loadAt, Instr.sureAddr, hk.eval hy, Sem.run_bind, Result.andThen, Sem.run_pure, this, mkv]
      | false =>
        have h1 : GoTy.sz α = 1 := GoTy.agg1 hag
        rw [h1] at hle hy ⊢
        have hv : cs[k * 1]? = some (((cs.drop (k * 1)).take 1).headD undef) := by
          have hlt : k < cs.length := by omega
          simp [List.take_one, List.head?_drop, hlt]
        have := run_loadVar1 (P := x.P) ha.h (cell_Ob hb hv)
        simp at this
        simp [execOp, Instr.loadAt, Instr.sureAddr, hk.eval hy, Sem.run_bind, Result.andThen, Sem.run_pure, this, mkv]
    · intro φ hφ
      rcases List.mem_cons.1 hφ with rfl | hφ
      · exact ⟨_, by rw [hag], hc⟩
      · exact hp φ hφ)
end
/-- A lot in memory of one's own (its sets lie unchanging). -/
def ROwnLot (eI eB : TypeId) (mk : Value → Value) (l : Lot) : Value → List Fa → Own → Prop := fun u Φ' M' => ∃ vs cs vL oL vA oA vB oB vD oD, u = mk (.agg #[.slice vs l.sets.length cs, vL, vA, vB, vD]) ∧ IsOwn 1 vL l.left.length oL ∧ IsOwn 1 vA l.at_.length oA ∧ IsOwn 1 vB l.begun.length oB ∧ IsOwn 1 vD l.done.length oD ∧
  Φ' = [fRp (.slice vs l.sets.length cs) l.sets, fRow (ocells oL) l.left, fRow (ocells oA) l.at_, fRow (ocells oB) l.begun, fRow (ocells oD) l.done] ∧ M' = ownM eI oL ++ (ownM eI oA ++ (ownM eB oB ++ ownM eI oD))
/-- ... handed back as data. -/
def RLot (mk : Value → Value) (l : Lot) : Value → List Fa → Own → Prop := fun u Φ' M' => ∃ v, u = mk v ∧ Φ' = [fRp v l] ∧ M' = []
theorem Fn.givenLot {P : Program} {f : FuncId} {args : List Value} {Φc : List Fa} {eI eB : TypeId} {mk : Value → Value} {l : Lot} (h : Fn P f args Φc [] (ROwnLot eI eB mk l)) : Fn P f args Φc [] (RLot mk l) := by
  intro I w hp hw
  refine (h I w hp hw).mono ?_
  rintro e' w' ⟨u, Φ', Mc', I', rfl, ⟨vs, cs, vL, oL, vA, oA, vB, oB, vD, oD, rfl, hL, hA, hB, hD, rfl, rfl⟩, hf, hwd⟩
  exact G.giveOwn (x := ⟨P, none, ⟨I, doms [], w⟩, 0, []⟩) (L := []) (F := fun _ w' => ∃ v' Φ' Mc' I', (Ending.returned (mk (.agg #[.slice vs l.sets.length cs, vL, vA, vB, vD])) = .returned v') ∧ RLot mk l v' Φ' Mc' ∧ (∀ φ ∈ Φ', φ.p I') ∧ Wd ⟨I, doms [], w⟩ I' Mc' w') vL l.left oL eI (Mr := ownM eI oA ++ (ownM eB oB ++ ownM eI oD)) hL inferInstance (List.Perm.refl _)
    (G.giveOwn vA l.at_ oA eI (Mr := ownM eB oB ++ ownM eI oD) hA inferInstance (List.Perm.refl _)
      (G.giveOwn vB l.begun oB eB (Mr := ownM eI oD) hB inferInstance (List.Perm.refl _)
        (G.giveOwn2 vD l.done oD eI (Mr := []) hD inferInstance (List.Perm.refl _)
          (fun I'' a w'' hp'' _ hw'' => ⟨_, [fRp (.agg #[.slice vs l.sets.length cs, vL, vA, vB, vD]) l], [], I'', rfl, ⟨_, rfl, rfl, rfl⟩, fun φ hφ => (by
            rw [List.mem_singleton] at hφ
            subst hφ
            exact Rp.mkLot (hp'' (fRp (.slice vs l.sets.length cs) l.sets) (by simp)) (hp'' (fRp vL l.left) (by simp)) (hp'' (fRp vA l.at_) (by simp)) (hp'' (fRp vB l.begun) (by simp)) (hp'' (fRp vD l.done) (by simp))), hw''⟩))))
    I' { tmps := #[], defers := [] } w' hf ⟨rfl, fun t v h => (by cases h), rfl⟩ hwd
end Go.Rail
set_option linter.unusedSimpArgs false
set_option linter.unusedVariables false
namespace Go.Rail
open Go
/-- ... where C is true of what is known behind k rounds. -/
def IterC (P : Program) (C : Nat → St → Prop) (gf : FuncId) (lb : List Value) (enc : List (List Value)) (Φ : List Fa) : Prop :=
  ∀ (l : Nat) (T : Nat → St → Prop) (Z : St → Prop), (∀ k s, T k s → C k s) → (∀ k (h : k < enc.length) s, T k s → FnY P l enc[k] s.1 s.2 (YRr (T (k + 1)) Z)) →
    ∀ s, T 0 s → Fn P gf (.func (.yield l) #[] #[] :: lb) (Φ ++ s.1) s.2 (IRr (T enc.length) Z)
section
variable {x : Cx} {Q : Exit → Act → World → Prop} {Φ : List Fa} {L : Env} {M : Own} {ops : Array Oper} {K : Act → World → Prop}
variable {d : Nat} {ty : TypeId} {pos : String} {af : Array Edge} {g : Option (Nat × Bool)}
/-- S k: what is known behind k rounds; X c: what is known where a round was left by the jump c. -/
theorem W.rangeFuncC {C : Nat → St → Prop} {P : Program} {E : Ent} {N : Nat} {ds : List Deferred} {Q : Exit → Act → World → Prop} {gop : Operand} {ps : List Nat} {as bo : Code} {gf : FuncId} {lb : List Value} {enc : List (List Value)} {Φi : List Fa} {Mr : Own}
    (S : Nat → St → Prop) (X : Code → St → Prop)
    (hy : ev L gop = some (.func (.func gf) #[] lb.toArray)) [hf : HasFn P gf] (hit : IterC P C gf lb enc Φi) (hC : ∀ k s, S k s → ∀ e, C k (s.1, e :: s.2)) (hps : ∀ p ∈ ps, Nat.blt p N = true) (hen : ∀ vs ∈ enc, vs.length = ps.length)
    (hΦi : Ents Φ Φi) (s0 : St) (hs0 : S 0 s0) (hΦ : Ents Φ s0.1) (hM : M.Perm (s0.2 ++ Mr))
    (hround : ∀ (l : Nat) (r : Loop) (I0 : Imm) (w0 : World) (k : Nat) (hk : k < enc.length) (s : St), S k s →
      W ⟨P, some l, ⟨I0, doms ((l, .loop { r with state := .ready, pending := none }) :: s.2), w0⟩, N, []⟩ as (AsP P l bo I0 ((l, .loop { r with state := .ready, pending := none }) :: s.2) w0 (YRr (fun t => ∃ s', S (k + 1) s' ∧ t = (s'.1, (l, .loop { r with state := .ready, pending := none }) :: s'.2)) (fun s => ∃ c s', X c s' ∧ s = (s'.1, (l, .loop { r with state := .done, pending := some c }) :: s'.2))))
        s.1 ((ps.zip enc[k]).reverse ++ L) ((l, .loop { r with state := .ready, pending := none }) :: s.2))
    (hdone : ∀ D s, S enc.length s → G ⟨P, none, E, N, ⟨.collected D, #[]⟩ :: ds⟩ (s.1 ++ Φ) L (s.2 ++ (D, .deferred (some [])) :: Mr) (Q .normal))
    (hexit : ∀ D c s, X c s → W ⟨P, none, E, N, ⟨.collected D, #[]⟩ :: ds⟩ c Q (s.1 ++ Φ) L (s.2 ++ (D, .deferred (some [])) :: Mr)) :
    W ⟨P, none, E, N, ds⟩ (.rangeFunc gop ps.toArray as bo) Q Φ L M := by
  intro I a w hp hk hw
  refine wpIn_rangeFunc ?_
  intro fn hfn
  obtain ⟨r, hr⟩ : ∃ r : Loop, r = { state := .ready, pending := none, fn := fn, tmps := a.tmps, params := ps.toArray, assign := as, body := bo, defers := w.heap.size } := ⟨_, rfl⟩
  have hw1 := ((hw.perm hM).alloc (.deferred (some []))).alloc (.loop r)
  rw [World.size_alloc] at hw1
  have hw2 := hw1.perm (M' := ((w.heap.size + 1, .loop r) :: s0.2) ++ (w.heap.size, .deferred (some [])) :: Mr) (by
    refine .cons _ ?_
    exact List.perm_middle.symm)
  refine ⟨w.heap.size + 1, [{ target := .collected w.heap.size, args := #[] }], (w.alloc (.deferred (some []))).alloc (.loop r), { target := .fn (.func gf) lb.toArray, args := #[.func (.yield (w.heap.size + 1)) #[] #[]] }, (w.alloc (.deferred (some []))).alloc (.loop r), gf,
    (.func (.yield (w.heap.size + 1)) #[] #[] :: lb).toArray, (w.alloc (.deferred (some []))).alloc (.loop r), ?_, ?_, ?_, ?_, fun hd => (by rw [FR_depth] at hd; cases hd), ?_⟩
  · rw [hr]; exact run_enterLoop_outer _ _ _ _ _
  · simp only [resolve, hk.eval hy]
    simp [Deferred.ofValue, Sem.run_bind, Result.andThen, Sem.run_pure, Act.eval]
  · intro f' _; exact FR_fn _ f'
  · simp [invoke, hf.h]
  have hc := hit (w.heap.size + 1) (fun k t => ∃ s', S k s' ∧ t = (s'.1, (w.heap.size + 1, .loop r) :: s'.2)) (fun s => ∃ c s', X c s' ∧ s = (s'.1, (w.heap.size + 1, .loop { r with state := .done, pending := some c }) :: s'.2)) (fun k t ht => by obtain ⟨s', hS, rfl⟩ := ht; exact hC k s' hS _) ?_ (s0.1, (w.heap.size + 1, .loop r) :: s0.2) ⟨s0, hs0, rfl⟩ I _ ?_ (hw2.start (List.sublist_append_left _ _))
  · refine (callsIn_FR hc).mono ?_
    rintro e w' ⟨v, Φ', Mc', I', rfl, hR, hf', hwd⟩
    have hback := hw2.back hwd
    have hkn : Kn N L (⟨.collected w.heap.size, #[]⟩ :: ds) { a with defers := [{ target := .collected w.heap.size, args := #[] }] ++ a.defers } := ⟨hk.sz, hk.val, by rw [hk.df]; rfl⟩
    have hall : ∀ φ ∈ Φ' ++ Φ, φ.p I' := by
      intro φ hφ
      rcases List.mem_append.1 hφ with hφ | hφ
      · exact hf' φ hφ
      · exact φ.mono _ _ hwd.up (hp φ hφ)
    rcases hR with ⟨s', hS, hs⟩ | ⟨c, s', hX, hs⟩
    · cases hs
      have hl : w'.heap[w.heap.size + 1]? = some (.loop r) := hback.own _ (List.mem_append_left _ List.mem_cons_self)
      refine ⟨_, _, run_endLoop hl (by rw [hr]; simp), ?_⟩
      have hpn : r.pending = none := by rw [hr]
      rw [hpn]
      exact hdone _ s' hS I' _ _ hall hkn ((putObj_turn hback (MDel.head (M := s'.2 ++ (w.heap.size, .deferred (some [])) :: Mr))).sub (List.sublist_cons_self _ _))
    · cases hs
      have hl : w'.heap[w.heap.size + 1]? = some (.loop { r with state := .done, pending := some c }) := hback.own _ (List.mem_append_left _ List.mem_cons_self)
      refine ⟨_, _, run_endLoop hl (by simp), ?_⟩
      exact hexit _ c s' hX I' _ _ hall hkn ((putObj_turn hback (MDel.head (M := s'.2 ++ (w.heap.size, .deferred (some [])) :: Mr))).sub (List.sublist_cons_self _ _))
  · rintro k hkn _ ⟨s, hS, rfl⟩ I1 w1 hp1 hwd1
    have hl : w1.heap[w.heap.size + 1]? = some (.loop r) := hwd1.own _ List.mem_cons_self
    have hsz : enc[k].toArray.size = r.params.size := by rw [hr]; simp [hen _ (List.getElem_mem hkn)]
    refine ⟨_, _, _, _, run_yield hl hsz, ?_⟩
    refine roundIn_of_wpIn trivial ?_
    have hrr : { r with state := .ready, pending := none } = r := by rw [hr]
    have h3 := hround (w.heap.size + 1) r I1 w1 k hkn s hS I1 _ w1 hp1 (hk.params ps enc[k] hps) (by rw [hrr]; exact hwd1)
    rw [hrr] at h3
    rw [hr] at h3 ⊢
    delta AsP BeginK at h3
    simpa [FR] using h3
  · intro φ hφ
    rcases List.mem_append.1 hφ with hφ | hφ
    · exact hΦi.h I hp φ hφ
    · exact hΦ.h I hp φ hφ


theorem o_lendO {α : Type} [GoTy α] [GoFlat α] {y : Operand} {args : List Operand} {vs cap : List Value} {ts : Array TypeId} {f : FuncId} {Φc : List Fa} {e : TypeId} {xs : List α}
    (hdN : Nat.blt d x.N = true) (hg : gd ops L g = some true) (hy : ev L y = some (.func (.func f) #[] cap.toArray)) [hf : HasFn x.P f] (hargs : args.mapM (ev L) = some vs) (c : Fn x.P f (vs ++ cap) Φc [] (ROwn e xs)) (hΦ : LEnts Φ M Φc)
    (h : ∀ v o, IsOwn (GoTy.sz α) v xs.length o → G x (fRow (ocells o) xs :: Φ) ((d, v) :: L) (M ++ ownM e o) K) : OpK x ops Q ⟨some d, .call ⟨.value y, args.toArray, ts⟩, ty, pos, af, g⟩ Φ L M K :=
  OpK.lend hdN hg hy hargs c hΦ (by rintro u Φ' M' ⟨o, ho, rfl, rfl⟩ φ hφ; rw [List.mem_singleton] at hφ; subst hφ; exact Free.row) (by
    rintro u Φ' Mc' ⟨o, ho, rfl, rfl⟩
    exact G.perm (h u o ho) List.perm_append_comm)
theorem OpK.use {o : Oper} {p : Prop} (hΦ : ∀ I, (∀ ψ ∈ Φ, ψ.p I) → p) (h : p → OpK x ops Q o Φ L M K) : OpK x ops Q o Φ L M K :=
  fun I a w hp hk hw => h (hΦ I hp) I a w hp hk hw
theorem OpK.perm {o : Oper} {M' : Own} (h : OpK x ops Q o Φ L M' K) (hM : M.Perm M') : OpK x ops Q o Φ L M K :=
  fun I a w hp hk hw => h I a w hp hk (hw.perm hM)
theorem LEnt.lot {Φ : List Fa} {M : Own} {v1 v2 v3 v4 v5 : Value} {s : Lot} (a : LEnt Φ M (fRp v1 s.sets)) (b : LEnt Φ M (fRp v2 s.left)) (c : LEnt Φ M (fRp v3 s.at_)) (d : LEnt Φ M (fRp v4 s.begun)) (e : LEnt Φ M (fRp v5 s.done)) : LEnt Φ M (fRp (.agg #[v1, v2, v3, v4, v5]) s) :=
  ⟨fun I J hl hp hm => Rp.mkLot (a.h I J hl hp hm) (b.h I J hl hp hm) (c.h I J hl hp hm) (d.h I J hl hp hm) (e.h I J hl hp hm)⟩
end
def cIx (xs : List Int) (ex : List Value) : List Value := cI xs ++ ex
def cBx (xs : List Bool) (ex : List Value) : List Value := cB xs ++ ex
theorem cIx_length (xs : List Int) (ex : List Value) : (cIx xs ex).length = xs.length + ex.length := by simp [cIx, cI_length]
theorem cBx_length (xs : List Bool) (ex : List Value) : (cBx xs ex).length = xs.length + ex.length := by simp [cBx, cB_length]
theorem row_cellsX {α : Type} [GoTy α] [GoFlat α] (f : α → Value) (hz : GoTy.sz α = 1) (hf : ∀ a : α, GoFlat.enc a = [f a]) {I : Imm} {cs : List Value} {xs : List α} (h : RowRep I cs 0 xs) : ∃ ex, cs = xs.map f ++ ex := by
  refine ⟨cs.drop xs.length, ?_⟩
  have h1 := h.1
  rw [hz] at h1
  have : cs.take xs.length = xs.map f := by
    apply List.ext_getElem
    · simp; omega
    · intro k h2 h3
      have hk : k < xs.length := by simpa using h3
      have hr := GoFlat.rep_iff.1 (h.2 k hk)
      rw [hf, hz] at hr
      unfold chunk at hr
      rw [List.take_one, List.head?_drop, Nat.zero_add, Nat.mul_one, List.getElem?_eq_getElem (by omega)] at hr
      rw [List.getElem_take, List.getElem_map]
      simpa using hr
  rw [← this, List.take_append_drop]
theorem row_cIx {I : Imm} {cs : List Value} {xs : List Int} (h : RowRep I cs 0 xs) : ∃ ex, cs = cIx xs ex := row_cellsX _ rfl (fun _ => rfl) h
theorem row_cBx {I : Imm} {cs : List Value} {xs : List Bool} (h : RowRep I cs 0 xs) : ∃ ex, cs = cBx xs ex := row_cellsX _ rfl (fun _ => rfl) h
theorem chunk_app {cs ex : List Value} {k : Nat} (h : k < cs.length) : chunk (cs ++ ex) 0 1 k = chunk cs 0 1 k := by
  unfold chunk
  rw [List.take_one, List.take_one, List.head?_drop, List.head?_drop, List.getElem?_append_left (by omega)]
theorem rowIx (I : Imm) (xs : List Int) (ex : List Value) : RowRep I (cIx xs ex) 0 xs := ⟨by rw [cIx_length]; show 0 + xs.length * 1 ≤ _; omega, fun k hk => by
  show GoTy.rep I (chunk (cI xs ++ ex) 0 1 k) xs[k]
  rw [chunk_app (by rw [cI_length]; exact hk)]
  exact (rowI I xs).2 k hk⟩
theorem rowBx (I : Imm) (xs : List Bool) (ex : List Value) : RowRep I (cBx xs ex) 0 xs := ⟨by rw [cBx_length]; show 0 + xs.length * 1 ≤ _; omega, fun k hk => by
  show GoTy.rep I (chunk (cB xs ++ ex) 0 1 k) xs[k]
  rw [chunk_app (by rw [cB_length]; exact hk)]
  exact (rowB I xs).2 k hk⟩
instance Ent'.cIx {Φ : List Fa} {xs : List Int} {ex : List Value} : Ent' Φ (fRow (cIx xs ex) xs) := ⟨fun I _ => rowIx I xs ex⟩
instance Ent'.cBx {Φ : List Fa} {xs : List Bool} {ex : List Value} : Ent' Φ (fRow (cBx xs ex) xs) := ⟨fun I _ => rowBx I xs ex⟩
theorem set_app (cs ex : List Value) (k : Nat) (u : Value) (hk : k < cs.length) : (cs ++ ex).take k ++ [u] ++ (cs ++ ex).drop (k + 1) = cs.take k ++ [u] ++ cs.drop (k + 1) ++ ex := by
  rw [List.take_append_of_le_length (by omega), List.drop_append_of_le_length (by omega)]
  simp
section
variable {x : Cx} {Q : Exit → Act → World → Prop} {Φ : List Fa} {L : Env} {M : Own} {ops : Array Oper} {K : Act → World → Prop}
variable {d : Nat} {ty : TypeId} {pos : String} {af : Array Edge} {g : Option (Nat × Bool)}
theorem o_loadIx {t : TypeId} {y : Operand} {b off e : Nat} {xs : List Int} {ex : List Value} (k : Nat) (hk' : k < xs.length) [ha : IsAg x.P t false] [hh : Holds Φ M b (cIx xs ex) e] (hdN : Nat.blt d x.N = true) (hg : gd ops L g = some true) (hy : ev L y = some (.pointer (some ⟨b, off, none⟩))) (ho : off = k)
    (h : G x Φ ((d, .int .i64 xs[k]) :: L) M K) : OpK x ops Q ⟨some d, .load t y, ty, pos, af, g⟩ Φ L M K := by
  subst ho
  exact o_load1 (hh := hh) hdN hg hy (by rw [cIx, List.getElem?_append_left (by rw [cI_length]; exact hk')]; simp [cI, hk']) h
theorem o_storeIx {t : TypeId} {y z : Operand} {b off e : Nat} {xs : List Int} {ex : List Value} {M' : Own} (k : Nat) (u : Int) (hk' : k < xs.length) [hs : Siz x.P t 1] (hg : gd ops L g = some true) (hy : ev L y = some (.pointer (some ⟨b, off, none⟩))) (hz : ev L z = some (.int .i64 u)) (ho : off = k)
    [hm : MGet M b (Ob (cIx xs ex) e)] [hm' : MSet M b (Ob (cIx xs ex) e) (Ob (cIx (xs.set k u) ex) e) M'] (h : G x Φ L M' K) : OpK x ops Q ⟨none, .store t y z, ty, pos, af, g⟩ Φ L M K := by
  subst ho
  exact o_store (hm := hm) (hm' := hm') (vs := [.int .i64 u]) hg hy hz rfl rfl (by rw [cIx_length]; show off + 1 ≤ _; omega) rfl (by show (cI xs ++ ex).take off ++ [_] ++ (cI xs ++ ex).drop (off + 1) = _; rw [set_app _ _ _ _ (by rw [cI_length]; exact hk'), cI, set_map _ xs off u hk']; rfl) h
theorem o_storeBx {t : TypeId} {y z : Operand} {b off e : Nat} {xs : List Bool} {ex : List Value} {M' : Own} (k : Nat) (u : Bool) (hk' : k < xs.length) [hs : Siz x.P t 1] (hg : gd ops L g = some true) (hy : ev L y = some (.pointer (some ⟨b, off, none⟩))) (hz : ev L z = some (.bool u)) (ho : off = k)
    [hm : MGet M b (Ob (cBx xs ex) e)] [hm' : MSet M b (Ob (cBx xs ex) e) (Ob (cBx (xs.set k u) ex) e) M'] (h : G x Φ L M' K) : OpK x ops Q ⟨none, .store t y z, ty, pos, af, g⟩ Φ L M K := by
  subst ho
  exact o_store (hm := hm) (hm' := hm') (vs := [.bool u]) hg hy hz rfl rfl (by rw [cBx_length]; show off + 1 ≤ _; omega) rfl (by show (cB xs ++ ex).take off ++ [_] ++ (cB xs ++ ex).drop (off + 1) = _; rw [set_app _ _ _ _ (by rw [cB_length]; exact hk'), cB, set_map _ xs off u hk']; rfl) h
end
theorem permC {α : Type} {A B : List α} (h : ∀ (i : DecidableEq α) (x : α), A.count x = B.count x) : A.Perm B :=
  letI : DecidableEq α := fun a b => Classical.propDecidable (a = b)
  List.perm_iff_count.2 (h inferInstance)
theorem perm_in {α : Type} (z b t a : α) (L B D V : List α) : (z :: b :: t :: (L ++ (a :: (B ++ (D ++ V))))).Perm (b :: t :: a :: (B ++ z :: (L ++ (D ++ V)))) :=
  permC fun _ x => by simp only [List.count_append, List.count_cons]; omega
theorem perm_out {α : Type} (d z b t a : α) (B R : List α) : (b :: t :: a :: (B ++ d :: z :: R)).Perm (d :: z :: b :: t :: a :: (B ++ R)) :=
  permC fun _ x => by simp only [List.count_append, List.count_cons]; omega
theorem perm_ret {α : Type} (a : α) (L B D V : List α) : (a :: (B ++ (L ++ (D ++ V)))).Perm ((L ++ (a :: (B ++ D))) ++ V) :=
  permC fun _ x => by simp only [List.count_append, List.count_cons]; omega
theorem perm_mid {α : Type} (a : α) (L R : List α) : (a :: (L ++ R)).Perm (L ++ (a :: R)) :=
  permC fun _ x => by simp only [List.count_append, List.count_cons]; omega
theorem perm_front {α : Type} (a : α) (L R Z : List α) : ((L ++ (a :: R)) ++ Z).Perm (Z ++ (a :: (L ++ R))) :=
  permC fun _ x => by simp only [List.count_append, List.count_cons]; omega
theorem perm_call {α : Type} (p q a b : α) (R : List α) : (p :: q :: a :: b :: R).Perm ((b :: a :: R) ++ [p, q]) :=
  permC fun _ x => by simp only [List.count_append, List.count_cons, List.count_nil]; omega
/-- A loop within a round. -/
def busyL (r : Loop) : Obj := .loop { r with state := .busy, pending := none }
/-- The row of what is begun, if there is one. -/
def ownBx (e : TypeId) (q : Option (Nat × List Value)) (B : List Bool) : Own := match q with
  | none => []
  | some (b, ex) => [(b, Ob (cBx B ex) e)]
def oBx (q : Option (Nat × List Value)) (B : List Bool) : OR := q.map fun p => (p.1, cBx B p.2)
theorem ownBx_eq (e : TypeId) (q : Option (Nat × List Value)) (B : List Bool) : ownM e (oBx q B) = ownBx e q B := by cases q <;> rfl
theorem row_oBx (I : Imm) (q : Option (Nat × List Value)) (B : List Bool) (h : q = none → B = []) : RowRep I (ocells (oBx q B)) 0 B := by
  cases q with
  | none =>
    rw [h rfl]
    exact ⟨Nat.le_refl _, fun k hk => by cases hk⟩
  | some p => exact rowBx I B p.2
theorem own_oBx {v : Value} {n : Nat} {q : Option (Nat × List Value)} {B B' : List Bool} (h : IsOwn 1 v n (oBx q B)) (hl : B'.length = B.length) : IsOwn 1 v n (oBx q B') := by
  cases q with
  | none => exact h
  | some p =>
    obtain ⟨cap, e, h1, h2⟩ := h
    exact ⟨cap, e, by rw [cBx_length] at h1 ⊢; omega, h2⟩
theorem own_cIx {v : Value} {n b : Nat} {ex : List Value} {A A' : List Int} (h : IsOwn 1 v n (some (b, cIx A ex))) (hl : A'.length = A.length) : IsOwn 1 v n (some (b, cIx A' ex)) := by
  obtain ⟨cap, e, h1, h2⟩ := h
  exact ⟨cap, e, by rw [cIx_length] at h1 ⊢; omega, h2⟩
def dvL (l : Lot) : List Bool := (donesL l).getD []
def placeL : List Int → List Bool → List Nat → List Int → List Int × List Bool
  | A, B, i :: is, r :: rs => placeL (A.set i r) (B.set r.toNat true) is rs
  | A, B, _, _ => (A, B)
theorem placeL_nil (A : List Int) (B : List Bool) (is : List Nat) : placeL A B is [] = (A, B) := by cases is <;> rfl
theorem placeL_end (A : List Int) (B : List Bool) (rs : List Int) : placeL A B [] rs = (A, B) := by cases rs <;> rfl
def fillLot (l : Lot) : Lot :=
  { l with at_ := (placeL l.at_ l.begun (idleL l.at_) (readyR l.sets l.begun (dvL l))).1, begun := (placeL l.at_ l.begun (idleL l.at_) (readyR l.sets l.begun (dvL l))).2 }
theorem idle_sorted (A : List Int) : (idleL A).Pairwise (· < ·) := by
  unfold idleL idleR
  exact List.Pairwise.filter _ List.pairwise_lt_range'
theorem idle_lt {A : List Int} {m : Nat} (h : m < (idleL A).length) : (idleL A)[m] < A.length := by
  have key : ∀ v ∈ idleL A, v < A.length := fun v hv => by
    unfold idleL idleR at hv
    have := (List.mem_filter.1 hv).1
    rw [List.mem_range'_1] at this
    omega
  exact key _ (List.getElem_mem h)
/-- Behind m rounds only lanes ahead of the next one were written. -/
def AgreeI (A0 : List Int) (is : List Nat) (m : Nat) (A : List Int) : Prop := A.length = A0.length ∧ ∀ j, (m = 0 ∨ is.getD (m - 1) 0 < j) → A.getD j 0 = A0.getD j 0
theorem AgreeI.zero (A0 : List Int) (is : List Nat) : AgreeI A0 is 0 A0 := ⟨rfl, fun _ _ => rfl⟩
theorem AgreeI.step {A0 A : List Int} {m : Nat} (h : AgreeI A0 (idleL A0) m A) (hm : m < (idleL A0).length) (r : Int) : AgreeI A0 (idleL A0) (m + 1) (A.set (idleL A0)[m] r) := by
  refine ⟨by rw [List.length_set]; exact h.1, fun j hj => ?_⟩
  have e1 : (idleL A0).getD m 0 = (idleL A0)[m] := by rw [List.getD_eq_getElem?_getD, List.getElem?_eq_getElem hm]; rfl
  have hj' : (idleL A0)[m] < j := by
    rcases hj with hj | hj
    · omega
    · rw [Nat.add_sub_cancel, e1] at hj; exact hj
  rw [List.getD_eq_getElem?_getD, List.getElem?_set_ne (by omega), ← List.getD_eq_getElem?_getD]
  refine h.2 j ?_
  by_cases h0 : m = 0
  · exact .inl h0
  · right
    have hm1 : m - 1 < (idleL A0).length := by omega
    have e2 : (idleL A0).getD (m - 1) 0 = (idleL A0)[m - 1] := by rw [List.getD_eq_getElem?_getD, List.getElem?_eq_getElem hm1]; rfl
    rw [e2]
    have := List.pairwise_iff_getElem.1 (idle_sorted A0) (m - 1) m hm1 hm (by omega)
    omega
/-- The iterator over lanes reads a row that the rounds write. -/
def CRow (bA e : Nat) (ex : List Value) (A0 : List Int) (m : Nat) (s : St) : Prop := ∃ A M', s.2.Perm ((bA, Ob (cIx A ex) e) :: M') ∧ AgreeI A0 (idleL A0) m A
theorem CRow.more {bA e : Nat} {ex : List Value} {A0 : List Int} {m : Nat} {s : St} (h : CRow bA e ex A0 m s) (p : Nat × Obj) : CRow bA e ex A0 m (s.1, p :: s.2) := by
  obtain ⟨A, M', hp, ha⟩ := h
  exact ⟨A, p :: M', (hp.cons p).trans (List.Perm.swap _ _ _), ha⟩
theorem ready_at {l : List Sets} {b d : List Bool} {v : Int} (h : v ∈ readyR l b d) : ∃ k : Nat, k < l.length ∧ k < b.length ∧ v = (k : Int) := by
  unfold readyR at h
  split at h
  · rename_i hok
    obtain ⟨k, hk, rfl, _⟩ := mem_readyP.1 h
    have hb : b.length = l.length := by
      simp only [okR, Bool.and_eq_true, decide_eq_true_eq] at hok
      exact hok.1.1.2
    exact ⟨k, hk, by omega, rfl⟩
  · cases h
theorem ready_len (l : List Sets) (b d : List Bool) : (readyR l b d).length ≤ l.length := by
  unfold readyR
  split
  · exact readyP_length _ _ _ _
  · simp
end Go.Rail
set_option linter.unusedSimpArgs false
set_option linter.unusedVariables false
namespace Go.Rail
open Go
theorem getD_setB (B : List Bool) {k : Nat} (hk : k < B.length) (u : Bool) (i : Nat) : (B.set k u).getD i false = if i = k then u else B.getD i false := getD_set B hk u i
theorem getD_setI (A : List Int) {k : Nat} (hk : k < A.length) (u : Int) (i : Nat) : (A.set k u).getD i 0 = if i = k then u else A.getD i 0 := by
  by_cases h : i = k
  · subst h
    rw [if_pos rfl, List.getD_eq_getElem?_getD, List.getElem?_set_self hk]; rfl
  · rw [if_neg h, List.getD_eq_getElem?_getD, List.getElem?_set_ne (by omega), ← List.getD_eq_getElem?_getD]
theorem getD_at {α : Type} (A : List α) (z : α) {k : Nat} (hk : k < A.length) : A.getD k z = A[k] := by rw [List.getD_eq_getElem?_getD, List.getElem?_eq_getElem hk]; rfl
/-- In the places below n. -/
def InN (n : Nat) (ks : List Int) : Prop := ∀ k ∈ ks, ∃ j : Nat, k = (j : Int) ∧ j < n
theorem badM_iff {out : List Bool} {k : Int} : badM out k = false ↔ ∃ j : Nat, k = (j : Int) ∧ j < out.length ∧ out.getD j false = false := by
  unfold badM
  simp only [Bool.or_eq_false_iff, decide_eq_false_iff_not]
  constructor
  · rintro ⟨⟨h1, h2⟩, h3⟩
    exact ⟨k.toNat, by omega, by omega, h3⟩
  · rintro ⟨j, rfl, h1, h2⟩
    exact ⟨⟨by omega, by omega⟩, by rw [Int.toNat_natCast]; exact h2⟩
theorem markP_some : ∀ (ks : List Int) (out res : List Bool), markP out ks = some res → ks.Nodup ∧ InN out.length ks ∧ (∀ k : Nat, (k : Int) ∈ ks → out.getD k false = false) ∧ ∀ j : Nat, res.getD j false = (out.getD j false || decide ((j : Int) ∈ ks))
  | [], out, res, h => by
    cases h
    refine ⟨List.nodup_nil, ?_, ?_, ?_⟩
    · intro k hk; cases hk
    · intro k hk; cases hk
    · intro j; simp
  | k :: r, out, res, h => by
    rw [markP] at h
    cases hb : badM out k with
    | true => rw [hb, if_pos rfl] at h; cases h
    | false =>
      rw [hb, if_neg (by simp)] at h
      obtain ⟨j, rfl, hj, hf⟩ := badM_iff.1 hb
      rw [Int.toNat_natCast] at h
      obtain ⟨h1, h2, h3, h4⟩ := markP_some r _ res h
      have hnot : (j : Int) ∉ r := fun hm => by
        have := h3 j hm
        rw [getD_setB out hj, if_pos rfl] at this
        cases this
      refine ⟨List.nodup_cons.2 ⟨hnot, h1⟩, ?_, ?_, ?_⟩
      · intro x hx
        rcases List.mem_cons.1 hx with rfl | hx
        · exact ⟨j, rfl, hj⟩
        · obtain ⟨i, e, hi⟩ := h2 x hx
          exact ⟨i, e, by rw [List.length_set] at hi; exact hi⟩
      · intro x hx
        rcases List.mem_cons.1 hx with hx | hx
        · have : x = j := by omega
          subst this; exact hf
        · have := h3 x hx
          rw [getD_setB out hj] at this
          split at this
          · cases this
          · exact this
      · intro i
        rw [h4 i, getD_setB out hj]
        by_cases hi : i = j
        · subst hi; simp
        · have : ¬ ((i : Int) = (j : Int)) := by omega
          rw [if_neg hi]
          simp [this]
theorem markP_of : ∀ (ks : List Int) (out : List Bool), ks.Nodup → InN out.length ks → (∀ k : Nat, (k : Int) ∈ ks → out.getD k false = false) → ∃ res, markP out ks = some res
  | [], out, _, _, _ => ⟨out, rfl⟩
  | k :: r, out, h1, h2, h3 => by
    obtain ⟨j, rfl, hj⟩ := h2 k List.mem_cons_self
    have hb : badM out (j : Int) = false := badM_iff.2 ⟨j, rfl, hj, h3 j List.mem_cons_self⟩
    rw [markP, hb, if_neg (by simp), Int.toNat_natCast]
    obtain ⟨hn, hr⟩ := List.nodup_cons.1 h1
    refine markP_of r _ hr (fun x hx => ?_) (fun x hx => ?_)
    · obtain ⟨i, e, hi⟩ := h2 x (.tail _ hx)
      exact ⟨i, e, by rw [List.length_set]; exact hi⟩
    · rw [getD_setB out hj]
      split
      · rename_i e; subst e; exact absurd hx hn
      · exact h3 x (.tail _ hx)
/-- What lanes have. -/
def hasL (A : List Int) : List Int := A.filter fun k => decide (k ≠ -1)
theorem markA_eq : ∀ (ks : List Int) (out : List Bool), markA out ks = markP out (hasL ks)
  | [], out => rfl
  | k :: r, out => by
    rw [markA]
    unfold hasL
    rw [List.filter_cons]
    by_cases h : k = -1
    · have e : ¬ (decide (k ≠ -1) = true) := by simp [h]
      rw [if_pos h, if_neg e]
      exact markA_eq r out
    · have e : decide (k ≠ -1) = true := by simp [h]
      rw [if_neg h, if_pos e, markP]
      split
      · rfl
      · exact markA_eq r _
theorem mem_hasL {A : List Int} {k : Nat} : (k : Int) ∈ hasL A ↔ (k : Int) ∈ A := by
  unfold hasL
  rw [List.mem_filter]
  refine ⟨fun h => h.1, fun h => ⟨h, ?_⟩⟩
  have : ¬ ((k : Int) = -1) := by omega
  simp [this]
theorem repD (n i : Nat) : (List.replicate n false).getD i false = false := getD_rep n i
theorem len_of_inN {n : Nat} {ks : List Int} (h1 : ks.Nodup) (h2 : InN n ks) : ks.length ≤ n := by
  have := nodup_sub (B := (List.range n).map fun (k : Nat) => (k : Int)) h1 (fun x hx => by
    obtain ⟨j, rfl, hj⟩ := h2 x hx
    exact List.mem_map.2 ⟨j, List.mem_range.2 hj, rfl⟩)
  simpa using this
theorem idxG_mem {k : Int} {xs : List Int} (h : k ∈ xs) : idxG (fun a => decide (k = a)) xs = (xs.idxOf k : Int) := by
  have hany : xs.any (fun a => decide (k = a)) = true := List.any_eq_true.2 ⟨k, h, by simp⟩
  unfold idxG
  rw [if_pos hany]
  have : xs.findIdx (fun a => decide (k = a)) = xs.idxOf k := by
    unfold List.idxOf
    congr 1
    funext a
    rw [Bool.beq_eq_decide_eq]
    by_cases e : k = a
    · subst e; simp
    · have : ¬ a = k := fun h => e h.symm
      simp [e, this]
  rw [this]
/-- A right lot. -/
structure RightI (l : Lot) : Prop where
  may : mayG l.sets = true
  sl : l.left.length = l.sets.length
  sb : l.begun.length = l.sets.length
  a1 : 1 ≤ l.at_.length
  a2 : l.at_.length ≤ 64
  lb : ∀ k ∈ l.left, 0 ≤ k ∧ k ≤ 1099511627776
  dn : l.done.Nodup
  dr : InN l.sets.length l.done
  hn : (hasL l.at_).Nodup
  hr : InN l.sets.length (hasL l.at_)
  l0 : ∀ i : Nat, i < l.sets.length → ((i : Int) ∈ l.done ↔ l.left.getD i 0 = 0)
  dj : ∀ i : Nat, (i : Int) ∈ l.done → (i : Int) ∉ l.at_
  bg : ∀ i : Nat, i < l.sets.length → (l.begun.getD i false = true ↔ (i : Int) ∈ l.done ∨ (i : Int) ∈ l.at_)
  ed : ∀ e ∈ edgesG l.sets, l.begun.getD e.2 false = true → (e.1 : Int) ∈ l.done
  od : ∀ e ∈ edgesG l.sets, (e.2 : Int) ∈ l.done → (e.1 : Int) ∈ l.done → l.done.idxOf (e.1 : Int) ≤ l.done.idxOf (e.2 : Int)
theorem shapeL_iff {l : Lot} : shapeL l = true ↔ l.left.length = l.sets.length ∧ l.begun.length = l.sets.length ∧ 1 ≤ l.at_.length ∧ l.at_.length ≤ 64 ∧ ∀ k ∈ l.left, 0 ≤ k ∧ k ≤ 1099511627776 := by
  refine ⟨shape_parts, fun ⟨h1, h2, h3, h4, h5⟩ => ?_⟩
  have : l.left.any oddLeft = false := List.any_eq_false.2 fun k hk => by
    have := h5 k hk
    simp [oddLeft]; omega
  simp [shapeL, h1, h2, h3, h4, this]
theorem rightL_iff {l : Lot} : rightL l = true ↔ RightI l := by
  constructor
  · intro h
    have hms := right_parts2 h
    obtain ⟨s1, s2, s3, s4, s5⟩ := shapeL_iff.1 hms.2
    cases hD : donesL l with
    | none => rw [rightL_done hD] at h; cases h
    | some D =>
    cases hH : heldL l with
    | none => rw [rightL_held hH] at h; cases h
    | some H =>
    rw [rightL, hD, hH] at h
    simp only [Bool.and_eq_true] at h
    obtain ⟨_, hi, hp⟩ := h
    have hD' := hD
    have hH' := hH
    unfold donesL at hD'
    unfold heldL at hH'
    rw [markA_eq] at hH'
    obtain ⟨d1, d2, _, d4⟩ := markP_some _ _ _ hD'
    obtain ⟨g1, g2, _, g4⟩ := markP_some _ _ _ hH'
    rw [List.length_replicate] at d2 g2
    have dD : ∀ j : Nat, D.getD j false = decide ((j : Int) ∈ l.done) := fun j => by rw [d4 j, repD, Bool.false_or]
    have dH : ∀ j : Nat, H.getD j false = decide ((j : Int) ∈ l.at_) := fun j => by
      rw [g4 j, repD, Bool.false_or]
      exact decide_eq_decide.2 mem_hasL
    have hok : ∀ i, i < l.sets.length → okI l D H i = true := fun i h => List.all_eq_true.1 hi i (List.mem_range.2 h)
    have hokp : ∀ e ∈ edgesG l.sets, okP l D e = true := fun e h => List.all_eq_true.1 hp e h
    have hlt : ∀ i : Nat, (i : Int) ∈ l.done → i < l.sets.length := fun i hi => by
      obtain ⟨j, e, hj⟩ := d2 _ hi
      omega
    simp only [okI, dD, dH, Bool.and_eq_true, beq_iff_eq, Bool.not_eq_true', Bool.and_eq_false_iff] at hok
    simp only [okP, dD, Bool.and_eq_true, Bool.not_eq_true', Bool.and_eq_false_iff, Bool.not_eq_false', decide_eq_false_iff_not, decide_eq_true_eq] at hokp
    have hed : ∀ e ∈ edgesG l.sets, l.begun.getD e.2 false = true → (e.1 : Int) ∈ l.done := fun e he hb => by
      rcases (hokp e he).1 with h | h
      · rw [hb] at h; cases h
      · exact h
    refine ⟨hms.1, s1, s2, s3, s4, s5, d1, d2, g1, g2, ?_, ?_, ?_, hed, ?_⟩
    · intro i hi
      have := (hok i hi).1.1
      exact decide_eq_decide.1 this
    · intro i hi ha
      rcases (hok i (hlt i hi)).1.2 with h | h
      · exact of_decide_eq_false h hi
      · exact of_decide_eq_false h ha
    · intro i hi
      rw [(hok i hi).2]
      simp
    · intro e he h2 h1
      rcases (hokp e he).2 with h | h
      · exact absurd h2 h
      · unfold idxD at h
        rw [idxG_mem h1, idxG_mem h2] at h
        omega
  · intro h
    obtain ⟨D, hD⟩ := markP_of l.done (List.replicate l.sets.length false) h.dn (by rw [List.length_replicate]; exact h.dr) (fun k _ => repD _ _)
    obtain ⟨H, hH⟩ := markP_of (hasL l.at_) (List.replicate l.sets.length false) h.hn (by rw [List.length_replicate]; exact h.hr) (fun k _ => repD _ _)
    obtain ⟨_, _, _, d4⟩ := markP_some _ _ _ hD
    obtain ⟨_, _, _, g4⟩ := markP_some _ _ _ hH
    have dD : ∀ j : Nat, D.getD j false = decide ((j : Int) ∈ l.done) := fun j => by rw [d4 j, repD, Bool.false_or]
    have dH : ∀ j : Nat, H.getD j false = decide ((j : Int) ∈ l.at_) := fun j => by
      rw [g4 j, repD, Bool.false_or]
      exact decide_eq_decide.2 mem_hasL
    have hlt : ∀ i : Nat, (i : Int) ∈ l.done → i < l.sets.length := fun i hi => by
      obtain ⟨j, e, hj⟩ := h.dr _ hi
      omega
    refine rightL_all (D := D) (H := H) h.may (shapeL_iff.2 ⟨h.sl, h.sb, h.a1, h.a2, h.lb⟩) hD (by unfold heldL; rw [markA_eq]; exact hH) ?_ ?_
    · intro i hi
      simp only [okI, dD, dH, Bool.and_eq_true, beq_iff_eq, Bool.not_eq_true', Bool.and_eq_false_iff]
      refine ⟨⟨decide_eq_decide.2 (h.l0 i hi), ?_⟩, ?_⟩
      · by_cases hd : (i : Int) ∈ l.done
        · exact .inr (decide_eq_false (h.dj i hd))
        · exact .inl (decide_eq_false hd)
      · have := h.bg i hi
        cases hb : l.begun.getD i false with
        | true =>
          rw [hb] at this
          have := this.1 rfl
          simp [this]
        | false =>
          rw [hb] at this
          have h1 : ¬ ((i : Int) ∈ l.done ∨ (i : Int) ∈ l.at_) := fun hh => by have := this.2 hh; cases this
          rw [not_or] at h1
          simp [h1.1, h1.2]
    · intro q hq
      have he : (edgesG l.sets)[q] ∈ edgesG l.sets := List.getElem_mem hq
      have hlt2 := (mem_edgesG.1 he).2.1
      simp only [okP, dD, Bool.and_eq_true, Bool.not_eq_true', Bool.and_eq_false_iff, Bool.not_eq_false', decide_eq_false_iff_not, decide_eq_true_eq]
      refine ⟨?_, ?_⟩
      · cases hb : l.begun.getD (edgesG l.sets)[q].2 false with
        | true => exact .inr (h.ed _ he hb)
        | false => exact .inl rfl
      · by_cases h2 : ((edgesG l.sets)[q].2 : Int) ∈ l.done
        · right
          have h1 : ((edgesG l.sets)[q].1 : Int) ∈ l.done := h.ed _ he ((h.bg _ hlt2).2 (.inl h2))
          have := h.od _ he h2 h1
          unfold idxD
          rw [idxG_mem h1, idxG_mem h2]
          omega
        · exact .inl h2

theorem hasL_app (A B : List Int) : hasL (A ++ B) = hasL A ++ hasL B := by unfold hasL; exact List.filter_append _ _
theorem hasL_cons (k : Int) (B : List Int) (h : k ≠ -1) : hasL (k :: B) = k :: hasL B := by unfold hasL; rw [List.filter_cons, if_pos (by simp [h])]
theorem hasL_none (B : List Int) : hasL (-1 :: B) = hasL B := by unfold hasL; rw [List.filter_cons, if_neg (by simp)]
theorem place_hasL {A : List Int} {i k : Nat} (hi : i < A.length) (h : A.getD i 0 = -1) : (hasL (A.set i (k : Int))).Perm ((k : Int) :: hasL A) := by
  rw [getD_at A 0 hi] at h
  have e : A = A.take i ++ -1 :: A.drop (i + 1) := by rw [← h]; simp
  have h1 : hasL A = hasL (A.take i) ++ hasL (A.drop (i + 1)) := by
    conv => lhs; rw [e]
    rw [hasL_app, hasL_none]
  rw [List.set_eq_take_append_cons_drop, if_pos hi, hasL_app, hasL_cons _ _ (by omega), h1]
  exact List.perm_middle
theorem drop_hasL {A : List Int} {i k : Nat} (hi : i < A.length) (h : A.getD i 0 = (k : Int)) : (hasL A).Perm ((k : Int) :: hasL (A.set i (-1))) := by
  have := place_hasL (A := A.set i (-1)) (i := i) (k := k) (by rw [List.length_set]; exact hi) (by rw [getD_setI A hi, if_pos rfl])
  rw [List.set_set] at this
  have e : A.set i (k : Int) = A := by
    rw [← h, getD_at A 0 hi]
    exact List.set_getElem_self hi
  rwa [e] at this
theorem place_one {s : List Sets} {L A D : List Int} {B : List Bool} (h : RightI ⟨s, L, A, B, D⟩) {i k : Nat} (hi : i < A.length) (h0 : A.getD i 0 = -1) (hk : k < s.length) (hb : B.getD k false = false) (he : ∀ e ∈ edgesG s, e.2 = k → (e.1 : Int) ∈ D) : RightI ⟨s, L, A.set i (k : Int), B.set k true, D⟩ := by
  have hp := place_hasL (k := k) hi h0
  have hkB : k < B.length := by have := h.sb; dsimp only at this; omega
  have hnot : ¬ ((k : Int) ∈ D ∨ (k : Int) ∈ A) := fun hh => by
    have := (h.bg k hk).2 hh
    dsimp only at this
    rw [hb] at this; cases this
  rw [not_or] at hnot
  have hm : ∀ x : Nat, (x : Int) ∈ A.set i (k : Int) ↔ x = k ∨ (x : Int) ∈ A := fun x => by
    rw [← mem_hasL, hp.mem_iff, List.mem_cons, mem_hasL]
    constructor
    · rintro (e | e)
      · exact .inl (by omega)
      · exact .inr e
    · rintro (e | e)
      · exact .inl (by omega)
      · exact .inr e
  refine ⟨h.may, h.sl, by dsimp only; rw [List.length_set]; exact h.sb, by dsimp only; rw [List.length_set]; exact h.a1, by dsimp only; rw [List.length_set]; exact h.a2, h.lb, h.dn, h.dr, ?_, ?_, h.l0, ?_, ?_, ?_, h.od⟩
  · exact hp.nodup_iff.2 (List.nodup_cons.2 ⟨fun hh => hnot.2 (mem_hasL.1 hh), h.hn⟩)
  · intro x hx
    rcases List.mem_cons.1 (hp.mem_iff.1 hx) with rfl | hx
    · exact ⟨k, rfl, hk⟩
    · exact h.hr x hx
  · intro x hx hx2
    rcases (hm x).1 hx2 with rfl | hx2
    · exact hnot.1 hx
    · exact h.dj x hx hx2
  · intro x hx
    dsimp only
    rw [getD_setB B hkB, hm]
    by_cases hxk : x = k
    · rw [if_pos hxk]; simp [hxk]
    · rw [if_neg hxk]
      have := h.bg x hx
      dsimp only at this
      rw [this]
      simp [hxk]
  · intro e hee hb2
    dsimp only at hb2
    rw [getD_setB B hkB] at hb2
    by_cases hxk : e.2 = k
    · exact he e hee hxk
    · rw [if_neg hxk] at hb2
      exact h.ed e hee hb2
theorem place_right : ∀ (is : List Nat) (rs : List Int) {s : List Sets} {L A D : List Int} {B : List Bool}, RightI ⟨s, L, A, B, D⟩ → is.Nodup → (∀ i ∈ is, i < A.length ∧ A.getD i 0 = -1) → rs.Nodup →
    (∀ r ∈ rs, ∃ k : Nat, r = (k : Int) ∧ k < s.length ∧ B.getD k false = false ∧ ∀ e ∈ edgesG s, e.2 = k → (e.1 : Int) ∈ D) → RightI ⟨s, L, (placeL A B is rs).1, (placeL A B is rs).2, D⟩
  | [], rs, s, L, A, D, B, h, _, _, _, _ => by rw [placeL_end]; exact h
  | i :: is, [], s, L, A, D, B, h, _, _, _, _ => by rw [placeL_nil]; exact h
  | i :: is, r :: rs, s, L, A, D, B, h, hi, hA, hr, hR => by
    obtain ⟨k, rfl, hk, hb, he⟩ := hR r List.mem_cons_self
    obtain ⟨h1, h2⟩ := hA i List.mem_cons_self
    have hkB : k < B.length := by have := h.sb; dsimp only at this; omega
    rw [placeL, Int.toNat_natCast]
    refine place_right is rs (place_one h h1 h2 hk hb he) (List.nodup_cons.1 hi).2 (fun j hj => ?_) (List.nodup_cons.1 hr).2 (fun r hr' => ?_)
    · obtain ⟨g1, g2⟩ := hA j (.tail _ hj)
      refine ⟨by rw [List.length_set]; exact g1, ?_⟩
      rw [getD_setI A h1, if_neg (fun e => by subst e; exact (List.nodup_cons.1 hi).1 hj)]
      exact g2
    · obtain ⟨k', rfl, hk', hb', he'⟩ := hR r (.tail _ hr')
      refine ⟨k', rfl, hk', ?_, he'⟩
      rw [getD_setB B hkB, if_neg (fun e => by subst e; exact (List.nodup_cons.1 hr).1 hr')]
      exact hb'
theorem right_marks {l : Lot} (h : RightI l) : ∃ D, donesL l = some D ∧ D.length = l.sets.length ∧ ∀ j : Nat, D.getD j false = decide ((j : Int) ∈ l.done) := by
  obtain ⟨D, hD⟩ := markP_of l.done (List.replicate l.sets.length false) h.dn (by rw [List.length_replicate]; exact h.dr) (fun k _ => repD _ _)
  obtain ⟨_, _, _, d4⟩ := markP_some _ _ _ hD
  exact ⟨D, hD, by rw [markP_len _ _ _ hD, List.length_replicate], fun j => by rw [d4 j, repD, Bool.false_or]⟩
theorem mem_idleL {A : List Int} {i : Nat} : i ∈ idleL A ↔ i < A.length ∧ A.getD i 0 = -1 := by
  unfold idleL idleR
  rw [List.mem_filter, List.mem_range'_1]
  simp
theorem ready_nodup (l : List Sets) (b d : List Bool) : (readyR l b d).Nodup := by
  unfold readyR
  split
  · unfold readyP
    refine List.Pairwise.map _ (fun a b h => ?_) ((List.nodup_range).filter _)
    omega
  · exact .nil
theorem mem_readyR {l : Lot} (h : RightI l) {v : Int} (hv : v ∈ readyR l.sets l.begun (dvL l)) : ∃ k : Nat, v = (k : Int) ∧ k < l.sets.length ∧ l.begun.getD k false = false ∧ ∀ e ∈ edgesG l.sets, e.2 = k → (e.1 : Int) ∈ l.done := by
  obtain ⟨D, hD, _, hm⟩ := right_marks h
  unfold dvL at hv
  rw [hD] at hv
  change v ∈ readyR l.sets l.begun D at hv
  unfold readyR at hv
  split at hv
  · obtain ⟨k, hk, rfl, hb, hw⟩ := mem_ready hv
    refine ⟨k, rfl, hk, hb, fun e he e2 => ?_⟩
    obtain ⟨h1, h2, h3⟩ := mem_edgesG.1 he
    subst e2
    have := hw e.1 h1 h3
    rw [hm] at this
    exact of_decide_eq_true this
  · cases hv
theorem idle_nodup (A : List Int) : (idleL A).Nodup := (idle_sorted A).imp (fun {a b} h => by omega)
theorem fill_right {l : Lot} (h : RightI l) : RightI (fillLot l) := by
  unfold fillLot
  exact place_right (idleL l.at_) (readyR l.sets l.begun (dvL l)) (s := l.sets) (L := l.left) (A := l.at_) (D := l.done) (B := l.begun) h (idle_nodup _) (fun i hi => mem_idleL.1 hi) (ready_nodup _ _ _) (fun r hr => mem_readyR h hr)
def atK (l : Lot) (lane : Int) : Int := l.at_.getD lane.toNat 0
def noP (l : Lot) (lane : Int) : Bool := decide (lane < 0) || decide ((l.at_.length : Int) ≤ lane) || decide (atK l lane = -1)
def lessL (l : Lot) (lane : Int) : List Int := l.left.set (atK l lane).toNat (l.left.getD (atK l lane).toNat 0 - 1)
def pickL (l : Lot) (lane : Int) : Lot :=
  if noP l lane then l else if l.left.getD (atK l lane).toNat 0 - 1 = 0 then fillLot ⟨l.sets, lessL l lane, l.at_.set lane.toNat (-1), l.begun, l.done ++ [atK l lane]⟩ else ⟨l.sets, lessL l lane, l.at_, l.begun, l.done⟩
theorem pick_at {l : Lot} (h : RightI l) {lane : Int} (hn : noP l lane = false) : ∃ i k : Nat, lane = (i : Int) ∧ i < l.at_.length ∧ l.at_.getD i 0 = (k : Int) ∧ k < l.sets.length ∧ k < l.left.length ∧ 1 ≤ l.left.getD k 0 ∧ l.left.getD k 0 ≤ 1099511627776 ∧ (k : Int) ∉ l.done := by
  simp only [noP, Bool.or_eq_false_iff, decide_eq_false_iff_not] at hn
  obtain ⟨⟨h1, h2⟩, h3⟩ := hn
  unfold atK at h3
  obtain ⟨i, rfl⟩ : ∃ i : Nat, lane = (i : Int) := ⟨lane.toNat, by omega⟩
  rw [Int.toNat_natCast] at h3
  have hi : i < l.at_.length := by omega
  have hmem : l.at_.getD i 0 ∈ l.at_ := by rw [getD_at _ _ hi]; exact List.getElem_mem hi
  obtain ⟨k, hk, hkn⟩ := h.hr (l.at_.getD i 0) (by unfold hasL; exact List.mem_filter.2 ⟨hmem, by simp only [decide_eq_true_eq]; exact h3⟩)
  rw [hk] at hmem
  have hnd : (k : Int) ∉ l.done := fun hd => h.dj k hd hmem
  have hkl : k < l.left.length := by rw [h.sl]; exact hkn
  have hne : l.left.getD k 0 ≠ 0 := fun e => hnd ((h.l0 k hkn).2 e)
  have hb := h.lb (l.left.getD k 0) (by rw [getD_at _ _ hkl]; exact List.getElem_mem hkl)
  exact ⟨i, k, rfl, hi, hk, hkn, hkl, by omega, hb.2, hnd⟩
theorem lb_set {L : List Int} {k : Nat} {u : Int} (h : ∀ x ∈ L, 0 ≤ x ∧ x ≤ 1099511627776) (hu : 0 ≤ u ∧ u ≤ 1099511627776) : ∀ x ∈ L.set k u, 0 ≤ x ∧ x ≤ 1099511627776 := by
  intro x hx
  rcases List.mem_or_eq_of_mem_set hx with hx | rfl
  · exact h x hx
  · exact hu
theorem mid_right {l : Lot} (h : RightI l) {i k : Nat} (hi : i < l.at_.length) (hk : l.at_.getD i 0 = (k : Int)) (hkn : k < l.sets.length) (hkl : k < l.left.length) (hnd : (k : Int) ∉ l.done) (hz : l.left.getD k 0 - 1 = 0) : RightI ⟨l.sets, l.left.set k (l.left.getD k 0 - 1), l.at_.set i (-1), l.begun, l.done ++ [(k : Int)]⟩ := by
  have hkat : (k : Int) ∈ l.at_ := by rw [← hk, getD_at _ _ hi]; exact List.getElem_mem hi
  have hbk : l.begun.getD k false = true := (h.bg k hkn).2 (.inr hkat)
  have hp := drop_hasL hi hk
  have hm : ∀ x : Nat, (x : Int) ∈ l.at_ ↔ x = k ∨ (x : Int) ∈ l.at_.set i (-1) := fun x => by
    rw [← mem_hasL, hp.mem_iff, List.mem_cons, mem_hasL]
    constructor
    · rintro (e | e)
      · exact .inl (by omega)
      · exact .inr e
    · rintro (e | e)
      · exact .inl (by omega)
      · exact .inr e
  have hnn := List.nodup_cons.1 (hp.nodup_iff.1 h.hn)
  have hns : (k : Int) ∉ l.at_.set i (-1) := fun hh => hnn.1 (mem_hasL.2 hh)
  have hmd : ∀ x : Nat, (x : Int) ∈ l.done ++ [(k : Int)] ↔ (x : Int) ∈ l.done ∨ x = k := fun x => by
    rw [List.mem_append, List.mem_singleton]
    constructor
    · rintro (e | e)
      · exact .inl e
      · exact .inr (by omega)
    · rintro (e | e)
      · exact .inl e
      · exact .inr (by omega)
  refine ⟨h.may, by dsimp only; rw [List.length_set]; exact h.sl, h.sb, by dsimp only; rw [List.length_set]; exact h.a1, by dsimp only; rw [List.length_set]; exact h.a2, lb_set h.lb (by omega), ?_, ?_, hnn.2, ?_, ?_, ?_, ?_, ?_, ?_⟩
  · refine List.nodup_append.2 ⟨h.dn, by simp, ?_⟩
    intro a ha b hb e
    rw [List.mem_singleton] at hb
    subst hb e
    exact hnd ha
  · intro x hx
    rcases List.mem_append.1 hx with hx | hx
    · exact h.dr x hx
    · rw [List.mem_singleton] at hx
      exact ⟨k, hx, hkn⟩
  · intro x hx
    exact h.hr x (hp.mem_iff.2 (.tail _ hx))
  · intro x hx
    dsimp only
    rw [hmd, getD_setI l.left hkl]
    by_cases e : x = k
    · rw [if_pos e, hz, e]; exact ⟨fun _ => rfl, fun _ => .inr rfl⟩
    · rw [if_neg e]
      have := h.l0 x hx
      simp [e, this]
  · intro x hx hx2
    rcases (hmd x).1 hx with hx | rfl
    · exact h.dj x hx ((hm x).2 (.inr hx2))
    · exact hns hx2
  · intro x hx
    dsimp only
    rw [h.bg x hx, hmd, hm]
    constructor
    · rintro (e | e | e)
      · exact .inl (.inl e)
      · exact .inl (.inr e)
      · exact .inr e
    · rintro ((e | e) | e)
      · exact .inl e
      · exact .inr (.inl e)
      · exact .inr (.inr e)
  · intro e he hb
    exact List.mem_append_left _ (h.ed e he hb)
  · intro e he h2 h1
    dsimp only at h1 h2 ⊢
    have hlt := (mem_edgesG.1 he).2.1
    rcases (hmd e.2).1 h2 with h2' | h2'
    · have h1' := h.ed e he ((h.bg e.2 hlt).2 (.inl h2'))
      rw [List.idxOf_append, List.idxOf_append, if_pos h1', if_pos h2']
      exact h.od e he h2' h1'
    · have h1' := h.ed e he (by rw [h2']; exact hbk)
      have h2n : (e.2 : Int) ∉ l.done := by rw [h2']; exact hnd
      rw [List.idxOf_append, List.idxOf_append, if_pos h1', if_neg h2n]
      have := List.idxOf_lt_length_of_mem h1'
      omega
theorem pick_right {l : Lot} (h : RightI l) (lane : Int) : RightI (pickL l lane) := by
  unfold pickL
  cases hn : noP l lane with
  | true => rw [if_pos rfl]; exact h
  | false =>
    rw [if_neg (by simp)]
    obtain ⟨i, k, rfl, hi, hk, hkn, hkl, g1, g2, hnd⟩ := pick_at h hn
    have hat : atK l (i : Int) = (k : Int) := by unfold atK; rw [Int.toNat_natCast]; exact hk
    unfold lessL
    rw [hat, Int.toNat_natCast, Int.toNat_natCast]
    have hkat : (k : Int) ∈ l.at_ := by rw [← hk, getD_at _ _ hi]; exact List.getElem_mem hi
    have hbk : l.begun.getD k false = true := (h.bg k hkn).2 (.inr hkat)
    split
    · rename_i hz
      exact fill_right (mid_right h hi hk hkn hkl hnd hz)
    · rename_i hz
      refine ⟨h.may, by dsimp only; rw [List.length_set]; exact h.sl, h.sb, h.a1, h.a2, lb_set h.lb (by omega), h.dn, h.dr, h.hn, h.hr, ?_, h.dj, h.bg, h.ed, h.od⟩
      intro x hx
      dsimp only
      rw [getD_setI l.left hkl]
      by_cases e : x = k
      · rw [if_pos e, e]; exact ⟨fun hh => absurd hh hnd, fun hh => absurd hh hz⟩
      · rw [if_neg e]; exact h.l0 x hx
theorem right_done_len {l : Lot} (h : RightI l) : l.done.length ≤ l.sets.length := len_of_inN h.dn h.dr
def okN (s : List Sets) (c : List Int) (w : Int) : Bool := mayG s && decide (c.length = s.length) && decide (1 ≤ w) && decide (w ≤ 64) && !(c.any oddCost)
def errN (s : List Sets) (c : List Int) (w : Int) : Int := if okN s c w then 0 else 1
def rawN (s : List Sets) (c : List Int) (w : Int) : Lot := ⟨s, c, List.replicate w.toNat (-1), List.replicate s.length false, []⟩
def newL (s : List Sets) (c : List Int) (w : Int) : Lot := if okN s c w then fillLot (rawN s c w) else ⟨[], [], [], [], []⟩
theorem okN_iff {s : List Sets} {c : List Int} {w : Int} : okN s c w = true ↔ mayG s = true ∧ c.length = s.length ∧ 1 ≤ w ∧ w ≤ 64 ∧ ∀ x ∈ c, 1 ≤ x ∧ x ≤ 1099511627776 := by
  simp only [okN, Bool.and_eq_true, decide_eq_true_eq, Bool.not_eq_true', List.any_eq_false, and_assoc]
  refine and_congr_right fun _ => and_congr_right fun _ => and_congr_right fun _ => and_congr_right fun _ => ?_
  refine forall_congr' fun x => forall_congr' fun _ => ?_
  simp only [oddCost, Bool.or_eq_true, decide_eq_true_eq]
  omega
theorem raw_right {s : List Sets} {c : List Int} {w : Int} (h : okN s c w = true) : RightI (rawN s c w) := by
  obtain ⟨h1, h2, h3, h4, h5⟩ := okN_iff.1 h
  have hh : hasL (List.replicate w.toNat (-1)) = [] := by
    unfold hasL
    rw [List.filter_eq_nil_iff]
    intro a ha
    rw [List.eq_of_mem_replicate ha]
    simp
  unfold rawN
  refine ⟨h1, h2, by dsimp only; rw [List.length_replicate], by dsimp only; rw [List.length_replicate]; omega, by dsimp only; rw [List.length_replicate]; omega, fun k hk => by have := h5 k hk; omega, List.nodup_nil, ?_, ?_, ?_, ?_, ?_, ?_, ?_, ?_⟩
  · intro k hk; cases hk
  · dsimp only; rw [hh]; exact List.nodup_nil
  · dsimp only; rw [hh]; intro k hk; cases hk
  · intro i hi
    dsimp only at hi ⊢
    have hi' : i < c.length := by omega
    have := h5 c[i] (List.getElem_mem hi')
    rw [getD_at _ _ hi']
    simp; omega
  · intro i hi; cases hi
  · intro i hi
    dsimp only
    rw [repD, ← mem_hasL (A := List.replicate w.toNat (-1)), hh]
    simp
  · intro e he hb
    dsimp only at hb
    rw [repD] at hb; cases hb
  · intro e he hb; cases hb
theorem new_right {s : List Sets} {c : List Int} {w : Int} (h : okN s c w = true) : RightI (newL s c w) := by
  unfold newL
  rw [if_pos h]
  exact fill_right (raw_right h)
def pickR (l : Lot) (lane : Int) : Lot := if rightL l then pickL l lane else l
def isR (l : Lot) (lane : Int) : Bool := rightL l && !noP l lane
/-- Picks, one by one, and how many there were of lanes that had something. -/
def runS : Lot → Int → List Int → Lot × Int
  | l, n, [] => (l, n)
  | l, n, p :: ps => runS (pickL l p) (if noP l p then n else n + 1) ps
theorem runS_right : ∀ (ps : List Int) {l : Lot} (n : Int), RightI l → RightI (runS l n ps).1
  | [], l, n, h => h
  | p :: ps, l, n, h => runS_right ps _ (pick_right h p)
def errRun (l : Lot) (ps : List Int) : Int := if rightL l then (if ps.length > 20000 then 2 else 0) else 1
def runL (l : Lot) (ps : List Int) : Lot := if rightL l then (if ps.length > 20000 then l else (runS l 0 ps).1) else l
def cntL (l : Lot) (ps : List Int) : Int := if rightL l then (if ps.length > 20000 then 0 else (runS l 0 ps).2) else 0
theorem pickL_sets (l : Lot) (lane : Int) : (pickL l lane).sets = l.sets := by
  unfold pickL
  split
  · rfl
  · split <;> rfl
end Go.Rail
set_option linter.unusedSimpArgs false
set_option linter.unusedVariables false
namespace Go.Rail
open Go
theorem pick_none {l : Lot} {lane : Int} (h : noP l lane = true) : pickL l lane = l := by unfold pickL; rw [if_pos h]
theorem atK_nat (l : Lot) (i : Nat) : atK l (i : Int) = l.at_.getD i 0 := by unfold atK; rw [Int.toNat_natCast]
def AllD (l : Lot) : Prop := ∀ i : Nat, i < l.sets.length → (i : Int) ∈ l.done
def FillB (l : Lot) : Prop := (∃ i, i < l.at_.length ∧ l.at_.getD i 0 ≠ -1) ∨ AllD l
theorem place_len : ∀ (is : List Nat) (rs : List Int) (A : List Int) (B : List Bool), (placeL A B is rs).1.length = A.length ∧ (placeL A B is rs).2.length = B.length
  | [], rs, A, B => by rw [placeL_end]; exact ⟨rfl, rfl⟩
  | i :: is, [], A, B => by rw [placeL_nil]; exact ⟨rfl, rfl⟩
  | i :: is, r :: rs, A, B => by
    rw [placeL]
    obtain ⟨h1, h2⟩ := place_len is rs (A.set i r) (B.set r.toNat true)
    exact ⟨by rw [h1, List.length_set], by rw [h2, List.length_set]⟩
theorem getD_set_any (A : List Int) (k : Nat) (u : Int) (i : Nat) (z : Int) (h : A.getD i z ≠ -1) (hu : u ≠ -1) : (A.set k u).getD i z ≠ -1 := by
  rw [List.getD_eq_getElem?_getD, List.getElem?_set]
  rw [List.getD_eq_getElem?_getD] at h
  by_cases e : k = i
  · rw [if_pos e]
    by_cases hk : k < A.length
    · rw [if_pos hk]; exact hu
    · rw [if_neg hk]
      rw [List.getElem?_eq_none (by omega)] at h
      exact h
  · rw [if_neg e]; exact h
theorem place_keep : ∀ (is : List Nat) (rs : List Int) (A : List Int) (B : List Bool) (j : Nat), A.getD j 0 ≠ -1 → (∀ r ∈ rs, 0 ≤ r) → (placeL A B is rs).1.getD j 0 ≠ -1
  | [], rs, A, B, j, h, _ => by rw [placeL_end]; exact h
  | i :: is, [], A, B, j, h, _ => by rw [placeL_nil]; exact h
  | i :: is, r :: rs, A, B, j, h, hr => by
    rw [placeL]
    have := hr r List.mem_cons_self
    exact place_keep is rs _ _ j (getD_set_any A i r j 0 h (by omega)) (fun r h => hr r (.tail _ h))
theorem fill_atlen (l : Lot) : (fillLot l).at_.length = l.at_.length := (place_len _ _ _ _).1
theorem right_dv {l : Lot} (h : RightI l) : (dvL l).length = l.sets.length ∧ ∀ j : Nat, (dvL l).getD j false = decide ((j : Int) ∈ l.done) := by
  obtain ⟨D, hD, hlen, hm⟩ := right_marks h
  unfold dvL
  rw [hD]
  exact ⟨hlen, hm⟩
theorem right_ok {l : Lot} (h : RightI l) : okR l.sets l.begun (dvL l) = true := by
  obtain ⟨hlen, hm⟩ := right_dv h
  have hb : badG l.begun (dvL l) l.sets.length = false := by
    rw [badG, List.any_eq_false]
    intro k hk
    rw [List.mem_range] at hk
    rw [hm k]
    by_cases hd : (k : Int) ∈ l.done
    · rw [(h.bg k hk).2 (.inl hd)]; simp
    · simp [hd]
  rw [okR, h.may, decide_eq_true h.sb, decide_eq_true hlen, hb]; rfl
theorem ready_iff {l : Lot} (h : RightI l) {k : Nat} : (k : Int) ∈ readyR l.sets l.begun (dvL l) ↔ k < l.sets.length ∧ l.begun.getD k false = false ∧ ∀ e ∈ edgesG l.sets, e.2 = k → (e.1 : Int) ∈ l.done := by
  constructor
  · intro hv
    obtain ⟨k', e, h1, h2, h3⟩ := mem_readyR h hv
    obtain rfl : k = k' := by omega
    exact ⟨h1, h2, h3⟩
  · rintro ⟨hk, hb, he⟩
    unfold readyR
    rw [if_pos (right_ok h)]
    refine mem_readyP.2 ⟨k, hk, rfl, ?_⟩
    rw [mayBegin, hb, (waitE_iff hk).2 (fun i hi hc => ?_)]
    · rfl
    · rw [(right_dv h).2 i]
      exact decide_eq_true (he (i, k) (mem_edgesG.2 ⟨hi, hk, hc⟩) rfl)
theorem ready_pos {l : Lot} (h : RightI l) : ∀ r ∈ readyR l.sets l.begun (dvL l), 0 ≤ r := fun r hr => by
  obtain ⟨k, rfl, _⟩ := mem_readyR h hr
  omega
/-- If no lane has anything and not all is done, the least that is not done is ready. -/
theorem ready_least {l : Lot} (h : RightI l) (hall : ∀ i, i < l.at_.length → l.at_.getD i 0 = -1) {k : Nat} (hk : k < l.sets.length) (hn : (k : Int) ∉ l.done) (hl : ∀ i, i < k → (i : Int) ∈ l.done) : (k : Int) ∈ readyR l.sets l.begun (dvL l) := by
  refine (ready_iff h).2 ⟨hk, ?_, fun e he e2 => ?_⟩
  · cases hb : l.begun.getD k false with
    | false => rfl
    | true =>
      rcases (h.bg k hk).1 hb with hd | ha
      · exact absurd hd hn
      · obtain ⟨i, hi, e⟩ := List.mem_iff_getElem.1 ha
        have := hall i hi
        rw [getD_at _ _ hi, e] at this
        omega
  · have := (mem_edgesG.1 he).1
    exact hl e.1 (by omega)
theorem fill_busy {l : Lot} (h : RightI l) : FillB (fillLot l) := by
  by_cases hx : ∃ i, i < l.at_.length ∧ l.at_.getD i 0 ≠ -1
  · obtain ⟨i, hi, hA⟩ := hx
    exact .inl ⟨i, by rw [fill_atlen]; exact hi, place_keep _ _ _ _ i hA (ready_pos h)⟩
  · have hall : ∀ i, i < l.at_.length → l.at_.getD i 0 = -1 := fun i hi => Classical.byContradiction fun hn => hx ⟨i, hi, hn⟩
    cases hr : readyR l.sets l.begun (dvL l) with
    | nil =>
      right
      intro i hi
      refine Classical.byContradiction fun hn => ?_
      obtain ⟨k, hk, hp, hl⟩ := leastN (p := fun k => (k : Int) ∉ l.done) l.sets.length ⟨i, hi, hn⟩
      have := ready_least h hall hk hp (fun i hi => Classical.byContradiction fun hh => hl i hi hh)
      rw [hr] at this
      cases this
    | cons r rs =>
      left
      have h1 := h.a1
      have hid : idleL l.at_ = 0 :: idleR l.at_ 1 := by
        unfold idleL
        rw [idleR_step (by omega), if_pos (by rw [← getD_at _ 0 (by omega)]; exact hall 0 (by omega))]
      have hr0 := ready_pos h r (by rw [hr]; exact List.mem_cons_self)
      refine ⟨0, by rw [fill_atlen]; omega, ?_⟩
      unfold fillLot
      dsimp only
      rw [hr, hid, placeL]
      refine place_keep _ _ _ _ 0 ?_ (fun r' h' => ready_pos h r' (by rw [hr]; exact .tail _ h'))
      rw [getD_setI _ (by omega), if_pos rfl]
      omega
theorem pick_atlen (l : Lot) (lane : Int) : (pickL l lane).at_.length = l.at_.length := by
  unfold pickL
  split
  · rfl
  · split
    · rw [fill_atlen]; dsimp only; rw [List.length_set]
    · rfl
theorem pick_busy {l : Lot} (h : RightI l) (hb : FillB l) (lane : Int) : FillB (pickL l lane) := by
  cases hn : noP l lane with
  | true => rw [pick_none hn]; exact hb
  | false =>
    obtain ⟨i, k, rfl, hi, hk, hkn, hkl, g1, g2, hnd⟩ := pick_at h hn
    unfold pickL lessL
    rw [hn, if_neg (by simp), atK_nat, hk, Int.toNat_natCast, Int.toNat_natCast]
    split
    · rename_i hz
      exact fill_busy (mid_right h hi hk hkn hkl hnd hz)
    · left
      exact ⟨i, hi, by dsimp only; rw [hk]; omega⟩
theorem at_cases {l : Lot} (h : RightI l) {i : Nat} (hi : i < l.at_.length) : l.at_.getD i 0 = -1 ∨ ∃ k : Nat, l.at_.getD i 0 = (k : Int) ∧ k < l.sets.length ∧ (k : Int) ∈ l.at_ := by
  by_cases h1 : l.at_.getD i 0 = -1
  · exact .inl h1
  · have hmem : l.at_.getD i 0 ∈ l.at_ := by rw [getD_at _ _ hi]; exact List.getElem_mem hi
    obtain ⟨k, hk, hkn⟩ := h.hr (l.at_.getD i 0) (by unfold hasL; exact List.mem_filter.2 ⟨hmem, by simp only [decide_eq_true_eq]; exact h1⟩)
    exact .inr ⟨k, hk, hkn, hk ▸ hmem⟩
theorem noP_iff {l : Lot} {i : Nat} : noP l (i : Int) = false ↔ i < l.at_.length ∧ l.at_.getD i 0 ≠ -1 := by
  simp only [noP, atK_nat, Bool.or_eq_false_iff, decide_eq_false_iff_not]
  constructor
  · rintro ⟨⟨_, h2⟩, h3⟩
    exact ⟨by omega, h3⟩
  · rintro ⟨h2, h3⟩
    exact ⟨⟨by omega, by omega⟩, h3⟩
theorem runS_sets : ∀ (ps : List Int) (l : Lot) (n : Int), (runS l n ps).1.sets = l.sets ∧ (runS l n ps).1.at_.length = l.at_.length
  | [], l, n => ⟨rfl, rfl⟩
  | p :: ps, l, n => by
    rw [runS]
    obtain ⟨h1, h2⟩ := runS_sets ps (pickL l p) (if noP l p then n else n + 1)
    exact ⟨by rw [h1, pickL_sets], by rw [h2, pick_atlen]⟩
theorem runS_busy : ∀ (ps : List Int) {l : Lot} (n : Int), RightI l → FillB l → FillB (runS l n ps).1
  | [], l, n, h, hb => hb
  | p :: ps, l, n, h, hb => runS_busy ps _ (pick_right h p) (pick_busy h hb p)
theorem runS_append : ∀ (ps qs : List Int) (l : Lot) (n : Int), runS l n (ps ++ qs) = runS (runS l n ps).1 (runS l n ps).2 qs
  | [], qs, l, n => rfl
  | p :: ps, qs, l, n => by rw [List.cons_append, runS, runS, runS_append ps qs]
theorem runS_shift : ∀ (ps : List Int) (l : Lot) (n : Int), runS l n ps = ((runS l 0 ps).1, n + (runS l 0 ps).2)
  | [], l, n => by simp [runS]
  | p :: ps, l, n => by
    rw [runS, runS, runS_shift ps _ (if noP l p then n else n + 1), runS_shift ps _ (if noP l p then 0 else 0 + 1)]
    refine Prod.ext rfl ?_
    dsimp only
    split <;> omega
theorem new_busy {s : List Sets} {c : List Int} {w : Int} (h : okN s c w = true) : FillB (newL s c w) := by
  unfold newL
  rw [if_pos h]
  exact fill_busy (raw_right h)
theorem new_parts {s : List Sets} {c : List Int} {w : Int} (h : okN s c w = true) : (newL s c w).sets = s ∧ (newL s c w).left = c ∧ (newL s c w).done = [] ∧ (newL s c w).at_.length = w.toNat := by
  unfold newL
  rw [if_pos h]
  refine ⟨rfl, rfl, rfl, ?_⟩
  rw [fill_atlen]
  exact List.length_replicate
end Go.Rail
set_option linter.unusedSimpArgs false
set_option linter.unusedVariables false
namespace Go.Rail
open Go
def offA (n : Nat) (k : Int) : Bool := decide (k < -1) || decide ((n : Int) ≤ k)
/-- How many lanes have each one; none: a lane has what is none. -/
def holdA : List Int → List Int → Option (List Int)
  | out, [] => some out
  | out, k :: r => if offA out.length k then none else if k = -1 then holdA out r else holdA (out.set k.toNat (out.getD k.toNat 0 + 1)) r
theorem holdA_len : ∀ (ks : List Int) (out res : List Int), holdA out ks = some res → res.length = out.length
  | [], out, res, h => by cases h; rfl
  | k :: r, out, res, h => by
    rw [holdA] at h
    split at h
    · cases h
    · split at h
      · exact holdA_len r _ _ h
      · rw [holdA_len r _ _ h, List.length_set]
theorem offA_iff {n : Nat} {k : Int} : offA n k = false ↔ k = -1 ∨ ∃ j : Nat, k = (j : Int) ∧ j < n := by
  unfold offA
  simp only [Bool.or_eq_false_iff, decide_eq_false_iff_not]
  constructor
  · rintro ⟨h1, h2⟩
    by_cases h : k = -1
    · exact .inl h
    · exact .inr ⟨k.toNat, by omega, by omega⟩
  · intro h
    rcases h with h | ⟨j, h, hj⟩
    · omega
    · omega
theorem holdA_some : ∀ (ks : List Int) (out res : List Int), holdA out ks = some res → InN out.length (hasL ks) ∧ ∀ j : Nat, j < out.length → res.getD j 0 = out.getD j 0 + (ks.count (j : Int) : Nat)
  | [], out, res, h => by
    cases h
    refine ⟨fun k hk => ?_, fun j hj => ?_⟩
    · cases hk
    · simp
  | k :: r, out, res, h => by
    rw [holdA] at h
    cases hb : offA out.length k with
    | true => rw [hb, if_pos rfl] at h; cases h
    | false =>
      rw [hb, if_neg (by simp)] at h
      rcases offA_iff.1 hb with rfl | ⟨j, rfl, hj⟩
      · rw [if_pos rfl] at h
        obtain ⟨h1, h2⟩ := holdA_some r _ _ h
        refine ⟨by rw [hasL_none]; exact h1, fun j hj => ?_⟩
        rw [h2 j hj, List.count_cons]
        have : ((-1 : Int) == (j : Int)) = false := by simp
        rw [this]; simp
      · rw [if_neg (by omega), Int.toNat_natCast] at h
        obtain ⟨h1, h2⟩ := holdA_some r _ _ h
        rw [List.length_set] at h1 h2
        refine ⟨?_, fun i hi => ?_⟩
        · rw [hasL_cons _ _ (by omega)]
          intro x hx
          rcases List.mem_cons.1 hx with rfl | hx
          · exact ⟨j, rfl, hj⟩
          · exact h1 x hx
        · rw [h2 i hi, getD_setI out hj, List.count_cons]
          by_cases e : i = j
          · subst e; simp; omega
          · have : ((j : Int) == (i : Int)) = false := by simp; omega
            rw [if_neg e, this]; simp
theorem holdA_of : ∀ (ks : List Int) (out : List Int), InN out.length (hasL ks) → ∃ res, holdA out ks = some res
  | [], out, _ => ⟨out, rfl⟩
  | k :: r, out, h => by
    rw [holdA]
    by_cases hk : k = -1
    · subst hk
      rw [hasL_none] at h
      rw [offA_iff.2 (.inl rfl), if_neg (by simp), if_pos rfl]
      exact holdA_of r out h
    · rw [hasL_cons _ _ hk] at h
      obtain ⟨j, rfl, hj⟩ := h k List.mem_cons_self
      rw [offA_iff.2 (.inr ⟨j, rfl, hj⟩), if_neg (by simp), if_neg hk]
      exact holdA_of r _ (by rw [List.length_set]; exact fun x hx => h x (.tail _ hx))
def holdL (l : Lot) : Option (List Int) := holdA (List.replicate l.sets.length 0) l.at_
def okA (l : Lot) (D : List Bool) (H : List Int) (i : Nat) : Bool :=
  !(oddLeft (l.left.getD i 0)) && !decide (1 < H.getD i 0) && (D.getD i false == decide (l.left.getD i 0 = 0)) && (l.begun.getD i false == (D.getD i false || decide (H.getD i 0 = 1))) && !(D.getD i false && decide (0 < H.getD i 0))
def okE (l : Lot) (D : List Bool) (i k : Nat) : Bool := !(l.begun.getD i false && !(D.getD k false) && clG l.sets k i)
def okO (l : Lot) (i k : Nat) : Bool := !(decide (l.done.getD i 0 < l.done.getD k 0) && clG l.sets (l.done.getD k 0).toNat (l.done.getD i 0).toNat)
/-- The least, told by counts. -/
structure RefI (l : Lot) (D : List Bool) (H : List Int) : Prop where
  a : ∀ i, i < l.sets.length → okA l D H i = true
  e : ∀ i, i < l.sets.length → ∀ k, k < i → okE l D i k = true
  o : ∀ i, i < l.done.length → ∀ k, k < i → okO l i k = true
def shapeR (l : Lot) : Bool := decide (l.left.length = l.sets.length) && decide (l.begun.length = l.sets.length) && decide (1 ≤ l.at_.length) && decide (l.at_.length ≤ 64)
theorem count_has {A : List Int} {j : Nat} : (hasL A).count (j : Int) = A.count (j : Int) := by
  unfold hasL
  rw [List.count_filter]
  have : ¬ ((j : Int) = -1) := by omega
  simp [this]
theorem right_ref {l : Lot} {D : List Bool} {H : List Int} (hm : mayG l.sets = true) (hs : shapeR l = true) (hD : donesL l = some D) (hH : holdL l = some H) : RightI l ↔ RefI l D H := by
  unfold donesL at hD
  unfold holdL at hH
  obtain ⟨d1, d2, _, d4⟩ := markP_some _ _ _ hD
  obtain ⟨g2, g4⟩ := holdA_some _ _ _ hH
  rw [List.length_replicate] at d2 g2 g4
  have dD : ∀ j : Nat, D.getD j false = decide ((j : Int) ∈ l.done) := fun j => by rw [d4 j, repD, Bool.false_or]
  have dH : ∀ j : Nat, j < l.sets.length → H.getD j 0 = (l.at_.count (j : Int) : Nat) := fun j hj => by
    rw [g4 j hj, List.getD_eq_getElem?_getD, List.getElem?_replicate, if_pos hj]
    simp
  simp only [shapeR, Bool.and_eq_true, decide_eq_true_eq] at hs
  obtain ⟨⟨⟨s1, s2⟩, s3⟩, s4⟩ := hs
  have dlt : ∀ i : Nat, (i : Int) ∈ l.done → i < l.sets.length := fun i hi => by
    obtain ⟨j, e, hj⟩ := d2 _ hi
    omega
  constructor
  · intro h
    have hc : ∀ i : Nat, l.at_.count (i : Int) = if (i : Int) ∈ l.at_ then 1 else 0 := fun i => by
      rw [← count_has]
      split
      · rename_i hi
        rw [h.hn.count, if_pos (mem_hasL.2 hi)]
      · rename_i hi
        exact List.count_eq_zero.2 fun hh => hi (mem_hasL.1 hh)
    refine ⟨fun i hi => ?_, fun i hi k hk => ?_, fun i hi k hk => ?_⟩
    · have hb := h.lb (l.left.getD i 0) (by rw [getD_at _ _ (by omega)]; exact List.getElem_mem _)
      have h0 := h.l0 i hi
      have hbg := h.bg i hi
      have hdj := h.dj i
      have e1 : oddLeft (l.left.getD i 0) = false := by
        unfold oddLeft
        rw [decide_eq_false (by omega), decide_eq_false (by omega)]; rfl
      unfold okA
      rw [e1, dD, dH i hi, hc i]
      generalize l.left.getD i 0 = q at *
      by_cases ha : (i : Int) ∈ l.at_
      · have hnd : (i : Int) ∉ l.done := fun hh => hdj hh ha
        have hl0 : ¬ q = 0 := fun hh => hnd (h0.2 hh)
        rw [hbg.2 (.inr ha)]
        simp [ha, hnd, hl0]
      · by_cases hd : (i : Int) ∈ l.done
        · rw [hbg.2 (.inl hd)]
          simp [ha, hd, h0.1 hd]
        · have hl0 : ¬ q = 0 := fun hh => hd (h0.2 hh)
          have hbf : l.begun.getD i false = false := by
            cases hb : l.begun.getD i false with
            | false => rfl
            | true => rcases hbg.1 hb with hh | hh <;> contradiction
          rw [hbf]
          simp [ha, hd, hl0]
    · unfold okE
      rw [dD]
      cases hb : l.begun.getD i false with
      | false => rfl
      | true =>
        cases hc : clG l.sets k i with
        | false => simp
        | true =>
          have := h.ed (k, i) (mem_edgesG.2 ⟨hk, hi, hc⟩) hb
          simp [this]
    · unfold okO
      have hk' : k < l.done.length := by omega
      obtain ⟨a, ea, ha⟩ := d2 l.done[i] (List.getElem_mem hi)
      obtain ⟨b, eb, hb⟩ := d2 l.done[k] (List.getElem_mem hk')
      rw [getD_at _ _ hi, getD_at _ _ hk', ea, eb, Int.toNat_natCast, Int.toNat_natCast]
      by_cases hlt : (a : Int) < (b : Int)
      · cases hc : clG l.sets b a with
        | false => simp
        | true =>
          rw [clG_comm] at hc
          have := h.od (a, b) (mem_edgesG.2 ⟨by dsimp only; omega, hb, hc⟩) (by dsimp only; rw [← eb]; exact List.getElem_mem _) (by dsimp only; rw [← ea]; exact List.getElem_mem _)
          dsimp only at this
          rw [← ea, ← eb, h.dn.idxOf_getElem i hi, h.dn.idxOf_getElem k hk'] at this
          omega
      · simp [hlt]
  · intro h
    have hA : ∀ i, i < l.sets.length → oddLeft (l.left.getD i 0) = false ∧ l.at_.count (i : Int) ≤ 1 ∧ ((i : Int) ∈ l.done ↔ l.left.getD i 0 = 0) ∧ (l.begun.getD i false = true ↔ (i : Int) ∈ l.done ∨ (i : Int) ∈ l.at_) ∧ ((i : Int) ∈ l.done → (i : Int) ∉ l.at_) := fun i hi => by
      have := h.a i hi
      unfold okA at this
      rw [dD, dH i hi] at this
      simp only [Bool.and_eq_true, Bool.not_eq_true', beq_iff_eq, decide_eq_false_iff_not, decide_eq_decide, Bool.and_eq_false_iff] at this
      obtain ⟨⟨⟨⟨h1, h2⟩, h3⟩, h4⟩, h5⟩ := this
      have hcnt : (i : Int) ∈ l.at_ ↔ l.at_.count (i : Int) = 1 := by
        rw [← List.count_pos_iff]
        omega
      have hnum : ((l.at_.count (i : Int) : Nat) : Int) = 1 ↔ (i : Int) ∈ l.at_ := by rw [hcnt]; omega
      refine ⟨h1, by omega, h3, ?_, fun hd ha => ?_⟩
      · rw [h4]
        simp only [Bool.or_eq_true, decide_eq_true_eq, hnum]
      · rcases h5 with h5 | h5
        · exact h5 hd
        · have := List.count_pos_iff.2 ha
          omega
    refine ⟨hm, s1, s2, s3, s4, ?_, d1, d2, ?_, g2, fun i hi => (hA i hi).2.2.1, fun i hi => (hA i (dlt i hi)).2.2.2.2 hi, fun i hi => (hA i hi).2.2.2.1, ?_, ?_⟩
    · intro k hk
      obtain ⟨i, hi, rfl⟩ := List.mem_iff_getElem.1 hk
      have := (hA i (by omega)).1
      rw [getD_at _ _ hi] at this
      simp [oddLeft] at this
      omega
    · refine List.nodup_iff_count.2 fun a => ?_
      by_cases ha : a ∈ hasL l.at_
      · obtain ⟨j, rfl, hj⟩ := g2 a ha
        rw [count_has]
        exact (hA j hj).2.1
      · rw [List.count_eq_zero.2 ha]; omega
    · intro e he hb
      obtain ⟨h1, h2, h3⟩ := mem_edgesG.1 he
      have := h.e e.2 h2 e.1 h1
      unfold okE at this
      rw [dD, hb, h3] at this
      simpa using this
    · intro e he h2 h1
      obtain ⟨q1, q2, q3⟩ := mem_edgesG.1 he
      refine Classical.byContradiction fun hn => ?_
      have i1 := List.idxOf_lt_length_of_mem h1
      have i2 := List.idxOf_lt_length_of_mem h2
      have := h.o (l.done.idxOf (e.1 : Int)) i1 (l.done.idxOf (e.2 : Int)) (by omega)
      unfold okO at this
      rw [getD_at _ _ i1, getD_at _ _ i2, List.getElem_idxOf i1, List.getElem_idxOf i2, Int.toNat_natCast, Int.toNat_natCast, clG_comm, q3] at this
      simp at this
      omega
theorem rr_shape {l : Lot} (h : shapeR l = false) : rightL l = false := by
  cases hr : rightL l with
  | false => rfl
  | true =>
    have r := rightL_iff.1 hr
    have : shapeR l = true := by
      unfold shapeR
      rw [decide_eq_true r.sl, decide_eq_true r.sb, decide_eq_true r.a1, decide_eq_true r.a2]; rfl
    rw [h] at this; cases this
theorem rr_held {l : Lot} (h : holdL l = none) : rightL l = false := by
  cases hr : rightL l with
  | false => rfl
  | true =>
    obtain ⟨H, hH⟩ := holdA_of l.at_ (List.replicate l.sets.length 0) (by rw [List.length_replicate]; exact (rightL_iff.1 hr).hr)
    unfold holdL at h
    rw [h] at hH; cases hH
section
variable {l : Lot} {D : List Bool} {H : List Int}
theorem rr_no (hm : mayG l.sets = true) (hs : shapeR l = true) (hD : donesL l = some D) (hH : holdL l = some H) (h : ¬ RefI l D H) : rightL l = false := by
  cases hr : rightL l with
  | false => rfl
  | true => exact absurd ((right_ref hm hs hD hH).1 (rightL_iff.1 hr)) h
theorem rr_a (hm : mayG l.sets = true) (hs : shapeR l = true) (hD : donesL l = some D) (hH : holdL l = some H) {i : Nat} (hi : i < l.sets.length) (hb : okA l D H i = false) : rightL l = false :=
  rr_no hm hs hD hH fun h => by have := h.a i hi; rw [hb] at this; cases this
theorem rr_e (hm : mayG l.sets = true) (hs : shapeR l = true) (hD : donesL l = some D) (hH : holdL l = some H) {i k : Nat} (hi : i < l.sets.length) (hk : k < i) (hb : okE l D i k = false) : rightL l = false :=
  rr_no hm hs hD hH fun h => by have := h.e i hi k hk; rw [hb] at this; cases this
theorem rr_o (hm : mayG l.sets = true) (hs : shapeR l = true) (hD : donesL l = some D) (hH : holdL l = some H) {i k : Nat} (hi : i < l.done.length) (hk : k < i) (hb : okO l i k = false) : rightL l = false :=
  rr_no hm hs hD hH fun h => by have := h.o i hi k hk; rw [hb] at this; cases this
theorem rr_yes (hm : mayG l.sets = true) (hs : shapeR l = true) (hD : donesL l = some D) (hH : holdL l = some H) (ha : ∀ i, i < l.sets.length → okA l D H i = true) (he : ∀ i, i < l.sets.length → ∀ k, k < i → okE l D i k = true) (ho : ∀ i, i < l.done.length → ∀ k, k < i → okO l i k = true) : rightL l = true :=
  rightL_iff.2 ((right_ref hm hs hD hH).2 ⟨ha, he, ho⟩)
end
theorem idleR_set (A : List Int) {i j : Nat} (u : Int) (h : i < j) : idleR (A.set i u) j = idleR A j := by
  unfold idleR
  rw [List.length_set]
  refine List.filter_congr fun k hk => ?_
  rw [List.mem_range'_1] at hk
  rw [List.getD_eq_getElem?_getD, List.getElem?_set_ne (by omega), ← List.getD_eq_getElem?_getD]
theorem ready_tail {l : Lot} (h : RightI l) {k : Nat} {rs : List Int} (hr : readyR l.sets l.begun (dvL l) = (k : Int) :: rs) (h' : okR l.sets (l.begun.set k true) (dvL l) = true) : readyR l.sets (l.begun.set k true) (dvL l) = rs := by
  have hk : k < l.begun.length := by
    have := (ready_iff h).1 (by rw [hr]; exact List.mem_cons_self)
    rw [h.sb]; exact this.1
  unfold readyR at hr ⊢
  rw [if_pos (right_ok h)] at hr
  rw [if_pos h']
  unfold readyP at hr ⊢
  have hp : ∀ j, mayBegin l.sets (l.begun.set k true) (dvL l) j = (decide (j ≠ k) && mayBegin l.sets l.begun (dvL l) j) := fun j => by
    unfold mayBegin
    rw [getD_setB _ hk]
    by_cases e : j = k
    · rw [if_pos e]; simp [e]
    · rw [if_neg e]; simp [e]
  have hf : (List.range l.sets.length).filter (mayBegin l.sets (l.begun.set k true) (dvL l)) = ((List.range l.sets.length).filter (mayBegin l.sets l.begun (dvL l))).filter (fun j => decide (j ≠ k)) := by
    rw [List.filter_filter]
    exact List.filter_congr fun j _ => hp j
  have hnd : ((List.range l.sets.length).filter (mayBegin l.sets l.begun (dvL l))).Nodup := List.nodup_range.filter _
  rw [hf]
  cases hF : (List.range l.sets.length).filter (mayBegin l.sets l.begun (dvL l)) with
  | nil => rw [hF] at hr; cases hr
  | cons j F =>
    rw [hF] at hr hnd
    rw [List.map_cons] at hr
    injection hr with e1 e2
    have e3 : j = k := by omega
    subst e3
    have hF2 : F.filter (fun i => decide (i ≠ j)) = F := List.filter_eq_self.2 fun i hi => decide_eq_true fun e => by
      subst e
      exact (List.nodup_cons.1 hnd).1 hi
    rw [List.filter_cons, if_neg (by simp), hF2]
    exact e2
end Go.Rail
set_option linter.unusedSimpArgs false
set_option linter.unusedVariables false
namespace Go.Rail
open Go
def fBlk0 (b : Nat) (c : Array Value) (t : TypeId) (fr : Nat × Nat) : Fa := ⟨.pointer (some ⟨b, 0, none⟩), fun I => I b = some (.cells c t fr), fun _ _ hl h => hl _ _ h⟩
theorem one_cI (xs : List Int) : ∀ v ∈ cI xs, v.oneCell' = true := by
  intro v h
  obtain ⟨x, _, rfl⟩ := List.mem_map.1 h
  rfl
section
variable {x : Cx} {Q : Exit → Act → World → Prop} {Φ : List Fa} {L : Env} {M : Own} {ops : Array Oper} {K : Act → World → Prop}
variable {d : Nat} {ty : TypeId} {pos : String} {af : Array Edge} {g : Option (Nat × Bool)}
theorem o_copyR {dT sT e bytes : TypeId} {y z : Operand} {b o dLen dCap : Nat} {sa : Addr} {sLen sCap : Nat} {cs row row' zs : List Value} {t : TypeId} {M' : Own} [ht : SlTy x.P dT e] [hb : Inf x.P e zs 1 bytes]
    (hdN : Nat.blt d x.N = true) (hg : gd ops L g = some true) (hy : ev L y = some (.slice (some ⟨b, o, none⟩) dLen dCap)) (hz : ev L z = some (.slice (some sa) sLen sCap)) [hm : MGet M b (Ob row t)]
    (hn : cs.length = Nat.min sLen dLen) (hsrc : ∀ I w, (∀ φ ∈ Φ, φ.p I) → Wd x.E I M w → ∀ j v, cs[j]? = some v → w.cell? (sa.add j) = some v) (hfit : o + cs.length ≤ row.length) (h1 : ∀ v ∈ cs, v.oneCell' = true)
    (hrow : row.take o ++ cs ++ row.drop (o + cs.length) = row') [hm' : MSet M b (Ob row t) (Ob row' t) M'] (h : G x Φ ((d, .int .i64 cs.length) :: L) M' K) : OpK x ops Q ⟨some d, .call ⟨.builtin .copy, #[y, z], #[dT, sT]⟩, ty, pos, af, g⟩ Φ L M K :=
  OpK.mem rfl hdN hg (by simp) (fun I a w hp hk hw => by
    obtain ⟨i, zv, hi, _, _, hsz, _⟩ := hb.get
    have hbk : w.heap[b]? = some (.cells row.toArray t (0, 0)) := hw.own _ hm.h
    have hc := run_copy_row (P := x.P) w dT sT ty e b o dLen dCap sa sLen sCap row.toArray t cs ht.h (by rw [hi]; simp [hsz]) hbk hn (hsrc I w hp hw) (by simpa using hfit) h1
    subst hrow
    refine ⟨.int .i64 cs.length, w.setRow b (row.take o ++ cs ++ row.drop (o + cs.length)).toArray, Φ, M', I, ?_, hp, Wd.setRow (cs := row) (t := t) hw, h⟩
    simp [execOp, resolve, hk.eval hy, hk.eval hz, invoke, builtin, Sem.run_bind, Result.andThen, Sem.run_pure, hc, goInt])
/-- ... of numbers that lie unchanging, to the row's beginning. -/
theorem o_copyDI {dT sT e bytes : TypeId} {y z : Operand} {b dCap : Nat} {v : Value} {D xs : List Int} {zs : List Value} {t : TypeId} {M' : Own} [ht : SlTy x.P dT e] [hb : Inf x.P e zs 1 bytes] [kr : KRp Φ v xs]
    (hdN : Nat.blt d x.N = true) (hg : gd ops L g = some true) (hy : ev L y = some (.slice (some ⟨b, 0, none⟩) D.length dCap)) (hz : ev L z = some v) (h0 : xs ≠ []) (hle : xs.length ≤ D.length) [hm : MGet M b (Ob (cI D) t)]
    [hm' : MSet M b (Ob (cI D) t) (Ob (cI (xs ++ D.drop xs.length)) t) M'] (h : G x Φ ((d, .int .i64 xs.length) :: L) M' K) : OpK x ops Q ⟨some d, .call ⟨.builtin .copy, #[y, z], #[dT, sT]⟩, ty, pos, af, g⟩ Φ L M K := by
  intro I a w hp hk hw
  have hrp : Rp I v xs := hp _ kr.h
  obtain ⟨ad, cap, rfl, h1, h2⟩ := Rp.slice hrp
  obtain ⟨sa, c, t', fr, rfl, hsp, hI, hr⟩ := h2 h0
  have hI' : w.heap[sa.block]? = some (.cells c t' fr) := hw.imm _ _ hI
  have hlen : (cI xs).length = xs.length := cI_length xs
  have hmin : Nat.min xs.length D.length = xs.length := Nat.min_eq_left hle
  have key : OpK x ops Q ⟨some d, .call ⟨.builtin .copy, #[y, z], #[dT, sT]⟩, ty, pos, af, g⟩ (fBlk0 sa.block c t' fr :: Φ) L M K := by
    refine o_copyR (cs := cI xs) (row := cI D) (t := t) (zs := zs) (bytes := bytes) (hb := hb) hdN hg hy hz (by rw [hlen]; exact hmin.symm) ?_ (by rw [hlen, cI_length]; omega) (one_cI xs) (row' := cI (xs ++ D.drop xs.length)) ?_ ?_
    · intro I1 w1 hp1 hw1 j u hj
      have hb1 : I1 sa.block = some (.cells c t' fr) := hp1 _ (.head _)
      have hh1 := hw1.imm _ _ hb1
      have hjl : j < xs.length := by
        have := (List.getElem?_eq_some_iff.1 hj).1
        rwa [hlen] at this
      have hu : u = .int .i64 xs[j] := by
        simp only [cI, List.getElem?_map, List.getElem?_eq_getElem hjl, Option.map_some, Option.some.injEq] at hj
        exact hj.symm
      subst hu
      have hrj := GoFlat.rep_iff.1 (hr.2 j hjl)
      have hcl := hr.1
      unfold chunk at hrj
      have hlt : sa.off + j * 1 < c.toList.length := by
        have : sa.off + xs.length * 1 ≤ c.toList.length := hcl
        omega
      change ((c.toList.drop (sa.off + j * 1)).take 1) = [.int .i64 xs[j]] at hrj
      rw [List.take_one, List.head?_drop, List.getElem?_eq_getElem hlt] at hrj
      have hcj : c.toList[sa.off + j * 1] = .int .i64 xs[j] := by simpa using hrj
      have e : sa.add j = ⟨sa.block, sa.off + j, none⟩ := by
        obtain ⟨sb, so, sp⟩ := sa
        dsimp only at hsp
        subst hsp
        exact add_mk _ _ _
      rw [e]
      have hlt' : sa.off + j < c.size := by
        rw [Array.length_toList] at hlt; omega
      simp only [Nat.mul_one] at hcj
      simp only [World.cell?, hh1]
      simp [hlt']
      simpa using hcj
    · rw [hlen]
      simp only [List.take_zero, List.nil_append, Nat.zero_add, cI, List.map_append, List.map_drop]
    · rw [hlen]
      exact fun I a w hp hk hw => h I a w (fun φ hφ => hp φ (.tail _ hφ)) hk hw
  exact key I a w (fun φ hφ => by
    rcases List.mem_cons.1 hφ with rfl | hφ
    · exact hI
    · exact hp φ hφ) hk hw
/-- ... of the row's own beginning, behind it. -/
theorem o_copyOI {dT sT e bytes : TypeId} {y z : Operand} {b p dLen dCap sLen sCap : Nat} {D : List Int} {zs : List Value} {t : TypeId} {M' : Own} [ht : SlTy x.P dT e] [hb : Inf x.P e zs 1 bytes] (m : Nat)
    (hdN : Nat.blt d x.N = true) (hg : gd ops L g = some true) (hy : ev L y = some (.slice (some ⟨b, p, none⟩) dLen dCap)) (hz : ev L z = some (.slice (some ⟨b, 0, none⟩) sLen sCap)) (hmn : m = Nat.min sLen dLen) (hs : sLen ≤ D.length) (hle : p + dLen ≤ D.length) [hm : MGet M b (Ob (cI D) t)]
    [hm' : MSet M b (Ob (cI D) t) (Ob (cI (D.take p ++ D.take m ++ D.drop (p + m))) t) M'] (h : G x Φ ((d, .int .i64 m) :: L) M' K) : OpK x ops Q ⟨some d, .call ⟨.builtin .copy, #[y, z], #[dT, sT]⟩, ty, pos, af, g⟩ Φ L M K := by
  have hm1 : m ≤ sLen ∧ m ≤ dLen := by rw [hmn]; exact ⟨Nat.min_le_left _ _, Nat.min_le_right _ _⟩
  have hlen : (cI (D.take m)).length = m := by rw [cI_length, List.length_take]; omega
  refine o_copyR (cs := cI (D.take m)) (row := cI D) (t := t) (zs := zs) (bytes := bytes) (hb := hb) hdN hg hy hz (by rw [hlen]; exact hmn) ?_ (by rw [hlen, cI_length]; omega) (one_cI _) (row' := cI (D.take p ++ D.take m ++ D.drop (p + m))) ?_ ?_
  · intro I1 w1 hp1 hw1 j u hj
    have hb1 : w1.heap[b]? = some (Ob (cI D) t) := hw1.own _ hm.h
    rw [add_mk, Nat.zero_add]
    refine cell_Ob hb1 ?_
    have hjl : j < m := by
      have := (List.getElem?_eq_some_iff.1 hj).1
      rwa [hlen] at this
    simp only [cI, List.map_take] at hj ⊢
    rw [List.getElem?_take, if_pos hjl] at hj
    exact hj
  · rw [hlen]
    simp only [cI, List.map_append, List.map_take, List.map_drop]
  · rw [hlen]
    exact h
end
end Go.Rail
set_option linter.unusedSimpArgs false
set_option linter.unusedVariables false
namespace Go.Rail
open Go
def nS : List Sets := [gA, gA]
def nA : Lot := ⟨nS, [1, 2], [0, -1], [true, false], []⟩
def nB : Lot := ⟨nS, [0, 2], [1, -1], [true, true], [0]⟩
def nC : Lot := ⟨nS, [0, 0], [-1, -1], [true, true], [0, 1]⟩
theorem na1 : okN nS [1, 2] 2 = true := by decide
theorem na2 : newL nS [1, 2] 2 = nA := by kernel_rfl
theorem na3 : errN nS [1, 2] 2 = 0 := by rw [errN, na1]; rfl
theorem na4 : rightL nA = true := by rw [← na2]; exact rightL_iff.2 (new_right na1)
theorem na5 : measureL nA = 3 := by rw [measureL, na4]; rfl
theorem na6 : errL nA = 0 := by rw [errL, na4]; rfl
theorem na7 : idlesL nA = [1] := by rw [idlesL, na4]; decide
theorem na8 : isR nA 1 = false := by rw [isR, na4]; decide
theorem na9 : pickR nA 1 = nA := by rw [pickR, na4]; exact pick_none (show noP nA 1 = true by decide)
theorem na10 : isR nA 0 = true := by rw [isR, na4]; decide
theorem na11 : pickR nA 0 = nB := by rw [pickR, na4]; kernel_rfl
theorem na12 : rightL nB = true := by
  have : nB = pickL nA 0 := by rw [← na11, pickR, na4]; rfl
  rw [this]; exact rightL_iff.2 (pick_right (rightL_iff.1 na4) 0)
theorem na13 : runL nB [0, 1, 0, 0] = nC := by rw [runL, na12]; kernel_rfl
theorem na14 : cntL nB [0, 1, 0, 0] = 2 := by rw [cntL, na12]; kernel_rfl
theorem na15 : errRun nB [0, 1, 0, 0] = 0 := by rw [errRun, na12]; rfl
theorem na16 : errN [gA] [0] 2 = 1 := by decide
theorem na17 : rightL nC = true := by
  have : nC = (runS nB 0 [0, 1, 0, 0]).1 := by rw [← na13, runL, na12]; rfl
  rw [this]; exact rightL_iff.2 (runS_right _ _ (rightL_iff.1 na12))
theorem na18 : rightL ⟨[], [], [], [], []⟩ = false := by decide
end Go.Rail
namespace Go.Rail
open Go
theorem sets_ext {s t : Sets} (h : s.reads = t.reads ∧ s.writes = t.writes) : s = t := by
  cases s; cases t; obtain ⟨rfl, rfl⟩ := h; rfl
instance : DecidableEq Sets := fun s t => decidable_of_iff (s.reads = t.reads ∧ s.writes = t.writes) ⟨sets_ext, fun h => by subst h; exact ⟨rfl, rfl⟩⟩
def sameLot (a b : Lot) : Bool := decide (a.left = b.left) && decide (a.at_ = b.at_) && decide (a.done = b.done) && decide (a.begun = b.begun) && decide (a.sets = b.sets)
theorem sameLot_self (a : Lot) : sameLot a a = true := by simp [sameLot]
end Go.Rail
set_option linter.unusedSimpArgs false
set_option linter.unusedVariables false
namespace Go.Rail
open Go
def leftS : Lot → List Int → List Int
  | _, [] => []
  | l, p :: ps => if noP l p then leftS l ps else p :: leftS (pickL l p) ps
theorem runS_leftS : ∀ (ps : List Int) (l : Lot) (n : Int), runS l n (leftS l ps) = runS l n ps
  | [], l, n => rfl
  | p :: ps, l, n => by
    rw [leftS, runS]
    cases h : noP l p with
    | true => rw [if_pos rfl, if_pos rfl, pick_none h]; exact runS_leftS ps l n
    | false =>
      rw [if_neg (by simp), if_neg (by simp), runS, h, if_neg (by simp)]
      exact runS_leftS ps _ _
theorem leftS_len : ∀ (ps : List Int) (l : Lot) (n : Int), (runS l n ps).2 = n + ((leftS l ps).length : Nat)
  | [], l, n => by simp [runS, leftS]
  | p :: ps, l, n => by
    rw [leftS, runS]
    cases h : noP l p with
    | true => rw [if_pos rfl, if_pos rfl, pick_none h]; exact leftS_len ps l n
    | false =>
      rw [if_neg (by simp), if_neg (by simp), leftS_len ps _ _, List.length_cons]
      omega
theorem leftS_short : ∀ (ps : List Int) (l : Lot), (leftS l ps).length ≤ ps.length
  | [], l => Nat.le_refl _
  | p :: ps, l => by
    rw [leftS]
    split
    · exact Nat.le_succ_of_le (leftS_short ps l)
    · exact Nat.succ_le_succ (leftS_short ps _)
theorem runS_fst (l : Lot) (n : Int) (ps : List Int) : (runS l n ps).1 = (runS l 0 ps).1 := by rw [runS_shift]
theorem runS_snoc (l : Lot) (ps : List Int) (p : Int) : (runS l 0 (ps ++ [p])).1 = pickL (runS l 0 ps).1 p := by
  rw [runS_append, runS, runS]
theorem leftS_snoc : ∀ (ps : List Int) (p : Int) (l : Lot), leftS l (ps ++ [p]) = leftS l ps ++ (if noP (runS l 0 ps).1 p then [] else [p])
  | [], p, l => by
    rw [List.nil_append, leftS, leftS, leftS, leftS, List.nil_append]
    rfl
  | q :: ps, p, l => by
    rw [List.cons_append, leftS, leftS, runS, runS_fst]
    cases h : noP l q with
    | true => rw [if_pos rfl, if_pos rfl, pick_none h]; exact leftS_snoc ps p l
    | false => rw [if_neg (by simp), if_neg (by simp), leftS_snoc ps p _]; rfl
theorem run_is {l : Lot} (h : rightL l = true) {ps : List Int} (hp : ps.length ≤ 20000) : runL l ps = (runS l 0 ps).1 ∧ cntL l ps = ((leftS l ps).length : Nat) ∧ errRun l ps = 0 := by
  unfold runL cntL errRun
  rw [h, if_pos rfl, if_pos rfl, if_pos rfl, if_neg (by omega), if_neg (by omega), if_neg (by omega), leftS_len]
  exact ⟨rfl, by omega, rfl⟩
theorem parts_two (l : Lot) (q : List Int) (k : Nat) : (runS (runS l 0 (q.take k)).1 0 (q.drop k)).1 = (runS l 0 q).1 ∧ (leftS l (q.take k)).length + (leftS (runS l 0 (q.take k)).1 (q.drop k)).length = (leftS l q).length := by
  have h := runS_append (q.take k) (q.drop k) l 0
  rw [List.take_append_drop, runS_shift (q.drop k)] at h
  have h2 := congrArg Prod.snd h
  dsimp only at h2
  rw [leftS_len q, leftS_len (q.take k), leftS_len (q.drop k)] at h2
  exact ⟨(congrArg Prod.fst h).symm, by omega⟩
theorem left_run (l : Lot) (q : List Int) : (runS l 0 (leftS l q)).1 = (runS l 0 q).1 ∧ (leftS l (leftS l q)).length = (leftS l q).length := by
  have h := runS_leftS q l 0
  have h2 := congrArg Prod.snd h
  rw [leftS_len q, leftS_len (leftS l q)] at h2
  exact ⟨congrArg Prod.fst h, by omega⟩
end Go.Rail
