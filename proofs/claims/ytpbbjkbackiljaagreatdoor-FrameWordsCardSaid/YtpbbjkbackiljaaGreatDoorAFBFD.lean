/- frame.Take. -/
import Derived.Test.YtpbbjkbackiljaaGreatDoorAF9FA
import Derived.Test.YtpbbjkbackiljaaGreatDoorAC9
set_option linter.unusedSimpArgs false
set_option linter.unusedVariables false
namespace Go.Rail
open Go Go.Proofs
set_option maxHeartbeats 400000
set_option maxRecDepth 4000
attribute [local irreducible] OpK G W LW wpListIn Exit.then Exit.inBlock Post rounds opRun bodyPostM intOp
set_option maxHeartbeats 1000000
def rowsB (n : Nat) : Bool := Nat.ble ((infoN n).getD noRow).pops 1000 && Nat.ble ((infoN n).getD noRow).pushes 1000 && Nat.ble ((infoN n).getD noRow).gas 1000000
theorem rowsB_all : ((List.range 256).all rowsB) = true := by kernel_rfl
theorem row_le {n : Nat} (hn : n < 256) : popsN n ≤ 1000 ∧ pushN' n ≤ 1000 ∧ gasN n ≤ 1000000 := by
  have := List.all_eq_true.1 rowsB_all n (by simpa using hn)
  unfold rowsB at this
  simp only [Bool.and_eq_true] at this
  exact ⟨Nat.le_of_ble_eq_true this.1.1, Nat.le_of_ble_eq_true this.1.2, Nat.le_of_ble_eq_true this.2⟩
def RTake (p : List Word × Int) : Value → List Fa → Own → Prop := fun u Φ' M' => ∃ v, u = .tuple #[v, .int .i64 p.2] ∧ Φ' = [fRp v p.1] ∧ M' = []
theorem take_spec (f : Frm) (sv : Value) (op : Nat) (hop : op < 256) (hs : f.stack.length ≤ 100000) :
    Fn Tryz.prog 62 [frmV f sv, .int .u8 (op : Int)] [fRp sv f.stack] [] (RTake (takeF f.stack op)) := by
  obtain ⟨b1, b2, _⟩ := row_le hop
  have h1 := info_spec op hop
  unfold popsN at b1
  unfold pushN' at b2
  unfold infoV at h1
  cases hi : infoN op with
  | none =>
    have ht : takeF f.stack op = ([], 42) := by unfold takeF; rw [if_pos (.inl hi)]
    rw [ht]
    rw [hi] at h1
    refine Fn.enter Tryz.func62 rfl Tryz.ntmps62 (by simp) (fun I0 w0 => ?_)
    refine W.bare (G.slice sv f.stack ?_)
    intro a1 c1 e1 k1
    subst e1
    repeat (first | (refine sty ?_; try intro _) | (refine st ?_; try intro _) | (refine stz ?_; try intro _) | (refine stq ?_; try intro _))
    refine o_callV rfl rfl rfl rfl h1 rfl ?_
    repeat (first | (refine sty ?_; try intro _) | (refine st ?_; try intro _) | (refine stz ?_; try intro _) | (refine stq ?_; try intro _))
    exact G.ret rfl (.cons (.tmp rfl) (.cons (.tmp rfl) .nil)) (Φ' := [fRp (.slice none 0 0) ([] : List Word)]) (M' := []) inferInstance (List.nil_sublist _) ⟨_, rfl, rfl, rfl⟩
  | some r =>
    rw [hi] at h1 b1 b2
    dsimp only [Option.getD_some] at h1 b1 b2
    by_cases h254 : op = 254
    · have ht : takeF f.stack op = ([], 42) := by unfold takeF; rw [if_pos (.inr h254)]
      rw [ht]
      subst h254
      refine Fn.enter Tryz.func62 rfl Tryz.ntmps62 (by simp) (fun I0 w0 => ?_)
      refine W.bare (G.slice sv f.stack ?_)
      intro a1 c1 e1 k1
      subst e1
      repeat (first | (refine sty ?_; try intro _) | (refine st ?_; try intro _) | (refine stz ?_; try intro _) | (refine stq ?_; try intro _))
      refine o_callV rfl rfl rfl rfl h1 rfl ?_
      repeat (first | (refine sty ?_; try intro _) | (refine st ?_; try intro _) | (refine stz ?_; try intro _) | (refine stq ?_; try intro _))
      exact G.ret rfl (.cons (.tmp rfl) (.cons (.tmp rfl) .nil)) (Φ' := [fRp (.slice none 0 0) ([] : List Word)]) (M' := []) inferInstance (List.nil_sublist _) ⟨_, rfl, rfl, rfl⟩
    · have h2 := fun v => pop_spec v f.stack r.pops b1 hs
      obtain ⟨p1, p2, e, hq⟩ : ∃ p1 p2 e, popL f.stack r.pops = (p1, p2, e) := ⟨_, _, _, rfl⟩
      have ht : takeF f.stack op = if e = 0 ∧ 1024 + r.pops < f.stack.length + r.pushes then ([], 41) else (p2, e) := by
        unfold takeF popsN pushN'
        rw [if_neg (by rw [hi]; rintro (h | h); cases h; exact h254 h), hi]
        simp only [Option.getD_some, hq]
      rw [ht]
      simp only [hq] at h2
      refine Fn.enter Tryz.func62 rfl Tryz.ntmps62 (by simp) (fun I0 w0 => ?_)
      refine W.bare (G.slice sv f.stack ?_)
      intro a1 c1 e1 k1
      subst e1
      repeat (first | (refine sty ?_; try intro _) | (refine st ?_; try intro _) | (refine stz ?_; try intro _) | (refine stq ?_; try intro _))
      refine o_callV rfl rfl rfl rfl h1 rfl ?_
      repeat (first | (refine sty ?_; try intro _) | (refine st ?_; try intro _) | (refine stz ?_; try intro _) | (refine stq ?_; try intro _))
      refine OpK.call rfl rfl rfl rfl (h2 _) inferInstance (Mr := _) (List.Perm.refl _) ?_
      rintro u Φ' Mc' ⟨v1, v2, rfl, rfl, rfl⟩
      dsimp only [List.cons_append, List.nil_append, List.append_nil]
      by_cases he : e = 0
      · subst he
        by_cases hm : 1024 + r.pops < f.stack.length + r.pushes
        · rw [if_pos ⟨rfl, hm⟩]
          repeat (first | (refine sty ?_; try intro _) | (refine st ?_; try intro _) | (refine stz ?_; try intro _) | (refine stq ?_; try intro _))
          exact G.ret rfl (.cons (.tmp rfl) (.cons (.tmp rfl) .nil)) (Φ' := [fRp (.slice none 0 0) ([] : List Word)]) (M' := []) inferInstance (List.nil_sublist _) ⟨_, rfl, rfl, rfl⟩
        · rw [if_neg (fun h => hm h.2)]
          repeat (first | (refine sty ?_; try intro _) | (refine st ?_; try intro _) | (refine stz ?_; try intro _) | (refine stq ?_; try intro _))
          exact G.ret rfl (.cons (.tmp rfl) (.cons (.tmp rfl) .nil)) (Φ' := [fRp v2 p2]) (M' := []) inferInstance (List.nil_sublist _) ⟨_, rfl, rfl, rfl⟩
      · rw [if_neg (fun h => he h.1)]
        repeat (first | (refine sty ?_; try intro _) | (refine st ?_; try intro _) | (refine stz ?_; try intro _) | (refine stq ?_; try intro _))
        exact G.ret rfl (.cons (.tmp rfl) (.cons (.tmp rfl) .nil)) (Φ' := [fRp v2 p2]) (M' := []) inferInstance (List.nil_sublist _) ⟨_, rfl, rfl, rfl⟩
end Go.Rail
namespace Go.Rail
open Go Go.Proofs
set_option maxHeartbeats 400000
set_option maxRecDepth 4000
attribute [local irreducible] OpK G W LW wpListIn Exit.then Exit.inBlock Post rounds opRun bodyPostM intOp
set_option maxHeartbeats 1000000
structure Spn where
  at_ : Word
  n : Word
def Spn.cells (s : Spn) : List Value := [.int .u64 s.at_.a.toNat, .int .u64 s.at_.b.toNat, .int .u64 s.at_.c.toNat, .int .u64 s.at_.d.toNat, .int .u64 s.n.a.toNat, .int .u64 s.n.b.toNat, .int .u64 s.n.c.toNat, .int .u64 s.n.d.toNat]
def Spn.v (s : Spn) : Value := .agg s.cells.toArray
instance : GoTy Spn where
  sz := 8
  agg := true
  rep := fun _ cs w => cs = w.cells
  mono := fun _ h => h
  len := fun h => by rw [h]; rfl
  one := fun h => by rw [h]; rfl
  agg1 := fun h => by cases h
instance : GoFlat Spn where
  enc := Spn.cells
  val := Spn.v
  rep_iff := Iff.rfl
  val_eq := fun _ => rfl
instance (s : Spn) : ValOf s (.agg s.cells.toArray) := ⟨rfl⟩
def needI (s : Spn) : Int := match needF s.at_ s.n with
  | some n => n
  | none => -1
theorem reached1_spec (b : Nat) (v : Value) (xs : List Spn) (h1 : xs.length ≤ 1000000) : IterR Tryz.prog 274 [.pointer (some ⟨b, 0, none⟩)] (xs.map fun s => [.int .i64 (needI s)]) [fBlk b [v] 100, fRp v xs] := by
  intro l T Z hy s0 hs0
  have hy' : ∀ k (h : k < xs.length) s, T k s → FnY Tryz.prog l [.int .i64 (needI xs[k])] s.1 s.2 (YRr (T (k + 1)) Z) := fun k h s hs => by
    have := hy k (by simpa using h) s hs
    simpa using this
  rw [List.length_map]
  show Fn _ _ _ (fBlk b [v] 100 :: fRp v xs :: s0.1) _ _
  refine Fn.enter Tryz.func274 rfl Tryz.ntmps274 (by simp) (fun I0 w0 => ?_)
  repeat (first | (refine sty ?_; try intro _) | (refine st ?_; try intro _) | (refine stz ?_; try intro _) | (refine stq ?_; try intro _))
  refine W.loopI (fun (s : Nat × St) => (fBlk b [v] 100 :: fRp v xs :: s.2.1, [(0, .func (.yield l) #[] #[]), (7, v), (8, .int .i64 xs.length), (9, .int .i64 s.1)], s.2.2)) (fun s => s.1 ≤ xs.length ∧ T s.1 s.2) (fun s => xs.length - s.1) (0, s0) ⟨Nat.zero_le _, hs0⟩ ⟨fun I hp => hp⟩ (look_sub_cons rfl (look_sub_cons rfl (look_sub_cons rfl (look_sub_cons rfl look_sub_nil)))) (List.Sublist.refl _) ?_
  rintro ⟨i, s1⟩ ⟨hi, hst⟩
  dsimp only at hi hst ⊢
  by_cases hi0 : i = xs.length
  · subst hi0
    repeat (first | (refine sty ?_; try intro _) | (refine st ?_; try intro _) | (refine stz ?_; try intro _) | (refine stq ?_; try intro _))
    exact G.fin rfl .nil (Φ' := s1.1) (M' := s1.2) ⟨fun I hp φ hφ => hp φ (.tail _ (.tail _ hφ))⟩ (List.Sublist.refl _) (.inl hst)
  · have hi1 : i < xs.length := by omega
    have hyi := hy' i hi1 s1 hst
    have hn := need_spec xs[i].at_ xs[i].n
    unfold needI at hyi
    cases hq : needF xs[i].at_ xs[i].n with
    | some n =>
      rw [hq] at hyi hn
      dsimp only [Option.getD_some, Option.isSome_some] at hyi hn
      repeat (first | (refine sty ?_; try intro _) | (refine st ?_; try intro _) | (refine stz ?_; try intro _) | (refine stq ?_; try intro _))
      refine o_callV rfl rfl rfl rfl hn rfl ?_
      repeat (first | (refine sty ?_; try intro _) | (refine st ?_; try intro _) | (refine stz ?_; try intro _) | (refine stq ?_; try intro _))
      refine o_yieldR (Mr := [_]) rfl rfl rfl rfl hyi (fun I hp φ hφ => hp φ (by simp [hφ])) (List.perm_append_comm (l₁ := [_])) ?_ ?_
      · intro st2 hst2
        repeat (first | (refine sty ?_; try intro _) | (refine st ?_; try intro _) | (refine stz ?_; try intro _) | (refine stq ?_; try intro _))
        refine G.again (S := Nat × St) (i + 1, st2) (by dsimp only; omega) ⟨by dsimp only; omega, hst2⟩ ⟨fun I hp φ hφ => ?_⟩ (look_sub_cons rfl (look_sub_cons rfl (look_sub_cons rfl (look_sub_cons rfl look_sub_nil)))) (by simp)
        rcases List.mem_cons.1 hφ with rfl | hφ
        · exact hp _ (by simp)
        · rcases List.mem_cons.1 hφ with rfl | hφ
          · exact hp _ (by simp)
          · exact hp _ (by simp [hφ])
      · intro s hs
        repeat (first | (refine sty ?_; try intro _) | (refine st ?_; try intro _) | (refine stz ?_; try intro _) | (refine stq ?_; try intro _))
        exact G.ret rfl .nil (Φ' := s.1) (M' := s.2) ⟨fun I hp φ hφ => hp φ (List.mem_append_left _ hφ)⟩ (by simp) (.inr hs)
    | none =>
      rw [hq] at hyi hn
      dsimp only [Option.getD_none, Option.isSome_none] at hyi hn
      repeat (first | (refine sty ?_; try intro _) | (refine st ?_; try intro _) | (refine stz ?_; try intro _) | (refine stq ?_; try intro _))
      refine o_callV rfl rfl rfl rfl hn rfl ?_
      repeat (first | (refine sty ?_; try intro _) | (refine st ?_; try intro _) | (refine stz ?_; try intro _) | (refine stq ?_; try intro _))
      refine o_yieldR (Mr := [_]) rfl rfl rfl rfl hyi (fun I hp φ hφ => hp φ (by simp [hφ])) (List.perm_append_comm (l₁ := [_])) ?_ ?_
      · intro st2 hst2
        repeat (first | (refine sty ?_; try intro _) | (refine st ?_; try intro _) | (refine stz ?_; try intro _) | (refine stq ?_; try intro _))
        refine G.again (S := Nat × St) (i + 1, st2) (by dsimp only; omega) ⟨by dsimp only; omega, hst2⟩ ⟨fun I hp φ hφ => ?_⟩ (look_sub_cons rfl (look_sub_cons rfl (look_sub_cons rfl (look_sub_cons rfl look_sub_nil)))) (by simp)
        rcases List.mem_cons.1 hφ with rfl | hφ
        · exact hp _ (by simp)
        · rcases List.mem_cons.1 hφ with rfl | hφ
          · exact hp _ (by simp)
          · exact hp _ (by simp [hφ])
      · intro s hs
        repeat (first | (refine sty ?_; try intro _) | (refine st ?_; try intro _) | (refine stz ?_; try intro _) | (refine stq ?_; try intro _))
        exact G.ret rfl .nil (Φ' := s.1) (M' := s.2) ⟨fun I hp φ hφ => hp φ (List.mem_append_left _ hφ)⟩ (by simp) (.inr hs)
theorem reached_spec (v : Value) (xs : List Spn) : Fn Tryz.prog 194 [v] [fRp v xs] [] (fun u Φ' M' => ∃ b, u = .func (.func 274) #[] #[.pointer (some ⟨b, 0, none⟩)] ∧ Φ' = [fBlk b [v] 100] ∧ M' = []) := by
  refine Fn.enter Tryz.func194 rfl Tryz.ntmps194 (by simp) (fun I0 w0 => ?_)
  refine W.bare (G.slice v xs ?_)
  intro a1 c1 e1 k1
  subst e1
  repeat (first | (refine sty ?_; try intro _) | (refine st ?_; try intro _) | (refine stz ?_; try intro _) | (refine stq ?_; try intro _))
  rename_i b
  refine o_func rfl rfl rfl rfl ?_
  repeat (first | (refine sty ?_; try intro _) | (refine st ?_; try intro _) | (refine stz ?_; try intro _) | (refine stq ?_; try intro _))
  refine G.give b (cs := [.slice a1 xs.length c1]) (t := 100) ?_
  exact G.ret rfl (.cons (.tmp rfl) .nil) (Φ' := [fBlk b [.slice a1 xs.length c1] 100]) (M' := []) inferInstance (List.nil_sublist _) ⟨b, rfl, rfl, rfl⟩
end Go.Rail
namespace Go.Rail
open Go Go.Proofs
set_option maxHeartbeats 400000
set_option maxRecDepth 4000
attribute [local irreducible] OpK G W LW wpListIn Exit.then Exit.inBlock Post rounds opRun bodyPostM intOp
set_option maxHeartbeats 1000000
theorem costF_max (n : Nat) : costF n ≤ 3000000 := by
  unfold costF
  have h1 : min n 32768 ≤ 32768 := Nat.min_le_right _ _
  have h2 : min n 32768 * min n 32768 ≤ 32768 * 32768 := Nat.mul_le_mul h1 h1
  omega
attribute [local irreducible] costF
theorem reachF_app : ∀ (a b : List (Word × Word)) (h : Nat), reachF h (a ++ b) = (reachF h a).bind fun w => reachF w b
  | [], b, h => rfl
  | s :: r, b, h => by
    simp only [List.cons_append, reachF]
    cases needF s.1 s.2 with
    | none => rfl
    | some n => exact reachF_app r b (max h n)
theorem needF_max {a n : Word} {k : Nat} (h : needF a n = some k) : k ≤ 32768 := by
  unfold needF at h
  split at h
  · cases h; decide
  · split at h
    · next h2 => cases h; have := h2.1; omega
    · cases h
def prs (xs : List Spn) : List (Word × Word) := xs.map fun s => (s.at_, s.n)
theorem reachF_step (xs : List Spn) (h k w : Nat) (hk : k < xs.length) (hw : reachF h (prs (xs.take k)) = some w) : reachF h (prs (xs.take (k + 1))) = (match needF xs[k].at_ xs[k].n with | some n => some (max w n) | none => none) := by
  rw [List.take_succ_eq_append_getElem hk]
  unfold prs at hw ⊢
  rw [List.map_append, reachF_app, hw]
  show reachF w [(xs[k].at_, xs[k].n)] = _
  simp only [reachF]
  cases needF xs[k].at_ xs[k].n <;> rfl
theorem reachF_none (xs : List Spn) (h k : Nat) (hk : reachF h (prs (xs.take k)) = none) : reachF h (prs xs) = none := by
  conv => lhs; rw [← List.take_append_drop k xs]
  unfold prs at hk ⊢
  rw [List.map_append, reachF_app, hk]; rfl
def reachV (had : Nat) : Option Nat → Value
  | none => .tuple #[.int .i64 0, .int .i64 (had : Int), .bool false]
  | some w => .tuple #[.int .i64 ((costF w : Int) - (costF had : Int)), .int .i64 (w : Int), .bool true]
theorem reach_spec (m : List UInt8) (v : Value) (xs : List Spn) (hm : m.length ≤ 1048576) (h1 : xs.length ≤ 1000000) : FnV Tryz.prog 124 [.string (ba m), v] [fRp v xs] (reachV (m.length / 32) (reachF (m.length / 32) (prs xs))) := by
  have hhad : m.length / 32 ≤ 32768 := by omega
  refine Fn.enter Tryz.func124 rfl Tryz.ntmps124 (by simp) (fun I0 w0 => ?_)
  repeat (first | (refine sty ?_; try intro _) | (refine st ?_; try intro _) | (refine stz ?_; try intro _) | (refine stq ?_; try intro _))
  refine OpK.call rfl rfl rfl rfl (reached_spec v xs) inferInstance (Mr := _) (List.Perm.refl _) ?_
  rintro u Φ' Mc' ⟨b, rfl, rfl, rfl⟩
  dsimp only [List.cons_append, List.nil_append, List.append_nil]
  repeat (first | (refine sty ?_; try intro _) | (refine st ?_; try intro _) | (refine stz ?_; try intro _) | (refine stq ?_; try intro _))
  rename_i b4 b5 b6 b7
  generalize hh : m.length / 32 = had at hhad ⊢
  refine W.rangeFuncR (enc := xs.map fun s => [.int .i64 (needI s)]) (ps := [15]) (Φi := [fBlk b [v] 100, fRp v xs]) (Mr := []) (fun k s => ∃ w : Nat, reachF had (prs (xs.take k)) = some w ∧ w ≤ 32768 ∧ s = ([], [(b7, Ob [.int .i64 (had : Int)] 3), (b6, Ob [.bool false] 4), (b5, Ob [.int .i64 (w : Int)] 3), (b4, Ob [.int .i64 0] 3)])) (fun c s => c = .ret ∧ reachF had (prs xs) = none ∧ s = ([], [(b7, Ob [.int .i64 (had : Int)] 3), (b6, Ob [.bool false] 4), (b5, Ob [.int .i64 (had : Int)] 3), (b4, Ob [.int .i64 0] 3)])) rfl (reached1_spec b v xs h1) (by decide) (by intro vs h; obtain ⟨p, _, rfl⟩ := List.mem_map.1 h; rfl) inferInstance ([], [(b7, Ob [.int .i64 (had : Int)] 3), (b6, Ob [.bool false] 4), (b5, Ob [.int .i64 (had : Int)] 3), (b4, Ob [.int .i64 0] 3)]) ⟨had, rfl, hhad, rfl⟩ inferInstance (List.Perm.refl _) ?_ ?_ ?_
  · rintro y rec I0' w0' k hk _ ⟨w, hw, hw2, rfl⟩
    rw [List.length_map] at hk
    have hst := reachF_step xs had k w hk hw
    have he : (xs.map fun s => [Value.int .i64 (needI s)])[k]'(by rw [List.length_map]; exact hk) = [.int .i64 (needI xs[k])] := by simp
    dsimp only
    rw [he]
    unfold needI
    cases hq : needF xs[k].at_ xs[k].n with
    | none =>
      rw [hq] at hst
      have hno := reachF_none xs had (k + 1) hst
      show W _ _ _ _ ((15, .int .i64 (-1)) :: _) _
      repeat (first | (refine sty ?_; try intro _) | (refine st ?_; try intro _) | (refine stz ?_; try intro _) | (refine stq ?_; try intro _))
      refine G.begin (by rfl) ?_
      repeat (first | (refine sty ?_; try intro _) | (refine st ?_; try intro _) | (refine stz ?_; try intro _) | (refine stq ?_; try intro _))
      refine W.drawSt 2 1 b4 (Ob [.int .i64 0] 3) [dq _, (dq fun _ _ => .bool false)] [[], []] [0] (hrest := fun c => nrmX ?_) (hops := by
        refine AllX.a01 ?_ rfl (by intro c z0 Φr Lr K; refine nrmX ?_; intro hK; (first | refine sty ?_ | refine st ?_ | refine stz ?_ | refine stq ?_); (first | exact hK z0 | exact hK | exact fun b => hK (.int .i64 (b : Int)))) (by intro c z0 Φr Lr K; refine nrmX ?_; intro hK; (first | refine sty ?_ | refine st ?_ | refine stz ?_ | refine stq ?_); (first | exact hK z0 | exact hK | exact fun b => hK (.int .i64 (b : Int))))
        refine AllX.ai ?_ (by intro c z0 Φr Lr K; refine nrmX ?_; intro hK; (first | refine sty ?_ | refine st ?_ | refine stz ?_ | refine stq ?_); (first | exact hK z0 | exact hK | exact fun b => hK (.int .i64 (b : Int))))
        exact AllX.end)
      repeat (first | (refine sty ?_; try intro _) | (refine st ?_; try intro _) | (refine stz ?_; try intro _) | (refine stq ?_; try intro _))
      exact G.roundRet inferInstance (Φ' := []) (M'' := [(b7, Ob [.int .i64 (had : Int)] 3), (b6, Ob [.bool false] 4), (b5, Ob [.int .i64 (had : Int)] 3), (b4, Ob [.int .i64 0] 3)]) (.inr ⟨rfl, .ret, ([], [(b7, Ob [.int .i64 (had : Int)] 3), (b6, Ob [.bool false] 4), (b5, Ob [.int .i64 (had : Int)] 3), (b4, Ob [.int .i64 0] 3)]), ⟨rfl, hno, rfl⟩, rfl⟩) ⟨fun I hp φ hφ => hp φ (by simp at hφ)⟩ (List.Sublist.refl _)
    | some n =>
      rw [hq] at hst
      have hn := needF_max hq
      show W _ _ _ _ ((15, .int .i64 (n : Int)) :: _) _
      repeat (first | (refine sty ?_; try intro _) | (refine st ?_; try intro _) | (refine stz ?_; try intro _) | (refine stq ?_; try intro _))
      refine G.begin (by rfl) ?_
      repeat (first | (refine sty ?_; try intro _) | (refine st ?_; try intro _) | (refine stz ?_; try intro _) | (refine stq ?_; try intro _))
      rw [show (if (w : Int) < (n : Int) then (n : Int) else (w : Int)) = ((max w n : Nat) : Int) from by split <;> omega]
      exact G.roundEnd inferInstance (Φ' := []) (M'' := [(b7, Ob [.int .i64 (had : Int)] 3), (b6, Ob [.bool false] 4), (b5, Ob [.int .i64 ((max w n : Nat) : Int)] 3), (b4, Ob [.int .i64 0] 3)]) (.inl ⟨rfl, ([], [(b7, Ob [.int .i64 (had : Int)] 3), (b6, Ob [.bool false] 4), (b5, Ob [.int .i64 ((max w n : Nat) : Int)] 3), (b4, Ob [.int .i64 0] 3)]), ⟨max w n, hst, by omega, rfl⟩, rfl⟩) ⟨fun I hp φ hφ => hp φ (by simp at hφ)⟩ (List.Sublist.refl _)
  · rintro D _ ⟨w, hw, hw2, rfl⟩
    rw [List.length_map, List.take_length] at hw
    rw [hw]
    have c1 := mcost_spec w
    have c2 := mcost_spec had
    refine G.perm ?_ List.perm_append_comm
    dsimp only [List.cons_append, List.nil_append]
    have m1 := costF_max w
    have m2 := costF_max had
    repeat (first | (refine sty ?_; try intro _) | (refine st ?_; try intro _) | (refine stz ?_; try intro _) | (refine stq ?_; try intro _))
    refine W.drawSt 7 6 b4 (Ob [.int .i64 ((costF w : Int) - (costF had : Int))] 3) [dq _, dq _, dq _, dq _, dq _, dq _, (dq fun _ _ => .bool false)] [[], [0], [], [2], [1,3], [], [4]] [5] (hrest := fun c => nrmX ?_) (hops := by
      refine AllX.a0 ?_ rfl (by kernel_rfl) (by intro c z0 Φr Lr K; refine nrmX ?_; intro hK; (first | refine sty ?_ | refine st ?_ | refine stz ?_ | refine stq ?_); (first | exact hK z0 | exact hK | exact fun b => hK (.int .i64 (b : Int))))
      refine AllX.a0 ?_ rfl (by kernel_rfl) (by intro c z0 Φr Lr K; refine nrmX ?_; intro hK; refine o_callV rfl rfl rfl rfl c1 rfl ?_; exact hK z0)
      refine AllX.a0 ?_ rfl (by kernel_rfl) (by intro c z0 Φr Lr K; refine nrmX ?_; intro hK; (first | refine sty ?_ | refine st ?_ | refine stz ?_ | refine stq ?_); (first | exact hK z0 | exact hK | exact fun b => hK (.int .i64 (b : Int))))
      refine AllX.a0 ?_ rfl (by kernel_rfl) (by intro c z0 Φr Lr K; refine nrmX ?_; intro hK; refine o_callV rfl rfl rfl rfl c2 rfl ?_; exact hK z0)
      refine AllX.a0 ?_ rfl (by kernel_rfl) (by intro c z0 Φr Lr K; refine nrmX ?_; intro hK; (first | refine sty ?_ | refine st ?_ | refine stz ?_ | refine stq ?_); (first | exact hK z0 | exact hK | exact fun b => hK (.int .i64 (b : Int))))
      refine AllX.a01 ?_ rfl (by intro c z0 Φr Lr K; refine nrmX ?_; intro hK; (first | refine sty ?_ | refine st ?_ | refine stz ?_ | refine stq ?_); (first | exact hK z0 | exact hK | exact fun b => hK (.int .i64 (b : Int)))) (by intro c z0 Φr Lr K; refine nrmX ?_; intro hK; (first | refine sty ?_ | refine st ?_ | refine stz ?_ | refine stq ?_); (first | exact hK z0 | exact hK | exact fun b => hK (.int .i64 (b : Int))))
      refine AllX.ai ?_ (by intro c z0 Φr Lr K; refine nrmX ?_; intro hK; (first | refine sty ?_ | refine st ?_ | refine stz ?_ | refine stq ?_); (first | exact hK z0 | exact hK | exact fun b => hK (.int .i64 (b : Int))))
      exact AllX.end)
    repeat (first | (refine sty ?_; try intro _) | (refine st ?_; try intro _) | (refine stz ?_; try intro _) | (refine stq ?_; try intro _))
    refine G.unmark inferInstance ?_
    exact G.ret rfl (.cons (.cell1 rfl) (.cons (.cell1 rfl) (.cons (.cell1 rfl) .nil))) (Φ' := []) (M' := []) inferInstance (List.nil_sublist _) ⟨rfl, rfl, rfl⟩
  · rintro D c' s ⟨rfl, hno, rfl⟩
    rw [hno]
    refine W.bare (G.perm ?_ List.perm_append_comm)
    dsimp only [List.cons_append, List.nil_append]
    refine G.code ?_
    repeat (first | (refine sty ?_; try intro _) | (refine st ?_; try intro _) | (refine stz ?_; try intro _) | (refine stq ?_; try intro _))
    refine G.unmark inferInstance ?_
    exact G.ret rfl (.cons (.cell1 rfl) (.cons (.cell1 rfl) (.cons (.cell1 rfl) .nil))) (Φ' := []) (M' := []) inferInstance (List.nil_sublist _) ⟨rfl, rfl, rfl⟩
end Go.Rail
