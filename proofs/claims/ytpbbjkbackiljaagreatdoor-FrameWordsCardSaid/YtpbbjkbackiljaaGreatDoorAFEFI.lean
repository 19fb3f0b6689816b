/- frame.Pay. -/
import Derived.Test.YtpbbjkbackiljaaGreatDoorAFBFD
set_option linter.unusedSimpArgs false
set_option linter.unusedVariables false
namespace Go.Rail
open Go Go.Proofs
set_option maxHeartbeats 400000
set_option maxRecDepth 4000
attribute [local irreducible] OpK G W LW wpListIn Exit.then Exit.inBlock Post rounds opRun bodyPostM intOp
set_option maxHeartbeats 1000000
attribute [local irreducible] costF growF
theorem reachF_max : ∀ (l : List (Word × Word)) (h w : Nat), h ≤ 32768 → reachF h l = some w → w ≤ 32768
  | [], h, w, hh, hw => by cases hw; exact hh
  | s :: r, h, w, hh, hw => by
    simp only [reachF] at hw
    cases hn : needF s.1 s.2 with
    | none => rw [hn] at hw; cases hw
    | some n =>
      rw [hn] at hw
      have := needF_max hn
      exact reachF_max r (max h n) w (by omega) hw
def RPay (p : Frm) : Value → List Fa → Own → Prop := fun u Φ' M' => ∃ v o, IsOwn (GoTy.sz Word) v p.stack.length o ∧ u = .tuple #[frmV p v, .bool true] ∧ Φ' = [fRow (ocells o) p.stack] ∧ M' = ownM 49 o
theorem pay_some (f : Frm) (sv v : Value) (op more : Nat) (xs : List Spn) (p : Frm) (hop : op < 256) (hp : payF f op more (prs xs) = some p) (hm : f.mem.length ≤ 1048576) (h32 : f.mem.length % 32 = 0) (hs : f.stack.length ≤ 100000) (hpop : popsN op ≤ f.stack.length)
    (hmore : more ≤ 1000000000) (hg1 : 0 ≤ f.gas) (hg2 : f.gas ≤ 1000000000000) (hpc1 : 0 ≤ f.pc) (hpc2 : f.pc ≤ 1000000000000000000) (h1 : xs.length ≤ 1000000) :
    Fn Tryz.prog 64 [frmV f sv, .int .u8 (op : Int), .int .i64 (more : Int), v] [fRp sv f.stack, fRp v xs] [] (RPay p) := by
  have hhad : f.mem.length / 32 ≤ 32768 := by omega
  have hi := info_spec op hop
  unfold infoV at hi
  have hre := reach_spec f.mem v xs hm h1
  have his := is_spec op hop
  have hown := fun sv => own_spec f sv (by omega)
  obtain ⟨_, _, hgm⟩ := row_le hop
  unfold payF at hp
  unfold gasN at hp hgm
  unfold popsN at hp hpop
  generalize (infoN op).getD noRow = r at hi hp hgm hpop
  cases hr : reachF (f.mem.length / 32) (prs xs) with
  | none => rw [hr] at hp; cases hp
  | some w =>
  rw [hr] at hp hre
  dsimp only at hp
  unfold reachV at hre
  dsimp only at hre
  have hw := reachF_max _ _ _ hhad hr
  have hgr := grow_spec f.mem (w : Int) hm h32 (by omega) (by omega)
  rw [Int.toNat_natCast] at hgr
  have m1 := costF_max w
  have m2 := costF_max (f.mem.length / 32)
  generalize costF w = cw at hp hre m1
  generalize costF (f.mem.length / 32) = ch at hp hre m2
  by_cases hg : f.gas < (cw : Int) - (ch : Int) + (r.gas : Int) + (more : Int)
  · rw [if_pos hg] at hp; cases hp
  rw [if_neg hg, show (cw : Int) - (ch : Int) + (r.gas : Int) + (more : Int) = (cw : Int) - (ch : Int) + ((r.gas + more : Nat) : Int) from by omega] at hp
  generalize (infoN op).isSome = is at hi
  cases hC : isC op with
  | true =>
    rw [hC] at his hp
    cases hp
    refine Fn.enter Tryz.func64 rfl Tryz.ntmps64 (by simp) (fun I0 w0 => ?_)
    refine W.bare (G.slice sv f.stack ?_)
    intro a1 c1 e1 k1
    subst e1
    repeat (first | (refine sty ?_; try intro _) | (refine st ?_; try intro _) | (refine stz ?_; try intro _) | (refine stq ?_; try intro _))
    refine o_callV rfl rfl rfl rfl hi rfl ?_
    repeat (first | (refine sty ?_; try intro _) | (refine st ?_; try intro _) | (refine stz ?_; try intro _) | (refine stq ?_; try intro _))
    refine o_callV rfl rfl rfl rfl hre rfl ?_
    repeat (first | (refine sty ?_; try intro _) | (refine st ?_; try intro _) | (refine stz ?_; try intro _) | (refine stq ?_; try intro _))
    refine OpK.call rfl rfl rfl rfl (hown _) inferInstance (List.Perm.refl _) ?_
    rintro u Φ' Mc' ⟨v2, o, hv, rfl, rfl, rfl⟩
    refine G.perm ?_ List.perm_append_comm
    obtain ⟨a2, c2, rfl⟩ := own_open hv
    dsimp only [List.cons_append, List.nil_append]
    repeat (first | (refine sty ?_; try intro _) | (refine st ?_; try intro _) | (refine stz ?_; try intro _) | (refine stq ?_; try intro _))
    refine o_callV rfl rfl rfl rfl hgr rfl ?_
    repeat (first | (refine sty ?_; try intro _) | (refine st ?_; try intro _) | (refine stz ?_; try intro _) | (refine stq ?_; try intro _))
    refine o_callV rfl rfl rfl rfl his rfl ?_
    repeat (first | (refine sty ?_; try intro _) | (refine st ?_; try intro _) | (refine stz ?_; try intro _) | (refine stq ?_; try intro _))
    exact G.ret rfl (.cons (.cellA rfl rfl) (.cons (.tmp rfl) .nil)) (Φ' := [fRow (ocells o) f.stack]) (M' := ownM 49 o) inferInstance (.cons _ (.cons _ (.cons _ (List.Sublist.refl _)))) ⟨_, o, hv, rfl, rfl, rfl⟩
  | false =>
    rw [hC] at his hp
    rw [if_neg Bool.false_ne_true] at hp
    cases hp
    refine Fn.enter Tryz.func64 rfl Tryz.ntmps64 (by simp) (fun I0 w0 => ?_)
    refine W.bare (G.slice sv f.stack ?_)
    intro a1 c1 e1 k1
    subst e1
    repeat (first | (refine sty ?_; try intro _) | (refine st ?_; try intro _) | (refine stz ?_; try intro _) | (refine stq ?_; try intro _))
    refine o_callV rfl rfl rfl rfl hi rfl ?_
    repeat (first | (refine sty ?_; try intro _) | (refine st ?_; try intro _) | (refine stz ?_; try intro _) | (refine stq ?_; try intro _))
    refine o_callV rfl rfl rfl rfl hre rfl ?_
    repeat (first | (refine sty ?_; try intro _) | (refine st ?_; try intro _) | (refine stz ?_; try intro _) | (refine stq ?_; try intro _))
    refine OpK.call rfl rfl rfl rfl (hown _) inferInstance (List.Perm.refl _) ?_
    rintro u Φ' Mc' ⟨v2, o, hv, rfl, rfl, rfl⟩
    refine G.perm ?_ List.perm_append_comm
    cases o with
    | none =>
      obtain ⟨rfl, hn0⟩ := hv
      dsimp only [List.cons_append, List.nil_append, ownM, ocells]
      have hp0 : r.pops = 0 := by omega
      repeat (first | (refine sty ?_; try intro _) | (refine st ?_; try intro _) | (refine stz ?_; try intro _) | (refine stq ?_; try intro _))
      refine o_callV rfl rfl rfl rfl hgr rfl ?_
      repeat (first | (refine sty ?_; try intro _) | (refine st ?_; try intro _) | (refine stz ?_; try intro _) | (refine stq ?_; try intro _))
      refine o_callV rfl rfl rfl rfl his rfl ?_
      repeat (first | (refine sty ?_; try intro _) | (refine st ?_; try intro _) | (refine stz ?_; try intro _) | (refine stq ?_; try intro _))
      refine o_cutNil rfl rfl rfl rfl (by omega) ?_
      repeat (first | (refine sty ?_; try intro _) | (refine st ?_; try intro _) | (refine stz ?_; try intro _) | (refine stq ?_; try intro _))
      refine G.learn (fRow [] (f.stack.take (f.stack.length - r.pops))) (e := ⟨fun I hp => RowRep.take (hp (fRow [] f.stack) (by simp)) _⟩) ?_
      exact G.ret rfl (.cons (.cellA rfl rfl) (.cons (.tmp rfl) .nil)) (Φ' := [fRow [] (f.stack.take (f.stack.length - r.pops))]) (M' := []) inferInstance (List.nil_sublist _) ⟨_, none, ⟨rfl, by show (f.stack.take (f.stack.length - r.pops)).length = 0; rw [List.length_take]; omega⟩, rfl, rfl, rfl⟩
    | some q =>
      obtain ⟨b, cs⟩ := q
      obtain ⟨c2, rfl, hc1, hc2⟩ := hv
      dsimp only [List.cons_append, List.nil_append, ownM, ocells]
      repeat (first | (refine sty ?_; try intro _) | (refine st ?_; try intro _) | (refine stz ?_; try intro _) | (refine stq ?_; try intro _))
      refine o_callV rfl rfl rfl rfl hgr rfl ?_
      repeat (first | (refine sty ?_; try intro _) | (refine st ?_; try intro _) | (refine stz ?_; try intro _) | (refine stq ?_; try intro _))
      refine o_callV rfl rfl rfl rfl his rfl ?_
      repeat (first | (refine sty ?_; try intro _) | (refine st ?_; try intro _) | (refine stz ?_; try intro _) | (refine stq ?_; try intro _))
      refine o_cutO (f.stack.length - r.pops) rfl rfl rfl ⟨_, _, rfl, by omega⟩ (by omega) ?_
      repeat (first | (refine sty ?_; try intro _) | (refine st ?_; try intro _) | (refine stz ?_; try intro _) | (refine stq ?_; try intro _))
      refine G.learn (fRow cs (f.stack.take (f.stack.length - r.pops))) (e := ⟨fun I hp => RowRep.take (hp (fRow cs f.stack) (by simp)) _⟩) ?_
      exact G.ret rfl (.cons (.cellA rfl rfl) (.cons (.tmp rfl) .nil)) (Φ' := [fRow cs (f.stack.take (f.stack.length - r.pops))]) (M' := [(b, Ob cs 49)]) inferInstance (.cons _ (.cons _ (.cons _ (List.Sublist.refl _)))) ⟨_, some (b, cs), ⟨c2, by show _ = Value.slice (some ⟨b, 0, none⟩) (f.stack.take (f.stack.length - r.pops)).length c2; rw [List.length_take, Nat.min_eq_left (Nat.sub_le _ _)], hc1, by show (f.stack.take (f.stack.length - r.pops)).length ≤ c2; rw [List.length_take]; omega⟩, rfl, rfl, rfl⟩
def RNo (f : Frm) : Value → List Fa → Own → Prop := fun u Φ' M' => ∃ a c, u = .tuple #[frmV f (.slice a f.stack.length c), .bool false] ∧ Φ' = [fRp (.slice a f.stack.length c) f.stack] ∧ M' = []
theorem pay_none (f : Frm) (sv v : Value) (op more : Nat) (xs : List Spn) (hop : op < 256) (hp : payF f op more (prs xs) = none) (hm : f.mem.length ≤ 1048576) (hmore : more ≤ 1000000000) (hg1 : 0 ≤ f.gas) (hg2 : f.gas ≤ 1000000000000) (h1 : xs.length ≤ 1000000) :
    Fn Tryz.prog 64 [frmV f sv, .int .u8 (op : Int), .int .i64 (more : Int), v] [fRp sv f.stack, fRp v xs] [] (RNo f) := by
  have hhad : f.mem.length / 32 ≤ 32768 := by omega
  have hi := info_spec op hop
  unfold infoV at hi
  have hre := reach_spec f.mem v xs hm h1
  obtain ⟨_, _, hgm⟩ := row_le hop
  unfold payF at hp
  unfold gasN at hp hgm
  unfold popsN at hp
  generalize (infoN op).getD noRow = r at hi hp hgm
  generalize (infoN op).isSome = is at hi
  cases hr : reachF (f.mem.length / 32) (prs xs) with
  | none =>
    rw [hr] at hre
    unfold reachV at hre
    dsimp only at hre
    generalize f.mem.length / 32 = had at hre hhad
    refine Fn.enter Tryz.func64 rfl Tryz.ntmps64 (by simp) (fun I0 w0 => ?_)
    refine W.bare (G.slice sv f.stack ?_)
    intro a1 c1 e1 k1
    subst e1
    repeat (first | (refine sty ?_; try intro _) | (refine st ?_; try intro _) | (refine stz ?_; try intro _) | (refine stq ?_; try intro _))
    refine o_callV rfl rfl rfl rfl hi rfl ?_
    repeat (first | (refine sty ?_; try intro _) | (refine st ?_; try intro _) | (refine stz ?_; try intro _) | (refine stq ?_; try intro _))
    refine o_callV rfl rfl rfl rfl hre rfl ?_
    repeat (first | (refine sty ?_; try intro _) | (refine st ?_; try intro _) | (refine stz ?_; try intro _) | (refine stq ?_; try intro _))
    exact G.ret rfl (.cons (.cellA rfl rfl) (.cons (.tmp rfl) .nil)) (Φ' := [fRp (.slice a1 f.stack.length c1) f.stack]) (M' := []) inferInstance (List.nil_sublist _) ⟨a1, c1, rfl, rfl, rfl⟩
  | some w =>
    rw [hr] at hp hre
    dsimp only at hp
    unfold reachV at hre
    dsimp only at hre
    have m1 := costF_max w
    have m2 := costF_max (f.mem.length / 32)
    generalize costF w = cw at hp hre m1
    generalize costF (f.mem.length / 32) = ch at hp hre m2
    by_cases hg : f.gas < (cw : Int) - (ch : Int) + (r.gas : Int) + (more : Int)
    · refine Fn.enter Tryz.func64 rfl Tryz.ntmps64 (by simp) (fun I0 w0 => ?_)
      refine W.bare (G.slice sv f.stack ?_)
      intro a1 c1 e1 k1
      subst e1
      repeat (first | (refine sty ?_; try intro _) | (refine st ?_; try intro _) | (refine stz ?_; try intro _) | (refine stq ?_; try intro _))
      refine o_callV rfl rfl rfl rfl hi rfl ?_
      repeat (first | (refine sty ?_; try intro _) | (refine st ?_; try intro _) | (refine stz ?_; try intro _) | (refine stq ?_; try intro _))
      refine o_callV rfl rfl rfl rfl hre rfl ?_
      repeat (first | (refine sty ?_; try intro _) | (refine st ?_; try intro _) | (refine stz ?_; try intro _) | (refine stq ?_; try intro _))
      exact G.ret rfl (.cons (.cellA rfl rfl) (.cons (.tmp rfl) .nil)) (Φ' := [fRp (.slice a1 f.stack.length c1) f.stack]) (M' := []) inferInstance (List.nil_sublist _) ⟨a1, c1, rfl, rfl, rfl⟩
    · rw [if_neg hg] at hp
      cases hp
end Go.Rail
namespace Go.Rail
open Go Go.Proofs
set_option maxHeartbeats 400000
set_option maxRecDepth 4000
attribute [local irreducible] OpK G W LW wpListIn Exit.then Exit.inBlock Post rounds opRun bodyPostM intOp
set_option maxHeartbeats 1000000
theorem piece1_spec (b1 b2 : Nat) (i j : Nat) (av : Value) (l : List Word) (hi : i < l.length) (hj : j < l.length) (hl : l.length ≤ 1000) :
    FnV Tryz.prog 187 [av, .pointer (some ⟨b1, 0, none⟩), .pointer (some ⟨b2, 0, none⟩)] [fRp av l, fBlk b1 [.int .i64 (i : Int)] 3, fBlk b2 [.int .i64 (j : Int)] 3] (Spn.mk l[i] l[j]).v := by
  refine Fn.enter Tryz.func187 rfl Tryz.ntmps187 (by simp) (fun I0 w0 => ?_)
  repeat (first | (refine sty ?_; try intro _) | (refine st ?_; try intro _) | (refine stz ?_; try intro _) | (refine stq ?_; try intro _))
  rename_i b4
  refine W.drawA 8 [dq _, dq _, dk _, dq _, dq _, dq _, dk _, dq _] [[], [], [0,1], [2], [], [], [4,5], [6]] [3, 7] (hrest := fun c => nrm ?_) (hops := by
    iterate 8 refine AllQ.aq ?_
    exact AllQ.nil)
  repeat (first | (refine sty ?_; try intro _) | (refine st ?_; try intro _) | (refine stz ?_; try intro _) | (refine stq ?_; try intro _))
  exact G.ret rfl (.cons (.cellA rfl rfl) .nil) (Φ' := []) (M' := []) inferInstance (List.nil_sublist _) ⟨rfl, rfl, rfl⟩
theorem fixed1_spec (b1 : Nat) (n : Nat) (av : Value) (l : List Word) (hi : 0 < l.length) (hn : n ≤ 1000) :
    FnV Tryz.prog 190 [av, .pointer (some ⟨b1, 0, none⟩)] [fRp av l, fBlk b1 [.int .i64 (n : Int)] 3] (Spn.mk l[0] (.nat n)).v := by
  have hof := wof_spec n (by omega)
  refine Fn.enter Tryz.func190 rfl Tryz.ntmps190 (by simp) (fun I0 w0 => ?_)
  repeat (first | (refine sty ?_; try intro _) | (refine st ?_; try intro _) | (refine stz ?_; try intro _) | (refine stq ?_; try intro _))
  rename_i b4
  refine W.drawA 5 [dq _, dk _, dq _, dq _, dq _] [[], [0], [1], [], [3]] [2, 4] (hrest := fun c => nrm ?_) (hops := by
    iterate 4 refine AllQ.aq ?_
    refine AllQ.mk (by intro c z0 Φr Lr K; refine nrm ?_; intro hK; refine o_callV rfl rfl rfl rfl hof rfl ?_; exact hK z0) ?_
    exact AllQ.nil)
  repeat (first | (refine sty ?_; try intro _) | (refine st ?_; try intro _) | (refine stz ?_; try intro _) | (refine stq ?_; try intro _))
  exact G.ret rfl (.cons (.cellA rfl rfl) .nil) (Φ' := []) (M' := []) inferInstance (List.nil_sublist _) ⟨rfl, rfl, rfl⟩
theorem of1_hash (b1 b2 : Nat) (i : Nat) (av : Value) (l : List Word) (hi : i < l.length) (hl : l.length ≤ 1000) :
    FnV Tryz.prog 185 [av, .pointer (some ⟨b1, 0, none⟩), .pointer (some ⟨b2, 0, none⟩)] [fRp av l, fBlk b1 [.func (.func 97) #[] #[]] 107, fBlk b2 [.int .i64 (i : Int)] 3] (.int .i64 ((6 * wordsF (numF l[i]) : Nat) : Int)) := by
  have h1 := number_spec l[i]
  have h2 := ghash_spec (numF l[i])
  refine Fn.enter Tryz.func185 rfl Tryz.ntmps185 (by simp) (fun I0 w0 => ?_)
  repeat (first | (refine sty ?_; try intro _) | (refine st ?_; try intro _) | (refine stz ?_; try intro _) | (refine stq ?_; try intro _))
  refine W.drawA 6 [dq _, dq _, dq _, dk _, dq _, dq _] [[], [], [], [1,2], [3], [4]] [0, 5] (hrest := fun c => nrm ?_) (hops := by
    iterate 5 refine AllQ.aq ?_
    refine AllQ.mk (by intro c z0 Φr Lr K; refine nrm ?_; intro hK; refine o_callV rfl rfl rfl rfl h1 rfl ?_; exact hK z0) ?_
    exact AllQ.nil)
  repeat (first | (refine sty ?_; try intro _) | (refine st ?_; try intro _) | (refine stz ?_; try intro _) | (refine stq ?_; try intro _))
  refine o_callV (cap := []) rfl rfl rfl rfl h2 rfl ?_
  repeat (first | (refine sty ?_; try intro _) | (refine st ?_; try intro _) | (refine stz ?_; try intro _) | (refine stq ?_; try intro _))
  refine G.retV ?_
  rfl
theorem of1_copy (b1 b2 : Nat) (i : Nat) (av : Value) (l : List Word) (hi : i < l.length) (hl : l.length ≤ 1000) :
    FnV Tryz.prog 185 [av, .pointer (some ⟨b1, 0, none⟩), .pointer (some ⟨b2, 0, none⟩)] [fRp av l, fBlk b1 [.func (.func 104) #[] #[]] 107, fBlk b2 [.int .i64 (i : Int)] 3] (.int .i64 ((3 * wordsF (numF l[i]) : Nat) : Int)) := by
  have h1 := number_spec l[i]
  have h2 := gcopy_spec (numF l[i])
  refine Fn.enter Tryz.func185 rfl Tryz.ntmps185 (by simp) (fun I0 w0 => ?_)
  repeat (first | (refine sty ?_; try intro _) | (refine st ?_; try intro _) | (refine stz ?_; try intro _) | (refine stq ?_; try intro _))
  refine W.drawA 6 [dq _, dq _, dq _, dk _, dq _, dq _] [[], [], [], [1,2], [3], [4]] [0, 5] (hrest := fun c => nrm ?_) (hops := by
    iterate 5 refine AllQ.aq ?_
    refine AllQ.mk (by intro c z0 Φr Lr K; refine nrm ?_; intro hK; refine o_callV rfl rfl rfl rfl h1 rfl ?_; exact hK z0) ?_
    exact AllQ.nil)
  repeat (first | (refine sty ?_; try intro _) | (refine st ?_; try intro _) | (refine stz ?_; try intro _) | (refine stq ?_; try intro _))
  refine o_callV (cap := []) rfl rfl rfl rfl h2 rfl ?_
  repeat (first | (refine sty ?_; try intro _) | (refine st ?_; try intro _) | (refine stz ?_; try intro _) | (refine stq ?_; try intro _))
  refine G.retV ?_
  rfl
theorem ffixed_spec (n : Int) : Fn Tryz.prog 111 [.int .i64 n] [] [] (fun u Φ' M' => ∃ b, u = .func (.func 190) #[] #[.pointer (some ⟨b, 0, none⟩)] ∧ Φ' = [fBlk b [.int .i64 n] 3] ∧ M' = []) := by
  refine Fn.enter Tryz.func111 rfl Tryz.ntmps111 (by simp) (fun I0 w0 => ?_)
  repeat (first | (refine sty ?_; try intro _) | (refine st ?_; try intro _) | (refine stz ?_; try intro _) | (refine stq ?_; try intro _))
  rename_i b
  refine o_func rfl rfl rfl rfl ?_
  repeat (first | (refine sty ?_; try intro _) | (refine st ?_; try intro _) | (refine stz ?_; try intro _) | (refine stq ?_; try intro _))
  refine G.give b (cs := [.int .i64 n]) (t := 3) ?_
  exact G.ret rfl (.cons (.tmp rfl) .nil) (Φ' := [fBlk b [.int .i64 n] 3]) (M' := []) inferInstance (List.nil_sublist _) ⟨b, rfl, rfl, rfl⟩
theorem fpiece_spec (i j : Int) : Fn Tryz.prog 98 [.int .i64 i, .int .i64 j] [] [] (fun u Φ' M' => ∃ b1 b2, u = .func (.func 187) #[] #[.pointer (some ⟨b1, 0, none⟩), .pointer (some ⟨b2, 0, none⟩)] ∧ Φ' = [fBlk b1 [.int .i64 i] 3, fBlk b2 [.int .i64 j] 3] ∧ M' = []) := by
  refine Fn.enter Tryz.func98 rfl Tryz.ntmps98 (by simp) (fun I0 w0 => ?_)
  repeat (first | (refine sty ?_; try intro _) | (refine st ?_; try intro _) | (refine stz ?_; try intro _) | (refine stq ?_; try intro _))
  rename_i b1 b2
  refine o_func rfl rfl rfl rfl ?_
  repeat (first | (refine sty ?_; try intro _) | (refine st ?_; try intro _) | (refine stz ?_; try intro _) | (refine stq ?_; try intro _))
  refine G.give b2 (cs := [.int .i64 j]) (t := 3) ?_
  refine G.give b1 (cs := [.int .i64 i]) (t := 3) ?_
  exact G.ret rfl (.cons (.tmp rfl) .nil) (Φ' := [fBlk b1 [.int .i64 i] 3, fBlk b2 [.int .i64 j] 3]) (M' := []) inferInstance (List.nil_sublist _) ⟨b1, b2, rfl, rfl, rfl⟩
theorem fof_spec (i : Int) (g : Nat) : Fn Tryz.prog 96 [.int .i64 i, .func (.func g) #[] #[]] [] [] (fun u Φ' M' => ∃ b1 b2, u = .func (.func 185) #[] #[.pointer (some ⟨b1, 0, none⟩), .pointer (some ⟨b2, 0, none⟩)] ∧ Φ' = [fBlk b1 [.func (.func g) #[] #[]] 107, fBlk b2 [.int .i64 i] 3] ∧ M' = []) := by
  refine Fn.enter Tryz.func96 rfl Tryz.ntmps96 (by simp) (fun I0 w0 => ?_)
  repeat (first | (refine sty ?_; try intro _) | (refine st ?_; try intro _) | (refine stz ?_; try intro _) | (refine stq ?_; try intro _))
  rename_i b2 b1
  refine o_func rfl rfl rfl rfl ?_
  repeat (first | (refine sty ?_; try intro _) | (refine st ?_; try intro _) | (refine stz ?_; try intro _) | (refine stq ?_; try intro _))
  refine G.give b1 (cs := [.func (.func g) #[] #[]]) (t := 107) ?_
  refine G.give b2 (cs := [.int .i64 i]) (t := 3) ?_
  exact G.ret rfl (.cons (.tmp rfl) .nil) (Φ' := [fBlk b1 [.func (.func g) #[] #[]] 107, fBlk b2 [.int .i64 i] 3]) (M' := []) inferInstance (List.nil_sublist _) ⟨b1, b2, rfl, rfl, rfl⟩
end Go.Rail
namespace Go.Rail
open Go Go.Proofs
set_option maxHeartbeats 400000
set_option maxRecDepth 4000
attribute [local irreducible] OpK G W LW wpListIn Exit.then Exit.inBlock Post rounds opRun bodyPostM intOp
set_option maxHeartbeats 1000000
theorem find2_spec (av : Value) (l : List Word) (hi : 1 < l.length) : FnV Tryz.prog 55 [av] [fRp av l] (.int .i64 ((50 * (trimF (byN l[1].num)).length : Nat) : Int)) := by
  have h := gexp_spec l[1]
  refine Fn.enter Tryz.func55 rfl Tryz.ntmps55 (by simp) (fun I0 w0 => ?_)
  repeat (first | (refine sty ?_; try intro _) | (refine st ?_; try intro _) | (refine stz ?_; try intro _) | (refine stq ?_; try intro _))
  refine o_callV rfl rfl rfl rfl h rfl ?_
  repeat (first | (refine sty ?_; try intro _) | (refine st ?_; try intro _) | (refine stz ?_; try intro _) | (refine stq ?_; try intro _))
  refine G.retV ?_
  rfl
abbrev pcF (f : Frm) (s : List Word) (pc : Int) : Frm := { f with stack := s, pc := pc }
theorem find3_spec (B b1 : Nat) (f : Frm) (sv av : Value) (wrong : Int) (n : Nat) (o : OR) (hs : f.stack.length ≤ 1000000) (ho : IsOwn (GoTy.sz Word) sv f.stack.length o) (hx : f.code.length ≤ 1000000) (hp1 : 0 ≤ f.pc) (hp2 : f.pc ≤ 1000000000000000000) (hn : n ≤ 1000) :
    Fn Tryz.prog 57 [.pointer (some ⟨B, 0, none⟩), .pointer (some ⟨b1, 0, none⟩)] [fRow (ocells o) f.stack, fBlk b1 [.int .i64 (n : Int)] 3] ((B, Ob (runC f sv av wrong) 94) :: ownM 49 o) (RRun B (pcF f (f.stack ++ [opushL f.code (f.pc - 1) (n : Int)]) (f.pc + (n : Int))) av wrong) := by
  have h1 := opush_spec f.code (f.pc - 1) (n : Int) hx
  generalize opushL f.code (f.pc - 1) (n : Int) = w at h1 ⊢
  refine Fn.enter Tryz.func57 rfl Tryz.ntmps57 (by simp) (fun I0 w0 => ?_)
  repeat (first | (refine sty ?_; try intro _) | (refine st ?_; try intro _) | (refine stz ?_; try intro _) | (refine stq ?_; try intro _))
  refine W.drawA 14 [dq _, dq _, dq _, dq _, dq _, dq _, dq _, dq _, dq _, dq _, dq _, dq _, dq _, dq _] [[], [], [1], [2], [3], [4], [], [6], [7], [8], [9], [10], [], [5,11,12]] [0, 13] (hrest := fun c => nrm ?_) (hops := by
    iterate 13 refine AllQ.aq ?_
    refine AllQ.mk (by intro c z0 Φr Lr K; refine nrm ?_; intro hK; refine o_callV rfl rfl rfl rfl h1 rfl ?_; exact hK z0) ?_
    exact AllQ.nil)
  repeat (first | (refine sty ?_; try intro _) | (refine st ?_; try intro _) | (refine stz ?_; try intro _) | (refine stq ?_; try intro _))
  refine OpK.call rfl rfl rfl rfl (rpush_spec B f sv av wrong o w hs ho) inferInstance (Mr := []) (by rw [List.append_nil]) ?_
  rintro u Φ' Mc' ⟨a, cp, rfl, rfl, rfl⟩
  dsimp only [List.cons_append, List.nil_append, List.append_nil]
  repeat (first | (refine sty ?_; try intro _) | (refine st ?_; try intro _) | (refine stz ?_; try intro _) | (refine stq ?_; try intro _))
  refine W.drawA 6 [dq _, dq _, dq _, dq _, dq _, dq _] [[], [0], [1], [2], [3], []] [0, 4, 5] (hrest := fun c => nrm ?_) (hops := by
    iterate 6 refine AllQ.aq ?_
    exact AllQ.nil)
  repeat (first | (refine sty ?_; try intro _) | (refine st ?_; try intro _) | (refine stz ?_; try intro _) | (refine stq ?_; try intro _))
  exact G.fin rfl .nil (Φ' := [fRp (.slice a _ cp) _]) (M' := [_]) inferInstance (List.Sublist.refl _) ⟨a, cp, rfl, rfl, rfl⟩
end Go.Rail
namespace Go.Rail
open Go Go.Proofs
set_option maxHeartbeats 400000
set_option maxRecDepth 4000
attribute [local irreducible] OpK G W LW wpListIn Exit.then Exit.inBlock Post rounds opRun bodyPostM intOp
set_option maxHeartbeats 600000
attribute [local irreducible] doC
theorem find1_spec (B b1 : Nat) (f : Frm) (a0 : Option Addr) (c0 : Nat) (av : Value) (wrong : Int) (op : Nat) (hop : op < 256) (hs : f.stack.length ≤ 100000) :
    Fn Tryz.prog 53 [.pointer (some ⟨B, 0, none⟩), .pointer (some ⟨b1, 0, none⟩)] [fRp (.slice a0 f.stack.length c0) f.stack, fBlk b1 [.int .u8 (op : Int)] 5] [(B, Ob (runC f (.slice a0 f.stack.length c0) av wrong) 94)] (RRun B (stkF f (doC op f.stack).1) av wrong) := by
  have h1 := do_spec op hop (.slice a0 f.stack.length c0) f.stack hs
  generalize (doC op f.stack).1 = ys at h1 ⊢
  generalize (doC op f.stack).2 = e at h1
  refine Fn.enter Tryz.func53 rfl Tryz.ntmps53 (by simp) (fun I0 w0 => ?_)
  repeat (first | (refine sty ?_; try intro _) | (refine st ?_; try intro _) | (refine stz ?_; try intro _) | (refine stq ?_; try intro _))
  refine W.drawMx 15 14 (fun z => [(B, Ob (runC f z av wrong) 94)]) [dq _, dq _, dq _, dq _, dq _, dq _, dq _, ⟨fun _ z => .tuple #[z, .int .i64 e], fun _ z => [fRp z ys]⟩, dq _, dq _, dq _, dq _, dq _, dq _, ⟨fun _ _ => .bool false, fun _ z => [fRp z ys]⟩] [[], [], [], [2], [3], [4], [5], [1,6], [7], [8], [8], [0], [11], [12], [7,9,13]] [14] (hloc := by (repeat (first | exact AllL.nil | refine AllL.au ?_ | refine AllL.au ?_ (by intro c c2 z h; refine nrm ?_; constructor <;> first | rfl | (rw [h 7 (by kernel_rfl)]))))) (hrest := fun c => nrmX ?_) (hops := by
    refine AllX.a0 ?_ rfl (by kernel_rfl) (by intro c z0 Φr Lr K; refine nrmX ?_; intro hK; (first | refine sty ?_ | refine st ?_ | refine stz ?_ | refine stq ?_); (first | exact hK z0 | exact hK | exact fun b => hK (.int .i64 (b : Int))))
    refine AllX.a0 ?_ rfl (by kernel_rfl) (by intro c z0 Φr Lr K; refine nrmX ?_; intro hK; (first | refine sty ?_ | refine st ?_ | refine stz ?_ | refine stq ?_); (first | exact hK z0 | exact hK | exact fun b => hK (.int .i64 (b : Int))))
    refine AllX.a0 ?_ rfl (by kernel_rfl) (by intro c z0 Φr Lr K; refine nrmX ?_; intro hK; (first | refine sty ?_ | refine st ?_ | refine stz ?_ | refine stq ?_); (first | exact hK z0 | exact hK | exact fun b => hK (.int .i64 (b : Int))))
    refine AllX.a0 ?_ rfl (by kernel_rfl) (by intro c z0 Φr Lr K; refine nrmX ?_; intro hK; (first | refine sty ?_ | refine st ?_ | refine stz ?_ | refine stq ?_); (first | exact hK z0 | exact hK | exact fun b => hK (.int .i64 (b : Int))))
    refine AllX.a0 ?_ rfl (by kernel_rfl) (by intro c z0 Φr Lr K; refine nrmX ?_; intro hK; (first | refine sty ?_ | refine st ?_ | refine stz ?_ | refine stq ?_); (first | exact hK z0 | exact hK | exact fun b => hK (.int .i64 (b : Int))))
    refine AllX.a0 ?_ rfl (by kernel_rfl) (by intro c z0 Φr Lr K; refine nrmX ?_; intro hK; (first | refine sty ?_ | refine st ?_ | refine stz ?_ | refine stq ?_); (first | exact hK z0 | exact hK | exact fun b => hK (.int .i64 (b : Int))))
    refine AllX.a0 ?_ rfl (by kernel_rfl) (by intro c z0 Φr Lr K; refine nrmX ?_; intro hK; (first | refine sty ?_ | refine st ?_ | refine stz ?_ | refine stq ?_); (first | exact hK z0 | exact hK | exact fun b => hK (.int .i64 (b : Int))))
    refine AllX.a0 ?_ rfl (by kernel_rfl) (by intro c z0 Φr Lr K; refine nrmX ?_; intro hK; refine OpK.call rfl rfl rfl rfl h1 inferInstance (Mr := _) (List.Perm.refl _) ?_; rintro u Φ' Mc' ⟨v, rfl, rfl, rfl⟩; exact hK v)
    refine AllX.a0 ?_ rfl (by kernel_rfl) (by intro c z0 Φr Lr K; refine nrmX ?_; intro hK; (first | refine sty ?_ | refine st ?_ | refine stz ?_ | refine stq ?_); (first | exact hK z0 | exact hK | exact fun b => hK (.int .i64 (b : Int))))
    refine AllX.a0 ?_ rfl (by kernel_rfl) (by intro c z0 Φr Lr K; refine nrmX ?_; intro hK; (first | refine sty ?_ | refine st ?_ | refine stz ?_ | refine stq ?_); (first | exact hK z0 | exact hK | exact fun b => hK (.int .i64 (b : Int))))
    refine AllX.a01 ?_ rfl (by intro c z0 Φr Lr K; refine nrmX ?_; intro hK; (first | refine sty ?_ | refine st ?_ | refine stz ?_ | refine stq ?_); (first | exact hK z0 | exact hK | exact fun b => hK (.int .i64 (b : Int)))) (by intro c z0 Φr Lr K; refine nrmX ?_; intro hK; (first | refine sty ?_ | refine st ?_ | refine stz ?_ | refine stq ?_); (first | exact hK z0 | exact hK | exact fun b => hK (.int .i64 (b : Int))))
    refine AllX.a0 ?_ rfl (by kernel_rfl) (by intro c z0 Φr Lr K; refine nrmX ?_; intro hK; (first | refine sty ?_ | refine st ?_ | refine stz ?_ | refine stq ?_); (first | exact hK z0 | exact hK | exact fun b => hK (.int .i64 (b : Int))))
    refine AllX.a0 ?_ rfl (by kernel_rfl) (by intro c z0 Φr Lr K; refine nrmX ?_; intro hK; (first | refine sty ?_ | refine st ?_ | refine stz ?_ | refine stq ?_); (first | exact hK z0 | exact hK | exact fun b => hK (.int .i64 (b : Int))))
    refine AllX.a0 ?_ rfl (by kernel_rfl) (by intro c z0 Φr Lr K; refine nrmX ?_; intro hK; (first | refine sty ?_ | refine st ?_ | refine stz ?_ | refine stq ?_); (first | exact hK z0 | exact hK | exact fun b => hK (.int .i64 (b : Int))))
    refine AllX.ai ?_ (by intro c z0 Φr Lr K; refine nrmX ?_; intro hK; refine OpK.bare (G.slice (c 7) ys ?_); intro a9 c9 e9 k9; refine OpK.back ?_; have hk := hK (c 7); rw [e9] at hk ⊢; (first | refine sty ?_ | refine st ?_ | refine stz ?_ | refine stq ?_); refine G.learn (fRp (.slice a9 ys.length c9) ys) ?_; exact hk)
    exact AllX.end)
  generalize c 14 = v
  refine LW.bare (G.slice v ys ?_)
  intro a2 c2 e2 k2
  subst e2
  refine LW.back ?_
  repeat (first | (refine sty ?_; try intro _) | (refine st ?_; try intro _) | (refine stz ?_; try intro _) | (refine stq ?_; try intro _))
  exact G.fin rfl .nil (Φ' := [fRp (.slice a2 ys.length c2) ys]) (M' := [_]) inferInstance (List.Sublist.refl _) ⟨a2, c2, rfl, rfl, rfl⟩
end Go.Rail
