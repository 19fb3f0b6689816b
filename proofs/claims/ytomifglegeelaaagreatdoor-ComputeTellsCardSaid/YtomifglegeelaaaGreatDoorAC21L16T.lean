/- Layer 16: the first calls. -/
import Derived.Test.YtomifglegeelaaaGreatDoorAC19C20
import Derived.Test.YtomifglegeelaaaGreatDoorADDDE
namespace Go.Rail
open Go Go.Proofs
set_option linter.unusedSimpArgs false
set_option linter.unusedVariables false
set_option maxHeartbeats 400000
set_option maxRecDepth 4000
attribute [local irreducible] OpK G W LW wpListIn Exit.then Exit.inBlock Post rounds opRun bodyPostM intOp
set_option maxHeartbeats 16000000
set_option maxRecDepth 20000
section
variable {x : Cx} {Q : Exit → Act → World → Prop} {Φ : List Fa} {L : Env} {M : Own} {ops : Array Oper} {K : Act → World → Prop}
variable {d : Nat} {ty : TypeId} {pos : String} {af : Array Edge} {g : Option (Nat × Bool)}
theorem o_callRD {y : Operand} {args : List Operand} {vs cap : List Value} {ts : Array TypeId} {f : FuncId} {Φc : List Fa} {e : Int} {ys : List Word}
    (hdN : Nat.blt d x.N = true) (hg : gd ops L g = some true) (hy : ev L y = some (.func (.func f) #[] cap.toArray)) [hf : HasFn x.P f] (hargs : args.mapM (ev L) = some vs) (c : Fn x.P f (vs ++ cap) Φc [] (RD e ys)) [hΦ : Ents Φ Φc]
    (h : ∀ sv, G x (fRp sv ys :: Φ) ((d, .tuple #[sv, .int .i64 e]) :: L) M K) : OpK x ops Q ⟨some d, .call ⟨.value y, args.toArray, ts⟩, ty, pos, af, g⟩ Φ L M K :=
  o_callT (mk := tupD e) (ψ := fun sv => fRp sv ys) hdN hg hy hargs c h
end
instance (n : Int) {Φ : List Fa} : CV Tryz.prog 10 [.int .i64 n] Φ (Word.of n).v := ⟨Fn.weaken (of_spec n)⟩
theorem do_at (n : Nat) (hn : n < 256) (v : Value) (s : List Word) (hs : s.length ≤ 100000) {r : List Word} {e : Int} (h : doC n s = (r, e)) : Fn Tryz.prog 11 [.int .u8 (n : Int), v] [fRp v s] [] (RD e r) := by
  have := do_spec n hn v s hs
  rwa [h] at this
theorem awake16_spec : FnV Tryz.prog 8 [] [] (.bool true) := by
  have i1 := is_spec 29 (by decide)
  have i2 := is_spec 95 (by decide)
  rw [show isC 29 = true from by kernel_rfl] at i1
  rw [show isC 95 = false from by kernel_rfl] at i2
  refine Fn.enter Tryz.func8 rfl Tryz.ntmps8 (by simp) (fun I0 w0 => ?_)
  repeat (refine st ?_; try intro _)
  refine o_callRD rfl rfl rfl rfl (do_at 3 (by decide) _ [Word.of 3, Word.of 5] (by decide) (r := [Word.of 2]) (e := 0) (by kernel_rfl)) ?_
  intro _
  repeat (refine st ?_; try intro _)
  refine o_callRD rfl rfl rfl rfl (do_at 16 (by decide) _ [Word.of 3, Word.of 5] (by decide) (r := [Word.of 0]) (e := 0) (by kernel_rfl)) ?_
  intro _
  repeat (refine st ?_; try intro _)
  refine o_callRD rfl rfl rfl rfl (do_at 129 (by decide) _ [Word.of 3, Word.of 5] (by decide) (r := [Word.of 3, Word.of 5, Word.of 3]) (e := 0) (by kernel_rfl)) ?_
  intro _
  repeat (refine st ?_; try intro _)
  refine o_callRD rfl rfl rfl rfl (do_at 80 (by decide) _ [Word.of 3, Word.of 5] (by decide) (r := [Word.of 3]) (e := 0) (by kernel_rfl)) ?_
  intro _
  repeat (refine st ?_; try intro _)
  refine o_callRD rfl rfl rfl rfl (do_at 8 (by decide) _ [Word.of 7, Word.of 5, Word.of 4] (by decide) (r := [Word.of 2]) (e := 0) (by kernel_rfl)) ?_
  intro _
  repeat (refine st ?_; try intro _)
  refine o_callRD rfl rfl rfl rfl (do_at 1 (by decide) _ [Word.of 1] (by decide) (r := [Word.of 1]) (e := 40) (by kernel_rfl)) ?_
  intro _
  repeat (refine st ?_; try intro _)
  refine o_callRD rfl rfl rfl rfl (do_at 32 (by decide) _ [] (by decide) (r := []) (e := 42) (by kernel_rfl)) ?_
  intro _
  repeat (refine st ?_; try intro _)
  refine o_callV rfl rfl rfl rfl (samew_spec _ _ [Word.of 2] [Word.of 2] (by decide)) (congrArg Value.bool (decide_eq_true rfl)) ?_
  repeat (refine st ?_; try intro _)
  refine o_callV rfl rfl rfl rfl (samew_spec _ _ [Word.of 0] [Word.of 0] (by decide)) (congrArg Value.bool (decide_eq_true rfl)) ?_
  repeat (refine st ?_; try intro _)
  refine o_callV rfl rfl rfl rfl (samew_spec _ _ [Word.of 3, Word.of 5, Word.of 3] [Word.of 3, Word.of 5, Word.of 3] (by decide)) (congrArg Value.bool (decide_eq_true rfl)) ?_
  repeat (refine st ?_; try intro _)
  refine o_callV rfl rfl rfl rfl (samew_spec _ _ [Word.of 3] [Word.of 3] (by decide)) (congrArg Value.bool (decide_eq_true rfl)) ?_
  repeat (refine st ?_; try intro _)
  refine o_callV rfl rfl rfl rfl (samew_spec _ _ [Word.of 2] [Word.of 2] (by decide)) (congrArg Value.bool (decide_eq_true rfl)) ?_
  repeat (refine st ?_; try intro _)
  refine o_callV rfl rfl rfl rfl i1 rfl ?_
  repeat (refine st ?_; try intro _)
  refine o_callV rfl rfl rfl rfl i2 rfl ?_
  repeat (refine st ?_; try intro _)
  refine G.retV ?_
  rfl
end Go.Rail
namespace Go.Rail
open Go Go.Proofs
set_option linter.unusedSimpArgs false
set_option linter.unusedVariables false
set_option maxHeartbeats 400000
set_option maxRecDepth 4000
attribute [local irreducible] OpK G W LW wpListIn Exit.then Exit.inBlock Post rounds opRun bodyPostM intOp
set_option maxHeartbeats 16000000
set_option maxRecDepth 20000
attribute [local irreducible] lexN cmpW Word.nat subW mulW addW divW modW sdivW smodW addmodW mulmodW expW andW orW xorW notW shlW shrW sarW byteW signW lessW doC
def lastT (s : List Word) (k : Nat) : List Word := (s.take s.length).drop (s.length - k)
theorem pushL_len (s l : List Word) (h : l.length ≤ 100000) (hs : s.length ≤ 100000) : (pushL s l).1.length ≤ 1000000 := by
  unfold pushL
  split
  · dsimp only; omega
  · split
    · dsimp only; omega
    · dsimp only; rw [List.length_append]; omega
theorem doC_len (k : Nat) (hk : k < 256) (t : List Word) (ht : t.length ≤ 100000) : (doC k t).1.length ≤ 1000000 := by
  have hm : ∀ l : List Word, (madeL k l).length ≤ 100000 := fun l => by
    unfold madeL
    split
    · simp
    · split
      · simp
      · split <;> simp
  unfold doC
  split
  · dsimp only; omega
  · split
    · dsimp only; omega
    · split
      · unfold swapL
        dsimp only
        split
        · simp [swapS]; omega
        · omega
      · split
        · unfold dupL
          split
          · exact pushL_len _ _ (by simp) ht
          · dsimp only; omega
        · have hp : (popL t (popsN k)).1.length ≤ 100000 := by
            unfold popL
            split
            · dsimp only; rw [List.length_take]; omega
            · dsimp only; exact ht
          split
          · dsimp only; omega
          · exact pushL_len _ _ (hm _) hp
theorem tells_walk (op : Int) (a b c : Word) (n : Int) (great : Bool) (ho : -9223372036854775808 ≤ op) (hn : -9223372036854775808 ≤ n) : FnV Tryz.prog 3 [.int .i64 op, a.v, b.v, c.v, .int .i64 n, .bool great] [] (.bool true) := by
  obtain ⟨k, hk⟩ : ∃ k : Nat, pickI op 256 = (k : Int) := ⟨(pickI op 256).toNat, by have := pickI_nn op 256 (by decide); omega⟩
  have hk256 : k < 256 := by have := pickI_nn op 256 (by decide); omega
  have hp := pick16_spec op 256 ho (by decide)
  rw [hk] at hp
  obtain ⟨m, hm⟩ : ∃ m : Nat, pickI n 20 = (m : Int) := ⟨(pickI n 20).toNat, by have := pickI_nn n 20 (by decide); omega⟩
  have hm20 : m < 20 := by have := pickI_nn n 20 (by decide); omega
  have hpm := pick16_spec n 20 hn (by decide)
  rw [hm] at hpm
  obtain ⟨g, hg⟩ : ∃ g : Nat, pickI n 4 = (g : Int) := ⟨(pickI n 4).toNat, by have := pickI_nn n 4 (by decide); omega⟩
  have hg4 : g < 4 := by have := pickI_nn n 4 (by decide); omega
  have hpg := pick16_spec n 4 hn (by decide)
  rw [hg] at hpg
  have his := is_spec k hk256
  have hir := is16_spec k hk256
  refine Fn.enter Tryz.func3 rfl Tryz.ntmps3 (by simp) (fun I0 w0 => ?_)
  repeat (refine st ?_; try intro _)
  refine o_callV rfl rfl rfl rfl awake16_spec rfl ?_
  repeat (refine st ?_; try intro _)
  refine o_callV rfl rfl rfl rfl hp rfl ?_
  repeat (refine st ?_; try intro _)
  refine o_lit (xs := [⟨7, 0, 0, 0⟩, c, b, a]) ⟨by decide, rfl, by decide⟩ rfl rfl rfl ⟨fun _ _ => Rp.flat.2 rfl, fun _ _ => Rp.flat.2 rfl, fun _ _ => Rp.flat.2 rfl, fun _ _ => Rp.flat.2 rfl, trivial⟩ rfl ?_
  intro v0
  repeat (refine st ?_; try intro _)
  refine W.lp (S := Nat × Value × List Word) (fun q => ([fRp q.2.1 q.2.2], [(16, .int .i64 (q.1 : Int)), (15, q.2.1), (14, .int .u8 (k : Int)), (13, .bool true), (5, .bool great), (4, .int .i64 n)], [])) (fun q => q.1 ≤ m ∧ q.2.2.length = 4 + q.1) (fun q => m - q.1) (0, v0, [⟨7, 0, 0, 0⟩, c, b, a]) ?_ (h0 := ⟨Nat.zero_le _, rfl⟩) (hM := List.nil_sublist _)
  rintro ⟨i, sv, sl⟩ ⟨hi, hsl⟩
  dsimp only at hi hsl ⊢
  by_cases him : i = m
  case neg =>
    have hlt : decide ((i : Int) < (m : Int)) = true := decide_eq_true (by omega)
    repeat (refine st ?_; try intro _)
    refine o_callV rfl rfl rfl rfl hpm rfl ?_
    repeat (first | refine o_litM (xs := [Word.of (i : Int)]) ⟨by decide, rfl, by decide⟩ rfl rfl rfl ⟨fun _ _ => Rp.flat.2 rfl, RpL.nil⟩ rfl ?_ | (refine st ?_; try intro _))
    intro b1 cs1 hcs1
    repeat (refine st ?_; try intro _)
    refine o_app2 (α := Word) (Mr := []) (some (b1, cs1)) (xs := [Word.of (i : Int)]) (ys := sl) ⟨1, rfl, by simpa using hcs1, by simp⟩ ⟨by simp [hsl]; omega, by simp [hsl]; omega, rfl⟩ rfl rfl rfl rfl (show Ent' _ (fRow cs1 [Word.of (i : Int)]) from inferInstance) inferInstance (List.Perm.refl _) ?_
    intro w o ho
    refine G.giveOwn2 (Mr := []) w ([Word.of (i : Int)] ++ sl) o 24 ho inferInstance (List.Perm.refl _) ?_
    repeat (refine st ?_; try intro _)
    exact G.ag (S := Nat × Value × List Word) (i + 1, w, [Word.of (i : Int)] ++ sl) (hpre := ⟨by dsimp only; omega, by simp [hsl]; omega⟩)
  subst him
  repeat (refine st ?_; try intro _)
  refine o_callV rfl rfl rfl rfl hpm rfl ?_
  repeat (refine st ?_; try intro _)
  refine W.lp (S := Value × List Word) (fun q => ([fRp q.1 q.2], [(15, q.1), (14, .int .u8 (k : Int)), (13, .bool true), (5, .bool great), (4, .int .i64 n)], [])) (fun q => 4 ≤ q.2.length ∧ q.2.length ≤ 1100) (fun q => 1100 - q.2.length) (sv, sl) ?_ (h0 := ⟨by dsimp only; omega, by dsimp only; omega⟩)
  rintro ⟨sw, tl⟩ ⟨ht1, ht2⟩
  dsimp only at ht1 ht2 ⊢
  cases great with
  | false =>
    repeat (refine st ?_; try intro _)
    have hT : ∀ t ∈ [tl, lastT tl 1, lastT tl 2, []], t.length ≤ 100000 := by
      intro t ht
      simp only [List.mem_cons, List.not_mem_nil, or_false] at ht
      rcases ht with rfl | rfl | rfl | rfl
      · omega
      · simp only [lastT, List.length_drop, List.length_take]; omega
      · simp only [lastT, List.length_drop, List.length_take]; omega
      · simp
    have hTl : [tl, lastT tl 1, lastT tl 2, []].length = 4 := rfl
    generalize hTL : [tl, lastT tl 1, lastT tl 2, []] = TL at hT hTl
    refine W.drawA 14 [dq _, dq _, dq _, dq _, dq _, dk _, dq _, dq _, dq _, dq _, dk _, dk _, dq _, dq _] [[], [], [], [2], [3], [1,4], [], [], [7], [8], [6,9], [0,5,10], [11], []] [11, 12, 13] (hrest := fun c => nrm ?_) (hops := by
      iterate 5 refine AllQ.au ?_
      refine AllQ.mk (by intro c z0 Φr Lr K; refine nrm ?_; intro hK; refine o_slice (xs := tl) (tl.length - 1) tl.length rfl rfl rfl ⟨_, _, rfl, rfl⟩ rfl (by omega) (Nat.le_refl _) ?_; exact hK) ?_
      iterate 4 refine AllQ.au ?_
      refine AllQ.mk (by intro c z0 Φr Lr K; refine nrm ?_; intro hK; refine o_slice (xs := tl) (tl.length - 2) tl.length rfl rfl rfl ⟨_, _, rfl, rfl⟩ rfl (by omega) (Nat.le_refl _) ?_; exact hK) ?_
      refine AllQ.mk (by intro c z0 Φr Lr K; refine nrm ?_; intro hK; refine o_lit (xs := [tl, lastT tl 1, lastT tl 2, []]) ⟨by decide, rfl, by decide⟩ rfl rfl rfl ⟨fun I hp => hp (fRp sw tl) (by simp), fun I hp => hp (fRp _ (lastT tl 1)) (by simp [lastT]), fun I hp => hp (fRp _ (lastT tl 2)) (by simp [lastT]), fun I hp => Rp.nil none 0, trivial⟩ rfl ?_; rw [hTL]; exact hK) ?_
      iterate 2 refine AllQ.au ?_
      exact AllQ.nil)
    repeat (refine st ?_; try intro _)
    refine W.lp (fun (j : Nat) => ([fRp (c 11) TL], [(69, .int .i64 (j : Int)), (68, .int .i64 (TL.length : Int)), (67, c 11), (14, .int .u8 (k : Int)), (13, .bool true)], [])) (fun j => j ≤ TL.length) (fun j => TL.length - j) 0 ?_
    intro j hj
    dsimp only
    by_cases hjl : j = TL.length
    · subst hjl
      repeat (refine st ?_; try intro _)
      refine G.retV ?_
      rfl
    · have hjt : j < TL.length := by omega
      have hgt : TL[j]? = some TL[j] := List.getElem?_eq_getElem hjt
      have htl := hT TL[j] (List.getElem_mem hjt)
      generalize TL[j] = t at hgt htl
      have hdo := fun v => do_spec k hk256 v t htl
      have hdr := fun v => do16_spec k hk256 v t htl
      have hlen : (doC k t).1.length ≤ 1000000 := doC_len k hk256 t htl
      generalize doC k t = dd at hdo hdr hlen
      obtain ⟨r, e⟩ := dd
      dsimp only at hdo hdr hlen
      generalize isC k = ic at his hir
      repeat (first | refine o_idxG j t rfl rfl rfl rfl rfl hgt ?_ | (refine st ?_; try intro _))
      intro pt
      repeat (refine st ?_; try intro _)
      refine o_loadR rfl rfl rfl rfl ?_
      intro vt
      repeat (refine st ?_; try intro _)
      refine o_callRD rfl rfl rfl rfl (hdo vt) ?_
      intro v1
      repeat (refine st ?_; try intro _)
      refine o_callRD rfl rfl rfl rfl (hdr vt) ?_
      intro v2
      repeat (refine st ?_; try intro _)
      refine o_callV rfl rfl rfl rfl (samew_spec _ _ r r hlen) (congrArg Value.bool (decide_eq_true rfl)) ?_
      repeat (refine st ?_; try intro _)
      refine o_callV rfl rfl rfl rfl his rfl ?_
      repeat (refine st ?_; try intro _)
      refine o_callV rfl rfl rfl rfl hir rfl ?_
      repeat (refine st ?_; try intro _)
      exact G.ag (j + 1)
  | true =>
    by_cases hlg : tl.length < 1022 + g
    · have hlt : decide ((tl.length : Int) < 1022 + (g : Int)) = true := decide_eq_true (by omega)
      repeat (refine st ?_; try intro _)
      refine o_callV rfl rfl rfl rfl hpg rfl ?_
      repeat (first | refine o_litM (xs := [(⟨9, 0, 0, 0⟩ : Word)]) ⟨by decide, rfl, by decide⟩ rfl rfl rfl ⟨fun _ _ => Rp.flat.2 rfl, RpL.nil⟩ rfl ?_ | (refine st ?_; try intro _))
      intro b1 cs1 hcs1
      repeat (refine st ?_; try intro _)
      refine o_app2 (α := Word) (Mr := []) (some (b1, cs1)) (xs := [(⟨9, 0, 0, 0⟩ : Word)]) (ys := tl) ⟨1, rfl, by simpa using hcs1, by simp⟩ ⟨by simp; omega, by simp; omega, rfl⟩ rfl rfl rfl rfl (show Ent' _ (fRow cs1 [(⟨9, 0, 0, 0⟩ : Word)]) from inferInstance) inferInstance (List.Perm.refl _) ?_
      intro w o ho
      refine G.giveOwn2 (Mr := []) w ([(⟨9, 0, 0, 0⟩ : Word)] ++ tl) o 24 ho inferInstance (List.Perm.refl _) ?_
      repeat (refine st ?_; try intro _)
      exact G.ag (S := Value × List Word) (w, [(⟨9, 0, 0, 0⟩ : Word)] ++ tl) (hμ := by simp; omega) (hpre := ⟨by simp; omega, by simp; omega⟩)
    · have hlt : decide ((tl.length : Int) < 1022 + (g : Int)) = false := decide_eq_false (by omega)
      repeat (refine st ?_; try intro _)
      refine o_callV rfl rfl rfl rfl hpg rfl ?_
      repeat (refine st ?_; try intro _)
      have hT : ∀ t ∈ [tl, lastT tl 1, lastT tl 2, []], t.length ≤ 100000 := by
        intro t ht
        simp only [List.mem_cons, List.not_mem_nil, or_false] at ht
        rcases ht with rfl | rfl | rfl | rfl
        · omega
        · simp only [lastT, List.length_drop, List.length_take]; omega
        · simp only [lastT, List.length_drop, List.length_take]; omega
        · simp
      have hTl : [tl, lastT tl 1, lastT tl 2, []].length = 4 := rfl
      generalize hTL : [tl, lastT tl 1, lastT tl 2, []] = TL at hT hTl
      refine W.drawA 14 [dq _, dq _, dq _, dq _, dq _, dk _, dq _, dq _, dq _, dq _, dk _, dk _, dq _, dq _] [[], [], [], [2], [3], [1,4], [], [], [7], [8], [6,9], [0,5,10], [11], []] [11, 12, 13] (hrest := fun c => nrm ?_) (hops := by
        iterate 5 refine AllQ.au ?_
        refine AllQ.mk (by intro c z0 Φr Lr K; refine nrm ?_; intro hK; refine o_slice (xs := tl) (tl.length - 1) tl.length rfl rfl rfl ⟨_, _, rfl, rfl⟩ rfl (by omega) (Nat.le_refl _) ?_; exact hK) ?_
        iterate 4 refine AllQ.au ?_
        refine AllQ.mk (by intro c z0 Φr Lr K; refine nrm ?_; intro hK; refine o_slice (xs := tl) (tl.length - 2) tl.length rfl rfl rfl ⟨_, _, rfl, rfl⟩ rfl (by omega) (Nat.le_refl _) ?_; exact hK) ?_
        refine AllQ.mk (by intro c z0 Φr Lr K; refine nrm ?_; intro hK; refine o_lit (xs := [tl, lastT tl 1, lastT tl 2, []]) ⟨by decide, rfl, by decide⟩ rfl rfl rfl ⟨fun I hp => hp (fRp sw tl) (by simp), fun I hp => hp (fRp _ (lastT tl 1)) (by simp [lastT]), fun I hp => hp (fRp _ (lastT tl 2)) (by simp [lastT]), fun I hp => Rp.nil none 0, trivial⟩ rfl ?_; rw [hTL]; exact hK) ?_
        iterate 2 refine AllQ.au ?_
        exact AllQ.nil)
      repeat (refine st ?_; try intro _)
      refine W.lp (fun (j : Nat) => ([fRp (c 11) TL], [(69, .int .i64 (j : Int)), (68, .int .i64 (TL.length : Int)), (67, c 11), (14, .int .u8 (k : Int)), (13, .bool true)], [])) (fun j => j ≤ TL.length) (fun j => TL.length - j) 0 ?_
      intro j hj
      dsimp only
      by_cases hjl : j = TL.length
      · subst hjl
        repeat (refine st ?_; try intro _)
        refine G.retV ?_
        rfl
      · have hjt : j < TL.length := by omega
        have hgt : TL[j]? = some TL[j] := List.getElem?_eq_getElem hjt
        have htl := hT TL[j] (List.getElem_mem hjt)
        generalize TL[j] = t at hgt htl
        have hdo := fun v => do_spec k hk256 v t htl
        have hdr := fun v => do16_spec k hk256 v t htl
        have hlen : (doC k t).1.length ≤ 1000000 := doC_len k hk256 t htl
        generalize doC k t = dd at hdo hdr hlen
        obtain ⟨r, e⟩ := dd
        dsimp only at hdo hdr hlen
        generalize isC k = ic at his hir
        repeat (first | refine o_idxG j t rfl rfl rfl rfl rfl hgt ?_ | (refine st ?_; try intro _))
        intro pt
        repeat (refine st ?_; try intro _)
        refine o_loadR rfl rfl rfl rfl ?_
        intro vt
        repeat (refine st ?_; try intro _)
        refine o_callRD rfl rfl rfl rfl (hdo vt) ?_
        intro v1
        repeat (refine st ?_; try intro _)
        refine o_callRD rfl rfl rfl rfl (hdr vt) ?_
        intro v2
        repeat (refine st ?_; try intro _)
        refine o_callV rfl rfl rfl rfl (samew_spec _ _ r r hlen) (congrArg Value.bool (decide_eq_true rfl)) ?_
        repeat (refine st ?_; try intro _)
        refine o_callV rfl rfl rfl rfl his rfl ?_
        repeat (refine st ?_; try intro _)
        refine o_callV rfl rfl rfl rfl hir rfl ?_
        repeat (refine st ?_; try intro _)
        exact G.ag (j + 1)
end Go.Rail
