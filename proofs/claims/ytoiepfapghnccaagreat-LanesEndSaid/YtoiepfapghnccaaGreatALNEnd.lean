/- The law of the end, walked. -/
import Derived.Test.YtoiepfapghnccaaGreatANL
import Derived.Test.YtoiepfapghnccaaGreatANA
import Derived.Test.YtoiepfapghnccaaGreatRailE
namespace Go.Rail
open Go Go.Proofs
set_option linter.unusedSimpArgs false
set_option linter.unusedVariables false
set_option maxHeartbeats 400000
set_option maxRecDepth 4000
attribute [local irreducible] OpK G W LW wpListIn Exit.then Exit.inBlock Post rounds opRun bodyPostM intOp
attribute [local irreducible] lexN cmpW cmpA cmpK cmpI makeS setK clashS rightS errG edgesR errR readyR ordG badM mayG edgesG edgesI clG rightL donesL heldL shapeL idxG idleR fillLot pickL noP newL runL cntL errRun isR errL measureL idlesL errN pickR sameLot pickN rawG lotL lot0 runS leftS
theorem sumC : ∀ {L : List Int}, (∀ x ∈ L, 1 ≤ x ∧ x ≤ 6) → L.sum ≤ L.length * 6
  | [], _ => by simp
  | a :: L, h => by
    have h1 := h a List.mem_cons_self
    have h2 := sumC (L := L) fun x hx => h x (.tail _ hx)
    rw [List.sum_cons, List.length_cons]
    omega
theorem lotL_sum (raws : List RawS) (costs : List Int) (w : Int) (ps : List Int) : (lotL raws costs w ps).left.sum ≤ 60 := by
  rw [lotL_eq]
  have h1 := runS_sum (pkL ps 40 6) 0 (lot0_right raws costs w)
  have h2 := rawG_len raws
  have h3 := sumC (L := costsL costs (rawG raws).length) fun x hx => by
    obtain ⟨i, _, rfl⟩ := List.mem_map.1 (show x ∈ (List.range (rawG raws).length).map (costL costs) from hx)
    exact costL_in costs i
  rw [costsL_len] at h3
  rw [(lot0_parts raws costs w).2.1] at h1
  omega
structure RndSt where
  i : Nat
  v : Value
  o : OR
structure EndSt where
  i : Nat
  l : Lot
  a1 : Option Addr
  ac1 : Nat
  a2 : Option Addr
  ac2 : Nat
  a3 : Option Addr
  ac3 : Nat
  a4 : Option Addr
  ac4 : Nat
  a5 : Option Addr
  ac5 : Nat
structure KSt where
  j : Nat
  k : Int
def rdP (wd i : Nat) : List Int := (List.range i).map fun i => ((i % wd : Nat) : Int)
theorem rdP_len (wd i : Nat) : (rdP wd i).length = i := by simp [rdP]
theorem rdP_succ (wd i : Nat) : rdP wd i ++ [((i % wd : Nat) : Int)] = rdP wd (i + 1) := by unfold rdP; rw [List.range_succ, List.map_append]; rfl
def KI (l : Lot) (i j : Nat) (k : Int) : Prop := (k = -1 ∧ ∀ x, x < j → l.at_.getD ((i + x) % l.at_.length) 0 = -1) ∨ ∃ x : Nat, k = (x : Int) ∧ x < l.at_.length ∧ l.at_.getD x 0 ≠ -1
set_option maxHeartbeats 8000000 in
theorem nend_walk (v0 v1 v3 : Value) (raws : List RawS) (costs picks : List Int) (w : Int) (hr : okRaws raws) (hc : costs.length ≤ 4611686018427387904 ∧ ∀ x ∈ costs, InR x) (hw : InR w) (hp : picks.length ≤ 4611686018427387904 ∧ ∀ x ∈ picks, InR x) : FnV Tryz.prog 4 [v0, v1, .int .i64 w, v3] [fRp v0 raws, fRp v1 costs, fRp v3 picks] (.bool true) := by
  have hR : RightI (lotL raws costs w picks) := lotL_right raws costs w picks
  have hB : FillB (lotL raws costs w picks) := lotL_busy raws costs w picks
  have hfit : FitL (lotL raws costs w picks) := lotL_fit raws costs w picks
  have hNs := (lotL_sets raws costs w picks).1
  have hNa := (lotL_sets raws costs w picks).2
  have hwl := pickN_lt w (n := 5) (by decide)
  have hrl := rawG_len raws
  have hlot := lot_spec v0 v1 v3 raws costs picks w hr hc hw hp
  have hsum := lotL_sum raws costs w picks
  have hmayS := rawG_may raws
  have hf6 := rawG_fit raws
  generalize lotL raws costs w picks = N at hR hB hfit hlot hNs hNa hsum
  generalize rawG raws = S at hrl hNs hmayS hf6
  obtain ⟨wd, hW⟩ : ∃ wd, wd = 1 + pickN w 5 := ⟨_, rfl⟩
  rw [← hW] at hNa
  have hnn := sum_nn hR.lb
  obtain ⟨M, hM⟩ : ∃ M : Nat, N.left.sum = (M : Int) := ⟨N.left.sum.toNat, by omega⟩
  have hRb := rightL_iff.2 hR
  have hme := fun u => measure_spec u N hfit
  rw [(show measureL N = N.left.sum from by rw [show measureL N = if rightL N then N.left.sum else 0 from by with_unfolding_all rfl, rightL_iff.2 hR]; rfl), (show errL N = 0 from by rw [show errL N = if rightL N then 0 else 1 from by with_unfolding_all rfl, rightL_iff.2 hR]; rfl), hM] at hme
  have hMW : M * wd ≤ 300 := Nat.le_trans (Nat.mul_le_mul (show M ≤ 60 from by omega) (show wd ≤ 5 from by omega)) (Nat.le_refl _)
  have hrd : roundL wd M = rdP wd (M * wd) := rfl
  have hrl2 : (rdP wd (M * wd)).length = M * wd := rdP_len _ _
  obtain ⟨A, hA⟩ : ∃ A, A = (runS N 0 (rdP wd (M * wd))).1 := ⟨_, rfl⟩
  have hAR : RightI A := by rw [hA]; exact runS_right _ _ hR
  have hAs : A.sets = N.sets := by rw [hA]; exact (runS_sets _ _ _).1
  have hAf : FitL A := FitL.of hfit hAR hAs
  have hA0 : A.left.sum = 0 := by
    rw [hA, ← hrd, ← hNa]; exact rounds_end M 0 hR hB (by omega)
  have hcn : (runS N 0 (rdP wd (M * wd))).2 = (M : Int) := by
    have := (runS_sum (rdP wd (M * wd)) 0 hR).1
    rw [← hA, hA0, hM] at this
    omega
  have hrun := fun u u' => run_spec u u' N (rdP wd (M * wd)) hfit (by omega)
  rw [(run_is hRb (ps := rdP wd (M * wd)) (by omega)).1, (run_is hRb (ps := rdP wd (M * wd)) (by omega)).2.2, show cntL N (rdP wd (M * wd)) = (M : Int) from by rw [(run_is hRb (ps := rdP wd (M * wd)) (by omega)).2.1, ← hcn, leftS_len]; omega, ← hA] at hrun
  have hmA := fun u => measure_spec u A hAf
  rw [(show measureL A = A.left.sum from by rw [show measureL A = if rightL A then A.left.sum else 0 from by with_unfolding_all rfl, rightL_iff.2 hAR]; rfl), (show errL A = 0 from by rw [show errL A = if rightL A then 0 else 1 from by with_unfolding_all rfl, rightL_iff.2 hAR]; rfl), hA0] at hmA
  have hAd := done_all hAR hA0
  have horA := fun u u' => rorders_spec u u' N.sets A.done (by rw [hNs]; omega) (by rw [hNs]; exact hf6) (by rw [hAd, hAs, hNs]; omega)
  rw [show ordG N.sets A.done = true from by rw [← hAs]; exact end_order hAR hAd] at horA
  have hAdl : A.done.length = N.sets.length := by rw [hAd, hAs]
  clear hA hcn
  obtain ⟨hp1, hp2⟩ := hp
  refine Fn.enter Tryz.func4 rfl Tryz.ntmps4 (by simp) (fun I0 w0 => ?_)
  repeat (first | refine stp ?_ | (refine sti ?_; intro _) | refine stf ?_ | (refine stb ?_; intro _))
  refine o_callV rfl rfl rfl rfl nawake_spec rfl ?_
  repeat (first | refine stp ?_ | (refine sti ?_; intro _) | refine stf ?_ | (refine stb ?_; intro _))
  refine OpK.call rfl rfl rfl rfl (hlot) inferInstance (Mr := _) (List.Perm.refl _) ?_
  rintro vN Φ' Mc' ⟨_, rfl, rfl, rfl⟩
  dsimp only [List.cons_append, List.nil_append]
  refine G.lot vN N ?_
  intro n1 nc1 n2 nc2 n3 nc3 n4 nc4 n5 nc5 e
  subst e
  repeat (first | refine stp ?_ | (refine sti ?_; intro _) | refine stf ?_ | (refine stb ?_; intro _))
  rename_i b10
  refine o_callV rfl rfl rfl rfl (hme _) rfl ?_
  repeat (first | refine stp ?_ | (refine sti ?_; intro _) | refine stf ?_ | (refine stb ?_; intro _))
  refine W.loopI (fun (s : RndSt) => ([fRow (ocells s.o) (rdP wd s.i), fRp (.agg #[.slice n1 N.sets.length nc1, .slice n2 N.left.length nc2, .slice n3 N.at_.length nc3, .slice n4 N.begun.length nc4, .slice n5 N.done.length nc5]) N, fRp (.slice n1 N.sets.length nc1) N.sets, fRp (.slice n2 N.left.length nc2) N.left, fRp (.slice n3 N.at_.length nc3) N.at_, fRp (.slice n4 N.begun.length nc4) N.begun, fRp (.slice n5 N.done.length nc5) N.done], [(9, .bool true), (10, .pointer (some ⟨b10, 0, none⟩)), (11, .int .i64 (M : Nat)), (13, s.v), (14, .int .i64 s.i)], (b10, Ob [.slice n1 N.sets.length nc1, .slice n2 N.left.length nc2, .slice n3 N.at_.length nc3, .slice n4 N.begun.length nc4, .slice n5 N.done.length nc5] 28) :: ownM 3 s.o)) (fun s => s.i ≤ M * wd ∧ IsOwn 1 s.v (rdP wd s.i).length s.o) (fun s => M * wd - s.i) ⟨0, .slice none 0 0, none⟩ ⟨Nat.zero_le _, ⟨rfl, rfl⟩⟩ (show Ents _ [fRow ([] : List Value) ([] : List Int), fRp (.agg #[.slice n1 N.sets.length nc1, .slice n2 N.left.length nc2, .slice n3 N.at_.length nc3, .slice n4 N.begun.length nc4, .slice n5 N.done.length nc5]) N, fRp (.slice n1 N.sets.length nc1) N.sets, fRp (.slice n2 N.left.length nc2) N.left, fRp (.slice n3 N.at_.length nc3) N.at_, fRp (.slice n4 N.begun.length nc4) N.begun, fRp (.slice n5 N.done.length nc5) N.done] from inferInstance) (look_sub_cons rfl (look_sub_cons rfl (look_sub_cons rfl (look_sub_cons rfl (look_sub_cons rfl look_sub_nil))))) (List.Sublist.refl _) ?_
  rintro ⟨i, v13, o⟩ ⟨hi, hown⟩
  dsimp only at hi hown ⊢
  have hrp := rdP_len wd i
  have hmul : ((M : Int) * (N.at_.length : Int)) = ((M * wd : Nat) : Int) := by rw [hNa]; exact (Int.natCast_mul M wd).symm
  by_cases hi0 : i = M * wd
  case neg =>
    have hi1 : i < M * wd := by omega
    have hsu := rdP_succ wd i
    repeat (first | refine stp ?_ | (refine sti ?_; intro _) | refine stf ?_ | (refine stb ?_; intro _))
    rw [show (i : Int).tmod (N.at_.length : Int) = ((i % wd : Nat) : Int) from by rw [hNa]; rfl]
    refine o_lit (xs := [((i % wd : Nat) : Int)]) ⟨by decide, rfl, by decide⟩ rfl rfl rfl ⟨fun _ _ => Rp.flat.2 rfl, trivial⟩ rfl ?_
    intro lv
    repeat (first | refine stp ?_ | (refine sti ?_; intro _) | refine stf ?_ | (refine stb ?_; intro _))
    refine o_app2 (Mr := [_]) o (xs := rdP wd i) (ys := [((i % wd : Nat) : Int)]) hown ⟨by simp; omega, by simp; omega, rfl⟩ rfl rfl rfl rfl inferInstance inferInstance (List.Perm.refl _) ?_
    intro v' o' hown'
    rw [hsu] at hown' ⊢
    dsimp only [List.cons_append, List.nil_append]
    repeat (first | refine stp ?_ | (refine sti ?_; intro _) | refine stf ?_ | (refine stb ?_; intro _))
    exact G.again (S := RndSt) ⟨i + 1, v', o'⟩ (by dsimp only; omega) ⟨hi1, hown'⟩ inferInstance (look_sub_cons rfl (look_sub_cons rfl (look_sub_cons rfl (look_sub_cons rfl (look_sub_cons rfl look_sub_nil))))) (List.Sublist.refl _)
  subst hi0
  refine W.bare (G.giveOwn2 v13 (rdP wd (M * wd)) o 3 (Mr := [_]) hown inferInstance (List.Perm.refl _) ?_)
  refine G.code ?_
  repeat (first | refine stp ?_ | (refine sti ?_; intro _) | refine stf ?_ | (refine stb ?_; intro _))
  refine OpK.call rfl rfl rfl rfl (hrun _ _) inferInstance (Mr := _) (List.Perm.refl _) ?_
  rintro u Φ' Mc' ⟨vA, rfl, rfl, rfl⟩
  dsimp only [List.cons_append, List.nil_append]
  refine G.lot vA A ?_
  intro x1 xc1 x2 xc2 x3 xc3 x4 xc4 x5 xc5 e
  subst e
  repeat (first | refine stp ?_ | (refine sti ?_; intro _) | refine stf ?_ | (refine stb ?_; intro _))
  rename_i b15 b18
  refine W.loopI (fun (s : EndSt) => ([fRp (.agg #[.slice s.a1 s.l.sets.length s.ac1, .slice s.a2 s.l.left.length s.ac2, .slice s.a3 s.l.at_.length s.ac3, .slice s.a4 s.l.begun.length s.ac4, .slice s.a5 s.l.done.length s.ac5]) s.l, fRp (.slice s.a1 s.l.sets.length s.ac1) s.l.sets, fRp (.slice s.a2 s.l.left.length s.ac2) s.l.left, fRp (.slice s.a3 s.l.at_.length s.ac3) s.l.at_, fRp (.slice s.a4 s.l.begun.length s.ac4) s.l.begun, fRp (.slice s.a5 s.l.done.length s.ac5) s.l.done, fRp (.agg #[.slice x1 A.sets.length xc1, .slice x2 A.left.length xc2, .slice x3 A.at_.length xc3, .slice x4 A.begun.length xc4, .slice x5 A.done.length xc5]) A, fRp (.slice x1 A.sets.length xc1) A.sets, fRp (.slice x2 A.left.length xc2) A.left, fRp (.slice x3 A.at_.length xc3) A.at_, fRp (.slice x4 A.begun.length xc4) A.begun, fRp (.slice x5 A.done.length xc5) A.done, fRp (.agg #[.slice n1 N.sets.length nc1, .slice n2 N.left.length nc2, .slice n3 N.at_.length nc3, .slice n4 N.begun.length nc4, .slice n5 N.done.length nc5]) N, fRp (.slice n1 N.sets.length nc1) N.sets, fRp (.slice n2 N.left.length nc2) N.left, fRp (.slice n3 N.at_.length nc3) N.at_, fRp (.slice n4 N.begun.length nc4) N.begun, fRp (.slice n5 N.done.length nc5) N.done], [(9, .bool true), (10, .pointer (some ⟨b10, 0, none⟩)), (11, .int .i64 (M : Nat)), (15, .pointer (some ⟨b15, 0, none⟩)), (16, .int .i64 (M : Nat)), (17, .int .i64 0), (18, .pointer (some ⟨b18, 0, none⟩)), (19, .int .i64 s.i)], [(b18, Ob [.slice s.a1 s.l.sets.length s.ac1, .slice s.a2 s.l.left.length s.ac2, .slice s.a3 s.l.at_.length s.ac3, .slice s.a4 s.l.begun.length s.ac4, .slice s.a5 s.l.done.length s.ac5] 28), (b15, Ob [.slice x1 A.sets.length xc1, .slice x2 A.left.length xc2, .slice x3 A.at_.length xc3, .slice x4 A.begun.length xc4, .slice x5 A.done.length xc5] 28), (b10, Ob [.slice n1 N.sets.length nc1, .slice n2 N.left.length nc2, .slice n3 N.at_.length nc3, .slice n4 N.begun.length nc4, .slice n5 N.done.length nc5] 28)])) (fun s => s.i ≤ M ∧ RightI s.l ∧ FillB s.l ∧ s.l.sets = N.sets ∧ s.l.at_.length = wd ∧ s.l.left.sum = (M : Int) - (s.i : Int)) (fun s => M - s.i) ⟨0, N, n1, nc1, n2, nc2, n3, nc3, n4, nc4, n5, nc5⟩ ⟨Nat.zero_le _, hR, hB, rfl, hNa, by dsimp only; omega⟩ (by (try dsimp only); repeat (first | exact Ents.nil | refine Ents.cons (a := inferInstance) (b := ?_))) (look_sub_cons rfl (look_sub_cons rfl (look_sub_cons rfl (look_sub_cons rfl (look_sub_cons rfl (look_sub_cons rfl (look_sub_cons rfl (look_sub_cons rfl look_sub_nil)))))))) (List.Sublist.refl _) ?_
  clear hme hrun hlot
  rintro ⟨i, l, a1, ac1, a2, ac2, a3, ac3, a4, ac4, a5, ac5⟩ ⟨hi, hlR, hlB, hlS, hlW, hls⟩
  dsimp only at hi hlR hlB hlS hlW hls ⊢
  have hlf : FitL l := FitL.of hfit hlR hlS
  by_cases hi0 : i = M
  · subst hi0
    have hl0 : l.left.sum = 0 := by omega
    have hmL := fun u => measure_spec u l hlf
    rw [(show measureL l = l.left.sum from by rw [show measureL l = if rightL l then l.left.sum else 0 from by with_unfolding_all rfl, rightL_iff.2 hlR]; rfl), (show errL l = 0 from by rw [show errL l = if rightL l then 0 else 1 from by with_unfolding_all rfl, rightL_iff.2 hlR]; rfl), hl0] at hmL
    have hld := done_all hlR hl0
    have horL := fun u u' => rorders_spec u u' N.sets l.done (by rw [hNs]; omega) (by rw [hNs]; exact hf6) (by have := right_done_len hlR; rw [hlS, hNs] at this; omega)
    rw [show ordG N.sets l.done = true from by rw [← hlS]; exact end_order hlR hld] at horL
    repeat (first | refine stp ?_ | (refine sti ?_; intro _) | refine stf ?_ | (refine stb ?_; intro _))
    refine o_callV rfl rfl rfl rfl (hmA _) rfl ?_
    repeat (first | refine stp ?_ | (refine sti ?_; intro _) | refine stf ?_ | (refine stb ?_; intro _))
    refine o_callV rfl rfl rfl rfl (hmL _) rfl ?_
    repeat (first | refine stp ?_ | (refine sti ?_; intro _) | refine stf ?_ | (refine stb ?_; intro _))
    refine o_callV rfl rfl rfl rfl (horA _ _) rfl ?_
    repeat (first | refine stp ?_ | (refine sti ?_; intro _) | refine stf ?_ | (refine stb ?_; intro _))
    refine o_callV rfl rfl rfl rfl (horL _ _) rfl ?_
    repeat (first | refine stp ?_ | (refine sti ?_; intro _) | refine stf ?_ | (refine stb ?_; intro _))
    refine G.ret rfl (.cons (.tmp rfl) .nil) (Φ' := []) (M' := []) inferInstance (List.nil_sublist _) ⟨?_, rfl, rfl⟩
    rfl
  have hi1 : i < M := by omega
  repeat (first | refine stp ?_ | (refine sti ?_; intro _) | refine stf ?_ | (refine stb ?_; intro _))
  refine W.loopI (fun (s : KSt) => ([fRp (.agg #[.slice a1 l.sets.length ac1, .slice a2 l.left.length ac2, .slice a3 l.at_.length ac3, .slice a4 l.begun.length ac4, .slice a5 l.done.length ac5]) l, fRp (.slice a1 l.sets.length ac1) l.sets, fRp (.slice a2 l.left.length ac2) l.left, fRp (.slice a3 l.at_.length ac3) l.at_, fRp (.slice a4 l.begun.length ac4) l.begun, fRp (.slice a5 l.done.length ac5) l.done, fRp (.agg #[.slice x1 A.sets.length xc1, .slice x2 A.left.length xc2, .slice x3 A.at_.length xc3, .slice x4 A.begun.length xc4, .slice x5 A.done.length xc5]) A, fRp (.slice x1 A.sets.length xc1) A.sets, fRp (.slice x2 A.left.length xc2) A.left, fRp (.slice x3 A.at_.length xc3) A.at_, fRp (.slice x4 A.begun.length xc4) A.begun, fRp (.slice x5 A.done.length xc5) A.done, fRp (.agg #[.slice n1 N.sets.length nc1, .slice n2 N.left.length nc2, .slice n3 N.at_.length nc3, .slice n4 N.begun.length nc4, .slice n5 N.done.length nc5]) N, fRp (.slice n1 N.sets.length nc1) N.sets, fRp (.slice n2 N.left.length nc2) N.left, fRp (.slice n3 N.at_.length nc3) N.at_, fRp (.slice n4 N.begun.length nc4) N.begun, fRp (.slice n5 N.done.length nc5) N.done], [(9, .bool true), (10, .pointer (some ⟨b10, 0, none⟩)), (11, .int .i64 (M : Nat)), (15, .pointer (some ⟨b15, 0, none⟩)), (16, .int .i64 (M : Nat)), (17, .int .i64 0), (18, .pointer (some ⟨b18, 0, none⟩)), (19, .int .i64 i), (20, .int .i64 s.k), (21, .int .i64 s.j)], [(b18, Ob [.slice a1 l.sets.length ac1, .slice a2 l.left.length ac2, .slice a3 l.at_.length ac3, .slice a4 l.begun.length ac4, .slice a5 l.done.length ac5] 28), (b15, Ob [.slice x1 A.sets.length xc1, .slice x2 A.left.length xc2, .slice x3 A.at_.length xc3, .slice x4 A.begun.length xc4, .slice x5 A.done.length xc5] 28), (b10, Ob [.slice n1 N.sets.length nc1, .slice n2 N.left.length nc2, .slice n3 N.at_.length nc3, .slice n4 N.begun.length nc4, .slice n5 N.done.length nc5] 28)])) (fun s => s.j ≤ l.at_.length ∧ KI l i s.j s.k) (fun s => l.at_.length - s.j) ⟨0, -1⟩ ⟨Nat.zero_le _, .inl ⟨rfl, fun x hx => absurd hx (Nat.not_lt_zero _)⟩⟩ (by (try dsimp only); repeat (first | exact Ents.nil | refine Ents.cons (a := inferInstance) (b := ?_))) (look_sub_cons rfl (look_sub_cons rfl (look_sub_cons rfl (look_sub_cons rfl (look_sub_cons rfl (look_sub_cons rfl (look_sub_cons rfl (look_sub_cons rfl (look_sub_cons rfl (look_sub_cons rfl look_sub_nil)))))))))) (List.Sublist.refl _) ?_
  rintro ⟨j, k⟩ ⟨hj, hk⟩
  dsimp only at hj hk ⊢
  by_cases hj0 : j = l.at_.length
  case neg =>
    have hj1 : j < l.at_.length := by omega
    have hx1 : (i + j) % l.at_.length < l.at_.length := Nat.mod_lt _ (by omega)
    have hgx := getD_at l.at_ 0 hx1
    by_cases hax : l.at_[(i + j) % l.at_.length] = -1
    · repeat (first | refine stp ?_ | (refine sti ?_; intro _) | refine stf ?_ | (refine stb ?_; intro _))
      exact G.again (S := KSt) ⟨j + 1, k⟩ (by dsimp only; omega) ⟨hj1, by
        rcases hk with ⟨hk, hall⟩ | hk
        · refine .inl ⟨hk, fun y hy => ?_⟩
          by_cases e : y = j
          · subst e; rw [hgx]; exact hax
          · have hy : y < j + 1 := hy
            exact hall y (by omega)
        · exact .inr hk⟩ (by (try dsimp only); repeat (first | exact Ents.nil | refine Ents.cons (a := inferInstance) (b := ?_))) (look_sub_cons rfl (look_sub_cons rfl (look_sub_cons rfl (look_sub_cons rfl (look_sub_cons rfl (look_sub_cons rfl (look_sub_cons rfl (look_sub_cons rfl (look_sub_cons rfl (look_sub_cons rfl look_sub_nil)))))))))) (List.Sublist.refl _)
    · have hax2 : 0 ≤ l.at_[(i + j) % l.at_.length] := by
        rcases at_cases hlR hx1 with h | ⟨q, h, _⟩
        · rw [hgx] at h; exact absurd h hax
        · rw [hgx] at h; omega
      repeat (first | refine stp ?_ | (refine sti ?_; intro _) | refine stf ?_ | (refine stb ?_; intro _))
      exact G.again (S := KSt) ⟨j + 1, (((i + j) % l.at_.length : Nat) : Int)⟩ (by dsimp only; omega) ⟨hj1, .inr ⟨_, rfl, hx1, by rw [hgx]; exact hax⟩⟩ (by (try dsimp only); repeat (first | exact Ents.nil | refine Ents.cons (a := inferInstance) (b := ?_))) (look_sub_cons rfl (look_sub_cons rfl (look_sub_cons rfl (look_sub_cons rfl (look_sub_cons rfl (look_sub_cons rfl (look_sub_cons rfl (look_sub_cons rfl (look_sub_cons rfl (look_sub_cons rfl look_sub_nil)))))))))) (List.Sublist.refl _)
  obtain ⟨x, rfl, hx1, hxa⟩ : ∃ x : Nat, k = (x : Int) ∧ x < l.at_.length ∧ l.at_.getD x 0 ≠ -1 := by
    rcases hk with ⟨hk, hall⟩ | hk
    · obtain ⟨y, hy, hya⟩ := busy_lane hlR hlB (by omega)
      obtain ⟨z, hz, hzy⟩ := mod_reach i y l.at_.length hy
      exact absurd (by rw [← hzy]; exact hall z (by omega)) hya
    · exact hk
  subst hj0
  have hno : noP l (x : Int) = false := noP_iff.2 ⟨hx1, hxa⟩
  have hpk := fun u => ppick_spec u l hlf (x : Int)
  rw [(show errL l = 0 from by rw [show errL l = if rightL l then 0 else 1 from by with_unfolding_all rfl, rightL_iff.2 hlR]; rfl), (show isR l (x : Int) = !noP l (x : Int) from by rw [show isR l (x : Int) = (rightL l && !noP l (x : Int)) from by with_unfolding_all rfl, rightL_iff.2 hlR]; rfl), (show pickR l (x : Int) = pickL l (x : Int) from by rw [show pickR l (x : Int) = if rightL l then pickL l (x : Int) else l from by with_unfolding_all rfl, rightL_iff.2 hlR]; rfl), hno] at hpk
  have hR2 := pick_right hlR (x : Int)
  have hB2 := pick_busy hlR hlB (x : Int)
  have hS2 : (pickL l (x : Int)).sets = N.sets := (pickL_sets l _).trans hlS
  have hW2 : (pickL l (x : Int)).at_.length = wd := (pick_atlen l _).trans hlW
  have hs2 := pick_sum hlR hno
  generalize pickL l (x : Int) = l2 at hpk hR2 hB2 hS2 hW2 hs2
  repeat (first | refine stp ?_ | (refine sti ?_; intro _) | refine stf ?_ | (refine stb ?_; intro _))
  refine OpK.call rfl rfl rfl rfl (hpk _) inferInstance (Mr := _) (List.Perm.refl _) ?_
  rintro u Φ' Mc' ⟨vX, rfl, rfl, rfl⟩
  dsimp only [List.cons_append, List.nil_append]
  refine G.lot vX l2 ?_
  intro y1 yc1 y2 yc2 y3 yc3 y4 yc4 y5 yc5 e
  subst e
  repeat (first | refine stp ?_ | (refine sti ?_; intro _) | refine stf ?_ | (refine stb ?_; intro _))
  exact G.again (S := EndSt) ⟨i + 1, l2, y1, yc1, y2, yc2, y3, yc3, y4, yc4, y5, yc5⟩ (by dsimp only; omega) ⟨hi1, hR2, hB2, hS2, hW2, by dsimp only; omega⟩ (by (try dsimp only); repeat (first | exact Ents.nil | refine Ents.cons (a := inferInstance) (b := ?_))) (look_sub_cons rfl (look_sub_cons rfl (look_sub_cons rfl (look_sub_cons rfl (look_sub_cons rfl (look_sub_cons rfl (look_sub_cons rfl (look_sub_cons rfl look_sub_nil)))))))) (.cons _ (List.Sublist.refl _))
end Go.Rail
