/- compute.Do. -/
import Derived.Test.YtomifglegeelaaaGreatDoorADBC18
import Derived.Test.YtomifglegeelaaaGreatDoorAOneD5
namespace Go.Rail
open Go Go.Proofs
set_option linter.unusedSimpArgs false
set_option linter.unusedVariables false
set_option maxHeartbeats 400000
set_option maxRecDepth 4000
attribute [local irreducible] OpK G W LW wpListIn Exit.then Exit.inBlock Post rounds opRun bodyPostM intOp
set_option maxHeartbeats 16000000
set_option maxRecDepth 20000
attribute [local irreducible] lexN cmpW Word.nat subW mulW addW divW modW sdivW smodW addmodW mulmodW expW andW orW xorW notW shlW shrW sarW byteW signW lessW
def popsN (n : Nat) : Nat := ((infoN n).getD noRow).pops
def doC (n : Nat) (s : List Word) : List Word × Int :=
  if isC n = false then (s, 42) else if 1024 < s.length then (s, 1)
  else if 144 ≤ n then swapL s (n - 143) else if 128 ≤ n then dupL s (n - 127)
  else if (popL s (popsN n)).2.2 ≠ 0 then ((popL s (popsN n)).1, (popL s (popsN n)).2.2)
  else pushL (popL s (popsN n)).1 (madeL n (popL s (popsN n)).2.1)
def chkP (n : Nat) : Bool := !(isC n) || (Nat.ble (popsN n) 7 && (!(find2 ops1 n).isSome || Nat.ble 1 (popsN n)) && (!(find2 ops2 n).isSome || Nat.ble 2 (popsN n)) && (!(find2 ops3 n).isSome || Nat.ble 3 (popsN n)) && (infoN n).isSome)
theorem chkP_all : ((List.range 128).all chkP) = true := by kernel_rfl
theorem pops_ok (n : Nat) (hn : n < 128) (h : isC n = true) : popsN n ≤ 7 ∧ ((find2 ops1 n).isSome → 1 ≤ popsN n) ∧ ((find2 ops2 n).isSome → 2 ≤ popsN n) ∧ ((find2 ops3 n).isSome → 3 ≤ popsN n) := by
  have := List.all_eq_true.1 chkP_all n (by simpa using hn)
  simp only [chkP, h, Bool.not_true, Bool.false_or, Bool.and_eq_true, Bool.or_eq_true, Bool.not_eq_true', Nat.ble_eq] at this
  obtain ⟨⟨⟨⟨h1, h2⟩, h3⟩, h4⟩, _⟩ := this
  refine ⟨h1, fun h => h2.resolve_left (by rw [h]; decide), fun h => h3.resolve_left (by rw [h]; decide), fun h => h4.resolve_left (by rw [h]; decide)⟩
theorem popL_ok {s : List Word} {n : Nat} (h : (popL s n).2.2 = 0) : (popL s n).1 = s.take (s.length - n) ∧ (popL s n).2.1 = (s.drop (s.length - n)).reverse ∧ n ≤ s.length := by
  unfold popL at h ⊢
  by_cases hw : wrongL s n 0 = 0
  · rw [if_pos hw]
    refine ⟨rfl, rfl, ?_⟩
    unfold wrongL at hw
    by_cases h1 : 1024 < s.length ∨ (n : Int) < 0
    · rw [if_pos h1] at hw; cases hw
    · rw [if_neg h1] at hw
      by_cases h2 : (s.length : Int) < n
      · rw [if_pos h2] at hw; cases hw
      · omega
  · rw [if_neg hw] at h; exact absurd h hw
theorem do_spec (n : Nat) (hn : n < 256) (v : Value) (s : List Word) (hs : s.length ≤ 100000) : Fn Tryz.prog 11 [.int .u8 (n : Int), v] [fRp v s] [] (RD (doC n s).2 (doC n s).1) := by
  have hi := is_spec n hn
  have hcl := fun w => Fn.given (cloneW_spec w s (by omega))
  unfold doC
  refine Fn.enter Tryz.func11 rfl Tryz.ntmps11 (by simp) (fun I0 w0 => ?_)
  cases hc : isC n with
  | false =>
    rw [hc] at hi
    rw [if_pos rfl]
    repeat (refine st ?_; try intro _)
    refine o_callV rfl rfl rfl rfl hi rfl ?_
    repeat (refine st ?_; try intro _)
    refine o_callD rfl rfl rfl rfl (hcl v) ?_
    intro r
    repeat (refine st ?_; try intro _)
    exact G.ret rfl (.cons (.tmp rfl) (.cons (.tmp rfl) .nil)) (Φ' := [fRp r s]) (M' := []) inferInstance (List.nil_sublist _) ⟨_, rfl, rfl, rfl⟩
  | true =>
  rw [hc] at hi
  rw [if_neg (by decide)]
  by_cases h1 : 1024 < s.length
  · rw [if_pos h1]
    repeat (refine st ?_; try intro _)
    refine o_callV rfl rfl rfl rfl hi rfl ?_
    repeat (refine st ?_; try intro _)
    refine o_callD rfl rfl rfl rfl (hcl v) ?_
    intro r
    repeat (refine st ?_; try intro _)
    exact G.ret rfl (.cons (.tmp rfl) (.cons (.tmp rfl) .nil)) (Φ' := [fRp r s]) (M' := []) inferInstance (List.nil_sublist _) ⟨_, rfl, rfl, rfl⟩
  rw [if_neg h1]
  by_cases h2 : 144 ≤ n
  · rw [if_pos h2]
    have hsw := swap_spec v s (n - 144 + 1) (by omega) hs
    rw [show n - 143 = n - 144 + 1 from by omega]
    repeat (refine st ?_; try intro _)
    refine o_callV rfl rfl rfl rfl hi rfl ?_
    repeat (refine st ?_; try intro _)
    refine OpK.call rfl rfl rfl rfl hsw inferInstance (Mr := _) (List.Perm.refl _) ?_
    rintro u Φ' Mc' ⟨sv, rfl, rfl, rfl⟩
    dsimp only [List.cons_append, List.nil_append]
    unfold tupD
    repeat (refine st ?_; try intro _)
    exact G.ret rfl (.cons (.tmp rfl) (.cons (.tmp rfl) .nil)) (Φ' := [fRp sv _]) (M' := []) inferInstance (List.nil_sublist _) ⟨_, rfl, rfl, rfl⟩
  rw [if_neg h2]
  by_cases h3 : 128 ≤ n
  · rw [if_pos h3]
    have hsw := dup_spec v s (n - 128 + 1) (by omega) hs
    rw [show n - 127 = n - 128 + 1 from by omega]
    repeat (refine st ?_; try intro _)
    refine o_callV rfl rfl rfl rfl hi rfl ?_
    repeat (refine st ?_; try intro _)
    refine OpK.call rfl rfl rfl rfl hsw inferInstance (Mr := _) (List.Perm.refl _) ?_
    rintro u Φ' Mc' ⟨sv, rfl, rfl, rfl⟩
    dsimp only [List.cons_append, List.nil_append]
    unfold tupD
    repeat (refine st ?_; try intro _)
    exact G.ret rfl (.cons (.tmp rfl) (.cons (.tmp rfl) .nil)) (Φ' := [fRp sv _]) (M' := []) inferInstance (List.nil_sublist _) ⟨_, rfl, rfl, rfl⟩
  rw [if_neg h3]
  obtain ⟨p1, p2, p3, p4⟩ := pops_ok n (by omega) hc
  have hin := info_spec n hn
  have hpop := pop_spec v s (popsN n) (by omega) hs
  unfold infoV rowV at hin
  rw [show ((infoN n).getD noRow).pops = popsN n from rfl] at hin
  by_cases h4 : (popL s (popsN n)).2.2 = 0
  · rw [if_neg (by simpa using h4)]
    obtain ⟨q1, q2, q3⟩ := popL_ok h4
    have hlen : (popL s (popsN n)).2.1.length = popsN n := by rw [q2]; simp; omega
    have hlen1 : (popL s (popsN n)).1.length ≤ 100000 := by rw [q1, List.length_take]; omega
    rw [h4] at hpop
    generalize (popL s (popsN n)).1 = rest at hpop hlen1 ⊢
    generalize (popL s (popsN n)).2.1 = l at hpop hlen ⊢
    have hmd := fun w => made_spec n hn w l (fun h => by rw [hlen]; exact p2 h) (fun h => by rw [hlen]; exact p3 h) (fun h => by rw [hlen]; exact p4 h)
    have hml : (madeL n l).length ≤ 100000 := by
      unfold madeL
      split
      · simp
      · split
        · simp
        · split <;> simp
    generalize popsN n = p at hin hpop
    repeat (refine st ?_; try intro _)
    refine o_callV rfl rfl rfl rfl hi rfl ?_
    repeat (refine st ?_; try intro _)
    refine o_callV rfl rfl rfl rfl hin rfl ?_
    repeat (refine st ?_; try intro _)
    refine OpK.call rfl rfl rfl rfl hpop inferInstance (Mr := _) (List.Perm.refl _) ?_
    rintro u Φ' Mc' ⟨v1, v2, rfl, rfl, rfl⟩
    dsimp only [List.cons_append, List.nil_append]
    repeat (refine st ?_; try intro _)
    refine o_callD rfl rfl rfl rfl (hmd v2) ?_
    intro u
    repeat (refine st ?_; try intro _)
    refine OpK.call rfl rfl rfl rfl (push_spec v1 u rest (madeL n l) hlen1 hml) inferInstance (Mr := _) (List.Perm.refl _) ?_
    rintro w Φ' Mc' ⟨sv, rfl, rfl, rfl⟩
    dsimp only [List.cons_append, List.nil_append]
    unfold tupD
    repeat (refine st ?_; try intro _)
    exact G.ret rfl (.cons (.tmp rfl) (.cons (.tmp rfl) .nil)) (Φ' := [fRp sv _]) (M' := []) inferInstance (List.nil_sublist _) ⟨_, rfl, rfl, rfl⟩
  · rw [if_pos h4]
    generalize (popL s (popsN n)).1 = rest at hpop ⊢
    generalize (popL s (popsN n)).2.1 = l at hpop
    generalize (popL s (popsN n)).2.2 = e at h4 hpop ⊢
    generalize popsN n = p at hin hpop
    repeat (refine st ?_; try intro _)
    refine o_callV rfl rfl rfl rfl hi rfl ?_
    repeat (refine st ?_; try intro _)
    refine o_callV rfl rfl rfl rfl hin rfl ?_
    repeat (refine st ?_; try intro _)
    refine OpK.call rfl rfl rfl rfl hpop inferInstance (Mr := _) (List.Perm.refl _) ?_
    rintro u Φ' Mc' ⟨v1, v2, rfl, rfl, rfl⟩
    dsimp only [List.cons_append, List.nil_append]
    repeat (refine st ?_; try intro _)
    exact G.ret rfl (.cons (.tmp rfl) (.cons (.tmp rfl) .nil)) (Φ' := [fRp v1 _]) (M' := []) inferInstance (List.nil_sublist _) ⟨_, rfl, rfl, rfl⟩
end Go.Rail
namespace Go.Rail
open Go Go.Proofs
set_option linter.unusedSimpArgs false
set_option linter.unusedVariables false
set_option maxHeartbeats 400000
set_option maxRecDepth 4000
attribute [local irreducible] OpK G W LW wpListIn Exit.then Exit.inBlock Post rounds opRun bodyPostM intOp
set_option maxHeartbeats 16000000
set_option maxRecDepth 20000
theorem pick16_spec (c n : Int) (h1 : -9223372036854775808 ≤ c) (hn : 0 < n) : FnV Tryz.prog 9 [.int .i64 c, .int .i64 n] [] (.int .i64 (pickI c n)) := by
  refine Fn.enter Tryz.func9 rfl Tryz.ntmps9 (by simp) (fun I0 w0 => ?_)
  unfold pickI
  by_cases hc : c < 0
  · rw [if_pos hc]
    repeat (refine st ?_; try intro _)
    refine G.retV ?_
    rfl
  · rw [if_neg hc]
    repeat (refine st ?_; try intro _)
    refine G.retV ?_
    rfl
theorem takes_succ {α : Type} {xs ys : List α} {i : Nat} (hx : i < xs.length) (hy : i < ys.length) (h : xs.take i = ys.take i) (e : xs[i] = ys[i]) : xs.take (i + 1) = ys.take (i + 1) := by
  rw [List.take_succ_eq_append_getElem hx, List.take_succ_eq_append_getElem hy, h, e]
theorem samew_spec (v u : Value) (xs ys : List Word) (hx : xs.length ≤ 1000000) : FnV Tryz.prog 13 [v, u] [fRp v xs, fRp u ys] (.bool (decide (xs = ys))) := by
  refine Fn.enter Tryz.func13 rfl Tryz.ntmps13 (by simp) (fun I0 w0 => ?_)
  by_cases hl : xs.length = ys.length
  case neg =>
    rw [decide_eq_false (fun h => hl (by rw [h]))]
    refine W.bare (G.slice v xs ?_); intro a1 c1 e1 k1; subst e1
    refine G.slice u ys ?_; intro a2 c2 e2 k2; subst e2
    refine G.code ?_
    repeat (refine st ?_; try intro _)
    refine G.retV ?_
    rfl
  refine W.bare (G.slice v xs ?_); intro a1 c1 e1 k1; subst e1
  refine G.slice u ys ?_; intro a2 c2 e2 k2; subst e2
  refine G.code ?_
  repeat (refine st ?_; try intro _)
  refine W.lp (fun (i : Nat) => ([fRp (.slice a1 xs.length c1) xs, fRp (.slice a2 ys.length c2) ys], [(0, .slice a1 xs.length c1), (1, .slice a2 ys.length c2), (5, .int .i64 (i : Int)), (4, .bool false)], [])) (fun i => i ≤ xs.length ∧ xs.take i = ys.take i) (fun i => xs.length - i) 0 ?_ (h0 := ⟨Nat.zero_le _, rfl⟩)
  rintro i ⟨hi, ht⟩
  dsimp only
  by_cases hd : i = xs.length
  · subst hd
    repeat (refine st ?_; try intro _)
    refine G.retV ?_
    rw [List.take_length, hl, List.take_length] at ht
    rw [decide_eq_true ht]; rfl
  · have hix : i < xs.length := by omega
    have hiy : i < ys.length := by omega
    by_cases hne : xs[i] = ys[i]
    · repeat (refine st ?_; try intro _)
      refine W.drawA 8 [dq _, dq _, dk _, dq _, dq _, dq _, dk _, dq _] [[], [], [0,1], [2], [], [], [4,5], [6]] [3, 7] (hrest := fun c => nrm ?_) (hops := by
        iterate 8 refine AllQ.au ?_
        exact AllQ.nil)
      repeat (refine st ?_; try intro _)
      exact G.ag (i + 1) (hpre := ⟨by omega, takes_succ hix hiy ht hne⟩)
    · rw [decide_eq_false (fun h => hne (by subst h; rfl))]
      repeat (refine st ?_; try intro _)
      refine W.drawA 8 [dq _, dq _, dk _, dq _, dq _, dq _, dk _, dq _] [[], [], [0,1], [2], [], [], [4,5], [6]] [3, 7] (hrest := fun c => nrm ?_) (hops := by
        iterate 8 refine AllQ.au ?_
        exact AllQ.nil)
      repeat (refine st ?_; try intro _)
      refine G.retV ?_
      rfl
end Go.Rail
