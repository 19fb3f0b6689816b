/- Layer 14: OpcodeJumps, walked. -/
import Derived.Test.YtkocobiglipecaaDoorAL14PL14L
namespace Go.Rail
open Go Go.Proofs
set_option linter.unusedSimpArgs false
set_option linter.unusedVariables false
set_option maxHeartbeats 400000
set_option maxRecDepth 4000
attribute [local irreducible] OpK G W LW wpListIn Exit.then Exit.inBlock Post rounds opRun bodyPostM intOp
set_option maxHeartbeats 2000000
theorem jmL_at (l : List UInt8) (j : Nat) (h : j < (jmL l).length) : ∃ (p : Nat) (ch : UInt8), (jmL l)[j] = (p : Int) ∧ p < l.length ∧ l[p]? = some ch ∧ ch.toNat = 91 := by
  have hm : (jmL l)[j] ∈ jmS 0 0 l := by rw [← jmL_jmS]; exact List.getElem_mem h
  obtain ⟨i, hi, b, h1, h2⟩ := jmS_at l 0 0 _ hm
  rw [Nat.zero_add] at hi
  exact ⟨i, b, hi, (List.getElem?_eq_some_iff.1 h1).1, h1, h2⟩
theorem jmL_up (l : List UInt8) (j : Nat) (h0 : j < (jmL l).length) (h : j + 1 < (jmL l).length) : (jmL l)[j]'h0 < (jmL l)[j + 1]'h := by
  have hp : (jmL l).Pairwise (· < ·) := by rw [jmL_jmS]; exact jmS_up l 0 0
  exact List.pairwise_iff_getElem.1 hp j (j + 1) (by omega) h (by omega)
theorem jmL_len (l : List UInt8) : (jmL l).length ≤ l.length := by
  have := jmT_len l (plc l).length
  rwa [jmT_all] at this
theorem drop_ge {x : List Int} {t p k : Nat} {r : List UInt8} (h : x.drop t = jmS p k r) (ht : t < x.length) : (p : Int) ≤ x[t] := by
  refine jmS_ge r p k _ ?_
  rw [← h, List.drop_eq_getElem_cons ht]
  exact .head _
structure JwSt where
  i : Nat
  w : Value
  o : OR
structure JvSt where
  i : Nat
  at_ : Nat
  k : Nat
attribute [local irreducible] jmL wholeC
theorem jumps_walk (v u : Value) (one two : List (Int × Int)) (h1 : ∀ a ∈ one, okR a) (h2 : ∀ a ∈ two, okR a) :
    FnV Tryd.prog 4 [v, u] [fRp v one, fRp u two] (.bool true) := by
  have hc1 := code14_spec v one h1
  have hc2 := code14_spec u two h2
  have l1 := codeR_len one
  have l2 := codeR_len two
  have hwh := jmL_whole (cksR one) (cksR_whole one) (codeR two)
  change jmL (codeR one ++ codeR two) = jmL (codeR one) ++ (jmL (codeR two)).map (fun q => ((codeR one).length : Int) + q) at hwh
  generalize codeR one = a at hc1 l1 hwh
  generalize codeR two = b at hc2 l2 hwh
  have hj1 := Fn.given (jumpsO_spec a (by omega))
  have hj2 := Fn.given (jumpsO_spec b (by omega))
  have hj3 := Fn.given (jumpsO_spec (a ++ b) (by rw [List.length_append]; omega))
  rw [hwh] at hj3
  have hxa := jmL_at a
  have hxu := jmL_up a
  have hxl := jmL_len a
  have hya := jmL_at b
  have hyl := jmL_len b
  have hxs : jmL a = jmS 0 0 a := jmL_jmS a
  generalize jmL a = x at hj1 hj3 hxa hxu hxl hxs
  generalize jmL b = y at hj2 hj3 hya hyl
  clear hwh
  refine Fn.enter Tryd.func4 rfl Tryd.ntmps4 (by simp) (fun I0 w0 => ?_)
  repeat (first | (refine sty ?_; try intro _) | (refine st ?_; try intro _) | (refine stz ?_; try intro _) | (refine stq ?_; try intro _))
  refine o_callV rfl rfl rfl rfl awake14_spec rfl ?_
  repeat (first | (refine sty ?_; try intro _) | (refine st ?_; try intro _) | (refine stz ?_; try intro _) | (refine stq ?_; try intro _))
  refine o_callV rfl rfl rfl rfl hc1 rfl ?_
  repeat (first | (refine sty ?_; try intro _) | (refine st ?_; try intro _) | (refine stz ?_; try intro _) | (refine stq ?_; try intro _))
  refine o_callV rfl rfl rfl rfl hc2 rfl ?_
  repeat (first | (refine sty ?_; try intro _) | (refine st ?_; try intro _) | (refine stz ?_; try intro _) | (refine stq ?_; try intro _))
  refine o_callD rfl rfl rfl rfl hj1 ?_
  intro vx
  repeat (first | (refine sty ?_; try intro _) | (refine st ?_; try intro _) | (refine stz ?_; try intro _) | (refine stq ?_; try intro _))
  refine o_callD rfl rfl rfl rfl hj2 ?_
  intro vy
  repeat (first | (refine sty ?_; try intro _) | (refine st ?_; try intro _) | (refine stz ?_; try intro _) | (refine stq ?_; try intro _))
  refine o_callD rfl rfl rfl rfl hj3 ?_
  intro va
  repeat (first | (refine sty ?_; try intro _) | (refine st ?_; try intro _) | (refine stz ?_; try intro _) | (refine stq ?_; try intro _))
  clear hc1 hc2 hj1 hj2 hj3
  refine o_app2 (Mr := []) none (xs := ([] : List Int)) (ys := x) ⟨rfl, rfl⟩ ⟨by simp; omega, by simp; omega, rfl⟩ rfl rfl rfl rfl inferInstance inferInstance (List.Perm.refl _) ?_
  intro w0 o0 hown0
  dsimp only [List.nil_append]
  repeat (first | (refine sty ?_; try intro _) | (refine st ?_; try intro _) | (refine stz ?_; try intro _) | (refine stq ?_; try intro _))
  refine W.bare (G.slice vx x ?_); intro ax cx e1 k1; subst e1
  refine G.slice vy y ?_; intro ay cy e2 k2; subst e2
  refine G.code ?_
  change IsOwn 1 w0 x.length o0 at hown0
  refine W.lp (S := JwSt) (fun s => ([fRow (ocells s.o) (x ++ (y.take s.i).map fun q => (a.length : Int) + q), fRp va (x ++ y.map fun q => (a.length : Int) + q), fRp (.slice ay y.length cy) y, fRp (.slice ax x.length cx) x], [(12, .int .i64 (s.i : Int)), (11, s.w), (10, va), (9, .slice ay y.length cy), (8, .slice ax x.length cx), (6, .string (ba a)), (5, .bool true)], ownM 3 s.o)) (fun s => s.i ≤ y.length ∧ IsOwn 1 s.w (x ++ (y.take s.i).map fun q => (a.length : Int) + q).length s.o) (fun s => y.length - s.i) ⟨0, w0, o0⟩ ?_ (h0 := ⟨Nat.zero_le _, by simpa using hown0⟩) (hΦ := by
    dsimp only
    rw [List.take_zero, List.map_nil, List.append_nil]
    infer_instance)
  rintro ⟨i, w, o⟩ ⟨hi, hown⟩
  dsimp only at hi hown ⊢
  by_cases hie : i < y.length
  · obtain ⟨p, ch, hp1, hp2, -, -⟩ := hya i hie
    have hst : x ++ (y.take (i + 1)).map (fun q => (a.length : Int) + q) = x ++ (y.take i).map (fun q => (a.length : Int) + q) ++ [(a.length : Int) + y[i]] := by
      rw [List.take_succ_eq_append_getElem hie, List.map_append, List.append_assoc]; rfl
    repeat (first | (refine sty ?_; try intro _) | (refine st ?_; try intro _) | (refine stz ?_; try intro _) | (refine stq ?_; try intro _))
    refine o_app2 (Mr := []) o (xs := x ++ (y.take i).map fun q => (a.length : Int) + q) (ys := [(a.length : Int) + y[i]]) hown ⟨by simp; omega, by simp; omega, rfl⟩ rfl rfl rfl rfl inferInstance inferInstance (List.Perm.refl _) ?_
    intro w' o' hown'
    rw [← hst] at hown' ⊢
    dsimp only [List.nil_append]
    repeat (first | (refine sty ?_; try intro _) | (refine st ?_; try intro _) | (refine stz ?_; try intro _) | (refine stq ?_; try intro _))
    exact G.ag (S := JwSt) ⟨i + 1, w', o'⟩ (hpre := ⟨by dsimp only; omega, hown'⟩)
  · have hie2 : i = y.length := by omega
    subst hie2
    rw [List.take_length] at hown ⊢
    refine W.bare (G.giveOwn2 (Mr := []) w (x ++ y.map fun q => (a.length : Int) + q) o 3 hown inferInstance (List.Perm.refl _) ?_)
    have hsame := samei_spec va w (x ++ y.map fun q => (a.length : Int) + q) (x ++ y.map fun q => (a.length : Int) + q) (by simp; omega)
    rw [decide_eq_true rfl] at hsame
    generalize x ++ y.map (fun q => (a.length : Int) + q) = all at hsame ⊢
    clear hown hya
    refine G.code ?_
    repeat (first | (refine sty ?_; try intro _) | (refine st ?_; try intro _) | (refine stz ?_; try intro _) | (refine stq ?_; try intro _))
    refine W.lp (S := Nat) (fun i => ([fRp w all, fRp va all, fRp (.slice ax x.length cx) x], [(13, .int .i64 (i : Int)), (11, w), (10, va), (8, .slice ax x.length cx), (6, .string (ba a)), (5, .bool true)], [])) (fun i => i ≤ x.length) (fun i => x.length - i) 0 ?_ (h0 := Nat.zero_le _)
    intro i hi
    dsimp only
    by_cases hie : i < x.length
    · obtain ⟨p, ch, hp1, hp2, hp3, hp4⟩ := hxa i hie
      obtain ⟨hpl, hpe⟩ := List.getElem?_eq_some_iff.1 hp3
      by_cases hi0 : i = 0
      · subst hi0
        repeat (first | (refine sty ?_; try intro _) | (refine st ?_; try intro _) | (refine stz ?_; try intro _) | (refine stq ?_; try intro _))
        refine W.drawA 36 (dq _ :: dq _ :: dk _ :: dq _ :: dq _ :: dq _ :: dq _ :: dq _ :: dk _ :: dq _ :: dq _ :: dq _ :: dq _ :: dq _ :: dq _ :: dq _ :: dq _ :: dq _ :: dk _ :: dq _ :: dq _ :: dq _ :: dq _ :: dq _ :: dq _ :: dq _ :: dq _ :: dq _ :: dq _ :: dq _ :: dq _ :: dq _ :: dq _ :: dq _ :: dq _ :: dq _ :: []) ([] :: [] :: [0,1] :: [2] :: [3] :: [4] :: [5] :: [5] :: [5,6,7] :: [5,8] :: [5] :: [5,10] :: [5,9,11] :: [5,12] :: [13] :: [14] :: [14] :: [14] :: [14,16,17] :: [14,18] :: [14,15,19] :: [14,20] :: [14,21] :: [22] :: [23] :: [23,24] :: [23,25] :: [26] :: [26] :: [26,27,28] :: [26,29] :: [26] :: [26] :: [26,32] :: [26,31,33] :: [26,34] :: []) [23, 26, 30, 35] (hrest := fun c => nrm ?_) (hops := by
          iterate 20 refine AllQ.aq ?_
          refine AllQ.mk (by intro c z0 Φr Lr K; refine nrm ?_; intro hK; refine o_ixG p ch rfl rfl rfl rfl hp1 hp3 ?_; exact hK z0) ?_
          iterate 15 refine AllQ.aq ?_
          exact AllQ.nil)
        repeat (first | (refine sty ?_; try intro _) | (refine st ?_; try intro _) | (refine stz ?_; try intro _) | (refine stq ?_; try intro _))
        exact G.ag (S := Nat) (0 + 1)
      · obtain ⟨j, rfl⟩ : ∃ j, i = j + 1 := ⟨i - 1, by omega⟩
        have hup := hxu j (by omega) hie
        repeat (first | (refine sty ?_; try intro _) | (refine st ?_; try intro _) | (refine stz ?_; try intro _) | (refine stq ?_; try intro _))
        refine W.drawA 36 (dq _ :: dq _ :: dk _ :: dq _ :: dq _ :: dq _ :: dq _ :: dq _ :: dk _ :: dq _ :: dq _ :: dq _ :: dq _ :: dq _ :: dq _ :: dq _ :: dq _ :: dq _ :: dk _ :: dq _ :: dq _ :: dq _ :: dq _ :: dq _ :: dq _ :: dq _ :: dq _ :: dq _ :: dq _ :: dk _ :: dq _ :: dq _ :: dq _ :: dq _ :: dk _ :: dq _ :: []) ([] :: [] :: [0,1] :: [2] :: [3] :: [4] :: [5] :: [5] :: [5,6,7] :: [5,8] :: [5] :: [5,10] :: [5,9,11] :: [5,12] :: [13] :: [14] :: [14] :: [14] :: [14,16,17] :: [14,18] :: [14,15,19] :: [14,20] :: [14,21] :: [22] :: [23] :: [23,24] :: [23,25] :: [26] :: [26] :: [26,27,28] :: [26,29] :: [26] :: [26] :: [26,32] :: [26,31,33] :: [26,34] :: []) [23, 26, 30, 35] (hrest := fun c => nrm ?_) (hops := by
          iterate 20 refine AllQ.aq ?_
          refine AllQ.mk (by intro c z0 Φr Lr K; refine nrm ?_; intro hK; refine o_ixG p ch rfl rfl rfl rfl hp1 hp3 ?_; exact hK z0) ?_
          iterate 15 refine AllQ.aq ?_
          exact AllQ.nil)
        repeat (first | (refine sty ?_; try intro _) | (refine st ?_; try intro _) | (refine stz ?_; try intro _) | (refine stq ?_; try intro _))
        exact G.ag (S := Nat) (j + 1 + 1)
    · have hie2 : i = x.length := by omega
      subst hie2
      repeat (first | (refine sty ?_; try intro _) | (refine st ?_; try intro _) | (refine stz ?_; try intro _) | (refine stq ?_; try intro _))
      refine W.lp (S := JvSt) (fun s => ([fRp w all, fRp va all, fRp (.slice ax x.length cx) x], [(16, .int .i64 (s.i : Int)), (15, .int .i64 (s.at_ : Int)), (14, .int .i64 (s.k : Int)), (11, w), (10, va), (8, .slice ax x.length cx), (6, .string (ba a)), (5, .bool true)], [])) (fun s => s.i ≤ a.length ∧ s.at_ ≤ x.length ∧ s.k ≤ 32 ∧ x.drop s.at_ = jmS s.i s.k (a.drop s.i)) (fun s => a.length - s.i) ⟨0, 0, 0⟩ ?_ (h0 := ⟨Nat.zero_le _, Nat.zero_le _, Nat.zero_le _, by dsimp only; rw [List.drop_zero, List.drop_zero]; exact hxs⟩)
      rintro ⟨i, t, k⟩ ⟨hi, ht, hk, hinv⟩
      dsimp only at hi ht hk hinv ⊢
      by_cases hie : i < a.length
      · obtain ⟨ch, he⟩ : ∃ ch, a[i]'hie = ch := ⟨_, rfl⟩
        have he2 : (a[i]'hie).toNat = ch.toNat := by rw [he]
        rw [List.drop_eq_getElem_cons hie, he] at hinv
        cases k with
        | zero =>
          rw [jmS_z] at hinv
          by_cases h91 : ch.toNat = 91
          · rw [if_pos h91] at hinv
            have htl : t < x.length := by
              rcases Nat.lt_or_ge t x.length with h | h
              · exact h
              · rw [List.drop_eq_nil_of_le h] at hinv; cases hinv
            rw [List.drop_eq_getElem_cons htl] at hinv
            obtain ⟨hx1, hx2⟩ := List.cons.inj hinv
            repeat (first | (refine sty ?_; try intro _) | (refine st ?_; try intro _) | (refine stz ?_; try intro _) | (refine stq ?_; try intro _))
            exact G.ag (S := JvSt) ⟨i + 1, t + 1, 0⟩ (hpre := ⟨by dsimp only; omega, by dsimp only; omega, by dsimp only; omega, hx2⟩)
          · rw [if_neg h91] at hinv
            have hge := fun h => drop_ge hinv h
            by_cases hbe : 96 ≤ ch.toNat ∧ ch.toNat ≤ 127
            · have hbn : behN ch.toNat = ch.toNat - 95 := by unfold behN; rw [if_pos hbe]
              rw [hbn] at hinv
              by_cases htl : t < x.length
              · have hge := hge htl
                repeat (first | (refine sty ?_; try intro _) | (refine st ?_; try intro _) | (refine stz ?_; try intro _) | (refine stq ?_; try intro _))
                exact G.ag (S := JvSt) ⟨i + 1, t, ch.toNat - 95⟩ (hpre := ⟨by dsimp only; omega, by dsimp only; omega, by dsimp only; omega, hinv⟩) (hL := look_sub_cons rfl (look_sub_cons rfl (look_sub_cons (congrArg (fun q => some (Value.int .i64 q)) (by dsimp only; omega)) (look_sub_cons rfl (look_sub_cons rfl (look_sub_cons rfl (look_sub_cons rfl (look_sub_cons rfl look_sub_nil))))))))
              · repeat (first | (refine sty ?_; try intro _) | (refine st ?_; try intro _) | (refine stz ?_; try intro _) | (refine stq ?_; try intro _))
                exact G.ag (S := JvSt) ⟨i + 1, t, ch.toNat - 95⟩ (hpre := ⟨by dsimp only; omega, by dsimp only; omega, by dsimp only; omega, hinv⟩) (hL := look_sub_cons rfl (look_sub_cons rfl (look_sub_cons (congrArg (fun q => some (Value.int .i64 q)) (by dsimp only; omega)) (look_sub_cons rfl (look_sub_cons rfl (look_sub_cons rfl (look_sub_cons rfl (look_sub_cons rfl look_sub_nil))))))))
            · have hbn : behN ch.toNat = 0 := by unfold behN; rw [if_neg hbe]
              rw [hbn] at hinv
              by_cases h96 : 96 ≤ ch.toNat
              · by_cases htl : t < x.length
                · have hge := hge htl
                  repeat (first | (refine sty ?_; try intro _) | (refine st ?_; try intro _) | (refine stz ?_; try intro _) | (refine stq ?_; try intro _))
                  exact G.ag (S := JvSt) ⟨i + 1, t, 0⟩ (hpre := ⟨by dsimp only; omega, by dsimp only; omega, by dsimp only; omega, hinv⟩)
                · repeat (first | (refine sty ?_; try intro _) | (refine st ?_; try intro _) | (refine stz ?_; try intro _) | (refine stq ?_; try intro _))
                  exact G.ag (S := JvSt) ⟨i + 1, t, 0⟩ (hpre := ⟨by dsimp only; omega, by dsimp only; omega, by dsimp only; omega, hinv⟩)
              · by_cases htl : t < x.length
                · have hge := hge htl
                  repeat (first | (refine sty ?_; try intro _) | (refine st ?_; try intro _) | (refine stz ?_; try intro _) | (refine stq ?_; try intro _))
                  exact G.ag (S := JvSt) ⟨i + 1, t, 0⟩ (hpre := ⟨by dsimp only; omega, by dsimp only; omega, by dsimp only; omega, hinv⟩)
                · repeat (first | (refine sty ?_; try intro _) | (refine st ?_; try intro _) | (refine stz ?_; try intro _) | (refine stq ?_; try intro _))
                  exact G.ag (S := JvSt) ⟨i + 1, t, 0⟩ (hpre := ⟨by dsimp only; omega, by dsimp only; omega, by dsimp only; omega, hinv⟩)
        | succ k =>
          rw [jmS_s] at hinv
          have hge := fun h => drop_ge hinv h
          by_cases htl : t < x.length
          · have hge := hge htl
            repeat (first | (refine sty ?_; try intro _) | (refine st ?_; try intro _) | (refine stz ?_; try intro _) | (refine stq ?_; try intro _))
            exact G.ag (S := JvSt) ⟨i + 1, t, k⟩ (hpre := ⟨by dsimp only; omega, by dsimp only; omega, by dsimp only; omega, hinv⟩)
          · repeat (first | (refine sty ?_; try intro _) | (refine st ?_; try intro _) | (refine stz ?_; try intro _) | (refine stq ?_; try intro _))
            exact G.ag (S := JvSt) ⟨i + 1, t, k⟩ (hpre := ⟨by dsimp only; omega, by dsimp only; omega, by dsimp only; omega, hinv⟩)
      · repeat (first | (refine sty ?_; try intro _) | (refine st ?_; try intro _) | (refine stz ?_; try intro _) | (refine stq ?_; try intro _))
        refine o_callV rfl rfl rfl rfl hsame rfl ?_
        repeat (first | (refine sty ?_; try intro _) | (refine st ?_; try intro _) | (refine stz ?_; try intro _) | (refine stq ?_; try intro _))
        refine G.retV ?_
        rfl
end Go.Rail
