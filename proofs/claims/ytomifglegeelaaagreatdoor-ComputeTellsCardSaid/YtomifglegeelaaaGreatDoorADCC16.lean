/- The document's stacks. -/
import Derived.Test.YtomifglegeelaaaGreatDoorADBC18
import Derived.Test.YtomifglegeelaaaGreatDoorAC19C20
import Derived.Test.YtomifglegeelaaaGreatDoorAEqD2
import Derived.Test.YtomifglegeelaaaGreatDoorRailG
namespace Go.Rail
open Go Go.Proofs
set_option linter.unusedSimpArgs false
set_option linter.unusedVariables false
set_option maxHeartbeats 400000
set_option maxRecDepth 4000
attribute [local irreducible] OpK G W LW wpListIn Exit.then Exit.inBlock Post rounds opRun bodyPostM intOp
set_option maxHeartbeats 4000000
attribute [local irreducible] Word.num Word.nat
theorem own13_spec (v : Value) (s : List Word) (hs : s.length ≤ 1000000) : Fn Tryz.prog 43 [v] [fRp v s] [] (ROwn 24 s) := by
  refine Fn.enter Tryz.func43 rfl Tryz.ntmps43 (by simp) (fun I0 w0 => ?_)
  repeat (first | (refine sty ?_; try intro _) | (refine st ?_; try intro _) | (refine stz ?_; try intro _))
  refine o_app2 (α := Word) (Mr := []) none (xs := []) (ys := s) ⟨rfl, rfl⟩ ⟨by simp; omega, by simp; omega, rfl⟩ rfl rfl rfl rfl (show Ent' _ (fRow [] ([] : List Word)) from inferInstance) inferInstance (List.Perm.refl _) ?_
  intro w o ho
  rw [List.nil_append] at ho ⊢
  repeat (first | (refine sty ?_; try intro _) | (refine st ?_; try intro _) | (refine stz ?_; try intro _))
  exact G.ret rfl (.cons (.tmp rfl) .nil) inferInstance (List.Sublist.refl _) ⟨o, ho, rfl, rfl⟩
theorem push13_spec (v u : Value) (s l : List Word) (hs : s.length ≤ 100000) (hl : l.length ≤ 100000) : Fn Tryz.prog 44 [v, u] [fRp v s, fRp u l] [] (RD (pushL s l).2 (pushL s l).1) := by
  have ho := fun w => Fn.given (own13_spec w s (by omega))
  unfold pushL
  refine Fn.enter Tryz.func44 rfl Tryz.ntmps44 (by simp) (fun I0 w0 => ?_)
  refine W.bare (G.slice v s ?_); intro a1 c1 e1 k1; subst e1
  refine G.slice u l ?_; intro a2 c2 e2 k2; subst e2
  refine G.code ?_
  by_cases h1 : 1024 < s.length
  · rw [if_pos h1]
    repeat (first | (refine sty ?_; try intro _) | (refine st ?_; try intro _) | (refine stz ?_; try intro _))
    refine o_callD rfl rfl rfl rfl (ho _) ?_
    intro r
    repeat (first | (refine sty ?_; try intro _) | (refine st ?_; try intro _) | (refine stz ?_; try intro _))
    exact G.ret rfl (.cons (.tmp rfl) (.cons (.tmp rfl) .nil)) (Φ' := [fRp r s]) (M' := []) inferInstance (List.nil_sublist _) ⟨_, rfl, rfl, rfl⟩
  rw [if_neg h1]
  by_cases h2 : 1024 < s.length + l.length
  · rw [if_pos h2]
    repeat (first | (refine sty ?_; try intro _) | (refine st ?_; try intro _) | (refine stz ?_; try intro _))
    refine o_callD rfl rfl rfl rfl (ho _) ?_
    intro r
    repeat (first | (refine sty ?_; try intro _) | (refine st ?_; try intro _) | (refine stz ?_; try intro _))
    exact G.ret rfl (.cons (.tmp rfl) (.cons (.tmp rfl) .nil)) (Φ' := [fRp r s]) (M' := []) inferInstance (List.nil_sublist _) ⟨_, rfl, rfl, rfl⟩
  · rw [if_neg h2]
    repeat (first | (refine sty ?_; try intro _) | (refine st ?_; try intro _) | (refine stz ?_; try intro _))
    refine o_callO rfl rfl rfl rfl (own13_spec _ s (by omega)) ?_
    intro w o ho
    repeat (first | (refine sty ?_; try intro _) | (refine st ?_; try intro _) | (refine stz ?_; try intro _))
    refine o_app2 (α := Word) (Mr := []) o (xs := s) (ys := l) ho ⟨by omega, by omega, rfl⟩ rfl rfl rfl rfl inferInstance inferInstance (List.Perm.refl _) ?_
    intro w' o' ho'
    refine G.giveOwn2 (Mr := []) w' (s ++ l) o' 24 ho' inferInstance (List.Perm.refl _) ?_
    repeat (first | (refine sty ?_; try intro _) | (refine st ?_; try intro _) | (refine stz ?_; try intro _))
    exact G.ret rfl (.cons (.tmp rfl) (.cons (.tmp rfl) .nil)) (Φ' := [fRp w' (s ++ l)]) (M' := []) inferInstance (List.nil_sublist _) ⟨_, rfl, rfl, rfl⟩
theorem wrong_one (s : List Word) (n least : Int) (h : 1024 < s.length ∨ n < least) : wrongL s n least = 1 := by unfold wrongL; rw [if_pos h]
theorem wrong_two (s : List Word) (n least : Int) (h : ¬(1024 < s.length ∨ n < least)) (h2 : (s.length : Int) < n) : wrongL s n least = 40 := by unfold wrongL; rw [if_neg h, if_pos h2]
theorem wrong_none (s : List Word) (n least : Int) (h : ¬(1024 < s.length ∨ n < least)) (h2 : ¬(s.length : Int) < n) : wrongL s n least = 0 := by unfold wrongL; rw [if_neg h, if_neg h2]
theorem dup13_spec (v : Value) (s : List Word) (n : Nat) (hn : n ≤ 1000) (hs : s.length ≤ 100000) : Fn Tryz.prog 26 [v, .int .i64 n] [fRp v s] [] (RD (dupL s n).2 (dupL s n).1) := by
  have ho := fun w => Fn.given (own13_spec w s (by omega))
  unfold dupL
  refine Fn.enter Tryz.func26 rfl Tryz.ntmps26 (by simp) (fun I0 w0 => ?_)
  refine W.bare (G.slice v s ?_); intro a1 c1 e1 k1; subst e1
  refine G.code ?_
  by_cases h1 : 1024 < s.length ∨ (n : Int) < 1
  · rw [wrong_one s n 1 h1, if_neg (by decide)]
    by_cases h0 : 1024 < s.length
    · repeat (first | (refine sty ?_; try intro _) | (refine st ?_; try intro _) | (refine stz ?_; try intro _))
      refine o_callD rfl rfl rfl rfl (ho _) ?_
      intro r
      repeat (first | (refine sty ?_; try intro _) | (refine st ?_; try intro _) | (refine stz ?_; try intro _))
      exact G.ret rfl (.cons (.tmp rfl) (.cons (.tmp rfl) .nil)) (Φ' := [fRp r s]) (M' := []) inferInstance (List.nil_sublist _) ⟨_, rfl, rfl, rfl⟩
    · repeat (first | (refine sty ?_; try intro _) | (refine st ?_; try intro _) | (refine stz ?_; try intro _))
      refine o_callD rfl rfl rfl rfl (ho _) ?_
      intro r
      repeat (first | (refine sty ?_; try intro _) | (refine st ?_; try intro _) | (refine stz ?_; try intro _))
      exact G.ret rfl (.cons (.tmp rfl) (.cons (.tmp rfl) .nil)) (Φ' := [fRp r s]) (M' := []) inferInstance (List.nil_sublist _) ⟨_, rfl, rfl, rfl⟩
  by_cases h2 : (s.length : Int) < n
  · rw [wrong_two s n 1 h1 h2, if_neg (by decide)]
    repeat (first | (refine sty ?_; try intro _) | (refine st ?_; try intro _) | (refine stz ?_; try intro _))
    refine o_callD rfl rfl rfl rfl (ho _) ?_
    intro r
    repeat (first | (refine sty ?_; try intro _) | (refine st ?_; try intro _) | (refine stz ?_; try intro _))
    exact G.ret rfl (.cons (.tmp rfl) (.cons (.tmp rfl) .nil)) (Φ' := [fRp r s]) (M' := []) inferInstance (List.nil_sublist _) ⟨_, rfl, rfl, rfl⟩
  · rw [wrong_none s n 1 h1 h2, if_pos rfl]
    have hi : s.length - n < s.length := by omega
    have he : s.getD (s.length - n) .zero = s[s.length - n] := by rw [List.getD_eq_getElem?_getD, List.getElem?_eq_getElem hi]; rfl
    rw [he]
    have hp := fun u => push13_spec (.slice a1 s.length c1) u s [s[s.length - n]] hs (by simp)
    generalize (pushL s [s[s.length - n]]).1 = r at hp ⊢
    generalize (pushL s [s[s.length - n]]).2 = e at hp ⊢
    repeat (first | (refine sty ?_; try intro _) | (refine st ?_; try intro _) | (refine stz ?_; try intro _))
    refine OpK.call rfl rfl rfl rfl (hp _) inferInstance (Mr := _) (List.Perm.refl _) ?_
    rintro w Φ' Mc' ⟨sv, rfl, rfl, rfl⟩
    dsimp only [List.cons_append, List.nil_append]
    unfold tupD
    repeat (first | (refine sty ?_; try intro _) | (refine st ?_; try intro _) | (refine stz ?_; try intro _))
    exact G.ret rfl (.cons (.tmp rfl) (.cons (.tmp rfl) .nil)) (Φ' := [fRp sv _]) (M' := []) inferInstance (List.nil_sublist _) ⟨_, rfl, rfl, rfl⟩
theorem swap13_spec (v : Value) (s : List Word) (n : Nat) (hn : n ≤ 1000) (hs : s.length ≤ 100000) : Fn Tryz.prog 25 [v, .int .i64 n] [fRp v s] [] (RD (swapL s n).2 (swapL s n).1) := by
  have ho := fun w => Fn.given (own13_spec w s (by omega))
  unfold swapL swapE
  refine Fn.enter Tryz.func25 rfl Tryz.ntmps25 (by simp) (fun I0 w0 => ?_)
  refine W.bare (G.slice v s ?_); intro a1 c1 e1 k1; subst e1
  refine G.code ?_
  by_cases h1 : 1024 < s.length ∨ (n : Int) < 1
  · rw [wrong_one s n 1 h1, if_neg (c := _ ∧ _) (fun h => absurd h.1 (by decide)), if_neg (by decide)]
    by_cases h0 : 1024 < s.length
    · repeat (first | (refine sty ?_; try intro _) | (refine st ?_; try intro _) | (refine stz ?_; try intro _))
      refine o_callD rfl rfl rfl rfl (ho _) ?_
      intro r
      repeat (first | (refine sty ?_; try intro _) | (refine st ?_; try intro _) | (refine stz ?_; try intro _))
      exact G.ret rfl (.cons (.tmp rfl) (.cons (.tmp rfl) .nil)) (Φ' := [fRp r s]) (M' := []) inferInstance (List.nil_sublist _) ⟨_, rfl, rfl, rfl⟩
    · repeat (first | (refine sty ?_; try intro _) | (refine st ?_; try intro _) | (refine stz ?_; try intro _))
      refine o_callD rfl rfl rfl rfl (ho _) ?_
      intro r
      repeat (first | (refine sty ?_; try intro _) | (refine st ?_; try intro _) | (refine stz ?_; try intro _))
      exact G.ret rfl (.cons (.tmp rfl) (.cons (.tmp rfl) .nil)) (Φ' := [fRp r s]) (M' := []) inferInstance (List.nil_sublist _) ⟨_, rfl, rfl, rfl⟩
  by_cases h2 : s.length ≤ n
  · have e : (if wrongL s n 1 = 0 ∧ n = s.length then (40 : Int) else wrongL s n 1) = 40 := by
      by_cases h3 : (s.length : Int) < n
      · rw [wrong_two s n 1 h1 h3, if_neg (by omega)]
      · rw [wrong_none s n 1 h1 h3, if_pos ⟨rfl, by omega⟩]
    rw [e, if_neg (by decide)]
    repeat (first | (refine sty ?_; try intro _) | (refine st ?_; try intro _) | (refine stz ?_; try intro _))
    refine o_callD rfl rfl rfl rfl (ho _) ?_
    intro r
    repeat (first | (refine sty ?_; try intro _) | (refine st ?_; try intro _) | (refine stz ?_; try intro _))
    exact G.ret rfl (.cons (.tmp rfl) (.cons (.tmp rfl) .nil)) (Φ' := [fRp r s]) (M' := []) inferInstance (List.nil_sublist _) ⟨_, rfl, rfl, rfl⟩
  · rw [wrong_none s n 1 h1 (by omega), if_neg (c := _ ∧ _) (by omega), if_pos rfl]
    have i1 : s.length - 1 < s.length := by omega
    have i2 : s.length - 1 - n < s.length := by omega
    have he : swapS s n = (s.set (s.length - 1) s[s.length - 1 - n]).set (s.length - 1 - n) s[s.length - 1] := by
      unfold swapS
      simp only [List.getD, List.getElem?_eq_getElem i1, List.getElem?_eq_getElem i2, Option.getD_some]
    rw [he]
    repeat (first | (refine sty ?_; try intro _) | (refine st ?_; try intro _) | (refine stz ?_; try intro _))
    refine o_callO rfl rfl rfl rfl (own13_spec _ s (by omega)) ?_
    intro v' o ho'
    cases o with
    | none => obtain ⟨_, h0⟩ := ho'; omega
    | some q =>
      obtain ⟨b, cs⟩ := q
      obtain ⟨cap, rfl, hcs, hcap⟩ := ho'
      dsimp only [List.cons_append, List.nil_append, ocells, ownM]
      repeat (first | (refine sty ?_; try intro _) | (refine st ?_; try intro _) | (refine stz ?_; try intro _))
      refine o_idxO rfl rfl rfl rfl (by omega) (by omega) (o' := (s.length - 1) * 4) (by omega) ?_
      repeat (first | (refine sty ?_; try intro _) | (refine st ?_; try intro _) | (refine stz ?_; try intro _))
      refine o_storeO (α := Word) (xs := s) s[s.length - 1 - n] (s.length - 1) i1 rfl rfl rfl ⟨fun _ _ => Rp.flat.2 rfl⟩ rfl ?_
      intro cs1 hc1
      repeat (first | (refine sty ?_; try intro _) | (refine st ?_; try intro _) | (refine stz ?_; try intro _))
      refine o_idxO rfl rfl rfl rfl (by omega) (by omega) (o' := (s.length - 1 - n) * 4) (by omega) ?_
      repeat (first | (refine sty ?_; try intro _) | (refine st ?_; try intro _) | (refine stz ?_; try intro _))
      refine o_storeO (α := Word) (xs := s.set (s.length - 1) s[s.length - 1 - n]) s[s.length - 1] (s.length - 1 - n) (by simp; omega) rfl rfl rfl ⟨fun _ _ => Rp.flat.2 rfl⟩ rfl ?_
      intro cs2 hc2
      refine G.giveOwn2 (Mr := []) (.slice (some ⟨b, 0, none⟩) s.length cap) ((s.set (s.length - 1) s[s.length - 1 - n]).set (s.length - 1 - n) s[s.length - 1]) (some (b, cs2)) 24 ⟨cap, by simp, by rw [hc2, hc1]; exact hcs, by simpa using hcap⟩ (show Ent' _ (fRow cs2 _) from inferInstance) (List.Perm.refl _) ?_
      repeat (first | (refine sty ?_; try intro _) | (refine st ?_; try intro _) | (refine stz ?_; try intro _))
      exact G.ret rfl (.cons (.tmp rfl) (.cons (.tmp rfl) .nil)) (Φ' := [fRp _ ((s.set (s.length - 1) s[s.length - 1 - n]).set (s.length - 1 - n) s[s.length - 1])]) (M' := []) inferInstance (List.nil_sublist _) ⟨_, rfl, rfl, rfl⟩
/-- What hands back two slices of its own, and an error. -/
def RPO (e : Int) (ys zs : List Word) : Value → List Fa → Own → Prop := fun u Φ' M' => ∃ v1 v2 o1 o2, u = .tuple #[v1, v2, .int .i64 e] ∧ IsOwn 4 v1 ys.length o1 ∧ IsOwn 4 v2 zs.length o2 ∧ Φ' = [fRow (ocells o1) ys, fRow (ocells o2) zs] ∧ M' = ownM 24 o1 ++ ownM 24 o2
theorem rev_take (s : List Word) (i : Nat) (hi : i < s.length) : s.reverse.take (i + 1) = s.reverse.take i ++ [s[s.length - 1 - i]] := by
  rw [List.take_succ_eq_append_getElem (by simpa using hi), List.getElem_reverse]
theorem drop_rev (s : List Word) (n : Nat) : (s.drop (s.length - n)).reverse = s.reverse.take n := by
  rw [List.reverse_drop]
  by_cases h : n ≤ s.length
  · rw [show s.length - (s.length - n) = n from by omega]
  · rw [List.take_of_length_le (by simp; omega), List.take_of_length_le (by simp; omega)]
theorem pop13_spec (v : Value) (s : List Word) (n : Nat) (hn : n ≤ 1000) (hs : s.length ≤ 100000) : Fn Tryz.prog 27 [v, .int .i64 n] [fRp v s] [] (RPO (popL s n).2.2 (popL s n).1 (popL s n).2.1) := by
  unfold popL
  refine Fn.enter Tryz.func27 rfl Tryz.ntmps27 (by simp) (fun I0 w0 => ?_)
  refine W.bare (G.slice v s ?_); intro a1 c1 e1 k1; subst e1
  refine G.code ?_
  by_cases h1 : 1024 < s.length ∨ (n : Int) < 0
  · rw [wrong_one s n 0 h1, if_neg (by decide)]
    repeat (first | (refine sty ?_; try intro _) | (refine st ?_; try intro _) | (refine stz ?_; try intro _))
    refine o_callO rfl rfl rfl rfl (own13_spec _ s (by omega)) ?_
    intro w o ho
    repeat (first | (refine sty ?_; try intro _) | (refine st ?_; try intro _) | (refine stz ?_; try intro _))
    exact G.ret rfl (.cons (.tmp rfl) (.cons (.tmp rfl) (.cons (.tmp rfl) .nil))) (Φ' := [fRow (ocells o) s, fRow [] ([] : List Word)]) (M' := ownM 24 o ++ []) inferInstance (by rw [List.append_nil]; exact List.Sublist.refl _) ⟨_, _, o, none, rfl, ho, ⟨rfl, rfl⟩, rfl, rfl⟩
  by_cases h2 : (s.length : Int) < n
  · rw [wrong_two s n 0 h1 h2, if_neg (by decide)]
    repeat (first | (refine sty ?_; try intro _) | (refine st ?_; try intro _) | (refine stz ?_; try intro _))
    refine o_callO rfl rfl rfl rfl (own13_spec _ s (by omega)) ?_
    intro w o ho
    repeat (first | (refine sty ?_; try intro _) | (refine st ?_; try intro _) | (refine stz ?_; try intro _))
    exact G.ret rfl (.cons (.tmp rfl) (.cons (.tmp rfl) (.cons (.tmp rfl) .nil))) (Φ' := [fRow (ocells o) s, fRow [] ([] : List Word)]) (M' := ownM 24 o ++ []) inferInstance (by rw [List.append_nil]; exact List.Sublist.refl _) ⟨_, _, o, none, rfl, ho, ⟨rfl, rfl⟩, rfl, rfl⟩
  rw [wrong_none s n 0 h1 h2, if_pos rfl]
  dsimp only
  rw [drop_rev]
  repeat (first | (refine sty ?_; try intro _) | (refine st ?_; try intro _) | (refine stz ?_; try intro _))
  refine W.lp (S := Nat × Value × OR) (fun q => ([fRow (ocells q.2.2) (s.reverse.take q.1), fRp (.slice a1 s.length c1) s], [(8, .int .i64 (q.1 : Int)), (7, q.2.1), (1, .int .i64 (n : Int)), (0, .slice a1 s.length c1)], ownM 24 q.2.2)) (fun q => q.1 ≤ n ∧ IsOwn 4 q.2.1 (s.reverse.take q.1).length q.2.2) (fun q => n - q.1) (0, .slice none 0 0, none) ?_ (h0 := ⟨Nat.zero_le _, rfl, rfl⟩) (hΦ := by show Ents _ [fRow [] ([] : List Word), fRp (.slice a1 s.length c1) s]; infer_instance)
  rintro ⟨i, w, o⟩ ⟨hi, hown⟩
  dsimp only at hi hown ⊢
  by_cases hin : i = n
  · subst hin
    repeat (first | (refine sty ?_; try intro _) | (refine st ?_; try intro _) | (refine stz ?_; try intro _))
    refine o_slice (xs := s) 0 (s.length - i) rfl rfl rfl rfl ⟨_, _, rfl, rfl⟩ (Nat.zero_le _) (by omega) ?_
    intro z
    rw [List.drop_zero]
    repeat (first | (refine sty ?_; try intro _) | (refine st ?_; try intro _) | (refine stz ?_; try intro _))
    refine o_callO rfl rfl rfl rfl (own13_spec z (s.take (s.length - i)) (by rw [List.length_take]; omega)) ?_
    intro w2 o2 ho2
    refine G.perm ?_ List.perm_append_comm
    repeat (first | (refine sty ?_; try intro _) | (refine st ?_; try intro _) | (refine stz ?_; try intro _))
    exact G.ret rfl (.cons (.tmp rfl) (.cons (.tmp rfl) (.cons (.tmp rfl) .nil))) (Φ' := [fRow (ocells o2) (s.take (s.length - i)), fRow (ocells o) (s.reverse.take i)]) (M' := ownM 24 o2 ++ ownM 24 o) inferInstance (List.Sublist.refl _) ⟨_, _, o2, o, rfl, ho2, hown, rfl, rfl⟩
  · have hr := rev_take s i (by omega)
    have hlen : (s.reverse.take i).length = i := by simp; omega
    repeat (first | (refine sty ?_; try intro _) | (refine st ?_; try intro _) | (refine stz ?_; try intro _))
    refine o_app2 (Mr := []) o (xs := s.reverse.take i) (ys := [s[s.length - 1 - i]]) hown ⟨by simp [hlen]; omega, by simp [hlen]; omega, rfl⟩ rfl rfl rfl rfl inferInstance inferInstance (List.Perm.refl _) ?_
    intro w' o' hown'
    rw [← hr] at hown' ⊢
    dsimp only [List.nil_append]
    repeat (first | (refine sty ?_; try intro _) | (refine st ?_; try intro _) | (refine stz ?_; try intro _))
    exact G.ag (S := Nat × Value × OR) (i + 1, w', o') (hpre := ⟨by dsimp only; omega, hown'⟩)
end Go.Rail
namespace Go.Rail
open Go Go.Proofs
set_option linter.unusedSimpArgs false
set_option linter.unusedVariables false
set_option maxHeartbeats 400000
set_option maxRecDepth 4000
attribute [local irreducible] OpK G W LW wpListIn Exit.then Exit.inBlock Post rounds opRun bodyPostM intOp
set_option maxHeartbeats 16000000
set_option maxRecDepth 20000
theorem rsmall1_spec (n : Nat) (hn : n < 10) : FnV Tryz.prog 33 [.int .i64 (n : Int)] [] (.string (ba (decN n))) := by
  refine Fn.enter Tryz.func33 rfl Tryz.ntmps33 (by simp) (fun I0 w0 => ?_)
  unfold decN
  rw [if_pos hn]
  repeat (refine st ?_; try intro _)
  refine G.retV ?_
  refine congrArg (fun l => Value.string (ba l)) ?_
  clear I0 w0
  revert n
  exact of_decide_eq_true (by kernel_rfl)
theorem rsmall_spec (n : Nat) (hn : n < 100) : FnV Tryz.prog 33 [.int .i64 (n : Int)] [] (.string (ba (decN n))) := by
  by_cases h : n < 10
  · exact rsmall1_spec n h
  have h1 := rsmall1_spec (n / 10) (by omega)
  have h2 := rsmall1_spec (n % 10) (by omega)
  have e1 : (decN (n / 10)).length = 1 := by unfold decN; rw [if_pos (by omega)]; rfl
  have e2 : (decN (n % 10)).length = 1 := by unfold decN; rw [if_pos (by omega)]; rfl
  refine Fn.enter Tryz.func33 rfl Tryz.ntmps33 (by simp) (fun I0 w0 => ?_)
  repeat (refine st ?_; try intro _)
  refine o_callV rfl rfl rfl rfl h1 rfl ?_
  repeat (refine st ?_; try intro _)
  refine o_callV rfl rfl rfl rfl h2 rfl ?_
  repeat (refine st ?_; try intro _)
  refine G.retV ?_
  refine congrArg (fun l => Value.string (ba l)) ?_
  unfold decN
  rw [if_pos (by omega), if_pos (by omega), if_neg h]; rfl
theorem named_spec (n : Nat) (hn : n < 256) : FnV Tryz.prog 34 [.int .u8 (n : Int)] [] (.tuple #[rowV ((tabN n).getD noRow), .bool (tabN n).isSome]) := by
  refine Fn.enter Tryz.func34 rfl Tryz.ntmps34 (by simp) (fun I0 w0 => ?_)
  iterate 75
    repeat (refine st ?_; try intro _)
    refine W.cond rfl (fun h => ?_) (fun h => ?_)
    · obtain rfl := natk h
      repeat (refine st ?_; try intro _)
      refine G.ret rfl (.cons (.cellA rfl rfl) (.cons (.tmp rfl) .nil)) (Φ' := []) (M' := []) inferInstance (List.nil_sublist _) ⟨?_, rfl, rfl⟩
      rfl
  repeat (refine st ?_; try intro _)
  simp only [decide_eq_false_iff_not] at *
  rw [tab_none n hn (by simp only [tabK, rowsLow, rowsHigh, List.map_cons, List.map_nil, List.cons_append, List.nil_append, List.mem_cons, List.not_mem_nil, or_false, not_or]; omega)]
  refine G.ret rfl (.cons (.cellA rfl rfl) (.cons (.tmp rfl) .nil)) (Φ' := []) (M' := []) inferInstance (List.nil_sublist _) ⟨?_, rfl, rfl⟩
  rfl
theorem rinfo_spec (n : Nat) (hn : n < 256) : FnV Tryz.prog 16 [.int .u8 (n : Int)] [] (infoV n) := by
  refine Fn.enter Tryz.func16 rfl Tryz.ntmps16 (by simp) (fun I0 w0 => ?_)
  unfold infoV infoN
  by_cases h1 : 96 ≤ n ∧ n ≤ 127
  · rw [if_pos h1]
    have hs := rsmall_spec (n - 95) (by omega)
    have hl : (decN (n - 95)).length ≤ 2 := by unfold decN; split <;> simp
    repeat (refine st ?_; try intro _)
    refine o_callV rfl rfl rfl rfl hs rfl ?_
    repeat (refine st ?_; try intro _)
    refine G.retV ?_
    rfl
  rw [if_neg h1]
  by_cases h2 : 128 ≤ n ∧ n ≤ 143
  · rw [if_pos h2]
    have hs := rsmall_spec (n - 127) (by omega)
    have hl : (decN (n - 127)).length ≤ 2 := by unfold decN; split <;> simp
    repeat (refine st ?_; try intro _)
    refine o_callV rfl rfl rfl rfl hs rfl ?_
    repeat (refine st ?_; try intro _)
    refine G.retV ?_
    rfl
  rw [if_neg h2]
  by_cases h3 : 144 ≤ n ∧ n ≤ 159
  · rw [if_pos h3]
    have hs := rsmall_spec (n - 143) (by omega)
    have hl : (decN (n - 143)).length ≤ 2 := by unfold decN; split <;> simp
    repeat (refine st ?_; try intro _)
    refine o_callV rfl rfl rfl rfl hs rfl ?_
    repeat (refine st ?_; try intro _)
    refine G.retV ?_
    rfl
  rw [if_neg h3]
  by_cases h4 : 160 ≤ n ∧ n ≤ 164
  · rw [if_pos h4]
    have hs := rsmall_spec (n - 160) (by omega)
    have hl : (decN (n - 160)).length ≤ 2 := by unfold decN; split <;> simp
    repeat (refine st ?_; try intro _)
    refine o_callV rfl rfl rfl rfl hs rfl ?_
    repeat (refine st ?_; try intro _)
    refine G.retV ?_
    rfl
  rw [if_neg h4]
  have hs := named_spec n hn
  have h5 : n < 96 ∨ 164 < n := by omega
  rcases h5 with h5 | h5
  · repeat (refine st ?_; try intro _)
    refine o_callV rfl rfl rfl rfl hs rfl ?_
    repeat (refine st ?_; try intro _)
    refine G.retV ?_
    rfl
  · repeat (refine st ?_; try intro _)
    refine o_callV rfl rfl rfl rfl hs rfl ?_
    repeat (refine st ?_; try intro _)
    refine G.retV ?_
    rfl
end Go.Rail
