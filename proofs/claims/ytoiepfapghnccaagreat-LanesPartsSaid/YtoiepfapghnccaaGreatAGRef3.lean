/- The document's answer to who is ready. -/
import Derived.Test.YtoiepfapghnccaaGreatAGRef2GEdges
import Derived.Test.YtoiepfapghnccaaGreatRailD
namespace Go.Rail
open Go Go.Proofs
set_option linter.unusedSimpArgs false
set_option linter.unusedVariables false
set_option maxHeartbeats 400000
set_option maxRecDepth 4000
attribute [local irreducible] OpK G W LW wpListIn Exit.then Exit.inBlock Post rounds opRun bodyPostM intOp
attribute [local irreducible] lexN cmpW cmpA cmpK makeS setK commonL common clashS rightS rowG restG edgesG clG readyP waitB
structure RdSt where
  i : Nat
  v : Value
  o : OR
structure RiSt where
  q : Nat
  is : Bool
theorem rready_spec (v vb vd : Value) (xs : List Sets) (b d : List Bool) (hx : xs.length ≤ 1000000) (hs : ∀ s ∈ xs, fit6 s) (hb : b.length ≤ 4611686018427387904) (hd : d.length ≤ 4611686018427387904) :
    Fn Tryz.prog 67 [v, vb, vd] [fRp v xs, fRp vb b, fRp vd d] [] (RTup (tupE (errR xs b d)) 3 (readyR xs b d)) := by
  have sp := (redges_spec v xs hx hs).givenT
  have hbad : okR xs b d = false → errR xs b d = 1 ∧ readyR xs b d = [] := fun h => by rw [errR, readyR, h]; exact ⟨rfl, rfl⟩
  refine Fn.enter Tryz.func67 rfl Tryz.ntmps67 (by simp) (fun I0 w0 => ?_)
  cases hm : mayG xs with
  | false =>
    have e2 : errG xs = 1 := by rw [errG, hm]; rfl
    rw [e2] at sp
    obtain ⟨e3, e4⟩ := hbad (by rw [okR, hm]; rfl)
    rw [e3, e4]
    repeat (first | refine stp ?_ | (refine sti ?_; intro _) | refine stf ?_ | (refine stb ?_; intro _))
    refine o_callT (mk := tupE 1) (ψ := fun sv => fRp sv (edgesR xs)) rfl rfl rfl rfl sp ?_
    intro v16
    unfold tupE
    repeat (first | refine stp ?_ | (refine sti ?_; intro _) | refine stf ?_ | (refine stb ?_; intro _))
    exact G.ret rfl (.cons (.tmp rfl) (.cons (.tmp rfl) .nil)) (Φ' := [fRow ([] : List Value) ([] : List Int)]) (M' := []) inferInstance (List.nil_sublist _) ⟨_, none, rfl, ⟨rfl, rfl⟩, rfl, rfl⟩
  | true =>
    have e2 : errG xs = 0 := by rw [errG, hm]; rfl
    have e3 : edgesR xs = edgesI xs := by rw [edgesR, hm]; rfl
    have h64 := may_len hm
    have hcap := edges_few hm
    have hlen := edgesI_length xs
    rw [e2, e3] at sp
    by_cases hbl : b.length = xs.length
    case neg =>
      obtain ⟨e3, e4⟩ := hbad (by rw [okR, decide_eq_false hbl]; simp)
      rw [e3, e4]
      repeat (first | refine stp ?_ | (refine sti ?_; intro _) | refine stf ?_ | (refine stb ?_; intro _))
      refine o_callT (mk := tupE 0) (ψ := fun sv => fRp sv (edgesI xs)) rfl rfl rfl rfl sp ?_
      intro v16
      unfold tupE
      repeat (first | refine stp ?_ | (refine sti ?_; intro _) | refine stf ?_ | (refine stb ?_; intro _))
      exact G.ret rfl (.cons (.tmp rfl) (.cons (.tmp rfl) .nil)) (Φ' := [fRow ([] : List Value) ([] : List Int)]) (M' := []) inferInstance (List.nil_sublist _) ⟨_, none, rfl, ⟨rfl, rfl⟩, rfl, rfl⟩
    by_cases hdl : d.length = xs.length
    case neg =>
      obtain ⟨e3, e4⟩ := hbad (by rw [okR, decide_eq_false hdl]; simp)
      rw [e3, e4]
      repeat (first | refine stp ?_ | (refine sti ?_; intro _) | refine stf ?_ | (refine stb ?_; intro _))
      refine o_callT (mk := tupE 0) (ψ := fun sv => fRp sv (edgesI xs)) rfl rfl rfl rfl sp ?_
      intro v16
      unfold tupE
      repeat (first | refine stp ?_ | (refine sti ?_; intro _) | refine stf ?_ | (refine stb ?_; intro _))
      exact G.ret rfl (.cons (.tmp rfl) (.cons (.tmp rfl) .nil)) (Φ' := [fRow ([] : List Value) ([] : List Int)]) (M' := []) inferInstance (List.nil_sublist _) ⟨_, none, rfl, ⟨rfl, rfl⟩, rfl, rfl⟩
    repeat (first | refine stp ?_ | (refine sti ?_; intro _) | refine stf ?_ | (refine stb ?_; intro _))
    refine o_callT (mk := tupE 0) (ψ := fun sv => fRp sv (edgesI xs)) rfl rfl rfl rfl sp ?_
    intro v16
    unfold tupE
    repeat (first | refine stp ?_ | (refine sti ?_; intro _) | refine stf ?_ | (refine stb ?_; intro _))
    refine W.loopI (fun (s : RdSt) => ([fRp v xs, fRp vb b, fRp vd d, fRp v16 (edgesI xs), fRow (ocells s.o) (readyP xs b d s.i)], [(0, v), (1, vb), (2, vd), (8, v16), (10, s.v), (11, .int .i64 s.i)], ownM 3 s.o)) (fun s => s.i ≤ xs.length ∧ badG b d s.i = false ∧ IsOwn 1 s.v (readyP xs b d s.i).length s.o) (fun s => xs.length - s.i) ⟨0, .slice none 0 0, none⟩ ⟨Nat.zero_le _, rfl, by rw [readyP_zero]; exact ⟨rfl, rfl⟩⟩ ⟨fun I hp φ hφ => ?_⟩ (look_sub_cons rfl (look_sub_cons rfl (look_sub_cons rfl (look_sub_cons rfl (look_sub_cons rfl (look_sub_cons rfl look_sub_nil)))))) (List.Sublist.refl _) ?_
    · dsimp only at hφ
      rw [readyP_zero] at hφ
      have hI : Ents [fRp v16 (edgesI xs), fRp v xs, fRp vb b, fRp vd d] [fRp v xs, fRp vb b, fRp vd d, fRp v16 (edgesI xs), fRow ([] : List Value) ([] : List Int)] := inferInstance
      exact hI.h I hp φ hφ
    rintro ⟨i, v10, o⟩ ⟨hi, hbd, hown⟩
    dsimp only at hi hbd hown ⊢
    by_cases hi0 : i = xs.length
    · subst hi0
      have hok : okR xs b d = true := by rw [okR, hm, decide_eq_true hbl, decide_eq_true hdl, hbd]; rfl
      have e5 : errR xs b d = 0 := by rw [errR, hok]; rfl
      have e6 : readyR xs b d = readyP xs b d xs.length := by rw [readyR, hok]; rfl
      rw [e5, e6]
      repeat (first | refine stp ?_ | (refine sti ?_; intro _) | refine stf ?_ | (refine stb ?_; intro _))
      exact G.ret rfl (.cons (.tmp rfl) (.cons (.tmp rfl) .nil)) (Φ' := [fRow (ocells o) (readyP xs b d xs.length)]) (M' := ownM 3 o) inferInstance (List.Sublist.refl _) ⟨_, o, rfl, hown, rfl, rfl⟩
    · have hi1 : i < xs.length := by omega
      have hib : i < b.length := by omega
      have hid : i < d.length := by omega
      have hgb : b.getD i false = b[i] := by rw [List.getD_eq_getElem?_getD, List.getElem?_eq_getElem hib]; rfl
      have hgd : d.getD i false = d[i] := by rw [List.getD_eq_getElem?_getD, List.getElem?_eq_getElem hid]; rfl
      have hbs := badG_succ b d i
      rw [hbd, hgb, hgd, Bool.false_or] at hbs
      have hrs := readyP_succ xs b d i
      have hrl := readyP_length xs b d i
      by_cases hbb : d[i] = true ∧ b[i] = false
      · obtain ⟨hd1, hb1⟩ := hbb
        rw [hd1, hb1] at hbs
        obtain ⟨e3, e4⟩ := hbad (by rw [okR, badG_mono hi1 hbs]; simp)
        rw [e3, e4]
        repeat (first | refine stp ?_ | (refine sti ?_; intro _) | refine stf ?_ | (refine stb ?_; intro _))
        rw [hd1]
        repeat (first | refine stp ?_ | (refine sti ?_; intro _) | refine stf ?_ | (refine stb ?_; intro _))
        rw [hb1]
        repeat (first | refine stp ?_ | (refine sti ?_; intro _) | refine stf ?_ | (refine stb ?_; intro _))
        exact G.ret rfl (.cons (.tmp rfl) (.cons (.tmp rfl) .nil)) (Φ' := [fRow ([] : List Value) ([] : List Int)]) (M' := []) inferInstance (List.nil_sublist _) ⟨_, none, rfl, ⟨rfl, rfl⟩, rfl, rfl⟩
      · have hbs2 : badG b d (i + 1) = false := by
          rw [hbs]
          cases h1 : d[i] <;> cases h2 : b[i] <;> first | rfl | exact absurd ⟨h1, h2⟩ hbb
        cases h1 : d[i] with
        | false =>
          repeat (first | refine stp ?_ | (refine sti ?_; intro _) | refine stf ?_ | (refine stb ?_; intro _))
          rw [h1]
          repeat (first | refine stp ?_ | (refine sti ?_; intro _) | refine stf ?_ | (refine stb ?_; intro _))
          refine W.loopI (fun (s : RiSt) => ([fRp v xs, fRp vb b, fRp vd d, fRp v16 (edgesI xs), fRow (ocells o) (readyP xs b d i)], [(0, v), (1, vb), (2, vd), (8, v16), (10, v10), (11, .int .i64 i), (12, .bool s.is), (13, .int .i64 s.q)], ownM 3 o)) (fun s => s.q ≤ (edgesG xs).length ∧ s.is = (!b[i] && !(waitB xs d s.q i))) (fun s => (edgesG xs).length - s.q) ⟨0, !b[i]⟩ ⟨Nat.zero_le _, by rw [waitB_zero]; simp⟩ inferInstance (look_sub_cons rfl (look_sub_cons rfl (look_sub_cons rfl (look_sub_cons rfl (look_sub_cons rfl (look_sub_cons rfl (look_sub_cons rfl (look_sub_cons rfl look_sub_nil)))))))) (List.Sublist.refl _) ?_
          rintro ⟨q, is⟩ ⟨hq, his⟩
          dsimp only at hq his ⊢
          by_cases hq0 : q = (edgesG xs).length
          · subst hq0
            rw [waitB_end] at his
            have hmb : mayBegin xs b d i = is := by rw [mayBegin, hgb, his]
            rw [hmb] at hrs
            cases is with
            | false =>
              rw [if_neg (by simp)] at hrs
              repeat (first | refine stp ?_ | (refine sti ?_; intro _) | refine stf ?_ | (refine stb ?_; intro _))
              refine G.again (S := RdSt) ⟨i + 1, v10, o⟩ (by dsimp only; omega) ⟨hi1, hbs2, by rw [hrs]; exact hown⟩ ?_ (look_sub_cons rfl (look_sub_cons rfl (look_sub_cons rfl (look_sub_cons rfl (look_sub_cons rfl (look_sub_cons rfl look_sub_nil)))))) (List.Sublist.refl _)
              dsimp only
              rw [hrs]
              infer_instance
            | true =>
              rw [if_pos rfl] at hrs
              repeat (first | refine stp ?_ | (refine sti ?_; intro _) | refine stf ?_ | (refine stb ?_; intro _))
              refine o_lit (xs := [(i : Int)]) ⟨by decide, rfl, by decide⟩ rfl rfl rfl ⟨fun _ _ => Rp.flat.2 rfl, trivial⟩ rfl ?_
              intro p1
              repeat (first | refine stp ?_ | (refine sti ?_; intro _) | refine stf ?_ | (refine stb ?_; intro _))
              refine o_app2 (Mr := []) o (xs := readyP xs b d i) (ys := [(i : Int)]) hown ⟨by simp; omega, by simp; omega, rfl⟩ rfl rfl rfl rfl inferInstance inferInstance (List.Perm.refl _) ?_
              intro v' o' hown'
              repeat (first | refine stp ?_ | (refine sti ?_; intro _) | refine stf ?_ | (refine stb ?_; intro _))
              refine G.again (S := RdSt) ⟨i + 1, v', o'⟩ (by dsimp only; omega) ⟨hi1, hbs2, by rw [hrs]; exact hown'⟩ ?_ (look_sub_cons rfl (look_sub_cons rfl (look_sub_cons rfl (look_sub_cons rfl (look_sub_cons rfl (look_sub_cons rfl look_sub_nil)))))) (List.Sublist.refl _)
              dsimp only
              rw [hrs]
              infer_instance
          · have hq1 : q < (edgesG xs).length := by omega
            have hq2 : q < (edgesI xs).length := by omega
            have hE := edges_at hq1
            have hg := edgesI_get xs hq2
            have hg1 : (edgesI xs)[q].1 = ((edgesG xs)[q].1 : Int) := by rw [hg]; rfl
            have hg2 : (edgesI xs)[q].2 = ((edgesG xs)[q].2 : Int) := by rw [hg]; rfl
            have hws := waitB_succ (d := d) hq1 i
            have hed : (edgesG xs)[q].1 < d.length := by omega
            have hge : d.getD (edgesG xs)[q].1 false = d[(edgesG xs)[q].1] := by rw [List.getD_eq_getElem?_getD, List.getElem?_eq_getElem hed]; rfl
            rw [hge] at hws
            cases is with
            | false =>
              repeat (first | refine stp ?_ | (refine sti ?_; intro _) | refine stf ?_ | (refine stb ?_; intro _))
              refine G.again (S := RiSt) ⟨q + 1, false⟩ (by dsimp only; omega) ⟨hq1, ?_⟩ inferInstance (look_sub_cons rfl (look_sub_cons rfl (look_sub_cons rfl (look_sub_cons rfl (look_sub_cons rfl (look_sub_cons rfl (look_sub_cons rfl (look_sub_cons rfl look_sub_nil)))))))) (List.Sublist.refl _)
              dsimp only
              rw [hws]
              revert his
              cases b[i] <;> cases waitB xs d q i <;> simp
            | true =>
              have hb0 : b[i] = false := by revert his; cases b[i] <;> simp
              have hw0 : waitB xs d q i = false := by revert his; cases waitB xs d q i <;> simp
              by_cases he : (edgesG xs)[q].2 = i
              · repeat (first | refine stp ?_ | (refine sti ?_; intro _) | refine stf ?_ | (refine stb ?_; intro _))
                refine o_indexP (α := Int × Int) (β := Int) (off := 1) Prod.snd rfl rfl rfl rfl (by decide) (by decide) rfl ?_
                intro p68
                repeat (first | refine stp ?_ | (refine sti ?_; intro _) | refine stf ?_ | (refine stb ?_; intro _))
                refine o_indexP (α := Int × Int) (β := Int) (off := 0) Prod.fst rfl rfl rfl rfl (by decide) (by decide) rfl ?_
                intro p77
                repeat (first | refine stp ?_ | (refine sti ?_; intro _) | refine stf ?_ | (refine stb ?_; intro _))
                have hgt : (edgesI xs)[q].1.toNat = (edgesG xs)[q].1 := by omega
                simp only [hgt]
                refine G.again (S := RiSt) ⟨q + 1, d[(edgesG xs)[q].1]⟩ (by dsimp only; omega) ⟨hq1, ?_⟩ inferInstance (look_sub_cons rfl (look_sub_cons rfl (look_sub_cons rfl (look_sub_cons rfl (look_sub_cons rfl (look_sub_cons rfl (look_sub_cons rfl (look_sub_cons rfl look_sub_nil)))))))) (List.Sublist.refl _)
                dsimp only
                rw [hws, hw0, hb0, he]
                simp
              · repeat (first | refine stp ?_ | (refine sti ?_; intro _) | refine stf ?_ | (refine stb ?_; intro _))
                refine o_indexP (α := Int × Int) (β := Int) (off := 1) Prod.snd rfl rfl rfl rfl (by decide) (by decide) rfl ?_
                intro p68
                repeat (first | refine stp ?_ | (refine sti ?_; intro _) | refine stf ?_ | (refine stb ?_; intro _))
                refine G.again (S := RiSt) ⟨q + 1, true⟩ (by dsimp only; omega) ⟨hq1, ?_⟩ inferInstance (look_sub_cons rfl (look_sub_cons rfl (look_sub_cons rfl (look_sub_cons rfl (look_sub_cons rfl (look_sub_cons rfl (look_sub_cons rfl (look_sub_cons rfl look_sub_nil)))))))) (List.Sublist.refl _)
                dsimp only
                rw [hws, hw0, hb0]
                simp [he]
        | true =>
          have h2 : b[i] = true := by
            cases h2 : b[i] with
            | true => rfl
            | false => exact absurd ⟨h1, h2⟩ hbb
          repeat (first | refine stp ?_ | (refine sti ?_; intro _) | refine stf ?_ | (refine stb ?_; intro _))
          rw [h1]
          repeat (first | refine stp ?_ | (refine sti ?_; intro _) | refine stf ?_ | (refine stb ?_; intro _))
          rw [h2]
          repeat (first | refine stp ?_ | (refine sti ?_; intro _) | refine stf ?_ | (refine stb ?_; intro _))
          refine W.loopI (fun (s : RiSt) => ([fRp v xs, fRp vb b, fRp vd d, fRp v16 (edgesI xs), fRow (ocells o) (readyP xs b d i)], [(0, v), (1, vb), (2, vd), (8, v16), (10, v10), (11, .int .i64 i), (12, .bool s.is), (13, .int .i64 s.q)], ownM 3 o)) (fun s => s.q ≤ (edgesG xs).length ∧ s.is = (!b[i] && !(waitB xs d s.q i))) (fun s => (edgesG xs).length - s.q) ⟨0, !b[i]⟩ ⟨Nat.zero_le _, by rw [waitB_zero]; simp⟩ inferInstance (look_sub_cons rfl (look_sub_cons rfl (look_sub_cons rfl (look_sub_cons rfl (look_sub_cons rfl (look_sub_cons rfl (look_sub_cons rfl (look_sub_cons rfl look_sub_nil)))))))) (List.Sublist.refl _) ?_
          rintro ⟨q, is⟩ ⟨hq, his⟩
          dsimp only at hq his ⊢
          by_cases hq0 : q = (edgesG xs).length
          · subst hq0
            rw [waitB_end] at his
            have hmb : mayBegin xs b d i = is := by rw [mayBegin, hgb, his]
            rw [hmb] at hrs
            cases is with
            | false =>
              rw [if_neg (by simp)] at hrs
              repeat (first | refine stp ?_ | (refine sti ?_; intro _) | refine stf ?_ | (refine stb ?_; intro _))
              refine G.again (S := RdSt) ⟨i + 1, v10, o⟩ (by dsimp only; omega) ⟨hi1, hbs2, by rw [hrs]; exact hown⟩ ?_ (look_sub_cons rfl (look_sub_cons rfl (look_sub_cons rfl (look_sub_cons rfl (look_sub_cons rfl (look_sub_cons rfl look_sub_nil)))))) (List.Sublist.refl _)
              dsimp only
              rw [hrs]
              infer_instance
            | true =>
              rw [if_pos rfl] at hrs
              repeat (first | refine stp ?_ | (refine sti ?_; intro _) | refine stf ?_ | (refine stb ?_; intro _))
              refine o_lit (xs := [(i : Int)]) ⟨by decide, rfl, by decide⟩ rfl rfl rfl ⟨fun _ _ => Rp.flat.2 rfl, trivial⟩ rfl ?_
              intro p1
              repeat (first | refine stp ?_ | (refine sti ?_; intro _) | refine stf ?_ | (refine stb ?_; intro _))
              refine o_app2 (Mr := []) o (xs := readyP xs b d i) (ys := [(i : Int)]) hown ⟨by simp; omega, by simp; omega, rfl⟩ rfl rfl rfl rfl inferInstance inferInstance (List.Perm.refl _) ?_
              intro v' o' hown'
              repeat (first | refine stp ?_ | (refine sti ?_; intro _) | refine stf ?_ | (refine stb ?_; intro _))
              refine G.again (S := RdSt) ⟨i + 1, v', o'⟩ (by dsimp only; omega) ⟨hi1, hbs2, by rw [hrs]; exact hown'⟩ ?_ (look_sub_cons rfl (look_sub_cons rfl (look_sub_cons rfl (look_sub_cons rfl (look_sub_cons rfl (look_sub_cons rfl look_sub_nil)))))) (List.Sublist.refl _)
              dsimp only
              rw [hrs]
              infer_instance
          · have hq1 : q < (edgesG xs).length := by omega
            have hq2 : q < (edgesI xs).length := by omega
            have hE := edges_at hq1
            have hg := edgesI_get xs hq2
            have hg1 : (edgesI xs)[q].1 = ((edgesG xs)[q].1 : Int) := by rw [hg]; rfl
            have hg2 : (edgesI xs)[q].2 = ((edgesG xs)[q].2 : Int) := by rw [hg]; rfl
            have hws := waitB_succ (d := d) hq1 i
            have hed : (edgesG xs)[q].1 < d.length := by omega
            have hge : d.getD (edgesG xs)[q].1 false = d[(edgesG xs)[q].1] := by rw [List.getD_eq_getElem?_getD, List.getElem?_eq_getElem hed]; rfl
            rw [hge] at hws
            cases is with
            | false =>
              repeat (first | refine stp ?_ | (refine sti ?_; intro _) | refine stf ?_ | (refine stb ?_; intro _))
              refine G.again (S := RiSt) ⟨q + 1, false⟩ (by dsimp only; omega) ⟨hq1, ?_⟩ inferInstance (look_sub_cons rfl (look_sub_cons rfl (look_sub_cons rfl (look_sub_cons rfl (look_sub_cons rfl (look_sub_cons rfl (look_sub_cons rfl (look_sub_cons rfl look_sub_nil)))))))) (List.Sublist.refl _)
              dsimp only
              rw [hws]
              revert his
              cases b[i] <;> cases waitB xs d q i <;> simp
            | true =>
              have hb0 : b[i] = false := by revert his; cases b[i] <;> simp
              have hw0 : waitB xs d q i = false := by revert his; cases waitB xs d q i <;> simp
              by_cases he : (edgesG xs)[q].2 = i
              · repeat (first | refine stp ?_ | (refine sti ?_; intro _) | refine stf ?_ | (refine stb ?_; intro _))
                refine o_indexP (α := Int × Int) (β := Int) (off := 1) Prod.snd rfl rfl rfl rfl (by decide) (by decide) rfl ?_
                intro p68
                repeat (first | refine stp ?_ | (refine sti ?_; intro _) | refine stf ?_ | (refine stb ?_; intro _))
                refine o_indexP (α := Int × Int) (β := Int) (off := 0) Prod.fst rfl rfl rfl rfl (by decide) (by decide) rfl ?_
                intro p77
                repeat (first | refine stp ?_ | (refine sti ?_; intro _) | refine stf ?_ | (refine stb ?_; intro _))
                have hgt : (edgesI xs)[q].1.toNat = (edgesG xs)[q].1 := by omega
                simp only [hgt]
                refine G.again (S := RiSt) ⟨q + 1, d[(edgesG xs)[q].1]⟩ (by dsimp only; omega) ⟨hq1, ?_⟩ inferInstance (look_sub_cons rfl (look_sub_cons rfl (look_sub_cons rfl (look_sub_cons rfl (look_sub_cons rfl (look_sub_cons rfl (look_sub_cons rfl (look_sub_cons rfl look_sub_nil)))))))) (List.Sublist.refl _)
                dsimp only
                rw [hws, hw0, hb0, he]
                simp
              · repeat (first | refine stp ?_ | (refine sti ?_; intro _) | refine stf ?_ | (refine stb ?_; intro _))
                refine o_indexP (α := Int × Int) (β := Int) (off := 1) Prod.snd rfl rfl rfl rfl (by decide) (by decide) rfl ?_
                intro p68
                repeat (first | refine stp ?_ | (refine sti ?_; intro _) | refine stf ?_ | (refine stb ?_; intro _))
                refine G.again (S := RiSt) ⟨q + 1, true⟩ (by dsimp only; omega) ⟨hq1, ?_⟩ inferInstance (look_sub_cons rfl (look_sub_cons rfl (look_sub_cons rfl (look_sub_cons rfl (look_sub_cons rfl (look_sub_cons rfl (look_sub_cons rfl (look_sub_cons rfl look_sub_nil)))))))) (List.Sublist.refl _)
                dsimp only
                rw [hws, hw0, hb0]
                simp [he]
end Go.Rail
