/- lanes.New. -/
import Derived.Test.YtoiepfapghnccaaGreatAN8Mul
import Derived.Test.YtoiepfapghnccaaGreatRailE
namespace Go.Rail
open Go Go.Proofs
set_option linter.unusedSimpArgs false
set_option linter.unusedVariables false
set_option maxHeartbeats 400000
set_option maxRecDepth 4000
attribute [local irreducible] OpK G W LW wpListIn Exit.then Exit.inBlock Post rounds opRun bodyPostM intOp
attribute [local irreducible] badM rightS mayG clashS edgesG edgesI clG rightL donesL heldL shapeL idxG errG edgesR idleR readyR errR fillLot pickL noP
def repM (w n : Nat) : List Int := List.replicate n (-1) ++ List.replicate (w - n) 0
theorem repM_length {w n : Nat} (h : n ≤ w) : (repM w n).length = w := by simp [repM]; omega
theorem repM_first {w : Nat} (h : 1 ≤ w) : [(-1 : Int)] ++ (List.replicate w (0 : Int)).drop [(-1 : Int)].length = repM w 1 := by
  unfold repM
  rw [List.drop_replicate]; rfl
theorem repM_next {w n m : Nat} (h1 : m ≤ n) (h2 : n + m ≤ w) : (repM w n).take n ++ (repM w n).take m ++ (repM w n).drop (n + m) = repM w (n + m) := by
  unfold repM
  rw [List.take_append_of_le_length (by simp), List.take_append_of_le_length (by simp; omega), List.take_replicate, List.take_replicate, List.drop_append, List.drop_replicate, List.drop_replicate, List.length_replicate, Nat.min_self, Nat.min_eq_left h1, Nat.sub_eq_zero_of_le (Nat.le_add_right n m)]
  have e : n + m - n = m := by omega
  rw [e, List.replicate_zero, List.nil_append, List.replicate_append_replicate, Nat.sub_sub]
theorem repeat_spec (v : Value) (w : Nat) (h1 : 1 ≤ w) (h2 : w ≤ 64) : Fn Tryz.prog 36 [v, .int .i64 w] [fRp v [(-1 : Int)]] [] (ROwn 3 (List.replicate w (-1))) := by
  have e1 : (u64 ([(-1 : Int)].length : Nat)).toNat = 1 := by decide
  have e2 : (u64 (w : Nat)).toNat = w := by have := u64_toNat (w : Nat); omega
  refine Fn.enter Tryz.func36 rfl Tryz.ntmps36 (by simp) (fun I0 w0 => ?_)
  repeat (first | refine stp ?_ | (refine sti ?_; intro _) | refine stf ?_ | (refine stb ?_; intro _))
  rw [e1, e2]
  refine o_callV rfl rfl rfl rfl (mulB_spec 1 w (by omega) (by omega)) (v' := .tuple #[.int .u64 0, .int .u64 (w : Nat)]) ?_ ?_
  · rw [Nat.one_mul, Nat.div_eq_of_lt (by omega), Nat.mod_eq_of_lt (by omega)]; rfl
  repeat (first | refine stp ?_ | (refine sti ?_; intro _) | refine stf ?_ | (refine stb ?_; intro _))
  refine o_conv rfl rfl rfl (v := .int .i64 (w : Nat)) (congrArg (Value.int .i64) (wrap_i64 (by omega) (by omega))) ?_
  repeat (first | refine stp ?_ | (refine sti ?_; intro _) | refine stf ?_ | (refine stb ?_; intro _))
  refine o_makeI w rfl rfl rfl rfl rfl rfl (by omega) ?_
  intro b
  repeat (first | refine stp ?_ | (refine sti ?_; intro _) | refine stf ?_ | (refine stb ?_; intro _))
  refine o_copyDI (D := List.replicate w 0) rfl rfl (by rw [List.length_replicate]; rfl) rfl (by simp) (by rw [List.length_replicate]; exact h1) ?_
  rw [repM_first h1]
  repeat (first | refine stp ?_ | (refine sti ?_; intro _) | refine stf ?_ | (refine stb ?_; intro _))
  refine W.loopI (fun (n : Nat) => ([fRp v [(-1 : Int)]], [(7, .slice (some ⟨b, 0, none⟩) w w), (8, .int .i64 n)], [(b, Ob (cI (repM w n)) 3)])) (fun n => 1 ≤ n ∧ n ≤ w) (fun n => w - n) 1 ⟨Nat.le_refl _, h1⟩ inferInstance (look_sub_cons rfl (look_sub_cons rfl look_sub_nil)) (List.Sublist.refl _) ?_
  rintro n ⟨hn1, hn2⟩
  dsimp only
  by_cases hn : n = w
  · subst hn
    repeat (first | refine stp ?_ | (refine sti ?_; intro _) | refine stf ?_ | (refine stb ?_; intro _))
    have e3 : repM n n = List.replicate n (-1) := by unfold repM; rw [Nat.sub_self]; simp
    rw [e3]
    exact G.ret rfl (.cons (.tmp rfl) .nil) (Φ' := [fRow (cI (List.replicate n (-1))) (List.replicate n (-1))]) (M' := [(b, Ob (cI (List.replicate n (-1))) 3)]) (Ents.cons (a := ⟨fun I _ => rowI I _⟩) (b := Ents.nil)) (List.Sublist.refl _) ⟨some (b, cI (List.replicate n (-1))), own_cI b _ (by rw [List.length_replicate]), rfl, rfl⟩
  · have hlt : n < w := by omega
    have hm : Nat.min n (w - n) ≤ n ∧ n + Nat.min n (w - n) ≤ w ∧ 1 ≤ Nat.min n (w - n) := by
      have a1 : Nat.min n (w - n) ≤ n := Nat.min_le_left _ _
      have a2 : Nat.min n (w - n) ≤ w - n := Nat.min_le_right _ _
      have a3 : 1 ≤ Nat.min n (w - n) := Nat.le_min.2 ⟨hn1, by omega⟩
      omega
    have hnext := repM_next hm.1 hm.2.1
    have hlen := repM_length hn2
    generalize hmm : Nat.min n (w - n) = m at hm hnext
    repeat (first | refine stp ?_ | (refine sti ?_; intro _) | refine stf ?_ | (refine stb ?_; intro _))
    refine W.drawX 9 (fun D c => [(b, Ob (bif D 7 then cI (repM w (n + m)) else cI (repM w n)) 3)]) [⟨?v0_1, fun _ z => []⟩, ⟨?v1_1, fun _ z => []⟩, ⟨?v2_1, fun _ z => []⟩, ⟨?v3_1, fun _ z => []⟩, ⟨?v4_1, fun _ z => []⟩, ⟨?v5_1, fun _ z => []⟩, ⟨?v6_1, fun _ z => []⟩, ⟨?v7_1, fun _ z => []⟩, ⟨?v8_1, fun _ z => []⟩] [[], [], [], [1, 2], [], [], [4, 5], [3, 6], [0, 7]] [8] (by kernel_rfl) (by kernel_rfl) (by kernel_rfl) (by kernel_rfl) ?loc_1 ?hz_1 ?ops_1 ?rest_1
    case ops_1 =>
      simp only [AllX, Nat.reduceAdd, and_true]
      refine ⟨?_, ?_, ?_, ?_, ?_, ?_, ?_, ?_, ?_⟩
      all_goals (intro D c z0 Φr Lr K hDi hAnc hDn hK; dsimp only [dstOf, dstX, putX, kval, kfac, ancE, ancX, ancF, getD_z, getD_s, List.getElem?_cons_zero, List.getElem?_cons_succ, List.getElem?_nil, Option.getD_some, Option.getD_none, List.nil_append, List.cons_append, Option.getD] at hK ⊢)
      iterate 3 (refine stp ?_; exact hK z0)
      · refine o_tailO n n rfl rfl rfl rfl rfl (by omega) (by omega) (by omega) (by omega) ?_; exact hK z0
      · refine stp ?_; exact hK z0
      · refine stp ?_; exact hK z0
      · refine o_cutO n rfl rfl rfl ⟨_, _, rfl, rfl⟩ (by omega) ?_; exact hK z0
      · simp only [updD, updC, hDi, Nat.reduceEqDiff, ↓reduceIte, cond_true, cond_false] at hK ⊢; refine o_copyOI m rfl rfl rfl rfl hmm.symm (by omega) (by omega) ?_; rw [hnext]; exact hK z0
      · refine stp ?_; exact hK z0
    case hz_1 => intro c; rfl
    case loc_1 =>
      simp only [AllL, Nat.reduceAdd, and_true]
      refine ⟨?_, ?_, ?_, ?_, ?_, ?_, ?_, ?_, ?_⟩
      all_goals exact fun _ _ _ _ => ⟨rfl, rfl⟩
    intro c
    dsimp only [dstOf, dstX, putX, kval, kfac, ancE, ancX,  ancF, getD_z, getD_s, List.getElem?_cons_zero, List.getElem?_cons_succ, List.getElem?_nil, Option.getD_some, Option.getD_none, List.nil_append, List.cons_append, List.drop_succ_cons, List.drop_zero, Option.getD]
    show LW _ _ _ _ _ _ [(b, Ob (cI (repM w (n + m))) 3)]
    repeat (first | refine stp ?_ | (refine sti ?_; intro _) | refine stf ?_ | (refine stb ?_; intro _))
    exact G.again (n + m) (by omega) ⟨by omega, hm.2.1⟩ inferInstance (look_sub_cons rfl (look_sub_cons rfl look_sub_nil)) (List.Sublist.refl _)
theorem ent_row0 {Φ : List Fa} {α : Type} [GoTy α] : Ent' Φ (fRow ([] : List Value) ([] : List α)) := ⟨fun I _ => ⟨by simp, fun k hk => by cases hk⟩⟩
theorem new_bad {s : List Sets} {c : List Int} {w : Int} (h : okN s c w = false) : newL s c w = ⟨[], [], [], [], []⟩ := by unfold newL; rw [h]; rfl
theorem new_spec (v vc : Value) (s : List Sets) (cc : List Int) (w : Int) (hs1 : s.length ≤ 1000000) (hs : ∀ x ∈ s, fit6 x) (hc : cc.length ≤ 4611686018427387904) : Fn Tryz.prog 16 [v, vc, .int .i64 w] [fRp v s, fRp vc cc] [] (ROwnLot 3 4 (fun a => .tuple #[a, .int .i64 (errN s cc w)]) (newL s cc w)) := by
  have hE := fun u => (edges_spec u s hs1 hs).givenT
  refine Fn.enter Tryz.func16 rfl Tryz.ntmps16 (by simp) (fun I0 w0 => ?_)
  refine W.bare (G.slice v s ?_)
  intro sa scap e _
  subst e
  refine G.slice vc cc ?_
  intro ca ccap e _
  subst e
  unfold errN
  refine G.code ?_
  cases hm : mayG s with
  | false =>
    have hno : okN s cc w = false := by simp [okN, hm]
    rw [hno, if_neg (by simp)]
    rw [rt_err2 hm] at hE
    repeat (first | refine stp ?_ | (refine sti ?_; intro _) | refine stf ?_ | (refine stb ?_; intro _))
    refine o_callT (mk := tupE 1) (ψ := fun sv => fRp sv (edgesR s)) rfl rfl rfl rfl (hE _) ?_
    intro sv
    repeat (first | refine stp ?_ | (refine sti ?_; intro _) | refine stf ?_ | (refine stb ?_; intro _))
    refine G.ret rfl (.cons (.cellA rfl rfl) (.cons (.tmp rfl) .nil)) (Φ' := [fRp (.slice none 0 0) ([] : List Sets), fRow ([] : List Value) ([] : List Int), fRow ([] : List Value) ([] : List Int), fRow ([] : List Value) ([] : List Bool), fRow ([] : List Value) ([] : List Int)]) (M' := []) (Ents.cons (b := Ents.cons (a := ent_row0) (b := Ents.cons (a := ent_row0) (b := Ents.cons (a := ent_row0) (b := Ents.cons (a := ent_row0) (b := Ents.nil)))))) (List.nil_sublist _) ?_
    rw [new_bad hno]
    exact ⟨none, 0, .slice none 0 0, none, .slice none 0 0, none, .slice none 0 0, none, .slice none 0 0, none, rfl, ⟨rfl, rfl⟩, ⟨rfl, rfl⟩, ⟨rfl, rfl⟩, ⟨rfl, rfl⟩, rfl, rfl⟩
  | true =>
  rw [rt_err hm] at hE
  by_cases hl : cc.length = s.length
  case neg =>
    have hno : okN s cc w = false := by simp [okN, hl]
    rw [hno, if_neg (by simp)]
    repeat (first | refine stp ?_ | (refine sti ?_; intro _) | refine stf ?_ | (refine stb ?_; intro _))
    refine o_callT (mk := tupE 0) (ψ := fun sv => fRp sv (edgesR s)) rfl rfl rfl rfl (hE _) ?_
    intro sv
    repeat (first | refine stp ?_ | (refine sti ?_; intro _) | refine stf ?_ | (refine stb ?_; intro _))
    refine G.ret rfl (.cons (.cellA rfl rfl) (.cons (.tmp rfl) .nil)) (Φ' := [fRp (.slice none 0 0) ([] : List Sets), fRow ([] : List Value) ([] : List Int), fRow ([] : List Value) ([] : List Int), fRow ([] : List Value) ([] : List Bool), fRow ([] : List Value) ([] : List Int)]) (M' := []) (Ents.cons (b := Ents.cons (a := ent_row0) (b := Ents.cons (a := ent_row0) (b := Ents.cons (a := ent_row0) (b := Ents.cons (a := ent_row0) (b := Ents.nil)))))) (List.nil_sublist _) ?_
    rw [new_bad hno]
    exact ⟨none, 0, .slice none 0 0, none, .slice none 0 0, none, .slice none 0 0, none, .slice none 0 0, none, rfl, ⟨rfl, rfl⟩, ⟨rfl, rfl⟩, ⟨rfl, rfl⟩, ⟨rfl, rfl⟩, rfl, rfl⟩
  by_cases h3 : w < 1
  · have hno : okN s cc w = false := by unfold okN; rw [decide_eq_false (p := 1 ≤ w) (by omega)]; simp
    rw [hno, if_neg (by simp)]
    repeat (first | refine stp ?_ | (refine sti ?_; intro _) | refine stf ?_ | (refine stb ?_; intro _))
    refine o_callT (mk := tupE 0) (ψ := fun sv => fRp sv (edgesR s)) rfl rfl rfl rfl (hE _) ?_
    intro sv
    repeat (first | refine stp ?_ | (refine sti ?_; intro _) | refine stf ?_ | (refine stb ?_; intro _))
    refine G.ret rfl (.cons (.cellA rfl rfl) (.cons (.tmp rfl) .nil)) (Φ' := [fRp (.slice none 0 0) ([] : List Sets), fRow ([] : List Value) ([] : List Int), fRow ([] : List Value) ([] : List Int), fRow ([] : List Value) ([] : List Bool), fRow ([] : List Value) ([] : List Int)]) (M' := []) (Ents.cons (b := Ents.cons (a := ent_row0) (b := Ents.cons (a := ent_row0) (b := Ents.cons (a := ent_row0) (b := Ents.cons (a := ent_row0) (b := Ents.nil)))))) (List.nil_sublist _) ?_
    rw [new_bad hno]
    exact ⟨none, 0, .slice none 0 0, none, .slice none 0 0, none, .slice none 0 0, none, .slice none 0 0, none, rfl, ⟨rfl, rfl⟩, ⟨rfl, rfl⟩, ⟨rfl, rfl⟩, ⟨rfl, rfl⟩, rfl, rfl⟩
  by_cases h4 : 64 < w
  · have hno : okN s cc w = false := by unfold okN; rw [decide_eq_false (p := w ≤ 64) (by omega)]; simp
    rw [hno, if_neg (by simp)]
    repeat (first | refine stp ?_ | (refine sti ?_; intro _) | refine stf ?_ | (refine stb ?_; intro _))
    refine o_callT (mk := tupE 0) (ψ := fun sv => fRp sv (edgesR s)) rfl rfl rfl rfl (hE _) ?_
    intro sv
    repeat (first | refine stp ?_ | (refine sti ?_; intro _) | refine stf ?_ | (refine stb ?_; intro _))
    refine G.ret rfl (.cons (.cellA rfl rfl) (.cons (.tmp rfl) .nil)) (Φ' := [fRp (.slice none 0 0) ([] : List Sets), fRow ([] : List Value) ([] : List Int), fRow ([] : List Value) ([] : List Int), fRow ([] : List Value) ([] : List Bool), fRow ([] : List Value) ([] : List Int)]) (M' := []) (Ents.cons (b := Ents.cons (a := ent_row0) (b := Ents.cons (a := ent_row0) (b := Ents.cons (a := ent_row0) (b := Ents.cons (a := ent_row0) (b := Ents.nil)))))) (List.nil_sublist _) ?_
    rw [new_bad hno]
    exact ⟨none, 0, .slice none 0 0, none, .slice none 0 0, none, .slice none 0 0, none, .slice none 0 0, none, rfl, ⟨rfl, rfl⟩, ⟨rfl, rfl⟩, ⟨rfl, rfl⟩, ⟨rfl, rfl⟩, rfl, rfl⟩
  have hany := anyF_spec 32 oddCost new1_spec (.slice ca cc.length ccap) cc hc
  cases ha : cc.any oddCost with
  | true =>
    have hno : okN s cc w = false := by simp only [okN, ha]; simp
    rw [hno, if_neg (by simp)]
    repeat (first | refine stp ?_ | (refine sti ?_; intro _) | refine stf ?_ | (refine stb ?_; intro _))
    refine o_callT (mk := tupE 0) (ψ := fun sv => fRp sv (edgesR s)) rfl rfl rfl rfl (hE _) ?_
    intro sv
    repeat (first | refine stp ?_ | (refine sti ?_; intro _) | refine stf ?_ | (refine stb ?_; intro _))
    refine o_callV rfl rfl rfl rfl hany (congrArg Value.bool ha) ?_
    repeat (first | refine stp ?_ | (refine sti ?_; intro _) | refine stf ?_ | (refine stb ?_; intro _))
    refine G.ret rfl (.cons (.cellA rfl rfl) (.cons (.tmp rfl) .nil)) (Φ' := [fRp (.slice none 0 0) ([] : List Sets), fRow ([] : List Value) ([] : List Int), fRow ([] : List Value) ([] : List Int), fRow ([] : List Value) ([] : List Bool), fRow ([] : List Value) ([] : List Int)]) (M' := []) (Ents.cons (b := Ents.cons (a := ent_row0) (b := Ents.cons (a := ent_row0) (b := Ents.cons (a := ent_row0) (b := Ents.cons (a := ent_row0) (b := Ents.nil)))))) (List.nil_sublist _) ?_
    rw [new_bad hno]
    exact ⟨none, 0, .slice none 0 0, none, .slice none 0 0, none, .slice none 0 0, none, .slice none 0 0, none, rfl, ⟨rfl, rfl⟩, ⟨rfl, rfl⟩, ⟨rfl, rfl⟩, ⟨rfl, rfl⟩, rfl, rfl⟩
  | false =>
  have hok : okN s cc w = true := by
    simp only [okN, hm, ha, hl]
    simp; omega
  rw [hok, if_pos rfl]
  have hnew : newL s cc w = fillLot ⟨s, cc, List.replicate w.toNat (-1), List.replicate s.length false, []⟩ := by unfold newL rawN; rw [hok]; rfl
  rw [hnew]
  have h64 := may_len hm
  obtain ⟨n, rfl⟩ : ∃ n : Nat, w = (n : Int) := ⟨w.toNat, by omega⟩
  rw [Int.toNat_natCast]
  have hfit : FitL ⟨s, cc, List.replicate n (-1), List.replicate s.length false, []⟩ := ⟨hs, hs1, by dsimp only; omega, by simp; omega, by simp; omega, by simp⟩
  repeat (first | refine stp ?_ | (refine sti ?_; intro _) | refine stf ?_ | (refine stb ?_; intro _))
  refine o_callT (mk := tupE 0) (ψ := fun sv => fRp sv (edgesR s)) rfl rfl rfl rfl (hE _) ?_
  intro sv
  repeat (first | refine stp ?_ | (refine sti ?_; intro _) | refine stf ?_ | (refine stb ?_; intro _))
  refine o_callV rfl rfl rfl rfl hany (congrArg Value.bool ha) ?_
  repeat (first | refine stp ?_ | (refine sti ?_; intro _) | refine stf ?_ | (refine stb ?_; intro _))
  rename_i b6
  refine W.draw 8 [⟨?v0_2, fun _ z => []⟩, ⟨?v1_2, fun _ z => []⟩, ⟨fun _ z => z, fun _ z => [fRp z [(-1 : Int)]]⟩, ⟨?v3_2, fun _ z => []⟩, ⟨fun _ z => z, fun _ z => [fRp z (List.replicate n (-1 : Int))]⟩, ⟨?v5_2, fun _ z => []⟩, ⟨?v6_2, fun _ z => []⟩, ⟨fun _ z => z, fun _ z => [fRp z (List.replicate s.length false)]⟩] [[], [], [], [], [2, 3], [], [5], [6]] [0, 1, 4, 7] (by kernel_rfl) (by kernel_rfl) (by kernel_rfl) (by kernel_rfl) ?loc_2 ?ops_2 ?rest_2
  case ops_2 =>
    simp only [AllQ, Nat.reduceAdd, and_true]
    refine ⟨?_, ?_, ?_, ?_, ?_, ?_, ?_, ?_⟩
    all_goals (intro c z0 Φr Lr K hK; dsimp only [dstOf, kval, kfac, ancE, ancF, getD_z, getD_s, List.getElem?_cons_zero, List.getElem?_cons_succ, List.getElem?_nil, Option.getD_some, Option.getD_none, List.nil_append, List.cons_append, Option.getD] at hK ⊢)
    · refine stp ?_; exact hK z0
    · refine stp ?_; exact hK z0
    · refine o_lit (xs := [(-1 : Int)]) ⟨by decide, rfl, by decide⟩ rfl rfl rfl ⟨fun _ _ => Rp.flat.2 rfl, trivial⟩ rfl ?_; intro p1; exact hK _
    · refine stp ?_; exact hK z0
    · refine o_callD rfl rfl rfl rfl (Fn.given (e := 3) (repeat_spec _ n (by omega) (by omega))) ?_; intro u; exact hK _
    · refine stp ?_; exact hK z0
    · refine stp ?_; exact hK z0
    · refine o_makeG s.length false rfl rfl rfl rfl rfl rfl (by omega) rfl (fun _ => rfl) ?_; intro u; exact hK _
  case loc_2 =>
    simp only [AllL, Nat.reduceAdd, and_true]
    refine ⟨?_, ?_, ?_, ?_, ?_, ?_, ?_, ?_⟩
    all_goals (intro c c' z h; first | exact ⟨rfl, rfl⟩ | (skip))
  intro c
  dsimp only [dstOf, kval, kfac, ancE,  ancF, getD_z, getD_s, List.getElem?_cons_zero, List.getElem?_cons_succ, List.getElem?_nil, Option.getD_some, Option.getD_none, List.nil_append, List.cons_append, List.drop_succ_cons, List.drop_zero, Option.getD]
  generalize c 4 = z4
  generalize c 7 = z7
  refine LW.bare (G.slice z4 (List.replicate n (-1 : Int)) ?_)
  intro a4 c4 e _
  subst e
  refine G.slice z7 (List.replicate s.length false) ?_
  intro a7 c7 e _
  subst e
  refine LW.back ?_
  repeat (first | refine stp ?_ | (refine sti ?_; intro _) | refine stf ?_ | (refine stb ?_; intro _))
  refine OpK.call rfl rfl rfl rfl (own_spec _ ⟨s, cc, List.replicate n (-1), List.replicate s.length false, []⟩ hfit) inferInstance (Mr := _) (List.Perm.refl _) ?_
  rintro u Φ' Mc' ⟨vs, cs, vL, oL, vA, oA, vB, oB, vD, oD, rfl, hL, hA, hB, hD, rfl, rfl⟩
  dsimp only [id, List.cons_append, List.nil_append]
  repeat (first | refine stp ?_ | (refine sti ?_; intro _) | refine stf ?_ | (refine stb ?_; intro _))
  have hf := fill_spec vs cs vL vA vB vD oL oA oB oD ⟨s, cc, List.replicate n (-1), List.replicate s.length false, []⟩ hfit (by simp; omega) hL hA hB hD
  change Fn _ _ [.agg #[.slice vs s.length cs, vL, vA, vB, vD]] [fRp (.slice vs s.length cs) s, fRow (ocells oL) cc, fRow (ocells oA) (List.replicate n (-1 : Int)), fRow (ocells oB) (List.replicate s.length false), fRow (ocells oD) ([] : List Int)] _ _ at hf
  refine OpK.call rfl rfl rfl rfl hf inferInstance (Mr := [_]) (List.Perm.refl _) ?_
  clear hf
  generalize fillLot ⟨s, cc, List.replicate n (-1), List.replicate s.length false, []⟩ = l2
  clear hL hA hB hD
  rintro u Φ' Mc' ⟨vs2, cs2, vL2, oL2, vA2, oA2, vB2, oB2, vD3, oD3, rfl, hL, hA, hB, hD, rfl, rfl⟩
  have hone2 : ones [.slice vs2 l2.sets.length cs2, vL2, vA2, vB2, vD3] = true := (by
      have q1 := (own_cell hL).2
      have q2 := (own_cell hA).2
      have q3 := (own_cell hB).2
      have q4 := (own_cell hD).2
      simp only [ones, List.all_cons, List.all_nil, Bool.and_true, Bool.and_eq_true] at q1 q2 q3 q4 ⊢
      exact ⟨rfl, q1, q2, q3, q4⟩)
  refine G.perm ?_ List.perm_append_comm
  dsimp only [List.cons_append, List.nil_append, id]
  repeat (first | refine stp ?_ | (refine sti ?_; intro _) | refine stf ?_ | (refine stb ?_; intro _))
  refine o_store (vs := [.slice vs2 l2.sets.length cs2, vL2, vA2, vB2, vD3]) (cs' := [.slice vs2 l2.sets.length cs2, vL2, vA2, vB2, vD3]) rfl rfl rfl rfl rfl (Nat.le_of_ble_eq_true rfl) hone2 rfl ?_
  repeat (first | refine stp ?_ | (refine sti ?_; intro _) | refine stf ?_ | (refine stb ?_; intro _))
  exact G.ret rfl (.cons (.cellA rfl rfl) (.cons (.tmp rfl) .nil)) (Φ' := [fRp (.slice vs2 l2.sets.length cs2) l2.sets, fRow (ocells oL2) l2.left, fRow (ocells oA2) l2.at_, fRow (ocells oB2) l2.begun, fRow (ocells oD3) l2.done]) (M' := ownM 3 oL2 ++ (ownM 3 oA2 ++ (ownM 4 oB2 ++ ownM 3 oD3))) inferInstance (.cons _ (List.Sublist.refl _)) ⟨vs2, cs2, vL2, oL2, vA2, oA2, vB2, oB2, vD3, oD3, rfl, hL, hA, hB, hD, rfl, rfl⟩
end Go.Rail
