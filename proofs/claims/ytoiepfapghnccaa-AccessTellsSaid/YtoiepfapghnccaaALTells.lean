/- Keys are in order, sets are made, and clash, as the document says: the walk. -/
import Derived.Test.YtoiepfapghnccaaALRaw
import Derived.Test.YtoiepfapghnccaaRailCut
import Derived.Test.YtoiepfapghnccaaRailDrawX
namespace Go.Rail
open Go Go.Proofs
set_option linter.unusedSimpArgs false
set_option linter.unusedVariables false
set_option maxHeartbeats 400000
set_option maxRecDepth 4000
attribute [local irreducible] OpK G W LW wpListIn Exit.then Exit.inBlock Post rounds opRun bodyPostM intOp

attribute [local irreducible] lexN cmpW cmpA cmpK cmpI setK clashS mayS rightS J setsOf keysOf

def longK (i : Nat) : List Key := (List.range i).map fun j => ⟨Addr20.zero, true, Word.of (j : Nat)⟩
theorem longK_succ (i : Nat) : longK (i + 1) = longK i ++ [⟨Addr20.zero, true, Word.of i⟩] := by simp [longK, List.range_succ]
theorem longK_length (i : Nat) : (longK i).length = i := by simp [longK]
theorem makeS_le (r w : List Key) : small 200 (makeS r w).1 := by
  unfold makeS
  split
  · exact ⟨by simp [noSets], by simp [noSets]⟩
  · split
    · exact ⟨by simp [noSets], by simp [noSets]⟩
    · exact ⟨by dsimp only; omega, by dsimp only; omega⟩
theorem joinS_le (a b : Sets) : small 205 (joinS a b).1 := by
  unfold joinS
  split
  · have := makeS_le (a.reads ++ b.reads) (a.writes ++ b.writes)
    exact ⟨Nat.le_trans this.1 (by decide), Nat.le_trans this.2 (by decide)⟩
  · exact ⟨by simp [noSets], by simp [noSets]⟩
structure TlSt where
  i : Nat
  v : Value
  o : OR
attribute [local irreducible] makeS joinS
theorem tells_walk (m0 m1 m2 m3 : Option Addr) (k0 k1 k2 k3 : Nat) (any : Sets) (x y : Key) (q2 q3 : List (Int × Int)) (oa : small reachBytes any) (o2 : okRaw q2) (o3 : okRaw q3) (many : Int) (om : -9223372036854775808 ≤ many ∧ many ≤ 9223372036854775807) :
    FnV Try.prog 3 [.agg #[.slice m0 any.reads.length k0, .slice m1 any.writes.length k1], x.v, y.v, .slice m2 q2.length k2, .slice m3 q3.length k3, .int .i64 many] [fRp (.slice m0 any.reads.length k0) any.reads, fRp (.slice m1 any.writes.length k1) any.writes, fRp (.slice m2 q2.length k2) q2, fRp (.slice m3 q3.length k3) q3] (.bool true) := by
  obtain ⟨S, hS, rS, gS⟩ := setsOf_some q2 q3
  obtain ⟨R, hR, lR, mR⟩ : ∃ R, keysOf q2 = R ∧ R.length ≤ 15 ∧ ∀ k ∈ R, mayK k = true := ⟨_, rfl, keysOf_length q2, keysOf_may q2⟩
  obtain ⟨V, hV, lV, mV⟩ : ∃ R, keysOf q3 = R ∧ R.length ≤ 15 ∧ ∀ k ∈ R, mayK k = true := ⟨_, rfl, keysOf_length q3, keysOf_may q3⟩
  have kR := keys_spec (.slice m2 q2.length k2) q2 (okRaw_len o2) (okRaw_in o2)
  have kV := keys_spec (.slice m3 q3.length k3) q3 (okRaw_len o3) (okRaw_in o3)
  rw [hR] at kR
  rw [hV] at kV
  obtain ⟨U, hU, rU, gU⟩ := setsOf_some q3 []
  have hra : any.reads.length ≤ 140737488351232 := Nat.le_trans oa.1 (by decide)
  have hwa : any.writes.length ≤ 140737488351232 := Nat.le_trans oa.2 (by decide)
  have sS := rawSets (.slice m2 q2.length k2) (.slice m3 q3.length k3) q2 q3 o2 o3
  rw [hS] at sS
  have sU := rawSets (.slice m3 q3.length k3) (.slice none 0 0) q3 [] o3 ⟨by simp, fun p hp => by cases hp⟩
  rw [hU] at sU
  have hpm := pickI_nn many 10 (by omega)
  obtain ⟨nn, hnn⟩ : ∃ nn : Nat, pickI many 10 = nn := ⟨(pickI many 10).toNat, by omega⟩
  have hn10 : nn < 10 := by omega
  obtain ⟨h0, eh0⟩ : ∃ h0, h0 = min any.reads.length 12 := ⟨_, rfl⟩
  obtain ⟨h1, eh1⟩ : ∃ h1, h1 = min any.writes.length 12 := ⟨_, rfl⟩
  refine Fn.enter Try.func3 rfl Try.ntmps3 (by simp) (fun I0 w0 => ?_)
  repeat (first | refine stp ?_ | (refine k_indexAddr ?_; first | (refine o_ixA _ rfl rfl rfl rfl rfl (h := ?_); intro _) | (refine o_ixB rfl rfl rfl rfl (h := ?_); intro _)) | (refine k_load ?_; refine o_loadF rfl rfl rfl rfl ?_) | (refine stb ?_; intro _))
  refine o_callV rfl rfl rfl rfl awake_spec rfl ?_
  repeat (first | refine stp ?_ | (refine k_indexAddr ?_; first | (refine o_ixA _ rfl rfl rfl rfl rfl (h := ?_); intro _) | (refine o_ixB rfl rfl rfl rfl (h := ?_); intro _)) | (refine k_load ?_; refine o_loadF rfl rfl rfl rfl ?_) | (refine stb ?_; intro _))
  refine o_callD rfl rfl rfl rfl sS ?_
  intro svS
  refine G.sets svS S ?_
  intro rS1 wS1 eS1
  refine G.slice rS1 S.reads ?_
  intro aS cS xS zS
  refine G.slice wS1 S.writes ?_
  intro bS dS yS zzS
  subst xS yS
  subst eS1
  repeat (first | refine stp ?_ | (refine k_indexAddr ?_; first | (refine o_ixA _ rfl rfl rfl rfl rfl (h := ?_); intro _) | (refine o_ixB rfl rfl rfl rfl (h := ?_); intro _)) | (refine k_load ?_; refine o_loadF rfl rfl rfl rfl ?_) | (refine stb ?_; intro _))
  rename_i b6 b7 b8 b14
  refine W.drawX 16 (fun D c => (b14, Ob [.slice aS S.reads.length cS, .slice bS S.writes.length dS] 24) :: (b8, Ob (cellsL y.v) 31) :: (b7, Ob (cellsL x.v) 31) :: (b6, Ob [.slice m0 any.reads.length k0, .slice m1 any.writes.length k1] 24) :: (bif D 15 then [(pb (c 15), Ob [.slice none 0 0, .slice none 0 0] 24)] else [])) [⟨?v0_1, fun _ z => []⟩, ⟨?v1_1, fun _ z => []⟩, ⟨?v2_1, fun _ z => []⟩, ⟨?v3_1, fun _ z => []⟩, ⟨?v4_1, fun _ z => []⟩, ⟨?v5_1, fun _ z => []⟩, ⟨?v6_1, fun _ z => [fRp (.slice m0 h0 k0) (any.reads.take h0)]⟩, ⟨?v7_1, fun _ z => []⟩, ⟨?v8_1, fun _ z => []⟩, ⟨?v9_1, fun _ z => []⟩, ⟨?v10_1, fun _ z => []⟩, ⟨?v11_1, fun _ z => []⟩, ⟨?v12_1, fun _ z => []⟩, ⟨?v13_1, fun _ z => [fRp (.slice m1 h1 k1) (any.writes.take h1)]⟩, ⟨?v14_1, fun _ z => []⟩, ⟨fun _ z => .pointer (some ⟨pb z, 0, none⟩), fun _ z => []⟩] [[], [0], [], [2], [3], [4], [1, 5], [], [7], [], [9], [10], [11], [8, 12], [6, 13], []] [6, 13, 14, 15] (by kernel_rfl) (by kernel_rfl) (by kernel_rfl) (by kernel_rfl) ?loc_1 ?hz_1 ?ops_1 ?rest_1
  case ops_1 =>
    simp only [AllX, Nat.reduceAdd, and_true]
    refine ⟨?_, ?_, ?_, ?_, ?_, ?_, ?_, ?_, ?_, ?_, ?_, ?_, ?_, ?_, ?_, ?_⟩
    · intro D c z0 Φr Lr K hDi hAnc hDn hK; dsimp only [dstOf, dstX, putX, kval, kfac, ancE, ancX,  ancF, getD_z, getD_s, List.getElem?_cons_zero, List.getElem?_cons_succ, List.getElem?_nil, Option.getD_some, Option.getD_none, List.nil_append, List.cons_append, Option.getD] at hK ⊢; refine stp ?_; exact hK z0
    · intro D c z0 Φr Lr K hDi hAnc hDn hK; dsimp only [dstOf, dstX, putX, kval, kfac, ancE, ancX,  ancF, getD_z, getD_s, List.getElem?_cons_zero, List.getElem?_cons_succ, List.getElem?_nil, Option.getD_some, Option.getD_none, List.nil_append, List.cons_append, Option.getD] at hK ⊢; (first | refine stp ?_ | refine o_loadF rfl rfl rfl rfl ?_); exact hK z0
    · intro D c z0 Φr Lr K hDi hAnc hDn hK; dsimp only [dstOf, dstX, putX, kval, kfac, ancE, ancX,  ancF, getD_z, getD_s, List.getElem?_cons_zero, List.getElem?_cons_succ, List.getElem?_nil, Option.getD_some, Option.getD_none, List.nil_append, List.cons_append, Option.getD] at hK ⊢; refine stp ?_; exact hK z0
    · intro D c z0 Φr Lr K hDi hAnc hDn hK; dsimp only [dstOf, dstX, putX, kval, kfac, ancE, ancX,  ancF, getD_z, getD_s, List.getElem?_cons_zero, List.getElem?_cons_succ, List.getElem?_nil, Option.getD_some, Option.getD_none, List.nil_append, List.cons_append, Option.getD] at hK ⊢; (first | refine stp ?_ | refine o_loadF rfl rfl rfl rfl ?_); exact hK z0
    · intro D c z0 Φr Lr K hDi hAnc hDn hK; dsimp only [dstOf, dstX, putX, kval, kfac, ancE, ancX,  ancF, getD_z, getD_s, List.getElem?_cons_zero, List.getElem?_cons_succ, List.getElem?_nil, Option.getD_some, Option.getD_none, List.nil_append, List.cons_append, Option.getD] at hK ⊢; refine stp ?_; exact hK z0
    · intro D c z0 Φr Lr K hDi hAnc hDn hK; dsimp only [dstOf, dstX, putX, kval, kfac, ancE, ancX,  ancF, getD_z, getD_s, List.getElem?_cons_zero, List.getElem?_cons_succ, List.getElem?_nil, Option.getD_some, Option.getD_none, List.nil_append, List.cons_append, Option.getD] at hK ⊢; refine o_min rfl rfl rfl rfl rfl ?_; exact hK z0
    · intro D c z0 Φr Lr K hDi hAnc hDn hK; dsimp only [dstOf, dstX, putX, kval, kfac, ancE, ancX,  ancF, getD_z, getD_s, List.getElem?_cons_zero, List.getElem?_cons_succ, List.getElem?_nil, Option.getD_some, Option.getD_none, List.nil_append, List.cons_append, Option.getD] at hK ⊢; refine o_takeS (xs := any.reads) h0 rfl rfl rfl rfl (by split <;> omega) inferInstance (by omega) ?_; exact hK z0
    · intro D c z0 Φr Lr K hDi hAnc hDn hK; dsimp only [dstOf, dstX, putX, kval, kfac, ancE, ancX,  ancF, getD_z, getD_s, List.getElem?_cons_zero, List.getElem?_cons_succ, List.getElem?_nil, Option.getD_some, Option.getD_none, List.nil_append, List.cons_append, Option.getD] at hK ⊢; refine stp ?_; exact hK z0
    · intro D c z0 Φr Lr K hDi hAnc hDn hK; dsimp only [dstOf, dstX, putX, kval, kfac, ancE, ancX,  ancF, getD_z, getD_s, List.getElem?_cons_zero, List.getElem?_cons_succ, List.getElem?_nil, Option.getD_some, Option.getD_none, List.nil_append, List.cons_append, Option.getD] at hK ⊢; (first | refine stp ?_ | refine o_loadF rfl rfl rfl rfl ?_); exact hK z0
    · intro D c z0 Φr Lr K hDi hAnc hDn hK; dsimp only [dstOf, dstX, putX, kval, kfac, ancE, ancX,  ancF, getD_z, getD_s, List.getElem?_cons_zero, List.getElem?_cons_succ, List.getElem?_nil, Option.getD_some, Option.getD_none, List.nil_append, List.cons_append, Option.getD] at hK ⊢; refine stp ?_; exact hK z0
    · intro D c z0 Φr Lr K hDi hAnc hDn hK; dsimp only [dstOf, dstX, putX, kval, kfac, ancE, ancX,  ancF, getD_z, getD_s, List.getElem?_cons_zero, List.getElem?_cons_succ, List.getElem?_nil, Option.getD_some, Option.getD_none, List.nil_append, List.cons_append, Option.getD] at hK ⊢; (first | refine stp ?_ | refine o_loadF rfl rfl rfl rfl ?_); exact hK z0
    · intro D c z0 Φr Lr K hDi hAnc hDn hK; dsimp only [dstOf, dstX, putX, kval, kfac, ancE, ancX,  ancF, getD_z, getD_s, List.getElem?_cons_zero, List.getElem?_cons_succ, List.getElem?_nil, Option.getD_some, Option.getD_none, List.nil_append, List.cons_append, Option.getD] at hK ⊢; refine stp ?_; exact hK z0
    · intro D c z0 Φr Lr K hDi hAnc hDn hK; dsimp only [dstOf, dstX, putX, kval, kfac, ancE, ancX,  ancF, getD_z, getD_s, List.getElem?_cons_zero, List.getElem?_cons_succ, List.getElem?_nil, Option.getD_some, Option.getD_none, List.nil_append, List.cons_append, Option.getD] at hK ⊢; refine o_min rfl rfl rfl rfl rfl ?_; exact hK z0
    · intro D c z0 Φr Lr K hDi hAnc hDn hK; dsimp only [dstOf, dstX, putX, kval, kfac, ancE, ancX,  ancF, getD_z, getD_s, List.getElem?_cons_zero, List.getElem?_cons_succ, List.getElem?_nil, Option.getD_some, Option.getD_none, List.nil_append, List.cons_append, Option.getD] at hK ⊢; refine o_takeS (xs := any.writes) h1 rfl rfl rfl rfl (by split <;> omega) inferInstance (by omega) ?_; exact hK z0
    · intro D c z0 Φr Lr K hDi hAnc hDn hK; dsimp only [dstOf, dstX, putX, kval, kfac, ancE, ancX,  ancF, getD_z, getD_s, List.getElem?_cons_zero, List.getElem?_cons_succ, List.getElem?_nil, Option.getD_some, Option.getD_none, List.nil_append, List.cons_append, Option.getD] at hK ⊢; refine stp ?_; exact hK z0
    · intro D c z0 Φr Lr K hDi hAnc hDn hK; dsimp only [dstOf, dstX, putX, kval, kfac, ancE, ancX,  ancF, getD_z, getD_s, List.getElem?_cons_zero, List.getElem?_cons_succ, List.getElem?_nil, Option.getD_some, Option.getD_none, List.nil_append, List.cons_append, Option.getD] at hK ⊢; simp only [updD, updC, hDi, Nat.reduceEqDiff, ↓reduceIte, cond_true, cond_false, List.append_nil, List.nil_append] at hK ⊢; refine o_alloc rfl rfl ?_; intro b; refine G.perm (hK (.pointer (some ⟨b, 0, none⟩))) ?_; exact (List.perm_append_singleton _ [_, _, _, _]).symm; skip
  case hz_1 => intro c; rfl
  case loc_1 =>
    simp only [AllL, Nat.reduceAdd, and_true]
    refine ⟨?_, ?_, ?_, ?_, ?_, ?_, ?_, ?_, ?_, ?_, ?_, ?_, ?_, ?_, ?_, ?_⟩
    all_goals (intro c c' z h; first | exact ⟨rfl, rfl⟩ | (skip))
  intro c
  dsimp only [dstOf, dstX, putX, kval, kfac, ancE, ancX,  ancF, getD_z, getD_s, List.getElem?_cons_zero, List.getElem?_cons_succ, List.getElem?_nil, Option.getD_some, Option.getD_none, List.nil_append, List.cons_append, List.drop_succ_cons, List.drop_zero, Option.getD]
  generalize pb (c 15) = b15
  show LW _ _ _ (_ :: _) _ _ [_, _, _, _, _]
  repeat (first | refine stp ?_ | (refine k_indexAddr ?_; first | (refine o_ixA _ rfl rfl rfl rfl rfl (h := ?_); intro _) | (refine o_ixB rfl rfl rfl rfl (h := ?_); intro _)) | (refine k_load ?_; refine o_loadF rfl rfl rfl rfl ?_) | (refine stb ?_; intro _))
  refine o_callD rfl rfl rfl rfl sU ?_
  intro svU
  refine G.sets svU U ?_
  intro rU1 wU1 eU1
  refine G.slice rU1 U.reads ?_
  intro aU cU xU zU
  refine G.slice wU1 U.writes ?_
  intro bU dU yU zzU
  subst xU yU
  subst eU1
  repeat (first | refine stp ?_ | (refine k_indexAddr ?_; first | (refine o_ixA _ rfl rfl rfl rfl rfl (h := ?_); intro _) | (refine o_ixB rfl rfl rfl rfl (h := ?_); intro _)) | (refine k_load ?_; refine o_loadF rfl rfl rfl rfl ?_) | (refine stb ?_; intro _))
  rename_i b16
  have hz : (⟨Addr20.zero, true, Word.of 0⟩ : Key) = ⟨Addr20.zero, true, Word.of 0⟩ := rfl
  refine W.loopI (fun (s : TlSt) => ([fRow (ocells s.o) (longK s.i), fRp (.slice m0 h0 k0) (any.reads.take h0), fRp (.slice m1 h1 k1) (any.writes.take h1), fRp (.slice m2 q2.length k2) q2, fRp (.slice m3 q3.length k3) q3, fRp (.slice aS S.reads.length cS) S.reads, fRp (.slice bS S.writes.length dS) S.writes, fRp (.slice aU U.reads.length cU) U.reads, fRp (.slice bU U.writes.length dU) U.writes], [(3, .slice m2 q2.length k2), (4, .slice m3 q3.length k3), (5, .int .i64 many), (7, .pointer (some ⟨b7, 0, none⟩)), (8, .pointer (some ⟨b8, 0, none⟩)), (13, .bool true), (14, .pointer (some ⟨b14, 0, none⟩)), (15, .pointer (some ⟨b15, 0, none⟩)), (16, .pointer (some ⟨b16, 0, none⟩)), (17, s.v), (18, .int .i64 s.i)], (b16, Ob [.slice aU U.reads.length cU, .slice bU U.writes.length dU] 24) :: (b14, Ob [.slice aS S.reads.length cS, .slice bS S.writes.length dS] 24) :: (b8, Ob y.cells 31) :: (b7, Ob x.cells 31) :: (b15, Ob [.slice m0 h0 k0, .slice m1 h1 k1] 24) :: ownM 31 s.o)) (fun s => s.i ≤ 195 + nn ∧ IsOwn 25 s.v (longK s.i).length s.o) (fun s => 195 + nn - s.i) ⟨0, .slice none 0 0, none⟩ ⟨by dsimp only; omega, rfl, rfl⟩ (by show Ents _ (fRow [] ([] : List Key) :: _); infer_instance) (look_sub_cons rfl (look_sub_cons rfl (look_sub_cons rfl (look_sub_cons rfl (look_sub_cons rfl (look_sub_cons rfl (look_sub_cons rfl (look_sub_cons rfl (look_sub_cons rfl (look_sub_cons rfl (look_sub_cons rfl look_sub_nil))))))))))) (.cons_cons _ (.cons_cons _ (.cons_cons _ (.cons_cons _ (.cons _ (.cons_cons _ (List.nil_sublist _))))))) ?_
  rintro ⟨i, v17, ow⟩ ⟨hi, hown⟩
  dsimp only at hi hown ⊢
  have hll := longK_length i
  by_cases hi0 : i = 195 + nn
  · refine W.bare (G.giveOwn2 (Mr := [_, _, _, _, _]) v17 (longK i) ow 31 hown inferInstance (List.Perm.refl _) ?_)
    refine G.slice v17 (longK i) ?_
    intro a17 c17 e17 z17
    subst e17
    refine G.code ?_
    have hlk : (longK i).length ≤ 204 := by omega
    generalize longK i = lk at hll hlk hown ⊢
    repeat (first | refine stp ?_ | (refine k_indexAddr ?_; first | (refine o_ixA _ rfl rfl rfl rfl rfl (h := ?_); intro _) | (refine o_ixB rfl rfl rfl rfl (h := ?_); intro _)) | (refine k_load ?_; refine o_loadF rfl rfl rfl rfl ?_) | (refine stb ?_; intro _))
    refine o_callV rfl rfl rfl rfl (pick10_spec many 10 om.1 (by omega)) (congrArg (Value.int .i64) hnn) ?_
    repeat (first | refine stp ?_ | (refine k_indexAddr ?_; first | (refine o_ixA _ rfl rfl rfl rfl rfl (h := ?_); intro _) | (refine o_ixB rfl rfl rfl rfl (h := ?_); intro _)) | (refine k_load ?_; refine o_loadF rfl rfl rfl rfl ?_) | (refine stb ?_; intro _))
    rename_i b19
    refine W.draw 7 [⟨?v0_2, fun _ z => []⟩, ⟨?v1_2, fun _ z => []⟩, ⟨?v2_2, fun _ z => []⟩, ⟨?v3_2, fun _ z => []⟩, ⟨?v4_2, fun _ z => []⟩, ⟨?v5_2, fun _ z => []⟩, ⟨?v6_2, fun _ z => []⟩] [[], [], [0, 1], [], [], [3, 4], [2, 5]] [6] (by kernel_rfl) (by kernel_rfl) (by kernel_rfl) (by kernel_rfl) ?loc_2 ?ops_2 ?rest_2
    case ops_2 =>
      simp only [AllQ, Nat.reduceAdd, and_true]
      refine ⟨?_, ?_, ?_, ?_, ?_, ?_, ?_⟩
      · intro c z0 Φr Lr K hK; dsimp only [dstOf, kval, kfac, ancE,  ancF, getD_z, getD_s, List.getElem?_cons_zero, List.getElem?_cons_succ, List.getElem?_nil, Option.getD_some, Option.getD_none, List.nil_append, List.cons_append, Option.getD] at hK ⊢; (first | refine stp ?_ | refine o_loadF rfl rfl rfl rfl ?_); exact hK z0
      · intro c z0 Φr Lr K hK; dsimp only [dstOf, kval, kfac, ancE,  ancF, getD_z, getD_s, List.getElem?_cons_zero, List.getElem?_cons_succ, List.getElem?_nil, Option.getD_some, Option.getD_none, List.nil_append, List.cons_append, Option.getD] at hK ⊢; (first | refine stp ?_ | refine o_loadF rfl rfl rfl rfl ?_); exact hK z0
      · intro c z0 Φr Lr K hK; dsimp only [dstOf, kval, kfac, ancE,  ancF, getD_z, getD_s, List.getElem?_cons_zero, List.getElem?_cons_succ, List.getElem?_nil, Option.getD_some, Option.getD_none, List.nil_append, List.cons_append, Option.getD] at hK ⊢; refine o_callV rfl rfl rfl rfl (aorder_spec x y) rfl ?_; exact hK z0
      · intro c z0 Φr Lr K hK; dsimp only [dstOf, kval, kfac, ancE,  ancF, getD_z, getD_s, List.getElem?_cons_zero, List.getElem?_cons_succ, List.getElem?_nil, Option.getD_some, Option.getD_none, List.nil_append, List.cons_append, Option.getD] at hK ⊢; (first | refine stp ?_ | refine o_loadF rfl rfl rfl rfl ?_); exact hK z0
      · intro c z0 Φr Lr K hK; dsimp only [dstOf, kval, kfac, ancE,  ancF, getD_z, getD_s, List.getElem?_cons_zero, List.getElem?_cons_succ, List.getElem?_nil, Option.getD_some, Option.getD_none, List.nil_append, List.cons_append, Option.getD] at hK ⊢; (first | refine stp ?_ | refine o_loadF rfl rfl rfl rfl ?_); exact hK z0
      · intro c z0 Φr Lr K hK; dsimp only [dstOf, kval, kfac, ancE,  ancF, getD_z, getD_s, List.getElem?_cons_zero, List.getElem?_cons_succ, List.getElem?_nil, Option.getD_some, Option.getD_none, List.nil_append, List.cons_append, Option.getD] at hK ⊢; refine o_callV rfl rfl rfl rfl (order_spec x y) rfl ?_; exact hK z0
      · intro c z0 Φr Lr K hK; dsimp only [dstOf, kval, kfac, ancE,  ancF, getD_z, getD_s, List.getElem?_cons_zero, List.getElem?_cons_succ, List.getElem?_nil, Option.getD_some, Option.getD_none, List.nil_append, List.cons_append, Option.getD] at hK ⊢; refine stp ?_; exact hK z0
    case loc_2 =>
      simp only [AllL, Nat.reduceAdd, and_true]
      refine ⟨?_, ?_, ?_, ?_, ?_, ?_, ?_⟩
      all_goals exact fun _ _ _ _ => ⟨rfl, rfl⟩
    intro c
    dsimp only [dstOf, kval, kfac, ancE,  ancF, getD_z, getD_s, List.getElem?_cons_zero, List.getElem?_cons_succ, List.getElem?_nil, Option.getD_some, Option.getD_none, List.nil_append, List.cons_append, List.drop_succ_cons, List.drop_zero, Option.getD]
    repeat (first | refine stp ?_ | (refine k_indexAddr ?_; first | (refine o_ixA _ rfl rfl rfl rfl rfl (h := ?_); intro _) | (refine o_ixB rfl rfl rfl rfl (h := ?_); intro _)) | (refine k_load ?_; refine o_loadF rfl rfl rfl rfl ?_) | (refine stb ?_; intro _))
    refine W.drawX 21 (fun D c => (b19, Ob [.slice a17 lk.length c17, .slice bS S.writes.length dS] 24) :: (b16, Ob [.slice aU U.reads.length cU, .slice bU U.writes.length dU] 24) :: (b14, Ob [.slice aS S.reads.length cS, .slice bS S.writes.length dS] 24) :: (b8, Ob y.cells 31) :: (b7, Ob x.cells 31) :: (b15, Ob [.slice m0 h0 k0, .slice m1 h1 k1] 24) :: (bif D 16 then [] else bif D 13 then ownM 31 (co (c 13)) else [])) [⟨?v0_3, fun _ z => []⟩, ⟨?v1_3, fun _ z => []⟩, ⟨?v2_3, fun _ z => []⟩, ⟨?v3_3, fun _ z => []⟩, ⟨?v4_3, fun _ z => []⟩, ⟨?v5_3, fun _ z => []⟩, ⟨fun c z => .slice (sa (z)) R.length (sc (z)), fun _ z => [fRp (.slice (sa (z)) R.length (sc (z))) R]⟩, ⟨?v7_3, fun _ z => []⟩, ⟨fun c z => .slice (sa (z)) V.length (sc (z)), fun _ z => [fRp (.slice (sa (z)) V.length (sc (z))) V]⟩, ⟨?v9_3, fun _ z => []⟩, ⟨?v10_3, fun _ z => []⟩, ⟨fun c z => .slice (sa (z)) V.length (sc (z)), fun _ z => [fRp (.slice (sa (z)) V.length (sc (z))) V]⟩, ⟨?v12_3, fun _ z => []⟩, ⟨fun _ z => cv z, fun _ z => [fPure (IsOwn 25 (cv z) lk.length (co z)), fRow (ocells (co z)) lk]⟩, ⟨?v14_3, fun _ z => []⟩, ⟨fun _ z => z, fun _ z => [fRp z [x]]⟩, ⟨fun c z => .slice (sa (z)) (lk ++ [x]).length (sc (z)), fun _ z => [fRp (.slice (sa (z)) (lk ++ [x]).length (sc (z))) (lk ++ [x])]⟩, ⟨?v17_3, fun _ z => []⟩, ⟨fun _ z => .slice (some ⟨pb z, 0, none⟩) 3 3, fun c z => [fBlk (pb z) [.slice m0 h0 k0, .slice m1 h1 k1, .slice (sa (c 6)) R.length (sc (c 6)), .slice (sa (c 8)) V.length (sc (c 8)), .slice (sa (c 11)) V.length (sc (c 11)), .slice (sa (c 16)) (lk ++ [x]).length (sc (c 16))] 38]⟩, ⟨?v19_3, fun _ z => []⟩, ⟨?v20_3, fun _ z => []⟩] [[], [0], [], [2], [1, 3], [], [5], [], [7], [6, 8], [], [10], [], [12], [], [14], [13, 15], [11, 16], [4, 9, 17], [18], []] [6, 8, 11, 16, 18, 19, 20] (by kernel_rfl) (by kernel_rfl) (by kernel_rfl) (by kernel_rfl) ?loc_3 ?hz_3 ?ops_3 ?rest_3
    case ops_3 =>
      simp only [AllX, Nat.reduceAdd, and_true]
      refine ⟨?_, ?_, ?_, ?_, ?_, ?_, ?_, ?_, ?_, ?_, ?_, ?_, ?_, ?_, ?_, ?_, ?_, ?_, ?_, ?_, ?_⟩
      · intro D c z0 Φr Lr K hDi hAnc hDn hK; dsimp only [dstOf, dstX, putX, kval, kfac, ancE, ancX,  ancF, getD_z, getD_s, List.getElem?_cons_zero, List.getElem?_cons_succ, List.getElem?_nil, Option.getD_some, Option.getD_none, List.nil_append, List.cons_append, Option.getD] at hK ⊢; refine stp ?_; exact hK z0
      · intro D c z0 Φr Lr K hDi hAnc hDn hK; dsimp only [dstOf, dstX, putX, kval, kfac, ancE, ancX,  ancF, getD_z, getD_s, List.getElem?_cons_zero, List.getElem?_cons_succ, List.getElem?_nil, Option.getD_some, Option.getD_none, List.nil_append, List.cons_append, Option.getD] at hK ⊢; (first | refine stp ?_ | refine o_loadF rfl rfl rfl rfl ?_); exact hK z0
      · intro D c z0 Φr Lr K hDi hAnc hDn hK; dsimp only [dstOf, dstX, putX, kval, kfac, ancE, ancX,  ancF, getD_z, getD_s, List.getElem?_cons_zero, List.getElem?_cons_succ, List.getElem?_nil, Option.getD_some, Option.getD_none, List.nil_append, List.cons_append, Option.getD] at hK ⊢; refine stp ?_; exact hK z0
      · intro D c z0 Φr Lr K hDi hAnc hDn hK; dsimp only [dstOf, dstX, putX, kval, kfac, ancE, ancX,  ancF, getD_z, getD_s, List.getElem?_cons_zero, List.getElem?_cons_succ, List.getElem?_nil, Option.getD_some, Option.getD_none, List.nil_append, List.cons_append, Option.getD] at hK ⊢; (first | refine stp ?_ | refine o_loadF rfl rfl rfl rfl ?_); exact hK z0
      · intro D c z0 Φr Lr K hDi hAnc hDn hK; dsimp only [dstOf, dstX, putX, kval, kfac, ancE, ancX,  ancF, getD_z, getD_s, List.getElem?_cons_zero, List.getElem?_cons_succ, List.getElem?_nil, Option.getD_some, Option.getD_none, List.nil_append, List.cons_append, Option.getD] at hK ⊢; refine stp ?_; exact hK z0
      · intro D c z0 Φr Lr K hDi hAnc hDn hK; dsimp only [dstOf, dstX, putX, kval, kfac, ancE, ancX,  ancF, getD_z, getD_s, List.getElem?_cons_zero, List.getElem?_cons_succ, List.getElem?_nil, Option.getD_some, Option.getD_none, List.nil_append, List.cons_append, Option.getD] at hK ⊢; refine stp ?_; exact hK z0
      · intro D c z0 Φr Lr K hDi hAnc hDn hK; dsimp only [dstOf, dstX, putX, kval, kfac, ancE, ancX,  ancF, getD_z, getD_s, List.getElem?_cons_zero, List.getElem?_cons_succ, List.getElem?_nil, Option.getD_some, Option.getD_none, List.nil_append, List.cons_append, Option.getD] at hK ⊢; refine o_callD rfl rfl rfl rfl kR ?_; intro u; refine G.slice u R ?_; intro a' cap' e' _; subst e'; exact hK (.slice a' 0 cap'); skip
      · intro D c z0 Φr Lr K hDi hAnc hDn hK; dsimp only [dstOf, dstX, putX, kval, kfac, ancE, ancX,  ancF, getD_z, getD_s, List.getElem?_cons_zero, List.getElem?_cons_succ, List.getElem?_nil, Option.getD_some, Option.getD_none, List.nil_append, List.cons_append, Option.getD] at hK ⊢; refine stp ?_; exact hK z0
      · intro D c z0 Φr Lr K hDi hAnc hDn hK; dsimp only [dstOf, dstX, putX, kval, kfac, ancE, ancX,  ancF, getD_z, getD_s, List.getElem?_cons_zero, List.getElem?_cons_succ, List.getElem?_nil, Option.getD_some, Option.getD_none, List.nil_append, List.cons_append, Option.getD] at hK ⊢; refine o_callD rfl rfl rfl rfl kV ?_; intro u; refine G.slice u V ?_; intro a' cap' e' _; subst e'; exact hK (.slice a' 0 cap'); skip
      · intro D c z0 Φr Lr K hDi hAnc hDn hK; dsimp only [dstOf, dstX, putX, kval, kfac, ancE, ancX,  ancF, getD_z, getD_s, List.getElem?_cons_zero, List.getElem?_cons_succ, List.getElem?_nil, Option.getD_some, Option.getD_none, List.nil_append, List.cons_append, Option.getD] at hK ⊢; refine stp ?_; exact hK z0
      · intro D c z0 Φr Lr K hDi hAnc hDn hK; dsimp only [dstOf, dstX, putX, kval, kfac, ancE, ancX,  ancF, getD_z, getD_s, List.getElem?_cons_zero, List.getElem?_cons_succ, List.getElem?_nil, Option.getD_some, Option.getD_none, List.nil_append, List.cons_append, Option.getD] at hK ⊢; refine stp ?_; exact hK z0
      · intro D c z0 Φr Lr K hDi hAnc hDn hK; dsimp only [dstOf, dstX, putX, kval, kfac, ancE, ancX,  ancF, getD_z, getD_s, List.getElem?_cons_zero, List.getElem?_cons_succ, List.getElem?_nil, Option.getD_some, Option.getD_none, List.nil_append, List.cons_append, Option.getD] at hK ⊢; refine o_callD rfl rfl rfl rfl kV ?_; intro u; refine G.slice u V ?_; intro a' cap' e' _; subst e'; exact hK (.slice a' 0 cap'); skip
      · intro D c z0 Φr Lr K hDi hAnc hDn hK; dsimp only [dstOf, dstX, putX, kval, kfac, ancE, ancX,  ancF, getD_z, getD_s, List.getElem?_cons_zero, List.getElem?_cons_succ, List.getElem?_nil, Option.getD_some, Option.getD_none, List.nil_append, List.cons_append, Option.getD] at hK ⊢; refine stp ?_; exact hK z0
      · intro D c z0 Φr Lr K hDi hAnc hDn hK; dsimp only [dstOf, dstX, putX, kval, kfac, ancE, ancX,  ancF, getD_z, getD_s, List.getElem?_cons_zero, List.getElem?_cons_succ, List.getElem?_nil, Option.getD_some, Option.getD_none, List.nil_append, List.cons_append, Option.getD] at hK ⊢; have h16 : D 16 = false := dnF hDn hDi (by kernel_rfl); simp only [updD, updC, hDi, h16, Nat.reduceEqDiff, ↓reduceIte, cond_true, cond_false, List.append_nil, List.nil_append] at hK ⊢; refine o_app2 (Mr := [_, _, _, _, _, _]) none (xs := ([] : List Key)) (ys := lk) ⟨rfl, rfl⟩ ⟨by first | omega | (simp; omega), by first | omega | (simp; omega), rfl⟩ rfl rfl rfl rfl inferInstance inferInstance (List.Perm.refl _) ?_; intro v' o' hown'; have hk := hK (codeO v' o'); simp only [cv_code, co_code] at hk; refine G.learn (fPure (IsOwn 25 v' _ o')) (e := ⟨fun _ _ => hown'⟩) ?_; exact hk; skip
      · intro D c z0 Φr Lr K hDi hAnc hDn hK; dsimp only [dstOf, dstX, putX, kval, kfac, ancE, ancX,  ancF, getD_z, getD_s, List.getElem?_cons_zero, List.getElem?_cons_succ, List.getElem?_nil, Option.getD_some, Option.getD_none, List.nil_append, List.cons_append, Option.getD] at hK ⊢; (first | refine stp ?_ | refine o_loadF rfl rfl rfl rfl ?_); exact hK z0
      · intro D c z0 Φr Lr K hDi hAnc hDn hK; dsimp only [dstOf, dstX, putX, kval, kfac, ancE, ancX,  ancF, getD_z, getD_s, List.getElem?_cons_zero, List.getElem?_cons_succ, List.getElem?_nil, Option.getD_some, Option.getD_none, List.nil_append, List.cons_append, Option.getD] at hK ⊢; refine o_lit (xs := [x]) ⟨by decide, rfl, by decide⟩ rfl rfl rfl ⟨litK, trivial⟩ rfl ?_; intro z; exact hK _
      · intro D c z0 Φr Lr K hDi hAnc hDn hK; dsimp only [dstOf, dstX, putX, kval, kfac, ancE, ancX,  ancF, getD_z, getD_s, List.getElem?_cons_zero, List.getElem?_cons_succ, List.getElem?_nil, Option.getD_some, Option.getD_none, List.nil_append, List.cons_append, Option.getD] at hK ⊢; have h13 : D 13 = true := hAnc 13 (by kernel_rfl); simp only [updD, updC, hDi, h13, Nat.reduceEqDiff, ↓reduceIte, cond_true, cond_false, List.append_nil, List.nil_append] at hK ⊢; refine OpK.bare (G.use (p := IsOwn 25 (cv (c 13)) lk.length (co (c 13))) (fun I hp => hp (fPure _) (by first | exact .head _ | exact .tail _ (.head _) | exact .tail _ (.tail _ (.head _)) | exact .tail _ (.tail _ (.tail _ (.head _))))) ?_); intro hown13; refine OpK.back ?_; refine o_app2 (Mr := [_, _, _, _, _, _]) (co (c 13)) (xs := lk) (ys := [x]) hown13 ⟨by simp; omega, by simp; omega, rfl⟩ rfl rfl rfl rfl inferInstance inferInstance (List.Perm.refl _) ?_; intro v' o' hown'; refine G.giveOwn2 (Mr := [_, _, _, _, _, _]) v' (lk ++ [x]) o' 31 hown' inferInstance (List.Perm.refl _) ?_; refine G.slice v' (lk ++ [x]) ?_; intro a' cap' e' _; subst e'; exact G.weaken (hK (.slice a' 0 cap')) (fun φ h => by rcases List.mem_cons.1 h with rfl | h; exact .head _; exact .tail _ (.tail _ h)) (fun t v h => h) (List.Sublist.refl _); skip
      · intro D c z0 Φr Lr K hDi hAnc hDn hK; dsimp only [dstOf, dstX, putX, kval, kfac, ancE, ancX,  ancF, getD_z, getD_s, List.getElem?_cons_zero, List.getElem?_cons_succ, List.getElem?_nil, Option.getD_some, Option.getD_none, List.nil_append, List.cons_append, Option.getD] at hK ⊢; refine stp ?_; exact hK z0
      · intro D c z0 Φr Lr K hDi hAnc hDn hK; dsimp only [dstOf, dstX, putX, kval, kfac, ancE, ancX,  ancF, getD_z, getD_s, List.getElem?_cons_zero, List.getElem?_cons_succ, List.getElem?_nil, Option.getD_some, Option.getD_none, List.nil_append, List.cons_append, Option.getD] at hK ⊢; refine o_litC ⟨by decide, rfl, by decide⟩ rfl rfl rfl rfl (by simp [cellsL]) ?_; intro b; exact hK (.pointer (some ⟨b, 0, none⟩)); skip
      · intro D c z0 Φr Lr K hDi hAnc hDn hK; dsimp only [dstOf, dstX, putX, kval, kfac, ancE, ancX,  ancF, getD_z, getD_s, List.getElem?_cons_zero, List.getElem?_cons_succ, List.getElem?_nil, Option.getD_some, Option.getD_none, List.nil_append, List.cons_append, Option.getD] at hK ⊢; refine stp ?_; exact hK z0
      · intro D c z0 Φr Lr K hDi hAnc hDn hK; dsimp only [dstOf, dstX, putX, kval, kfac, ancE, ancX,  ancF, getD_z, getD_s, List.getElem?_cons_zero, List.getElem?_cons_succ, List.getElem?_nil, Option.getD_some, Option.getD_none, List.nil_append, List.cons_append, Option.getD] at hK ⊢; refine stp ?_; exact hK z0
    case hz_3 => intro c; rfl
    case loc_3 =>
      simp only [AllL, Nat.reduceAdd, and_true]
      refine ⟨?_, ?_, ?_, ?_, ?_, ?_, ?_, ?_, ?_, ?_, ?_, ?_, ?_, ?_, ?_, ?_, ?_, ?_, ?_, ?_, ?_⟩
      · exact fun _ _ _ _ => ⟨rfl, rfl⟩
      · exact fun _ _ _ _ => ⟨rfl, rfl⟩
      · exact fun _ _ _ _ => ⟨rfl, rfl⟩
      · exact fun _ _ _ _ => ⟨rfl, rfl⟩
      · exact fun _ _ _ _ => ⟨rfl, rfl⟩
      · exact fun _ _ _ _ => ⟨rfl, rfl⟩
      · exact fun _ _ _ _ => ⟨rfl, rfl⟩
      · exact fun _ _ _ _ => ⟨rfl, rfl⟩
      · exact fun _ _ _ _ => ⟨rfl, rfl⟩
      · intro c c' z h; simp only [getD_s, getD_z, h 6 (by kernel_rfl), h 8 (by kernel_rfl), and_self]
      · exact fun _ _ _ _ => ⟨rfl, rfl⟩
      · exact fun _ _ _ _ => ⟨rfl, rfl⟩
      · exact fun _ _ _ _ => ⟨rfl, rfl⟩
      · exact fun _ _ _ _ => ⟨rfl, rfl⟩
      · exact fun _ _ _ _ => ⟨rfl, rfl⟩
      · exact fun _ _ _ _ => ⟨rfl, rfl⟩
      · exact fun _ _ _ _ => ⟨rfl, rfl⟩
      · intro c c' z h; simp only [getD_s, getD_z, h 11 (by kernel_rfl), h 16 (by kernel_rfl), and_self]
      · intro c c' z h; simp only [getD_s, getD_z, h 6 (by kernel_rfl), h 8 (by kernel_rfl), h 11 (by kernel_rfl), h 16 (by kernel_rfl), and_self]
      · exact fun _ _ _ _ => ⟨rfl, rfl⟩
      · exact fun _ _ _ _ => ⟨rfl, rfl⟩
    intro c
    dsimp only [dstOf, dstX, putX, kval, kfac, ancE, ancX,  ancF, getD_z, getD_s, List.getElem?_cons_zero, List.getElem?_cons_succ, List.getElem?_nil, Option.getD_some, Option.getD_none, List.nil_append, List.cons_append, List.drop_succ_cons, List.drop_zero, Option.getD]
    generalize sa (c 6) = a6
    generalize sc (c 6) = c6
    generalize sa (c 8) = a8
    generalize sc (c 8) = c8
    generalize sa (c 11) = a11
    generalize sc (c 11) = c11
    generalize sa (c 16) = a16
    generalize sc (c 16) = c16
    generalize pb (c 18) = b18
    show LW _ _ _ [] _ _ [_, _, _, _, _, _]
    have ll2 : (lk ++ [x]).length ≤ 205 := by simp; omega
    have lt0 : (any.reads.take h0).length ≤ 12 := by simp; omega
    have lt1 : (any.writes.take h1).length ≤ 12 := by simp; omega
    repeat (first | refine stp ?_ | (refine k_indexAddr ?_; first | (refine o_ixA _ rfl rfl rfl rfl rfl (h := ?_); intro _) | (refine o_ixB rfl rfl rfl rfl (h := ?_); intro _)) | (refine k_load ?_; refine o_loadF rfl rfl rfl rfl ?_) | (refine stb ?_; intro _))
    refine W.loopN 4 ?_
    repeat (first | refine stp ?_ | (refine k_indexAddr ?_; first | (refine o_ixA _ rfl rfl rfl rfl rfl (h := ?_); intro _) | (refine o_ixB rfl rfl rfl rfl (h := ?_); intro _)) | (refine k_load ?_; refine o_loadF rfl rfl rfl rfl ?_) | (refine stb ?_; intro _))
    refine o_idxO rfl rfl rfl rfl (by omega) (by omega) (o' := 0) (by omega) ?_
    repeat (first | refine stp ?_ | (refine k_indexAddr ?_; first | (refine o_ixA _ rfl rfl rfl rfl rfl (h := ?_); intro _) | (refine o_ixB rfl rfl rfl rfl (h := ?_); intro _)) | (refine k_load ?_; refine o_loadF rfl rfl rfl rfl ?_) | (refine stb ?_; intro _))
    refine o_callT rfl rfl rfl rfl (amake_spec (.slice m0 h0 k0) (.slice m1 h1 k1) (any.reads.take h0) (any.writes.take h1) (by omega) (by omega)) ?_
    intro u0a
    refine G.sets u0a (makeS (any.reads.take h0) (any.writes.take h1)).1 ?_
    intro r000 w000 e000
    refine G.slice r000 (makeS (any.reads.take h0) (any.writes.take h1)).1.reads ?_
    intro a000 c000 x000 zx000
    refine G.slice w000 (makeS (any.reads.take h0) (any.writes.take h1)).1.writes ?_
    intro b000 d000 y000 zy000
    subst x000 y000
    subst e000
    repeat (first | refine stp ?_ | (refine k_indexAddr ?_; first | (refine o_ixA _ rfl rfl rfl rfl rfl (h := ?_); intro _) | (refine o_ixB rfl rfl rfl rfl (h := ?_); intro _)) | (refine k_load ?_; refine o_loadF rfl rfl rfl rfl ?_) | (refine stb ?_; intro _))
    refine o_callT rfl rfl rfl rfl (make_spec (.slice m0 h0 k0) (.slice m1 h1 k1) (any.reads.take h0) (any.writes.take h1) (by omega) (by omega)) ?_
    intro u0b
    refine G.sets u0b (makeS (any.reads.take h0) (any.writes.take h1)).1 ?_
    intro r001 w001 e001
    refine G.slice r001 (makeS (any.reads.take h0) (any.writes.take h1)).1.reads ?_
    intro a001 c001 x001 zx001
    refine G.slice w001 (makeS (any.reads.take h0) (any.writes.take h1)).1.writes ?_
    intro b001 d001 y001 zy001
    subst x001 y001
    subst e001
    repeat (first | refine stp ?_ | (refine k_indexAddr ?_; first | (refine o_ixA _ rfl rfl rfl rfl rfl (h := ?_); intro _) | (refine o_ixB rfl rfl rfl rfl (h := ?_); intro _)) | (refine k_load ?_; refine o_loadF rfl rfl rfl rfl ?_) | (refine stb ?_; intro _))
    have hm0 := makeS_le (any.reads.take h0) (any.writes.take h1)
    refine o_callV rfl rfl rfl rfl (same2_spec (.agg #[.slice a000 (makeS (any.reads.take h0) (any.writes.take h1)).1.reads.length c000, .slice b000 (makeS (any.reads.take h0) (any.writes.take h1)).1.writes.length d000]) (.agg #[.slice a001 (makeS (any.reads.take h0) (any.writes.take h1)).1.reads.length c001, .slice b001 (makeS (any.reads.take h0) (any.writes.take h1)).1.writes.length d001]) (makeS (any.reads.take h0) (any.writes.take h1)).1 (makeS (any.reads.take h0) (any.writes.take h1)).1 ⟨Nat.le_trans hm0.1 (by decide), Nat.le_trans hm0.2 (by decide)⟩ ⟨Nat.le_trans hm0.1 (by decide), Nat.le_trans hm0.2 (by decide)⟩) (congrArg Value.bool (decide_eq_true ⟨rfl, rfl⟩)) ?_
    repeat (first | refine stp ?_ | (refine k_indexAddr ?_; first | (refine o_ixA _ rfl rfl rfl rfl rfl (h := ?_); intro _) | (refine o_ixB rfl rfl rfl rfl (h := ?_); intro _)) | (refine k_load ?_; refine o_loadF rfl rfl rfl rfl ?_) | (refine stb ?_; intro _))
    refine o_idxO rfl rfl rfl rfl (by omega) (by omega) (o' := 2) (by omega) ?_
    repeat (first | refine stp ?_ | (refine k_indexAddr ?_; first | (refine o_ixA _ rfl rfl rfl rfl rfl (h := ?_); intro _) | (refine o_ixB rfl rfl rfl rfl (h := ?_); intro _)) | (refine k_load ?_; refine o_loadF rfl rfl rfl rfl ?_) | (refine stb ?_; intro _))
    refine o_callT rfl rfl rfl rfl (amake_spec (.slice a6 R.length c6) (.slice a8 V.length c8) R V (by omega) (by omega)) ?_
    intro u1a
    refine G.sets u1a (makeS R V).1 ?_
    intro r100 w100 e100
    refine G.slice r100 (makeS R V).1.reads ?_
    intro a100 c100 x100 zx100
    refine G.slice w100 (makeS R V).1.writes ?_
    intro b100 d100 y100 zy100
    subst x100 y100
    subst e100
    repeat (first | refine stp ?_ | (refine k_indexAddr ?_; first | (refine o_ixA _ rfl rfl rfl rfl rfl (h := ?_); intro _) | (refine o_ixB rfl rfl rfl rfl (h := ?_); intro _)) | (refine k_load ?_; refine o_loadF rfl rfl rfl rfl ?_) | (refine stb ?_; intro _))
    refine o_callT rfl rfl rfl rfl (make_spec (.slice a6 R.length c6) (.slice a8 V.length c8) R V (by omega) (by omega)) ?_
    intro u1b
    refine G.sets u1b (makeS R V).1 ?_
    intro r101 w101 e101
    refine G.slice r101 (makeS R V).1.reads ?_
    intro a101 c101 x101 zx101
    refine G.slice w101 (makeS R V).1.writes ?_
    intro b101 d101 y101 zy101
    subst x101 y101
    subst e101
    repeat (first | refine stp ?_ | (refine k_indexAddr ?_; first | (refine o_ixA _ rfl rfl rfl rfl rfl (h := ?_); intro _) | (refine o_ixB rfl rfl rfl rfl (h := ?_); intro _)) | (refine k_load ?_; refine o_loadF rfl rfl rfl rfl ?_) | (refine stb ?_; intro _))
    have hm1 := makeS_le R V
    refine o_callV rfl rfl rfl rfl (same2_spec (.agg #[.slice a100 (makeS R V).1.reads.length c100, .slice b100 (makeS R V).1.writes.length d100]) (.agg #[.slice a101 (makeS R V).1.reads.length c101, .slice b101 (makeS R V).1.writes.length d101]) (makeS R V).1 (makeS R V).1 ⟨Nat.le_trans hm1.1 (by decide), Nat.le_trans hm1.2 (by decide)⟩ ⟨Nat.le_trans hm1.1 (by decide), Nat.le_trans hm1.2 (by decide)⟩) (congrArg Value.bool (decide_eq_true ⟨rfl, rfl⟩)) ?_
    repeat (first | refine stp ?_ | (refine k_indexAddr ?_; first | (refine o_ixA _ rfl rfl rfl rfl rfl (h := ?_); intro _) | (refine o_ixB rfl rfl rfl rfl (h := ?_); intro _)) | (refine k_load ?_; refine o_loadF rfl rfl rfl rfl ?_) | (refine stb ?_; intro _))
    refine o_idxO rfl rfl rfl rfl (by omega) (by omega) (o' := 4) (by omega) ?_
    repeat (first | refine stp ?_ | (refine k_indexAddr ?_; first | (refine o_ixA _ rfl rfl rfl rfl rfl (h := ?_); intro _) | (refine o_ixB rfl rfl rfl rfl (h := ?_); intro _)) | (refine k_load ?_; refine o_loadF rfl rfl rfl rfl ?_) | (refine stb ?_; intro _))
    refine o_callT rfl rfl rfl rfl (amake_spec (.slice a11 V.length c11) (.slice a16 (lk ++ [x]).length c16) V (lk ++ [x]) (by omega) (by omega)) ?_
    intro u2a
    refine G.sets u2a (makeS V (lk ++ [x])).1 ?_
    intro r200 w200 e200
    refine G.slice r200 (makeS V (lk ++ [x])).1.reads ?_
    intro a200 c200 x200 zx200
    refine G.slice w200 (makeS V (lk ++ [x])).1.writes ?_
    intro b200 d200 y200 zy200
    subst x200 y200
    subst e200
    repeat (first | refine stp ?_ | (refine k_indexAddr ?_; first | (refine o_ixA _ rfl rfl rfl rfl rfl (h := ?_); intro _) | (refine o_ixB rfl rfl rfl rfl (h := ?_); intro _)) | (refine k_load ?_; refine o_loadF rfl rfl rfl rfl ?_) | (refine stb ?_; intro _))
    refine o_callT rfl rfl rfl rfl (make_spec (.slice a11 V.length c11) (.slice a16 (lk ++ [x]).length c16) V (lk ++ [x]) (by omega) (by omega)) ?_
    intro u2b
    refine G.sets u2b (makeS V (lk ++ [x])).1 ?_
    intro r201 w201 e201
    refine G.slice r201 (makeS V (lk ++ [x])).1.reads ?_
    intro a201 c201 x201 zx201
    refine G.slice w201 (makeS V (lk ++ [x])).1.writes ?_
    intro b201 d201 y201 zy201
    subst x201 y201
    subst e201
    repeat (first | refine stp ?_ | (refine k_indexAddr ?_; first | (refine o_ixA _ rfl rfl rfl rfl rfl (h := ?_); intro _) | (refine o_ixB rfl rfl rfl rfl (h := ?_); intro _)) | (refine k_load ?_; refine o_loadF rfl rfl rfl rfl ?_) | (refine stb ?_; intro _))
    have hm2 := makeS_le V (lk ++ [x])
    refine o_callV rfl rfl rfl rfl (same2_spec (.agg #[.slice a200 (makeS V (lk ++ [x])).1.reads.length c200, .slice b200 (makeS V (lk ++ [x])).1.writes.length d200]) (.agg #[.slice a201 (makeS V (lk ++ [x])).1.reads.length c201, .slice b201 (makeS V (lk ++ [x])).1.writes.length d201]) (makeS V (lk ++ [x])).1 (makeS V (lk ++ [x])).1 ⟨Nat.le_trans hm2.1 (by decide), Nat.le_trans hm2.2 (by decide)⟩ ⟨Nat.le_trans hm2.1 (by decide), Nat.le_trans hm2.2 (by decide)⟩) (congrArg Value.bool (decide_eq_true ⟨rfl, rfl⟩)) ?_
    repeat (first | refine stp ?_ | (refine k_indexAddr ?_; first | (refine o_ixA _ rfl rfl rfl rfl rfl (h := ?_); intro _) | (refine o_ixB rfl rfl rfl rfl (h := ?_); intro _)) | (refine k_load ?_; refine o_loadF rfl rfl rfl rfl ?_) | (refine stb ?_; intro _))
    -- REST
    refine o_lit (xs := [S, (⟨any.reads.take h0, any.writes.take h1⟩ : Sets), (⟨lk, S.writes⟩ : Sets)]) ⟨by decide, rfl, by decide⟩ rfl rfl rfl ⟨fun I hp => Rp.mkSets (s := S) (Ent'.h (φ := fRp (.slice aS S.reads.length cS) S.reads) I hp) (Ent'.h (φ := fRp (.slice bS S.writes.length dS) S.writes) I hp), fun I hp => Rp.mkSets (s := (⟨any.reads.take h0, any.writes.take h1⟩ : Sets)) (Ent'.h (φ := fRp (.slice m0 h0 k0) (any.reads.take h0)) I hp) (Ent'.h (φ := fRp (.slice m1 h1 k1) (any.writes.take h1)) I hp), fun I hp => Rp.mkSets (s := (⟨lk, S.writes⟩ : Sets)) (Ent'.h (φ := fRp (.slice a17 lk.length c17) lk) I hp) (Ent'.h (φ := fRp (.slice bS S.writes.length dS) S.writes) I hp), trivial⟩ rfl ?_
    intro lv
    refine G.learn (fRp (.agg #[.slice aU U.reads.length cU, .slice bU U.writes.length dU]) U) (e := ⟨fun I hp => Rp.mkSets (s := U) (Ent'.h (φ := fRp (.slice aU U.reads.length cU) U.reads) I hp) (Ent'.h (φ := fRp (.slice bU U.writes.length dU) U.writes) I hp)⟩) ?_
    refine G.learn (fRp (.agg #[.slice m0 h0 k0, .slice m1 h1 k1]) (⟨any.reads.take h0, any.writes.take h1⟩ : Sets)) (e := ⟨fun I hp => Rp.mkSets (s := (⟨any.reads.take h0, any.writes.take h1⟩ : Sets)) (Ent'.h (φ := fRp (.slice m0 h0 k0) (any.reads.take h0)) I hp) (Ent'.h (φ := fRp (.slice m1 h1 k1) (any.writes.take h1)) I hp)⟩) ?_
    refine G.learn (fRp (.agg #[.slice aS S.reads.length cS, .slice bS S.writes.length dS]) S) (e := ⟨fun I hp => Rp.mkSets (s := S) (Ent'.h (φ := fRp (.slice aS S.reads.length cS) S.reads) I hp) (Ent'.h (φ := fRp (.slice bS S.writes.length dS) S.writes) I hp)⟩) ?_
    repeat (first | refine stp ?_ | (refine k_indexAddr ?_; first | (refine o_ixA _ rfl rfl rfl rfl rfl (h := ?_); intro _) | (refine o_ixB rfl rfl rfl rfl (h := ?_); intro _)) | (refine k_load ?_; refine o_loadF rfl rfl rfl rfl ?_) | (refine stb ?_; intro _))
    refine W.loopI (fun (i : Nat) => ([fRp lv [S, (⟨any.reads.take h0, any.writes.take h1⟩ : Sets), (⟨lk, S.writes⟩ : Sets)], fRp (.agg #[.slice aS S.reads.length cS, .slice bS S.writes.length dS]) S, fRp (.agg #[.slice m0 h0 k0, .slice m1 h1 k1]) (⟨any.reads.take h0, any.writes.take h1⟩ : Sets), fRp (.agg #[.slice aU U.reads.length cU, .slice bU U.writes.length dU]) U], [(7, .pointer (some ⟨b7, 0, none⟩)), (8, .pointer (some ⟨b8, 0, none⟩)), (13, .bool true), (14, .pointer (some ⟨b14, 0, none⟩)), (15, .pointer (some ⟨b15, 0, none⟩)), (16, .pointer (some ⟨b16, 0, none⟩)), (134, lv), (135, .int .i64 3), (136, .int .i64 i)], [(b16, Ob [.slice aU U.reads.length cU, .slice bU U.writes.length dU] 24), (b14, Ob [.slice aS S.reads.length cS, .slice bS S.writes.length dS] 24), (b8, Ob y.cells 31), (b7, Ob x.cells 31), (b15, Ob [.slice m0 h0 k0, .slice m1 h1 k1] 24)])) (fun i => i ≤ 3) (fun i => 3 - i) 0 (by omega) ⟨fun I hp φ hφ => hp φ (by simp only [List.mem_cons, List.not_mem_nil, or_false] at hφ; rcases hφ with rfl | rfl | rfl | rfl <;> simp)⟩ (look_sub_cons rfl (look_sub_cons rfl (look_sub_cons rfl (look_sub_cons rfl (look_sub_cons rfl (look_sub_cons rfl (look_sub_cons rfl (look_sub_cons rfl (look_sub_cons rfl look_sub_nil))))))))) (by repeat (first | exact List.Sublist.refl _ | exact List.nil_sublist _ | refine List.Sublist.cons_cons _ ?_ | refine List.Sublist.cons _ ?_)) ?_
    intro i' hi'
    dsimp only
    have hl3 : [S, (⟨any.reads.take h0, any.writes.take h1⟩ : Sets), (⟨lk, S.writes⟩ : Sets)].length = 3 := rfl
    by_cases hi3 : i' = 3
    · subst hi3
      repeat (first | refine stp ?_ | (refine k_indexAddr ?_; first | (refine o_ixA _ rfl rfl rfl rfl rfl (h := ?_); intro _) | (refine o_ixB rfl rfl rfl rfl (h := ?_); intro _)) | (refine k_load ?_; refine o_loadF rfl rfl rfl rfl ?_) | (refine stb ?_; intro _))
      refine G.ret rfl (.cons (.tmp rfl) .nil) (Φ' := []) (M' := []) inferInstance (List.nil_sublist _) ⟨?_, rfl, rfl⟩
      rfl
    · have hi1 : i' < [S, (⟨any.reads.take h0, any.writes.take h1⟩ : Sets), (⟨lk, S.writes⟩ : Sets)].length := by omega
      have hi4 : i' < 3 := by omega
      repeat (first | refine stp ?_ | (refine k_indexAddr ?_; first | (refine o_ixA _ rfl rfl rfl rfl rfl (h := ?_); intro _) | (refine o_ixB rfl rfl rfl rfl (h := ?_); intro _)) | (refine k_load ?_; refine o_loadF rfl rfl rfl rfl ?_) | (refine stb ?_; intro _))
      refine o_loadR rfl rfl rfl rfl ?_
      intro vP0
      have hsm : small 205 ([S, (⟨any.reads.take h0, any.writes.take h1⟩ : Sets), (⟨lk, S.writes⟩ : Sets)][i']'hi1) := by
        have hmem := List.getElem_mem hi1
        simp only [List.mem_cons, List.not_mem_nil, or_false] at hmem
        rcases hmem with h | h | h <;> rw [h]
        · exact ⟨Nat.le_trans gS.1 (by decide), Nat.le_trans gS.2 (by decide)⟩
        · exact ⟨Nat.le_trans lt0 (by decide), Nat.le_trans lt1 (by decide)⟩
        · exact ⟨Nat.le_trans hlk (by decide), Nat.le_trans gS.2 (by decide)⟩
      generalize [S, (⟨any.reads.take h0, any.writes.take h1⟩ : Sets), (⟨lk, S.writes⟩ : Sets)][i']'hi1 = P at hsm ⊢
      refine G.sets vP0 P ?_
      intro rP wP eP
      refine G.slice rP P.reads ?_
      intro aP cP xP zxP
      refine G.slice wP P.writes ?_
      intro bP dP yP zyP
      subst xP yP
      subst eP
      repeat (first | refine stp ?_ | (refine k_indexAddr ?_; first | (refine o_ixA _ rfl rfl rfl rfl rfl (h := ?_); intro _) | (refine o_ixB rfl rfl rfl rfl (h := ?_); intro _)) | (refine k_load ?_; refine o_loadF rfl rfl rfl rfl ?_) | (refine stb ?_; intro _))
      rename_i b27
      refine W.draw 5 [⟨?v0_4, fun _ z => []⟩, ⟨?v1_4, fun _ z => []⟩, ⟨?v2_4, fun _ z => []⟩, ⟨?v3_4, fun _ z => []⟩, ⟨?v4_4, fun _ z => []⟩] [[], [0], [], [2], [1, 3]] [4] (by kernel_rfl) (by kernel_rfl) (by kernel_rfl) (by kernel_rfl) ?loc_4 ?ops_4 ?rest_4
      case ops_4 =>
        simp only [AllQ, Nat.reduceAdd, and_true]
        refine ⟨?_, ?_, ?_, ?_, ?_⟩
        · intro c z0 Φr Lr K hK; dsimp only [dstOf, kval, kfac, ancE,  ancF, getD_z, getD_s, List.getElem?_cons_zero, List.getElem?_cons_succ, List.getElem?_nil, Option.getD_some, Option.getD_none, List.nil_append, List.cons_append, Option.getD] at hK ⊢; (first | refine stp ?_ | refine o_loadF rfl rfl rfl rfl ?_); exact hK z0
        · intro c z0 Φr Lr K hK; dsimp only [dstOf, kval, kfac, ancE,  ancF, getD_z, getD_s, List.getElem?_cons_zero, List.getElem?_cons_succ, List.getElem?_nil, Option.getD_some, Option.getD_none, List.nil_append, List.cons_append, Option.getD] at hK ⊢; refine o_callV rfl rfl rfl rfl (arightS_spec (.agg #[.slice aP P.reads.length cP, .slice bP P.writes.length dP]) P ⟨Nat.le_trans hsm.1 (by decide), Nat.le_trans hsm.2 (by decide)⟩) rfl ?_; exact hK z0
        · intro c z0 Φr Lr K hK; dsimp only [dstOf, kval, kfac, ancE,  ancF, getD_z, getD_s, List.getElem?_cons_zero, List.getElem?_cons_succ, List.getElem?_nil, Option.getD_some, Option.getD_none, List.nil_append, List.cons_append, Option.getD] at hK ⊢; (first | refine stp ?_ | refine o_loadF rfl rfl rfl rfl ?_); exact hK z0
        · intro c z0 Φr Lr K hK; dsimp only [dstOf, kval, kfac, ancE,  ancF, getD_z, getD_s, List.getElem?_cons_zero, List.getElem?_cons_succ, List.getElem?_nil, Option.getD_some, Option.getD_none, List.nil_append, List.cons_append, Option.getD] at hK ⊢; refine o_callV rfl rfl rfl rfl (rightS_spec (.agg #[.slice aP P.reads.length cP, .slice bP P.writes.length dP]) P ⟨Nat.le_trans hsm.1 (by decide), Nat.le_trans hsm.2 (by decide)⟩) rfl ?_; exact hK z0
        · intro c z0 Φr Lr K hK; dsimp only [dstOf, kval, kfac, ancE,  ancF, getD_z, getD_s, List.getElem?_cons_zero, List.getElem?_cons_succ, List.getElem?_nil, Option.getD_some, Option.getD_none, List.nil_append, List.cons_append, Option.getD] at hK ⊢; refine o_neq rfl rfl rfl rfl (r := false) (by simp) ?_; exact hK z0
      case loc_4 =>
        simp only [AllL, Nat.reduceAdd, and_true]
        refine ⟨?_, ?_, ?_, ?_, ?_⟩
        all_goals exact fun _ _ _ _ => ⟨rfl, rfl⟩
      intro c
      dsimp only [dstOf, kval, kfac, ancE,  ancF, getD_z, getD_s, List.getElem?_cons_zero, List.getElem?_cons_succ, List.getElem?_nil, Option.getD_some, Option.getD_none, List.nil_append, List.cons_append, List.drop_succ_cons, List.drop_zero, Option.getD]
      repeat (first | refine stp ?_ | (refine k_indexAddr ?_; first | (refine o_ixA _ rfl rfl rfl rfl rfl (h := ?_); intro _) | (refine o_ixB rfl rfl rfl rfl (h := ?_); intro _)) | (refine k_load ?_; refine o_loadF rfl rfl rfl rfl ?_) | (refine stb ?_; intro _))
      refine o_lit (xs := [x, y]) ⟨by decide, rfl, by decide⟩ rfl rfl rfl ⟨litK, litK, trivial⟩ rfl ?_
      intro lk2
      repeat (first | refine stp ?_ | (refine k_indexAddr ?_; first | (refine o_ixA _ rfl rfl rfl rfl rfl (h := ?_); intro _) | (refine o_ixB rfl rfl rfl rfl (h := ?_); intro _)) | (refine k_load ?_; refine o_loadF rfl rfl rfl rfl ?_) | (refine stb ?_; intro _))
      refine W.loopI (fun (j : Nat) => ([fRp lk2 [x, y], fRp (.agg #[.slice aP P.reads.length cP, .slice bP P.writes.length dP]) P, fRp lv [S, (⟨any.reads.take h0, any.writes.take h1⟩ : Sets), (⟨lk, S.writes⟩ : Sets)], fRp (.agg #[.slice aS S.reads.length cS, .slice bS S.writes.length dS]) S, fRp (.agg #[.slice m0 h0 k0, .slice m1 h1 k1]) (⟨any.reads.take h0, any.writes.take h1⟩ : Sets), fRp (.agg #[.slice aU U.reads.length cU, .slice bU U.writes.length dU]) U], [(7, .pointer (some ⟨b7, 0, none⟩)), (8, .pointer (some ⟨b8, 0, none⟩)), (13, .bool true), (14, .pointer (some ⟨b14, 0, none⟩)), (15, .pointer (some ⟨b15, 0, none⟩)), (16, .pointer (some ⟨b16, 0, none⟩)), (134, lv), (135, .int .i64 3), (136, .int .i64 i'), (27, .pointer (some ⟨b27, 0, none⟩)), (147, lk2), (148, .int .i64 2), (149, .int .i64 j)], [(b27, Ob [.slice aP P.reads.length cP, .slice bP P.writes.length dP] 24), (b16, Ob [.slice aU U.reads.length cU, .slice bU U.writes.length dU] 24), (b14, Ob [.slice aS S.reads.length cS, .slice bS S.writes.length dS] 24), (b8, Ob y.cells 31), (b7, Ob x.cells 31), (b15, Ob [.slice m0 h0 k0, .slice m1 h1 k1] 24)])) (fun j => j ≤ 2) (fun j => 2 - j) 0 (by omega) inferInstance (look_sub_cons rfl (look_sub_cons rfl (look_sub_cons rfl (look_sub_cons rfl (look_sub_cons rfl (look_sub_cons rfl (look_sub_cons rfl (look_sub_cons rfl (look_sub_cons rfl (look_sub_cons rfl (look_sub_cons rfl (look_sub_cons rfl (look_sub_cons rfl look_sub_nil))))))))))))) (by repeat (first | exact List.Sublist.refl _ | exact List.nil_sublist _ | refine List.Sublist.cons_cons _ ?_ | refine List.Sublist.cons _ ?_)) ?_
      intro j hj
      dsimp only
      have hl2 : [x, y].length = 2 := rfl
      by_cases hj2 : j = 2
      · subst hj2
        repeat (first | refine stp ?_ | (refine k_indexAddr ?_; first | (refine o_ixA _ rfl rfl rfl rfl rfl (h := ?_); intro _) | (refine o_ixB rfl rfl rfl rfl (h := ?_); intro _)) | (refine k_load ?_; refine o_loadF rfl rfl rfl rfl ?_) | (refine stb ?_; intro _))
        refine o_lit (xs := [S, (⟨any.reads.take h0, any.writes.take h1⟩ : Sets), U]) ⟨by decide, rfl, by decide⟩ rfl rfl rfl ⟨fun I hp => Ent'.h (φ := fRp (.agg #[.slice aS S.reads.length cS, .slice bS S.writes.length dS]) S) I hp, fun I hp => Ent'.h (φ := fRp (.agg #[.slice m0 h0 k0, .slice m1 h1 k1]) (⟨any.reads.take h0, any.writes.take h1⟩ : Sets)) I hp, fun I hp => Ent'.h (φ := fRp (.agg #[.slice aU U.reads.length cU, .slice bU U.writes.length dU]) U) I hp, trivial⟩ rfl ?_
        intro lv2
        repeat (first | refine stp ?_ | (refine k_indexAddr ?_; first | (refine o_ixA _ rfl rfl rfl rfl rfl (h := ?_); intro _) | (refine o_ixB rfl rfl rfl rfl (h := ?_); intro _)) | (refine k_load ?_; refine o_loadF rfl rfl rfl rfl ?_) | (refine stb ?_; intro _))
        refine W.loopI (fun (j : Nat) => ([fRp lv2 [S, (⟨any.reads.take h0, any.writes.take h1⟩ : Sets), U], fRp (.agg #[.slice aP P.reads.length cP, .slice bP P.writes.length dP]) P, fRp lv [S, (⟨any.reads.take h0, any.writes.take h1⟩ : Sets), (⟨lk, S.writes⟩ : Sets)], fRp (.agg #[.slice aS S.reads.length cS, .slice bS S.writes.length dS]) S, fRp (.agg #[.slice m0 h0 k0, .slice m1 h1 k1]) (⟨any.reads.take h0, any.writes.take h1⟩ : Sets), fRp (.agg #[.slice aU U.reads.length cU, .slice bU U.writes.length dU]) U], [(7, .pointer (some ⟨b7, 0, none⟩)), (8, .pointer (some ⟨b8, 0, none⟩)), (13, .bool true), (14, .pointer (some ⟨b14, 0, none⟩)), (15, .pointer (some ⟨b15, 0, none⟩)), (16, .pointer (some ⟨b16, 0, none⟩)), (134, lv), (135, .int .i64 3), (136, .int .i64 i'), (27, .pointer (some ⟨b27, 0, none⟩)), (173, lv2), (174, .int .i64 3), (175, .int .i64 j)], [(b27, Ob [.slice aP P.reads.length cP, .slice bP P.writes.length dP] 24), (b16, Ob [.slice aU U.reads.length cU, .slice bU U.writes.length dU] 24), (b14, Ob [.slice aS S.reads.length cS, .slice bS S.writes.length dS] 24), (b8, Ob y.cells 31), (b7, Ob x.cells 31), (b15, Ob [.slice m0 h0 k0, .slice m1 h1 k1] 24)])) (fun j => j ≤ 3) (fun j => 3 - j) 0 (by omega) inferInstance (look_sub_cons rfl (look_sub_cons rfl (look_sub_cons rfl (look_sub_cons rfl (look_sub_cons rfl (look_sub_cons rfl (look_sub_cons rfl (look_sub_cons rfl (look_sub_cons rfl (look_sub_cons rfl (look_sub_cons rfl (look_sub_cons rfl (look_sub_cons rfl look_sub_nil))))))))))))) (by repeat (first | exact List.Sublist.refl _ | exact List.nil_sublist _ | refine List.Sublist.cons_cons _ ?_ | refine List.Sublist.cons _ ?_)) ?_
        intro l hl
        dsimp only
        have hl4 : [S, (⟨any.reads.take h0, any.writes.take h1⟩ : Sets), U].length = 3 := rfl
        by_cases hl5 : l = 3
        · subst hl5
          repeat (first | refine stp ?_ | (refine k_indexAddr ?_; first | (refine o_ixA _ rfl rfl rfl rfl rfl (h := ?_); intro _) | (refine o_ixB rfl rfl rfl rfl (h := ?_); intro _)) | (refine k_load ?_; refine o_loadF rfl rfl rfl rfl ?_) | (refine stb ?_; intro _))
          exact G.again (i' + 1) (by omega) (by omega) inferInstance (look_sub_cons rfl (look_sub_cons rfl (look_sub_cons rfl (look_sub_cons rfl (look_sub_cons rfl (look_sub_cons rfl (look_sub_cons rfl (look_sub_cons rfl (look_sub_cons rfl look_sub_nil))))))))) (by repeat (first | exact List.Sublist.refl _ | exact List.nil_sublist _ | refine List.Sublist.cons_cons _ ?_ | refine List.Sublist.cons _ ?_))
        · have hl1 : l < [S, (⟨any.reads.take h0, any.writes.take h1⟩ : Sets), U].length := by omega
          have hl6 : l < 3 := by omega
          repeat (first | refine stp ?_ | (refine k_indexAddr ?_; first | (refine o_ixA _ rfl rfl rfl rfl rfl (h := ?_); intro _) | (refine o_ixB rfl rfl rfl rfl (h := ?_); intro _)) | (refine k_load ?_; refine o_loadF rfl rfl rfl rfl ?_) | (refine stb ?_; intro _))
          refine o_loadR rfl rfl rfl rfl ?_
          intro vQ0
          have hsq : small 205 ([S, (⟨any.reads.take h0, any.writes.take h1⟩ : Sets), U][l]'hl1) := by
            have hmem := List.getElem_mem hl1
            simp only [List.mem_cons, List.not_mem_nil, or_false] at hmem
            rcases hmem with h | h | h <;> rw [h]
            · exact ⟨Nat.le_trans gS.1 (by decide), Nat.le_trans gS.2 (by decide)⟩
            · exact ⟨Nat.le_trans lt0 (by decide), Nat.le_trans lt1 (by decide)⟩
            · exact ⟨Nat.le_trans gU.1 (by decide), Nat.le_trans gU.2 (by decide)⟩
          generalize [S, (⟨any.reads.take h0, any.writes.take h1⟩ : Sets), U][l]'hl1 = Q at hsq ⊢
          refine G.sets vQ0 Q ?_
          intro rQ wQ eQ
          refine G.slice rQ Q.reads ?_
          intro aQ cQ xQ zxQ
          refine G.slice wQ Q.writes ?_
          intro bQ dQ yQ zyQ
          subst xQ yQ
          subst eQ
          have hsj : small 205 (joinS P Q).1 := joinS_le P Q
          repeat (first | refine stp ?_ | (refine k_indexAddr ?_; first | (refine o_ixA _ rfl rfl rfl rfl rfl (h := ?_); intro _) | (refine o_ixB rfl rfl rfl rfl (h := ?_); intro _)) | (refine k_load ?_; refine o_loadF rfl rfl rfl rfl ?_) | (refine stb ?_; intro _))
          refine o_callT rfl rfl rfl rfl (ajoin_spec (.agg #[.slice aP P.reads.length cP, .slice bP P.writes.length dP]) (.agg #[.slice aQ Q.reads.length cQ, .slice bQ Q.writes.length dQ]) P Q ⟨Nat.le_trans hsm.1 (by decide), Nat.le_trans hsm.2 (by decide)⟩ ⟨Nat.le_trans hsq.1 (by decide), Nat.le_trans hsq.2 (by decide)⟩) ?_
          intro vJ0
          refine G.sets vJ0 (joinS P Q).1 ?_
          intro rJ wJ eJ
          refine G.slice rJ (joinS P Q).1.reads ?_
          intro aJ cJ xJ zxJ
          refine G.slice wJ (joinS P Q).1.writes ?_
          intro bJ dJ yJ zyJ
          subst xJ yJ
          subst eJ
          repeat (first | refine stp ?_ | (refine k_indexAddr ?_; first | (refine o_ixA _ rfl rfl rfl rfl rfl (h := ?_); intro _) | (refine o_ixB rfl rfl rfl rfl (h := ?_); intro _)) | (refine k_load ?_; refine o_loadF rfl rfl rfl rfl ?_) | (refine stb ?_; intro _))
          refine o_callT rfl rfl rfl rfl (join_spec (.agg #[.slice aP P.reads.length cP, .slice bP P.writes.length dP]) (.agg #[.slice aQ Q.reads.length cQ, .slice bQ Q.writes.length dQ]) P Q ⟨Nat.le_trans hsm.1 (by decide), Nat.le_trans hsm.2 (by decide)⟩ ⟨Nat.le_trans hsq.1 (by decide), Nat.le_trans hsq.2 (by decide)⟩) ?_
          intro vK0
          refine G.sets vK0 (joinS P Q).1 ?_
          intro rK wK eK
          refine G.slice rK (joinS P Q).1.reads ?_
          intro aK cK xK zxK
          refine G.slice wK (joinS P Q).1.writes ?_
          intro bK dK yK zyK
          subst xK yK
          subst eK
          repeat (first | refine stp ?_ | (refine k_indexAddr ?_; first | (refine o_ixA _ rfl rfl rfl rfl rfl (h := ?_); intro _) | (refine o_ixB rfl rfl rfl rfl (h := ?_); intro _)) | (refine k_load ?_; refine o_loadF rfl rfl rfl rfl ?_) | (refine stb ?_; intro _))
          refine W.draw 18 [⟨?v0_5, fun _ z => []⟩, ⟨?v1_5, fun _ z => []⟩, ⟨?v2_5, fun _ z => []⟩, ⟨?v3_5, fun _ z => []⟩, ⟨?v4_5, fun _ z => []⟩, ⟨?v5_5, fun _ z => []⟩, ⟨?v6_5, fun _ z => []⟩, ⟨?v7_5, fun _ z => []⟩, ⟨?v8_5, fun _ z => []⟩, ⟨?v9_5, fun _ z => []⟩, ⟨?v10_5, fun _ z => []⟩, ⟨?v11_5, fun _ z => []⟩, ⟨?v12_5, fun _ z => []⟩, ⟨?v13_5, fun _ z => []⟩, ⟨?v14_5, fun _ z => []⟩, ⟨?v15_5, fun _ z => []⟩, ⟨?v16_5, fun _ z => []⟩, ⟨?v17_5, fun _ z => []⟩] [[], [], [0, 1], [], [], [3, 4], [2, 5], [6], [7], [7], [7, 8, 9], [7, 10], [7, 11], [12], [13], [13], [13, 14, 15], [13, 16]] [17] (by kernel_rfl) (by kernel_rfl) (by kernel_rfl) (by kernel_rfl) ?loc_5 ?ops_5 ?rest_5
          case ops_5 =>
            simp only [AllQ, Nat.reduceAdd, and_true]
            refine ⟨?_, ?_, ?_, ?_, ?_, ?_, ?_, ?_, ?_, ?_, ?_, ?_, ?_, ?_, ?_, ?_, ?_, ?_⟩
            · intro c z0 Φr Lr K hK; dsimp only [dstOf, kval, kfac, ancE,  ancF, getD_z, getD_s, List.getElem?_cons_zero, List.getElem?_cons_succ, List.getElem?_nil, Option.getD_some, Option.getD_none, List.nil_append, List.cons_append, Option.getD] at hK ⊢; (first | refine stp ?_ | refine o_loadF rfl rfl rfl rfl ?_); exact hK z0
            · intro c z0 Φr Lr K hK; dsimp only [dstOf, kval, kfac, ancE,  ancF, getD_z, getD_s, List.getElem?_cons_zero, List.getElem?_cons_succ, List.getElem?_nil, Option.getD_some, Option.getD_none, List.nil_append, List.cons_append, Option.getD] at hK ⊢; (first | refine stp ?_ | refine o_loadF rfl rfl rfl rfl ?_); exact hK z0
            · intro c z0 Φr Lr K hK; dsimp only [dstOf, kval, kfac, ancE,  ancF, getD_z, getD_s, List.getElem?_cons_zero, List.getElem?_cons_succ, List.getElem?_nil, Option.getD_some, Option.getD_none, List.nil_append, List.cons_append, Option.getD] at hK ⊢; refine o_callV rfl rfl rfl rfl (aclash_spec (.agg #[.slice aP P.reads.length cP, .slice bP P.writes.length dP]) (.agg #[.slice aQ Q.reads.length cQ, .slice bQ Q.writes.length dQ]) P Q ⟨Nat.le_trans hsm.1 (by decide), Nat.le_trans hsm.2 (by decide)⟩ ⟨Nat.le_trans hsq.1 (by decide), Nat.le_trans hsq.2 (by decide)⟩) rfl ?_; exact hK z0
            · intro c z0 Φr Lr K hK; dsimp only [dstOf, kval, kfac, ancE,  ancF, getD_z, getD_s, List.getElem?_cons_zero, List.getElem?_cons_succ, List.getElem?_nil, Option.getD_some, Option.getD_none, List.nil_append, List.cons_append, Option.getD] at hK ⊢; (first | refine stp ?_ | refine o_loadF rfl rfl rfl rfl ?_); exact hK z0
            · intro c z0 Φr Lr K hK; dsimp only [dstOf, kval, kfac, ancE,  ancF, getD_z, getD_s, List.getElem?_cons_zero, List.getElem?_cons_succ, List.getElem?_nil, Option.getD_some, Option.getD_none, List.nil_append, List.cons_append, Option.getD] at hK ⊢; (first | refine stp ?_ | refine o_loadF rfl rfl rfl rfl ?_); exact hK z0
            · intro c z0 Φr Lr K hK; dsimp only [dstOf, kval, kfac, ancE,  ancF, getD_z, getD_s, List.getElem?_cons_zero, List.getElem?_cons_succ, List.getElem?_nil, Option.getD_some, Option.getD_none, List.nil_append, List.cons_append, Option.getD] at hK ⊢; refine o_callV rfl rfl rfl rfl (clashS_spec (.agg #[.slice aP P.reads.length cP, .slice bP P.writes.length dP]) (.agg #[.slice aQ Q.reads.length cQ, .slice bQ Q.writes.length dQ]) P Q ⟨Nat.le_trans hsm.1 (by decide), Nat.le_trans hsm.2 (by decide)⟩ ⟨Nat.le_trans hsq.1 (by decide), Nat.le_trans hsq.2 (by decide)⟩) rfl ?_; exact hK z0
            · intro c z0 Φr Lr K hK; dsimp only [dstOf, kval, kfac, ancE,  ancF, getD_z, getD_s, List.getElem?_cons_zero, List.getElem?_cons_succ, List.getElem?_nil, Option.getD_some, Option.getD_none, List.nil_append, List.cons_append, Option.getD] at hK ⊢; refine o_neq rfl rfl rfl rfl (r := false) (by simp) ?_; exact hK z0
            · intro c z0 Φr Lr K hK; dsimp only [dstOf, kval, kfac, ancE,  ancF, getD_z, getD_s, List.getElem?_cons_zero, List.getElem?_cons_succ, List.getElem?_nil, Option.getD_some, Option.getD_none, List.nil_append, List.cons_append, Option.getD] at hK ⊢; refine stp ?_; exact hK z0
            · intro c z0 Φr Lr K hK; dsimp only [dstOf, kval, kfac, ancE,  ancF, getD_z, getD_s, List.getElem?_cons_zero, List.getElem?_cons_succ, List.getElem?_nil, Option.getD_some, Option.getD_none, List.nil_append, List.cons_append, Option.getD] at hK ⊢; (first | refine stp ?_ | refine o_loadF rfl rfl rfl rfl ?_); exact hK z0
            · intro c z0 Φr Lr K hK; dsimp only [dstOf, kval, kfac, ancE,  ancF, getD_z, getD_s, List.getElem?_cons_zero, List.getElem?_cons_succ, List.getElem?_nil, Option.getD_some, Option.getD_none, List.nil_append, List.cons_append, Option.getD] at hK ⊢; (first | refine stp ?_ | refine o_loadF rfl rfl rfl rfl ?_); exact hK z0
            · intro c z0 Φr Lr K hK; dsimp only [dstOf, kval, kfac, ancE,  ancF, getD_z, getD_s, List.getElem?_cons_zero, List.getElem?_cons_succ, List.getElem?_nil, Option.getD_some, Option.getD_none, List.nil_append, List.cons_append, Option.getD] at hK ⊢; refine o_callV rfl rfl rfl rfl (same2_spec (.agg #[.slice aJ (joinS P Q).1.reads.length cJ, .slice bJ (joinS P Q).1.writes.length dJ]) (.agg #[.slice aK (joinS P Q).1.reads.length cK, .slice bK (joinS P Q).1.writes.length dK]) (joinS P Q).1 (joinS P Q).1 ⟨Nat.le_trans hsj.1 (by decide), Nat.le_trans hsj.2 (by decide)⟩ ⟨Nat.le_trans hsj.1 (by decide), Nat.le_trans hsj.2 (by decide)⟩) (congrArg Value.bool (decide_eq_true ⟨rfl, rfl⟩)) ?_; exact hK z0
            · intro c z0 Φr Lr K hK; dsimp only [dstOf, kval, kfac, ancE,  ancF, getD_z, getD_s, List.getElem?_cons_zero, List.getElem?_cons_succ, List.getElem?_nil, Option.getD_some, Option.getD_none, List.nil_append, List.cons_append, Option.getD] at hK ⊢; refine stp ?_; exact hK z0
            · intro c z0 Φr Lr K hK; dsimp only [dstOf, kval, kfac, ancE,  ancF, getD_z, getD_s, List.getElem?_cons_zero, List.getElem?_cons_succ, List.getElem?_nil, Option.getD_some, Option.getD_none, List.nil_append, List.cons_append, Option.getD] at hK ⊢; refine stp ?_; exact hK z0
            · intro c z0 Φr Lr K hK; dsimp only [dstOf, kval, kfac, ancE,  ancF, getD_z, getD_s, List.getElem?_cons_zero, List.getElem?_cons_succ, List.getElem?_nil, Option.getD_some, Option.getD_none, List.nil_append, List.cons_append, Option.getD] at hK ⊢; refine stp ?_; exact hK z0
            · intro c z0 Φr Lr K hK; dsimp only [dstOf, kval, kfac, ancE,  ancF, getD_z, getD_s, List.getElem?_cons_zero, List.getElem?_cons_succ, List.getElem?_nil, Option.getD_some, Option.getD_none, List.nil_append, List.cons_append, Option.getD] at hK ⊢; refine stp ?_; exact hK z0
            · intro c z0 Φr Lr K hK; dsimp only [dstOf, kval, kfac, ancE,  ancF, getD_z, getD_s, List.getElem?_cons_zero, List.getElem?_cons_succ, List.getElem?_nil, Option.getD_some, Option.getD_none, List.nil_append, List.cons_append, Option.getD] at hK ⊢; refine stp ?_; exact hK z0
            · intro c z0 Φr Lr K hK; dsimp only [dstOf, kval, kfac, ancE,  ancF, getD_z, getD_s, List.getElem?_cons_zero, List.getElem?_cons_succ, List.getElem?_nil, Option.getD_some, Option.getD_none, List.nil_append, List.cons_append, Option.getD] at hK ⊢; refine stp ?_; exact hK z0
            · intro c z0 Φr Lr K hK; dsimp only [dstOf, kval, kfac, ancE,  ancF, getD_z, getD_s, List.getElem?_cons_zero, List.getElem?_cons_succ, List.getElem?_nil, Option.getD_some, Option.getD_none, List.nil_append, List.cons_append, Option.getD] at hK ⊢; refine stp ?_; exact hK z0
          case loc_5 =>
            simp only [AllL, Nat.reduceAdd, and_true]
            refine ⟨?_, ?_, ?_, ?_, ?_, ?_, ?_, ?_, ?_, ?_, ?_, ?_, ?_, ?_, ?_, ?_, ?_, ?_⟩
            all_goals exact fun _ _ _ _ => ⟨rfl, rfl⟩
          intro c
          dsimp only [dstOf, kval, kfac, ancE,  ancF, getD_z, getD_s, List.getElem?_cons_zero, List.getElem?_cons_succ, List.getElem?_nil, Option.getD_some, Option.getD_none, List.nil_append, List.cons_append, List.drop_succ_cons, List.drop_zero, Option.getD]
          repeat (first | refine stp ?_ | (refine k_indexAddr ?_; first | (refine o_ixA _ rfl rfl rfl rfl rfl (h := ?_); intro _) | (refine o_ixB rfl rfl rfl rfl (h := ?_); intro _)) | (refine k_load ?_; refine o_loadF rfl rfl rfl rfl ?_) | (refine stb ?_; intro _))
          exact G.again (l + 1) (by omega) (by omega) inferInstance (look_sub_cons rfl (look_sub_cons rfl (look_sub_cons rfl (look_sub_cons rfl (look_sub_cons rfl (look_sub_cons rfl (look_sub_cons rfl (look_sub_cons rfl (look_sub_cons rfl (look_sub_cons rfl (look_sub_cons rfl (look_sub_cons rfl (look_sub_cons rfl look_sub_nil))))))))))))) (by repeat (first | exact List.Sublist.refl _ | exact List.nil_sublist _ | refine List.Sublist.cons_cons _ ?_ | refine List.Sublist.cons _ ?_))
      · have hj1 : j < [x, y].length := by omega
        have hj3 : j < 2 := by omega
        repeat (first | refine stp ?_ | (refine k_indexAddr ?_; first | (refine o_ixA _ rfl rfl rfl rfl rfl (h := ?_); intro _) | (refine o_ixB rfl rfl rfl rfl (h := ?_); intro _)) | (refine k_load ?_; refine o_loadF rfl rfl rfl rfl ?_) | (refine stb ?_; intro _))
        generalize [x, y][j]'hj1 = kk
        refine o_store (vs := kk.cells) (cs' := kk.cells) rfl rfl rfl rfl (Key.cells_length _) (Nat.le_of_ble_eq_true rfl) (Key.cells_one _) (by show [] ++ kk.cells ++ [] = _; simp) ?_
        repeat (first | refine stp ?_ | (refine k_indexAddr ?_; first | (refine o_ixA _ rfl rfl rfl rfl rfl (h := ?_); intro _) | (refine o_ixB rfl rfl rfl rfl (h := ?_); intro _)) | (refine k_load ?_; refine o_loadF rfl rfl rfl rfl ?_) | (refine stb ?_; intro _))
        refine W.draw 16 [⟨?v0_6, fun _ z => []⟩, ⟨?v1_6, fun _ z => []⟩, ⟨?v2_6, fun _ z => []⟩, ⟨?v3_6, fun _ z => []⟩, ⟨?v4_6, fun _ z => []⟩, ⟨?v5_6, fun _ z => []⟩, ⟨?v6_6, fun _ z => []⟩, ⟨?v7_6, fun _ z => []⟩, ⟨?v8_6, fun _ z => []⟩, ⟨?v9_6, fun _ z => []⟩, ⟨?v10_6, fun _ z => []⟩, ⟨?v11_6, fun _ z => []⟩, ⟨?v12_6, fun _ z => []⟩, ⟨?v13_6, fun _ z => []⟩, ⟨?v14_6, fun _ z => []⟩, ⟨?v15_6, fun _ z => []⟩] [[], [], [0, 1], [], [], [3, 4], [2, 5], [6], [7], [7], [7, 8, 9], [7], [7], [7, 11, 12], [7, 10, 13], [7, 14]] [15] (by kernel_rfl) (by kernel_rfl) (by kernel_rfl) (by kernel_rfl) ?loc_6 ?ops_6 ?rest_6
        case ops_6 =>
          simp only [AllQ, Nat.reduceAdd, and_true]
          refine ⟨?_, ?_, ?_, ?_, ?_, ?_, ?_, ?_, ?_, ?_, ?_, ?_, ?_, ?_, ?_, ?_⟩
          · intro c z0 Φr Lr K hK; dsimp only [dstOf, kval, kfac, ancE,  ancF, getD_z, getD_s, List.getElem?_cons_zero, List.getElem?_cons_succ, List.getElem?_nil, Option.getD_some, Option.getD_none, List.nil_append, List.cons_append, Option.getD] at hK ⊢; (first | refine stp ?_ | refine o_loadF rfl rfl rfl rfl ?_); exact hK z0
          · intro c z0 Φr Lr K hK; dsimp only [dstOf, kval, kfac, ancE,  ancF, getD_z, getD_s, List.getElem?_cons_zero, List.getElem?_cons_succ, List.getElem?_nil, Option.getD_some, Option.getD_none, List.nil_append, List.cons_append, Option.getD] at hK ⊢; (first | refine stp ?_ | refine o_loadF rfl rfl rfl rfl ?_); exact hK z0
          · intro c z0 Φr Lr K hK; dsimp only [dstOf, kval, kfac, ancE,  ancF, getD_z, getD_s, List.getElem?_cons_zero, List.getElem?_cons_succ, List.getElem?_nil, Option.getD_some, Option.getD_none, List.nil_append, List.cons_append, Option.getD] at hK ⊢; (first | refine OpK.pass rfl rfl rfl ?_ | refine o_callV rfl rfl rfl rfl (amay_spec (.agg #[.slice aP P.reads.length cP, .slice bP P.writes.length dP]) P kk true ⟨Nat.le_trans hsm.1 (by decide), Nat.le_trans hsm.2 (by decide)⟩) rfl ?_); exact hK z0
          · intro c z0 Φr Lr K hK; dsimp only [dstOf, kval, kfac, ancE,  ancF, getD_z, getD_s, List.getElem?_cons_zero, List.getElem?_cons_succ, List.getElem?_nil, Option.getD_some, Option.getD_none, List.nil_append, List.cons_append, Option.getD] at hK ⊢; (first | refine stp ?_ | refine o_loadF rfl rfl rfl rfl ?_); exact hK z0
          · intro c z0 Φr Lr K hK; dsimp only [dstOf, kval, kfac, ancE,  ancF, getD_z, getD_s, List.getElem?_cons_zero, List.getElem?_cons_succ, List.getElem?_nil, Option.getD_some, Option.getD_none, List.nil_append, List.cons_append, Option.getD] at hK ⊢; (first | refine stp ?_ | refine o_loadF rfl rfl rfl rfl ?_); exact hK z0
          · intro c z0 Φr Lr K hK; dsimp only [dstOf, kval, kfac, ancE,  ancF, getD_z, getD_s, List.getElem?_cons_zero, List.getElem?_cons_succ, List.getElem?_nil, Option.getD_some, Option.getD_none, List.nil_append, List.cons_append, Option.getD] at hK ⊢; (first | refine OpK.pass rfl rfl rfl ?_ | refine o_callV rfl rfl rfl rfl (mayS_spec (.agg #[.slice aP P.reads.length cP, .slice bP P.writes.length dP]) P kk true ⟨Nat.le_trans hsm.1 (by decide), Nat.le_trans hsm.2 (by decide)⟩) rfl ?_); exact hK z0
          · intro c z0 Φr Lr K hK; dsimp only [dstOf, kval, kfac, ancE,  ancF, getD_z, getD_s, List.getElem?_cons_zero, List.getElem?_cons_succ, List.getElem?_nil, Option.getD_some, Option.getD_none, List.nil_append, List.cons_append, Option.getD] at hK ⊢; refine o_neq rfl rfl rfl rfl (r := false) (by simp) ?_; exact hK z0
          · intro c z0 Φr Lr K hK; dsimp only [dstOf, kval, kfac, ancE,  ancF, getD_z, getD_s, List.getElem?_cons_zero, List.getElem?_cons_succ, List.getElem?_nil, Option.getD_some, Option.getD_none, List.nil_append, List.cons_append, Option.getD] at hK ⊢; refine stp ?_; exact hK z0
          · intro c z0 Φr Lr K hK; dsimp only [dstOf, kval, kfac, ancE,  ancF, getD_z, getD_s, List.getElem?_cons_zero, List.getElem?_cons_succ, List.getElem?_nil, Option.getD_some, Option.getD_none, List.nil_append, List.cons_append, Option.getD] at hK ⊢; (first | refine stp ?_ | refine o_loadF rfl rfl rfl rfl ?_); exact hK z0
          · intro c z0 Φr Lr K hK; dsimp only [dstOf, kval, kfac, ancE,  ancF, getD_z, getD_s, List.getElem?_cons_zero, List.getElem?_cons_succ, List.getElem?_nil, Option.getD_some, Option.getD_none, List.nil_append, List.cons_append, Option.getD] at hK ⊢; (first | refine stp ?_ | refine o_loadF rfl rfl rfl rfl ?_); exact hK z0
          · intro c z0 Φr Lr K hK; dsimp only [dstOf, kval, kfac, ancE,  ancF, getD_z, getD_s, List.getElem?_cons_zero, List.getElem?_cons_succ, List.getElem?_nil, Option.getD_some, Option.getD_none, List.nil_append, List.cons_append, Option.getD] at hK ⊢; (first | refine OpK.pass rfl rfl rfl ?_ | refine o_callV rfl rfl rfl rfl (amay_spec (.agg #[.slice aP P.reads.length cP, .slice bP P.writes.length dP]) P kk false ⟨Nat.le_trans hsm.1 (by decide), Nat.le_trans hsm.2 (by decide)⟩) rfl ?_); exact hK z0
          · intro c z0 Φr Lr K hK; dsimp only [dstOf, kval, kfac, ancE,  ancF, getD_z, getD_s, List.getElem?_cons_zero, List.getElem?_cons_succ, List.getElem?_nil, Option.getD_some, Option.getD_none, List.nil_append, List.cons_append, Option.getD] at hK ⊢; (first | refine stp ?_ | refine o_loadF rfl rfl rfl rfl ?_); exact hK z0
          · intro c z0 Φr Lr K hK; dsimp only [dstOf, kval, kfac, ancE,  ancF, getD_z, getD_s, List.getElem?_cons_zero, List.getElem?_cons_succ, List.getElem?_nil, Option.getD_some, Option.getD_none, List.nil_append, List.cons_append, Option.getD] at hK ⊢; (first | refine stp ?_ | refine o_loadF rfl rfl rfl rfl ?_); exact hK z0
          · intro c z0 Φr Lr K hK; dsimp only [dstOf, kval, kfac, ancE,  ancF, getD_z, getD_s, List.getElem?_cons_zero, List.getElem?_cons_succ, List.getElem?_nil, Option.getD_some, Option.getD_none, List.nil_append, List.cons_append, Option.getD] at hK ⊢; (first | refine OpK.pass rfl rfl rfl ?_ | refine o_callV rfl rfl rfl rfl (mayS_spec (.agg #[.slice aP P.reads.length cP, .slice bP P.writes.length dP]) P kk false ⟨Nat.le_trans hsm.1 (by decide), Nat.le_trans hsm.2 (by decide)⟩) rfl ?_); exact hK z0
          · intro c z0 Φr Lr K hK; dsimp only [dstOf, kval, kfac, ancE,  ancF, getD_z, getD_s, List.getElem?_cons_zero, List.getElem?_cons_succ, List.getElem?_nil, Option.getD_some, Option.getD_none, List.nil_append, List.cons_append, Option.getD] at hK ⊢; refine o_neq rfl rfl rfl rfl (r := false) (by simp) ?_; exact hK z0
          · intro c z0 Φr Lr K hK; dsimp only [dstOf, kval, kfac, ancE,  ancF, getD_z, getD_s, List.getElem?_cons_zero, List.getElem?_cons_succ, List.getElem?_nil, Option.getD_some, Option.getD_none, List.nil_append, List.cons_append, Option.getD] at hK ⊢; refine stp ?_; exact hK z0
        case loc_6 =>
          simp only [AllL, Nat.reduceAdd, and_true]
          refine ⟨?_, ?_, ?_, ?_, ?_, ?_, ?_, ?_, ?_, ?_, ?_, ?_, ?_, ?_, ?_, ?_⟩
          all_goals exact fun _ _ _ _ => ⟨rfl, rfl⟩
        intro c
        dsimp only [dstOf, kval, kfac, ancE,  ancF, getD_z, getD_s, List.getElem?_cons_zero, List.getElem?_cons_succ, List.getElem?_nil, Option.getD_some, Option.getD_none, List.nil_append, List.cons_append, List.drop_succ_cons, List.drop_zero, Option.getD]
        repeat (first | refine stp ?_ | (refine k_indexAddr ?_; first | (refine o_ixA _ rfl rfl rfl rfl rfl (h := ?_); intro _) | (refine o_ixB rfl rfl rfl rfl (h := ?_); intro _)) | (refine k_load ?_; refine o_loadF rfl rfl rfl rfl ?_) | (refine stb ?_; intro _))
        exact G.again (j + 1) (by omega) (by omega) inferInstance (look_sub_cons rfl (look_sub_cons rfl (look_sub_cons rfl (look_sub_cons rfl (look_sub_cons rfl (look_sub_cons rfl (look_sub_cons rfl (look_sub_cons rfl (look_sub_cons rfl (look_sub_cons rfl (look_sub_cons rfl (look_sub_cons rfl (look_sub_cons rfl look_sub_nil))))))))))))) (by repeat (first | exact List.Sublist.refl _ | exact List.nil_sublist _ | refine List.Sublist.cons_cons _ ?_ | refine List.Sublist.cons _ ?_))
  · repeat (first | refine stp ?_ | (refine k_indexAddr ?_; first | (refine o_ixA _ rfl rfl rfl rfl rfl (h := ?_); intro _) | (refine o_ixB rfl rfl rfl rfl (h := ?_); intro _)) | (refine k_load ?_; refine o_loadF rfl rfl rfl rfl ?_) | (refine stb ?_; intro _))
    refine o_callV rfl rfl rfl rfl (pick10_spec many 10 om.1 (by omega)) (congrArg (Value.int .i64) hnn) ?_
    repeat (first | refine stp ?_ | (refine k_indexAddr ?_; first | (refine o_ixA _ rfl rfl rfl rfl rfl (h := ?_); intro _) | (refine o_ixB rfl rfl rfl rfl (h := ?_); intro _)) | (refine k_load ?_; refine o_loadF rfl rfl rfl rfl ?_) | (refine stb ?_; intro _))
    refine o_callV rfl rfl rfl rfl (of_spec i) rfl ?_
    repeat (first | refine stp ?_ | (refine k_indexAddr ?_; first | (refine o_ixA _ rfl rfl rfl rfl rfl (h := ?_); intro _) | (refine o_ixB rfl rfl rfl rfl (h := ?_); intro _)) | (refine k_load ?_; refine o_loadF rfl rfl rfl rfl ?_) | (refine stb ?_; intro _))
    show OpK _ _ _ _ _ ((67, (⟨Addr20.zero, true, Word.of (i : Nat)⟩ : Key).v) :: _) _ _
    refine o_lit (xs := [(⟨Addr20.zero, true, Word.of (i : Nat)⟩ : Key)]) ⟨by decide, rfl, by decide⟩ rfl rfl rfl ⟨litK, trivial⟩ rfl ?_
    intro lv
    repeat (first | refine stp ?_ | (refine k_indexAddr ?_; first | (refine o_ixA _ rfl rfl rfl rfl rfl (h := ?_); intro _) | (refine o_ixB rfl rfl rfl rfl (h := ?_); intro _)) | (refine k_load ?_; refine o_loadF rfl rfl rfl rfl ?_) | (refine stb ?_; intro _))
    refine o_app2 (Mr := [_, _, _, _, _]) ow (xs := longK i) (ys := [(⟨Addr20.zero, true, Word.of (i : Nat)⟩ : Key)]) hown ⟨by simp; omega, by simp; omega, rfl⟩ rfl rfl rfl rfl inferInstance inferInstance (List.Perm.refl _) ?_
    intro v' o' h'
    rw [← longK_succ] at h' ⊢
    repeat (first | refine stp ?_ | (refine k_indexAddr ?_; first | (refine o_ixA _ rfl rfl rfl rfl rfl (h := ?_); intro _) | (refine o_ixB rfl rfl rfl rfl (h := ?_); intro _)) | (refine k_load ?_; refine o_loadF rfl rfl rfl rfl ?_) | (refine stb ?_; intro _))
    exact G.again (S := TlSt) ⟨i + 1, v', o'⟩ (by dsimp only; omega) ⟨by dsimp only; omega, h'⟩ inferInstance (look_sub_cons rfl (look_sub_cons rfl (look_sub_cons rfl (look_sub_cons rfl (look_sub_cons rfl (look_sub_cons rfl (look_sub_cons rfl (look_sub_cons rfl (look_sub_cons rfl (look_sub_cons rfl (look_sub_cons rfl look_sub_nil))))))))))) (List.Sublist.refl _)
end Go.Rail
