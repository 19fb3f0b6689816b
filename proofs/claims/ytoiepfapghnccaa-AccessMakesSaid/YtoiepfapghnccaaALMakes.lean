/- Keys may be told in any order, and more than once: the walk. -/
import Derived.Test.YtoiepfapghnccaaALRaw
import Derived.Test.YtoiepfapghnccaaRailCut
namespace Go.Rail
open Go Go.Proofs
set_option linter.unusedSimpArgs false
set_option linter.unusedVariables false
set_option maxHeartbeats 400000
set_option maxRecDepth 4000
attribute [local irreducible] OpK G W LW wpListIn Exit.then Exit.inBlock Post rounds opRun bodyPostM intOp

attribute [local irreducible] lexN cmpW cmpA cmpK cmpI makeS setK joinS clashS mayS rightS J setsOf keysOf

theorem keysOf_some (a : List (Int × Int)) : ∃ R, keysOf a = R ∧ R.length ≤ 15 ∧ ∀ k ∈ R, mayK k = true := ⟨_, rfl, keysOf_length a, keysOf_may a⟩
theorem make_eq {R V : List Key} (hR : R.length ≤ 200 ∧ ∀ k ∈ R, mayK k = true) (hV : V.length ≤ 200 ∧ ∀ k ∈ V, mayK k = true) : makeS R V = (⟨setK R, setK V⟩, 0) := by
  rw [makeS_eq, if_neg (fun h => h ⟨hR.2, hV.2⟩), if_pos (right_setK hR.2 hV.2 hR.1 hV.1)]
theorem makes_walk (m0 m1 : Option Addr) (k0 k1 : Nat) (q0 q1 : List (Int × Int)) (o0 : okRaw q0) (o1 : okRaw q1) (at_ : Int) (oat : -9223372036854775808 ≤ at_ ∧ at_ ≤ 9223372036854775807) (pk : Int × Int) (opk : In64 pk) :
    FnV Try.prog 7 [.slice m0 q0.length k0, .slice m1 q1.length k1, .int .i64 at_, .agg #[.int .i64 pk.1, .int .i64 pk.2]] [fRp (.slice m0 q0.length k0) q0, fRp (.slice m1 q1.length k1) q1] (.bool true) := by
  obtain ⟨R, hR, lR, mR⟩ := keysOf_some q0
  obtain ⟨V, hV, lV, mV⟩ := keysOf_some q1
  have kR := keys_spec (.slice m0 q0.length k0) q0 (okRaw_len o0) (okRaw_in o0)
  have kV := keys_spec (.slice m1 q1.length k1) q1 (okRaw_len o1) (okRaw_in o1)
  rw [hR] at kR
  rw [hV] at kV
  have hpk := pickI_nn at_ (R.length + 1) (by omega)
  obtain ⟨kk, hkk⟩ : ∃ kk : Nat, pickI at_ (R.length + 1) = kk := ⟨(pickI at_ (R.length + 1)).toNat, by omega⟩
  have hk1 : kk ≤ R.length := by omega
  have lsR := setK_length R
  have lsV := setK_length V
  generalize hx : Key.of pk.1 pk.2 = x
  have ks := key_spec pk.1 pk.2 opk.1.1 opk.2.1
  rw [hx] at ks
  refine Fn.enter Try.func7 rfl Try.ntmps7 (by simp) (fun I0 w0 => ?_)
  repeat (first | refine stp ?_ | (refine k_indexAddr ?_; first | (refine o_ixA _ rfl rfl rfl rfl rfl (h := ?_); intro _) | (refine o_ixB rfl rfl rfl rfl (h := ?_); intro _)) | (refine k_load ?_; refine o_loadF rfl rfl rfl rfl ?_) | (refine stb ?_; intro _))
  refine o_callV rfl rfl rfl rfl awake_spec rfl ?_
  repeat (first | refine stp ?_ | (refine k_indexAddr ?_; first | (refine o_ixA _ rfl rfl rfl rfl rfl (h := ?_); intro _) | (refine o_ixB rfl rfl rfl rfl (h := ?_); intro _)) | (refine k_load ?_; refine o_loadF rfl rfl rfl rfl ?_) | (refine stb ?_; intro _))
  refine o_callD rfl rfl rfl rfl kR ?_
  intro vR
  refine G.slice vR R ?_
  intro aR cR eR zR
  subst eR
  repeat (first | refine stp ?_ | (refine k_indexAddr ?_; first | (refine o_ixA _ rfl rfl rfl rfl rfl (h := ?_); intro _) | (refine o_ixB rfl rfl rfl rfl (h := ?_); intro _)) | (refine k_load ?_; refine o_loadF rfl rfl rfl rfl ?_) | (refine stb ?_; intro _))
  refine o_callD rfl rfl rfl rfl kV ?_
  intro vV
  refine G.slice vV V ?_
  intro aV cV eV zV
  subst eV
  repeat (first | refine stp ?_ | (refine k_indexAddr ?_; first | (refine o_ixA _ rfl rfl rfl rfl rfl (h := ?_); intro _) | (refine o_ixB rfl rfl rfl rfl (h := ?_); intro _)) | (refine k_load ?_; refine o_loadF rfl rfl rfl rfl ?_) | (refine stb ?_; intro _))
  refine o_callV rfl rfl rfl rfl (pick10_spec at_ (R.length + 1) oat.1 (by omega)) (congrArg (Value.int .i64) hkk) ?_
  repeat (first | refine stp ?_ | (refine k_indexAddr ?_; first | (refine o_ixA _ rfl rfl rfl rfl rfl (h := ?_); intro _) | (refine o_ixB rfl rfl rfl rfl (h := ?_); intro _)) | (refine k_load ?_; refine o_loadF rfl rfl rfl rfl ?_) | (refine stb ?_; intro _))
  have s1 := amake_spec (.slice aR R.length cR) (.slice aV V.length cV) R V (by omega) (by omega)
  rw [make_eq ⟨by omega, mR⟩ ⟨by omega, mV⟩] at s1
  refine o_callT rfl rfl rfl rfl s1 ?_
  intro sa
  refine G.sets sa ⟨setK R, setK V⟩ ?_
  intro r1 w1 e1
  refine G.slice r1 (setK R) ?_
  intro a1 c1 x1 zx1
  refine G.slice w1 (setK V) ?_
  intro b1 d1 y1 zy1
  subst x1 y1
  subst e1
  repeat (first | refine stp ?_ | (refine k_indexAddr ?_; first | (refine o_ixA _ rfl rfl rfl rfl rfl (h := ?_); intro _) | (refine o_ixB rfl rfl rfl rfl (h := ?_); intro _)) | (refine k_load ?_; refine o_loadF rfl rfl rfl rfl ?_) | (refine stb ?_; intro _))
  have eR : (R.take R.length).drop kk = R.drop kk := by rw [List.take_length]
  refine o_slice (xs := R) kk R.length rfl rfl rfl ⟨_, _, rfl, rfl⟩ rfl hk1 (Nat.le_refl _) ?_
  intro v41
  rw [eR]
  have ld : (R.drop kk).length ≤ 15 := by simp; omega
  refine G.cons ?_
  refine o_app2 (Mr := [_, _]) none (xs := ([] : List Key)) (ys := R.drop kk) ⟨rfl, rfl⟩ ⟨by simp; omega, by simp; omega, rfl⟩ rfl rfl rfl rfl inferInstance inferInstance (List.Perm.refl _) ?_
  intro v42 p42 h42
  repeat (first | refine stp ?_ | (refine k_indexAddr ?_; first | (refine o_ixA _ rfl rfl rfl rfl rfl (h := ?_); intro _) | (refine o_ixB rfl rfl rfl rfl (h := ?_); intro _)) | (refine k_load ?_; refine o_loadF rfl rfl rfl rfl ?_) | (refine stb ?_; intro _))
  refine o_app2 (Mr := [_, _]) p42 (xs := [] ++ R.drop kk) (ys := R) h42 ⟨by simp; omega, by simp; omega, rfl⟩ rfl rfl rfl rfl inferInstance inferInstance (List.Perm.refl _) ?_
  intro v44 p44 h44
  refine G.giveOwn2 (Mr := [_, _]) v44 ([] ++ R.drop kk ++ R) p44 31 h44 inferInstance (List.Perm.refl _) ?_
  repeat (first | refine stp ?_ | (refine k_indexAddr ?_; first | (refine o_ixA _ rfl rfl rfl rfl rfl (h := ?_); intro _) | (refine o_ixB rfl rfl rfl rfl (h := ?_); intro _)) | (refine k_load ?_; refine o_loadF rfl rfl rfl rfl ?_) | (refine stb ?_; intro _))
  refine o_app2 (Mr := [_, _]) none (xs := ([] : List Key)) (ys := V) ⟨rfl, rfl⟩ ⟨by simp; omega, by simp; omega, rfl⟩ rfl rfl rfl rfl inferInstance inferInstance (List.Perm.refl _) ?_
  intro v46 p46 h46
  repeat (first | refine stp ?_ | (refine k_indexAddr ?_; first | (refine o_ixA _ rfl rfl rfl rfl rfl (h := ?_); intro _) | (refine o_ixB rfl rfl rfl rfl (h := ?_); intro _)) | (refine k_load ?_; refine o_loadF rfl rfl rfl rfl ?_) | (refine stb ?_; intro _))
  refine o_app2 (Mr := [_, _]) p46 (xs := [] ++ V) (ys := V) h46 ⟨by simp; omega, by simp; omega, rfl⟩ rfl rfl rfl rfl inferInstance inferInstance (List.Perm.refl _) ?_
  intro v48 p48 h48
  refine G.giveOwn2 (Mr := [_, _]) v48 ([] ++ V ++ V) p48 31 h48 inferInstance (List.Perm.refl _) ?_
  repeat (first | refine stp ?_ | (refine k_indexAddr ?_; first | (refine o_ixA _ rfl rfl rfl rfl rfl (h := ?_); intro _) | (refine o_ixB rfl rfl rfl rfl (h := ?_); intro _)) | (refine k_load ?_; refine o_loadF rfl rfl rfl rfl ?_) | (refine stb ?_; intro _))
  have s2 := amake_spec v44 v48 ([] ++ R.drop kk ++ R) ([] ++ V ++ V) (by simp; omega) (by simp; omega)
  have x1 : setK ([] ++ R.drop kk ++ R) = setK R := setK_ext (fun k => by simp only [List.nil_append, List.mem_append]; exact ⟨fun h => h.elim (fun h => List.mem_of_mem_drop h) id, .inr⟩)
  have x2 : setK ([] ++ V ++ V) = setK V := setK_ext (fun k => by simp)
  rw [make_eq ⟨by simp; omega, fun k hk => mR k (by simp only [List.nil_append, List.mem_append] at hk; exact hk.elim (fun h => List.mem_of_mem_drop h) id)⟩ ⟨by simp; omega, fun k hk => mV k (by simpa using hk)⟩, x1, x2] at s2
  refine o_callT rfl rfl rfl rfl s2 ?_
  intro sb
  refine G.sets sb ⟨setK R, setK V⟩ ?_
  intro r2 w2 e2
  refine G.slice r2 (setK R) ?_
  intro a2 c2 x2 zx2
  refine G.slice w2 (setK V) ?_
  intro b2 d2 y2 zy2
  subst x2 y2
  subst e2
  repeat (first | refine stp ?_ | (refine k_indexAddr ?_; first | (refine o_ixA _ rfl rfl rfl rfl rfl (h := ?_); intro _) | (refine o_ixB rfl rfl rfl rfl (h := ?_); intro _)) | (refine k_load ?_; refine o_loadF rfl rfl rfl rfl ?_) | (refine stb ?_; intro _))
  refine o_callV rfl rfl rfl rfl ks rfl ?_
  repeat (first | refine stp ?_ | (refine k_indexAddr ?_; first | (refine o_ixA _ rfl rfl rfl rfl rfl (h := ?_); intro _) | (refine o_ixB rfl rfl rfl rfl (h := ?_); intro _)) | (refine k_load ?_; refine o_loadF rfl rfl rfl rfl ?_) | (refine stb ?_; intro _))
  refine o_store (vs := x.cells) (cs' := x.cells) rfl rfl rfl rfl (Key.cells_length _) (Nat.le_of_ble_eq_true rfl) (Key.cells_one _) (by show [] ++ x.cells ++ [] = _; simp) ?_
  repeat (first | refine stp ?_ | (refine k_indexAddr ?_; first | (refine o_ixA _ rfl rfl rfl rfl rfl (h := ?_); intro _) | (refine o_ixB rfl rfl rfl rfl (h := ?_); intro _)) | (refine k_load ?_; refine o_loadF rfl rfl rfl rfl ?_) | (refine stb ?_; intro _))
  rename_i g7 g13 g15 g17
  have lit : True := trivial
  refine W.loopI (fun (i : Nat) => ([fRp (.slice aR R.length cR) R, fRp (.slice aV V.length cV) V, fRp (.agg #[.slice a1 (setK R).length c1, .slice b1 (setK V).length d1]) (⟨setK R, setK V⟩ : Sets), fRp (.agg #[.slice a2 (setK R).length c2, .slice b2 (setK V).length d2]) (⟨setK R, setK V⟩ : Sets)], [(9, .bool true), (10, .slice aR R.length cR), (11, .slice aV V.length cV), (13, .pointer (some ⟨g13, 0, none⟩)), (14, .int .i64 0), (15, .pointer (some ⟨g15, 0, none⟩)), (16, .int .i64 0), (17, .pointer (some ⟨g17, 0, none⟩)), (18, .bool (decide (x ∈ R.take i))), (19, .bool false), (20, .int .i64 i)], [(g17, Ob x.cells 31), (g15, Ob [.slice a2 (setK R).length c2, .slice b2 (setK V).length d2] 24), (g13, Ob [.slice a1 (setK R).length c1, .slice b1 (setK V).length d1] 24)])) (fun i => i ≤ R.length) (fun i => R.length - i) 0 (Nat.zero_le _) inferInstance (look_sub_cons rfl (look_sub_cons rfl (look_sub_cons rfl (look_sub_cons rfl (look_sub_cons rfl (look_sub_cons rfl (look_sub_cons rfl (look_sub_cons rfl (look_sub_cons rfl (look_sub_cons rfl (look_sub_cons rfl look_sub_nil))))))))))) (by first | exact List.Sublist.refl _ | exact (.cons_cons _ (.cons_cons _ (.cons_cons _ (List.nil_sublist _))))) ?_
  intro i hi
  dsimp only
  by_cases hi0 : i = R.length
  · have ht : R.take i = R := by rw [hi0, List.take_length]
    rw [ht]
    repeat (first | refine stp ?_ | (refine k_indexAddr ?_; first | (refine o_ixA _ rfl rfl rfl rfl rfl (h := ?_); intro _) | (refine o_ixB rfl rfl rfl rfl (h := ?_); intro _)) | (refine k_load ?_; refine o_loadF rfl rfl rfl rfl ?_) | (refine stb ?_; intro _))
    refine W.loopI (fun (i : Nat) => ([fRp (.slice aR R.length cR) R, fRp (.slice aV V.length cV) V, fRp (.agg #[.slice a1 (setK R).length c1, .slice b1 (setK V).length d1]) (⟨setK R, setK V⟩ : Sets), fRp (.agg #[.slice a2 (setK R).length c2, .slice b2 (setK V).length d2]) (⟨setK R, setK V⟩ : Sets)], [(9, .bool true), (10, .slice aR R.length cR), (11, .slice aV V.length cV), (13, .pointer (some ⟨g13, 0, none⟩)), (14, .int .i64 0), (15, .pointer (some ⟨g15, 0, none⟩)), (16, .int .i64 0), (17, .pointer (some ⟨g17, 0, none⟩)), (18, .bool (decide (x ∈ R))), (19, .bool (decide (x ∈ V.take i))), (21, .int .i64 i)], [(g17, Ob x.cells 31), (g15, Ob [.slice a2 (setK R).length c2, .slice b2 (setK V).length d2] 24), (g13, Ob [.slice a1 (setK R).length c1, .slice b1 (setK V).length d1] 24)])) (fun i => i ≤ V.length) (fun i => V.length - i) 0 (Nat.zero_le _) inferInstance (look_sub_cons rfl (look_sub_cons rfl (look_sub_cons rfl (look_sub_cons rfl (look_sub_cons rfl (look_sub_cons rfl (look_sub_cons rfl (look_sub_cons rfl (look_sub_cons rfl (look_sub_cons rfl (look_sub_cons rfl look_sub_nil))))))))))) (by first | exact List.Sublist.refl _ | exact (.cons_cons _ (.cons_cons _ (.cons_cons _ (List.nil_sublist _))))) ?_
    intro i hi
    dsimp only
    by_cases hi0 : i = V.length
    · have ht : V.take i = V := by rw [hi0, List.take_length]
      rw [ht]
      repeat (first | refine stp ?_ | (refine k_indexAddr ?_; first | (refine o_ixA _ rfl rfl rfl rfl rfl (h := ?_); intro _) | (refine o_ixB rfl rfl rfl rfl (h := ?_); intro _)) | (refine k_load ?_; refine o_loadF rfl rfl rfl rfl ?_) | (refine stb ?_; intro _))
      have hR1 : rightS (⟨setK R, setK V⟩ : Sets) = true := right_setK mR mV (by omega) (by omega)
      have hwt : mayS (⟨setK R, setK V⟩ : Sets) x true = decide (x ∈ V) := by simp [mayS, mem_setK]
      have hwf : mayS (⟨setK R, setK V⟩ : Sets) x false = (decide (x ∈ R) || decide (x ∈ V)) := by rw [Bool.eq_iff_iff]; simp [mayS, mem_setK, or_comm]
      cases hbR : decide (x ∈ R) <;> cases hbV : decide (x ∈ V) <;> rw [hbV] at hwt <;> rw [hbR, hbV] at hwf
      · repeat (first | refine stp ?_ | (refine k_indexAddr ?_; first | (refine o_ixA _ rfl rfl rfl rfl rfl (h := ?_); intro _) | (refine o_ixB rfl rfl rfl rfl (h := ?_); intro _)) | (refine k_load ?_; refine o_loadF rfl rfl rfl rfl ?_) | (refine stb ?_; intro _))
        refine o_callV rfl rfl rfl rfl (same2_spec (.agg #[.slice a1 (setK R).length c1, .slice b1 (setK V).length d1]) (.agg #[.slice a2 (setK R).length c2, .slice b2 (setK V).length d2]) (⟨setK R, setK V⟩ : Sets) (⟨setK R, setK V⟩ : Sets) ⟨by dsimp only; omega, by dsimp only; omega⟩ ⟨by dsimp only; omega, by dsimp only; omega⟩) (congrArg Value.bool (decide_eq_true ⟨rfl, rfl⟩)) ?_
        repeat (first | refine stp ?_ | (refine k_indexAddr ?_; first | (refine o_ixA _ rfl rfl rfl rfl rfl (h := ?_); intro _) | (refine o_ixB rfl rfl rfl rfl (h := ?_); intro _)) | (refine k_load ?_; refine o_loadF rfl rfl rfl rfl ?_) | (refine stb ?_; intro _))
        refine o_callV rfl rfl rfl rfl (arightS_spec (.agg #[.slice a1 (setK R).length c1, .slice b1 (setK V).length d1]) (⟨setK R, setK V⟩ : Sets) ⟨by dsimp only; omega, by dsimp only; omega⟩) (congrArg Value.bool hR1) ?_
        repeat (first | refine stp ?_ | (refine k_indexAddr ?_; first | (refine o_ixA _ rfl rfl rfl rfl rfl (h := ?_); intro _) | (refine o_ixB rfl rfl rfl rfl (h := ?_); intro _)) | (refine k_load ?_; refine o_loadF rfl rfl rfl rfl ?_) | (refine stb ?_; intro _))
        refine o_callV rfl rfl rfl rfl (amay_spec (.agg #[.slice a1 (setK R).length c1, .slice b1 (setK V).length d1]) (⟨setK R, setK V⟩ : Sets) x true ⟨by dsimp only; omega, by dsimp only; omega⟩) (congrArg Value.bool hwt) ?_
        repeat (first | refine stp ?_ | (refine k_indexAddr ?_; first | (refine o_ixA _ rfl rfl rfl rfl rfl (h := ?_); intro _) | (refine o_ixB rfl rfl rfl rfl (h := ?_); intro _)) | (refine k_load ?_; refine o_loadF rfl rfl rfl rfl ?_) | (refine stb ?_; intro _))
        refine o_callV rfl rfl rfl rfl (amay_spec (.agg #[.slice a1 (setK R).length c1, .slice b1 (setK V).length d1]) (⟨setK R, setK V⟩ : Sets) x false ⟨by dsimp only; omega, by dsimp only; omega⟩) (congrArg Value.bool hwf) ?_
        repeat (first | refine stp ?_ | (refine k_indexAddr ?_; first | (refine o_ixA _ rfl rfl rfl rfl rfl (h := ?_); intro _) | (refine o_ixB rfl rfl rfl rfl (h := ?_); intro _)) | (refine k_load ?_; refine o_loadF rfl rfl rfl rfl ?_) | (refine stb ?_; intro _))
        refine G.ret rfl (.cons (.tmp rfl) .nil) (Φ' := []) (M' := []) inferInstance (List.nil_sublist _) ⟨?_, rfl, rfl⟩
        rfl
      · repeat (first | refine stp ?_ | (refine k_indexAddr ?_; first | (refine o_ixA _ rfl rfl rfl rfl rfl (h := ?_); intro _) | (refine o_ixB rfl rfl rfl rfl (h := ?_); intro _)) | (refine k_load ?_; refine o_loadF rfl rfl rfl rfl ?_) | (refine stb ?_; intro _))
        refine o_callV rfl rfl rfl rfl (same2_spec (.agg #[.slice a1 (setK R).length c1, .slice b1 (setK V).length d1]) (.agg #[.slice a2 (setK R).length c2, .slice b2 (setK V).length d2]) (⟨setK R, setK V⟩ : Sets) (⟨setK R, setK V⟩ : Sets) ⟨by dsimp only; omega, by dsimp only; omega⟩ ⟨by dsimp only; omega, by dsimp only; omega⟩) (congrArg Value.bool (decide_eq_true ⟨rfl, rfl⟩)) ?_
        repeat (first | refine stp ?_ | (refine k_indexAddr ?_; first | (refine o_ixA _ rfl rfl rfl rfl rfl (h := ?_); intro _) | (refine o_ixB rfl rfl rfl rfl (h := ?_); intro _)) | (refine k_load ?_; refine o_loadF rfl rfl rfl rfl ?_) | (refine stb ?_; intro _))
        refine o_callV rfl rfl rfl rfl (arightS_spec (.agg #[.slice a1 (setK R).length c1, .slice b1 (setK V).length d1]) (⟨setK R, setK V⟩ : Sets) ⟨by dsimp only; omega, by dsimp only; omega⟩) (congrArg Value.bool hR1) ?_
        repeat (first | refine stp ?_ | (refine k_indexAddr ?_; first | (refine o_ixA _ rfl rfl rfl rfl rfl (h := ?_); intro _) | (refine o_ixB rfl rfl rfl rfl (h := ?_); intro _)) | (refine k_load ?_; refine o_loadF rfl rfl rfl rfl ?_) | (refine stb ?_; intro _))
        refine o_callV rfl rfl rfl rfl (amay_spec (.agg #[.slice a1 (setK R).length c1, .slice b1 (setK V).length d1]) (⟨setK R, setK V⟩ : Sets) x true ⟨by dsimp only; omega, by dsimp only; omega⟩) (congrArg Value.bool hwt) ?_
        repeat (first | refine stp ?_ | (refine k_indexAddr ?_; first | (refine o_ixA _ rfl rfl rfl rfl rfl (h := ?_); intro _) | (refine o_ixB rfl rfl rfl rfl (h := ?_); intro _)) | (refine k_load ?_; refine o_loadF rfl rfl rfl rfl ?_) | (refine stb ?_; intro _))
        refine o_callV rfl rfl rfl rfl (amay_spec (.agg #[.slice a1 (setK R).length c1, .slice b1 (setK V).length d1]) (⟨setK R, setK V⟩ : Sets) x false ⟨by dsimp only; omega, by dsimp only; omega⟩) (congrArg Value.bool hwf) ?_
        repeat (first | refine stp ?_ | (refine k_indexAddr ?_; first | (refine o_ixA _ rfl rfl rfl rfl rfl (h := ?_); intro _) | (refine o_ixB rfl rfl rfl rfl (h := ?_); intro _)) | (refine k_load ?_; refine o_loadF rfl rfl rfl rfl ?_) | (refine stb ?_; intro _))
        refine G.ret rfl (.cons (.tmp rfl) .nil) (Φ' := []) (M' := []) inferInstance (List.nil_sublist _) ⟨?_, rfl, rfl⟩
        rfl
      · repeat (first | refine stp ?_ | (refine k_indexAddr ?_; first | (refine o_ixA _ rfl rfl rfl rfl rfl (h := ?_); intro _) | (refine o_ixB rfl rfl rfl rfl (h := ?_); intro _)) | (refine k_load ?_; refine o_loadF rfl rfl rfl rfl ?_) | (refine stb ?_; intro _))
        refine o_callV rfl rfl rfl rfl (same2_spec (.agg #[.slice a1 (setK R).length c1, .slice b1 (setK V).length d1]) (.agg #[.slice a2 (setK R).length c2, .slice b2 (setK V).length d2]) (⟨setK R, setK V⟩ : Sets) (⟨setK R, setK V⟩ : Sets) ⟨by dsimp only; omega, by dsimp only; omega⟩ ⟨by dsimp only; omega, by dsimp only; omega⟩) (congrArg Value.bool (decide_eq_true ⟨rfl, rfl⟩)) ?_
        repeat (first | refine stp ?_ | (refine k_indexAddr ?_; first | (refine o_ixA _ rfl rfl rfl rfl rfl (h := ?_); intro _) | (refine o_ixB rfl rfl rfl rfl (h := ?_); intro _)) | (refine k_load ?_; refine o_loadF rfl rfl rfl rfl ?_) | (refine stb ?_; intro _))
        refine o_callV rfl rfl rfl rfl (arightS_spec (.agg #[.slice a1 (setK R).length c1, .slice b1 (setK V).length d1]) (⟨setK R, setK V⟩ : Sets) ⟨by dsimp only; omega, by dsimp only; omega⟩) (congrArg Value.bool hR1) ?_
        repeat (first | refine stp ?_ | (refine k_indexAddr ?_; first | (refine o_ixA _ rfl rfl rfl rfl rfl (h := ?_); intro _) | (refine o_ixB rfl rfl rfl rfl (h := ?_); intro _)) | (refine k_load ?_; refine o_loadF rfl rfl rfl rfl ?_) | (refine stb ?_; intro _))
        refine o_callV rfl rfl rfl rfl (amay_spec (.agg #[.slice a1 (setK R).length c1, .slice b1 (setK V).length d1]) (⟨setK R, setK V⟩ : Sets) x true ⟨by dsimp only; omega, by dsimp only; omega⟩) (congrArg Value.bool hwt) ?_
        repeat (first | refine stp ?_ | (refine k_indexAddr ?_; first | (refine o_ixA _ rfl rfl rfl rfl rfl (h := ?_); intro _) | (refine o_ixB rfl rfl rfl rfl (h := ?_); intro _)) | (refine k_load ?_; refine o_loadF rfl rfl rfl rfl ?_) | (refine stb ?_; intro _))
        refine o_callV rfl rfl rfl rfl (amay_spec (.agg #[.slice a1 (setK R).length c1, .slice b1 (setK V).length d1]) (⟨setK R, setK V⟩ : Sets) x false ⟨by dsimp only; omega, by dsimp only; omega⟩) (congrArg Value.bool hwf) ?_
        repeat (first | refine stp ?_ | (refine k_indexAddr ?_; first | (refine o_ixA _ rfl rfl rfl rfl rfl (h := ?_); intro _) | (refine o_ixB rfl rfl rfl rfl (h := ?_); intro _)) | (refine k_load ?_; refine o_loadF rfl rfl rfl rfl ?_) | (refine stb ?_; intro _))
        refine G.ret rfl (.cons (.tmp rfl) .nil) (Φ' := []) (M' := []) inferInstance (List.nil_sublist _) ⟨?_, rfl, rfl⟩
        rfl
      · repeat (first | refine stp ?_ | (refine k_indexAddr ?_; first | (refine o_ixA _ rfl rfl rfl rfl rfl (h := ?_); intro _) | (refine o_ixB rfl rfl rfl rfl (h := ?_); intro _)) | (refine k_load ?_; refine o_loadF rfl rfl rfl rfl ?_) | (refine stb ?_; intro _))
        refine o_callV rfl rfl rfl rfl (same2_spec (.agg #[.slice a1 (setK R).length c1, .slice b1 (setK V).length d1]) (.agg #[.slice a2 (setK R).length c2, .slice b2 (setK V).length d2]) (⟨setK R, setK V⟩ : Sets) (⟨setK R, setK V⟩ : Sets) ⟨by dsimp only; omega, by dsimp only; omega⟩ ⟨by dsimp only; omega, by dsimp only; omega⟩) (congrArg Value.bool (decide_eq_true ⟨rfl, rfl⟩)) ?_
        repeat (first | refine stp ?_ | (refine k_indexAddr ?_; first | (refine o_ixA _ rfl rfl rfl rfl rfl (h := ?_); intro _) | (refine o_ixB rfl rfl rfl rfl (h := ?_); intro _)) | (refine k_load ?_; refine o_loadF rfl rfl rfl rfl ?_) | (refine stb ?_; intro _))
        refine o_callV rfl rfl rfl rfl (arightS_spec (.agg #[.slice a1 (setK R).length c1, .slice b1 (setK V).length d1]) (⟨setK R, setK V⟩ : Sets) ⟨by dsimp only; omega, by dsimp only; omega⟩) (congrArg Value.bool hR1) ?_
        repeat (first | refine stp ?_ | (refine k_indexAddr ?_; first | (refine o_ixA _ rfl rfl rfl rfl rfl (h := ?_); intro _) | (refine o_ixB rfl rfl rfl rfl (h := ?_); intro _)) | (refine k_load ?_; refine o_loadF rfl rfl rfl rfl ?_) | (refine stb ?_; intro _))
        refine o_callV rfl rfl rfl rfl (amay_spec (.agg #[.slice a1 (setK R).length c1, .slice b1 (setK V).length d1]) (⟨setK R, setK V⟩ : Sets) x true ⟨by dsimp only; omega, by dsimp only; omega⟩) (congrArg Value.bool hwt) ?_
        repeat (first | refine stp ?_ | (refine k_indexAddr ?_; first | (refine o_ixA _ rfl rfl rfl rfl rfl (h := ?_); intro _) | (refine o_ixB rfl rfl rfl rfl (h := ?_); intro _)) | (refine k_load ?_; refine o_loadF rfl rfl rfl rfl ?_) | (refine stb ?_; intro _))
        refine o_callV rfl rfl rfl rfl (amay_spec (.agg #[.slice a1 (setK R).length c1, .slice b1 (setK V).length d1]) (⟨setK R, setK V⟩ : Sets) x false ⟨by dsimp only; omega, by dsimp only; omega⟩) (congrArg Value.bool hwf) ?_
        repeat (first | refine stp ?_ | (refine k_indexAddr ?_; first | (refine o_ixA _ rfl rfl rfl rfl rfl (h := ?_); intro _) | (refine o_ixB rfl rfl rfl rfl (h := ?_); intro _)) | (refine k_load ?_; refine o_loadF rfl rfl rfl rfl ?_) | (refine stb ?_; intro _))
        refine G.ret rfl (.cons (.tmp rfl) .nil) (Φ' := []) (M' := []) inferInstance (List.nil_sublist _) ⟨?_, rfl, rfl⟩
        rfl

    · have hi1 : i < V.length := by omega
      by_cases hx0 : x ∈ V.take i
      · rw [decide_eq_true hx0]
        repeat (first | refine stp ?_ | (refine k_indexAddr ?_; first | (refine o_ixA _ rfl rfl rfl rfl rfl (h := ?_); intro _) | (refine o_ixB rfl rfl rfl rfl (h := ?_); intro _)) | (refine k_load ?_; refine o_loadF rfl rfl rfl rfl ?_) | (refine stb ?_; intro _))
        refine W.draw 9 [⟨?v0_1, fun _ z => []⟩, ⟨?v1_1, fun _ z => []⟩, ⟨?v2_1, fun _ z => []⟩, ⟨?v3_1, fun _ z => []⟩, ⟨?v4_1, fun _ z => []⟩, ⟨?v5_1, fun _ z => []⟩, ⟨?v6_1, fun _ z => []⟩, ⟨?v7_1, fun _ z => []⟩, ⟨?v8_1, fun _ z => []⟩] [[], [0], [1], [1], [1, 2, 3], [1, 4], [1], [1, 5, 6], [1, 7]] [8] (by kernel_rfl) (by kernel_rfl) (by kernel_rfl) (by kernel_rfl) ?loc_1 ?ops_1 ?rest_1
        case ops_1 =>
          simp only [AllQ, Nat.reduceAdd, and_true]
          refine ⟨?_, ?_, ?_, ?_, ?_, ?_, ?_, ?_, ?_⟩
          · intro c z0 Φr Lr K hK; dsimp only [dstOf, kval, kfac, ancE,  ancF, getD_z, getD_s, List.getElem?_cons_zero, List.getElem?_cons_succ, List.getElem?_nil, Option.getD_some, Option.getD_none, List.nil_append, List.cons_append, Option.getD] at hK ⊢; refine stp ?_; exact hK z0
          · intro c z0 Φr Lr K hK; dsimp only [dstOf, kval, kfac, ancE,  ancF, getD_z, getD_s, List.getElem?_cons_zero, List.getElem?_cons_succ, List.getElem?_nil, Option.getD_some, Option.getD_none, List.nil_append, List.cons_append, Option.getD] at hK ⊢; refine stp ?_; exact hK z0
          · intro c z0 Φr Lr K hK; dsimp only [dstOf, kval, kfac, ancE,  ancF, getD_z, getD_s, List.getElem?_cons_zero, List.getElem?_cons_succ, List.getElem?_nil, Option.getD_some, Option.getD_none, List.nil_append, List.cons_append, Option.getD] at hK ⊢; refine stp ?_; exact hK z0
          · intro c z0 Φr Lr K hK; dsimp only [dstOf, kval, kfac, ancE,  ancF, getD_z, getD_s, List.getElem?_cons_zero, List.getElem?_cons_succ, List.getElem?_nil, Option.getD_some, Option.getD_none, List.nil_append, List.cons_append, Option.getD] at hK ⊢; refine stp ?_; exact hK z0
          · intro c z0 Φr Lr K hK; dsimp only [dstOf, kval, kfac, ancE,  ancF, getD_z, getD_s, List.getElem?_cons_zero, List.getElem?_cons_succ, List.getElem?_nil, Option.getD_some, Option.getD_none, List.nil_append, List.cons_append, Option.getD] at hK ⊢; refine stp ?_; exact hK z0
          · intro c z0 Φr Lr K hK; dsimp only [dstOf, kval, kfac, ancE,  ancF, getD_z, getD_s, List.getElem?_cons_zero, List.getElem?_cons_succ, List.getElem?_nil, Option.getD_some, Option.getD_none, List.nil_append, List.cons_append, Option.getD] at hK ⊢; (first | refine stp ?_ | refine o_loadF rfl rfl rfl rfl ?_); exact hK z0
          · intro c z0 Φr Lr K hK; dsimp only [dstOf, kval, kfac, ancE,  ancF, getD_z, getD_s, List.getElem?_cons_zero, List.getElem?_cons_succ, List.getElem?_nil, Option.getD_some, Option.getD_none, List.nil_append, List.cons_append, Option.getD] at hK ⊢; (first | refine stp ?_ | refine o_loadF rfl rfl rfl rfl ?_); exact hK z0
          · intro c z0 Φr Lr K hK; dsimp only [dstOf, kval, kfac, ancE,  ancF, getD_z, getD_s, List.getElem?_cons_zero, List.getElem?_cons_succ, List.getElem?_nil, Option.getD_some, Option.getD_none, List.nil_append, List.cons_append, Option.getD] at hK ⊢; refine stp ?_; exact hK z0
          · intro c z0 Φr Lr K hK; dsimp only [dstOf, kval, kfac, ancE,  ancF, getD_z, getD_s, List.getElem?_cons_zero, List.getElem?_cons_succ, List.getElem?_nil, Option.getD_some, Option.getD_none, List.nil_append, List.cons_append, Option.getD] at hK ⊢; refine stp ?_; exact hK z0
        case loc_1 =>
          simp only [AllL, Nat.reduceAdd, and_true]
          refine ⟨?_, ?_, ?_, ?_, ?_, ?_, ?_, ?_, ?_⟩
          all_goals exact fun _ _ _ _ => ⟨rfl, rfl⟩
        intro c
        dsimp only [dstOf, kval, kfac, ancE,  ancF, getD_z, getD_s, List.getElem?_cons_zero, List.getElem?_cons_succ, List.getElem?_nil, Option.getD_some, Option.getD_none, List.nil_append, List.cons_append, List.drop_succ_cons, List.drop_zero, Option.getD]
        repeat (first | refine stp ?_ | (refine k_indexAddr ?_; first | (refine o_ixA _ rfl rfl rfl rfl rfl (h := ?_); intro _) | (refine o_ixB rfl rfl rfl rfl (h := ?_); intro _)) | (refine k_load ?_; refine o_loadF rfl rfl rfl rfl ?_) | (refine stb ?_; intro _))
        refine G.again (i + 1) (by omega) (by omega) inferInstance (look_sub_cons rfl (look_sub_cons rfl (look_sub_cons rfl (look_sub_cons rfl (look_sub_cons rfl (look_sub_cons rfl (look_sub_cons rfl (look_sub_cons rfl (look_sub_cons rfl (look_sub_cons ?_ (look_sub_cons rfl look_sub_nil))))))))))) (List.Sublist.refl _)
        rw [decide_eq_true ((mem_take_succ hi1).2 (.inl hx0))]; rfl
      · rw [decide_eq_false hx0]
        repeat (first | refine stp ?_ | (refine k_indexAddr ?_; first | (refine o_ixA _ rfl rfl rfl rfl rfl (h := ?_); intro _) | (refine o_ixB rfl rfl rfl rfl (h := ?_); intro _)) | (refine k_load ?_; refine o_loadF rfl rfl rfl rfl ?_) | (refine stb ?_; intro _))
        refine W.draw 9 [⟨?v0_2, fun _ z => []⟩, ⟨?v1_2, fun _ z => []⟩, ⟨?v2_2, fun _ z => []⟩, ⟨?v3_2, fun _ z => []⟩, ⟨fun _ z => z, fun _ z => [fPt z V[i]]⟩, ⟨?v5_2, fun _ z => []⟩, ⟨?v6_2, fun _ z => []⟩, ⟨?v7_2, fun _ z => []⟩, ⟨?v8_2, fun _ z => []⟩] [[], [0], [1], [1], [1, 2, 3], [1, 4], [1], [1, 5, 6], [1, 7]] [8] (by kernel_rfl) (by kernel_rfl) (by kernel_rfl) (by kernel_rfl) ?loc_2 ?ops_2 ?rest_2
        case ops_2 =>
          simp only [AllQ, Nat.reduceAdd, and_true]
          refine ⟨?_, ?_, ?_, ?_, ?_, ?_, ?_, ?_, ?_⟩
          · intro c z0 Φr Lr K hK; dsimp only [dstOf, kval, kfac, ancE,  ancF, getD_z, getD_s, List.getElem?_cons_zero, List.getElem?_cons_succ, List.getElem?_nil, Option.getD_some, Option.getD_none, List.nil_append, List.cons_append, Option.getD] at hK ⊢; refine stp ?_; exact hK z0
          · intro c z0 Φr Lr K hK; dsimp only [dstOf, kval, kfac, ancE,  ancF, getD_z, getD_s, List.getElem?_cons_zero, List.getElem?_cons_succ, List.getElem?_nil, Option.getD_some, Option.getD_none, List.nil_append, List.cons_append, Option.getD] at hK ⊢; refine stp ?_; exact hK z0
          · intro c z0 Φr Lr K hK; dsimp only [dstOf, kval, kfac, ancE,  ancF, getD_z, getD_s, List.getElem?_cons_zero, List.getElem?_cons_succ, List.getElem?_nil, Option.getD_some, Option.getD_none, List.nil_append, List.cons_append, Option.getD] at hK ⊢; refine stp ?_; exact hK z0
          · intro c z0 Φr Lr K hK; dsimp only [dstOf, kval, kfac, ancE,  ancF, getD_z, getD_s, List.getElem?_cons_zero, List.getElem?_cons_succ, List.getElem?_nil, Option.getD_some, Option.getD_none, List.nil_append, List.cons_append, Option.getD] at hK ⊢; refine stp ?_; exact hK z0
          · intro c z0 Φr Lr K hK; dsimp only [dstOf, kval, kfac, ancE,  ancF, getD_z, getD_s, List.getElem?_cons_zero, List.getElem?_cons_succ, List.getElem?_nil, Option.getD_some, Option.getD_none, List.nil_append, List.cons_append, Option.getD] at hK ⊢; refine o_idxN (xs := V) i rfl rfl rfl rfl rfl hi1 ?_; intro z; exact hK _
          · intro c z0 Φr Lr K hK; dsimp only [dstOf, kval, kfac, ancE,  ancF, getD_z, getD_s, List.getElem?_cons_zero, List.getElem?_cons_succ, List.getElem?_nil, Option.getD_some, Option.getD_none, List.nil_append, List.cons_append, Option.getD] at hK ⊢; (first | refine stp ?_ | refine o_loadF rfl rfl rfl rfl ?_); exact hK z0
          · intro c z0 Φr Lr K hK; dsimp only [dstOf, kval, kfac, ancE,  ancF, getD_z, getD_s, List.getElem?_cons_zero, List.getElem?_cons_succ, List.getElem?_nil, Option.getD_some, Option.getD_none, List.nil_append, List.cons_append, Option.getD] at hK ⊢; (first | refine stp ?_ | refine o_loadF rfl rfl rfl rfl ?_); exact hK z0
          · intro c z0 Φr Lr K hK; dsimp only [dstOf, kval, kfac, ancE,  ancF, getD_z, getD_s, List.getElem?_cons_zero, List.getElem?_cons_succ, List.getElem?_nil, Option.getD_some, Option.getD_none, List.nil_append, List.cons_append, Option.getD] at hK ⊢; refine stp ?_; exact hK z0
          · intro c z0 Φr Lr K hK; dsimp only [dstOf, kval, kfac, ancE,  ancF, getD_z, getD_s, List.getElem?_cons_zero, List.getElem?_cons_succ, List.getElem?_nil, Option.getD_some, Option.getD_none, List.nil_append, List.cons_append, Option.getD] at hK ⊢; refine stp ?_; exact hK z0
        case loc_2 =>
          simp only [AllL, Nat.reduceAdd, and_true]
          refine ⟨?_, ?_, ?_, ?_, ?_, ?_, ?_, ?_, ?_⟩
          all_goals (intro c c' z h; first | exact ⟨rfl, rfl⟩ | (skip))
        intro c
        dsimp only [dstOf, kval, kfac, ancE,  ancF, getD_z, getD_s, List.getElem?_cons_zero, List.getElem?_cons_succ, List.getElem?_nil, Option.getD_some, Option.getD_none, List.nil_append, List.cons_append, List.drop_succ_cons, List.drop_zero, Option.getD]
        repeat (first | refine stp ?_ | (refine k_indexAddr ?_; first | (refine o_ixA _ rfl rfl rfl rfl rfl (h := ?_); intro _) | (refine o_ixB rfl rfl rfl rfl (h := ?_); intro _)) | (refine k_load ?_; refine o_loadF rfl rfl rfl rfl ?_) | (refine stb ?_; intro _))
        refine G.again (i + 1) (by omega) (by omega) inferInstance (look_sub_cons rfl (look_sub_cons rfl (look_sub_cons rfl (look_sub_cons rfl (look_sub_cons rfl (look_sub_cons rfl (look_sub_cons rfl (look_sub_cons rfl (look_sub_cons rfl (look_sub_cons ?_ (look_sub_cons rfl look_sub_nil))))))))))) (List.Sublist.refl _)
        have hd : decide (x ∈ V.take (i + 1)) = decide (V[i] = x) := decide_eq_decide.2 ⟨fun h => ((mem_take_succ hi1).1 h).elim (fun h => absurd h hx0) id, fun h => (mem_take_succ hi1).2 (.inr h)⟩
        rw [hd]; rfl

  · have hi1 : i < R.length := by omega
    by_cases hx0 : x ∈ R.take i
    · rw [decide_eq_true hx0]
      repeat (first | refine stp ?_ | (refine k_indexAddr ?_; first | (refine o_ixA _ rfl rfl rfl rfl rfl (h := ?_); intro _) | (refine o_ixB rfl rfl rfl rfl (h := ?_); intro _)) | (refine k_load ?_; refine o_loadF rfl rfl rfl rfl ?_) | (refine stb ?_; intro _))
      refine W.draw 9 [⟨?v0_3, fun _ z => []⟩, ⟨?v1_3, fun _ z => []⟩, ⟨?v2_3, fun _ z => []⟩, ⟨?v3_3, fun _ z => []⟩, ⟨?v4_3, fun _ z => []⟩, ⟨?v5_3, fun _ z => []⟩, ⟨?v6_3, fun _ z => []⟩, ⟨?v7_3, fun _ z => []⟩, ⟨?v8_3, fun _ z => []⟩] [[], [0], [1], [1], [1, 2, 3], [1, 4], [1], [1, 5, 6], [1, 7]] [8] (by kernel_rfl) (by kernel_rfl) (by kernel_rfl) (by kernel_rfl) ?loc_3 ?ops_3 ?rest_3
      case ops_3 =>
        simp only [AllQ, Nat.reduceAdd, and_true]
        refine ⟨?_, ?_, ?_, ?_, ?_, ?_, ?_, ?_, ?_⟩
        · intro c z0 Φr Lr K hK; dsimp only [dstOf, kval, kfac, ancE,  ancF, getD_z, getD_s, List.getElem?_cons_zero, List.getElem?_cons_succ, List.getElem?_nil, Option.getD_some, Option.getD_none, List.nil_append, List.cons_append, Option.getD] at hK ⊢; refine stp ?_; exact hK z0
        · intro c z0 Φr Lr K hK; dsimp only [dstOf, kval, kfac, ancE,  ancF, getD_z, getD_s, List.getElem?_cons_zero, List.getElem?_cons_succ, List.getElem?_nil, Option.getD_some, Option.getD_none, List.nil_append, List.cons_append, Option.getD] at hK ⊢; refine stp ?_; exact hK z0
        · intro c z0 Φr Lr K hK; dsimp only [dstOf, kval, kfac, ancE,  ancF, getD_z, getD_s, List.getElem?_cons_zero, List.getElem?_cons_succ, List.getElem?_nil, Option.getD_some, Option.getD_none, List.nil_append, List.cons_append, Option.getD] at hK ⊢; refine stp ?_; exact hK z0
        · intro c z0 Φr Lr K hK; dsimp only [dstOf, kval, kfac, ancE,  ancF, getD_z, getD_s, List.getElem?_cons_zero, List.getElem?_cons_succ, List.getElem?_nil, Option.getD_some, Option.getD_none, List.nil_append, List.cons_append, Option.getD] at hK ⊢; refine stp ?_; exact hK z0
        · intro c z0 Φr Lr K hK; dsimp only [dstOf, kval, kfac, ancE,  ancF, getD_z, getD_s, List.getElem?_cons_zero, List.getElem?_cons_succ, List.getElem?_nil, Option.getD_some, Option.getD_none, List.nil_append, List.cons_append, Option.getD] at hK ⊢; refine stp ?_; exact hK z0
        · intro c z0 Φr Lr K hK; dsimp only [dstOf, kval, kfac, ancE,  ancF, getD_z, getD_s, List.getElem?_cons_zero, List.getElem?_cons_succ, List.getElem?_nil, Option.getD_some, Option.getD_none, List.nil_append, List.cons_append, Option.getD] at hK ⊢; (first | refine stp ?_ | refine o_loadF rfl rfl rfl rfl ?_); exact hK z0
        · intro c z0 Φr Lr K hK; dsimp only [dstOf, kval, kfac, ancE,  ancF, getD_z, getD_s, List.getElem?_cons_zero, List.getElem?_cons_succ, List.getElem?_nil, Option.getD_some, Option.getD_none, List.nil_append, List.cons_append, Option.getD] at hK ⊢; (first | refine stp ?_ | refine o_loadF rfl rfl rfl rfl ?_); exact hK z0
        · intro c z0 Φr Lr K hK; dsimp only [dstOf, kval, kfac, ancE,  ancF, getD_z, getD_s, List.getElem?_cons_zero, List.getElem?_cons_succ, List.getElem?_nil, Option.getD_some, Option.getD_none, List.nil_append, List.cons_append, Option.getD] at hK ⊢; refine stp ?_; exact hK z0
        · intro c z0 Φr Lr K hK; dsimp only [dstOf, kval, kfac, ancE,  ancF, getD_z, getD_s, List.getElem?_cons_zero, List.getElem?_cons_succ, List.getElem?_nil, Option.getD_some, Option.getD_none, List.nil_append, List.cons_append, Option.getD] at hK ⊢; refine stp ?_; exact hK z0
      case loc_3 =>
        simp only [AllL, Nat.reduceAdd, and_true]
        refine ⟨?_, ?_, ?_, ?_, ?_, ?_, ?_, ?_, ?_⟩
        all_goals exact fun _ _ _ _ => ⟨rfl, rfl⟩
      intro c
      dsimp only [dstOf, kval, kfac, ancE,  ancF, getD_z, getD_s, List.getElem?_cons_zero, List.getElem?_cons_succ, List.getElem?_nil, Option.getD_some, Option.getD_none, List.nil_append, List.cons_append, List.drop_succ_cons, List.drop_zero, Option.getD]
      repeat (first | refine stp ?_ | (refine k_indexAddr ?_; first | (refine o_ixA _ rfl rfl rfl rfl rfl (h := ?_); intro _) | (refine o_ixB rfl rfl rfl rfl (h := ?_); intro _)) | (refine k_load ?_; refine o_loadF rfl rfl rfl rfl ?_) | (refine stb ?_; intro _))
      refine G.again (i + 1) (by omega) (by omega) inferInstance (look_sub_cons rfl (look_sub_cons rfl (look_sub_cons rfl (look_sub_cons rfl (look_sub_cons rfl (look_sub_cons rfl (look_sub_cons rfl (look_sub_cons rfl (look_sub_cons ?_ (look_sub_cons rfl (look_sub_cons rfl look_sub_nil))))))))))) (List.Sublist.refl _)
      rw [decide_eq_true ((mem_take_succ hi1).2 (.inl hx0))]; rfl
    · rw [decide_eq_false hx0]
      repeat (first | refine stp ?_ | (refine k_indexAddr ?_; first | (refine o_ixA _ rfl rfl rfl rfl rfl (h := ?_); intro _) | (refine o_ixB rfl rfl rfl rfl (h := ?_); intro _)) | (refine k_load ?_; refine o_loadF rfl rfl rfl rfl ?_) | (refine stb ?_; intro _))
      refine W.draw 9 [⟨?v0_4, fun _ z => []⟩, ⟨?v1_4, fun _ z => []⟩, ⟨?v2_4, fun _ z => []⟩, ⟨?v3_4, fun _ z => []⟩, ⟨fun _ z => z, fun _ z => [fPt z R[i]]⟩, ⟨?v5_4, fun _ z => []⟩, ⟨?v6_4, fun _ z => []⟩, ⟨?v7_4, fun _ z => []⟩, ⟨?v8_4, fun _ z => []⟩] [[], [0], [1], [1], [1, 2, 3], [1, 4], [1], [1, 5, 6], [1, 7]] [8] (by kernel_rfl) (by kernel_rfl) (by kernel_rfl) (by kernel_rfl) ?loc_4 ?ops_4 ?rest_4
      case ops_4 =>
        simp only [AllQ, Nat.reduceAdd, and_true]
        refine ⟨?_, ?_, ?_, ?_, ?_, ?_, ?_, ?_, ?_⟩
        · intro c z0 Φr Lr K hK; dsimp only [dstOf, kval, kfac, ancE,  ancF, getD_z, getD_s, List.getElem?_cons_zero, List.getElem?_cons_succ, List.getElem?_nil, Option.getD_some, Option.getD_none, List.nil_append, List.cons_append, Option.getD] at hK ⊢; refine stp ?_; exact hK z0
        · intro c z0 Φr Lr K hK; dsimp only [dstOf, kval, kfac, ancE,  ancF, getD_z, getD_s, List.getElem?_cons_zero, List.getElem?_cons_succ, List.getElem?_nil, Option.getD_some, Option.getD_none, List.nil_append, List.cons_append, Option.getD] at hK ⊢; refine stp ?_; exact hK z0
        · intro c z0 Φr Lr K hK; dsimp only [dstOf, kval, kfac, ancE,  ancF, getD_z, getD_s, List.getElem?_cons_zero, List.getElem?_cons_succ, List.getElem?_nil, Option.getD_some, Option.getD_none, List.nil_append, List.cons_append, Option.getD] at hK ⊢; refine stp ?_; exact hK z0
        · intro c z0 Φr Lr K hK; dsimp only [dstOf, kval, kfac, ancE,  ancF, getD_z, getD_s, List.getElem?_cons_zero, List.getElem?_cons_succ, List.getElem?_nil, Option.getD_some, Option.getD_none, List.nil_append, List.cons_append, Option.getD] at hK ⊢; refine stp ?_; exact hK z0
        · intro c z0 Φr Lr K hK; dsimp only [dstOf, kval, kfac, ancE,  ancF, getD_z, getD_s, List.getElem?_cons_zero, List.getElem?_cons_succ, List.getElem?_nil, Option.getD_some, Option.getD_none, List.nil_append, List.cons_append, Option.getD] at hK ⊢; refine o_idxN (xs := R) i rfl rfl rfl rfl rfl hi1 ?_; intro z; exact hK _
        · intro c z0 Φr Lr K hK; dsimp only [dstOf, kval, kfac, ancE,  ancF, getD_z, getD_s, List.getElem?_cons_zero, List.getElem?_cons_succ, List.getElem?_nil, Option.getD_some, Option.getD_none, List.nil_append, List.cons_append, Option.getD] at hK ⊢; (first | refine stp ?_ | refine o_loadF rfl rfl rfl rfl ?_); exact hK z0
        · intro c z0 Φr Lr K hK; dsimp only [dstOf, kval, kfac, ancE,  ancF, getD_z, getD_s, List.getElem?_cons_zero, List.getElem?_cons_succ, List.getElem?_nil, Option.getD_some, Option.getD_none, List.nil_append, List.cons_append, Option.getD] at hK ⊢; (first | refine stp ?_ | refine o_loadF rfl rfl rfl rfl ?_); exact hK z0
        · intro c z0 Φr Lr K hK; dsimp only [dstOf, kval, kfac, ancE,  ancF, getD_z, getD_s, List.getElem?_cons_zero, List.getElem?_cons_succ, List.getElem?_nil, Option.getD_some, Option.getD_none, List.nil_append, List.cons_append, Option.getD] at hK ⊢; refine stp ?_; exact hK z0
        · intro c z0 Φr Lr K hK; dsimp only [dstOf, kval, kfac, ancE,  ancF, getD_z, getD_s, List.getElem?_cons_zero, List.getElem?_cons_succ, List.getElem?_nil, Option.getD_some, Option.getD_none, List.nil_append, List.cons_append, Option.getD] at hK ⊢; refine stp ?_; exact hK z0
      case loc_4 =>
        simp only [AllL, Nat.reduceAdd, and_true]
        refine ⟨?_, ?_, ?_, ?_, ?_, ?_, ?_, ?_, ?_⟩
        all_goals (intro c c' z h; first | exact ⟨rfl, rfl⟩ | (skip))
      intro c
      dsimp only [dstOf, kval, kfac, ancE,  ancF, getD_z, getD_s, List.getElem?_cons_zero, List.getElem?_cons_succ, List.getElem?_nil, Option.getD_some, Option.getD_none, List.nil_append, List.cons_append, List.drop_succ_cons, List.drop_zero, Option.getD]
      repeat (first | refine stp ?_ | (refine k_indexAddr ?_; first | (refine o_ixA _ rfl rfl rfl rfl rfl (h := ?_); intro _) | (refine o_ixB rfl rfl rfl rfl (h := ?_); intro _)) | (refine k_load ?_; refine o_loadF rfl rfl rfl rfl ?_) | (refine stb ?_; intro _))
      refine G.again (i + 1) (by omega) (by omega) inferInstance (look_sub_cons rfl (look_sub_cons rfl (look_sub_cons rfl (look_sub_cons rfl (look_sub_cons rfl (look_sub_cons rfl (look_sub_cons rfl (look_sub_cons rfl (look_sub_cons ?_ (look_sub_cons rfl (look_sub_cons rfl look_sub_nil))))))))))) (List.Sublist.refl _)
      have hd : decide (x ∈ R.take (i + 1)) = decide (R[i] = x) := decide_eq_decide.2 ⟨fun h => ((mem_take_succ hi1).1 h).elim (fun h => absurd h hx0) id, fun h => (mem_take_succ hi1).2 (.inr h)⟩
      rw [hd]; rfl
end Go.Rail
