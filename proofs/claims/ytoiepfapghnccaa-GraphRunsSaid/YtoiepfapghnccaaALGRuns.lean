/- The law of those that run at once, walked. -/
import Derived.Test.YtoiepfapghnccaaAGLaw
import Derived.Test.YtoiepfapghnccaaRailD
namespace Go.Rail
open Go Go.Proofs
set_option linter.unusedSimpArgs false
set_option linter.unusedVariables false
set_option maxHeartbeats 400000
set_option maxRecDepth 4000
attribute [local irreducible] OpK G W LW wpListIn Exit.then Exit.inBlock Post rounds opRun bodyPostM intOp

attribute [local irreducible] lexN cmpW cmpA cmpK cmpI makeS setK joinS clashS mayS rightS errG edgesR levelsR errR readyR ordG setsOf clG edgesG edgesI mayG rawG pickN fitB readyP

structure RuSt where
  i : Nat
  B : List Bool
  D : List Bool
  v9 : Value
  oO : OR
  O : List Int
  v10 : Value
  oR : OR
  R : List Int
theorem run_err {l : List Sets} {B D : List Bool} (h : okR l B D = true) : errR l B D = 0 := by
  have : errR l B D = if okR l B D then 0 else 1 := by with_unfolding_all rfl
  rw [this, h]; rfl
theorem run_ready {l : List Sets} {B D : List Bool} (h : okR l B D = true) : readyR l B D = readyP l B D l.length := by
  have : readyR l B D = if okR l B D then readyP l B D l.length else [] := by with_unfolding_all rfl
  rw [this, h]; rfl
theorem getD_get {B : List Bool} {k : Nat} (h : k < B.length) : B[k] = B.getD k false := by
  rw [List.getD_eq_getElem?_getD, List.getElem?_eq_getElem h]; rfl
def pkP (picks : List (Int × Int)) (i : Nat) : Int × Int := match picks[i]? with
  | some p => p
  | none => ((i : Int), (i : Int))
set_option maxHeartbeats 16000000 in
theorem gruns_walk (v0 v1 : Value) (raws : List RawS) (picks : List (Int × Int)) (o0 : okRaws raws) (o1 : okRaw picks) : FnV Try.prog 9 [v0, v1] [fRp v0 raws, fRp v1 picks] (.bool true) := by
  have hS := gsets_spec v0 raws o0
  have hm := rawG_may raws
  have hfit := rawG_fit raws
  have hlen := rawG_len raws
  generalize rawG raws = l at hS hm hfit hlen
  have hlx : l.length ≤ 1000000 := by omega
  have hpl : picks.length ≤ 4611686018427387904 := okRaw_len o1
  refine Fn.enter Try.func9 rfl Try.ntmps9 (by simp) (fun I0 w0 => ?_)
  repeat (first | refine stp ?_ | (refine k_indexAddr ?_; first | (refine o_ixA _ rfl rfl rfl rfl rfl (h := ?_); intro _) | (refine o_ixB rfl rfl rfl rfl (h := ?_); intro _)) | (refine k_load ?_; refine o_loadF rfl rfl rfl rfl ?_) | (refine stb ?_; intro _))
  refine o_callV rfl rfl rfl rfl gawake_spec rfl ?_
  repeat (first | refine stp ?_ | (refine k_indexAddr ?_; first | (refine o_ixA _ rfl rfl rfl rfl rfl (h := ?_); intro _) | (refine o_ixB rfl rfl rfl rfl (h := ?_); intro _)) | (refine k_load ?_; refine o_loadF rfl rfl rfl rfl ?_) | (refine stb ?_; intro _))
  refine o_callD rfl rfl rfl rfl hS ?_
  intro v6
  repeat (first | refine stp ?_ | (refine k_indexAddr ?_; first | (refine o_ixA _ rfl rfl rfl rfl rfl (h := ?_); intro _) | (refine o_ixB rfl rfl rfl rfl (h := ?_); intro _)) | (refine k_load ?_; refine o_loadF rfl rfl rfl rfl ?_) | (refine stb ?_; intro _))
  refine o_makeB l.length rfl rfl rfl rfl rfl rfl hlx ?_
  intro bb
  repeat (first | refine stp ?_ | (refine k_indexAddr ?_; first | (refine o_ixA _ rfl rfl rfl rfl rfl (h := ?_); intro _) | (refine o_ixB rfl rfl rfl rfl (h := ?_); intro _)) | (refine k_load ?_; refine o_loadF rfl rfl rfl rfl ?_) | (refine stb ?_; intro _))
  refine o_makeB l.length rfl rfl rfl rfl rfl rfl hlx ?_
  intro bd
  repeat (first | refine stp ?_ | (refine k_indexAddr ?_; first | (refine o_ixA _ rfl rfl rfl rfl rfl (h := ?_); intro _) | (refine o_ixB rfl rfl rfl rfl (h := ?_); intro _)) | (refine k_load ?_; refine o_loadF rfl rfl rfl rfl ?_) | (refine stb ?_; intro _))
  refine W.loopI (fun (s : RuSt) => ([fRp v6 l, fRp v1 picks, fRow (ocells s.oO) s.O, fRow (ocells s.oR) s.R], [(1, v1), (5, .bool true), (6, v6), (7, .slice (some ⟨bb, 0, none⟩) l.length l.length), (8, .slice (some ⟨bd, 0, none⟩) l.length l.length), (9, s.v9), (10, s.v10), (11, .int .i64 s.i)], (bd, Ob (cB s.D) 4) :: (bb, Ob (cB s.B) 4) :: (ownM 3 s.oO ++ ownM 3 s.oR))) (fun s => s.i ≤ 80 ∧ RunI l s.B s.D s.O s.R ∧ IsOwn 1 s.v9 s.O.length s.oO ∧ IsOwn 1 s.v10 s.R.length s.oR) (fun s => 80 - s.i) ⟨0, List.replicate l.length false, List.replicate l.length false, .slice none 0 0, none, [], .slice none 0 0, none, []⟩ ⟨Nat.zero_le _, RunI.init l, ⟨rfl, rfl⟩, ⟨rfl, rfl⟩⟩ inferInstance (look_sub_cons rfl (look_sub_cons rfl (look_sub_cons rfl (look_sub_cons rfl (look_sub_cons rfl (look_sub_cons rfl (look_sub_cons rfl (look_sub_cons rfl look_sub_nil)))))))) (List.Sublist.refl _) ?_
  rintro ⟨i, B, Dd, v9, oO, O, v10, oR, R⟩ ⟨hi, hI, hO, hR⟩
  dsimp only at hi hI hO hR ⊢
  have hBl := hI.lb
  have hDl := hI.ld
  have hRl := hI.rlen
  have hOl := hI.olen
  have hok := hI.ok hm
  by_cases hend : i < 80 ∧ (i : Int) < picks.length + 2 * l.length
  case neg =>
    by_cases hRn : R.length < l.length
    · by_cases h8 : (i : Int) < picks.length + 2 * l.length
      · have h80 : ¬ i < 80 := fun h => hend ⟨h, h8⟩
        repeat (first | refine stp ?_ | (refine k_indexAddr ?_; first | (refine o_ixA _ rfl rfl rfl rfl rfl (h := ?_); intro _) | (refine o_ixB rfl rfl rfl rfl (h := ?_); intro _)) | (refine k_load ?_; refine o_loadF rfl rfl rfl rfl ?_) | (refine stb ?_; intro _))
        refine o_lenO oR hR rfl rfl rfl ?_
        repeat (first | refine stp ?_ | (refine k_indexAddr ?_; first | (refine o_ixA _ rfl rfl rfl rfl rfl (h := ?_); intro _) | (refine o_ixB rfl rfl rfl rfl (h := ?_); intro _)) | (refine k_load ?_; refine o_loadF rfl rfl rfl rfl ?_) | (refine stb ?_; intro _))
        refine G.ret rfl (.cons (.tmp rfl) .nil) (Φ' := []) (M' := []) inferInstance (List.nil_sublist _) ⟨?_, rfl, rfl⟩
        rfl
      · repeat (first | refine stp ?_ | (refine k_indexAddr ?_; first | (refine o_ixA _ rfl rfl rfl rfl rfl (h := ?_); intro _) | (refine o_ixB rfl rfl rfl rfl (h := ?_); intro _)) | (refine k_load ?_; refine o_loadF rfl rfl rfl rfl ?_) | (refine stb ?_; intro _))
        refine o_lenO oR hR rfl rfl rfl ?_
        repeat (first | refine stp ?_ | (refine k_indexAddr ?_; first | (refine o_ixA _ rfl rfl rfl rfl rfl (h := ?_); intro _) | (refine o_ixB rfl rfl rfl rfl (h := ?_); intro _)) | (refine k_load ?_; refine o_loadF rfl rfl rfl rfl ?_) | (refine stb ?_; intro _))
        refine G.ret rfl (.cons (.tmp rfl) .nil) (Φ' := []) (M' := []) inferInstance (List.nil_sublist _) ⟨?_, rfl, rfl⟩
        rfl
    · have hord := hI.order hm (by omega)
      have hsp := orders_spec v6 v10 l R hlx hfit (by omega)
      rw [hord] at hsp
      by_cases h8 : (i : Int) < picks.length + 2 * l.length
      · have h80 : ¬ i < 80 := fun h => hend ⟨h, h8⟩
        repeat (first | refine stp ?_ | (refine k_indexAddr ?_; first | (refine o_ixA _ rfl rfl rfl rfl rfl (h := ?_); intro _) | (refine o_ixB rfl rfl rfl rfl (h := ?_); intro _)) | (refine k_load ?_; refine o_loadF rfl rfl rfl rfl ?_) | (refine stb ?_; intro _))
        refine o_lenO oR hR rfl rfl rfl ?_
        repeat (first | refine stp ?_ | (refine k_indexAddr ?_; first | (refine o_ixA _ rfl rfl rfl rfl rfl (h := ?_); intro _) | (refine o_ixB rfl rfl rfl rfl (h := ?_); intro _)) | (refine k_load ?_; refine o_loadF rfl rfl rfl rfl ?_) | (refine stb ?_; intro _))
        refine o_lendV rfl rfl rfl rfl hsp rfl (LEnts.cons (a := LEnt.of) (b := LEnts.cons (a := LEnt.own oR 3 hR inferInstance (fun p hp => by simp [hp])) (b := LEnts.nil))) ?_
        repeat (first | refine stp ?_ | (refine k_indexAddr ?_; first | (refine o_ixA _ rfl rfl rfl rfl rfl (h := ?_); intro _) | (refine o_ixB rfl rfl rfl rfl (h := ?_); intro _)) | (refine k_load ?_; refine o_loadF rfl rfl rfl rfl ?_) | (refine stb ?_; intro _))
        refine G.ret rfl (.cons (.tmp rfl) .nil) (Φ' := []) (M' := []) inferInstance (List.nil_sublist _) ⟨?_, rfl, rfl⟩
        rfl
      · repeat (first | refine stp ?_ | (refine k_indexAddr ?_; first | (refine o_ixA _ rfl rfl rfl rfl rfl (h := ?_); intro _) | (refine o_ixB rfl rfl rfl rfl (h := ?_); intro _)) | (refine k_load ?_; refine o_loadF rfl rfl rfl rfl ?_) | (refine stb ?_; intro _))
        refine o_lenO oR hR rfl rfl rfl ?_
        repeat (first | refine stp ?_ | (refine k_indexAddr ?_; first | (refine o_ixA _ rfl rfl rfl rfl rfl (h := ?_); intro _) | (refine o_ixB rfl rfl rfl rfl (h := ?_); intro _)) | (refine k_load ?_; refine o_loadF rfl rfl rfl rfl ?_) | (refine stb ?_; intro _))
        refine o_lendV rfl rfl rfl rfl hsp rfl (LEnts.cons (a := LEnt.of) (b := LEnts.cons (a := LEnt.own oR 3 hR inferInstance (fun p hp => by simp [hp])) (b := LEnts.nil))) ?_
        repeat (first | refine stp ?_ | (refine k_indexAddr ?_; first | (refine o_ixA _ rfl rfl rfl rfl rfl (h := ?_); intro _) | (refine o_ixB rfl rfl rfl rfl (h := ?_); intro _)) | (refine k_load ?_; refine o_loadF rfl rfl rfl rfl ?_) | (refine stb ?_; intro _))
        refine G.ret rfl (.cons (.tmp rfl) .nil) (Φ' := []) (M' := []) inferInstance (List.nil_sublist _) ⟨?_, rfl, rfl⟩
        rfl
  obtain ⟨h80, h8⟩ := hend
  have hrd := ready_spec v6 (.slice (some ⟨bb, 0, none⟩) l.length l.length) (.slice (some ⟨bd, 0, none⟩) l.length l.length) l B Dd hlx hfit (by omega) (by omega)
  rw [run_err hok, run_ready hok] at hrd
  have hmr := fun v (hv : v ∈ readyP l B Dd l.length) => mem_ready hv
  have hsome := hI.some
  have hrl := readyP_length l B Dd l.length
  generalize readyP l B Dd l.length = r at hrd hmr hsome hrl
  repeat (first | refine stp ?_ | (refine k_indexAddr ?_; first | (refine o_ixA _ rfl rfl rfl rfl rfl (h := ?_); intro _) | (refine o_ixB rfl rfl rfl rfl (h := ?_); intro _)) | (refine k_load ?_; refine o_loadF rfl rfl rfl rfl ?_) | (refine stb ?_; intro _))
  refine o_lendU (mk := tupE 0) rfl rfl rfl rfl hrd (LEnts.cons (a := LEnt.of) (b := LEnts.cons (a := LEnt.own (some (bb, cB B)) 4 (own_cB bb B hBl.symm) (Ent'.cB (xs := B)) (fun p hp => by simp [ownM] at hp; simp [hp])) (b := LEnts.cons (a := LEnt.own (some (bd, cB Dd)) 4 (own_cB bd Dd hDl.symm) (Ent'.cB (xs := Dd)) (fun p hp => by simp [ownM] at hp; simp [hp])) (b := LEnts.nil)))) ?_
  intro v12 o12 h12
  unfold tupE
  refine G.giveOwn2 v12 r o12 3 h12 inferInstance (List.Perm.refl _) ?_
  have hPb : In64 (pkP picks i) := by
    unfold pkP
    cases hp : picks[i]? with
    | none => exact ⟨⟨by dsimp only; omega, by dsimp only; omega⟩, ⟨by dsimp only; omega, by dsimp only; omega⟩⟩
    | some p => exact o1.2 p (List.mem_of_getElem? hp)
  have hp1 := pick_spec (pkP picks i).1 2 (by decide) (by decide) hPb.1
  by_cases hr0 : r.length = 0
  · have hrn : r = [] := List.length_eq_zero_iff.1 hr0
    by_cases hO0 : O.length = 0
    · have hRn : ¬ R.length < l.length := fun h => hsome (List.length_eq_zero_iff.1 hO0) h hrn
      repeat (first | refine stp ?_ | (refine k_indexAddr ?_; first | (refine o_ixA _ rfl rfl rfl rfl rfl (h := ?_); intro _) | (refine o_ixB rfl rfl rfl rfl (h := ?_); intro _)) | (refine k_load ?_; refine o_loadF rfl rfl rfl rfl ?_) | (refine stb ?_; intro _))
      refine o_lenO oO hO rfl rfl rfl ?_
      repeat (first | refine stp ?_ | (refine k_indexAddr ?_; first | (refine o_ixA _ rfl rfl rfl rfl rfl (h := ?_); intro _) | (refine o_ixB rfl rfl rfl rfl (h := ?_); intro _)) | (refine k_load ?_; refine o_loadF rfl rfl rfl rfl ?_) | (refine stb ?_; intro _))
      refine o_lenO oR hR rfl rfl rfl ?_
      repeat (first | refine stp ?_ | (refine k_indexAddr ?_; first | (refine o_ixA _ rfl rfl rfl rfl rfl (h := ?_); intro _) | (refine o_ixB rfl rfl rfl rfl (h := ?_); intro _)) | (refine k_load ?_; refine o_loadF rfl rfl rfl rfl ?_) | (refine stb ?_; intro _))
      rename_i b14
      refine W.cutThen [fRp v12 r, fRp v6 l, fRp v1 picks, fRow (ocells oO) O, fRow (ocells oR) R] [(1, v1), (5, .bool true), (6, v6), (7, .slice (some ⟨bb, 0, none⟩) l.length l.length), (8, .slice (some ⟨bd, 0, none⟩) l.length l.length), (9, v9), (10, v10), (11, .int .i64 i), (12, v12), (14, .pointer (some ⟨b14, 0, none⟩))] ((b14, Ob [.int .i64 (pkP picks i).1, .int .i64 (pkP picks i).2] 52) :: (bd, Ob (cB Dd) 4) :: (bb, Ob (cB B) 4) :: (ownM 3 oO ++ ownM 3 oR)) ?_ ?_
      · refine W.cond rfl (fun hb => ?_) (fun hb => ?_)
        · have hpi : i < picks.length := by have := of_decide_eq_true hb; omega
          have hpp : pkP picks i = picks[i] := by rw [pkP, List.getElem?_eq_getElem hpi]
          rw [hpp]
          repeat (first | refine stp ?_ | (refine k_indexAddr ?_; first | (refine o_ixA _ rfl rfl rfl rfl rfl (h := ?_); intro _) | (refine o_ixB rfl rfl rfl rfl (h := ?_); intro _)) | (refine k_load ?_; refine o_loadF rfl rfl rfl rfl ?_) | (refine stb ?_; intro _))
          exact G.kp inferInstance (look_sub_cons rfl (look_sub_cons rfl (look_sub_cons rfl (look_sub_cons rfl (look_sub_cons rfl (look_sub_cons rfl (look_sub_cons rfl (look_sub_cons rfl (look_sub_cons rfl (look_sub_cons rfl look_sub_nil)))))))))) (List.Sublist.refl _)
        · have hpi : ¬ i < picks.length := by have := of_decide_eq_false hb; omega
          have hpp : pkP picks i = ((i : Int), (i : Int)) := by rw [pkP, List.getElem?_eq_none (by omega)]
          rw [hpp]
          repeat (first | refine stp ?_ | (refine k_indexAddr ?_; first | (refine o_ixA _ rfl rfl rfl rfl rfl (h := ?_); intro _) | (refine o_ixB rfl rfl rfl rfl (h := ?_); intro _)) | (refine k_load ?_; refine o_loadF rfl rfl rfl rfl ?_) | (refine stb ?_; intro _))
          exact G.kp inferInstance (look_sub_cons rfl (look_sub_cons rfl (look_sub_cons rfl (look_sub_cons rfl (look_sub_cons rfl (look_sub_cons rfl (look_sub_cons rfl (look_sub_cons rfl (look_sub_cons rfl (look_sub_cons rfl look_sub_nil)))))))))) (List.Sublist.refl _)
      · repeat (first | refine stp ?_ | (refine k_indexAddr ?_; first | (refine o_ixA _ rfl rfl rfl rfl rfl (h := ?_); intro _) | (refine o_ixB rfl rfl rfl rfl (h := ?_); intro _)) | (refine k_load ?_; refine o_loadF rfl rfl rfl rfl ?_) | (refine stb ?_; intro _))
        refine o_lenO oO hO rfl rfl rfl ?_
        repeat (first | refine stp ?_ | (refine k_indexAddr ?_; first | (refine o_ixA _ rfl rfl rfl rfl rfl (h := ?_); intro _) | (refine o_ixB rfl rfl rfl rfl (h := ?_); intro _)) | (refine k_load ?_; refine o_loadF rfl rfl rfl rfl ?_) | (refine stb ?_; intro _))
        exact G.again (S := RuSt) ⟨i + 1, B, Dd, v9, oO, O, v10, oR, R⟩ (by dsimp only; omega) ⟨by dsimp only; omega, hI, hO, hR⟩ inferInstance (look_sub_cons rfl (look_sub_cons rfl (look_sub_cons rfl (look_sub_cons rfl (look_sub_cons rfl (look_sub_cons rfl (look_sub_cons rfl (look_sub_cons rfl look_sub_nil)))))))) (.cons _ (List.Sublist.refl _))
    · skip
      cases oO with
      | none => exact absurd hO.2 (by omega)
      | some q9 =>
      obtain ⟨b9, cs9⟩ := q9
      obtain ⟨cap9, hv9, hcs9, hcap9⟩ := hO
      subst hv9
      show G _ (fRp v12 r :: fRow (ocells o12) r :: fRp v6 l :: fRp v1 picks :: fRow cs9 O :: fRow (ocells oR) R :: []) _ ((bd, Ob (cB Dd) 4) :: (bb, Ob (cB B) 4) :: (b9, Ob cs9 3) :: ownM 3 oR) _
      repeat (first | refine stp ?_ | (refine k_indexAddr ?_; first | (refine o_ixA _ rfl rfl rfl rfl rfl (h := ?_); intro _) | (refine o_ixB rfl rfl rfl rfl (h := ?_); intro _)) | (refine k_load ?_; refine o_loadF rfl rfl rfl rfl ?_) | (refine stb ?_; intro _))
      rename_i b14
      refine W.cutThen [fRp v12 r, fRp v6 l, fRp v1 picks, fRow cs9 O, fRow (ocells oR) R] [(1, v1), (5, .bool true), (6, v6), (7, .slice (some ⟨bb, 0, none⟩) l.length l.length), (8, .slice (some ⟨bd, 0, none⟩) l.length l.length), (9, (.slice (some ⟨b9, 0, none⟩) O.length cap9)), (10, v10), (11, .int .i64 i), (12, v12), (14, .pointer (some ⟨b14, 0, none⟩))] ((b14, Ob [.int .i64 (pkP picks i).1, .int .i64 (pkP picks i).2] 52) :: (bd, Ob (cB Dd) 4) :: (bb, Ob (cB B) 4) :: (b9, Ob cs9 3) :: ownM 3 oR) ?_ ?_
      · refine W.cond rfl (fun hb => ?_) (fun hb => ?_)
        · have hpi : i < picks.length := by have := of_decide_eq_true hb; omega
          have hpp : pkP picks i = picks[i] := by rw [pkP, List.getElem?_eq_getElem hpi]
          rw [hpp]
          repeat (first | refine stp ?_ | (refine k_indexAddr ?_; first | (refine o_ixA _ rfl rfl rfl rfl rfl (h := ?_); intro _) | (refine o_ixB rfl rfl rfl rfl (h := ?_); intro _)) | (refine k_load ?_; refine o_loadF rfl rfl rfl rfl ?_) | (refine stb ?_; intro _))
          exact G.kp inferInstance (look_sub_cons rfl (look_sub_cons rfl (look_sub_cons rfl (look_sub_cons rfl (look_sub_cons rfl (look_sub_cons rfl (look_sub_cons rfl (look_sub_cons rfl (look_sub_cons rfl (look_sub_cons rfl look_sub_nil)))))))))) (List.Sublist.refl _)
        · have hpi : ¬ i < picks.length := by have := of_decide_eq_false hb; omega
          have hpp : pkP picks i = ((i : Int), (i : Int)) := by rw [pkP, List.getElem?_eq_none (by omega)]
          rw [hpp]
          repeat (first | refine stp ?_ | (refine k_indexAddr ?_; first | (refine o_ixA _ rfl rfl rfl rfl rfl (h := ?_); intro _) | (refine o_ixB rfl rfl rfl rfl (h := ?_); intro _)) | (refine k_load ?_; refine o_loadF rfl rfl rfl rfl ?_) | (refine stb ?_; intro _))
          exact G.kp inferInstance (look_sub_cons rfl (look_sub_cons rfl (look_sub_cons rfl (look_sub_cons rfl (look_sub_cons rfl (look_sub_cons rfl (look_sub_cons rfl (look_sub_cons rfl (look_sub_cons rfl (look_sub_cons rfl look_sub_nil)))))))))) (List.Sublist.refl _)
      · generalize pkP picks i = P at hPb hp1 ⊢
        have hO1 : 0 < O.length := by omega
        have hj := pickN_lt P.2 (n := O.length) hO1
        have hpj := pick_spec P.2 O.length hO1 (by omega) hPb.2
        generalize pickN P.2 O.length = j at hj hpj
        obtain ⟨k, hk, ek, hI'⟩ := hI.ends hj
        have hkD : k < Dd.length := by omega
        repeat (first | refine stp ?_ | (refine k_indexAddr ?_; first | (refine o_ixA _ rfl rfl rfl rfl rfl (h := ?_); intro _) | (refine o_ixB rfl rfl rfl rfl (h := ?_); intro _)) | (refine k_load ?_; refine o_loadF rfl rfl rfl rfl ?_) | (refine stb ?_; intro _))
        refine o_callV rfl rfl rfl rfl hpj rfl ?_
        repeat (first | refine stp ?_ | (refine k_indexAddr ?_; first | (refine o_ixA _ rfl rfl rfl rfl rfl (h := ?_); intro _) | (refine o_ixB rfl rfl rfl rfl (h := ?_); intro _)) | (refine k_load ?_; refine o_loadF rfl rfl rfl rfl ?_) | (refine stb ?_; intro _))
        refine o_idxO rfl rfl rfl rfl (by omega) (by omega) (o' := j) (by omega) ?_
        refine G.cons ?_
        refine o_loadO (α := Int) (xs := O) j hj rfl rfl rfl rfl (Nat.mul_one _).symm ?_
        repeat (first | refine stp ?_ | (refine k_indexAddr ?_; first | (refine o_ixA _ rfl rfl rfl rfl rfl (h := ?_); intro _) | (refine o_ixB rfl rfl rfl rfl (h := ?_); intro _)) | (refine k_load ?_; refine o_loadF rfl rfl rfl rfl ?_) | (refine stb ?_; intro _))
        refine o_idxO rfl rfl rfl rfl (by omega) (by omega) (o' := k) (by omega) ?_
        refine G.cons ?_
        refine o_storeB k true (by omega) rfl rfl rfl rfl ?_
        repeat (first | refine stp ?_ | (refine k_indexAddr ?_; first | (refine o_ixA _ rfl rfl rfl rfl rfl (h := ?_); intro _) | (refine o_ixB rfl rfl rfl rfl (h := ?_); intro _)) | (refine k_load ?_; refine o_loadF rfl rfl rfl rfl ?_) | (refine stb ?_; intro _))
        refine W.bare (G.giveOwn (.slice (some ⟨b9, 0, none⟩) O.length cap9) O (some (b9, cs9)) 3 (Mr := (b14, Ob [.int .i64 P.1, .int .i64 P.2] 52) :: (bd, Ob (cB (Dd.set k true)) 4) :: (bb, Ob (cB B) 4) :: ownM 3 oR) ⟨cap9, rfl, hcs9, hcap9⟩ ⟨fun I hp => Ent'.h (φ := fRow cs9 O) I hp⟩ (List.perm_middle (l₁ := [_, _, _])) ?_)
        refine G.code ?_
        obtain ⟨X1, eX⟩ : ∃ X1, (O.take j).drop 0 = X1 := ⟨_, rfl⟩
        obtain ⟨Y1, eY⟩ : ∃ Y1, (O.take O.length).drop (j + 1) = Y1 := ⟨_, rfl⟩
        have lX : X1.length = j := by rw [← eX]; simp; omega
        have lY : Y1.length = O.length - (j + 1) := by rw [← eY]; simp
        have eXY : O.take j ++ O.drop (j + 1) = X1 ++ Y1 := by rw [← eX, ← eY, List.drop_zero, List.take_length]
        rw [eXY] at hI'
        refine W.drawX 9 (fun D c => (b14, Ob [.int .i64 P.1, .int .i64 P.2] 52) :: (bd, Ob (cB (Dd.set k true)) 4) :: (bb, Ob (cB B) 4) :: (bif D 8 then (ownM 3 oR ++ ownM 3 (co (c 8))) else bif D 3 then (ownM 3 oR ++ ownM 3 (co (c 3))) else ownM 3 oR)) [⟨?v0_1, fun _ z => []⟩, ⟨?v1_1, fun _ z => []⟩, ⟨fun _ z => z, fun _ z => [fRp z X1]⟩, ⟨fun _ z => cv z, fun _ z => [fPure (IsOwn 1 (cv z) X1.length (co z)), fRow (ocells (co z)) X1]⟩, ⟨?v4_1, fun _ z => []⟩, ⟨?v5_1, fun _ z => []⟩, ⟨?v6_1, fun _ z => []⟩, ⟨fun _ z => z, fun _ z => [fRp z Y1]⟩, ⟨fun _ z => cv z, fun _ z => [fPure (IsOwn 1 (cv z) (X1 ++ Y1).length (co z)), fRow (ocells (co z)) (X1 ++ Y1)]⟩] [[], [], [0, 1], [2], [], [], [5], [4, 6], [3, 7]] [8] (by kernel_rfl) (by kernel_rfl) (by kernel_rfl) (by kernel_rfl) ?loc_1 ?hz_1 ?ops_1 ?rest_1
        case ops_1 =>
          simp only [AllX, Nat.reduceAdd, and_true]
          refine ⟨?_, ?_, ?_, ?_, ?_, ?_, ?_, ?_, ?_⟩
          · intro D c z0 Φr Lr K hDi hAnc hDn hK; dsimp only [dstOf, dstX, putX, kval, kfac, ancE, ancX,  ancF, getD_z, getD_s, List.getElem?_cons_zero, List.getElem?_cons_succ, List.getElem?_nil, Option.getD_some, Option.getD_none, List.nil_append, List.cons_append, Option.getD] at hK ⊢; refine stp ?_; exact hK z0
          · intro D c z0 Φr Lr K hDi hAnc hDn hK; dsimp only [dstOf, dstX, putX, kval, kfac, ancE, ancX,  ancF, getD_z, getD_s, List.getElem?_cons_zero, List.getElem?_cons_succ, List.getElem?_nil, Option.getD_some, Option.getD_none, List.nil_append, List.cons_append, Option.getD] at hK ⊢; refine stp ?_; exact hK z0
          · intro D c z0 Φr Lr K hDi hAnc hDn hK; dsimp only [dstOf, dstX, putX, kval, kfac, ancE, ancX,  ancF, getD_z, getD_s, List.getElem?_cons_zero, List.getElem?_cons_succ, List.getElem?_nil, Option.getD_some, Option.getD_none, List.nil_append, List.cons_append, Option.getD] at hK ⊢; refine o_slice (xs := O) 0 j rfl rfl rfl rfl ⟨_, _, rfl, rfl⟩ (Nat.zero_le _) (by omega) ?_; intro z; rw [eX]; exact hK _
          · intro D c z0 Φr Lr K hDi hAnc hDn hK; dsimp only [dstOf, dstX, putX, kval, kfac, ancE, ancX,  ancF, getD_z, getD_s, List.getElem?_cons_zero, List.getElem?_cons_succ, List.getElem?_nil, Option.getD_some, Option.getD_none, List.nil_append, List.cons_append, Option.getD] at hK ⊢; have h8 : D 8 = false := dnF hDn hDi (by kernel_rfl); simp only [updD, updC, hDi, h8, Nat.reduceEqDiff, ↓reduceIte, cond_true, cond_false, List.append_nil, List.nil_append] at hK ⊢; refine o_app2 (Mr := (b14, Ob [.int .i64 P.1, .int .i64 P.2] 52) :: (bd, Ob (cB (Dd.set k true)) 4) :: (bb, Ob (cB B) 4) :: ownM 3 oR) none (xs := ([] : List Int)) (ys := X1) ⟨rfl, rfl⟩ ⟨by simp; omega, by simp; omega, rfl⟩ rfl rfl rfl rfl inferInstance inferInstance (by rw [show ownM 3 none = ([] : Own) from rfl, List.append_nil]) ?_; intro v' o' hown'; have hk := hK (codeO v' o'); simp only [cv_code, co_code] at hk; refine G.learn (fPure (IsOwn 1 v' _ o')) (e := ⟨fun _ _ => hown'⟩) ?_; exact hk; skip
          · intro D c z0 Φr Lr K hDi hAnc hDn hK; dsimp only [dstOf, dstX, putX, kval, kfac, ancE, ancX,  ancF, getD_z, getD_s, List.getElem?_cons_zero, List.getElem?_cons_succ, List.getElem?_nil, Option.getD_some, Option.getD_none, List.nil_append, List.cons_append, Option.getD] at hK ⊢; refine stp ?_; exact hK z0
          · intro D c z0 Φr Lr K hDi hAnc hDn hK; dsimp only [dstOf, dstX, putX, kval, kfac, ancE, ancX,  ancF, getD_z, getD_s, List.getElem?_cons_zero, List.getElem?_cons_succ, List.getElem?_nil, Option.getD_some, Option.getD_none, List.nil_append, List.cons_append, Option.getD] at hK ⊢; refine stp ?_; exact hK z0
          · intro D c z0 Φr Lr K hDi hAnc hDn hK; dsimp only [dstOf, dstX, putX, kval, kfac, ancE, ancX,  ancF, getD_z, getD_s, List.getElem?_cons_zero, List.getElem?_cons_succ, List.getElem?_nil, Option.getD_some, Option.getD_none, List.nil_append, List.cons_append, Option.getD] at hK ⊢; refine o_int rfl rfl rfl rfl (i_add (by omega) (by omega)) ?_; exact hK z0
          · intro D c z0 Φr Lr K hDi hAnc hDn hK; dsimp only [dstOf, dstX, putX, kval, kfac, ancE, ancX,  ancF, getD_z, getD_s, List.getElem?_cons_zero, List.getElem?_cons_succ, List.getElem?_nil, Option.getD_some, Option.getD_none, List.nil_append, List.cons_append, Option.getD] at hK ⊢; refine o_slice (xs := O) (j + 1) O.length rfl rfl rfl ⟨_, _, rfl, rfl⟩ rfl (by omega) (Nat.le_refl _) ?_; intro z; rw [eY]; exact hK _
          · intro D c z0 Φr Lr K hDi hAnc hDn hK; dsimp only [dstOf, dstX, putX, kval, kfac, ancE, ancX,  ancF, getD_z, getD_s, List.getElem?_cons_zero, List.getElem?_cons_succ, List.getElem?_nil, Option.getD_some, Option.getD_none, List.nil_append, List.cons_append, Option.getD] at hK ⊢; have h3 : D 3 = true := hAnc 3 (by kernel_rfl); simp only [updD, updC, hDi, h3, Nat.reduceEqDiff, ↓reduceIte, cond_true, cond_false, List.append_nil, List.nil_append] at hK ⊢; refine OpK.bare (G.use (p := IsOwn 1 (cv (c 3)) (X1).length (co (c 3))) (fun I hp => hp (fPure _) (by first | exact .head _ | exact .tail _ (.head _) | exact .tail _ (.tail _ (.head _)) | exact .tail _ (.tail _ (.tail _ (.head _))) | exact .tail _ (.tail _ (.tail _ (.tail _ (.head _)))) | exact .tail _ (.tail _ (.tail _ (.tail _ (.tail _ (.head _))))) | exact .tail _ (.tail _ (.tail _ (.tail _ (.tail _ (.tail _ (.head _)))))) | exact .tail _ (.tail _ (.tail _ (.tail _ (.tail _ (.tail _ (.tail _ (.head _))))))))) ?_); intro hown3; refine OpK.back ?_; refine o_app2 (Mr := (b14, Ob [.int .i64 P.1, .int .i64 P.2] 52) :: (bd, Ob (cB (Dd.set k true)) 4) :: (bb, Ob (cB B) 4) :: ownM 3 oR) (co (c 3)) (xs := X1) (ys := Y1) hown3 ⟨by omega, by omega, rfl⟩ rfl rfl rfl rfl inferInstance inferInstance (List.Perm.refl _) ?_; intro v' o' hown'; have hk := hK (codeO v' o'); simp only [cv_code, co_code] at hk; refine G.learn (fPure (IsOwn 1 v' _ o')) (e := ⟨fun _ _ => hown'⟩) ?_; exact hk; skip
        case hz_1 => intro c; rfl
        case loc_1 =>
          simp only [AllL, Nat.reduceAdd, and_true]
          refine ⟨?_, ?_, ?_, ?_, ?_, ?_, ?_, ?_, ?_⟩
          all_goals (intro c c' z h; first | exact ⟨rfl, rfl⟩ | (skip))
        intro c
        dsimp only [dstOf, dstX, putX, kval, kfac, ancE, ancX,  ancF, getD_z, getD_s, List.getElem?_cons_zero, List.getElem?_cons_succ, List.getElem?_nil, Option.getD_some, Option.getD_none, List.nil_append, List.cons_append, List.drop_succ_cons, List.drop_zero, Option.getD]
        refine LW.bare (G.use (p := IsOwn 1 (cv (c 8)) (X1 ++ Y1).length (co (c 8))) (fun I hp => hp (fPure _) (by first | exact .head _ | exact .tail _ (.head _) | exact .tail _ (.tail _ (.head _)) | exact .tail _ (.tail _ (.tail _ (.head _))) | exact .tail _ (.tail _ (.tail _ (.tail _ (.head _)))) | exact .tail _ (.tail _ (.tail _ (.tail _ (.tail _ (.head _))))) | exact .tail _ (.tail _ (.tail _ (.tail _ (.tail _ (.tail _ (.head _)))))) | exact .tail _ (.tail _ (.tail _ (.tail _ (.tail _ (.tail _ (.tail _ (.head _))))))))) ?_)
        intro hown8
        refine G.perm ?_ (show List.Perm _ ((b14, Ob [.int .i64 P.1, .int .i64 P.2] 52) :: (bd, Ob (cB (Dd.set k true)) 4) :: (bb, Ob (cB B) 4) :: (ownM 3 (co (c 8)) ++ ownM 3 oR)) from ((List.perm_append_comm.cons _).cons _).cons _)
        repeat (first | refine stp ?_ | (refine k_indexAddr ?_; first | (refine o_ixA _ rfl rfl rfl rfl rfl (h := ?_); intro _) | (refine o_ixB rfl rfl rfl rfl (h := ?_); intro _)) | (refine k_load ?_; refine o_loadF rfl rfl rfl rfl ?_) | (refine stb ?_; intro _))
        exact G.again (S := RuSt) ⟨i + 1, B, Dd.set k true, cv (c 8), co (c 8), X1 ++ Y1, v10, oR, R⟩ (by dsimp only; omega) ⟨by dsimp only; omega, hI', hown8, hR⟩ inferInstance (look_sub_cons rfl (look_sub_cons rfl (look_sub_cons rfl (look_sub_cons rfl (look_sub_cons rfl (look_sub_cons rfl (look_sub_cons rfl (look_sub_cons rfl look_sub_nil)))))))) (.cons _ (List.Sublist.refl _))
  by_cases hO0 : O.length = 0
  · by_cases hpick : pickN (pkP picks i).1 2 = 0
    · skip
      repeat (first | refine stp ?_ | (refine k_indexAddr ?_; first | (refine o_ixA _ rfl rfl rfl rfl rfl (h := ?_); intro _) | (refine o_ixB rfl rfl rfl rfl (h := ?_); intro _)) | (refine k_load ?_; refine o_loadF rfl rfl rfl rfl ?_) | (refine stb ?_; intro _))
      refine o_lenO oO hO rfl rfl rfl ?_
      repeat (first | refine stp ?_ | (refine k_indexAddr ?_; first | (refine o_ixA _ rfl rfl rfl rfl rfl (h := ?_); intro _) | (refine o_ixB rfl rfl rfl rfl (h := ?_); intro _)) | (refine k_load ?_; refine o_loadF rfl rfl rfl rfl ?_) | (refine stb ?_; intro _))
      rename_i b14
      refine W.cutThen [fRp v12 r, fRp v6 l, fRp v1 picks, fRow (ocells oO) O, fRow (ocells oR) R] [(1, v1), (5, .bool true), (6, v6), (7, .slice (some ⟨bb, 0, none⟩) l.length l.length), (8, .slice (some ⟨bd, 0, none⟩) l.length l.length), (9, v9), (10, v10), (11, .int .i64 i), (12, v12), (14, .pointer (some ⟨b14, 0, none⟩))] ((b14, Ob [.int .i64 (pkP picks i).1, .int .i64 (pkP picks i).2] 52) :: (bd, Ob (cB Dd) 4) :: (bb, Ob (cB B) 4) :: (ownM 3 oO ++ ownM 3 oR)) ?_ ?_
      · refine W.cond rfl (fun hb => ?_) (fun hb => ?_)
        · have hpi : i < picks.length := by have := of_decide_eq_true hb; omega
          have hpp : pkP picks i = picks[i] := by rw [pkP, List.getElem?_eq_getElem hpi]
          rw [hpp]
          repeat (first | refine stp ?_ | (refine k_indexAddr ?_; first | (refine o_ixA _ rfl rfl rfl rfl rfl (h := ?_); intro _) | (refine o_ixB rfl rfl rfl rfl (h := ?_); intro _)) | (refine k_load ?_; refine o_loadF rfl rfl rfl rfl ?_) | (refine stb ?_; intro _))
          exact G.kp inferInstance (look_sub_cons rfl (look_sub_cons rfl (look_sub_cons rfl (look_sub_cons rfl (look_sub_cons rfl (look_sub_cons rfl (look_sub_cons rfl (look_sub_cons rfl (look_sub_cons rfl (look_sub_cons rfl look_sub_nil)))))))))) (List.Sublist.refl _)
        · have hpi : ¬ i < picks.length := by have := of_decide_eq_false hb; omega
          have hpp : pkP picks i = ((i : Int), (i : Int)) := by rw [pkP, List.getElem?_eq_none (by omega)]
          rw [hpp]
          repeat (first | refine stp ?_ | (refine k_indexAddr ?_; first | (refine o_ixA _ rfl rfl rfl rfl rfl (h := ?_); intro _) | (refine o_ixB rfl rfl rfl rfl (h := ?_); intro _)) | (refine k_load ?_; refine o_loadF rfl rfl rfl rfl ?_) | (refine stb ?_; intro _))
          exact G.kp inferInstance (look_sub_cons rfl (look_sub_cons rfl (look_sub_cons rfl (look_sub_cons rfl (look_sub_cons rfl (look_sub_cons rfl (look_sub_cons rfl (look_sub_cons rfl (look_sub_cons rfl (look_sub_cons rfl look_sub_nil)))))))))) (List.Sublist.refl _)
      · generalize pkP picks i = P at hPb hp1 hpick ⊢
        have hr1 : 0 < r.length := by omega
        have hj := pickN_lt P.2 (n := r.length) hr1
        have hpj := pick_spec P.2 r.length hr1 (by omega) hPb.2
        generalize pickN P.2 r.length = j at hj hpj
        obtain ⟨k, hk, hkv, hbk, hwk⟩ := hmr r[j] (List.getElem_mem hj)
        have hkB : k < B.length := by omega
        have hBk : B[k] = false := by rw [getD_get hkB]; exact hbk
        repeat (first | refine stp ?_ | (refine k_indexAddr ?_; first | (refine o_ixA _ rfl rfl rfl rfl rfl (h := ?_); intro _) | (refine o_ixB rfl rfl rfl rfl (h := ?_); intro _)) | (refine k_load ?_; refine o_loadF rfl rfl rfl rfl ?_) | (refine stb ?_; intro _))
        refine o_callV rfl rfl rfl rfl hp1 rfl ?_
        rw [hpick]
        repeat (first | refine stp ?_ | (refine k_indexAddr ?_; first | (refine o_ixA _ rfl rfl rfl rfl rfl (h := ?_); intro _) | (refine o_ixB rfl rfl rfl rfl (h := ?_); intro _)) | (refine k_load ?_; refine o_loadF rfl rfl rfl rfl ?_) | (refine stb ?_; intro _))
        refine o_callV rfl rfl rfl rfl hpj rfl ?_
        repeat (first | refine stp ?_ | (refine k_indexAddr ?_; first | (refine o_ixA _ rfl rfl rfl rfl rfl (h := ?_); intro _) | (refine o_ixB rfl rfl rfl rfl (h := ?_); intro _)) | (refine k_load ?_; refine o_loadF rfl rfl rfl rfl ?_) | (refine stb ?_; intro _))
        refine o_idxO rfl rfl rfl rfl (by omega) (by omega) (o' := k) (by omega) ?_
        repeat (first | refine stp ?_ | (refine k_indexAddr ?_; first | (refine o_ixA _ rfl rfl rfl rfl rfl (h := ?_); intro _) | (refine o_ixB rfl rfl rfl rfl (h := ?_); intro _)) | (refine k_load ?_; refine o_loadF rfl rfl rfl rfl ?_) | (refine stb ?_; intro _))
        refine o_loadB k hkB rfl rfl rfl rfl ?_
        rw [hBk]
        repeat (first | refine stp ?_ | (refine k_indexAddr ?_; first | (refine o_ixA _ rfl rfl rfl rfl rfl (h := ?_); intro _) | (refine o_ixB rfl rfl rfl rfl (h := ?_); intro _)) | (refine k_load ?_; refine o_loadF rfl rfl rfl rfl ?_) | (refine stb ?_; intro _))
        rw [hkv]
        refine W.loopI (fun (q : Nat) => ([fRp v6 l, fRp v1 picks, fRow (ocells oO) O, fRow (ocells oR) R], [(1, v1), (5, .bool true), (6, v6), (7, .slice (some ⟨bb, 0, none⟩) l.length l.length), (8, .slice (some ⟨bd, 0, none⟩) l.length l.length), (9, v9), (10, v10), (11, .int .i64 i), (15, .int .i64 (k : Int)), (16, .int .i64 q)], (bd, Ob (cB Dd) 4) :: (bb, Ob (cB B) 4) :: (ownM 3 oO ++ ownM 3 oR))) (fun q => q ≤ O.length) (fun q => O.length - q) 0 (Nat.zero_le _) inferInstance (look_sub_cons rfl (look_sub_cons rfl (look_sub_cons rfl (look_sub_cons rfl (look_sub_cons rfl (look_sub_cons rfl (look_sub_cons rfl (look_sub_cons rfl (look_sub_cons rfl (look_sub_cons rfl look_sub_nil)))))))))) (.cons _ (List.Sublist.refl _)) ?_
        intro q hq
        dsimp only
        by_cases hq0 : q = O.length
        case neg =>
          have hq1 : q < O.length := by omega
          obtain ⟨k', hk', ek', _, _⟩ := (hI.om _).1 (List.getElem_mem hq1)
          have hfree := hI.free hk hbk hwk (i := k') (by rw [← ek']; exact List.getElem_mem hq1)
          rw [clG_eq hk' hk] at hfree
          have hs1 := hfit l[k'] (List.getElem_mem hk')
          have hs2 := hfit l[k] (List.getElem_mem hk)
          cases oO with
          | none => exact absurd hO.2 (by omega)
          | some q9 =>
          obtain ⟨b9, cs9⟩ := q9
          obtain ⟨cap9, hv9, hcs9, hcap9⟩ := hO
          subst hv9
          show W _ _ _ (fRp v6 l :: fRp v1 picks :: fRow cs9 O :: fRow (ocells oR) R :: []) _ ((bd, Ob (cB Dd) 4) :: (bb, Ob (cB B) 4) :: (b9, Ob cs9 3) :: ownM 3 oR)
          repeat (first | refine stp ?_ | (refine k_indexAddr ?_; first | (refine o_ixA _ rfl rfl rfl rfl rfl (h := ?_); intro _) | (refine o_ixB rfl rfl rfl rfl (h := ?_); intro _)) | (refine k_load ?_; refine o_loadF rfl rfl rfl rfl ?_) | (refine stb ?_; intro _))
          refine W.draw 12 [⟨?v0_2, fun _ z => []⟩, ⟨?v1_2, fun _ z => []⟩, ⟨?v2_2, fun _ z => []⟩, ⟨?v3_2, fun _ z => []⟩, ⟨?v4_2, fun _ z => []⟩, ⟨fun _ z => z, fun _ z => [fPt z l[k']]⟩, ⟨fun _ z => z, fun _ z => [fRp z l[k']]⟩, ⟨?v7_2, fun _ z => []⟩, ⟨?v8_2, fun _ z => []⟩, ⟨fun _ z => z, fun _ z => [fPt z l[k]]⟩, ⟨fun _ z => z, fun _ z => [fRp z l[k]]⟩, ⟨?v11_2, fun _ z => []⟩] [[], [], [], [1, 2], [3], [0, 4], [5], [], [], [7, 8], [9], [6, 10]] [11] (by kernel_rfl) (by kernel_rfl) (by kernel_rfl) (by kernel_rfl) ?loc_2 ?ops_2 ?rest_2
          case ops_2 =>
            simp only [AllQ, Nat.reduceAdd, and_true]
            refine ⟨?_, ?_, ?_, ?_, ?_, ?_, ?_, ?_, ?_, ?_, ?_, ?_⟩
            · intro c z0 Φr Lr K hK; dsimp only [dstOf, kval, kfac, ancE,  ancF, getD_z, getD_s, List.getElem?_cons_zero, List.getElem?_cons_succ, List.getElem?_nil, Option.getD_some, Option.getD_none, List.nil_append, List.cons_append, Option.getD] at hK ⊢; refine stp ?_; exact hK z0
            · intro c z0 Φr Lr K hK; dsimp only [dstOf, kval, kfac, ancE,  ancF, getD_z, getD_s, List.getElem?_cons_zero, List.getElem?_cons_succ, List.getElem?_nil, Option.getD_some, Option.getD_none, List.nil_append, List.cons_append, Option.getD] at hK ⊢; refine stp ?_; exact hK z0
            · intro c z0 Φr Lr K hK; dsimp only [dstOf, kval, kfac, ancE,  ancF, getD_z, getD_s, List.getElem?_cons_zero, List.getElem?_cons_succ, List.getElem?_nil, Option.getD_some, Option.getD_none, List.nil_append, List.cons_append, Option.getD] at hK ⊢; refine stp ?_; exact hK z0
            · intro c z0 Φr Lr K hK; dsimp only [dstOf, kval, kfac, ancE,  ancF, getD_z, getD_s, List.getElem?_cons_zero, List.getElem?_cons_succ, List.getElem?_nil, Option.getD_some, Option.getD_none, List.nil_append, List.cons_append, Option.getD] at hK ⊢; refine o_idxO rfl rfl rfl rfl (by omega) (by omega) (o' := q) (by omega) ?_; exact hK z0
            · intro c z0 Φr Lr K hK; dsimp only [dstOf, kval, kfac, ancE,  ancF, getD_z, getD_s, List.getElem?_cons_zero, List.getElem?_cons_succ, List.getElem?_nil, Option.getD_some, Option.getD_none, List.nil_append, List.cons_append, Option.getD] at hK ⊢; refine o_loadO (α := Int) (xs := O) q hq1 rfl rfl rfl rfl (Nat.mul_one _).symm ?_; exact hK z0
            · intro c z0 Φr Lr K hK; dsimp only [dstOf, kval, kfac, ancE,  ancF, getD_z, getD_s, List.getElem?_cons_zero, List.getElem?_cons_succ, List.getElem?_nil, Option.getD_some, Option.getD_none, List.nil_append, List.cons_append, Option.getD] at hK ⊢; refine o_idxN k' rfl rfl rfl rfl ek' hk' ?_; intro p; exact hK _
            · intro c z0 Φr Lr K hK; dsimp only [dstOf, kval, kfac, ancE,  ancF, getD_z, getD_s, List.getElem?_cons_zero, List.getElem?_cons_succ, List.getElem?_nil, Option.getD_some, Option.getD_none, List.nil_append, List.cons_append, Option.getD] at hK ⊢; refine o_loadR rfl rfl rfl rfl ?_; intro p; exact hK _
            · intro c z0 Φr Lr K hK; dsimp only [dstOf, kval, kfac, ancE,  ancF, getD_z, getD_s, List.getElem?_cons_zero, List.getElem?_cons_succ, List.getElem?_nil, Option.getD_some, Option.getD_none, List.nil_append, List.cons_append, Option.getD] at hK ⊢; refine stp ?_; exact hK z0
            · intro c z0 Φr Lr K hK; dsimp only [dstOf, kval, kfac, ancE,  ancF, getD_z, getD_s, List.getElem?_cons_zero, List.getElem?_cons_succ, List.getElem?_nil, Option.getD_some, Option.getD_none, List.nil_append, List.cons_append, Option.getD] at hK ⊢; refine stp ?_; exact hK z0
            · intro c z0 Φr Lr K hK; dsimp only [dstOf, kval, kfac, ancE,  ancF, getD_z, getD_s, List.getElem?_cons_zero, List.getElem?_cons_succ, List.getElem?_nil, Option.getD_some, Option.getD_none, List.nil_append, List.cons_append, Option.getD] at hK ⊢; refine o_idxN k rfl rfl rfl rfl rfl hk ?_; intro p; exact hK _
            · intro c z0 Φr Lr K hK; dsimp only [dstOf, kval, kfac, ancE,  ancF, getD_z, getD_s, List.getElem?_cons_zero, List.getElem?_cons_succ, List.getElem?_nil, Option.getD_some, Option.getD_none, List.nil_append, List.cons_append, Option.getD] at hK ⊢; refine o_loadR rfl rfl rfl rfl ?_; intro p; exact hK _
            · intro c z0 Φr Lr K hK; dsimp only [dstOf, kval, kfac, ancE,  ancF, getD_z, getD_s, List.getElem?_cons_zero, List.getElem?_cons_succ, List.getElem?_nil, Option.getD_some, Option.getD_none, List.nil_append, List.cons_append, Option.getD] at hK ⊢; refine o_callV rfl rfl rfl rfl (clashS_spec _ _ l[k'] l[k] hs1 hs2) (congrArg Value.bool hfree) ?_; exact hK z0
          case loc_2 =>
            simp only [AllL, Nat.reduceAdd, and_true]
            refine ⟨?_, ?_, ?_, ?_, ?_, ?_, ?_, ?_, ?_, ?_, ?_, ?_⟩
            all_goals (intro c c' z h; first | exact ⟨rfl, rfl⟩ | (skip))
          intro c
          dsimp only [dstOf, kval, kfac, ancE,  ancF, getD_z, getD_s, List.getElem?_cons_zero, List.getElem?_cons_succ, List.getElem?_nil, Option.getD_some, Option.getD_none, List.nil_append, List.cons_append, List.drop_succ_cons, List.drop_zero, Option.getD]
          repeat (first | refine stp ?_ | (refine k_indexAddr ?_; first | (refine o_ixA _ rfl rfl rfl rfl rfl (h := ?_); intro _) | (refine o_ixB rfl rfl rfl rfl (h := ?_); intro _)) | (refine k_load ?_; refine o_loadF rfl rfl rfl rfl ?_) | (refine stb ?_; intro _))
          exact G.again (S := Nat) (q + 1) (by omega) (by omega) (show Ents _ [fRp v6 l, fRp v1 picks, fRow cs9 O, fRow (ocells oR) R] from inferInstance) (look_sub_cons rfl (look_sub_cons rfl (look_sub_cons rfl (look_sub_cons rfl (look_sub_cons rfl (look_sub_cons rfl (look_sub_cons rfl (look_sub_cons rfl (look_sub_cons rfl (look_sub_cons rfl look_sub_nil)))))))))) (List.Sublist.refl _)
        subst hq0
        repeat (first | refine stp ?_ | (refine k_indexAddr ?_; first | (refine o_ixA _ rfl rfl rfl rfl rfl (h := ?_); intro _) | (refine o_ixB rfl rfl rfl rfl (h := ?_); intro _)) | (refine k_load ?_; refine o_loadF rfl rfl rfl rfl ?_) | (refine stb ?_; intro _))
        refine o_lenO oO hO rfl rfl rfl ?_
        repeat (first | refine stp ?_ | (refine k_indexAddr ?_; first | (refine o_ixA _ rfl rfl rfl rfl rfl (h := ?_); intro _) | (refine o_ixB rfl rfl rfl rfl (h := ?_); intro _)) | (refine k_load ?_; refine o_loadF rfl rfl rfl rfl ?_) | (refine stb ?_; intro _))
        refine o_idxO rfl rfl rfl rfl (by omega) (by omega) (o' := k) (by omega) ?_
        refine G.cons ?_
        refine o_storeB k true hkB rfl rfl rfl rfl ?_
        repeat (first | refine stp ?_ | (refine k_indexAddr ?_; first | (refine o_ixA _ rfl rfl rfl rfl rfl (h := ?_); intro _) | (refine o_ixB rfl rfl rfl rfl (h := ?_); intro _)) | (refine k_load ?_; refine o_loadF rfl rfl rfl rfl ?_) | (refine stb ?_; intro _))
        refine o_lit (xs := [(k : Int)]) ⟨by decide, rfl, by decide⟩ rfl rfl rfl ⟨fun _ _ => Rp.flat.2 rfl, trivial⟩ rfl ?_
        intro l1
        repeat (first | refine stp ?_ | (refine k_indexAddr ?_; first | (refine o_ixA _ rfl rfl rfl rfl rfl (h := ?_); intro _) | (refine o_ixB rfl rfl rfl rfl (h := ?_); intro _)) | (refine k_load ?_; refine o_loadF rfl rfl rfl rfl ?_) | (refine stb ?_; intro _))
        refine o_app2 (Mr := (bd, Ob (cB Dd) 4) :: (bb, Ob (cB (B.set k true)) 4) :: ownM 3 oR) oO (xs := O) (ys := [(k : Int)]) hO ⟨by simp; omega, by simp; omega, rfl⟩ rfl rfl rfl rfl inferInstance inferInstance ((List.perm_append_comm.cons _).cons _) ?_
        intro v9' o9' h9'
        dsimp only [List.cons_append]
        repeat (first | refine stp ?_ | (refine k_indexAddr ?_; first | (refine o_ixA _ rfl rfl rfl rfl rfl (h := ?_); intro _) | (refine o_ixB rfl rfl rfl rfl (h := ?_); intro _)) | (refine k_load ?_; refine o_loadF rfl rfl rfl rfl ?_) | (refine stb ?_; intro _))
        refine o_lit (xs := [(k : Int)]) ⟨by decide, rfl, by decide⟩ rfl rfl rfl ⟨fun _ _ => Rp.flat.2 rfl, trivial⟩ rfl ?_
        intro l2
        repeat (first | refine stp ?_ | (refine k_indexAddr ?_; first | (refine o_ixA _ rfl rfl rfl rfl rfl (h := ?_); intro _) | (refine o_ixB rfl rfl rfl rfl (h := ?_); intro _)) | (refine k_load ?_; refine o_loadF rfl rfl rfl rfl ?_) | (refine stb ?_; intro _))
        refine o_app2 (Mr := (bd, Ob (cB Dd) 4) :: (bb, Ob (cB (B.set k true)) 4) :: ownM 3 o9') oR (xs := R) (ys := [(k : Int)]) hR ⟨by simp; omega, by simp; omega, rfl⟩ rfl rfl rfl rfl inferInstance inferInstance ((List.perm_append_comm.cons _).cons _) ?_
        intro v10' o10' h10'
        dsimp only [List.cons_append]
        repeat (first | refine stp ?_ | (refine k_indexAddr ?_; first | (refine o_ixA _ rfl rfl rfl rfl rfl (h := ?_); intro _) | (refine o_ixB rfl rfl rfl rfl (h := ?_); intro _)) | (refine k_load ?_; refine o_loadF rfl rfl rfl rfl ?_) | (refine stb ?_; intro _))
        exact G.again (S := RuSt) ⟨i + 1, B.set k true, Dd, v9', o9', O ++ [(k : Int)], v10', o10', R ++ [(k : Int)]⟩ (by dsimp only; omega) ⟨by dsimp only; omega, hI.begin hk hbk hwk, h9', h10'⟩ inferInstance (look_sub_cons rfl (look_sub_cons rfl (look_sub_cons rfl (look_sub_cons rfl (look_sub_cons rfl (look_sub_cons rfl (look_sub_cons rfl (look_sub_cons rfl look_sub_nil)))))))) (List.Sublist.refl _)
    · skip
      repeat (first | refine stp ?_ | (refine k_indexAddr ?_; first | (refine o_ixA _ rfl rfl rfl rfl rfl (h := ?_); intro _) | (refine o_ixB rfl rfl rfl rfl (h := ?_); intro _)) | (refine k_load ?_; refine o_loadF rfl rfl rfl rfl ?_) | (refine stb ?_; intro _))
      refine o_lenO oO hO rfl rfl rfl ?_
      repeat (first | refine stp ?_ | (refine k_indexAddr ?_; first | (refine o_ixA _ rfl rfl rfl rfl rfl (h := ?_); intro _) | (refine o_ixB rfl rfl rfl rfl (h := ?_); intro _)) | (refine k_load ?_; refine o_loadF rfl rfl rfl rfl ?_) | (refine stb ?_; intro _))
      rename_i b14
      refine W.cutThen [fRp v12 r, fRp v6 l, fRp v1 picks, fRow (ocells oO) O, fRow (ocells oR) R] [(1, v1), (5, .bool true), (6, v6), (7, .slice (some ⟨bb, 0, none⟩) l.length l.length), (8, .slice (some ⟨bd, 0, none⟩) l.length l.length), (9, v9), (10, v10), (11, .int .i64 i), (12, v12), (14, .pointer (some ⟨b14, 0, none⟩))] ((b14, Ob [.int .i64 (pkP picks i).1, .int .i64 (pkP picks i).2] 52) :: (bd, Ob (cB Dd) 4) :: (bb, Ob (cB B) 4) :: (ownM 3 oO ++ ownM 3 oR)) ?_ ?_
      · refine W.cond rfl (fun hb => ?_) (fun hb => ?_)
        · have hpi : i < picks.length := by have := of_decide_eq_true hb; omega
          have hpp : pkP picks i = picks[i] := by rw [pkP, List.getElem?_eq_getElem hpi]
          rw [hpp]
          repeat (first | refine stp ?_ | (refine k_indexAddr ?_; first | (refine o_ixA _ rfl rfl rfl rfl rfl (h := ?_); intro _) | (refine o_ixB rfl rfl rfl rfl (h := ?_); intro _)) | (refine k_load ?_; refine o_loadF rfl rfl rfl rfl ?_) | (refine stb ?_; intro _))
          exact G.kp inferInstance (look_sub_cons rfl (look_sub_cons rfl (look_sub_cons rfl (look_sub_cons rfl (look_sub_cons rfl (look_sub_cons rfl (look_sub_cons rfl (look_sub_cons rfl (look_sub_cons rfl (look_sub_cons rfl look_sub_nil)))))))))) (List.Sublist.refl _)
        · have hpi : ¬ i < picks.length := by have := of_decide_eq_false hb; omega
          have hpp : pkP picks i = ((i : Int), (i : Int)) := by rw [pkP, List.getElem?_eq_none (by omega)]
          rw [hpp]
          repeat (first | refine stp ?_ | (refine k_indexAddr ?_; first | (refine o_ixA _ rfl rfl rfl rfl rfl (h := ?_); intro _) | (refine o_ixB rfl rfl rfl rfl (h := ?_); intro _)) | (refine k_load ?_; refine o_loadF rfl rfl rfl rfl ?_) | (refine stb ?_; intro _))
          exact G.kp inferInstance (look_sub_cons rfl (look_sub_cons rfl (look_sub_cons rfl (look_sub_cons rfl (look_sub_cons rfl (look_sub_cons rfl (look_sub_cons rfl (look_sub_cons rfl (look_sub_cons rfl (look_sub_cons rfl look_sub_nil)))))))))) (List.Sublist.refl _)
      · generalize pkP picks i = P at hPb hp1 hpick ⊢
        have hr1 : 0 < r.length := by omega
        have hj := pickN_lt P.2 (n := r.length) hr1
        have hpj := pick_spec P.2 r.length hr1 (by omega) hPb.2
        generalize pickN P.2 r.length = j at hj hpj
        obtain ⟨k, hk, hkv, hbk, hwk⟩ := hmr r[j] (List.getElem_mem hj)
        have hkB : k < B.length := by omega
        have hBk : B[k] = false := by rw [getD_get hkB]; exact hbk
        repeat (first | refine stp ?_ | (refine k_indexAddr ?_; first | (refine o_ixA _ rfl rfl rfl rfl rfl (h := ?_); intro _) | (refine o_ixB rfl rfl rfl rfl (h := ?_); intro _)) | (refine k_load ?_; refine o_loadF rfl rfl rfl rfl ?_) | (refine stb ?_; intro _))
        refine o_callV rfl rfl rfl rfl hp1 rfl ?_
        repeat (first | refine stp ?_ | (refine k_indexAddr ?_; first | (refine o_ixA _ rfl rfl rfl rfl rfl (h := ?_); intro _) | (refine o_ixB rfl rfl rfl rfl (h := ?_); intro _)) | (refine k_load ?_; refine o_loadF rfl rfl rfl rfl ?_) | (refine stb ?_; intro _))
        refine o_lenO oO hO rfl rfl rfl ?_
        repeat (first | refine stp ?_ | (refine k_indexAddr ?_; first | (refine o_ixA _ rfl rfl rfl rfl rfl (h := ?_); intro _) | (refine o_ixB rfl rfl rfl rfl (h := ?_); intro _)) | (refine k_load ?_; refine o_loadF rfl rfl rfl rfl ?_) | (refine stb ?_; intro _))
        refine o_callV rfl rfl rfl rfl hpj rfl ?_
        repeat (first | refine stp ?_ | (refine k_indexAddr ?_; first | (refine o_ixA _ rfl rfl rfl rfl rfl (h := ?_); intro _) | (refine o_ixB rfl rfl rfl rfl (h := ?_); intro _)) | (refine k_load ?_; refine o_loadF rfl rfl rfl rfl ?_) | (refine stb ?_; intro _))
        refine o_idxO rfl rfl rfl rfl (by omega) (by omega) (o' := k) (by omega) ?_
        repeat (first | refine stp ?_ | (refine k_indexAddr ?_; first | (refine o_ixA _ rfl rfl rfl rfl rfl (h := ?_); intro _) | (refine o_ixB rfl rfl rfl rfl (h := ?_); intro _)) | (refine k_load ?_; refine o_loadF rfl rfl rfl rfl ?_) | (refine stb ?_; intro _))
        refine o_loadB k hkB rfl rfl rfl rfl ?_
        rw [hBk]
        repeat (first | refine stp ?_ | (refine k_indexAddr ?_; first | (refine o_ixA _ rfl rfl rfl rfl rfl (h := ?_); intro _) | (refine o_ixB rfl rfl rfl rfl (h := ?_); intro _)) | (refine k_load ?_; refine o_loadF rfl rfl rfl rfl ?_) | (refine stb ?_; intro _))
        rw [hkv]
        refine W.loopI (fun (q : Nat) => ([fRp v6 l, fRp v1 picks, fRow (ocells oO) O, fRow (ocells oR) R], [(1, v1), (5, .bool true), (6, v6), (7, .slice (some ⟨bb, 0, none⟩) l.length l.length), (8, .slice (some ⟨bd, 0, none⟩) l.length l.length), (9, v9), (10, v10), (11, .int .i64 i), (15, .int .i64 (k : Int)), (16, .int .i64 q)], (bd, Ob (cB Dd) 4) :: (bb, Ob (cB B) 4) :: (ownM 3 oO ++ ownM 3 oR))) (fun q => q ≤ O.length) (fun q => O.length - q) 0 (Nat.zero_le _) inferInstance (look_sub_cons rfl (look_sub_cons rfl (look_sub_cons rfl (look_sub_cons rfl (look_sub_cons rfl (look_sub_cons rfl (look_sub_cons rfl (look_sub_cons rfl (look_sub_cons rfl (look_sub_cons rfl look_sub_nil)))))))))) (.cons _ (List.Sublist.refl _)) ?_
        intro q hq
        dsimp only
        by_cases hq0 : q = O.length
        case neg =>
          have hq1 : q < O.length := by omega
          obtain ⟨k', hk', ek', _, _⟩ := (hI.om _).1 (List.getElem_mem hq1)
          have hfree := hI.free hk hbk hwk (i := k') (by rw [← ek']; exact List.getElem_mem hq1)
          rw [clG_eq hk' hk] at hfree
          have hs1 := hfit l[k'] (List.getElem_mem hk')
          have hs2 := hfit l[k] (List.getElem_mem hk)
          cases oO with
          | none => exact absurd hO.2 (by omega)
          | some q9 =>
          obtain ⟨b9, cs9⟩ := q9
          obtain ⟨cap9, hv9, hcs9, hcap9⟩ := hO
          subst hv9
          show W _ _ _ (fRp v6 l :: fRp v1 picks :: fRow cs9 O :: fRow (ocells oR) R :: []) _ ((bd, Ob (cB Dd) 4) :: (bb, Ob (cB B) 4) :: (b9, Ob cs9 3) :: ownM 3 oR)
          repeat (first | refine stp ?_ | (refine k_indexAddr ?_; first | (refine o_ixA _ rfl rfl rfl rfl rfl (h := ?_); intro _) | (refine o_ixB rfl rfl rfl rfl (h := ?_); intro _)) | (refine k_load ?_; refine o_loadF rfl rfl rfl rfl ?_) | (refine stb ?_; intro _))
          refine W.draw 12 [⟨?v0_3, fun _ z => []⟩, ⟨?v1_3, fun _ z => []⟩, ⟨?v2_3, fun _ z => []⟩, ⟨?v3_3, fun _ z => []⟩, ⟨?v4_3, fun _ z => []⟩, ⟨fun _ z => z, fun _ z => [fPt z l[k']]⟩, ⟨fun _ z => z, fun _ z => [fRp z l[k']]⟩, ⟨?v7_3, fun _ z => []⟩, ⟨?v8_3, fun _ z => []⟩, ⟨fun _ z => z, fun _ z => [fPt z l[k]]⟩, ⟨fun _ z => z, fun _ z => [fRp z l[k]]⟩, ⟨?v11_3, fun _ z => []⟩] [[], [], [], [1, 2], [3], [0, 4], [5], [], [], [7, 8], [9], [6, 10]] [11] (by kernel_rfl) (by kernel_rfl) (by kernel_rfl) (by kernel_rfl) ?loc_3 ?ops_3 ?rest_3
          case ops_3 =>
            simp only [AllQ, Nat.reduceAdd, and_true]
            refine ⟨?_, ?_, ?_, ?_, ?_, ?_, ?_, ?_, ?_, ?_, ?_, ?_⟩
            · intro c z0 Φr Lr K hK; dsimp only [dstOf, kval, kfac, ancE,  ancF, getD_z, getD_s, List.getElem?_cons_zero, List.getElem?_cons_succ, List.getElem?_nil, Option.getD_some, Option.getD_none, List.nil_append, List.cons_append, Option.getD] at hK ⊢; refine stp ?_; exact hK z0
            · intro c z0 Φr Lr K hK; dsimp only [dstOf, kval, kfac, ancE,  ancF, getD_z, getD_s, List.getElem?_cons_zero, List.getElem?_cons_succ, List.getElem?_nil, Option.getD_some, Option.getD_none, List.nil_append, List.cons_append, Option.getD] at hK ⊢; refine stp ?_; exact hK z0
            · intro c z0 Φr Lr K hK; dsimp only [dstOf, kval, kfac, ancE,  ancF, getD_z, getD_s, List.getElem?_cons_zero, List.getElem?_cons_succ, List.getElem?_nil, Option.getD_some, Option.getD_none, List.nil_append, List.cons_append, Option.getD] at hK ⊢; refine stp ?_; exact hK z0
            · intro c z0 Φr Lr K hK; dsimp only [dstOf, kval, kfac, ancE,  ancF, getD_z, getD_s, List.getElem?_cons_zero, List.getElem?_cons_succ, List.getElem?_nil, Option.getD_some, Option.getD_none, List.nil_append, List.cons_append, Option.getD] at hK ⊢; refine o_idxO rfl rfl rfl rfl (by omega) (by omega) (o' := q) (by omega) ?_; exact hK z0
            · intro c z0 Φr Lr K hK; dsimp only [dstOf, kval, kfac, ancE,  ancF, getD_z, getD_s, List.getElem?_cons_zero, List.getElem?_cons_succ, List.getElem?_nil, Option.getD_some, Option.getD_none, List.nil_append, List.cons_append, Option.getD] at hK ⊢; refine o_loadO (α := Int) (xs := O) q hq1 rfl rfl rfl rfl (Nat.mul_one _).symm ?_; exact hK z0
            · intro c z0 Φr Lr K hK; dsimp only [dstOf, kval, kfac, ancE,  ancF, getD_z, getD_s, List.getElem?_cons_zero, List.getElem?_cons_succ, List.getElem?_nil, Option.getD_some, Option.getD_none, List.nil_append, List.cons_append, Option.getD] at hK ⊢; refine o_idxN k' rfl rfl rfl rfl ek' hk' ?_; intro p; exact hK _
            · intro c z0 Φr Lr K hK; dsimp only [dstOf, kval, kfac, ancE,  ancF, getD_z, getD_s, List.getElem?_cons_zero, List.getElem?_cons_succ, List.getElem?_nil, Option.getD_some, Option.getD_none, List.nil_append, List.cons_append, Option.getD] at hK ⊢; refine o_loadR rfl rfl rfl rfl ?_; intro p; exact hK _
            · intro c z0 Φr Lr K hK; dsimp only [dstOf, kval, kfac, ancE,  ancF, getD_z, getD_s, List.getElem?_cons_zero, List.getElem?_cons_succ, List.getElem?_nil, Option.getD_some, Option.getD_none, List.nil_append, List.cons_append, Option.getD] at hK ⊢; refine stp ?_; exact hK z0
            · intro c z0 Φr Lr K hK; dsimp only [dstOf, kval, kfac, ancE,  ancF, getD_z, getD_s, List.getElem?_cons_zero, List.getElem?_cons_succ, List.getElem?_nil, Option.getD_some, Option.getD_none, List.nil_append, List.cons_append, Option.getD] at hK ⊢; refine stp ?_; exact hK z0
            · intro c z0 Φr Lr K hK; dsimp only [dstOf, kval, kfac, ancE,  ancF, getD_z, getD_s, List.getElem?_cons_zero, List.getElem?_cons_succ, List.getElem?_nil, Option.getD_some, Option.getD_none, List.nil_append, List.cons_append, Option.getD] at hK ⊢; refine o_idxN k rfl rfl rfl rfl rfl hk ?_; intro p; exact hK _
            · intro c z0 Φr Lr K hK; dsimp only [dstOf, kval, kfac, ancE,  ancF, getD_z, getD_s, List.getElem?_cons_zero, List.getElem?_cons_succ, List.getElem?_nil, Option.getD_some, Option.getD_none, List.nil_append, List.cons_append, Option.getD] at hK ⊢; refine o_loadR rfl rfl rfl rfl ?_; intro p; exact hK _
            · intro c z0 Φr Lr K hK; dsimp only [dstOf, kval, kfac, ancE,  ancF, getD_z, getD_s, List.getElem?_cons_zero, List.getElem?_cons_succ, List.getElem?_nil, Option.getD_some, Option.getD_none, List.nil_append, List.cons_append, Option.getD] at hK ⊢; refine o_callV rfl rfl rfl rfl (clashS_spec _ _ l[k'] l[k] hs1 hs2) (congrArg Value.bool hfree) ?_; exact hK z0
          case loc_3 =>
            simp only [AllL, Nat.reduceAdd, and_true]
            refine ⟨?_, ?_, ?_, ?_, ?_, ?_, ?_, ?_, ?_, ?_, ?_, ?_⟩
            all_goals (intro c c' z h; first | exact ⟨rfl, rfl⟩ | (skip))
          intro c
          dsimp only [dstOf, kval, kfac, ancE,  ancF, getD_z, getD_s, List.getElem?_cons_zero, List.getElem?_cons_succ, List.getElem?_nil, Option.getD_some, Option.getD_none, List.nil_append, List.cons_append, List.drop_succ_cons, List.drop_zero, Option.getD]
          repeat (first | refine stp ?_ | (refine k_indexAddr ?_; first | (refine o_ixA _ rfl rfl rfl rfl rfl (h := ?_); intro _) | (refine o_ixB rfl rfl rfl rfl (h := ?_); intro _)) | (refine k_load ?_; refine o_loadF rfl rfl rfl rfl ?_) | (refine stb ?_; intro _))
          exact G.again (S := Nat) (q + 1) (by omega) (by omega) (show Ents _ [fRp v6 l, fRp v1 picks, fRow cs9 O, fRow (ocells oR) R] from inferInstance) (look_sub_cons rfl (look_sub_cons rfl (look_sub_cons rfl (look_sub_cons rfl (look_sub_cons rfl (look_sub_cons rfl (look_sub_cons rfl (look_sub_cons rfl (look_sub_cons rfl (look_sub_cons rfl look_sub_nil)))))))))) (List.Sublist.refl _)
        subst hq0
        repeat (first | refine stp ?_ | (refine k_indexAddr ?_; first | (refine o_ixA _ rfl rfl rfl rfl rfl (h := ?_); intro _) | (refine o_ixB rfl rfl rfl rfl (h := ?_); intro _)) | (refine k_load ?_; refine o_loadF rfl rfl rfl rfl ?_) | (refine stb ?_; intro _))
        refine o_lenO oO hO rfl rfl rfl ?_
        repeat (first | refine stp ?_ | (refine k_indexAddr ?_; first | (refine o_ixA _ rfl rfl rfl rfl rfl (h := ?_); intro _) | (refine o_ixB rfl rfl rfl rfl (h := ?_); intro _)) | (refine k_load ?_; refine o_loadF rfl rfl rfl rfl ?_) | (refine stb ?_; intro _))
        refine o_idxO rfl rfl rfl rfl (by omega) (by omega) (o' := k) (by omega) ?_
        refine G.cons ?_
        refine o_storeB k true hkB rfl rfl rfl rfl ?_
        repeat (first | refine stp ?_ | (refine k_indexAddr ?_; first | (refine o_ixA _ rfl rfl rfl rfl rfl (h := ?_); intro _) | (refine o_ixB rfl rfl rfl rfl (h := ?_); intro _)) | (refine k_load ?_; refine o_loadF rfl rfl rfl rfl ?_) | (refine stb ?_; intro _))
        refine o_lit (xs := [(k : Int)]) ⟨by decide, rfl, by decide⟩ rfl rfl rfl ⟨fun _ _ => Rp.flat.2 rfl, trivial⟩ rfl ?_
        intro l1
        repeat (first | refine stp ?_ | (refine k_indexAddr ?_; first | (refine o_ixA _ rfl rfl rfl rfl rfl (h := ?_); intro _) | (refine o_ixB rfl rfl rfl rfl (h := ?_); intro _)) | (refine k_load ?_; refine o_loadF rfl rfl rfl rfl ?_) | (refine stb ?_; intro _))
        refine o_app2 (Mr := (bd, Ob (cB Dd) 4) :: (bb, Ob (cB (B.set k true)) 4) :: ownM 3 oR) oO (xs := O) (ys := [(k : Int)]) hO ⟨by simp; omega, by simp; omega, rfl⟩ rfl rfl rfl rfl inferInstance inferInstance ((List.perm_append_comm.cons _).cons _) ?_
        intro v9' o9' h9'
        dsimp only [List.cons_append]
        repeat (first | refine stp ?_ | (refine k_indexAddr ?_; first | (refine o_ixA _ rfl rfl rfl rfl rfl (h := ?_); intro _) | (refine o_ixB rfl rfl rfl rfl (h := ?_); intro _)) | (refine k_load ?_; refine o_loadF rfl rfl rfl rfl ?_) | (refine stb ?_; intro _))
        refine o_lit (xs := [(k : Int)]) ⟨by decide, rfl, by decide⟩ rfl rfl rfl ⟨fun _ _ => Rp.flat.2 rfl, trivial⟩ rfl ?_
        intro l2
        repeat (first | refine stp ?_ | (refine k_indexAddr ?_; first | (refine o_ixA _ rfl rfl rfl rfl rfl (h := ?_); intro _) | (refine o_ixB rfl rfl rfl rfl (h := ?_); intro _)) | (refine k_load ?_; refine o_loadF rfl rfl rfl rfl ?_) | (refine stb ?_; intro _))
        refine o_app2 (Mr := (bd, Ob (cB Dd) 4) :: (bb, Ob (cB (B.set k true)) 4) :: ownM 3 o9') oR (xs := R) (ys := [(k : Int)]) hR ⟨by simp; omega, by simp; omega, rfl⟩ rfl rfl rfl rfl inferInstance inferInstance ((List.perm_append_comm.cons _).cons _) ?_
        intro v10' o10' h10'
        dsimp only [List.cons_append]
        repeat (first | refine stp ?_ | (refine k_indexAddr ?_; first | (refine o_ixA _ rfl rfl rfl rfl rfl (h := ?_); intro _) | (refine o_ixB rfl rfl rfl rfl (h := ?_); intro _)) | (refine k_load ?_; refine o_loadF rfl rfl rfl rfl ?_) | (refine stb ?_; intro _))
        exact G.again (S := RuSt) ⟨i + 1, B.set k true, Dd, v9', o9', O ++ [(k : Int)], v10', o10', R ++ [(k : Int)]⟩ (by dsimp only; omega) ⟨by dsimp only; omega, hI.begin hk hbk hwk, h9', h10'⟩ inferInstance (look_sub_cons rfl (look_sub_cons rfl (look_sub_cons rfl (look_sub_cons rfl (look_sub_cons rfl (look_sub_cons rfl (look_sub_cons rfl (look_sub_cons rfl look_sub_nil)))))))) (List.Sublist.refl _)
  by_cases hpick : pickN (pkP picks i).1 2 = 0
  · skip
    repeat (first | refine stp ?_ | (refine k_indexAddr ?_; first | (refine o_ixA _ rfl rfl rfl rfl rfl (h := ?_); intro _) | (refine o_ixB rfl rfl rfl rfl (h := ?_); intro _)) | (refine k_load ?_; refine o_loadF rfl rfl rfl rfl ?_) | (refine stb ?_; intro _))
    refine o_lenO oO hO rfl rfl rfl ?_
    repeat (first | refine stp ?_ | (refine k_indexAddr ?_; first | (refine o_ixA _ rfl rfl rfl rfl rfl (h := ?_); intro _) | (refine o_ixB rfl rfl rfl rfl (h := ?_); intro _)) | (refine k_load ?_; refine o_loadF rfl rfl rfl rfl ?_) | (refine stb ?_; intro _))
    rename_i b14
    refine W.cutThen [fRp v12 r, fRp v6 l, fRp v1 picks, fRow (ocells oO) O, fRow (ocells oR) R] [(1, v1), (5, .bool true), (6, v6), (7, .slice (some ⟨bb, 0, none⟩) l.length l.length), (8, .slice (some ⟨bd, 0, none⟩) l.length l.length), (9, v9), (10, v10), (11, .int .i64 i), (12, v12), (14, .pointer (some ⟨b14, 0, none⟩))] ((b14, Ob [.int .i64 (pkP picks i).1, .int .i64 (pkP picks i).2] 52) :: (bd, Ob (cB Dd) 4) :: (bb, Ob (cB B) 4) :: (ownM 3 oO ++ ownM 3 oR)) ?_ ?_
    · refine W.cond rfl (fun hb => ?_) (fun hb => ?_)
      · have hpi : i < picks.length := by have := of_decide_eq_true hb; omega
        have hpp : pkP picks i = picks[i] := by rw [pkP, List.getElem?_eq_getElem hpi]
        rw [hpp]
        repeat (first | refine stp ?_ | (refine k_indexAddr ?_; first | (refine o_ixA _ rfl rfl rfl rfl rfl (h := ?_); intro _) | (refine o_ixB rfl rfl rfl rfl (h := ?_); intro _)) | (refine k_load ?_; refine o_loadF rfl rfl rfl rfl ?_) | (refine stb ?_; intro _))
        exact G.kp inferInstance (look_sub_cons rfl (look_sub_cons rfl (look_sub_cons rfl (look_sub_cons rfl (look_sub_cons rfl (look_sub_cons rfl (look_sub_cons rfl (look_sub_cons rfl (look_sub_cons rfl (look_sub_cons rfl look_sub_nil)))))))))) (List.Sublist.refl _)
      · have hpi : ¬ i < picks.length := by have := of_decide_eq_false hb; omega
        have hpp : pkP picks i = ((i : Int), (i : Int)) := by rw [pkP, List.getElem?_eq_none (by omega)]
        rw [hpp]
        repeat (first | refine stp ?_ | (refine k_indexAddr ?_; first | (refine o_ixA _ rfl rfl rfl rfl rfl (h := ?_); intro _) | (refine o_ixB rfl rfl rfl rfl (h := ?_); intro _)) | (refine k_load ?_; refine o_loadF rfl rfl rfl rfl ?_) | (refine stb ?_; intro _))
        exact G.kp inferInstance (look_sub_cons rfl (look_sub_cons rfl (look_sub_cons rfl (look_sub_cons rfl (look_sub_cons rfl (look_sub_cons rfl (look_sub_cons rfl (look_sub_cons rfl (look_sub_cons rfl (look_sub_cons rfl look_sub_nil)))))))))) (List.Sublist.refl _)
    · generalize pkP picks i = P at hPb hp1 hpick ⊢
      have hr1 : 0 < r.length := by omega
      have hj := pickN_lt P.2 (n := r.length) hr1
      have hpj := pick_spec P.2 r.length hr1 (by omega) hPb.2
      generalize pickN P.2 r.length = j at hj hpj
      obtain ⟨k, hk, hkv, hbk, hwk⟩ := hmr r[j] (List.getElem_mem hj)
      have hkB : k < B.length := by omega
      have hBk : B[k] = false := by rw [getD_get hkB]; exact hbk
      repeat (first | refine stp ?_ | (refine k_indexAddr ?_; first | (refine o_ixA _ rfl rfl rfl rfl rfl (h := ?_); intro _) | (refine o_ixB rfl rfl rfl rfl (h := ?_); intro _)) | (refine k_load ?_; refine o_loadF rfl rfl rfl rfl ?_) | (refine stb ?_; intro _))
      refine o_callV rfl rfl rfl rfl hp1 rfl ?_
      rw [hpick]
      repeat (first | refine stp ?_ | (refine k_indexAddr ?_; first | (refine o_ixA _ rfl rfl rfl rfl rfl (h := ?_); intro _) | (refine o_ixB rfl rfl rfl rfl (h := ?_); intro _)) | (refine k_load ?_; refine o_loadF rfl rfl rfl rfl ?_) | (refine stb ?_; intro _))
      refine o_callV rfl rfl rfl rfl hpj rfl ?_
      repeat (first | refine stp ?_ | (refine k_indexAddr ?_; first | (refine o_ixA _ rfl rfl rfl rfl rfl (h := ?_); intro _) | (refine o_ixB rfl rfl rfl rfl (h := ?_); intro _)) | (refine k_load ?_; refine o_loadF rfl rfl rfl rfl ?_) | (refine stb ?_; intro _))
      refine o_idxO rfl rfl rfl rfl (by omega) (by omega) (o' := k) (by omega) ?_
      repeat (first | refine stp ?_ | (refine k_indexAddr ?_; first | (refine o_ixA _ rfl rfl rfl rfl rfl (h := ?_); intro _) | (refine o_ixB rfl rfl rfl rfl (h := ?_); intro _)) | (refine k_load ?_; refine o_loadF rfl rfl rfl rfl ?_) | (refine stb ?_; intro _))
      refine o_loadB k hkB rfl rfl rfl rfl ?_
      rw [hBk]
      repeat (first | refine stp ?_ | (refine k_indexAddr ?_; first | (refine o_ixA _ rfl rfl rfl rfl rfl (h := ?_); intro _) | (refine o_ixB rfl rfl rfl rfl (h := ?_); intro _)) | (refine k_load ?_; refine o_loadF rfl rfl rfl rfl ?_) | (refine stb ?_; intro _))
      rw [hkv]
      refine W.loopI (fun (q : Nat) => ([fRp v6 l, fRp v1 picks, fRow (ocells oO) O, fRow (ocells oR) R], [(1, v1), (5, .bool true), (6, v6), (7, .slice (some ⟨bb, 0, none⟩) l.length l.length), (8, .slice (some ⟨bd, 0, none⟩) l.length l.length), (9, v9), (10, v10), (11, .int .i64 i), (15, .int .i64 (k : Int)), (16, .int .i64 q)], (bd, Ob (cB Dd) 4) :: (bb, Ob (cB B) 4) :: (ownM 3 oO ++ ownM 3 oR))) (fun q => q ≤ O.length) (fun q => O.length - q) 0 (Nat.zero_le _) inferInstance (look_sub_cons rfl (look_sub_cons rfl (look_sub_cons rfl (look_sub_cons rfl (look_sub_cons rfl (look_sub_cons rfl (look_sub_cons rfl (look_sub_cons rfl (look_sub_cons rfl (look_sub_cons rfl look_sub_nil)))))))))) (.cons _ (List.Sublist.refl _)) ?_
      intro q hq
      dsimp only
      by_cases hq0 : q = O.length
      case neg =>
        have hq1 : q < O.length := by omega
        obtain ⟨k', hk', ek', _, _⟩ := (hI.om _).1 (List.getElem_mem hq1)
        have hfree := hI.free hk hbk hwk (i := k') (by rw [← ek']; exact List.getElem_mem hq1)
        rw [clG_eq hk' hk] at hfree
        have hs1 := hfit l[k'] (List.getElem_mem hk')
        have hs2 := hfit l[k] (List.getElem_mem hk)
        cases oO with
        | none => exact absurd hO.2 (by omega)
        | some q9 =>
        obtain ⟨b9, cs9⟩ := q9
        obtain ⟨cap9, hv9, hcs9, hcap9⟩ := hO
        subst hv9
        show W _ _ _ (fRp v6 l :: fRp v1 picks :: fRow cs9 O :: fRow (ocells oR) R :: []) _ ((bd, Ob (cB Dd) 4) :: (bb, Ob (cB B) 4) :: (b9, Ob cs9 3) :: ownM 3 oR)
        repeat (first | refine stp ?_ | (refine k_indexAddr ?_; first | (refine o_ixA _ rfl rfl rfl rfl rfl (h := ?_); intro _) | (refine o_ixB rfl rfl rfl rfl (h := ?_); intro _)) | (refine k_load ?_; refine o_loadF rfl rfl rfl rfl ?_) | (refine stb ?_; intro _))
        refine W.draw 12 [⟨?v0_4, fun _ z => []⟩, ⟨?v1_4, fun _ z => []⟩, ⟨?v2_4, fun _ z => []⟩, ⟨?v3_4, fun _ z => []⟩, ⟨?v4_4, fun _ z => []⟩, ⟨fun _ z => z, fun _ z => [fPt z l[k']]⟩, ⟨fun _ z => z, fun _ z => [fRp z l[k']]⟩, ⟨?v7_4, fun _ z => []⟩, ⟨?v8_4, fun _ z => []⟩, ⟨fun _ z => z, fun _ z => [fPt z l[k]]⟩, ⟨fun _ z => z, fun _ z => [fRp z l[k]]⟩, ⟨?v11_4, fun _ z => []⟩] [[], [], [], [1, 2], [3], [0, 4], [5], [], [], [7, 8], [9], [6, 10]] [11] (by kernel_rfl) (by kernel_rfl) (by kernel_rfl) (by kernel_rfl) ?loc_4 ?ops_4 ?rest_4
        case ops_4 =>
          simp only [AllQ, Nat.reduceAdd, and_true]
          refine ⟨?_, ?_, ?_, ?_, ?_, ?_, ?_, ?_, ?_, ?_, ?_, ?_⟩
          · intro c z0 Φr Lr K hK; dsimp only [dstOf, kval, kfac, ancE,  ancF, getD_z, getD_s, List.getElem?_cons_zero, List.getElem?_cons_succ, List.getElem?_nil, Option.getD_some, Option.getD_none, List.nil_append, List.cons_append, Option.getD] at hK ⊢; refine stp ?_; exact hK z0
          · intro c z0 Φr Lr K hK; dsimp only [dstOf, kval, kfac, ancE,  ancF, getD_z, getD_s, List.getElem?_cons_zero, List.getElem?_cons_succ, List.getElem?_nil, Option.getD_some, Option.getD_none, List.nil_append, List.cons_append, Option.getD] at hK ⊢; refine stp ?_; exact hK z0
          · intro c z0 Φr Lr K hK; dsimp only [dstOf, kval, kfac, ancE,  ancF, getD_z, getD_s, List.getElem?_cons_zero, List.getElem?_cons_succ, List.getElem?_nil, Option.getD_some, Option.getD_none, List.nil_append, List.cons_append, Option.getD] at hK ⊢; refine stp ?_; exact hK z0
          · intro c z0 Φr Lr K hK; dsimp only [dstOf, kval, kfac, ancE,  ancF, getD_z, getD_s, List.getElem?_cons_zero, List.getElem?_cons_succ, List.getElem?_nil, Option.getD_some, Option.getD_none, List.nil_append, List.cons_append, Option.getD] at hK ⊢; refine o_idxO rfl rfl rfl rfl (by omega) (by omega) (o' := q) (by omega) ?_; exact hK z0
          · intro c z0 Φr Lr K hK; dsimp only [dstOf, kval, kfac, ancE,  ancF, getD_z, getD_s, List.getElem?_cons_zero, List.getElem?_cons_succ, List.getElem?_nil, Option.getD_some, Option.getD_none, List.nil_append, List.cons_append, Option.getD] at hK ⊢; refine o_loadO (α := Int) (xs := O) q hq1 rfl rfl rfl rfl (Nat.mul_one _).symm ?_; exact hK z0
          · intro c z0 Φr Lr K hK; dsimp only [dstOf, kval, kfac, ancE,  ancF, getD_z, getD_s, List.getElem?_cons_zero, List.getElem?_cons_succ, List.getElem?_nil, Option.getD_some, Option.getD_none, List.nil_append, List.cons_append, Option.getD] at hK ⊢; refine o_idxN k' rfl rfl rfl rfl ek' hk' ?_; intro p; exact hK _
          · intro c z0 Φr Lr K hK; dsimp only [dstOf, kval, kfac, ancE,  ancF, getD_z, getD_s, List.getElem?_cons_zero, List.getElem?_cons_succ, List.getElem?_nil, Option.getD_some, Option.getD_none, List.nil_append, List.cons_append, Option.getD] at hK ⊢; refine o_loadR rfl rfl rfl rfl ?_; intro p; exact hK _
          · intro c z0 Φr Lr K hK; dsimp only [dstOf, kval, kfac, ancE,  ancF, getD_z, getD_s, List.getElem?_cons_zero, List.getElem?_cons_succ, List.getElem?_nil, Option.getD_some, Option.getD_none, List.nil_append, List.cons_append, Option.getD] at hK ⊢; refine stp ?_; exact hK z0
          · intro c z0 Φr Lr K hK; dsimp only [dstOf, kval, kfac, ancE,  ancF, getD_z, getD_s, List.getElem?_cons_zero, List.getElem?_cons_succ, List.getElem?_nil, Option.getD_some, Option.getD_none, List.nil_append, List.cons_append, Option.getD] at hK ⊢; refine stp ?_; exact hK z0
          · intro c z0 Φr Lr K hK; dsimp only [dstOf, kval, kfac, ancE,  ancF, getD_z, getD_s, List.getElem?_cons_zero, List.getElem?_cons_succ, List.getElem?_nil, Option.getD_some, Option.getD_none, List.nil_append, List.cons_append, Option.getD] at hK ⊢; refine o_idxN k rfl rfl rfl rfl rfl hk ?_; intro p; exact hK _
          · intro c z0 Φr Lr K hK; dsimp only [dstOf, kval, kfac, ancE,  ancF, getD_z, getD_s, List.getElem?_cons_zero, List.getElem?_cons_succ, List.getElem?_nil, Option.getD_some, Option.getD_none, List.nil_append, List.cons_append, Option.getD] at hK ⊢; refine o_loadR rfl rfl rfl rfl ?_; intro p; exact hK _
          · intro c z0 Φr Lr K hK; dsimp only [dstOf, kval, kfac, ancE,  ancF, getD_z, getD_s, List.getElem?_cons_zero, List.getElem?_cons_succ, List.getElem?_nil, Option.getD_some, Option.getD_none, List.nil_append, List.cons_append, Option.getD] at hK ⊢; refine o_callV rfl rfl rfl rfl (clashS_spec _ _ l[k'] l[k] hs1 hs2) (congrArg Value.bool hfree) ?_; exact hK z0
        case loc_4 =>
          simp only [AllL, Nat.reduceAdd, and_true]
          refine ⟨?_, ?_, ?_, ?_, ?_, ?_, ?_, ?_, ?_, ?_, ?_, ?_⟩
          all_goals (intro c c' z h; first | exact ⟨rfl, rfl⟩ | (skip))
        intro c
        dsimp only [dstOf, kval, kfac, ancE,  ancF, getD_z, getD_s, List.getElem?_cons_zero, List.getElem?_cons_succ, List.getElem?_nil, Option.getD_some, Option.getD_none, List.nil_append, List.cons_append, List.drop_succ_cons, List.drop_zero, Option.getD]
        repeat (first | refine stp ?_ | (refine k_indexAddr ?_; first | (refine o_ixA _ rfl rfl rfl rfl rfl (h := ?_); intro _) | (refine o_ixB rfl rfl rfl rfl (h := ?_); intro _)) | (refine k_load ?_; refine o_loadF rfl rfl rfl rfl ?_) | (refine stb ?_; intro _))
        exact G.again (S := Nat) (q + 1) (by omega) (by omega) (show Ents _ [fRp v6 l, fRp v1 picks, fRow cs9 O, fRow (ocells oR) R] from inferInstance) (look_sub_cons rfl (look_sub_cons rfl (look_sub_cons rfl (look_sub_cons rfl (look_sub_cons rfl (look_sub_cons rfl (look_sub_cons rfl (look_sub_cons rfl (look_sub_cons rfl (look_sub_cons rfl look_sub_nil)))))))))) (List.Sublist.refl _)
      subst hq0
      repeat (first | refine stp ?_ | (refine k_indexAddr ?_; first | (refine o_ixA _ rfl rfl rfl rfl rfl (h := ?_); intro _) | (refine o_ixB rfl rfl rfl rfl (h := ?_); intro _)) | (refine k_load ?_; refine o_loadF rfl rfl rfl rfl ?_) | (refine stb ?_; intro _))
      refine o_lenO oO hO rfl rfl rfl ?_
      repeat (first | refine stp ?_ | (refine k_indexAddr ?_; first | (refine o_ixA _ rfl rfl rfl rfl rfl (h := ?_); intro _) | (refine o_ixB rfl rfl rfl rfl (h := ?_); intro _)) | (refine k_load ?_; refine o_loadF rfl rfl rfl rfl ?_) | (refine stb ?_; intro _))
      refine o_idxO rfl rfl rfl rfl (by omega) (by omega) (o' := k) (by omega) ?_
      refine G.cons ?_
      refine o_storeB k true hkB rfl rfl rfl rfl ?_
      repeat (first | refine stp ?_ | (refine k_indexAddr ?_; first | (refine o_ixA _ rfl rfl rfl rfl rfl (h := ?_); intro _) | (refine o_ixB rfl rfl rfl rfl (h := ?_); intro _)) | (refine k_load ?_; refine o_loadF rfl rfl rfl rfl ?_) | (refine stb ?_; intro _))
      refine o_lit (xs := [(k : Int)]) ⟨by decide, rfl, by decide⟩ rfl rfl rfl ⟨fun _ _ => Rp.flat.2 rfl, trivial⟩ rfl ?_
      intro l1
      repeat (first | refine stp ?_ | (refine k_indexAddr ?_; first | (refine o_ixA _ rfl rfl rfl rfl rfl (h := ?_); intro _) | (refine o_ixB rfl rfl rfl rfl (h := ?_); intro _)) | (refine k_load ?_; refine o_loadF rfl rfl rfl rfl ?_) | (refine stb ?_; intro _))
      refine o_app2 (Mr := (bd, Ob (cB Dd) 4) :: (bb, Ob (cB (B.set k true)) 4) :: ownM 3 oR) oO (xs := O) (ys := [(k : Int)]) hO ⟨by simp; omega, by simp; omega, rfl⟩ rfl rfl rfl rfl inferInstance inferInstance ((List.perm_append_comm.cons _).cons _) ?_
      intro v9' o9' h9'
      dsimp only [List.cons_append]
      repeat (first | refine stp ?_ | (refine k_indexAddr ?_; first | (refine o_ixA _ rfl rfl rfl rfl rfl (h := ?_); intro _) | (refine o_ixB rfl rfl rfl rfl (h := ?_); intro _)) | (refine k_load ?_; refine o_loadF rfl rfl rfl rfl ?_) | (refine stb ?_; intro _))
      refine o_lit (xs := [(k : Int)]) ⟨by decide, rfl, by decide⟩ rfl rfl rfl ⟨fun _ _ => Rp.flat.2 rfl, trivial⟩ rfl ?_
      intro l2
      repeat (first | refine stp ?_ | (refine k_indexAddr ?_; first | (refine o_ixA _ rfl rfl rfl rfl rfl (h := ?_); intro _) | (refine o_ixB rfl rfl rfl rfl (h := ?_); intro _)) | (refine k_load ?_; refine o_loadF rfl rfl rfl rfl ?_) | (refine stb ?_; intro _))
      refine o_app2 (Mr := (bd, Ob (cB Dd) 4) :: (bb, Ob (cB (B.set k true)) 4) :: ownM 3 o9') oR (xs := R) (ys := [(k : Int)]) hR ⟨by simp; omega, by simp; omega, rfl⟩ rfl rfl rfl rfl inferInstance inferInstance ((List.perm_append_comm.cons _).cons _) ?_
      intro v10' o10' h10'
      dsimp only [List.cons_append]
      repeat (first | refine stp ?_ | (refine k_indexAddr ?_; first | (refine o_ixA _ rfl rfl rfl rfl rfl (h := ?_); intro _) | (refine o_ixB rfl rfl rfl rfl (h := ?_); intro _)) | (refine k_load ?_; refine o_loadF rfl rfl rfl rfl ?_) | (refine stb ?_; intro _))
      exact G.again (S := RuSt) ⟨i + 1, B.set k true, Dd, v9', o9', O ++ [(k : Int)], v10', o10', R ++ [(k : Int)]⟩ (by dsimp only; omega) ⟨by dsimp only; omega, hI.begin hk hbk hwk, h9', h10'⟩ inferInstance (look_sub_cons rfl (look_sub_cons rfl (look_sub_cons rfl (look_sub_cons rfl (look_sub_cons rfl (look_sub_cons rfl (look_sub_cons rfl (look_sub_cons rfl look_sub_nil)))))))) (List.Sublist.refl _)
  · skip
    cases oO with
    | none => exact absurd hO.2 (by omega)
    | some q9 =>
    obtain ⟨b9, cs9⟩ := q9
    obtain ⟨cap9, hv9, hcs9, hcap9⟩ := hO
    subst hv9
    show G _ (fRp v12 r :: fRow (ocells o12) r :: fRp v6 l :: fRp v1 picks :: fRow cs9 O :: fRow (ocells oR) R :: []) _ ((bd, Ob (cB Dd) 4) :: (bb, Ob (cB B) 4) :: (b9, Ob cs9 3) :: ownM 3 oR) _
    repeat (first | refine stp ?_ | (refine k_indexAddr ?_; first | (refine o_ixA _ rfl rfl rfl rfl rfl (h := ?_); intro _) | (refine o_ixB rfl rfl rfl rfl (h := ?_); intro _)) | (refine k_load ?_; refine o_loadF rfl rfl rfl rfl ?_) | (refine stb ?_; intro _))
    rename_i b14
    refine W.cutThen [fRp v12 r, fRp v6 l, fRp v1 picks, fRow cs9 O, fRow (ocells oR) R] [(1, v1), (5, .bool true), (6, v6), (7, .slice (some ⟨bb, 0, none⟩) l.length l.length), (8, .slice (some ⟨bd, 0, none⟩) l.length l.length), (9, (.slice (some ⟨b9, 0, none⟩) O.length cap9)), (10, v10), (11, .int .i64 i), (12, v12), (14, .pointer (some ⟨b14, 0, none⟩))] ((b14, Ob [.int .i64 (pkP picks i).1, .int .i64 (pkP picks i).2] 52) :: (bd, Ob (cB Dd) 4) :: (bb, Ob (cB B) 4) :: (b9, Ob cs9 3) :: ownM 3 oR) ?_ ?_
    · refine W.cond rfl (fun hb => ?_) (fun hb => ?_)
      · have hpi : i < picks.length := by have := of_decide_eq_true hb; omega
        have hpp : pkP picks i = picks[i] := by rw [pkP, List.getElem?_eq_getElem hpi]
        rw [hpp]
        repeat (first | refine stp ?_ | (refine k_indexAddr ?_; first | (refine o_ixA _ rfl rfl rfl rfl rfl (h := ?_); intro _) | (refine o_ixB rfl rfl rfl rfl (h := ?_); intro _)) | (refine k_load ?_; refine o_loadF rfl rfl rfl rfl ?_) | (refine stb ?_; intro _))
        exact G.kp inferInstance (look_sub_cons rfl (look_sub_cons rfl (look_sub_cons rfl (look_sub_cons rfl (look_sub_cons rfl (look_sub_cons rfl (look_sub_cons rfl (look_sub_cons rfl (look_sub_cons rfl (look_sub_cons rfl look_sub_nil)))))))))) (List.Sublist.refl _)
      · have hpi : ¬ i < picks.length := by have := of_decide_eq_false hb; omega
        have hpp : pkP picks i = ((i : Int), (i : Int)) := by rw [pkP, List.getElem?_eq_none (by omega)]
        rw [hpp]
        repeat (first | refine stp ?_ | (refine k_indexAddr ?_; first | (refine o_ixA _ rfl rfl rfl rfl rfl (h := ?_); intro _) | (refine o_ixB rfl rfl rfl rfl (h := ?_); intro _)) | (refine k_load ?_; refine o_loadF rfl rfl rfl rfl ?_) | (refine stb ?_; intro _))
        exact G.kp inferInstance (look_sub_cons rfl (look_sub_cons rfl (look_sub_cons rfl (look_sub_cons rfl (look_sub_cons rfl (look_sub_cons rfl (look_sub_cons rfl (look_sub_cons rfl (look_sub_cons rfl (look_sub_cons rfl look_sub_nil)))))))))) (List.Sublist.refl _)
    · generalize pkP picks i = P at hPb hp1 hpick ⊢
      have hO1 : 0 < O.length := by omega
      have hj := pickN_lt P.2 (n := O.length) hO1
      have hpj := pick_spec P.2 O.length hO1 (by omega) hPb.2
      generalize pickN P.2 O.length = j at hj hpj
      obtain ⟨k, hk, ek, hI'⟩ := hI.ends hj
      have hkD : k < Dd.length := by omega
      repeat (first | refine stp ?_ | (refine k_indexAddr ?_; first | (refine o_ixA _ rfl rfl rfl rfl rfl (h := ?_); intro _) | (refine o_ixB rfl rfl rfl rfl (h := ?_); intro _)) | (refine k_load ?_; refine o_loadF rfl rfl rfl rfl ?_) | (refine stb ?_; intro _))
      refine o_callV rfl rfl rfl rfl hp1 rfl ?_
      repeat (first | refine stp ?_ | (refine k_indexAddr ?_; first | (refine o_ixA _ rfl rfl rfl rfl rfl (h := ?_); intro _) | (refine o_ixB rfl rfl rfl rfl (h := ?_); intro _)) | (refine k_load ?_; refine o_loadF rfl rfl rfl rfl ?_) | (refine stb ?_; intro _))
      refine o_callV rfl rfl rfl rfl hpj rfl ?_
      repeat (first | refine stp ?_ | (refine k_indexAddr ?_; first | (refine o_ixA _ rfl rfl rfl rfl rfl (h := ?_); intro _) | (refine o_ixB rfl rfl rfl rfl (h := ?_); intro _)) | (refine k_load ?_; refine o_loadF rfl rfl rfl rfl ?_) | (refine stb ?_; intro _))
      refine o_idxO rfl rfl rfl rfl (by omega) (by omega) (o' := j) (by omega) ?_
      refine G.cons ?_
      refine o_loadO (α := Int) (xs := O) j hj rfl rfl rfl rfl (Nat.mul_one _).symm ?_
      repeat (first | refine stp ?_ | (refine k_indexAddr ?_; first | (refine o_ixA _ rfl rfl rfl rfl rfl (h := ?_); intro _) | (refine o_ixB rfl rfl rfl rfl (h := ?_); intro _)) | (refine k_load ?_; refine o_loadF rfl rfl rfl rfl ?_) | (refine stb ?_; intro _))
      refine o_idxO rfl rfl rfl rfl (by omega) (by omega) (o' := k) (by omega) ?_
      refine G.cons ?_
      refine o_storeB k true (by omega) rfl rfl rfl rfl ?_
      repeat (first | refine stp ?_ | (refine k_indexAddr ?_; first | (refine o_ixA _ rfl rfl rfl rfl rfl (h := ?_); intro _) | (refine o_ixB rfl rfl rfl rfl (h := ?_); intro _)) | (refine k_load ?_; refine o_loadF rfl rfl rfl rfl ?_) | (refine stb ?_; intro _))
      refine W.bare (G.giveOwn (.slice (some ⟨b9, 0, none⟩) O.length cap9) O (some (b9, cs9)) 3 (Mr := (b14, Ob [.int .i64 P.1, .int .i64 P.2] 52) :: (bd, Ob (cB (Dd.set k true)) 4) :: (bb, Ob (cB B) 4) :: ownM 3 oR) ⟨cap9, rfl, hcs9, hcap9⟩ ⟨fun I hp => Ent'.h (φ := fRow cs9 O) I hp⟩ (List.perm_middle (l₁ := [_, _, _])) ?_)
      refine G.code ?_
      obtain ⟨X1, eX⟩ : ∃ X1, (O.take j).drop 0 = X1 := ⟨_, rfl⟩
      obtain ⟨Y1, eY⟩ : ∃ Y1, (O.take O.length).drop (j + 1) = Y1 := ⟨_, rfl⟩
      have lX : X1.length = j := by rw [← eX]; simp; omega
      have lY : Y1.length = O.length - (j + 1) := by rw [← eY]; simp
      have eXY : O.take j ++ O.drop (j + 1) = X1 ++ Y1 := by rw [← eX, ← eY, List.drop_zero, List.take_length]
      rw [eXY] at hI'
      refine W.drawX 9 (fun D c => (b14, Ob [.int .i64 P.1, .int .i64 P.2] 52) :: (bd, Ob (cB (Dd.set k true)) 4) :: (bb, Ob (cB B) 4) :: (bif D 8 then (ownM 3 oR ++ ownM 3 (co (c 8))) else bif D 3 then (ownM 3 oR ++ ownM 3 (co (c 3))) else ownM 3 oR)) [⟨?v0_5, fun _ z => []⟩, ⟨?v1_5, fun _ z => []⟩, ⟨fun _ z => z, fun _ z => [fRp z X1]⟩, ⟨fun _ z => cv z, fun _ z => [fPure (IsOwn 1 (cv z) X1.length (co z)), fRow (ocells (co z)) X1]⟩, ⟨?v4_5, fun _ z => []⟩, ⟨?v5_5, fun _ z => []⟩, ⟨?v6_5, fun _ z => []⟩, ⟨fun _ z => z, fun _ z => [fRp z Y1]⟩, ⟨fun _ z => cv z, fun _ z => [fPure (IsOwn 1 (cv z) (X1 ++ Y1).length (co z)), fRow (ocells (co z)) (X1 ++ Y1)]⟩] [[], [], [0, 1], [2], [], [], [5], [4, 6], [3, 7]] [8] (by kernel_rfl) (by kernel_rfl) (by kernel_rfl) (by kernel_rfl) ?loc_5 ?hz_5 ?ops_5 ?rest_5
      case ops_5 =>
        simp only [AllX, Nat.reduceAdd, and_true]
        refine ⟨?_, ?_, ?_, ?_, ?_, ?_, ?_, ?_, ?_⟩
        · intro D c z0 Φr Lr K hDi hAnc hDn hK; dsimp only [dstOf, dstX, putX, kval, kfac, ancE, ancX,  ancF, getD_z, getD_s, List.getElem?_cons_zero, List.getElem?_cons_succ, List.getElem?_nil, Option.getD_some, Option.getD_none, List.nil_append, List.cons_append, Option.getD] at hK ⊢; refine stp ?_; exact hK z0
        · intro D c z0 Φr Lr K hDi hAnc hDn hK; dsimp only [dstOf, dstX, putX, kval, kfac, ancE, ancX,  ancF, getD_z, getD_s, List.getElem?_cons_zero, List.getElem?_cons_succ, List.getElem?_nil, Option.getD_some, Option.getD_none, List.nil_append, List.cons_append, Option.getD] at hK ⊢; refine stp ?_; exact hK z0
        · intro D c z0 Φr Lr K hDi hAnc hDn hK; dsimp only [dstOf, dstX, putX, kval, kfac, ancE, ancX,  ancF, getD_z, getD_s, List.getElem?_cons_zero, List.getElem?_cons_succ, List.getElem?_nil, Option.getD_some, Option.getD_none, List.nil_append, List.cons_append, Option.getD] at hK ⊢; refine o_slice (xs := O) 0 j rfl rfl rfl rfl ⟨_, _, rfl, rfl⟩ (Nat.zero_le _) (by omega) ?_; intro z; rw [eX]; exact hK _
        · intro D c z0 Φr Lr K hDi hAnc hDn hK; dsimp only [dstOf, dstX, putX, kval, kfac, ancE, ancX,  ancF, getD_z, getD_s, List.getElem?_cons_zero, List.getElem?_cons_succ, List.getElem?_nil, Option.getD_some, Option.getD_none, List.nil_append, List.cons_append, Option.getD] at hK ⊢; have h8 : D 8 = false := dnF hDn hDi (by kernel_rfl); simp only [updD, updC, hDi, h8, Nat.reduceEqDiff, ↓reduceIte, cond_true, cond_false, List.append_nil, List.nil_append] at hK ⊢; refine o_app2 (Mr := (b14, Ob [.int .i64 P.1, .int .i64 P.2] 52) :: (bd, Ob (cB (Dd.set k true)) 4) :: (bb, Ob (cB B) 4) :: ownM 3 oR) none (xs := ([] : List Int)) (ys := X1) ⟨rfl, rfl⟩ ⟨by simp; omega, by simp; omega, rfl⟩ rfl rfl rfl rfl inferInstance inferInstance (by rw [show ownM 3 none = ([] : Own) from rfl, List.append_nil]) ?_; intro v' o' hown'; have hk := hK (codeO v' o'); simp only [cv_code, co_code] at hk; refine G.learn (fPure (IsOwn 1 v' _ o')) (e := ⟨fun _ _ => hown'⟩) ?_; exact hk; skip
        · intro D c z0 Φr Lr K hDi hAnc hDn hK; dsimp only [dstOf, dstX, putX, kval, kfac, ancE, ancX,  ancF, getD_z, getD_s, List.getElem?_cons_zero, List.getElem?_cons_succ, List.getElem?_nil, Option.getD_some, Option.getD_none, List.nil_append, List.cons_append, Option.getD] at hK ⊢; refine stp ?_; exact hK z0
        · intro D c z0 Φr Lr K hDi hAnc hDn hK; dsimp only [dstOf, dstX, putX, kval, kfac, ancE, ancX,  ancF, getD_z, getD_s, List.getElem?_cons_zero, List.getElem?_cons_succ, List.getElem?_nil, Option.getD_some, Option.getD_none, List.nil_append, List.cons_append, Option.getD] at hK ⊢; refine stp ?_; exact hK z0
        · intro D c z0 Φr Lr K hDi hAnc hDn hK; dsimp only [dstOf, dstX, putX, kval, kfac, ancE, ancX,  ancF, getD_z, getD_s, List.getElem?_cons_zero, List.getElem?_cons_succ, List.getElem?_nil, Option.getD_some, Option.getD_none, List.nil_append, List.cons_append, Option.getD] at hK ⊢; refine o_int rfl rfl rfl rfl (i_add (by omega) (by omega)) ?_; exact hK z0
        · intro D c z0 Φr Lr K hDi hAnc hDn hK; dsimp only [dstOf, dstX, putX, kval, kfac, ancE, ancX,  ancF, getD_z, getD_s, List.getElem?_cons_zero, List.getElem?_cons_succ, List.getElem?_nil, Option.getD_some, Option.getD_none, List.nil_append, List.cons_append, Option.getD] at hK ⊢; refine o_slice (xs := O) (j + 1) O.length rfl rfl rfl ⟨_, _, rfl, rfl⟩ rfl (by omega) (Nat.le_refl _) ?_; intro z; rw [eY]; exact hK _
        · intro D c z0 Φr Lr K hDi hAnc hDn hK; dsimp only [dstOf, dstX, putX, kval, kfac, ancE, ancX,  ancF, getD_z, getD_s, List.getElem?_cons_zero, List.getElem?_cons_succ, List.getElem?_nil, Option.getD_some, Option.getD_none, List.nil_append, List.cons_append, Option.getD] at hK ⊢; have h3 : D 3 = true := hAnc 3 (by kernel_rfl); simp only [updD, updC, hDi, h3, Nat.reduceEqDiff, ↓reduceIte, cond_true, cond_false, List.append_nil, List.nil_append] at hK ⊢; refine OpK.bare (G.use (p := IsOwn 1 (cv (c 3)) (X1).length (co (c 3))) (fun I hp => hp (fPure _) (by first | exact .head _ | exact .tail _ (.head _) | exact .tail _ (.tail _ (.head _)) | exact .tail _ (.tail _ (.tail _ (.head _))) | exact .tail _ (.tail _ (.tail _ (.tail _ (.head _)))) | exact .tail _ (.tail _ (.tail _ (.tail _ (.tail _ (.head _))))) | exact .tail _ (.tail _ (.tail _ (.tail _ (.tail _ (.tail _ (.head _)))))) | exact .tail _ (.tail _ (.tail _ (.tail _ (.tail _ (.tail _ (.tail _ (.head _))))))))) ?_); intro hown3; refine OpK.back ?_; refine o_app2 (Mr := (b14, Ob [.int .i64 P.1, .int .i64 P.2] 52) :: (bd, Ob (cB (Dd.set k true)) 4) :: (bb, Ob (cB B) 4) :: ownM 3 oR) (co (c 3)) (xs := X1) (ys := Y1) hown3 ⟨by omega, by omega, rfl⟩ rfl rfl rfl rfl inferInstance inferInstance (List.Perm.refl _) ?_; intro v' o' hown'; have hk := hK (codeO v' o'); simp only [cv_code, co_code] at hk; refine G.learn (fPure (IsOwn 1 v' _ o')) (e := ⟨fun _ _ => hown'⟩) ?_; exact hk; skip
      case hz_5 => intro c; rfl
      case loc_5 =>
        simp only [AllL, Nat.reduceAdd, and_true]
        refine ⟨?_, ?_, ?_, ?_, ?_, ?_, ?_, ?_, ?_⟩
        all_goals (intro c c' z h; first | exact ⟨rfl, rfl⟩ | (skip))
      intro c
      dsimp only [dstOf, dstX, putX, kval, kfac, ancE, ancX,  ancF, getD_z, getD_s, List.getElem?_cons_zero, List.getElem?_cons_succ, List.getElem?_nil, Option.getD_some, Option.getD_none, List.nil_append, List.cons_append, List.drop_succ_cons, List.drop_zero, Option.getD]
      refine LW.bare (G.use (p := IsOwn 1 (cv (c 8)) (X1 ++ Y1).length (co (c 8))) (fun I hp => hp (fPure _) (by first | exact .head _ | exact .tail _ (.head _) | exact .tail _ (.tail _ (.head _)) | exact .tail _ (.tail _ (.tail _ (.head _))) | exact .tail _ (.tail _ (.tail _ (.tail _ (.head _)))) | exact .tail _ (.tail _ (.tail _ (.tail _ (.tail _ (.head _))))) | exact .tail _ (.tail _ (.tail _ (.tail _ (.tail _ (.tail _ (.head _)))))) | exact .tail _ (.tail _ (.tail _ (.tail _ (.tail _ (.tail _ (.tail _ (.head _))))))))) ?_)
      intro hown8
      refine G.perm ?_ (show List.Perm _ ((b14, Ob [.int .i64 P.1, .int .i64 P.2] 52) :: (bd, Ob (cB (Dd.set k true)) 4) :: (bb, Ob (cB B) 4) :: (ownM 3 (co (c 8)) ++ ownM 3 oR)) from ((List.perm_append_comm.cons _).cons _).cons _)
      repeat (first | refine stp ?_ | (refine k_indexAddr ?_; first | (refine o_ixA _ rfl rfl rfl rfl rfl (h := ?_); intro _) | (refine o_ixB rfl rfl rfl rfl (h := ?_); intro _)) | (refine k_load ?_; refine o_loadF rfl rfl rfl rfl ?_) | (refine stb ?_; intro _))
      exact G.again (S := RuSt) ⟨i + 1, B, Dd.set k true, cv (c 8), co (c 8), X1 ++ Y1, v10, oR, R⟩ (by dsimp only; omega) ⟨by dsimp only; omega, hI', hown8, hR⟩ inferInstance (look_sub_cons rfl (look_sub_cons rfl (look_sub_cons rfl (look_sub_cons rfl (look_sub_cons rfl (look_sub_cons rfl (look_sub_cons rfl (look_sub_cons rfl look_sub_nil)))))))) (.cons _ (List.Sublist.refl _))
end Go.Rail
