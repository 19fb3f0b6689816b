/- graph.Orders answers as the document does. -/
import Derived.Test.YtoiepfapghnccaaAGEdges
import Derived.Test.YtoiepfapghnccaaAGRef4
import Derived.Test.YtoiepfapghnccaaRailD
namespace Go.Rail
open Go Go.Proofs
set_option linter.unusedSimpArgs false
set_option linter.unusedVariables false
set_option maxHeartbeats 400000
set_option maxRecDepth 4000
attribute [local irreducible] OpK G W LW wpListIn Exit.then Exit.inBlock Post rounds opRun bodyPostM intOp

attribute [local irreducible] lexN cmpW cmpA cmpK cmpI makeS setK commonL common clashS rightS rowG restG edgesG clG valAt rlP lvP readyP waitB waitP permB ordG posO mapP

def outG (n : Nat) (k : Int) : Bool := decide (k < 0) || decide ((n : Int) ≤ k)
theorem orders1_spec (b n cap : Nat) (a : Option Addr) (k : Int) : FnV Try.prog 81 [.int .i64 k, .pointer (some ⟨b, 0, none⟩)] [fBlk b [.slice a n cap] 45] (.bool (outG n k)) := by
  refine Fn.enter Try.func81 rfl Try.ntmps81 (by simp) (fun I0 w0 => ?_)
  by_cases h1 : k < 0
  · repeat (first | refine stp ?_ | (refine k_indexAddr ?_; first | (refine o_ixA _ rfl rfl rfl rfl rfl (h := ?_); intro _) | (refine o_ixB rfl rfl rfl rfl (h := ?_); intro _)) | (refine k_load ?_; refine o_loadF rfl rfl rfl rfl ?_) | (refine stb ?_; intro _))
    refine G.ret rfl (.cons (.tmp rfl) .nil) (Φ' := []) (M' := []) inferInstance (List.nil_sublist _) ⟨?_, rfl, rfl⟩
    simp [tup, outG, h1]
  · by_cases h2 : (n : Int) ≤ k
    · repeat (first | refine stp ?_ | (refine k_indexAddr ?_; first | (refine o_ixA _ rfl rfl rfl rfl rfl (h := ?_); intro _) | (refine o_ixB rfl rfl rfl rfl (h := ?_); intro _)) | (refine k_load ?_; refine o_loadF rfl rfl rfl rfl ?_) | (refine stb ?_; intro _))
      refine G.ret rfl (.cons (.tmp rfl) .nil) (Φ' := []) (M' := []) inferInstance (List.nil_sublist _) ⟨?_, rfl, rfl⟩
      simp [tup, outG, h2]
    · repeat (first | refine stp ?_ | (refine k_indexAddr ?_; first | (refine o_ixA _ rfl rfl rfl rfl rfl (h := ?_); intro _) | (refine o_ixB rfl rfl rfl rfl (h := ?_); intro _)) | (refine k_load ?_; refine o_loadF rfl rfl rfl rfl ?_) | (refine stb ?_; intro _))
      refine G.ret rfl (.cons (.tmp rfl) .nil) (Φ' := []) (M' := []) inferInstance (List.nil_sublist _) ⟨?_, rfl, rfl⟩
      simp [tup, outG, h1, h2]
theorem idxOut_spec (vo : Value) (o : List Int) (b n cap : Nat) (a : Option Addr) (ho : o.length ≤ 4611686018427387904) : FnV Try.prog 110 [vo, .func (.func 81) #[] #[.pointer (some ⟨b, 0, none⟩)]] [fRp vo o, fBlk b [.slice a n cap] 45] (.int .i64 (idxG (outG n) o)) := by
  refine Fn.enter Try.func110 rfl Try.ntmps110 (by simp) (fun I0 w0 => ?_)
  repeat (first | refine stp ?_ | (refine k_indexAddr ?_; first | (refine o_ixA _ rfl rfl rfl rfl rfl (h := ?_); intro _) | (refine o_ixB rfl rfl rfl rfl (h := ?_); intro _)) | (refine k_load ?_; refine o_loadF rfl rfl rfl rfl ?_) | (refine stb ?_; intro _))
  refine W.loopI (fun (i : Nat) => ([fRp vo o, fBlk b [.slice a n cap] 45], [(0, vo), (1, .func (.func 81) #[] #[.pointer (some ⟨b, 0, none⟩)]), (7, .int .i64 o.length), (8, .int .i64 i)], [])) (fun i => i ≤ o.length ∧ ∀ k ∈ o.take i, outG n k = false) (fun i => o.length - i) 0 ⟨by omega, by simp⟩ inferInstance (look_sub_cons rfl (look_sub_cons rfl (look_sub_cons rfl (look_sub_cons rfl look_sub_nil)))) (List.Sublist.refl _) ?_
  intro i ⟨hi, hm⟩
  dsimp only
  by_cases hi0 : i = o.length
  · subst hi0
    rw [List.take_length] at hm
    repeat (first | refine stp ?_ | (refine k_indexAddr ?_; first | (refine o_ixA _ rfl rfl rfl rfl rfl (h := ?_); intro _) | (refine o_ixB rfl rfl rfl rfl (h := ?_); intro _)) | (refine k_load ?_; refine o_loadF rfl rfl rfl rfl ?_) | (refine stb ?_; intro _))
    refine G.ret rfl (.cons (.tmp rfl) .nil) (Φ' := []) (M' := []) inferInstance (List.nil_sublist _) ⟨?_, rfl, rfl⟩
    rw [idxG_none hm]; rfl
  · have hi1 : i < o.length := by omega
    repeat (first | refine stp ?_ | (refine k_indexAddr ?_; first | (refine o_ixA _ rfl rfl rfl rfl rfl (h := ?_); intro _) | (refine o_ixB rfl rfl rfl rfl (h := ?_); intro _)) | (refine k_load ?_; refine o_loadF rfl rfl rfl rfl ?_) | (refine stb ?_; intro _))
    cases hk : outG n o[i] with
    | false =>
      refine o_callV (cap := [.pointer (some ⟨b, 0, none⟩)]) rfl rfl rfl rfl (orders1_spec b n cap a o[i]) (congrArg Value.bool hk) ?_
      repeat (first | refine stp ?_ | (refine k_indexAddr ?_; first | (refine o_ixA _ rfl rfl rfl rfl rfl (h := ?_); intro _) | (refine o_ixB rfl rfl rfl rfl (h := ?_); intro _)) | (refine k_load ?_; refine o_loadF rfl rfl rfl rfl ?_) | (refine stb ?_; intro _))
      refine G.again (i + 1) (by omega) ⟨by omega, fun k hk' => ((mem_take_succ hi1).1 hk').elim (hm k) (fun e => by rw [← e]; exact hk)⟩ inferInstance (look_sub_cons rfl (look_sub_cons rfl (look_sub_cons rfl (look_sub_cons rfl look_sub_nil)))) (List.Sublist.refl _)
    | true =>
      refine o_callV (cap := [.pointer (some ⟨b, 0, none⟩)]) rfl rfl rfl rfl (orders1_spec b n cap a o[i]) (congrArg Value.bool hk) ?_
      repeat (first | refine stp ?_ | (refine k_indexAddr ?_; first | (refine o_ixA _ rfl rfl rfl rfl rfl (h := ?_); intro _) | (refine o_ixB rfl rfl rfl rfl (h := ?_); intro _)) | (refine k_load ?_; refine o_loadF rfl rfl rfl rfl ?_) | (refine stb ?_; intro _))
      refine G.ret rfl (.cons (.tmp rfl) .nil) (Φ' := []) (M' := []) inferInstance (List.nil_sublist _) ⟨?_, rfl, rfl⟩
      rw [idxG_at hi1 hm hk]; rfl
theorem anyOut_spec (vo : Value) (o : List Int) (b n cap : Nat) (a : Option Addr) (ho : o.length ≤ 4611686018427387904) : FnV Try.prog 80 [vo, .func (.func 81) #[] #[.pointer (some ⟨b, 0, none⟩)]] [fRp vo o, fBlk b [.slice a n cap] 45] (.bool (o.any (outG n))) := by
  refine Fn.enter Try.func80 rfl Try.ntmps80 (by simp) (fun I0 w0 => ?_)
  repeat (first | refine stp ?_ | (refine k_indexAddr ?_; first | (refine o_ixA _ rfl rfl rfl rfl rfl (h := ?_); intro _) | (refine o_ixB rfl rfl rfl rfl (h := ?_); intro _)) | (refine k_load ?_; refine o_loadF rfl rfl rfl rfl ?_) | (refine stb ?_; intro _))
  refine o_callV rfl rfl rfl rfl (idxOut_spec vo o b n cap a ho) rfl ?_
  repeat (first | refine stp ?_ | (refine k_indexAddr ?_; first | (refine o_ixA _ rfl rfl rfl rfl rfl (h := ?_); intro _) | (refine o_ixB rfl rfl rfl rfl (h := ?_); intro _)) | (refine k_load ?_; refine o_loadF rfl rfl rfl rfl ?_) | (refine stb ?_; intro _))
  refine G.ret rfl (.cons (.tmp rfl) .nil) (Φ' := []) (M' := []) inferInstance (List.nil_sublist _) ⟨?_, rfl, rfl⟩
  rw [← idxG_nn]; rfl
theorem orders_spec (v vo : Value) (xs : List Sets) (o : List Int) (hx : xs.length ≤ 1000000) (hs : ∀ s ∈ xs, fit6 s) (ho : o.length ≤ 4611686018427387904) :
    FnV Try.prog 45 [v, vo] [fRp v xs, fRp vo o] (.bool (ordG xs o)) := by
  refine Fn.enter Try.func45 rfl Try.ntmps45 (by simp) (fun I0 w0 => ?_)
  refine W.bare (G.slice v xs ?_)
  intro a cap x zx
  subst x
  repeat (first | refine stp ?_ | (refine k_indexAddr ?_; first | (refine o_ixA _ rfl rfl rfl rfl rfl (h := ?_); intro _) | (refine o_ixB rfl rfl rfl rfl (h := ?_); intro _)) | (refine k_load ?_; refine o_loadF rfl rfl rfl rfl ?_) | (refine stb ?_; intro _))
  rename_i b2 b4
  refine o_makeMap rfl rfl ?_
  intro bm
  rw [show MapO [] = MapO (mapP o 0) from by with_unfolding_all rfl]
  repeat (first | refine stp ?_ | (refine k_indexAddr ?_; first | (refine o_ixA _ rfl rfl rfl rfl rfl (h := ?_); intro _) | (refine o_ixB rfl rfl rfl rfl (h := ?_); intro _)) | (refine k_load ?_; refine o_loadF rfl rfl rfl rfl ?_) | (refine stb ?_; intro _))
  rename_i b5
  refine W.bare (G.perm ?_ (show List.Perm _ ((b2, Ob [.slice a xs.length cap] 45) :: [(b5, Ob [.map (some bm)] 117), (bm, MapO (mapP o 0)), (b4, Ob [.bool false] 4)]) from (List.perm_append_comm (l₁ := [_, _, _]) (l₂ := [_]))))
  refine G.give b2 (cs := [.slice a xs.length cap]) (t := 45) ?_
  refine G.code ?_
  refine W.loopI (fun (q : Nat) => ([fBlk b2 [.slice a xs.length cap] 45, fRp (.slice a xs.length cap) xs, fRp vo o], [(1, vo), (2, .pointer (some ⟨b2, 0, none⟩)), (4, .pointer (some ⟨b4, 0, none⟩)), (5, .pointer (some ⟨b5, 0, none⟩)), (11, vo), (12, .int .i64 o.length), (13, .int .i64 q)], [(b5, Ob [.map (some bm)] 117), (bm, MapO (mapP o q)), (b4, Ob [.bool false] 4)])) (fun q => q ≤ o.length) (fun q => o.length - q) 0 (Nat.zero_le _) inferInstance (look_sub_cons rfl (look_sub_cons rfl (look_sub_cons rfl (look_sub_cons rfl (look_sub_cons rfl (look_sub_cons rfl (look_sub_cons rfl look_sub_nil))))))) (List.Sublist.refl _) ?_
  intro q hq
  dsimp only
  by_cases hq0 : q = o.length
  case neg =>
    have hq1 : q < o.length := by omega
    repeat (first | refine stp ?_ | (refine k_indexAddr ?_; first | (refine o_ixA _ rfl rfl rfl rfl rfl (h := ?_); intro _) | (refine o_ixB rfl rfl rfl rfl (h := ?_); intro _)) | (refine k_load ?_; refine o_loadF rfl rfl rfl rfl ?_) | (refine stb ?_; intro _))
    refine o_mapPut rfl rfl rfl rfl ?_
    rw [← mapP_succ hq1]
    repeat (first | refine stp ?_ | (refine k_indexAddr ?_; first | (refine o_ixA _ rfl rfl rfl rfl rfl (h := ?_); intro _) | (refine o_ixB rfl rfl rfl rfl (h := ?_); intro _)) | (refine k_load ?_; refine o_loadF rfl rfl rfl rfl ?_) | (refine stb ?_; intro _))
    exact G.again (S := Nat) (q + 1) (by omega) (by omega) inferInstance (look_sub_cons rfl (look_sub_cons rfl (look_sub_cons rfl (look_sub_cons rfl (look_sub_cons rfl (look_sub_cons rfl (look_sub_cons rfl look_sub_nil))))))) (List.Sublist.refl _)
  subst hq0
  cases hm : mayG xs with
  | false =>
    rw [ordG_may hm]
    repeat (first | refine stp ?_ | (refine k_indexAddr ?_; first | (refine o_ixA _ rfl rfl rfl rfl rfl (h := ?_); intro _) | (refine o_ixB rfl rfl rfl rfl (h := ?_); intro _)) | (refine k_load ?_; refine o_loadF rfl rfl rfl rfl ?_) | (refine stb ?_; intro _))
    refine o_callV rfl rfl rfl rfl (mayG_spec _ xs hx hs) (congrArg Value.bool hm) ?_
    repeat (first | refine stp ?_ | (refine k_indexAddr ?_; first | (refine o_ixA _ rfl rfl rfl rfl rfl (h := ?_); intro _) | (refine o_ixB rfl rfl rfl rfl (h := ?_); intro _)) | (refine k_load ?_; refine o_loadF rfl rfl rfl rfl ?_) | (refine stb ?_; intro _))
    refine G.ret rfl (.cons (.cell1 rfl) .nil) (Φ' := []) (M' := []) inferInstance (List.nil_sublist _) ⟨?_, rfl, rfl⟩
    rfl
  | true =>
    have h64 := may_len hm
    have hcap := edges_few hm
    by_cases hol : o.length = xs.length
    case neg =>
      rw [ordG_perm (by rw [permB_eq, decide_eq_false hol]; rfl)]
      repeat (first | refine stp ?_ | (refine k_indexAddr ?_; first | (refine o_ixA _ rfl rfl rfl rfl rfl (h := ?_); intro _) | (refine o_ixB rfl rfl rfl rfl (h := ?_); intro _)) | (refine k_load ?_; refine o_loadF rfl rfl rfl rfl ?_) | (refine stb ?_; intro _))
      refine o_callV rfl rfl rfl rfl (mayG_spec _ xs hx hs) (congrArg Value.bool hm) ?_
      repeat (first | refine stp ?_ | (refine k_indexAddr ?_; first | (refine o_ixA _ rfl rfl rfl rfl rfl (h := ?_); intro _) | (refine o_ixB rfl rfl rfl rfl (h := ?_); intro _)) | (refine k_load ?_; refine o_loadF rfl rfl rfl rfl ?_) | (refine stb ?_; intro _))
      refine G.ret rfl (.cons (.cell1 rfl) .nil) (Φ' := []) (M' := []) inferInstance (List.nil_sublist _) ⟨?_, rfl, rfl⟩
      rfl
    have hmn := mapP_nodup (o := o)
    have hml := (mapP_length (Nat.le_refl o.length)).1
    by_cases hnd : (mapP o o.length).length = o.length
    case neg =>
      rw [ordG_perm (by rw [permB_eq, decide_eq_false (fun h => hnd (hmn.2 h))]; simp)]
      repeat (first | refine stp ?_ | (refine k_indexAddr ?_; first | (refine o_ixA _ rfl rfl rfl rfl rfl (h := ?_); intro _) | (refine o_ixB rfl rfl rfl rfl (h := ?_); intro _)) | (refine k_load ?_; refine o_loadF rfl rfl rfl rfl ?_) | (refine stb ?_; intro _))
      refine o_callV rfl rfl rfl rfl (mayG_spec _ xs hx hs) (congrArg Value.bool hm) ?_
      repeat (first | refine stp ?_ | (refine k_indexAddr ?_; first | (refine o_ixA _ rfl rfl rfl rfl rfl (h := ?_); intro _) | (refine o_ixB rfl rfl rfl rfl (h := ?_); intro _)) | (refine k_load ?_; refine o_loadF rfl rfl rfl rfl ?_) | (refine stb ?_; intro _))
      refine o_lenM rfl rfl rfl ?_
      repeat (first | refine stp ?_ | (refine k_indexAddr ?_; first | (refine o_ixA _ rfl rfl rfl rfl rfl (h := ?_); intro _) | (refine o_ixB rfl rfl rfl rfl (h := ?_); intro _)) | (refine k_load ?_; refine o_loadF rfl rfl rfl rfl ?_) | (refine stb ?_; intro _))
      refine G.ret rfl (.cons (.cell1 rfl) .nil) (Φ' := []) (M' := []) inferInstance (List.nil_sublist _) ⟨?_, rfl, rfl⟩
      rfl
    cases hany : o.any (outG xs.length) with
    | true =>
      have hp : permB xs.length o = false := by
        obtain ⟨k, hk, ho⟩ := List.any_eq_true.1 hany
        obtain ⟨i, hi, rfl⟩ := List.mem_iff_getElem.1 hk
        simp only [outG, Bool.or_eq_true, decide_eq_true_eq] at ho
        exact permB_out hi ho
      rw [ordG_perm hp]
      repeat (first | refine stp ?_ | (refine k_indexAddr ?_; first | (refine o_ixA _ rfl rfl rfl rfl rfl (h := ?_); intro _) | (refine o_ixB rfl rfl rfl rfl (h := ?_); intro _)) | (refine k_load ?_; refine o_loadF rfl rfl rfl rfl ?_) | (refine stb ?_; intro _))
      refine o_callV rfl rfl rfl rfl (mayG_spec _ xs hx hs) (congrArg Value.bool hm) ?_
      repeat (first | refine stp ?_ | (refine k_indexAddr ?_; first | (refine o_ixA _ rfl rfl rfl rfl rfl (h := ?_); intro _) | (refine o_ixB rfl rfl rfl rfl (h := ?_); intro _)) | (refine k_load ?_; refine o_loadF rfl rfl rfl rfl ?_) | (refine stb ?_; intro _))
      refine o_lenM rfl rfl rfl ?_
      repeat (first | refine stp ?_ | (refine k_indexAddr ?_; first | (refine o_ixA _ rfl rfl rfl rfl rfl (h := ?_); intro _) | (refine o_ixB rfl rfl rfl rfl (h := ?_); intro _)) | (refine k_load ?_; refine o_loadF rfl rfl rfl rfl ?_) | (refine stb ?_; intro _))
      refine o_func rfl rfl rfl rfl ?_
      repeat (first | refine stp ?_ | (refine k_indexAddr ?_; first | (refine o_ixA _ rfl rfl rfl rfl rfl (h := ?_); intro _) | (refine o_ixB rfl rfl rfl rfl (h := ?_); intro _)) | (refine k_load ?_; refine o_loadF rfl rfl rfl rfl ?_) | (refine stb ?_; intro _))
      refine o_callV rfl rfl rfl rfl (anyOut_spec vo o b2 xs.length cap a ho) (congrArg Value.bool hany) ?_
      repeat (first | refine stp ?_ | (refine k_indexAddr ?_; first | (refine o_ixA _ rfl rfl rfl rfl rfl (h := ?_); intro _) | (refine o_ixB rfl rfl rfl rfl (h := ?_); intro _)) | (refine k_load ?_; refine o_loadF rfl rfl rfl rfl ?_) | (refine stb ?_; intro _))
      refine G.ret rfl (.cons (.cell1 rfl) .nil) (Φ' := []) (M' := []) inferInstance (List.nil_sublist _) ⟨?_, rfl, rfl⟩
      rfl
    | false =>
      have hnd2 := hmn.1 hnd
      have hp : permB xs.length o = true := permB_iff.2 ⟨hol, hnd2, fun x hx => by
        have := List.any_eq_false.1 hany x hx
        simp [outG] at this
        omega⟩
      have hget : ∀ k : Nat, k < xs.length → getM (mapP o o.length) (k : Int) = (posO o k : Int) := fun k hk => by
        rw [mapP_get hnd2 (Nat.le_refl _) (by rw [List.take_length]; exact permB_mem hp hk)]
        with_unfolding_all rfl
      repeat (first | refine stp ?_ | (refine k_indexAddr ?_; first | (refine o_ixA _ rfl rfl rfl rfl rfl (h := ?_); intro _) | (refine o_ixB rfl rfl rfl rfl (h := ?_); intro _)) | (refine k_load ?_; refine o_loadF rfl rfl rfl rfl ?_) | (refine stb ?_; intro _))
      refine o_callV rfl rfl rfl rfl (mayG_spec _ xs hx hs) (congrArg Value.bool hm) ?_
      repeat (first | refine stp ?_ | (refine k_indexAddr ?_; first | (refine o_ixA _ rfl rfl rfl rfl rfl (h := ?_); intro _) | (refine o_ixB rfl rfl rfl rfl (h := ?_); intro _)) | (refine k_load ?_; refine o_loadF rfl rfl rfl rfl ?_) | (refine stb ?_; intro _))
      refine o_lenM rfl rfl rfl ?_
      repeat (first | refine stp ?_ | (refine k_indexAddr ?_; first | (refine o_ixA _ rfl rfl rfl rfl rfl (h := ?_); intro _) | (refine o_ixB rfl rfl rfl rfl (h := ?_); intro _)) | (refine k_load ?_; refine o_loadF rfl rfl rfl rfl ?_) | (refine stb ?_; intro _))
      refine o_func rfl rfl rfl rfl ?_
      repeat (first | refine stp ?_ | (refine k_indexAddr ?_; first | (refine o_ixA _ rfl rfl rfl rfl rfl (h := ?_); intro _) | (refine o_ixB rfl rfl rfl rfl (h := ?_); intro _)) | (refine k_load ?_; refine o_loadF rfl rfl rfl rfl ?_) | (refine stb ?_; intro _))
      refine o_callV rfl rfl rfl rfl (anyOut_spec vo o b2 xs.length cap a ho) (congrArg Value.bool hany) ?_
      repeat (first | refine stp ?_ | (refine k_indexAddr ?_; first | (refine o_ixA _ rfl rfl rfl rfl rfl (h := ?_); intro _) | (refine o_ixB rfl rfl rfl rfl (h := ?_); intro _)) | (refine k_load ?_; refine o_loadF rfl rfl rfl rfl ?_) | (refine stb ?_; intro _))
      refine OpK.call rfl rfl rfl rfl (pairs_spec a xs.length cap) inferInstance (Mr := _) (List.Perm.refl _) ?_
      rintro u Φ' Mc' ⟨bp, rfl, rfl, rfl⟩
      dsimp only [List.cons_append, List.nil_append]
      repeat (first | refine stp ?_ | (refine k_indexAddr ?_; first | (refine o_ixA _ rfl rfl rfl rfl rfl (h := ?_); intro _) | (refine o_ixB rfl rfl rfl rfl (h := ?_); intro _)) | (refine k_load ?_; refine o_loadF rfl rfl rfl rfl ?_) | (refine stb ?_; intro _))
      refine W.rangeFunc (enc := (edgesG xs).map encP) (ps := [46, 47]) (Φi := [fBlk bp [.slice a xs.length cap] 45, fRp (.slice a xs.length cap) xs]) (Mr := []) (fun k => ([fPure (keepE xs o k = true)], [(b5, Ob [.map (some bm)] 117), (bm, MapO (mapP o o.length)), (b4, Ob [.bool false] 4)])) (fun c t => c = .ret ∧ t = ([fPure (ordG xs o = false)], [(b5, Ob [.map (some bm)] 117), (bm, MapO (mapP o o.length)), (b4, Ob [.bool false] 4)])) rfl (pairs1_spec bp a cap xs hx hs).plain (by decide) (enc_len xs) inferInstance ⟨fun I hp φ hφ => by
        rcases List.mem_cons.1 hφ with rfl | hφ
        · exact keepE_zero xs o
        · cases hφ⟩ (List.Perm.refl _) ?_ ?_ ?_
      · intro l rec I0' w0' k hk
        have hk1 : k < (edgesG xs).length := by simpa using hk
        have hE := edges_at hk1
        have hv1 := hget (edgesG xs)[k].1 (by omega)
        have hv2 := hget (edgesG xs)[k].2 (by omega)
        have hks := keepE_succ (o := o) hk1
        refine W.bare (G.use (p := keepE xs o k = true) (fun I hp => hp (fPure _) (by simp)) (fun hkeep => ?_))
        refine G.code ?_
        rw [hkeep, Bool.true_and] at hks
        dsimp only
        rw [List.getElem_map]
        show W _ _ _ _ ((47, Value.int .i64 ((edgesG xs)[k].2 : Nat)) :: (46, Value.int .i64 ((edgesG xs)[k].1 : Nat)) :: _) _
        by_cases hgt : posO o (edgesG xs)[k].2 < posO o (edgesG xs)[k].1
        · repeat (first | refine stp ?_ | (refine k_indexAddr ?_; first | (refine o_ixA _ rfl rfl rfl rfl rfl (h := ?_); intro _) | (refine o_ixB rfl rfl rfl rfl (h := ?_); intro _)) | (refine k_load ?_; refine o_loadF rfl rfl rfl rfl ?_) | (refine stb ?_; intro _))
          refine G.begin (by rfl) ?_
          repeat (first | refine stp ?_ | (refine k_indexAddr ?_; first | (refine o_ixA _ rfl rfl rfl rfl rfl (h := ?_); intro _) | (refine o_ixB rfl rfl rfl rfl (h := ?_); intro _)) | (refine k_load ?_; refine o_loadF rfl rfl rfl rfl ?_) | (refine stb ?_; intro _))
          refine o_mapGet rfl rfl rfl rfl ?_
          repeat (first | refine stp ?_ | (refine k_indexAddr ?_; first | (refine o_ixA _ rfl rfl rfl rfl rfl (h := ?_); intro _) | (refine o_ixB rfl rfl rfl rfl (h := ?_); intro _)) | (refine k_load ?_; refine o_loadF rfl rfl rfl rfl ?_) | (refine stb ?_; intro _))
          refine o_mapGet rfl rfl rfl rfl ?_
          rw [hv1, hv2]
          repeat (first | refine stp ?_ | (refine k_indexAddr ?_; first | (refine o_ixA _ rfl rfl rfl rfl rfl (h := ?_); intro _) | (refine o_ixB rfl rfl rfl rfl (h := ?_); intro _)) | (refine k_load ?_; refine o_loadF rfl rfl rfl rfl ?_) | (refine stb ?_; intro _))
          refine G.roundRet inferInstance (Φ' := [fPure (ordG xs o = false)]) (M'' := [(b5, Ob [.map (some bm)] 117), (bm, MapO (mapP o o.length)), (b4, Ob [.bool false] 4)]) (.inr ⟨rfl, .ret, ([fPure (ordG xs o = false)], [(b5, Ob [.map (some bm)] 117), (bm, MapO (mapP o o.length)), (b4, Ob [.bool false] 4)]), ⟨rfl, rfl⟩, rfl⟩) ?_ (List.Sublist.refl _)
          exact ⟨fun I hp φ hφ => by
            rcases List.mem_cons.1 hφ with rfl | h
            · exact ordG_bad hk1 hgt
            · cases h⟩
        · repeat (first | refine stp ?_ | (refine k_indexAddr ?_; first | (refine o_ixA _ rfl rfl rfl rfl rfl (h := ?_); intro _) | (refine o_ixB rfl rfl rfl rfl (h := ?_); intro _)) | (refine k_load ?_; refine o_loadF rfl rfl rfl rfl ?_) | (refine stb ?_; intro _))
          refine G.begin (by rfl) ?_
          repeat (first | refine stp ?_ | (refine k_indexAddr ?_; first | (refine o_ixA _ rfl rfl rfl rfl rfl (h := ?_); intro _) | (refine o_ixB rfl rfl rfl rfl (h := ?_); intro _)) | (refine k_load ?_; refine o_loadF rfl rfl rfl rfl ?_) | (refine stb ?_; intro _))
          refine o_mapGet rfl rfl rfl rfl ?_
          repeat (first | refine stp ?_ | (refine k_indexAddr ?_; first | (refine o_ixA _ rfl rfl rfl rfl rfl (h := ?_); intro _) | (refine o_ixB rfl rfl rfl rfl (h := ?_); intro _)) | (refine k_load ?_; refine o_loadF rfl rfl rfl rfl ?_) | (refine stb ?_; intro _))
          refine o_mapGet rfl rfl rfl rfl ?_
          rw [hv1, hv2]
          repeat (first | refine stp ?_ | (refine k_indexAddr ?_; first | (refine o_ixA _ rfl rfl rfl rfl rfl (h := ?_); intro _) | (refine o_ixB rfl rfl rfl rfl (h := ?_); intro _)) | (refine k_load ?_; refine o_loadF rfl rfl rfl rfl ?_) | (refine stb ?_; intro _))
          refine G.roundEnd inferInstance (Φ' := [fPure (keepE xs o (k + 1) = true)]) (M'' := [(b5, Ob [.map (some bm)] 117), (bm, MapO (mapP o o.length)), (b4, Ob [.bool false] 4)]) (.inl ⟨rfl, rfl, rfl⟩) ?_ (List.Sublist.refl _)
          exact ⟨fun I hp φ hφ => by
            rcases List.mem_cons.1 hφ with rfl | h
            · exact hks.trans (decide_eq_true (by omega))
            · cases h⟩
      · intro D
        rw [List.length_map]
        dsimp only [List.cons_append, List.nil_append]
        repeat (first | refine stp ?_ | (refine k_indexAddr ?_; first | (refine o_ixA _ rfl rfl rfl rfl rfl (h := ?_); intro _) | (refine o_ixB rfl rfl rfl rfl (h := ?_); intro _)) | (refine k_load ?_; refine o_loadF rfl rfl rfl rfl ?_) | (refine stb ?_; intro _))
        refine G.unmark inferInstance ?_
        refine G.use (p := keepE xs o (edgesG xs).length = true) (fun I hp => hp (fPure _) (by simp)) ?_
        intro hg
        refine G.ret rfl (.cons (.cell1 rfl) .nil) (Φ' := []) (M' := []) inferInstance (List.nil_sublist _) ⟨?_, rfl, rfl⟩
        rw [ordG_end hm hp hg]
        rfl
      · rintro D c t ⟨rfl, rfl⟩
        dsimp only [List.cons_append, List.nil_append]
        repeat (first | refine stp ?_ | (refine k_indexAddr ?_; first | (refine o_ixA _ rfl rfl rfl rfl rfl (h := ?_); intro _) | (refine o_ixB rfl rfl rfl rfl (h := ?_); intro _)) | (refine k_load ?_; refine o_loadF rfl rfl rfl rfl ?_) | (refine stb ?_; intro _))
        refine G.unmark inferInstance ?_
        refine G.use (p := ordG xs o = false) (fun I hp => hp (fPure _) (by simp)) ?_
        intro hg
        refine G.ret rfl (.cons (.cell1 rfl) .nil) (Φ' := []) (M' := []) inferInstance (List.nil_sublist _) ⟨?_, rfl, rfl⟩
        rw [hg]
        rfl
end Go.Rail
