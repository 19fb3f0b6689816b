/- The law that the program tells as the document does, walked. -/
import Derived.Test.YtoiepfapghnccaaAGLaw
import Derived.Test.YtoiepfapghnccaaRailD
namespace Go.Rail
open Go Go.Proofs
set_option linter.unusedSimpArgs false
set_option linter.unusedVariables false
set_option maxHeartbeats 400000
set_option maxRecDepth 4000
attribute [local irreducible] OpK G W LW wpListIn Exit.then Exit.inBlock Post rounds opRun bodyPostM intOp

attribute [local irreducible] lexN cmpW cmpA cmpK cmpI makeS setK joinS clashS mayS rightS errG edgesR levelsR errR readyR ordG setsOf clG edgesG edgesI mayG rawG pickN fitB

def oS : Sets := ⟨[oK], []⟩
def oddL (l : List Sets) (odd : Bool) : List Sets := if odd then l ++ [oS] else l
theorem oddL_len {l : List Sets} {odd : Bool} (h : l.length ≤ 10) : (oddL l odd).length ≤ 11 := by
  unfold oddL; split
  · rw [List.length_append, List.length_singleton]; omega
  · omega
theorem oddL_fit {l : List Sets} {odd : Bool} (h : ∀ s ∈ l, fit6 s) : ∀ s ∈ oddL l odd, fit6 s := by
  unfold oddL; split
  · intro s hs
    rcases List.mem_append.1 hs with hs | hs
    · exact h s hs
    · rw [List.mem_singleton.1 hs]; exact ⟨by decide, by decide⟩
  · exact h
theorem edgesR_len (l : List Sets) : (edgesR l).length ≤ 1000000 := by
  have e : edgesR l = if mayG l then edgesI l else [] := by with_unfolding_all rfl
  rw [e]
  split
  · rename_i h
    have := edges_few h
    rw [edgesI_length]; omega
  · simp
theorem levelsR_len (l : List Sets) : (levelsR l).length ≤ 1000000 := by
  have e : levelsR l = if mayG l then levelsI l else [] := by with_unfolding_all rfl
  rw [e]
  split
  · rename_i h
    have := may_len h
    have e2 : (levelsI l).length = l.length := by simp [levelsI]
    omega
  · simp
theorem readyR_len (l : List Sets) (b d : List Bool) : (readyR l b d).length ≤ 1000000 := by
  have e : readyR l b d = if okR l b d then readyP l b d l.length else [] := by with_unfolding_all rfl
  rw [e]
  split
  · rename_i h
    have h2 : mayG l = true := by
      simp only [okR, Bool.and_eq_true] at h
      exact h.1.1.1
    have := may_len h2
    have := readyP_length l b d l.length
    omega
  · simp
structure DlSt where
  i : Nat
  dl : List Bool
structure TtSt where
  i : Nat
  v : Value
  o : OR
  tl : List Int
structure TuSt where
  i : Nat
  v : Value
  tl : List Int
set_option maxHeartbeats 8000000 in
theorem gtells_walk (v0 v2 v3 v4 : Value) (raws : List RawS) (odd : Bool) (begun done : List Bool) (order : List Int) (many : Int) (o0 : okRaws raws) (o2 : begun.length ≤ reachBytes ∧ ∀ b ∈ begun, True) (o3 : done.length ≤ reachBytes ∧ ∀ b ∈ done, True) (o4 : order.length ≤ reachBytes ∧ ∀ n ∈ order, -9223372036854775808 ≤ n ∧ n ≤ 9223372036854775807) (on : -9223372036854775808 ≤ many ∧ many ≤ 9223372036854775807) :
    FnV Try.prog 8 [v0, .bool odd, v2, v3, v4, .int .i64 many] [fRp v0 raws, fRp v2 begun, fRp v3 done, fRp v4 order] (.bool true) := by
  have hS := gsetsO_spec v0 raws o0
  have hfit := rawG_fit raws
  have hlen := rawG_len raws
  generalize rawG raws = l at hS hfit hlen
  have hfx := oddL_fit (odd := odd) hfit
  have hlx := oddL_len (odd := odd) hlen
  have hb2 : begun.length ≤ 4611686018427387904 := Nat.le_trans o2.1 (by decide)
  have hb3 : done.length ≤ 4611686018427387904 := Nat.le_trans o3.1 (by decide)
  have hb4 : order.length ≤ 4611686018427387904 := Nat.le_trans o4.1 (by decide)
  refine Fn.enter Try.func8 rfl Try.ntmps8 (by simp) (fun I0 w0 => ?_)
  refine W.bare (G.slice v2 begun ?_)
  intro a2 c2 x2 _
  refine G.slice v3 done ?_
  intro a3 c3 x3 _
  subst x2 x3
  repeat (first | refine stp ?_ | (refine k_indexAddr ?_; first | (refine o_ixA _ rfl rfl rfl rfl rfl (h := ?_); intro _) | (refine o_ixB rfl rfl rfl rfl (h := ?_); intro _)) | (refine k_load ?_; refine o_loadF rfl rfl rfl rfl ?_) | (refine stb ?_; intro _))
  refine o_callV rfl rfl rfl rfl gawake_spec rfl ?_
  repeat (first | refine stp ?_ | (refine k_indexAddr ?_; first | (refine o_ixA _ rfl rfl rfl rfl rfl (h := ?_); intro _) | (refine o_ixB rfl rfl rfl rfl (h := ?_); intro _)) | (refine k_load ?_; refine o_loadF rfl rfl rfl rfl ?_) | (refine stb ?_; intro _))
  refine o_callO rfl rfl rfl rfl hS ?_
  intro v14 o hown
  repeat (first | refine stp ?_ | (refine k_indexAddr ?_; first | (refine o_ixA _ rfl rfl rfl rfl rfl (h := ?_); intro _) | (refine o_ixB rfl rfl rfl rfl (h := ?_); intro _)) | (refine k_load ?_; refine o_loadF rfl rfl rfl rfl ?_) | (refine stb ?_; intro _))
  refine W.cutE (fun v => ([fRp v (oddL l odd), fRp (.slice a2 begun.length c2) begun, fRp (.slice a3 done.length c3) done, fRp v4 order], [(2, (.slice a2 begun.length c2)), (3, (.slice a3 done.length c3)), (4, v4), (5, .int .i64 many), (13, .bool true), (14, v)], [])) (fun _ => True) ?_ ?_
  · cases odd with
    | false =>
      repeat (first | refine stp ?_ | (refine k_indexAddr ?_; first | (refine o_ixA _ rfl rfl rfl rfl rfl (h := ?_); intro _) | (refine o_ixB rfl rfl rfl rfl (h := ?_); intro _)) | (refine k_load ?_; refine o_loadF rfl rfl rfl rfl ?_) | (refine stb ?_; intro _))
      refine G.giveOwn2 v14 l o 24 (Mr := []) hown inferInstance (List.Perm.refl _) ?_
      exact G.kpE v14 trivial (show Ents _ [fRp v14 l, fRp (.slice a2 begun.length c2) begun, fRp (.slice a3 done.length c3) done, fRp v4 order] from inferInstance) (look_sub_cons rfl (look_sub_cons rfl (look_sub_cons rfl (look_sub_cons rfl (look_sub_cons rfl (look_sub_cons rfl look_sub_nil)))))) (List.nil_sublist _)
    | true =>
      repeat (first | refine stp ?_ | (refine k_indexAddr ?_; first | (refine o_ixA _ rfl rfl rfl rfl rfl (h := ?_); intro _) | (refine o_ixB rfl rfl rfl rfl (h := ?_); intro _)) | (refine k_load ?_; refine o_loadF rfl rfl rfl rfl ?_) | (refine stb ?_; intro _))
      refine o_callV rfl rfl rfl rfl (of_spec 1) rfl ?_
      repeat (first | refine stp ?_ | (refine k_indexAddr ?_; first | (refine o_ixA _ rfl rfl rfl rfl rfl (h := ?_); intro _) | (refine o_ixB rfl rfl rfl rfl (h := ?_); intro _)) | (refine k_load ?_; refine o_loadF rfl rfl rfl rfl ?_) | (refine stb ?_; intro _))
      show OpK _ _ _ _ _ ((42, oK.v) :: _) _ _
      refine o_lit (xs := [oK]) ⟨by decide, rfl, by decide⟩ rfl rfl rfl ⟨litK, trivial⟩ rfl ?_
      intro lv
      refine G.slice lv [oK] ?_
      intro a1 c1 x1 _
      subst x1
      repeat (first | refine stp ?_ | (refine k_indexAddr ?_; first | (refine o_ixA _ rfl rfl rfl rfl rfl (h := ?_); intro _) | (refine o_ixB rfl rfl rfl rfl (h := ?_); intro _)) | (refine k_load ?_; refine o_loadF rfl rfl rfl rfl ?_) | (refine stb ?_; intro _))
      refine o_lit (xs := [oS]) ⟨by decide, rfl, by decide⟩ rfl rfl rfl ⟨fun I hp => Rp.mkSets (s := oS) (Ent'.h (φ := fRp (.slice a1 [oK].length c1) [oK]) I hp) (Rp.nil none 0), trivial⟩ rfl ?_
      intro lv2
      repeat (first | refine stp ?_ | (refine k_indexAddr ?_; first | (refine o_ixA _ rfl rfl rfl rfl rfl (h := ?_); intro _) | (refine o_ixB rfl rfl rfl rfl (h := ?_); intro _)) | (refine k_load ?_; refine o_loadF rfl rfl rfl rfl ?_) | (refine stb ?_; intro _))
      refine o_app2 (Mr := []) o (xs := l) (ys := [oS]) hown ⟨by simp; omega, by simp; omega, rfl⟩ rfl rfl rfl rfl inferInstance inferInstance (List.Perm.refl _) ?_
      intro v' o' hown'
      repeat (first | refine stp ?_ | (refine k_indexAddr ?_; first | (refine o_ixA _ rfl rfl rfl rfl rfl (h := ?_); intro _) | (refine o_ixB rfl rfl rfl rfl (h := ?_); intro _)) | (refine k_load ?_; refine o_loadF rfl rfl rfl rfl ?_) | (refine stb ?_; intro _))
      refine G.giveOwn2 v' (l ++ [oS]) o' 24 (Mr := []) hown' inferInstance (List.Perm.refl _) ?_
      exact G.kpE v' trivial (show Ents _ [fRp v' (l ++ [oS]), fRp (.slice a2 begun.length c2) begun, fRp (.slice a3 done.length c3) done, fRp v4 order] from inferInstance) (look_sub_cons rfl (look_sub_cons rfl (look_sub_cons rfl (look_sub_cons rfl (look_sub_cons rfl (look_sub_cons rfl look_sub_nil)))))) (List.nil_sublist _)
  intro v14 _
  dsimp only
  generalize oddL l odd = x at hfx hlx
  clear hS hfit hlen hown
  clear o
  by_cases h80 : 80 < begun.length
  · repeat (first | refine stp ?_ | (refine k_indexAddr ?_; first | (refine o_ixA _ rfl rfl rfl rfl rfl (h := ?_); intro _) | (refine o_ixB rfl rfl rfl rfl (h := ?_); intro _)) | (refine k_load ?_; refine o_loadF rfl rfl rfl rfl ?_) | (refine stb ?_; intro _))
    refine G.ret rfl (.cons (.tmp rfl) .nil) (Φ' := []) (M' := []) inferInstance (List.nil_sublist _) ⟨?_, rfl, rfl⟩
    rfl
  by_cases h81 : 80 < done.length
  · repeat (first | refine stp ?_ | (refine k_indexAddr ?_; first | (refine o_ixA _ rfl rfl rfl rfl rfl (h := ?_); intro _) | (refine o_ixB rfl rfl rfl rfl (h := ?_); intro _)) | (refine k_load ?_; refine o_loadF rfl rfl rfl rfl ?_) | (refine stb ?_; intro _))
    refine G.ret rfl (.cons (.tmp rfl) .nil) (Φ' := []) (M' := []) inferInstance (List.nil_sublist _) ⟨?_, rfl, rfl⟩
    rfl
  by_cases h82 : 80 < order.length
  · repeat (first | refine stp ?_ | (refine k_indexAddr ?_; first | (refine o_ixA _ rfl rfl rfl rfl rfl (h := ?_); intro _) | (refine o_ixB rfl rfl rfl rfl (h := ?_); intro _)) | (refine k_load ?_; refine o_loadF rfl rfl rfl rfl ?_) | (refine stb ?_; intro _))
    refine G.ret rfl (.cons (.tmp rfl) .nil) (Φ' := []) (M' := []) inferInstance (List.nil_sublist _) ⟨?_, rfl, rfl⟩
    rfl
  repeat (first | refine stp ?_ | (refine k_indexAddr ?_; first | (refine o_ixA _ rfl rfl rfl rfl rfl (h := ?_); intro _) | (refine o_ixB rfl rfl rfl rfl (h := ?_); intro _)) | (refine k_load ?_; refine o_loadF rfl rfl rfl rfl ?_) | (refine stb ?_; intro _))
  refine OpK.call rfl rfl rfl rfl (fit_spec (.slice a2 begun.length c2) begun x.length (by omega) hb2) inferInstance (Mr := _) (List.Perm.refl _) ?_
  rintro u Φ' Mc' ⟨bb, rfl, rfl, rfl⟩
  dsimp only [List.cons_append, List.nil_append]
  repeat (first | refine stp ?_ | (refine k_indexAddr ?_; first | (refine o_ixA _ rfl rfl rfl rfl rfl (h := ?_); intro _) | (refine o_ixB rfl rfl rfl rfl (h := ?_); intro _)) | (refine k_load ?_; refine o_loadF rfl rfl rfl rfl ?_) | (refine stb ?_; intro _))
  refine OpK.call rfl rfl rfl rfl (fit_spec (.slice a3 done.length c3) done x.length (by omega) hb3) inferInstance (Mc := []) (Mr := _) (List.Perm.refl _) ?_
  rintro u Φ' Mc' ⟨bd, rfl, rfl, rfl⟩
  dsimp only [List.cons_append, List.nil_append]
  have hBl := fitB_length begun x.length
  have hDl := fitB_length done x.length
  generalize fitB begun x.length = B at hBl
  generalize fitB done x.length = D at hDl
  repeat (first | refine stp ?_ | (refine k_indexAddr ?_; first | (refine o_ixA _ rfl rfl rfl rfl rfl (h := ?_); intro _) | (refine o_ixB rfl rfl rfl rfl (h := ?_); intro _)) | (refine k_load ?_; refine o_loadF rfl rfl rfl rfl ?_) | (refine stb ?_; intro _))
  refine W.loopI (fun (s : DlSt) => ([fRp v14 x, fRp (.slice a2 begun.length c2) begun, fRp (.slice a3 done.length c3) done, fRp v4 order], [(2, (.slice a2 begun.length c2)), (3, (.slice a3 done.length c3)), (5, .int .i64 many), (13, .bool true), (14, v14), (15, .slice (some ⟨bb, 0, none⟩) x.length x.length), (16, .slice (some ⟨bd, 0, none⟩) x.length x.length), (17, v4), (18, .int .i64 s.i)], [(bd, Ob (cB s.dl) 4), (bb, Ob (cB B) 4)])) (fun s => s.i ≤ x.length ∧ s.dl.length = x.length) (fun s => x.length - s.i) ⟨0, D⟩ ⟨Nat.zero_le _, hDl⟩ inferInstance (look_sub_cons rfl (look_sub_cons rfl (look_sub_cons rfl (look_sub_cons rfl (look_sub_cons rfl (look_sub_cons rfl (look_sub_cons rfl (look_sub_cons rfl (look_sub_cons rfl look_sub_nil))))))))) (List.Sublist.refl _) ?_
  clear hDl
  rintro ⟨i, dl⟩ ⟨hi, hdl⟩
  dsimp only at hi hdl ⊢
  by_cases hi0 : i = x.length
  case neg =>
    have hi1 : i < x.length := by omega
    have hid : i < dl.length := by omega
    have hib : i < B.length := by omega
    cases hd : dl[i] with
    | false =>
      repeat (first | refine stp ?_ | (refine k_indexAddr ?_; first | (refine o_ixA _ rfl rfl rfl rfl rfl (h := ?_); intro _) | (refine o_ixB rfl rfl rfl rfl (h := ?_); intro _)) | (refine k_load ?_; refine o_loadF rfl rfl rfl rfl ?_) | (refine stb ?_; intro _))
      refine o_idxO rfl rfl rfl rfl (by omega) (by omega) (o' := i) (by omega) ?_
      repeat (first | refine stp ?_ | (refine k_indexAddr ?_; first | (refine o_ixA _ rfl rfl rfl rfl rfl (h := ?_); intro _) | (refine o_ixB rfl rfl rfl rfl (h := ?_); intro _)) | (refine k_load ?_; refine o_loadF rfl rfl rfl rfl ?_) | (refine stb ?_; intro _))
      refine o_loadB i hid rfl rfl rfl rfl ?_
      rw [hd]
      repeat (first | refine stp ?_ | (refine k_indexAddr ?_; first | (refine o_ixA _ rfl rfl rfl rfl rfl (h := ?_); intro _) | (refine o_ixB rfl rfl rfl rfl (h := ?_); intro _)) | (refine k_load ?_; refine o_loadF rfl rfl rfl rfl ?_) | (refine stb ?_; intro _))
      refine o_idxO rfl rfl rfl rfl (by omega) (by omega) (o' := i) (by omega) ?_
      refine G.cons ?_
      refine o_storeB i false hid rfl rfl rfl rfl ?_
      repeat (first | refine stp ?_ | (refine k_indexAddr ?_; first | (refine o_ixA _ rfl rfl rfl rfl rfl (h := ?_); intro _) | (refine o_ixB rfl rfl rfl rfl (h := ?_); intro _)) | (refine k_load ?_; refine o_loadF rfl rfl rfl rfl ?_) | (refine stb ?_; intro _))
      exact G.again (S := DlSt) ⟨i + 1, dl.set i false⟩ (by dsimp only; omega) ⟨hi1, by dsimp only; rw [List.length_set]; exact hdl⟩ inferInstance (look_sub_cons rfl (look_sub_cons rfl (look_sub_cons rfl (look_sub_cons rfl (look_sub_cons rfl (look_sub_cons rfl (look_sub_cons rfl (look_sub_cons rfl (look_sub_cons rfl look_sub_nil))))))))) (List.Sublist.refl _)
    | true =>
      repeat (first | refine stp ?_ | (refine k_indexAddr ?_; first | (refine o_ixA _ rfl rfl rfl rfl rfl (h := ?_); intro _) | (refine o_ixB rfl rfl rfl rfl (h := ?_); intro _)) | (refine k_load ?_; refine o_loadF rfl rfl rfl rfl ?_) | (refine stb ?_; intro _))
      refine o_idxO rfl rfl rfl rfl (by omega) (by omega) (o' := i) (by omega) ?_
      repeat (first | refine stp ?_ | (refine k_indexAddr ?_; first | (refine o_ixA _ rfl rfl rfl rfl rfl (h := ?_); intro _) | (refine o_ixB rfl rfl rfl rfl (h := ?_); intro _)) | (refine k_load ?_; refine o_loadF rfl rfl rfl rfl ?_) | (refine stb ?_; intro _))
      refine o_loadB i hid rfl rfl rfl rfl ?_
      rw [hd]
      repeat (first | refine stp ?_ | (refine k_indexAddr ?_; first | (refine o_ixA _ rfl rfl rfl rfl rfl (h := ?_); intro _) | (refine o_ixB rfl rfl rfl rfl (h := ?_); intro _)) | (refine k_load ?_; refine o_loadF rfl rfl rfl rfl ?_) | (refine stb ?_; intro _))
      refine o_idxO rfl rfl rfl rfl (by omega) (by omega) (o' := i) (by omega) ?_
      repeat (first | refine stp ?_ | (refine k_indexAddr ?_; first | (refine o_ixA _ rfl rfl rfl rfl rfl (h := ?_); intro _) | (refine o_ixB rfl rfl rfl rfl (h := ?_); intro _)) | (refine k_load ?_; refine o_loadF rfl rfl rfl rfl ?_) | (refine stb ?_; intro _))
      refine o_loadB i hib rfl rfl rfl rfl ?_
      repeat (first | refine stp ?_ | (refine k_indexAddr ?_; first | (refine o_ixA _ rfl rfl rfl rfl rfl (h := ?_); intro _) | (refine o_ixB rfl rfl rfl rfl (h := ?_); intro _)) | (refine k_load ?_; refine o_loadF rfl rfl rfl rfl ?_) | (refine stb ?_; intro _))
      refine o_idxO rfl rfl rfl rfl (by omega) (by omega) (o' := i) (by omega) ?_
      refine G.cons ?_
      refine o_storeB i B[i] hid rfl rfl rfl rfl ?_
      repeat (first | refine stp ?_ | (refine k_indexAddr ?_; first | (refine o_ixA _ rfl rfl rfl rfl rfl (h := ?_); intro _) | (refine o_ixB rfl rfl rfl rfl (h := ?_); intro _)) | (refine k_load ?_; refine o_loadF rfl rfl rfl rfl ?_) | (refine stb ?_; intro _))
      exact G.again (S := DlSt) ⟨i + 1, dl.set i B[i]⟩ (by dsimp only; omega) ⟨hi1, by dsimp only; rw [List.length_set]; exact hdl⟩ inferInstance (look_sub_cons rfl (look_sub_cons rfl (look_sub_cons rfl (look_sub_cons rfl (look_sub_cons rfl (look_sub_cons rfl (look_sub_cons rfl (look_sub_cons rfl (look_sub_cons rfl look_sub_nil))))))))) (List.Sublist.refl _)
  subst hi0
  refine W.bare (G.giveOwn (.slice (some ⟨bd, 0, none⟩) x.length x.length) dl (some (bd, cB dl)) 4 (Mr := [(bb, Ob (cB B) 4)]) (own_cB bd dl hdl.symm) (Ent'.cB (xs := dl)) (List.Perm.refl _) ?_)
  refine G.giveOwn (.slice (some ⟨bb, 0, none⟩) x.length x.length) B (some (bb, cB B)) 4 (Mr := []) (own_cB bb B hBl.symm) (Ent'.cB (xs := B)) (List.Perm.refl _) ?_
  refine G.code ?_
  have hk := pickN_lt many (n := 9) (by decide)
  have hpk := pick_spec many 9 (by decide) (by decide) on
  generalize pickN many 9 = m at hk hpk
  repeat (first | refine stp ?_ | (refine k_indexAddr ?_; first | (refine o_ixA _ rfl rfl rfl rfl rfl (h := ?_); intro _) | (refine o_ixB rfl rfl rfl rfl (h := ?_); intro _)) | (refine k_load ?_; refine o_loadF rfl rfl rfl rfl ?_) | (refine stb ?_; intro _))
  refine o_callV rfl rfl rfl rfl hpk rfl ?_
  repeat (first | refine stp ?_ | (refine k_indexAddr ?_; first | (refine o_ixA _ rfl rfl rfl rfl rfl (h := ?_); intro _) | (refine o_ixB rfl rfl rfl rfl (h := ?_); intro _)) | (refine k_load ?_; refine o_loadF rfl rfl rfl rfl ?_) | (refine stb ?_; intro _))
  refine o_makeG (60 + m) (⟨[], []⟩ : Sets) rfl rfl rfl rfl (by omega) (by omega) ⟨by omega, by omega, by omega⟩ rfl ?_ ?_
  · exact fun I => ⟨_, _, rfl, Rp.nil none 0, Rp.nil none 0⟩
  intro v19
  repeat (first | refine stp ?_ | (refine k_indexAddr ?_; first | (refine o_ixA _ rfl rfl rfl rfl rfl (h := ?_); intro _) | (refine o_ixB rfl rfl rfl rfl (h := ?_); intro _)) | (refine k_load ?_; refine o_loadF rfl rfl rfl rfl ?_) | (refine stb ?_; intro _))
  have hfR : ∀ s ∈ List.replicate (60 + m) (⟨[], []⟩ : Sets), fit6 s := fun s hs => by rw [List.eq_of_mem_replicate hs]; exact ⟨by decide, by decide⟩
  have hlR : (List.replicate (60 + m) (⟨[], []⟩ : Sets)).length ≤ 100 := by rw [List.length_replicate]; omega
  generalize List.replicate (60 + m) (⟨[], []⟩ : Sets) = R at hfR hlR
  generalize (some (⟨bd, 0, none⟩ : Addr)) = aD
  generalize (some (⟨bb, 0, none⟩ : Addr)) = aB
  refine o_lit (xs := [x, R]) ⟨by decide, rfl, by decide⟩ rfl rfl rfl ⟨fun I hp => Ent'.h (φ := fRp v14 x) I hp, fun I hp => Ent'.h (φ := fRp v19 R) I hp, trivial⟩ rfl ?_
  intro v97
  repeat (first | refine stp ?_ | (refine k_indexAddr ?_; first | (refine o_ixA _ rfl rfl rfl rfl rfl (h := ?_); intro _) | (refine o_ixB rfl rfl rfl rfl (h := ?_); intro _)) | (refine k_load ?_; refine o_loadF rfl rfl rfl rfl ?_) | (refine stb ?_; intro _))
  refine W.loopI (fun (i : Nat) => ([fRp (.slice aB x.length x.length) B, fRp (.slice aD x.length x.length) dl, fRp (.slice a2 begun.length c2) begun, fRp (.slice a3 done.length c3) done, fRp v4 order, fRp v14 x, fRp v97 [x, R]], [(2, (.slice a2 begun.length c2)), (3, (.slice a3 done.length c3)), (13, .bool true), (14, v14), (15, (.slice aB x.length x.length)), (16, (.slice aD x.length x.length)), (17, v4), (97, v97), (98, .int .i64 2), (99, .int .i64 i)], [])) (fun i => i ≤ 2) (fun i => 2 - i) 0 (Nat.zero_le _) inferInstance (look_sub_cons rfl (look_sub_cons rfl (look_sub_cons rfl (look_sub_cons rfl (look_sub_cons rfl (look_sub_cons rfl (look_sub_cons rfl (look_sub_cons rfl (look_sub_cons rfl (look_sub_cons rfl look_sub_nil)))))))))) (List.Sublist.refl _) ?_
  intro i hi2
  dsimp only
  by_cases hi0 : i = 2
  case neg =>
    have hi1 : i < [x, R].length := by simp; omega
    repeat (first | refine stp ?_ | (refine k_indexAddr ?_; first | (refine o_ixA _ rfl rfl rfl rfl rfl (h := ?_); intro _) | (refine o_ixB rfl rfl rfl rfl (h := ?_); intro _)) | (refine k_load ?_; refine o_loadF rfl rfl rfl rfl ?_) | (refine stb ?_; intro _))
    refine o_loadR rfl rfl rfl rfl ?_
    intro v21
    have hy : [x, R][i] = x ∨ [x, R][i] = R := by
      rcases List.mem_cons.1 (List.getElem_mem hi1) with h | h
      · exact .inl h
      · exact .inr (List.mem_singleton.1 h)
    generalize [x, R][i] = y at hy
    have hfy : ∀ s ∈ y, fit6 s := by rcases hy with rfl | rfl <;> assumption
    have hly : y.length ≤ 1000000 := by rcases hy with rfl | rfl <;> omega
    clear hy
    have hel := edgesR_len y
    have hll := levelsR_len y
    repeat (first | refine stp ?_ | (refine k_indexAddr ?_; first | (refine o_ixA _ rfl rfl rfl rfl rfl (h := ?_); intro _) | (refine o_ixB rfl rfl rfl rfl (h := ?_); intro _)) | (refine k_load ?_; refine o_loadF rfl rfl rfl rfl ?_) | (refine stb ?_; intro _))
    refine o_callT (mk := tupE (errG y)) (ψ := fun sv => fRp sv (edgesR y)) rfl rfl rfl rfl (edges_spec v21 y hly hfy).givenT ?_
    intro v22
    unfold tupE
    repeat (first | refine stp ?_ | (refine k_indexAddr ?_; first | (refine o_ixA _ rfl rfl rfl rfl rfl (h := ?_); intro _) | (refine o_ixB rfl rfl rfl rfl (h := ?_); intro _)) | (refine k_load ?_; refine o_loadF rfl rfl rfl rfl ?_) | (refine stb ?_; intro _))
    refine o_callT (mk := tupE (errG y)) (ψ := fun sv => fRp sv (edgesR y)) rfl rfl rfl rfl (redges_spec v21 y hly hfy).givenT ?_
    intro v24
    unfold tupE
    repeat (first | refine stp ?_ | (refine k_indexAddr ?_; first | (refine o_ixA _ rfl rfl rfl rfl rfl (h := ?_); intro _) | (refine o_ixB rfl rfl rfl rfl (h := ?_); intro _)) | (refine k_load ?_; refine o_loadF rfl rfl rfl rfl ?_) | (refine stb ?_; intro _))
    refine o_callT (mk := tupE (errG y)) (ψ := fun sv => fRp sv (levelsR y)) rfl rfl rfl rfl (levels_spec v21 y hly hfy).givenT ?_
    intro v26
    unfold tupE
    repeat (first | refine stp ?_ | (refine k_indexAddr ?_; first | (refine o_ixA _ rfl rfl rfl rfl rfl (h := ?_); intro _) | (refine o_ixB rfl rfl rfl rfl (h := ?_); intro _)) | (refine k_load ?_; refine o_loadF rfl rfl rfl rfl ?_) | (refine stb ?_; intro _))
    refine o_callT (mk := tupE (errG y)) (ψ := fun sv => fRp sv (levelsR y)) rfl rfl rfl rfl (rlevels_spec v21 y hly hfy).givenT ?_
    intro v28
    unfold tupE
    repeat (first | refine stp ?_ | (refine k_indexAddr ?_; first | (refine o_ixA _ rfl rfl rfl rfl rfl (h := ?_); intro _) | (refine o_ixB rfl rfl rfl rfl (h := ?_); intro _)) | (refine k_load ?_; refine o_loadF rfl rfl rfl rfl ?_) | (refine stb ?_; intro _))
    refine o_callV rfl rfl rfl rfl (pairsEq_spec v22 v24 (edgesR y) (edgesR y) hel hel) (v' := .bool true) (by simp) ?_
    repeat (first | refine stp ?_ | (refine k_indexAddr ?_; first | (refine o_ixA _ rfl rfl rfl rfl rfl (h := ?_); intro _) | (refine o_ixB rfl rfl rfl rfl (h := ?_); intro _)) | (refine k_load ?_; refine o_loadF rfl rfl rfl rfl ?_) | (refine stb ?_; intro _))
    refine o_callV rfl rfl rfl rfl (intsEq_spec v26 v28 (levelsR y) (levelsR y) hll hll) (v' := .bool true) (by simp) ?_
    repeat (first | refine stp ?_ | (refine k_indexAddr ?_; first | (refine o_ixA _ rfl rfl rfl rfl rfl (h := ?_); intro _) | (refine o_ixB rfl rfl rfl rfl (h := ?_); intro _)) | (refine k_load ?_; refine o_loadF rfl rfl rfl rfl ?_) | (refine stb ?_; intro _))
    refine o_lit (xs := [(⟨B, dl⟩ : BoolS), ⟨begun, done⟩, ⟨B, done⟩]) ⟨by decide, rfl, by decide⟩ rfl rfl rfl ⟨fun I hp => Rp.mkBB (s := ⟨B, dl⟩) (Ent'.h (φ := fRp (.slice aB x.length x.length) B) I hp) (Ent'.h (φ := fRp (.slice aD x.length x.length) dl) I hp), fun I hp => Rp.mkBB (s := ⟨begun, done⟩) (Ent'.h (φ := fRp (.slice a2 begun.length c2) begun) I hp) (Ent'.h (φ := fRp (.slice a3 done.length c3) done) I hp), fun I hp => Rp.mkBB (s := ⟨B, done⟩) (Ent'.h (φ := fRp (.slice aB x.length x.length) B) I hp) (Ent'.h (φ := fRp (.slice a3 done.length c3) done) I hp), trivial⟩ rfl ?_
    intro v152
    repeat (first | refine stp ?_ | (refine k_indexAddr ?_; first | (refine o_ixA _ rfl rfl rfl rfl rfl (h := ?_); intro _) | (refine o_ixB rfl rfl rfl rfl (h := ?_); intro _)) | (refine k_load ?_; refine o_loadF rfl rfl rfl rfl ?_) | (refine stb ?_; intro _))
    refine W.loopI (fun (k : Nat) => ([fRp (.slice aB x.length x.length) B, fRp (.slice aD x.length x.length) dl, fRp (.slice a2 begun.length c2) begun, fRp (.slice a3 done.length c3) done, fRp v4 order, fRp v14 x, fRp v97 [x, R], fRp v21 y, fRp v152 [(⟨B, dl⟩ : BoolS), ⟨begun, done⟩, ⟨B, done⟩]], [(2, (.slice a2 begun.length c2)), (3, (.slice a3 done.length c3)), (13, .bool true), (14, v14), (15, (.slice aB x.length x.length)), (16, (.slice aD x.length x.length)), (17, v4), (97, v97), (98, .int .i64 2), (99, .int .i64 i), (21, v21), (152, v152), (153, .int .i64 3), (154, .int .i64 k)], [])) (fun k => k ≤ 3) (fun k => 3 - k) 0 (Nat.zero_le _) inferInstance (look_sub_cons rfl (look_sub_cons rfl (look_sub_cons rfl (look_sub_cons rfl (look_sub_cons rfl (look_sub_cons rfl (look_sub_cons rfl (look_sub_cons rfl (look_sub_cons rfl (look_sub_cons rfl (look_sub_cons rfl (look_sub_cons rfl (look_sub_cons rfl (look_sub_cons rfl look_sub_nil)))))))))))))) (List.Sublist.refl _) ?_
    intro k hk3
    dsimp only
    by_cases hk0 : k = 3
    · subst hk0
      have hor := orders_spec v21 v4 y order hly hfy hb4
      have hro := rorders_spec v21 v4 y order hly hfy hb4
      generalize ordG y order = ob at hor hro
      cases ob
      · repeat (first | refine stp ?_ | (refine k_indexAddr ?_; first | (refine o_ixA _ rfl rfl rfl rfl rfl (h := ?_); intro _) | (refine o_ixB rfl rfl rfl rfl (h := ?_); intro _)) | (refine k_load ?_; refine o_loadF rfl rfl rfl rfl ?_) | (refine stb ?_; intro _))
        refine o_callV rfl rfl rfl rfl hor rfl ?_
        repeat (first | refine stp ?_ | (refine k_indexAddr ?_; first | (refine o_ixA _ rfl rfl rfl rfl rfl (h := ?_); intro _) | (refine o_ixB rfl rfl rfl rfl (h := ?_); intro _)) | (refine k_load ?_; refine o_loadF rfl rfl rfl rfl ?_) | (refine stb ?_; intro _))
        refine o_callV rfl rfl rfl rfl hro rfl ?_
        repeat (first | refine stp ?_ | (refine k_indexAddr ?_; first | (refine o_ixA _ rfl rfl rfl rfl rfl (h := ?_); intro _) | (refine o_ixB rfl rfl rfl rfl (h := ?_); intro _)) | (refine k_load ?_; refine o_loadF rfl rfl rfl rfl ?_) | (refine stb ?_; intro _))
        exact G.again (S := Nat) (i + 1) (by omega) (by omega) inferInstance (look_sub_cons rfl (look_sub_cons rfl (look_sub_cons rfl (look_sub_cons rfl (look_sub_cons rfl (look_sub_cons rfl (look_sub_cons rfl (look_sub_cons rfl (look_sub_cons rfl (look_sub_cons rfl look_sub_nil)))))))))) (List.Sublist.refl _)
      · repeat (first | refine stp ?_ | (refine k_indexAddr ?_; first | (refine o_ixA _ rfl rfl rfl rfl rfl (h := ?_); intro _) | (refine o_ixB rfl rfl rfl rfl (h := ?_); intro _)) | (refine k_load ?_; refine o_loadF rfl rfl rfl rfl ?_) | (refine stb ?_; intro _))
        refine o_callV rfl rfl rfl rfl hor rfl ?_
        repeat (first | refine stp ?_ | (refine k_indexAddr ?_; first | (refine o_ixA _ rfl rfl rfl rfl rfl (h := ?_); intro _) | (refine o_ixB rfl rfl rfl rfl (h := ?_); intro _)) | (refine k_load ?_; refine o_loadF rfl rfl rfl rfl ?_) | (refine stb ?_; intro _))
        refine o_callV rfl rfl rfl rfl hro rfl ?_
        repeat (first | refine stp ?_ | (refine k_indexAddr ?_; first | (refine o_ixA _ rfl rfl rfl rfl rfl (h := ?_); intro _) | (refine o_ixB rfl rfl rfl rfl (h := ?_); intro _)) | (refine k_load ?_; refine o_loadF rfl rfl rfl rfl ?_) | (refine stb ?_; intro _))
        exact G.again (S := Nat) (i + 1) (by omega) (by omega) inferInstance (look_sub_cons rfl (look_sub_cons rfl (look_sub_cons rfl (look_sub_cons rfl (look_sub_cons rfl (look_sub_cons rfl (look_sub_cons rfl (look_sub_cons rfl (look_sub_cons rfl (look_sub_cons rfl look_sub_nil)))))))))) (List.Sublist.refl _)
    have hk1 : k < [(⟨B, dl⟩ : BoolS), ⟨begun, done⟩, ⟨B, done⟩].length := by simp; omega
    repeat (first | refine stp ?_ | (refine k_indexAddr ?_; first | (refine o_ixA _ rfl rfl rfl rfl rfl (h := ?_); intro _) | (refine o_ixB rfl rfl rfl rfl (h := ?_); intro _)) | (refine k_load ?_; refine o_loadF rfl rfl rfl rfl ?_) | (refine stb ?_; intro _))
    refine o_loadR rfl rfl rfl rfl ?_
    intro v157
    have hz : [(⟨B, dl⟩ : BoolS), ⟨begun, done⟩, ⟨B, done⟩][k] = ⟨B, dl⟩ ∨ [(⟨B, dl⟩ : BoolS), ⟨begun, done⟩, ⟨B, done⟩][k] = ⟨begun, done⟩ ∨ [(⟨B, dl⟩ : BoolS), ⟨begun, done⟩, ⟨B, done⟩][k] = ⟨B, done⟩ := by
      rcases List.mem_cons.1 (List.getElem_mem hk1) with h | h
      · exact .inl h
      · rcases List.mem_cons.1 h with h | h
        · exact .inr (.inl h)
        · exact .inr (.inr (List.mem_singleton.1 h))
    generalize [(⟨B, dl⟩ : BoolS), ⟨begun, done⟩, ⟨B, done⟩][k] = z at hz
    have hza : z.a.length ≤ 4611686018427387904 := by rcases hz with rfl | rfl | rfl <;> dsimp only <;> omega
    have hzb : z.b.length ≤ 4611686018427387904 := by rcases hz with rfl | rfl | rfl <;> dsimp only <;> omega
    clear hz
    refine G.bb v157 z ?_
    intro r1 w1 e1
    refine G.slice r1 z.a ?_
    intro a8 c8 x8 _
    refine G.slice w1 z.b ?_
    intro a9 c9 x9 _
    subst x8 x9
    subst e1
    have hrl := readyR_len y z.a z.b
    repeat (first | refine stp ?_ | (refine k_indexAddr ?_; first | (refine o_ixA _ rfl rfl rfl rfl rfl (h := ?_); intro _) | (refine o_ixB rfl rfl rfl rfl (h := ?_); intro _)) | (refine k_load ?_; refine o_loadF rfl rfl rfl rfl ?_) | (refine stb ?_; intro _))
    refine o_callT (mk := tupE (errR y z.a z.b)) (ψ := fun sv => fRp sv (readyR y z.a z.b)) rfl rfl rfl rfl (ready_spec v21 (.slice a8 z.a.length c8) (.slice a9 z.b.length c9) y z.a z.b hly hfy hza hzb).givenT ?_
    intro w26
    unfold tupE
    repeat (first | refine stp ?_ | (refine k_indexAddr ?_; first | (refine o_ixA _ rfl rfl rfl rfl rfl (h := ?_); intro _) | (refine o_ixB rfl rfl rfl rfl (h := ?_); intro _)) | (refine k_load ?_; refine o_loadF rfl rfl rfl rfl ?_) | (refine stb ?_; intro _))
    refine o_callT (mk := tupE (errR y z.a z.b)) (ψ := fun sv => fRp sv (readyR y z.a z.b)) rfl rfl rfl rfl (rready_spec v21 (.slice a8 z.a.length c8) (.slice a9 z.b.length c9) y z.a z.b hly hfy hza hzb).givenT ?_
    intro w28
    unfold tupE
    repeat (first | refine stp ?_ | (refine k_indexAddr ?_; first | (refine o_ixA _ rfl rfl rfl rfl rfl (h := ?_); intro _) | (refine o_ixB rfl rfl rfl rfl (h := ?_); intro _)) | (refine k_load ?_; refine o_loadF rfl rfl rfl rfl ?_) | (refine stb ?_; intro _))
    refine o_callV rfl rfl rfl rfl (intsEq_spec w26 w28 (readyR y z.a z.b) (readyR y z.a z.b) hrl hrl) (v' := .bool true) (by simp) ?_
    repeat (first | refine stp ?_ | (refine k_indexAddr ?_; first | (refine o_ixA _ rfl rfl rfl rfl rfl (h := ?_); intro _) | (refine o_ixB rfl rfl rfl rfl (h := ?_); intro _)) | (refine k_load ?_; refine o_loadF rfl rfl rfl rfl ?_) | (refine stb ?_; intro _))
    exact G.again (S := Nat) (k + 1) (by omega) (by omega) inferInstance (look_sub_cons rfl (look_sub_cons rfl (look_sub_cons rfl (look_sub_cons rfl (look_sub_cons rfl (look_sub_cons rfl (look_sub_cons rfl (look_sub_cons rfl (look_sub_cons rfl (look_sub_cons rfl (look_sub_cons rfl (look_sub_cons rfl (look_sub_cons rfl (look_sub_cons rfl look_sub_nil)))))))))))))) (List.nil_sublist _)
  subst hi0
  repeat (first | refine stp ?_ | (refine k_indexAddr ?_; first | (refine o_ixA _ rfl rfl rfl rfl rfl (h := ?_); intro _) | (refine o_ixB rfl rfl rfl rfl (h := ?_); intro _)) | (refine k_load ?_; refine o_loadF rfl rfl rfl rfl ?_) | (refine stb ?_; intro _))
  refine W.loopI (fun (s : TtSt) => ([fRp v4 order, fRp v14 x, fRow (ocells s.o) s.tl], [(13, .bool true), (14, v14), (17, v4), (32, s.v), (33, .int .i64 s.i)], ownM 3 s.o)) (fun s => s.i ≤ x.length ∧ s.tl.length = s.i ∧ IsOwn 1 s.v s.tl.length s.o) (fun s => x.length - s.i) ⟨0, .slice none 0 0, none, []⟩ ⟨Nat.zero_le _, rfl, ⟨rfl, rfl⟩⟩ inferInstance (look_sub_cons rfl (look_sub_cons rfl (look_sub_cons rfl (look_sub_cons rfl (look_sub_cons rfl look_sub_nil))))) (List.Sublist.refl _) ?_
  rintro ⟨i, v32, o, tl⟩ ⟨hi, htl, hown⟩
  dsimp only at hi htl hown ⊢
  by_cases hi0 : i = x.length
  case neg =>
    have hi1 : i < x.length := by omega
    repeat (first | refine stp ?_ | (refine k_indexAddr ?_; first | (refine o_ixA _ rfl rfl rfl rfl rfl (h := ?_); intro _) | (refine o_ixB rfl rfl rfl rfl (h := ?_); intro _)) | (refine k_load ?_; refine o_loadF rfl rfl rfl rfl ?_) | (refine stb ?_; intro _))
    refine o_lit (xs := [(i : Int)]) ⟨by decide, rfl, by decide⟩ rfl rfl rfl ⟨fun _ _ => Rp.flat.2 rfl, trivial⟩ rfl ?_
    intro p1
    repeat (first | refine stp ?_ | (refine k_indexAddr ?_; first | (refine o_ixA _ rfl rfl rfl rfl rfl (h := ?_); intro _) | (refine o_ixB rfl rfl rfl rfl (h := ?_); intro _)) | (refine k_load ?_; refine o_loadF rfl rfl rfl rfl ?_) | (refine stb ?_; intro _))
    refine o_app2 (Mr := []) o (xs := tl) (ys := [(i : Int)]) hown ⟨by simp; omega, by simp; omega, rfl⟩ rfl rfl rfl rfl inferInstance inferInstance (List.Perm.refl _) ?_
    intro v' o' hown'
    repeat (first | refine stp ?_ | (refine k_indexAddr ?_; first | (refine o_ixA _ rfl rfl rfl rfl rfl (h := ?_); intro _) | (refine o_ixB rfl rfl rfl rfl (h := ?_); intro _)) | (refine k_load ?_; refine o_loadF rfl rfl rfl rfl ?_) | (refine stb ?_; intro _))
    exact G.again (S := TtSt) ⟨i + 1, v', o', tl ++ [(i : Int)]⟩ (by dsimp only; omega) ⟨hi1, by simp [htl], hown'⟩ inferInstance (look_sub_cons rfl (look_sub_cons rfl (look_sub_cons rfl (look_sub_cons rfl (look_sub_cons rfl look_sub_nil))))) (List.Sublist.refl _)
  subst hi0
  refine W.bare (G.giveOwn2 v32 tl o 3 (Mr := []) hown inferInstance (List.Perm.refl _) ?_)
  refine G.code ?_
  repeat (first | refine stp ?_ | (refine k_indexAddr ?_; first | (refine o_ixA _ rfl rfl rfl rfl rfl (h := ?_); intro _) | (refine o_ixB rfl rfl rfl rfl (h := ?_); intro _)) | (refine k_load ?_; refine o_loadF rfl rfl rfl rfl ?_) | (refine stb ?_; intro _))
  refine W.loopI (fun (s : TuSt) => ([fRp v4 order, fRp v14 x, fRp s.v s.tl], [(13, .bool true), (14, v14), (17, v4), (32, s.v), (34, .int .i64 s.i)], [])) (fun s => s.i ≤ order.length ∧ s.tl.length = x.length) (fun s => order.length - s.i) ⟨0, v32, tl⟩ ⟨Nat.zero_le _, htl⟩ inferInstance (look_sub_cons rfl (look_sub_cons rfl (look_sub_cons rfl (look_sub_cons rfl (look_sub_cons rfl look_sub_nil))))) (List.Sublist.refl _) ?_
  clear htl hown
  rintro ⟨i, v32, tl⟩ ⟨hi, htl⟩
  dsimp only at hi htl ⊢
  by_cases hend : i = order.length ∨ x.length = 0
  · have hor := orders_spec v14 v32 x tl (by omega) hfx (by omega)
    have hro := rorders_spec v14 v32 x tl (by omega) hfx (by omega)
    generalize ordG x tl = ob at hor hro
    by_cases hi0 : i = order.length
    · cases ob
      · repeat (first | refine stp ?_ | (refine k_indexAddr ?_; first | (refine o_ixA _ rfl rfl rfl rfl rfl (h := ?_); intro _) | (refine o_ixB rfl rfl rfl rfl (h := ?_); intro _)) | (refine k_load ?_; refine o_loadF rfl rfl rfl rfl ?_) | (refine stb ?_; intro _))
        refine o_callV rfl rfl rfl rfl hor rfl ?_
        repeat (first | refine stp ?_ | (refine k_indexAddr ?_; first | (refine o_ixA _ rfl rfl rfl rfl rfl (h := ?_); intro _) | (refine o_ixB rfl rfl rfl rfl (h := ?_); intro _)) | (refine k_load ?_; refine o_loadF rfl rfl rfl rfl ?_) | (refine stb ?_; intro _))
        refine o_callV rfl rfl rfl rfl hro rfl ?_
        repeat (first | refine stp ?_ | (refine k_indexAddr ?_; first | (refine o_ixA _ rfl rfl rfl rfl rfl (h := ?_); intro _) | (refine o_ixB rfl rfl rfl rfl (h := ?_); intro _)) | (refine k_load ?_; refine o_loadF rfl rfl rfl rfl ?_) | (refine stb ?_; intro _))
        refine G.ret rfl (.cons (.tmp rfl) .nil) (Φ' := []) (M' := []) inferInstance (List.nil_sublist _) ⟨?_, rfl, rfl⟩
        rfl
      · repeat (first | refine stp ?_ | (refine k_indexAddr ?_; first | (refine o_ixA _ rfl rfl rfl rfl rfl (h := ?_); intro _) | (refine o_ixB rfl rfl rfl rfl (h := ?_); intro _)) | (refine k_load ?_; refine o_loadF rfl rfl rfl rfl ?_) | (refine stb ?_; intro _))
        refine o_callV rfl rfl rfl rfl hor rfl ?_
        repeat (first | refine stp ?_ | (refine k_indexAddr ?_; first | (refine o_ixA _ rfl rfl rfl rfl rfl (h := ?_); intro _) | (refine o_ixB rfl rfl rfl rfl (h := ?_); intro _)) | (refine k_load ?_; refine o_loadF rfl rfl rfl rfl ?_) | (refine stb ?_; intro _))
        refine o_callV rfl rfl rfl rfl hro rfl ?_
        repeat (first | refine stp ?_ | (refine k_indexAddr ?_; first | (refine o_ixA _ rfl rfl rfl rfl rfl (h := ?_); intro _) | (refine o_ixB rfl rfl rfl rfl (h := ?_); intro _)) | (refine k_load ?_; refine o_loadF rfl rfl rfl rfl ?_) | (refine stb ?_; intro _))
        refine G.ret rfl (.cons (.tmp rfl) .nil) (Φ' := []) (M' := []) inferInstance (List.nil_sublist _) ⟨?_, rfl, rfl⟩
        rfl
    · have hx0 : x.length = 0 := hend.resolve_left hi0
      cases ob
      · repeat (first | refine stp ?_ | (refine k_indexAddr ?_; first | (refine o_ixA _ rfl rfl rfl rfl rfl (h := ?_); intro _) | (refine o_ixB rfl rfl rfl rfl (h := ?_); intro _)) | (refine k_load ?_; refine o_loadF rfl rfl rfl rfl ?_) | (refine stb ?_; intro _))
        refine o_callV rfl rfl rfl rfl hor rfl ?_
        repeat (first | refine stp ?_ | (refine k_indexAddr ?_; first | (refine o_ixA _ rfl rfl rfl rfl rfl (h := ?_); intro _) | (refine o_ixB rfl rfl rfl rfl (h := ?_); intro _)) | (refine k_load ?_; refine o_loadF rfl rfl rfl rfl ?_) | (refine stb ?_; intro _))
        refine o_callV rfl rfl rfl rfl hro rfl ?_
        repeat (first | refine stp ?_ | (refine k_indexAddr ?_; first | (refine o_ixA _ rfl rfl rfl rfl rfl (h := ?_); intro _) | (refine o_ixB rfl rfl rfl rfl (h := ?_); intro _)) | (refine k_load ?_; refine o_loadF rfl rfl rfl rfl ?_) | (refine stb ?_; intro _))
        refine G.ret rfl (.cons (.tmp rfl) .nil) (Φ' := []) (M' := []) inferInstance (List.nil_sublist _) ⟨?_, rfl, rfl⟩
        rfl
      · repeat (first | refine stp ?_ | (refine k_indexAddr ?_; first | (refine o_ixA _ rfl rfl rfl rfl rfl (h := ?_); intro _) | (refine o_ixB rfl rfl rfl rfl (h := ?_); intro _)) | (refine k_load ?_; refine o_loadF rfl rfl rfl rfl ?_) | (refine stb ?_; intro _))
        refine o_callV rfl rfl rfl rfl hor rfl ?_
        repeat (first | refine stp ?_ | (refine k_indexAddr ?_; first | (refine o_ixA _ rfl rfl rfl rfl rfl (h := ?_); intro _) | (refine o_ixB rfl rfl rfl rfl (h := ?_); intro _)) | (refine k_load ?_; refine o_loadF rfl rfl rfl rfl ?_) | (refine stb ?_; intro _))
        refine o_callV rfl rfl rfl rfl hro rfl ?_
        repeat (first | refine stp ?_ | (refine k_indexAddr ?_; first | (refine o_ixA _ rfl rfl rfl rfl rfl (h := ?_); intro _) | (refine o_ixB rfl rfl rfl rfl (h := ?_); intro _)) | (refine k_load ?_; refine o_loadF rfl rfl rfl rfl ?_) | (refine stb ?_; intro _))
        refine G.ret rfl (.cons (.tmp rfl) .nil) (Φ' := []) (M' := []) inferInstance (List.nil_sublist _) ⟨?_, rfl, rfl⟩
        rfl
  have hi1 : i < order.length := by omega
  have hx0 : 0 < x.length := by omega
  have hk := pickN_lt order[i] (n := tl.length) (by omega)
  have hpk := pick_spec order[i] tl.length (by omega) (by omega) (o4.2 _ (List.getElem_mem hi1))
  generalize pickN order[i] tl.length = k at hk hpk
  obtain ⟨P, eP⟩ : ∃ P, (tl.take k).drop 0 = P := ⟨_, rfl⟩
  obtain ⟨R1, eR⟩ : ∃ R1, (tl.take tl.length).drop (k + 1) = R1 := ⟨_, rfl⟩
  have lP : P.length = k := by rw [← eP]; simp; omega
  have lR : R1.length = tl.length - (k + 1) := by rw [← eR]; simp
  repeat (first | refine stp ?_ | (refine k_indexAddr ?_; first | (refine o_ixA _ rfl rfl rfl rfl rfl (h := ?_); intro _) | (refine o_ixB rfl rfl rfl rfl (h := ?_); intro _)) | (refine k_load ?_; refine o_loadF rfl rfl rfl rfl ?_) | (refine stb ?_; intro _))
  refine o_callV rfl rfl rfl rfl hpk rfl ?_
  repeat (first | refine stp ?_ | (refine k_indexAddr ?_; first | (refine o_ixA _ rfl rfl rfl rfl rfl (h := ?_); intro _) | (refine o_ixB rfl rfl rfl rfl (h := ?_); intro _)) | (refine k_load ?_; refine o_loadF rfl rfl rfl rfl ?_) | (refine stb ?_; intro _))
  refine W.drawX 15 (fun D c => bif D 14 then ownM 3 (co (c 14)) else bif D 8 then ownM 3 (co (c 8)) else bif D 3 then ownM 3 (co (c 3)) else []) [⟨?v0_1, fun _ z => []⟩, ⟨?v1_1, fun _ z => []⟩, ⟨fun _ z => z, fun _ z => [fRp z P]⟩, ⟨fun _ z => cv z, fun _ z => [fPure (IsOwn 1 (cv z) P.length (co z)), fRow (ocells (co z)) P]⟩, ⟨?v4_1, fun _ z => []⟩, ⟨?v5_1, fun _ z => []⟩, ⟨?v6_1, fun _ z => []⟩, ⟨fun _ z => z, fun _ z => [fRp z R1]⟩, ⟨fun _ z => cv z, fun _ z => [fPure (IsOwn 1 (cv z) (P ++ R1).length (co z)), fRow (ocells (co z)) (P ++ R1)]⟩, ⟨?v9_1, fun _ z => []⟩, ⟨?v10_1, fun _ z => []⟩, ⟨fun _ z => z, fun _ z => [fPt z tl[k]]⟩, ⟨?v12_1, fun _ z => []⟩, ⟨fun _ z => z, fun _ z => [fRp z [tl[k]]]⟩, ⟨fun _ z => cv z, fun _ z => [fPure (IsOwn 1 (cv z) (P ++ R1 ++ [tl[k]]).length (co z)), fRow (ocells (co z)) (P ++ R1 ++ [tl[k]])]⟩] [[], [], [0, 1], [2], [], [], [5], [4, 6], [3, 7], [], [], [9, 10], [11], [12], [8, 13]] [14] (by kernel_rfl) (by kernel_rfl) (by kernel_rfl) (by kernel_rfl) ?loc_1 ?hz_1 ?ops_1 ?rest_1
  case ops_1 =>
    simp only [AllX, Nat.reduceAdd, and_true]
    refine ⟨?_, ?_, ?_, ?_, ?_, ?_, ?_, ?_, ?_, ?_, ?_, ?_, ?_, ?_, ?_⟩
    · intro D c z0 Φr Lr K hDi hAnc hDn hK; dsimp only [dstOf, dstX, putX, kval, kfac, ancE, ancX,  ancF, getD_z, getD_s, List.getElem?_cons_zero, List.getElem?_cons_succ, List.getElem?_nil, Option.getD_some, Option.getD_none, List.nil_append, List.cons_append, Option.getD] at hK ⊢; refine stp ?_; exact hK z0
    · intro D c z0 Φr Lr K hDi hAnc hDn hK; dsimp only [dstOf, dstX, putX, kval, kfac, ancE, ancX,  ancF, getD_z, getD_s, List.getElem?_cons_zero, List.getElem?_cons_succ, List.getElem?_nil, Option.getD_some, Option.getD_none, List.nil_append, List.cons_append, Option.getD] at hK ⊢; refine stp ?_; exact hK z0
    · intro D c z0 Φr Lr K hDi hAnc hDn hK; dsimp only [dstOf, dstX, putX, kval, kfac, ancE, ancX,  ancF, getD_z, getD_s, List.getElem?_cons_zero, List.getElem?_cons_succ, List.getElem?_nil, Option.getD_some, Option.getD_none, List.nil_append, List.cons_append, Option.getD] at hK ⊢; refine o_slice (xs := tl) 0 k rfl rfl rfl rfl ⟨_, _, rfl, rfl⟩ (Nat.zero_le _) (by omega) ?_; intro z; rw [eP]; exact hK _
    · intro D c z0 Φr Lr K hDi hAnc hDn hK; dsimp only [dstOf, dstX, putX, kval, kfac, ancE, ancX,  ancF, getD_z, getD_s, List.getElem?_cons_zero, List.getElem?_cons_succ, List.getElem?_nil, Option.getD_some, Option.getD_none, List.nil_append, List.cons_append, Option.getD] at hK ⊢; have h8 : D 8 = false := dnF hDn hDi (by kernel_rfl); have h14 : D 14 = false := dnF hDn hDi (by kernel_rfl); simp only [updD, updC, hDi, h8, h14, Nat.reduceEqDiff, ↓reduceIte, cond_true, cond_false, List.append_nil, List.nil_append] at hK ⊢; refine o_app2 (Mr := []) none (xs := ([] : List Int)) (ys := P) ⟨rfl, rfl⟩ ⟨by simp; omega, by simp; omega, rfl⟩ rfl rfl rfl rfl inferInstance inferInstance (List.Perm.refl _) ?_; intro v' o' hown'; have hk := hK (codeO v' o'); simp only [cv_code, co_code] at hk; refine G.learn (fPure (IsOwn 1 v' _ o')) (e := ⟨fun _ _ => hown'⟩) ?_; exact hk; skip
    · intro D c z0 Φr Lr K hDi hAnc hDn hK; dsimp only [dstOf, dstX, putX, kval, kfac, ancE, ancX,  ancF, getD_z, getD_s, List.getElem?_cons_zero, List.getElem?_cons_succ, List.getElem?_nil, Option.getD_some, Option.getD_none, List.nil_append, List.cons_append, Option.getD] at hK ⊢; refine stp ?_; exact hK z0
    · intro D c z0 Φr Lr K hDi hAnc hDn hK; dsimp only [dstOf, dstX, putX, kval, kfac, ancE, ancX,  ancF, getD_z, getD_s, List.getElem?_cons_zero, List.getElem?_cons_succ, List.getElem?_nil, Option.getD_some, Option.getD_none, List.nil_append, List.cons_append, Option.getD] at hK ⊢; refine stp ?_; exact hK z0
    · intro D c z0 Φr Lr K hDi hAnc hDn hK; dsimp only [dstOf, dstX, putX, kval, kfac, ancE, ancX,  ancF, getD_z, getD_s, List.getElem?_cons_zero, List.getElem?_cons_succ, List.getElem?_nil, Option.getD_some, Option.getD_none, List.nil_append, List.cons_append, Option.getD] at hK ⊢; refine o_int rfl rfl rfl rfl (i_add (by omega) (by omega)) ?_; exact hK z0
    · intro D c z0 Φr Lr K hDi hAnc hDn hK; dsimp only [dstOf, dstX, putX, kval, kfac, ancE, ancX,  ancF, getD_z, getD_s, List.getElem?_cons_zero, List.getElem?_cons_succ, List.getElem?_nil, Option.getD_some, Option.getD_none, List.nil_append, List.cons_append, Option.getD] at hK ⊢; refine o_slice (xs := tl) (k + 1) tl.length rfl rfl rfl ⟨_, _, rfl, rfl⟩ rfl (by omega) (Nat.le_refl _) ?_; intro z; rw [eR]; exact hK _
    · intro D c z0 Φr Lr K hDi hAnc hDn hK; dsimp only [dstOf, dstX, putX, kval, kfac, ancE, ancX,  ancF, getD_z, getD_s, List.getElem?_cons_zero, List.getElem?_cons_succ, List.getElem?_nil, Option.getD_some, Option.getD_none, List.nil_append, List.cons_append, Option.getD] at hK ⊢; have h3 : D 3 = true := hAnc 3 (by kernel_rfl); have h14 : D 14 = false := dnF hDn hDi (by kernel_rfl); simp only [updD, updC, hDi, h3, h14, Nat.reduceEqDiff, ↓reduceIte, cond_true, cond_false, List.append_nil, List.nil_append] at hK ⊢; refine OpK.bare (G.use (p := IsOwn 1 (cv (c 3)) (P).length (co (c 3))) (fun I hp => hp (fPure _) (by first | exact .head _ | exact .tail _ (.head _) | exact .tail _ (.tail _ (.head _)) | exact .tail _ (.tail _ (.tail _ (.head _))) | exact .tail _ (.tail _ (.tail _ (.tail _ (.head _)))) | exact .tail _ (.tail _ (.tail _ (.tail _ (.tail _ (.head _))))) | exact .tail _ (.tail _ (.tail _ (.tail _ (.tail _ (.tail _ (.head _)))))) | exact .tail _ (.tail _ (.tail _ (.tail _ (.tail _ (.tail _ (.tail _ (.head _))))))))) ?_); intro hown3; refine OpK.back ?_; refine o_app2 (Mr := []) (co (c 3)) (xs := P) (ys := R1) hown3 ⟨by omega, by omega, rfl⟩ rfl rfl rfl rfl inferInstance inferInstance (List.Perm.refl _) ?_; intro v' o' hown'; have hk := hK (codeO v' o'); simp only [cv_code, co_code] at hk; refine G.learn (fPure (IsOwn 1 v' _ o')) (e := ⟨fun _ _ => hown'⟩) ?_; exact hk; skip
    · intro D c z0 Φr Lr K hDi hAnc hDn hK; dsimp only [dstOf, dstX, putX, kval, kfac, ancE, ancX,  ancF, getD_z, getD_s, List.getElem?_cons_zero, List.getElem?_cons_succ, List.getElem?_nil, Option.getD_some, Option.getD_none, List.nil_append, List.cons_append, Option.getD] at hK ⊢; refine stp ?_; exact hK z0
    · intro D c z0 Φr Lr K hDi hAnc hDn hK; dsimp only [dstOf, dstX, putX, kval, kfac, ancE, ancX,  ancF, getD_z, getD_s, List.getElem?_cons_zero, List.getElem?_cons_succ, List.getElem?_nil, Option.getD_some, Option.getD_none, List.nil_append, List.cons_append, Option.getD] at hK ⊢; refine stp ?_; exact hK z0
    · intro D c z0 Φr Lr K hDi hAnc hDn hK; dsimp only [dstOf, dstX, putX, kval, kfac, ancE, ancX,  ancF, getD_z, getD_s, List.getElem?_cons_zero, List.getElem?_cons_succ, List.getElem?_nil, Option.getD_some, Option.getD_none, List.nil_append, List.cons_append, Option.getD] at hK ⊢; refine o_idxN k rfl rfl rfl rfl rfl hk ?_; intro p; exact hK _
    · intro D c z0 Φr Lr K hDi hAnc hDn hK; dsimp only [dstOf, dstX, putX, kval, kfac, ancE, ancX,  ancF, getD_z, getD_s, List.getElem?_cons_zero, List.getElem?_cons_succ, List.getElem?_nil, Option.getD_some, Option.getD_none, List.nil_append, List.cons_append, Option.getD] at hK ⊢; (first | refine stp ?_ | refine o_loadF rfl rfl rfl rfl ?_); exact hK z0
    · intro D c z0 Φr Lr K hDi hAnc hDn hK; dsimp only [dstOf, dstX, putX, kval, kfac, ancE, ancX,  ancF, getD_z, getD_s, List.getElem?_cons_zero, List.getElem?_cons_succ, List.getElem?_nil, Option.getD_some, Option.getD_none, List.nil_append, List.cons_append, Option.getD] at hK ⊢; refine o_lit (xs := [tl[k]]) ⟨by decide, rfl, by decide⟩ rfl rfl rfl ⟨fun _ _ => Rp.flat.2 rfl, trivial⟩ rfl ?_; intro p; exact hK _
    · intro D c z0 Φr Lr K hDi hAnc hDn hK; dsimp only [dstOf, dstX, putX, kval, kfac, ancE, ancX,  ancF, getD_z, getD_s, List.getElem?_cons_zero, List.getElem?_cons_succ, List.getElem?_nil, Option.getD_some, Option.getD_none, List.nil_append, List.cons_append, Option.getD] at hK ⊢; have h3 : D 3 = true := hAnc 3 (by kernel_rfl); have h8 : D 8 = true := hAnc 8 (by kernel_rfl); simp only [updD, updC, hDi, h3, h8, Nat.reduceEqDiff, ↓reduceIte, cond_true, cond_false, List.append_nil, List.nil_append] at hK ⊢; refine OpK.bare (G.use (p := IsOwn 1 (cv (c 8)) (P ++ R1).length (co (c 8))) (fun I hp => hp (fPure _) (by first | exact .head _ | exact .tail _ (.head _) | exact .tail _ (.tail _ (.head _)) | exact .tail _ (.tail _ (.tail _ (.head _))) | exact .tail _ (.tail _ (.tail _ (.tail _ (.head _)))) | exact .tail _ (.tail _ (.tail _ (.tail _ (.tail _ (.head _))))) | exact .tail _ (.tail _ (.tail _ (.tail _ (.tail _ (.tail _ (.head _)))))) | exact .tail _ (.tail _ (.tail _ (.tail _ (.tail _ (.tail _ (.tail _ (.head _))))))))) ?_); intro hown8; refine OpK.back ?_; refine o_app2 (Mr := []) (co (c 8)) (xs := P ++ R1) (ys := [tl[k]]) hown8 ⟨by simp; omega, by simp; omega, rfl⟩ rfl rfl rfl rfl inferInstance inferInstance (List.Perm.refl _) ?_; intro v' o' hown'; have hk := hK (codeO v' o'); simp only [cv_code, co_code] at hk; refine G.learn (fPure (IsOwn 1 v' _ o')) (e := ⟨fun _ _ => hown'⟩) ?_; exact hk; skip
  case hz_1 => intro c; rfl
  case loc_1 =>
    simp only [AllL, Nat.reduceAdd, and_true]
    refine ⟨?_, ?_, ?_, ?_, ?_, ?_, ?_, ?_, ?_, ?_, ?_, ?_, ?_, ?_, ?_⟩
    all_goals (intro c c' z h; first | exact ⟨rfl, rfl⟩ | (skip))
  intro c
  dsimp only [dstOf, dstX, putX, kval, kfac, ancE, ancX,  ancF, getD_z, getD_s, List.getElem?_cons_zero, List.getElem?_cons_succ, List.getElem?_nil, Option.getD_some, Option.getD_none, List.nil_append, List.cons_append, List.drop_succ_cons, List.drop_zero, Option.getD]
  refine LW.bare (G.use (p := IsOwn 1 (cv (c 14)) (P ++ R1 ++ [tl[k]]).length (co (c 14))) (fun I hp => hp (fPure _) (by first | exact .head _ | exact .tail _ (.head _) | exact .tail _ (.tail _ (.head _)) | exact .tail _ (.tail _ (.tail _ (.head _))) | exact .tail _ (.tail _ (.tail _ (.tail _ (.head _)))) | exact .tail _ (.tail _ (.tail _ (.tail _ (.tail _ (.head _))))) | exact .tail _ (.tail _ (.tail _ (.tail _ (.tail _ (.tail _ (.head _)))))) | exact .tail _ (.tail _ (.tail _ (.tail _ (.tail _ (.tail _ (.tail _ (.head _))))))))) ?_)
  intro hown14
  refine G.giveOwn2 (cv (c 14)) (P ++ R1 ++ [tl[k]]) (co (c 14)) 3 (Mr := []) hown14 inferInstance (List.Perm.refl _) ?_
  repeat (first | refine stp ?_ | (refine k_indexAddr ?_; first | (refine o_ixA _ rfl rfl rfl rfl rfl (h := ?_); intro _) | (refine o_ixB rfl rfl rfl rfl (h := ?_); intro _)) | (refine k_load ?_; refine o_loadF rfl rfl rfl rfl ?_) | (refine stb ?_; intro _))
  exact G.again (S := TuSt) ⟨i + 1, cv (c 14), P ++ R1 ++ [tl[k]]⟩ (by dsimp only; omega) ⟨by dsimp only; omega, by simp; omega⟩ inferInstance (look_sub_cons rfl (look_sub_cons rfl (look_sub_cons rfl (look_sub_cons rfl (look_sub_cons rfl look_sub_nil))))) (List.Sublist.refl _)
end Go.Rail
