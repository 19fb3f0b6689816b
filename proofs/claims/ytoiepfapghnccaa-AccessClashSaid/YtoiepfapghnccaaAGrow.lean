/- Slices of keys put one behind the other. -/
import Derived.Test.YtoiepfapghnccaaACpt
import Derived.Test.YtoiepfapghnccaaRailC
namespace Go.Rail
open Go Go.Proofs
set_option linter.unusedSimpArgs false
set_option linter.unusedVariables false
set_option maxHeartbeats 400000
set_option maxRecDepth 4000
attribute [local irreducible] OpK G W LW wpListIn Exit.then Exit.inBlock Post rounds opRun bodyPostM intOp

attribute [local irreducible] lexN cmpW cmpA cmpK cmpI

theorem grow_spec (n : Nat) (hn : n ≤ 1000000) : Fn Try.prog 104 [.slice none 0 0, .int .i64 n] [] [] (ROwn 31 ([] : List Key)) := by
  refine Fn.enter Try.func104 rfl Try.ntmps104 (by simp) (fun I0 w0 => ?_)
  by_cases h0 : n = 0
  · subst h0
    repeat (first | refine stp ?_ | (refine k_indexAddr ?_; first | (refine o_ixA _ rfl rfl rfl rfl rfl (h := ?_); intro _) | (refine o_ixB rfl rfl rfl rfl (h := ?_); intro _)) | (refine k_load ?_; refine o_loadF rfl rfl rfl rfl ?_) | (refine stb ?_; intro _) | (refine k_load ?_; refine o_loadR rfl rfl rfl rfl ?_; intro _))
    refine o_cap rfl rfl rfl ?_
    repeat (first | refine stp ?_ | (refine k_indexAddr ?_; first | (refine o_ixA _ rfl rfl rfl rfl rfl (h := ?_); intro _) | (refine o_ixB rfl rfl rfl rfl (h := ?_); intro _)) | (refine k_load ?_; refine o_loadF rfl rfl rfl rfl ?_) | (refine stb ?_; intro _) | (refine k_load ?_; refine o_loadR rfl rfl rfl rfl ?_; intro _))
    exact G.ret rfl (.cons (.tmp rfl) .nil) (Φ' := [fRow [] ([] : List Key)]) inferInstance (List.nil_sublist _) ⟨none, ⟨rfl, rfl⟩, rfl, rfl⟩
  · repeat (first | refine stp ?_ | (refine k_indexAddr ?_; first | (refine o_ixA _ rfl rfl rfl rfl rfl (h := ?_); intro _) | (refine o_ixB rfl rfl rfl rfl (h := ?_); intro _)) | (refine k_load ?_; refine o_loadF rfl rfl rfl rfl ?_) | (refine stb ?_; intro _) | (refine k_load ?_; refine o_loadR rfl rfl rfl rfl ?_; intro _))
    refine o_cap rfl rfl rfl ?_
    repeat (first | refine stp ?_ | (refine k_indexAddr ?_; first | (refine o_ixA _ rfl rfl rfl rfl rfl (h := ?_); intro _) | (refine o_ixB rfl rfl rfl rfl (h := ?_); intro _)) | (refine k_load ?_; refine o_loadF rfl rfl rfl rfl ?_) | (refine stb ?_; intro _) | (refine k_load ?_; refine o_loadR rfl rfl rfl rfl ?_; intro _))
    refine o_cap rfl rfl rfl ?_
    repeat (first | refine stp ?_ | (refine k_indexAddr ?_; first | (refine o_ixA _ rfl rfl rfl rfl rfl (h := ?_); intro _) | (refine o_ixB rfl rfl rfl rfl (h := ?_); intro _)) | (refine k_load ?_; refine o_loadF rfl rfl rfl rfl ?_) | (refine stb ?_; intro _) | (refine k_load ?_; refine o_loadR rfl rfl rfl rfl ?_; intro _))
    refine o_cutNil rfl rfl rfl rfl rfl ?_
    repeat (first | refine stp ?_ | (refine k_indexAddr ?_; first | (refine o_ixA _ rfl rfl rfl rfl rfl (h := ?_); intro _) | (refine o_ixB rfl rfl rfl rfl (h := ?_); intro _)) | (refine k_load ?_; refine o_loadF rfl rfl rfl rfl ?_) | (refine stb ?_; intro _) | (refine k_load ?_; refine o_loadR rfl rfl rfl rfl ?_; intro _))
    refine o_growNil n rfl rfl rfl rfl (by omega) ⟨by omega, by decide, rfl⟩ (by omega) ?_
    intro b cs nc hcs hnc
    repeat (first | refine stp ?_ | (refine k_indexAddr ?_; first | (refine o_ixA _ rfl rfl rfl rfl rfl (h := ?_); intro _) | (refine o_ixB rfl rfl rfl rfl (h := ?_); intro _)) | (refine k_load ?_; refine o_loadF rfl rfl rfl rfl ?_) | (refine stb ?_; intro _) | (refine k_load ?_; refine o_loadR rfl rfl rfl rfl ?_; intro _))
    refine o_cutO 0 rfl rfl rfl ⟨_, _, rfl, rfl⟩ (by omega) ?_
    repeat (first | refine stp ?_ | (refine k_indexAddr ?_; first | (refine o_ixA _ rfl rfl rfl rfl rfl (h := ?_); intro _) | (refine o_ixB rfl rfl rfl rfl (h := ?_); intro _)) | (refine k_load ?_; refine o_loadF rfl rfl rfl rfl ?_) | (refine stb ?_; intro _) | (refine k_load ?_; refine o_loadR rfl rfl rfl rfl ?_; intro _))
    exact G.ret rfl (.cons (.tmp rfl) .nil) (Φ' := [fRow cs ([] : List Key)]) (M' := [(b, Ob cs 31)]) inferInstance (List.Sublist.refl _) ⟨some (b, cs), ⟨nc, rfl, hcs, by simp⟩, rfl, rfl⟩

structure CcSt where
  i : Nat
  v : Value
  o : OR
theorem flat_succ {ls : List (List Key)} {i : Nat} (h : i < ls.length) : (ls.take (i + 1)).flatten = (ls.take i).flatten ++ ls[i] := by
  rw [List.take_succ_eq_append_getElem h, List.flatten_append]; simp
theorem flat_le (ls : List (List Key)) (i : Nat) : (ls.take i).flatten.length ≤ ls.flatten.length := by
  conv => rhs; rw [← List.take_append_drop i ls, List.flatten_append, List.length_append]
  omega
theorem concat_spec (v : Value) (ls : List (List Key)) (hl : ls.length ≤ 1000000) (hx : ls.flatten.length ≤ 1000000) : Fn Try.prog 72 [v] [fRp v ls] [] (ROwn 31 ls.flatten) := by
  refine Fn.enter Try.func72 rfl Try.ntmps72 (by simp) (fun I0 w0 => ?_)
  repeat (first | refine stp ?_ | (refine k_indexAddr ?_; first | (refine o_ixA _ rfl rfl rfl rfl rfl (h := ?_); intro _) | (refine o_ixB rfl rfl rfl rfl (h := ?_); intro _)) | (refine k_load ?_; refine o_loadF rfl rfl rfl rfl ?_) | (refine stb ?_; intro _) | (refine k_load ?_; refine o_loadR rfl rfl rfl rfl ?_; intro _))
  refine W.loopI (fun (i : Nat) => ([fRp v ls], [(0, v), (3, .int .i64 (ls.take i).flatten.length), (9, v), (10, .int .i64 ls.length), (11, .int .i64 i)], [])) (fun i => i ≤ ls.length) (fun i => ls.length - i) 0 (by omega) inferInstance (look_sub_cons rfl (look_sub_cons rfl (look_sub_cons rfl (look_sub_cons rfl (look_sub_cons rfl look_sub_nil))))) (List.Sublist.refl _) ?_
  intro i hi
  dsimp only
  have hfl := flat_le ls i
  by_cases hi0 : i = ls.length
  · have he : (ls.take i).flatten = ls.flatten := by rw [hi0, List.take_length]
    repeat (first | refine stp ?_ | (refine k_indexAddr ?_; first | (refine o_ixA _ rfl rfl rfl rfl rfl (h := ?_); intro _) | (refine o_ixB rfl rfl rfl rfl (h := ?_); intro _)) | (refine k_load ?_; refine o_loadF rfl rfl rfl rfl ?_) | (refine stb ?_; intro _) | (refine k_load ?_; refine o_loadR rfl rfl rfl rfl ?_; intro _))
    refine o_callO rfl rfl rfl rfl (grow_spec _ (by omega)) ?_
    intro v0 o0 ho0
    repeat (first | refine stp ?_ | (refine k_indexAddr ?_; first | (refine o_ixA _ rfl rfl rfl rfl rfl (h := ?_); intro _) | (refine o_ixB rfl rfl rfl rfl (h := ?_); intro _)) | (refine k_load ?_; refine o_loadF rfl rfl rfl rfl ?_) | (refine stb ?_; intro _) | (refine k_load ?_; refine o_loadR rfl rfl rfl rfl ?_; intro _))
    refine W.loopI (fun (s : CcSt) => ([fRow (ocells s.o) (ls.take s.i).flatten, fRp v ls], [(0, v), (6, s.v), (25, v), (26, .int .i64 ls.length), (27, .int .i64 s.i)], ownM 31 s.o)) (fun s => s.i ≤ ls.length ∧ IsOwn 25 s.v (ls.take s.i).flatten.length s.o) (fun s => ls.length - s.i) ⟨0, v0, o0⟩ ⟨by dsimp only; omega, ho0⟩ (by show Ents _ [fRow (ocells o0) ([] : List Key), fRp v ls]; infer_instance) (look_sub_cons rfl (look_sub_cons rfl (look_sub_cons rfl (look_sub_cons rfl (look_sub_cons rfl look_sub_nil))))) (List.Sublist.refl _) ?_
    rintro ⟨j, v1, o1⟩ ⟨hj, hown⟩
    dsimp only at hj hown ⊢
    by_cases hj0 : j = ls.length
    · have he : (ls.take j).flatten = ls.flatten := by rw [hj0, List.take_length]
      rw [he] at hown ⊢
      repeat (first | refine stp ?_ | (refine k_indexAddr ?_; first | (refine o_ixA _ rfl rfl rfl rfl rfl (h := ?_); intro _) | (refine o_ixB rfl rfl rfl rfl (h := ?_); intro _)) | (refine k_load ?_; refine o_loadF rfl rfl rfl rfl ?_) | (refine stb ?_; intro _) | (refine k_load ?_; refine o_loadR rfl rfl rfl rfl ?_; intro _))
      exact G.ret rfl (.cons (.tmp rfl) .nil) (Φ' := [fRow (ocells o1) ls.flatten]) (M' := ownM 31 o1) inferInstance (List.Sublist.refl _) ⟨o1, hown, rfl, rfl⟩
    · have hj1 : j < ls.length := by omega
      have hf1 := flat_le ls (j + 1)
      rw [flat_succ hj1, List.length_append] at hf1
      repeat (first | refine stp ?_ | (refine k_indexAddr ?_; first | (refine o_ixA _ rfl rfl rfl rfl rfl (h := ?_); intro _) | (refine o_ixB rfl rfl rfl rfl (h := ?_); intro _)) | (refine k_load ?_; refine o_loadF rfl rfl rfl rfl ?_) | (refine stb ?_; intro _) | (refine k_load ?_; refine o_loadR rfl rfl rfl rfl ?_; intro _))
      refine o_app2 (Mr := []) o1 (xs := (ls.take j).flatten) (ys := ls[j]) hown ⟨by omega, by omega, rfl⟩ rfl rfl rfl rfl inferInstance inferInstance (List.Perm.refl _) ?_
      intro v' o' hown'
      repeat (first | refine stp ?_ | (refine k_indexAddr ?_; first | (refine o_ixA _ rfl rfl rfl rfl rfl (h := ?_); intro _) | (refine o_ixB rfl rfl rfl rfl (h := ?_); intro _)) | (refine k_load ?_; refine o_loadF rfl rfl rfl rfl ?_) | (refine stb ?_; intro _) | (refine k_load ?_; refine o_loadR rfl rfl rfl rfl ?_; intro _))
      refine G.again (S := CcSt) ⟨j + 1, v', o'⟩ (by dsimp only; omega) ⟨by dsimp only; omega, by dsimp only; rw [flat_succ hj1]; exact hown'⟩ ?_ (look_sub_cons rfl (look_sub_cons rfl (look_sub_cons rfl (look_sub_cons rfl (look_sub_cons rfl look_sub_nil))))) (List.Sublist.refl _)
      dsimp only
      rw [flat_succ hj1]
      infer_instance
  · have hi1 : i < ls.length := by omega
    have hf1 := flat_le ls (i + 1)
    rw [flat_succ hi1, List.length_append] at hf1
    repeat (first | refine stp ?_ | (refine k_indexAddr ?_; first | (refine o_ixA _ rfl rfl rfl rfl rfl (h := ?_); intro _) | (refine o_ixB rfl rfl rfl rfl (h := ?_); intro _)) | (refine k_load ?_; refine o_loadF rfl rfl rfl rfl ?_) | (refine stb ?_; intro _) | (refine k_load ?_; refine o_loadR rfl rfl rfl rfl ?_; intro _))
    refine G.again (i + 1) (by omega) (by omega) inferInstance (look_sub_cons rfl (look_sub_cons ?_ (look_sub_cons rfl (look_sub_cons rfl (look_sub_cons rfl look_sub_nil))))) (List.Sublist.refl _)
    rw [flat_succ hi1, List.length_append]
    rfl
end Go.Rail
