/- divide: bits, quotient and remainder. -/
import Derived.Test.YtpbbjkbackiljaaGreatDoorAC2Put
import Derived.Test.YtpbbjkbackiljaaGreatDoorAAccRev
import Derived.Test.YtpbbjkbackiljaaGreatDoorRailC
set_option linter.unusedSimpArgs false
set_option linter.unusedVariables false
namespace Go.Rail
open Go Go.Proofs
set_option maxHeartbeats 400000
set_option maxRecDepth 4000
attribute [local irreducible] OpK G W LW wpListIn Exit.then Exit.inBlock Post rounds opRun bodyPostM intOp
set_option maxHeartbeats 4000000
attribute [local irreducible] lexN cmpW Word.nat
theorem doubled_spec (w : Word) (b : Nat) (hb : b ≤ 1) : FnV Tryz.prog 301 [w.v, .int .u64 b] [] (Word.nat (2 * w.num + b)).v := by
  have := w.a.toNat_lt; have := w.b.toNat_lt; have := w.c.toNat_lt; have := w.d.toNat_lt
  refine Fn.enter Tryz.func301 rfl Tryz.ntmps301 (by simp) (fun I0 w0 => ?_)
  repeat (first | refine stp ?_ | (refine sti ?_; intro _) | refine stf ?_ | (refine stb ?_; intro _))
  refine W.loopN 5 ?_
  repeat (first | refine stp ?_ | (refine sti ?_; intro _) | refine stf ?_ | (refine stb ?_; intro _))
  refine o_indexV (i := 0) rfl rfl rfl rfl (by decide) rfl ?_
  repeat (first | refine stp ?_ | (refine sti ?_; intro _) | refine stf ?_ | (refine stb ?_; intro _))
  refine o_shl rfl rfl rfl rfl (by decide) (u_shl w.a.toNat 1 (by decide)) ?_
  repeat (first | refine stp ?_ | (refine sti ?_; intro _) | refine stf ?_ | (refine stb ?_; intro _))
  refine o_int rfl rfl rfl rfl (u_dbl w.a.toNat b (by omega) (by omega)) ?_
  repeat (first | refine stp ?_ | (refine sti ?_; intro _) | refine stf ?_ | (refine stb ?_; intro _))
  refine o_shr rfl rfl rfl rfl (by decide) (u_shr w.a.toNat 63 (by decide)) ?_
  repeat (first | refine stp ?_ | (refine sti ?_; intro _) | refine stf ?_ | (refine stb ?_; intro _))
  refine o_indexV (i := 1) rfl rfl rfl rfl (by decide) rfl ?_
  repeat (first | refine stp ?_ | (refine sti ?_; intro _) | refine stf ?_ | (refine stb ?_; intro _))
  refine o_shl rfl rfl rfl rfl (by decide) (u_shl w.b.toNat 1 (by decide)) ?_
  repeat (first | refine stp ?_ | (refine sti ?_; intro _) | refine stf ?_ | (refine stb ?_; intro _))
  refine o_int rfl rfl rfl rfl (u_dbl w.b.toNat (w.a.toNat / 2 ^ 63) (by omega) (by omega)) ?_
  repeat (first | refine stp ?_ | (refine sti ?_; intro _) | refine stf ?_ | (refine stb ?_; intro _))
  refine o_shr rfl rfl rfl rfl (by decide) (u_shr w.b.toNat 63 (by decide)) ?_
  repeat (first | refine stp ?_ | (refine sti ?_; intro _) | refine stf ?_ | (refine stb ?_; intro _))
  refine o_indexV (i := 2) rfl rfl rfl rfl (by decide) rfl ?_
  repeat (first | refine stp ?_ | (refine sti ?_; intro _) | refine stf ?_ | (refine stb ?_; intro _))
  refine o_shl rfl rfl rfl rfl (by decide) (u_shl w.c.toNat 1 (by decide)) ?_
  repeat (first | refine stp ?_ | (refine sti ?_; intro _) | refine stf ?_ | (refine stb ?_; intro _))
  refine o_int rfl rfl rfl rfl (u_dbl w.c.toNat (w.b.toNat / 2 ^ 63) (by omega) (by omega)) ?_
  repeat (first | refine stp ?_ | (refine sti ?_; intro _) | refine stf ?_ | (refine stb ?_; intro _))
  refine o_shr rfl rfl rfl rfl (by decide) (u_shr w.c.toNat 63 (by decide)) ?_
  repeat (first | refine stp ?_ | (refine sti ?_; intro _) | refine stf ?_ | (refine stb ?_; intro _))
  refine o_indexV (i := 3) rfl rfl rfl rfl (by decide) rfl ?_
  repeat (first | refine stp ?_ | (refine sti ?_; intro _) | refine stf ?_ | (refine stb ?_; intro _))
  refine o_shl rfl rfl rfl rfl (by decide) (u_shl w.d.toNat 1 (by decide)) ?_
  repeat (first | refine stp ?_ | (refine sti ?_; intro _) | refine stf ?_ | (refine stb ?_; intro _))
  refine o_int rfl rfl rfl rfl (u_dbl w.d.toNat (w.c.toNat / 2 ^ 63) (by omega) (by omega)) ?_
  repeat (first | refine stp ?_ | (refine sti ?_; intro _) | refine stf ?_ | (refine stb ?_; intro _))
  refine o_shr rfl rfl rfl rfl (by decide) (u_shr w.d.toNat 63 (by decide)) ?_
  repeat (first | refine stp ?_ | (refine sti ?_; intro _) | refine stf ?_ | (refine stb ?_; intro _))
  refine G.ret rfl (.cons (.cellA rfl rfl) .nil) (Φ' := []) (M' := []) inferInstance (List.nil_sublist _) ⟨?_, rfl, rfl⟩
  exact Word.v_nat (n := 2 * w.num + b) (by simp only [Word.num, top256]; omega) (by omega) (by omega) (by omega) (by omega)
theorem onesW1_spec (b n : Nat) : IterS Tryz.prog 302 [.pointer (some ⟨b, 0, none⟩)] (bitsE 256 n) [fBlk b (numC 4 n) 49] := by
  intro l T Z hy
  have hy' : ∀ k, k < 256 → FnY Tryz.prog l [.int .u64 ((n / 2 ^ (256 - 1 - k) % 2 : Nat) : Int)] (T k).1 (T k).2 (YR (T (k + 1)) Z) := fun k h => by
    have := hy k (by rw [bitsE_len]; exact h)
    rwa [bitsE_at] at this
  rw [bitsE_len]
  clear hy
  show Fn _ _ _ (fBlk b (numC 4 n) 49 :: (T 0).1) _ _
  refine Fn.enter Tryz.func302 rfl Tryz.ntmps302 (by simp) (fun I0 w0 => ?_)
  repeat (first | refine stp ?_ | (refine sti ?_; intro _) | refine stf ?_ | (refine stb ?_; intro _))
  refine W.loopI (fun (i : Nat) => (fBlk b (numC 4 n) 49 :: (T (256 - 64 * i)).1, [(0, .func (.yield l) #[] #[]), (1, .pointer (some ⟨b, 0, none⟩)), (3, .int .i64 ((i : Int) - 1))], (T (256 - 64 * i)).2)) (fun i => i ≤ 4) (fun i => i) 4 (Nat.le_refl _) ⟨fun I hp φ hφ => hp φ hφ⟩ (look_sub_cons (k := 0) rfl (look_sub_cons (k := 1) rfl (look_sub_cons (k := 3) rfl (look_sub_nil)))) (List.Sublist.refl _) ?_
  intro i hi
  dsimp only
  by_cases hi0 : i = 0
  · subst hi0
    repeat (first | refine stp ?_ | (refine sti ?_; intro _) | refine stf ?_ | (refine stb ?_; intro _))
    exact G.fin rfl .nil (Φ' := (T 256).1) (M' := (T 256).2) ⟨fun I hp φ hφ => hp φ (.tail _ hφ)⟩ (List.Sublist.refl _) (.inl ⟨rfl, rfl⟩)
  obtain ⟨j, rfl⟩ : ∃ j, i = j + 1 := ⟨i - 1, by omega⟩
  rw [show (((j + 1 : Nat) : Int) - 1) = (j : Int) from by omega]
  repeat (first | refine stp ?_ | (refine sti ?_; intro _) | refine stf ?_ | (refine stb ?_; intro _))
  refine W.loopI (fun (u : Nat) => (fBlk b (numC 4 n) 49 :: (T (256 - (64 * j + u))).1, [(0, .func (.yield l) #[] #[]), (1, .pointer (some ⟨b, 0, none⟩)), (3, .int .i64 (j : Int)), (4, .int .i64 ((u : Int) - 1))], (T (256 - (64 * j + u))).2)) (fun u => u ≤ 64) (fun u => u) 64 (Nat.le_refl _) ⟨fun I hp φ hφ => hp φ hφ⟩ (look_sub_cons (k := 0) rfl (look_sub_cons (k := 1) rfl (look_sub_cons (k := 3) rfl (look_sub_cons (k := 4) rfl (look_sub_nil))))) (List.Sublist.refl _) ?_
  intro u hu
  dsimp only
  by_cases hu0 : u = 0
  · subst hu0
    repeat (first | refine stp ?_ | (refine sti ?_; intro _) | refine stf ?_ | (refine stb ?_; intro _))
    exact G.again j (by omega) (by omega) ⟨fun I hp φ hφ => hp φ hφ⟩ (look_sub_cons (k := 0) rfl (look_sub_cons (k := 1) rfl (look_sub_cons (k := 3) rfl (look_sub_nil)))) (List.Sublist.refl _)
  obtain ⟨k, rfl⟩ : ∃ k, u = k + 1 := ⟨u - 1, by omega⟩
  rw [show (((k + 1 : Nat) : Int) - 1) = (k : Int) from by omega]
  repeat (first | refine stp ?_ | (refine sti ?_; intro _) | refine stf ?_ | (refine stb ?_; intro _))
  rw [show 0 + (j : Int).toNat * 1 = j from by omega]
  refine o_load1 rfl rfl rfl (numC_at 4 n j (by omega)) ?_
  repeat (first | refine stp ?_ | (refine sti ?_; intro _) | refine stf ?_ | (refine stb ?_; intro _))
  refine o_shr rfl rfl rfl rfl (by omega) (u_shr _ k (by omega)) ?_
  repeat (first | refine stp ?_ | (refine sti ?_; intro _) | refine stf ?_ | (refine stb ?_; intro _))
  refine o_int rfl rfl rfl rfl (u_mod2 _ (by exact Nat.lt_of_le_of_lt (Nat.div_le_self _ _) (Nat.mod_lt _ (by decide)))) ?_
  rw [bit_mod _ k (by omega), Nat.div_div_eq_div_mul, ← Nat.pow_add]
  repeat (first | refine stp ?_ | (refine sti ?_; intro _) | refine stf ?_ | (refine stb ?_; intro _))
  have hyk := hy' (256 - (64 * j + (k + 1))) (by omega)
  rw [show 256 - 1 - (256 - (64 * j + (k + 1))) = 64 * j + k from by omega, show 256 - (64 * j + (k + 1)) + 1 = 256 - (64 * j + k) from by omega] at hyk
  refine o_yield (Mr := []) rfl rfl rfl rfl hyk (fun I hp φ hφ => hp φ (.tail _ hφ)) (by simp) ?_ ?_
  · repeat (first | refine stp ?_ | (refine sti ?_; intro _) | refine stf ?_ | (refine stb ?_; intro _))
    refine G.again k (by omega) (by omega) ⟨fun I hp φ hφ => ?_⟩ (look_sub_cons (k := 0) rfl (look_sub_cons (k := 1) rfl (look_sub_cons (k := 3) rfl (look_sub_cons (k := 4) rfl (look_sub_nil))))) (by simp)
    rcases List.mem_cons.1 hφ with rfl | hφ
    · exact hp _ (List.mem_append_right _ (.head _))
    · exact hp _ (List.mem_append_left _ hφ)
  · intro s hs
    repeat (first | refine stp ?_ | (refine sti ?_; intro _) | refine stf ?_ | (refine stb ?_; intro _))
    exact G.ret rfl .nil (Φ' := s.1) (M' := s.2) ⟨fun I hp φ hφ => hp φ (List.mem_append_left _ hφ)⟩ (by simp) (.inr hs)
theorem onesX1_spec (b n : Nat) : IterS Tryz.prog 328 [.pointer (some ⟨b, 0, none⟩)] (bitsE 512 n) [fBlk b (numC 8 n) 226] := by
  intro l T Z hy
  have hy' : ∀ k, k < 512 → FnY Tryz.prog l [.int .u64 ((n / 2 ^ (512 - 1 - k) % 2 : Nat) : Int)] (T k).1 (T k).2 (YR (T (k + 1)) Z) := fun k h => by
    have := hy k (by rw [bitsE_len]; exact h)
    rwa [bitsE_at] at this
  rw [bitsE_len]
  clear hy
  show Fn _ _ _ (fBlk b (numC 8 n) 226 :: (T 0).1) _ _
  refine Fn.enter Tryz.func328 rfl Tryz.ntmps328 (by simp) (fun I0 w0 => ?_)
  repeat (first | refine stp ?_ | (refine sti ?_; intro _) | refine stf ?_ | (refine stb ?_; intro _))
  refine W.loopI (fun (i : Nat) => (fBlk b (numC 8 n) 226 :: (T (512 - 64 * i)).1, [(0, .func (.yield l) #[] #[]), (1, .pointer (some ⟨b, 0, none⟩)), (3, .int .i64 ((i : Int) - 1))], (T (512 - 64 * i)).2)) (fun i => i ≤ 8) (fun i => i) 8 (Nat.le_refl _) ⟨fun I hp φ hφ => hp φ hφ⟩ (look_sub_cons (k := 0) rfl (look_sub_cons (k := 1) rfl (look_sub_cons (k := 3) rfl (look_sub_nil)))) (List.Sublist.refl _) ?_
  intro i hi
  dsimp only
  by_cases hi0 : i = 0
  · subst hi0
    repeat (first | refine stp ?_ | (refine sti ?_; intro _) | refine stf ?_ | (refine stb ?_; intro _))
    exact G.fin rfl .nil (Φ' := (T 512).1) (M' := (T 512).2) ⟨fun I hp φ hφ => hp φ (.tail _ hφ)⟩ (List.Sublist.refl _) (.inl ⟨rfl, rfl⟩)
  obtain ⟨j, rfl⟩ : ∃ j, i = j + 1 := ⟨i - 1, by omega⟩
  rw [show (((j + 1 : Nat) : Int) - 1) = (j : Int) from by omega]
  repeat (first | refine stp ?_ | (refine sti ?_; intro _) | refine stf ?_ | (refine stb ?_; intro _))
  refine W.loopI (fun (u : Nat) => (fBlk b (numC 8 n) 226 :: (T (512 - (64 * j + u))).1, [(0, .func (.yield l) #[] #[]), (1, .pointer (some ⟨b, 0, none⟩)), (3, .int .i64 (j : Int)), (4, .int .i64 ((u : Int) - 1))], (T (512 - (64 * j + u))).2)) (fun u => u ≤ 64) (fun u => u) 64 (Nat.le_refl _) ⟨fun I hp φ hφ => hp φ hφ⟩ (look_sub_cons (k := 0) rfl (look_sub_cons (k := 1) rfl (look_sub_cons (k := 3) rfl (look_sub_cons (k := 4) rfl (look_sub_nil))))) (List.Sublist.refl _) ?_
  intro u hu
  dsimp only
  by_cases hu0 : u = 0
  · subst hu0
    repeat (first | refine stp ?_ | (refine sti ?_; intro _) | refine stf ?_ | (refine stb ?_; intro _))
    exact G.again j (by omega) (by omega) ⟨fun I hp φ hφ => hp φ hφ⟩ (look_sub_cons (k := 0) rfl (look_sub_cons (k := 1) rfl (look_sub_cons (k := 3) rfl (look_sub_nil)))) (List.Sublist.refl _)
  obtain ⟨k, rfl⟩ : ∃ k, u = k + 1 := ⟨u - 1, by omega⟩
  rw [show (((k + 1 : Nat) : Int) - 1) = (k : Int) from by omega]
  repeat (first | refine stp ?_ | (refine sti ?_; intro _) | refine stf ?_ | (refine stb ?_; intro _))
  rw [show 0 + (j : Int).toNat * 1 = j from by omega]
  refine o_load1 rfl rfl rfl (numC_at 8 n j (by omega)) ?_
  repeat (first | refine stp ?_ | (refine sti ?_; intro _) | refine stf ?_ | (refine stb ?_; intro _))
  refine o_shr rfl rfl rfl rfl (by omega) (u_shr _ k (by omega)) ?_
  repeat (first | refine stp ?_ | (refine sti ?_; intro _) | refine stf ?_ | (refine stb ?_; intro _))
  refine o_int rfl rfl rfl rfl (u_mod2 _ (by exact Nat.lt_of_le_of_lt (Nat.div_le_self _ _) (Nat.mod_lt _ (by decide)))) ?_
  rw [bit_mod _ k (by omega), Nat.div_div_eq_div_mul, ← Nat.pow_add]
  repeat (first | refine stp ?_ | (refine sti ?_; intro _) | refine stf ?_ | (refine stb ?_; intro _))
  have hyk := hy' (512 - (64 * j + (k + 1))) (by omega)
  rw [show 512 - 1 - (512 - (64 * j + (k + 1))) = 64 * j + k from by omega, show 512 - (64 * j + (k + 1)) + 1 = 512 - (64 * j + k) from by omega] at hyk
  refine o_yield (Mr := []) rfl rfl rfl rfl hyk (fun I hp φ hφ => hp φ (.tail _ hφ)) (by simp) ?_ ?_
  · repeat (first | refine stp ?_ | (refine sti ?_; intro _) | refine stf ?_ | (refine stb ?_; intro _))
    refine G.again k (by omega) (by omega) ⟨fun I hp φ hφ => ?_⟩ (look_sub_cons (k := 0) rfl (look_sub_cons (k := 1) rfl (look_sub_cons (k := 3) rfl (look_sub_cons (k := 4) rfl (look_sub_nil))))) (by simp)
    rcases List.mem_cons.1 hφ with rfl | hφ
    · exact hp _ (List.mem_append_right _ (.head _))
    · exact hp _ (List.mem_append_left _ hφ)
  · intro s hs
    repeat (first | refine stp ?_ | (refine sti ?_; intro _) | refine stf ?_ | (refine stb ?_; intro _))
    exact G.ret rfl .nil (Φ' := s.1) (M' := s.2) ⟨fun I hp φ hφ => hp φ (List.mem_append_left _ hφ)⟩ (by simp) (.inr hs)
end Go.Rail
