/- bit: bytes of words, signs. -/
import Derived.Test.YtpbbjkbackiljaaGreatDoorAC13
import Derived.Test.YtpbbjkbackiljaaGreatDoorAC9
import Derived.Test.YtpbbjkbackiljaaGreatDoorAEqMul
import Derived.Test.YtpbbjkbackiljaaGreatDoorRailG
set_option linter.unusedSimpArgs false
set_option linter.unusedVariables false
namespace Go.Rail
open Go Go.Proofs
set_option maxHeartbeats 400000
set_option maxRecDepth 4000
attribute [local irreducible] OpK G W LW wpListIn Exit.then Exit.inBlock Post rounds opRun bodyPostM intOp
set_option maxHeartbeats 4000000
attribute [local irreducible] lexN cmpW Word.nat subW mulW
def byN (n : Nat) : List UInt8 := (List.range 32).map fun k => UInt8.ofNat (n / 2 ^ (8 * (31 - k)) % 256)
theorem byN_len (n : Nat) : (byN n).length = 32 := by simp [byN]
def u8E (xs : List UInt8) : List (List Value) := xs.map fun (x : UInt8) => [.int .u8 ((x.toNat : Nat) : Int)]
theorem u8E_len (xs : List UInt8) : (u8E xs).length = xs.length := by simp [u8E]
theorem u8E_at (xs : List UInt8) (k : Nat) (h : k < (u8E xs).length) (h' : k < xs.length) : (u8E xs)[k] = [.int .u8 ((xs[k].toNat : Nat) : Int)] := by simp [u8E]
theorem u8E_one (xs : List UInt8) : ∀ vs ∈ u8E xs, vs.length = 1 := by
  intro vs h
  obtain ⟨p, _, rfl⟩ := List.mem_map.1 h
  rfl
theorem byN_at (n k : Nat) (h : k < 32) : (byN n)[k]? = some (UInt8.ofNat (n / 2 ^ (8 * (31 - k)) % 256)) := by simp [byN, h]
theorem oct1_spec (b n : Nat) : IterR Tryz.prog 257 [.pointer (some ⟨b, 0, none⟩)] (u8E (byN n)) [fBlk b (numC 4 n) 49] := by
  intro l T Z hy s0 hs0
  have hy' : ∀ k, k < 32 → ∀ s, T (31 - k) s → FnY Tryz.prog l [.int .u8 ((n / 2 ^ (8 * k) % 256 : Nat) : Int)] s.1 s.2 (YRr (T (32 - k)) Z) := fun k h s hs => by
    have := hy (31 - k) (by rw [u8E_len, byN_len]; omega) s hs
    have e := byN_at n (31 - k) (by omega)
    obtain ⟨_, e⟩ := List.getElem?_eq_some_iff.1 e
    rw [u8E_at _ _ _ (by rw [byN_len]; omega), e, show 31 - (31 - k) = k from by omega, show 31 - k + 1 = 32 - k from by omega, UInt8.toNat_ofNat'] at this
    rwa [Nat.mod_mod] at this
  rw [u8E_len, byN_len]
  clear hy
  show Fn _ _ _ (fBlk b (numC 4 n) 49 :: s0.1) _ _
  refine Fn.enter Tryz.func257 rfl Tryz.ntmps257 (by simp) (fun I0 w0 => ?_)
  repeat (refine st ?_; try intro _)
  refine W.lp (fun (i : Nat × St) => (fBlk b (numC 4 n) 49 :: i.2.1, [(0, .func (.yield l) #[] #[]), (1, .pointer (some ⟨b, 0, none⟩)), (3, .int .i64 ((i.1 : Int) - 1))], i.2.2)) (fun i => i.1 ≤ 32 ∧ T (32 - i.1) i.2) (fun i => i.1) (32, s0) ?_ (h0 := ⟨Nat.le_refl _, by rw [Nat.sub_self]; exact hs0⟩) (hΦ := ⟨fun I hp φ hφ => hp φ hφ⟩)
  rintro ⟨i, sa⟩ ⟨hi, hsa⟩
  dsimp only at hi hsa ⊢
  by_cases hi0 : i = 0
  · subst hi0
    repeat (refine st ?_; try intro _)
    exact G.fin rfl .nil (Φ' := sa.1) (M' := sa.2) ⟨fun I hp φ hφ => hp φ (.tail _ hφ)⟩ (List.Sublist.refl _) (.inl hsa)
  obtain ⟨j, rfl⟩ : ∃ j, i = j + 1 := ⟨i - 1, by omega⟩
  rw [show (((j + 1 : Nat) : Int) - 1) = (j : Int) from by omega]
  have hyk := hy' j (by omega) sa (by rw [show 31 - j = 32 - (j + 1) from by omega]; exact hsa)
  repeat (refine st ?_; try intro _)
  have e : n / 2 ^ (64 * (j / 8)) % 18446744073709551616 / 2 ^ (j % 8 * 8) % 256 = n / 2 ^ (8 * j) % 256 := by
    have e1 : n / 2 ^ (64 * (j / 8)) % 18446744073709551616 / 2 ^ (j % 8 * 8) = n / 2 ^ (64 * (j / 8)) / 2 ^ (j % 8 * 8) % 2 ^ (64 - j % 8 * 8) := by
      rw [show (18446744073709551616 : Nat) = 2 ^ (j % 8 * 8) * 2 ^ (64 - j % 8 * 8) from by rw [← Nat.pow_add, show j % 8 * 8 + (64 - j % 8 * 8) = 64 from by omega], Nat.mod_mul_right_div_self]
    have e2 : (2 : Nat) ^ (64 - j % 8 * 8) = 256 * 2 ^ (56 - j % 8 * 8) := by
      rw [show (256 : Nat) = 2 ^ 8 from rfl, ← Nat.pow_add, show 8 + (56 - j % 8 * 8) = 64 - j % 8 * 8 from by omega]
    rw [e1, e2, Nat.mod_mul_right_mod, Nat.div_div_eq_div_mul, ← Nat.pow_add, show 64 * (j / 8) + j % 8 * 8 = 8 * j from by omega]
  rw [e]
  repeat (refine st ?_; try intro _)
  refine o_yieldR (Mr := []) rfl rfl rfl rfl hyk (fun I hp φ hφ => hp φ (by simp [hφ])) (by simp) ?_ ?_
  · intro st2 hst2
    repeat (refine st ?_; try intro _)
    refine G.ag (S := Nat × St) (j, st2) (hpre := ⟨by dsimp only; omega, hst2⟩) (hΦ := ⟨fun I hp φ hφ => ?_⟩) (hM := by simp)
    rcases List.mem_cons.1 hφ with rfl | hφ
    · exact hp _ (by simp)
    · exact hp _ (by simp [hφ])
  · intro s hs
    repeat (refine st ?_; try intro _)
    exact G.ret rfl .nil (Φ' := s.1) (M' := s.2) ⟨fun I hp φ hφ => hp φ (by simp [hφ])⟩ (by simp) (.inr hs)
theorem appB_spec (gf : FuncId) [HasFn Tryz.prog gf] (lb : List Value) (xs : List UInt8) (Φi : List Fa) (hit : IterR Tryz.prog gf lb (u8E xs) Φi) (hx : xs.length ≤ 100000) : Fn Tryz.prog 256 [.slice none 0 0, .func (.func gf) #[] lb.toArray] Φi [] (ROwn 5 xs) := by
  refine Fn.enter Tryz.func256 rfl Tryz.ntmps256 (by simp) (fun I0 w0 => ?_)
  repeat (refine st ?_; try intro _)
  rename_i b2
  refine W.rangeFuncR (enc := u8E xs) (ps := [7]) (Φi := Φi) (Mr := []) (fun k s => ∃ w o, IsOwn 1 w (xs.take k).length o ∧ s = ([fRow (ocells o) (xs.take k)], (b2, Ob [w] 34) :: ownM 5 o)) (fun _ _ => False) rfl hit (by decide) (u8E_one xs) ⟨fun I hp => hp⟩ ([fRow ([] : List Value) ([] : List UInt8)], [(b2, Ob [.slice none 0 0] 34)]) ⟨_, none, ⟨rfl, rfl⟩, rfl⟩ inferInstance (List.Perm.refl _) ?_ ?_ ?_
  · rintro l rec I0' w0' k hk _ ⟨w, o, hown, rfl⟩
    rw [u8E_len] at hk
    have htk : xs.take k ++ [xs[k]] = xs.take (k + 1) := by rw [List.take_succ_eq_append_getElem hk]
    have htl : (xs.take k).length = k := by rw [List.length_take]; omega
    dsimp only
    rw [u8E_at xs k (by rw [u8E_len]; exact hk) hk]
    generalize xs[k] = e at htk ⊢
    show W _ _ _ _ ((7, .int .u8 ((e.toNat : Nat) : Int)) :: _) _
    repeat (refine st ?_; try intro _)
    refine G.begin (by rfl) ?_
    repeat (refine st ?_; try intro _)
    refine o_app2 (Mr := [_, _]) o (xs := xs.take k) (ys := [e]) hown ⟨by simp; omega, by simp; omega, rfl⟩ rfl rfl rfl rfl inferInstance inferInstance (List.Perm.refl _) ?_
    intro w' o' hown'
    rw [htk] at hown' ⊢
    dsimp only [List.cons_append, List.nil_append]
    repeat (refine st ?_; try intro _)
    refine o_store (vs := [w']) (cs' := [w']) rfl rfl rfl (own_cell hown').1 rfl (Nat.le_of_ble_eq_true rfl) (own_cell hown').2 rfl ?_
    repeat (refine st ?_; try intro _)
    refine G.roundEnd inferInstance (Φ' := [fRow (ocells o') (xs.take (k + 1))]) (M'' := (b2, Ob [w'] 34) :: ownM 5 o') ?_ inferInstance (by first | exact List.Sublist.refl _ | exact .cons _ (List.Sublist.refl _))
    exact Or.inl ⟨rfl, ([fRow (ocells o') (xs.take (k + 1))], (b2, Ob [w'] 34) :: ownM 5 o'), ⟨w', o', hown', rfl⟩, rfl⟩
  · rintro D _ ⟨w, o, hown, rfl⟩
    rw [u8E_len, List.take_length] at hown ⊢
    refine G.perm ?_ List.perm_append_comm
    dsimp only [List.cons_append, List.nil_append]
    repeat (refine st ?_; try intro _)
    refine G.unmark inferInstance ?_
    exact G.ret rfl (.cons (.tmp rfl) .nil) (Φ' := [fRow (ocells o) xs]) (M' := ownM 5 o) inferInstance (List.sublist_cons_self _ _) ⟨o, hown, rfl, rfl⟩
  · intro D c s h
    exact h.elim
theorem collB_spec (gf : FuncId) [HasFn Tryz.prog gf] (lb : List Value) (xs : List UInt8) (Φi : List Fa) (hit : IterR Tryz.prog gf lb (u8E xs) Φi) (hx : xs.length ≤ 100000) : FnD Tryz.prog 173 [.func (.func gf) #[] lb.toArray] Φi (fun v => [fRp v xs]) := by
  refine Fn.given (e := 5) ?_
  refine Fn.enter Tryz.func173 rfl Tryz.ntmps173 (by simp) (fun I0 w0 => ?_)
  repeat (refine st ?_; try intro _)
  refine o_callO (Φc := Φi) rfl rfl rfl rfl (appB_spec gf lb xs Φi hit hx) (hΦ := ⟨fun I hp => hp⟩) ?_
  intro v' o hown
  repeat (refine st ?_; try intro _)
  refine G.ret rfl (.cons (.tmp rfl) .nil) (Φ' := [fRow (ocells o) xs]) (M' := ownM 5 o) inferInstance (List.Sublist.refl _) ⟨o, hown, rfl, rfl⟩
theorem octs_spec (n : Nat) : Fn Tryz.prog 174 [.agg (numC 4 n).toArray] [] [] (fun u Φ' M' => ∃ b, u = .func (.func 257) #[] #[.pointer (some ⟨b, 0, none⟩)] ∧ Φ' = [fBlk b (numC 4 n) 49] ∧ M' = []) := by
  refine Fn.enter Tryz.func174 rfl Tryz.ntmps174 (by simp) (fun I0 w0 => ?_)
  repeat (refine st ?_; try intro _)
  rename_i b
  refine o_func rfl rfl rfl rfl ?_
  repeat (refine st ?_; try intro _)
  refine G.give b (cs := numC 4 n) (t := 49) ?_
  exact G.ret rfl (.cons (.tmp rfl) .nil) (Φ' := [fBlk b (numC 4 n) 49]) (M' := []) inferInstance (List.nil_sublist _) ⟨b, rfl, rfl, rfl⟩
theorem wbytes_spec (a : Word) : FnV Tryz.prog 91 [a.v] [] (.string (ba (byN a.num))) := by
  rw [v_num]
  refine Fn.enter Tryz.func91 rfl Tryz.ntmps91 (by simp) (fun I0 w0 => ?_)
  repeat (refine st ?_; try intro _)
  refine OpK.call rfl rfl rfl rfl (octs_spec a.num) inferInstance (Mr := _) (List.Perm.refl _) ?_
  rintro u Φ' Mc' ⟨b, rfl, rfl, rfl⟩
  dsimp only [List.cons_append, List.nil_append]
  repeat (refine st ?_; try intro _)
  refine o_callD rfl rfl rfl rfl (collB_spec _ [.pointer (some ⟨b, 0, none⟩)] (byN a.num) _ (oct1_spec b a.num) (by rw [byN_len]; decide)) ?_
  intro v
  repeat (refine st ?_; try intro _)
  refine G.retV ?_
  rfl
def byteW (i a : Word) : Word := if 32 ≤ i.num then .zero else .nat (a.num / 2 ^ (8 * (31 - i.num)) % 256)
theorem bbyte_spec (a b : Word) : FnV Tryz.prog 159 [a.v, b.v] [] (byteW a b).v := by
  have hl := limit_spec a 32 (by decide)
  have hb := wbytes_spec b
  refine Fn.enter Tryz.func159 rfl Tryz.ntmps159 (by simp) (fun I0 w0 => ?_)
  by_cases h : 32 ≤ a.num
  · rw [show min a.num 32 = 32 from by omega] at hl
    repeat (refine st ?_; try intro _)
    refine o_callV rfl rfl rfl rfl hl rfl ?_
    repeat (refine st ?_; try intro _)
    repeat (refine st ?_; try intro _)
    refine G.retV ?_
    rw [byteW, if_pos h]; rfl
  · rw [show min a.num 32 = a.num from by omega] at hl
    obtain ⟨hlt, he⟩ := List.getElem?_eq_some_iff.1 (byN_at b.num a.num (by omega))
    have hof := wof_spec (b.num / 2 ^ (8 * (31 - a.num)) % 256) (by omega)
    have e1 : (UInt8.ofNat (b.num / 2 ^ (8 * (31 - a.num)) % 256)).toNat = b.num / 2 ^ (8 * (31 - a.num)) % 256 := by
      rw [UInt8.toNat_ofNat', Nat.mod_mod]
    repeat (refine st ?_; try intro _)
    refine o_callV rfl rfl rfl rfl hl rfl ?_
    repeat (refine st ?_; try intro _)
    refine o_callV rfl rfl rfl rfl hb rfl ?_
    repeat (refine st ?_; try intro _)
    rw [he, e1]
    repeat (refine st ?_; try intro _)
    refine o_callV rfl rfl rfl rfl hof rfl ?_
    repeat (refine st ?_; try intro _)
    refine G.retV ?_
    rw [byteW, if_neg h]; rfl
def sarW (by_ a : Word) : Word := if negW a then notW (shrW by_ (notW a)) else shrW by_ a
instance (a b : Word) {Φ : List Fa} : CV Tryz.prog 160 [a.v, b.v] Φ (shlW a b).v := ⟨Fn.weaken (bshl_spec a b)⟩
instance (a b : Word) {Φ : List Fa} : CV Tryz.prog 161 [a.v, b.v] Φ (shrW a b).v := ⟨Fn.weaken (bshr_spec a b)⟩
theorem bsar_spec (a b : Word) : FnV Tryz.prog 162 [a.v, b.v] [] (sarW a b).v := by
  refine Fn.enter Tryz.func162 rfl Tryz.ntmps162 (by simp) (fun I0 w0 => ?_)
  unfold sarW
  cases h : negW b with
  | false =>
    repeat (refine st ?_; try intro _)
    rw [h]
    repeat (refine st ?_; try intro _)
    refine G.retV ?_
    rfl
  | true =>
    repeat (refine st ?_; try intro _)
    rw [h]
    repeat (refine st ?_; try intro _)
    refine W.drawA 3 [dq _, dq _, dq _] [[], [], [1]] [0, 2] (hrest := fun c => nrm ?_)
    repeat (refine st ?_; try intro _)
    refine G.retV ?_
    rfl
def signW (i a : Word) : Word := sarW (.nat (248 - 8 * min i.num 31)) (shlW (.nat (248 - 8 * min i.num 31)) a)
instance (a b : Word) {Φ : List Fa} : CV Tryz.prog 162 [a.v, b.v] Φ (sarW a b).v := ⟨Fn.weaken (bsar_spec a b)⟩
theorem bsign_spec (a b : Word) : FnV Tryz.prog 148 [a.v, b.v] [] (signW a b).v := by
  have hl := limit_spec a 31 (by decide)
  obtain ⟨n, hn⟩ : ∃ n, n = min a.num 31 := ⟨_, rfl⟩
  have hof := wof_spec (256 - 8 * (n + 1)) (by omega)
  unfold signW
  rw [← hn] at hl ⊢
  rw [show 248 - 8 * n = 256 - 8 * (n + 1) from by omega]
  refine Fn.enter Tryz.func148 rfl Tryz.ntmps148 (by simp) (fun I0 w0 => ?_)
  repeat (refine st ?_; try intro _)
  refine o_callV rfl rfl rfl rfl hl rfl ?_
  repeat (refine st ?_; try intro _)
  refine o_callV rfl rfl rfl rfl hof rfl ?_
  repeat (refine st ?_; try intro _)
  refine W.drawA 4 [dq _, dq _, dq _, dq _] [[], [], [], [1,2]] [0, 3] (hrest := fun c => nrm ?_)
  repeat (refine st ?_; try intro _)
  refine G.retV ?_
  rfl
end Go.Rail
namespace Go.Rail
open Go Go.Proofs
set_option maxHeartbeats 400000
set_option maxRecDepth 4000
attribute [local irreducible] OpK G W LW wpListIn Exit.then Exit.inBlock Post rounds opRun bodyPostM intOp
set_option maxHeartbeats 16000000
set_option maxRecDepth 20000
theorem low_spec : Fn Tryz.prog 50 [] [] [] (RMapV (rowsV rowsLow)) := by
  refine Fn.enter Tryz.func50 rfl Tryz.ntmps50 (by simp) (fun I0 w0 => ?_)
  repeat (refine st ?_; try intro _)
  refine o_makeMapV rfl rfl ?_
  intro b
  repeat (first | refine st ?_ | refine o_insV rfl rfl rfl rfl (by kernel_rfl) ?_)
  exact G.ret rfl (.cons (.tmp rfl) .nil) (Φ' := []) (M' := [(b, MapV (rowsV rowsLow))]) inferInstance (List.Sublist.refl _) ⟨b, rfl, rfl, rfl⟩
theorem high_spec : Fn Tryz.prog 51 [] [] [] (RMapV (rowsV rowsHigh)) := by
  refine Fn.enter Tryz.func51 rfl Tryz.ntmps51 (by simp) (fun I0 w0 => ?_)
  repeat (refine st ?_; try intro _)
  refine o_makeMapV rfl rfl ?_
  intro b
  repeat (first | refine st ?_ | refine o_insV rfl rfl rfl rfl (by kernel_rfl) ?_)
  exact G.ret rfl (.cons (.tmp rfl) .nil) (Φ' := []) (M' := [(b, MapV (rowsV rowsHigh))]) inferInstance (List.Sublist.refl _) ⟨b, rfl, rfl, rfl⟩
theorem lookup_spec (n b b1 b2 : Nat) (l1 l2 : List (Nat × Row)) : Fn Tryz.prog 49 [.int .u8 (n : Int), .slice (some ⟨b, 0, none⟩) 2 2] [fBlk b [.map (some b1), .map (some b2)] 89] [(b1, MapV (rowsV l1)), (b2, MapV (rowsV l2))]
    (fun u Φ' M' => u = .tuple #[rowV (((findR l1 n).or (findR l2 n)).getD noRow), .bool ((findR l1 n).or (findR l2 n)).isSome] ∧ Φ' = [] ∧ M' = []) := by
  have g1 := getV_rows l1 n
  have g2 := getV_rows l2 n
  refine Fn.enter Tryz.func49 rfl Tryz.ntmps49 (by simp) (fun I0 w0 => ?_)
  repeat (refine st ?_; try intro _)
  refine W.loopN 3 ?_
  repeat (refine st ?_; try intro _)
  refine o_idxO rfl rfl rfl rfl (by decide) (by decide) (o' := 0) (by decide) ?_
  repeat (refine st ?_; try intro _)
  cases h1 : findR l1 n with
  | some r =>
    rw [h1] at g1
    refine o_lookV (l := rowsV l1) rfl rfl rfl rfl (by simp) (by rw [g1]) (by rw [g1]) ?_
    repeat (refine st ?_; try intro _)
    refine G.ret rfl (.cons (.cellA rfl rfl) (.cons (.tmp rfl) .nil)) (Φ' := []) (M' := []) inferInstance (List.nil_sublist _) ⟨?_, rfl, rfl⟩
    rfl
  | none =>
    rw [h1] at g1
    refine o_lookV (l := rowsV l1) rfl rfl rfl rfl (by simp) (by rw [g1]) (by rw [g1]) ?_
    repeat (refine st ?_; try intro _)
    refine o_idxO rfl rfl rfl rfl (by decide) (by decide) (o' := 1) (by decide) ?_
    repeat (refine st ?_; try intro _)
    cases h2 : findR l2 n with
    | some r =>
      rw [h2] at g2
      refine o_lookV (l := rowsV l2) rfl rfl rfl rfl (by simp) (by rw [g2]) (by rw [g2]) ?_
      repeat (refine st ?_; try intro _)
      refine G.ret rfl (.cons (.cellA rfl rfl) (.cons (.tmp rfl) .nil)) (Φ' := []) (M' := []) inferInstance (List.nil_sublist _) ⟨?_, rfl, rfl⟩
      rfl
    | none =>
      rw [h2] at g2
      refine o_lookV (l := rowsV l2) rfl rfl rfl rfl (by simp) (by rw [g2]) (by rw [g2]) ?_
      repeat (refine st ?_; try intro _)
      refine G.ret rfl (.cons (.cellA rfl rfl) (.cons (.tmp rfl) .nil)) (Φ' := []) (M' := []) inferInstance (List.nil_sublist _) ⟨?_, rfl, rfl⟩
      rfl
theorem ssmall_spec (n : Nat) (hn : n < 100) : FnV Tryz.prog 297 [.int .i64 (n : Int)] [] (.string (ba (decN n))) := by
  refine Fn.enter Tryz.func297 rfl Tryz.ntmps297 (by simp) (fun I0 w0 => ?_)
  unfold decN
  by_cases h : n < 10
  · rw [if_pos h]
    repeat (refine st ?_; try intro _)
    refine G.retV ?_
    refine congrArg (fun l => Value.string (ba l)) ?_
    clear I0 w0
    revert n
    exact of_decide_eq_true (by kernel_rfl)
  · rw [if_neg h]
    repeat (refine st ?_; try intro _)
    refine G.retV ?_
    refine congrArg (fun l => Value.string (ba l)) ?_
    clear I0 w0
    revert n
    exact of_decide_eq_true (by kernel_rfl)
theorem fmt_spec (n : Nat) (hn : n < 100) : FnV Tryz.prog 228 [.int .i64 (n : Int), .int .i64 10] [] (.string (ba (decN n))) := by
  have hs := ssmall_spec n hn
  refine Fn.enter Tryz.func228 rfl Tryz.ntmps228 (by simp) (fun I0 w0 => ?_)
  repeat (refine st ?_; try intro _)
  refine o_callV rfl rfl rfl rfl hs rfl ?_
  repeat (refine st ?_; try intro _)
  refine G.retV ?_
  rfl
theorem itoa2_spec (n : Nat) (hn : n < 100) : FnV Tryz.prog 136 [.int .i64 (n : Int)] [] (.string (ba (decN n))) := by
  have hs := fmt_spec n hn
  refine Fn.enter Tryz.func136 rfl Tryz.ntmps136 (by simp) (fun I0 w0 => ?_)
  repeat (refine st ?_; try intro _)
  refine o_callV rfl rfl rfl rfl hs rfl ?_
  repeat (refine st ?_; try intro _)
  refine G.retV ?_
  rfl
theorem itoa_spec (n : Nat) (hn : n < 100) : FnV Tryz.prog 81 [.int .i64 (n : Int)] [] (.string (ba (decN n))) := by
  have hs := itoa2_spec n hn
  refine Fn.enter Tryz.func81 rfl Tryz.ntmps81 (by simp) (fun I0 w0 => ?_)
  repeat (refine st ?_; try intro _)
  refine o_callV rfl rfl rfl rfl hs rfl ?_
  repeat (refine st ?_; try intro _)
  refine G.retV ?_
  rfl
theorem decN_len (n : Nat) : (decN n).length ≤ 2 := by unfold decN; split <;> simp
theorem numbered_spec (l : List UInt8) (n : Nat) (hn : n < 100) (hl : l.length ≤ 10) : FnV Tryz.prog 48 [.string (ba l), .int .i64 (n : Int)] [] (.string (ba (l ++ decN n))) := by
  have hs := itoa_spec n hn
  have := decN_len n
  refine Fn.enter Tryz.func48 rfl Tryz.ntmps48 (by simp) (fun I0 w0 => ?_)
  repeat (refine st ?_; try intro _)
  refine o_callV rfl rfl rfl rfl hs rfl ?_
  repeat (refine st ?_; try intro _)
  refine G.retV ?_
  rfl
theorem info_spec (n : Nat) (hn : n < 256) : FnV Tryz.prog 30 [.int .u8 (n : Int)] [] (infoV n) := by
  refine Fn.enter Tryz.func30 rfl Tryz.ntmps30 (by simp) (fun I0 w0 => ?_)
  unfold infoV infoN
  by_cases h1 : 96 ≤ n ∧ n ≤ 127
  · rw [if_pos h1]
    have hs := numbered_spec [80, 85, 83, 72] (n - 95) (by omega) (by decide)
    repeat (refine st ?_; try intro _)
    refine o_callV rfl rfl rfl rfl hs rfl ?_
    repeat (refine st ?_; try intro _)
    refine G.retV ?_
    rfl
  rw [if_neg h1]
  by_cases h2 : 128 ≤ n ∧ n ≤ 143
  · rw [if_pos h2]
    have hs := numbered_spec [68, 85, 80] (n - 127) (by omega) (by decide)
    repeat (refine st ?_; try intro _)
    refine o_callV rfl rfl rfl rfl hs rfl ?_
    repeat (refine st ?_; try intro _)
    refine G.retV ?_
    rw [show n - 126 = n - 127 + 1 from by omega]
    rfl
  rw [if_neg h2]
  by_cases h3 : 144 ≤ n ∧ n ≤ 159
  · rw [if_pos h3]
    have hs := numbered_spec [83, 87, 65, 80] (n - 143) (by omega) (by decide)
    repeat (refine st ?_; try intro _)
    refine o_callV rfl rfl rfl rfl hs rfl ?_
    repeat (refine st ?_; try intro _)
    refine G.retV ?_
    rw [show n - 142 = n - 143 + 1 from by omega]
    rfl
  rw [if_neg h3]
  by_cases h4 : 160 ≤ n ∧ n ≤ 164
  · rw [if_pos h4]
    have hs := numbered_spec [76, 79, 71] (n - 160) (by omega) (by decide)
    repeat (refine st ?_; try intro _)
    refine o_callV rfl rfl rfl rfl hs rfl ?_
    repeat (refine st ?_; try intro _)
    refine G.retV ?_
    rw [show n - 158 = n - 160 + 2 from by omega, show n - 159 = n - 160 + 1 from by omega]
    rfl
  rw [if_neg h4]
  unfold tabN
  have h5 : n < 96 ∨ 164 < n := by omega
  have hl := fun b b1 b2 => lookup_spec n b b1 b2 rowsLow rowsHigh
  generalize (findR rowsLow n).or (findR rowsHigh n) = R at hl ⊢
  rcases h5 with h5 | h5
  · repeat (refine st ?_; try intro _)
    refine o_callM rfl rfl rfl rfl low_spec ?_
    intro b1
    repeat (refine st ?_; try intro _)
    refine o_callM rfl rfl rfl rfl high_spec ?_
    intro b2
    repeat (refine st ?_; try intro _)
    refine o_litN (cs := [.map (some b1), .map (some b2)]) rfl rfl rfl rfl rfl rfl rfl ?_
    intro b3
    repeat (refine st ?_; try intro _)
    refine OpK.call rfl rfl rfl rfl (hl b3 b1 b2) inferInstance (Mr := _) (.swap _ _ _) ?_
    rintro u Φ' Mc' ⟨rfl, rfl, rfl⟩
    dsimp only [List.cons_append, List.nil_append]
    repeat (refine st ?_; try intro _)
    refine G.ret rfl (.cons (.cellA rfl rfl) (.cons (.tmp rfl) .nil)) (Φ' := []) (M' := []) inferInstance (List.nil_sublist _) ⟨?_, rfl, rfl⟩
    rfl
  · repeat (refine st ?_; try intro _)
    refine o_callM rfl rfl rfl rfl low_spec ?_
    intro b1
    repeat (refine st ?_; try intro _)
    refine o_callM rfl rfl rfl rfl high_spec ?_
    intro b2
    repeat (refine st ?_; try intro _)
    refine o_litN (cs := [.map (some b1), .map (some b2)]) rfl rfl rfl rfl rfl rfl rfl ?_
    intro b3
    repeat (refine st ?_; try intro _)
    refine OpK.call rfl rfl rfl rfl (hl b3 b1 b2) inferInstance (Mr := _) (.swap _ _ _) ?_
    rintro u Φ' Mc' ⟨rfl, rfl, rfl⟩
    dsimp only [List.cons_append, List.nil_append]
    repeat (refine st ?_; try intro _)
    refine G.ret rfl (.cons (.cellA rfl rfl) (.cons (.tmp rfl) .nil)) (Φ' := []) (M' := []) inferInstance (List.nil_sublist _) ⟨?_, rfl, rfl⟩
    rfl
end Go.Rail
namespace Go.Rail
open Go Go.Proofs
set_option maxHeartbeats 400000
set_option maxRecDepth 4000
attribute [local irreducible] OpK G W LW wpListIn Exit.then Exit.inBlock Post rounds opRun bodyPostM intOp
set_option maxHeartbeats 4000000
def swapE (s : List Word) (n : Nat) : Int := if wrongL s n 1 = 0 ∧ n = s.length then 40 else wrongL s n 1
def swapS (s : List Word) (n : Nat) : List Word := (s.set (s.length - 1) (s.getD (s.length - 1 - n) .zero)).set (s.length - 1 - n) (s.getD (s.length - 1) .zero)
def swapL (s : List Word) (n : Nat) : List Word × Int := (if swapE s n = 0 then swapS s n else s, swapE s n)
theorem wrong_zero {s : List Word} {n : Nat} (h : wrongL s n 1 = 0) : 1 ≤ n ∧ n ≤ s.length := by
  unfold wrongL at h
  by_cases h1 : 1024 < s.length ∨ (n : Int) < 1
  · rw [if_pos h1] at h; cases h
  · rw [if_neg h1] at h
    by_cases h2 : (s.length : Int) < n
    · rw [if_pos h2] at h; cases h
    · omega
theorem swap_spec (v : Value) (s : List Word) (n : Nat) (hn : n ≤ 1000) (hs : s.length ≤ 100000) : Fn Tryz.prog 85 [v, .int .i64 n] [fRp v s] [] (RD (swapL s n).2 (swapL s n).1) := by
  have hw := fun w => wrong_spec w s n 1 hs
  have hcl := fun w => Fn.given (cloneW_spec w s (by omega))
  refine Fn.enter Tryz.func85 rfl Tryz.ntmps85 (by simp) (fun I0 w0 => ?_)
  by_cases h : wrongL s n 1 = 0
  case neg =>
    have e1 : swapL s n = (s, wrongL s n 1) := by
      unfold swapL swapE
      rw [if_neg (c := _ ∧ _) (fun h' => h h'.1), if_neg h]
    rw [e1]
    repeat (first | refine stp ?_ | (refine sti ?_; intro _) | refine stf ?_ | (refine stb ?_; intro _))
    refine o_callV rfl rfl rfl rfl (hw v) rfl ?_
    repeat (first | refine stp ?_ | (refine sti ?_; intro _) | refine stf ?_ | (refine stb ?_; intro _))
    refine o_callD rfl rfl rfl rfl (hcl v) ?_
    intro r
    repeat (first | refine stp ?_ | (refine sti ?_; intro _) | refine stf ?_ | (refine stb ?_; intro _))
    exact G.ret rfl (.cons (.tmp rfl) (.cons (.tmp rfl) .nil)) (Φ' := [fRp r s]) (M' := []) inferInstance (List.nil_sublist _) ⟨_, rfl, rfl, rfl⟩
  have hl := wrong_zero h
  rw [h] at hw
  by_cases hnl : n = s.length
  · have e1 : swapL s n = (s, 40) := by
      unfold swapL swapE
      rw [if_pos (c := _ ∧ _) ⟨h, hnl⟩]; rfl
    rw [e1]
    repeat (first | refine stp ?_ | (refine sti ?_; intro _) | refine stf ?_ | (refine stb ?_; intro _))
    refine o_callV rfl rfl rfl rfl (hw v) rfl ?_
    repeat (first | refine stp ?_ | (refine sti ?_; intro _) | refine stf ?_ | (refine stb ?_; intro _))
    refine o_callD rfl rfl rfl rfl (hcl v) ?_
    intro r
    repeat (first | refine stp ?_ | (refine sti ?_; intro _) | refine stf ?_ | (refine stb ?_; intro _))
    exact G.ret rfl (.cons (.tmp rfl) (.cons (.tmp rfl) .nil)) (Φ' := [fRp r s]) (M' := []) inferInstance (List.nil_sublist _) ⟨_, rfl, rfl, rfl⟩
  have i1 : s.length - 1 < s.length := by omega
  have i2 : s.length - 1 - n < s.length := by omega
  have e1 : swapL s n = ((s.set (s.length - 1) s[s.length - 1 - n]).set (s.length - 1 - n) s[s.length - 1], 0) := by
    unfold swapL swapE swapS
    rw [if_neg (c := _ ∧ _) (fun h' => hnl h'.2), h, if_pos rfl]
    simp only [List.getD, List.getElem?_eq_getElem i1, List.getElem?_eq_getElem i2, Option.getD_some]
  rw [e1]
  repeat (first | refine stp ?_ | (refine sti ?_; intro _) | refine stf ?_ | (refine stb ?_; intro _))
  refine o_callV rfl rfl rfl rfl (hw v) rfl ?_
  repeat (first | refine stp ?_ | (refine sti ?_; intro _) | refine stf ?_ | (refine stb ?_; intro _))
  refine o_callO rfl rfl rfl rfl (cloneW_spec v s (by omega)) ?_
  intro v' o ho
  cases o with
  | none => obtain ⟨_, h0⟩ := ho; omega
  | some q =>
    obtain ⟨b, cs⟩ := q
    obtain ⟨cap, rfl, hcs, hcap⟩ := ho
    dsimp only [List.cons_append, List.nil_append, ocells, ownM]
    repeat (first | refine stp ?_ | (refine sti ?_; intro _) | refine stf ?_ | (refine stb ?_; intro _))
    refine W.drawX 18 (fun D c => [(b, Ob (bif D 17 then cellsL (c 17) else cs) 49)]) [⟨?v0_1, fun _ z => []⟩, ⟨?v1_1, fun _ z => []⟩, ⟨?v2_1, fun _ z => []⟩, ⟨?v3_1, fun _ z => []⟩, ⟨?v4_1, fun _ z => []⟩, ⟨?v5_1, fun _ z => []⟩, ⟨?v6_1, fun _ z => []⟩, ⟨?v7_1, fun _ z => []⟩, ⟨?v8_1, fun _ z => []⟩, ⟨?v9_1, fun _ z => []⟩, ⟨?v10_1, fun _ z => []⟩, ⟨?v11_1, fun _ z => []⟩, ⟨?v12_1, fun _ z => []⟩, ⟨?v13_1, fun _ z => []⟩, ⟨?v14_1, fun _ z => []⟩, ⟨?v15_1, fun _ z => []⟩, ⟨?v16_1, fun _ z => []⟩, ⟨fun _ z => z, fun _ z => [fPure ((cellsL z).length = cs.length), fRow (cellsL z) (s.set (s.length - 1) s[s.length - 1 - n])]⟩] [[], [], [], [], [], [3, 4], [], [], [], [7, 8], [6, 9], [10], [], [], [12, 13], [14], [0, 1], [11, 16]] [17, 2, 5, 15] (by kernel_rfl) (by kernel_rfl) (by kernel_rfl) (by kernel_rfl) ?loc_1 ?hz_1 ?ops_1 ?rest_1
    case ops_1 =>
      simp only [AllX, Nat.reduceAdd, and_true]
      refine ⟨?_, ?_, ?_, ?_, ?_, ?_, ?_, ?_, ?_, ?_, ?_, ?_, ?_, ?_, ?_, ?_, ?_, ?_⟩
      all_goals (intro D c z0 Φr Lr K hDi hAnc hDn hK; dsimp only [dstOf, dstX, putX, kval, kfac, ancE, ancX, ancF, getD_z, getD_s, List.getElem?_cons_zero, List.getElem?_cons_succ, List.getElem?_nil, Option.getD_some, Option.getD_none, List.nil_append, List.cons_append, Option.getD] at hK ⊢)
      iterate 10 (refine stp ?_; exact hK z0)
      · refine o_idxO rfl rfl rfl rfl (by omega) (by omega) (o' := (s.length - 1 - n) * 4) (by omega) ?_; exact hK z0
      · have h17 : D 17 = false := dnF hDn hDi (by kernel_rfl); simp only [updD, h17, Nat.reduceEqDiff, ↓reduceIte, cond_false] at hK ⊢; refine o_loadO (α := Word) (xs := s) (s.length - 1 - n) i2 rfl rfl rfl rfl rfl ?_; exact hK z0
      · refine stp ?_; exact hK z0
      · refine stp ?_; exact hK z0
      · refine o_idxO rfl rfl rfl rfl (by omega) (by omega) (o' := (s.length - 1) * 4) (by omega) ?_; exact hK z0
      · have h17 : D 17 = false := dnF hDn hDi (by kernel_rfl); simp only [updD, h17, Nat.reduceEqDiff, ↓reduceIte, cond_false] at hK ⊢; refine o_loadO (α := Word) (xs := s) (s.length - 1) i1 rfl rfl rfl rfl rfl ?_; exact hK z0
      · refine o_idxO rfl rfl rfl rfl (by omega) (by omega) (o' := (s.length - 1) * 4) (by omega) ?_; exact hK z0
      · simp only [updD, updC, hDi, Nat.reduceEqDiff, ↓reduceIte, cond_false, cond_true] at hK ⊢; refine o_storeO (α := Word) s[s.length - 1 - n] (s.length - 1) i1 rfl rfl rfl ⟨fun _ _ => Rp.flat.2 rfl⟩ rfl ?_; intro cs1 hc1; refine G.learn (fPure ((cellsL (.agg cs1.toArray)).length = cs.length)) (e := ⟨fun _ _ => hc1⟩) ?_; exact hK (.agg cs1.toArray)
    case hz_1 => intro c; rfl
    case loc_1 =>
      simp only [AllL, Nat.reduceAdd, and_true]
      refine ⟨?_, ?_, ?_, ?_, ?_, ?_, ?_, ?_, ?_, ?_, ?_, ?_, ?_, ?_, ?_, ?_, ?_, ?_⟩
      all_goals (intro c c' z h; first | exact ⟨rfl, rfl⟩ | (skip))
    intro c
    dsimp only [dstOf, dstX, putX, kval, kfac, ancE, ancX,  ancF, getD_z, getD_s, List.getElem?_cons_zero, List.getElem?_cons_succ, List.getElem?_nil, Option.getD_some, Option.getD_none, List.nil_append, List.cons_append, List.drop_succ_cons, List.drop_zero, Option.getD]
    refine LW.bare (G.use (p := (cellsL (c 17)).length = cs.length) (fun I hp => hp (fPure _) (.head _)) ?_)
    intro hc17
    refine LW.back ?_
    show LW _ _ _ _ _ _ [(b, Ob (cellsL (c 17)) 49)]
    refine LW.cons ?_
    refine o_idxO rfl rfl rfl rfl (by omega) (by omega) (o' := (s.length - 1 - n) * 4) (by omega) ?_
    repeat (first | refine stp ?_ | (refine sti ?_; intro _) | refine stf ?_ | (refine stb ?_; intro _))
    refine o_storeO (α := Word) (xs := s.set (s.length - 1) s[s.length - 1 - n]) s[s.length - 1] (s.length - 1 - n) (by simp; omega) rfl rfl rfl ⟨fun _ _ => Rp.flat.2 rfl⟩ rfl ?_
    intro cs2 hc2
    repeat (first | refine stp ?_ | (refine sti ?_; intro _) | refine stf ?_ | (refine stb ?_; intro _))
    refine G.giveOwn2 (Mr := []) (.slice (some ⟨b, 0, none⟩) s.length cap) ((s.set (s.length - 1) s[s.length - 1 - n]).set (s.length - 1 - n) s[s.length - 1]) (some (b, cs2)) 49 ⟨cap, by simp, by rw [hc2, hc17]; exact hcs, by simpa using hcap⟩ (show Ent' _ (fRow cs2 _) from inferInstance) (List.Perm.refl _) ?_
    exact G.ret rfl (.cons (.tmp rfl) (.cons (.tmp rfl) .nil)) (Φ' := [fRp _ ((s.set (s.length - 1) s[s.length - 1 - n]).set (s.length - 1 - n) s[s.length - 1])]) (M' := []) inferInstance (List.nil_sublist _) ⟨_, rfl, rfl, rfl⟩
end Go.Rail
