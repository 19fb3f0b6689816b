/- strings.Builder grown; strings.Repeat of a nought. -/
import Derived.Test.YtpbbjkbackiljaaGreatDoorAB1BC
import Derived.Test.YtpbbjkbackiljaaGreatDoorAEqMul
import Derived.Test.YtpbbjkbackiljaaGreatDoorRailI
import Derived.Test.YtpbbjkbackiljaaGreatDoorRailD
set_option linter.unusedSimpArgs false
set_option linter.unusedVariables false
namespace Go.Rail
open Go Go.Proofs
set_option maxHeartbeats 400000
set_option maxRecDepth 4000
attribute [local irreducible] OpK G W LW wpListIn Exit.then Exit.inBlock Post rounds opRun bodyPostM intOp
set_option maxHeartbeats 4000000
instance exMZ : ExtF Tryz.prog 313 (Extern.BytealgMakeNoZero.makeNoZero #[3] #[34]) := ⟨fun args w => run_callFunc_extern Tryz.func313 (by kernel_rfl) (by kernel_rfl) (by kernel_rfl) (by kernel_rfl) args w⟩
theorem bgrow_spec (B : Nat) (a : Option Addr) (n : Nat) (hn0 : 0 < n) (hn : n ≤ 1000000000) : Fn Tryz.prog 263 [.pointer (some ⟨B, 0, none⟩), .int .i64 (n : Int)] [] (bldM B a (.slice none 0 0) [] none)
    (fun u Φ' M' => ∃ v o, IsBuf v [] o ∧ Φ' = [] ∧ M' = bldM B a v [] o) := by
  unfold bldM bufM
  refine Fn.enter Tryz.func263 rfl Tryz.ntmps263 (by simp) (fun I0 w0 => ?_)
  repeat (first | (refine sty ?_; try intro _) | (refine st ?_; try intro _) | (refine stz ?_; try intro _) | (refine stq ?_; try intro _))
  refine W.drawNb 14 8 5 [dq _, dq _, dq _, dq _, dq _, dq _, dq _, dq _, ⟨fun _ z => .slice (some ⟨nbB z, 0, none⟩) n (nbC z).length, fun _ z => [fPure (n ≤ (nbC z).length)]⟩, dq _, dq _, dq _, dq _, dq _] [[], [0], [1], [2], [3], [4], [], [5,6], [7], [], [9], [10], [11], [12]] [8, 13] (hrest := fun c => nrmX ?_) (hops := by
    refine AllX.a0 ?_ rfl (by kernel_rfl) (by intro c z0 Φr Lr K; refine nrmX ?_; intro hK; (first | refine sty ?_ | refine st ?_ | refine stz ?_ | refine stq ?_); (first | exact hK z0 | exact hK | exact fun b => hK (.int .i64 (b : Int))))
    refine AllX.a0 ?_ rfl (by kernel_rfl) (by intro c z0 Φr Lr K; refine nrmX ?_; intro hK; (first | refine sty ?_ | refine st ?_ | refine stz ?_ | refine stq ?_); (first | exact hK z0 | exact hK | exact fun b => hK (.int .i64 (b : Int))))
    refine AllX.a0 ?_ rfl (by kernel_rfl) (by intro c z0 Φr Lr K; refine nrmX ?_; intro hK; (first | refine sty ?_ | refine st ?_ | refine stz ?_ | refine stq ?_); (first | exact hK z0 | exact hK | exact fun b => hK (.int .i64 (b : Int))))
    refine AllX.a0 ?_ rfl (by kernel_rfl) (by intro c z0 Φr Lr K; refine nrmX ?_; intro hK; (first | refine sty ?_ | refine st ?_ | refine stz ?_ | refine stq ?_); (first | exact hK z0 | exact hK | exact fun b => hK (.int .i64 (b : Int))))
    refine AllX.a0 ?_ rfl (by kernel_rfl) (by intro c z0 Φr Lr K; refine nrmX ?_; intro hK; refine o_cap rfl rfl rfl ?_; exact hK z0)
    refine AllX.a0 ?_ rfl (by kernel_rfl) (by intro c z0 Φr Lr K; refine nrmX ?_; intro hK; (first | refine sty ?_ | refine st ?_ | refine stz ?_ | refine stq ?_); (first | exact hK z0 | exact hK | exact fun b => hK (.int .i64 (b : Int))))
    refine AllX.a0 ?_ rfl (by kernel_rfl) (by intro c z0 Φr Lr K; refine nrmX ?_; intro hK; (first | refine sty ?_ | refine st ?_ | refine stz ?_ | refine stq ?_); (first | exact hK z0 | exact hK | exact fun b => hK (.int .i64 (b : Int))))
    refine AllX.a0 ?_ rfl (by kernel_rfl) (by intro c z0 Φr Lr K; refine nrmX ?_; intro hK; refine o_int rfl rfl rfl rfl (n_addi (by omega)) ?_; rw [show 2 * 0 + n = n from by omega]; exact hK z0)
    refine AllX.ai ?_ (by intro c z0 Φr Lr K; refine nrmX ?_; intro hK; refine o_makeNoZero (n := n) (by omega) rfl rfl rfl rfl ?_; intro b cs hcs; refine G.learn (fPure (n ≤ cs.length)) (e := ⟨fun _ _ => hcs⟩) ?_; exact hK (nbV b cs))
    refine AllX.a01 ?_ rfl (by intro c z0 Φr Lr K; refine nrmX ?_; intro hK; (first | refine sty ?_ | refine st ?_ | refine stz ?_ | refine stq ?_); (first | exact hK z0 | exact hK | exact fun b => hK (.int .i64 (b : Int)))) (by intro c z0 Φr Lr K; refine nrmX ?_; intro hK; (first | refine sty ?_ | refine st ?_ | refine stz ?_ | refine stq ?_); (first | exact hK z0 | exact hK | exact fun b => hK (.int .i64 (b : Int))))
    refine AllX.a01 ?_ rfl (by intro c z0 Φr Lr K; refine nrmX ?_; intro hK; (first | refine sty ?_ | refine st ?_ | refine stz ?_ | refine stq ?_); (first | exact hK z0 | exact hK | exact fun b => hK (.int .i64 (b : Int)))) (by intro c z0 Φr Lr K; refine nrmX ?_; intro hK; (first | refine sty ?_ | refine st ?_ | refine stz ?_ | refine stq ?_); (first | exact hK z0 | exact hK | exact fun b => hK (.int .i64 (b : Int))))
    refine AllX.a01 ?_ rfl (by intro c z0 Φr Lr K; refine nrmX ?_; intro hK; (first | refine sty ?_ | refine st ?_ | refine stz ?_ | refine stq ?_); (first | exact hK z0 | exact hK | exact fun b => hK (.int .i64 (b : Int)))) (by intro c z0 Φr Lr K; refine nrmX ?_; intro hK; (first | refine sty ?_ | refine st ?_ | refine stz ?_ | refine stq ?_); (first | exact hK z0 | exact hK | exact fun b => hK (.int .i64 (b : Int))))
    refine AllX.a01 ?_ rfl (by intro c z0 Φr Lr K; refine nrmX ?_; intro hK; (first | refine sty ?_ | refine st ?_ | refine stz ?_ | refine stq ?_); (first | exact hK z0 | exact hK | exact fun b => hK (.int .i64 (b : Int)))) (by intro c z0 Φr Lr K; refine nrmX ?_; intro hK; (first | refine sty ?_ | refine st ?_ | refine stz ?_ | refine stq ?_); (first | exact hK z0 | exact hK | exact fun b => hK (.int .i64 (b : Int))))
    refine AllX.a01 ?_ rfl (by intro c z0 Φr Lr K; refine nrmX ?_; intro hK; (first | refine sty ?_ | refine st ?_ | refine stz ?_ | refine stq ?_); (first | exact hK z0 | exact hK | exact fun b => hK (.int .i64 (b : Int)))) (by intro c z0 Φr Lr K; refine nrmX ?_; intro hK; (first | refine sty ?_ | refine st ?_ | refine stz ?_ | refine stq ?_); (first | exact hK z0 | exact hK | exact fun b => hK (.int .i64 (b : Int))))
    exact AllX.end)
  refine LW.bare (G.use (p := n ≤ (nbC (c 8)).length) (fun I hp => hp (fPure _) (.head _)) ?_)
  intro hc
  generalize nbB (c 8) = b
  generalize nbC (c 8) = cs at hc ⊢
  dsimp only [List.drop_succ_cons, List.drop_zero]
  repeat (first | (refine sty ?_; try intro _) | (refine st ?_; try intro _) | (refine stz ?_; try intro _) | (refine stq ?_; try intro _))
  refine o_cutO 0 rfl rfl rfl ⟨_, _, rfl, rfl⟩ (by omega) ?_
  repeat (first | (refine sty ?_; try intro _) | (refine st ?_; try intro _) | (refine stz ?_; try intro _) | (refine stq ?_; try intro _))
  refine o_copyNil rfl rfl rfl rfl ?_
  repeat (first | (refine sty ?_; try intro _) | (refine st ?_; try intro _) | (refine stz ?_; try intro _) | (refine stq ?_; try intro _))
  refine G.perm ?_ (List.Perm.swap _ _ _)
  exact G.fin rfl .nil (Φ' := []) (M' := [(B, Ob [.pointer a, .slice (some ⟨b, 0, none⟩) 0 cs.length] 181), (b, Ob cs 5)]) inferInstance (List.Sublist.refl _) ⟨.slice (some ⟨b, 0, none⟩) 0 cs.length, some (b, cs, 0), ⟨by simp, Nat.le_refl _, by simp; omega⟩, rfl, rfl⟩
theorem bGrow_spec (B : Nat) (n : Nat) (hn0 : 0 < n) (hn : n ≤ 1000000000) : Fn Tryz.prog 179 [.pointer (some ⟨B, 0, none⟩), .int .i64 (n : Int)] [] (bldM B none (.slice none 0 0) [] none)
    (fun u Φ' M' => ∃ v o, IsBuf v [] o ∧ Φ' = [] ∧ M' = bldM B (some ⟨B, 0, none⟩) v [] o) := by
  have hc := copyCheck_spec B none (.inl rfl) (.slice none 0 0)
  have hg := bgrow_spec B (some ⟨B, 0, none⟩) n hn0 hn
  unfold bldM bufM at *
  refine Fn.enter Tryz.func179 rfl Tryz.ntmps179 (by simp) (fun I0 w0 => ?_)
  repeat (first | (refine sty ?_; try intro _) | (refine st ?_; try intro _) | (refine stz ?_; try intro _) | (refine stq ?_; try intro _))
  refine OpK.call rfl rfl rfl rfl hc inferInstance (Mr := []) (List.Perm.refl _) ?_
  rintro u Φ' Mc' ⟨rfl, rfl⟩
  dsimp only [List.cons_append, List.nil_append]
  repeat (first | (refine sty ?_; try intro _) | (refine st ?_; try intro _) | (refine stz ?_; try intro _) | (refine stq ?_; try intro _))
  refine W.drawA 12 [dq _, dq _, dq _, dq _, dq _, dq _, dq _, dq _, dq _, dq _, dq _, dq _] [[], [0], [1], [2], [3], [], [5], [6], [7], [8], [4,9], []] [10, 11] (hrest := fun c => nrm ?_) (hops := by
    iterate 4 refine AllQ.aq ?_
    refine AllQ.mk (by intro c z0 Φr Lr K; refine nrm ?_; intro hK; refine o_cap rfl rfl rfl ?_; exact hK z0) ?_
    iterate 7 refine AllQ.aq ?_
    exact AllQ.nil)
  repeat (first | (refine sty ?_; try intro _) | (refine st ?_; try intro _) | (refine stz ?_; try intro _) | (refine stq ?_; try intro _))
  refine OpK.call rfl rfl rfl rfl hg inferInstance (Mr := []) (List.Perm.refl _) ?_
  rintro u Φ' Mc' ⟨v, o, hb, rfl, rfl⟩
  refine G.perm ?_ (.of_eq (List.append_nil _))
  repeat (first | (refine sty ?_; try intro _) | (refine st ?_; try intro _) | (refine stz ?_; try intro _) | (refine stq ?_; try intro _))
  exact G.fin rfl .nil (Φ' := []) (M' := (B, Ob [.pointer (some ⟨B, 0, none⟩), v] 181) :: bufM 5 [] o) inferInstance (List.Sublist.refl _) ⟨v, o, hb, rfl, rfl⟩
theorem bLen_spec (B : Nat) (a : Option Addr) (v : Value) (xs : List UInt8) (o : BO) (hv : IsBuf v xs o) :
    Fn Tryz.prog 181 [.pointer (some ⟨B, 0, none⟩)] [] (bldM B a v xs o) (fun u Φ' M' => u = .int .i64 (xs.length : Int) ∧ Φ' = [] ∧ M' = bldM B a v xs o) := by
  unfold bldM
  cases o with
  | none =>
    obtain ⟨rfl, rfl⟩ := hv
    refine Fn.enter Tryz.func181 rfl Tryz.ntmps181 (by simp) (fun I0 w0 => ?_)
    repeat (first | (refine sty ?_; try intro _) | (refine st ?_; try intro _) | (refine stz ?_; try intro _) | (refine stq ?_; try intro _))
    exact G.ret rfl (.cons (.tmp rfl) .nil) (Φ' := []) (M' := (B, Ob [.pointer a, .slice none 0 0] 181) :: bufM 5 [] none) inferInstance (List.Sublist.refl _) ⟨rfl, rfl, rfl⟩
  | some q =>
    obtain ⟨b, ex, k⟩ := q
    obtain ⟨rfl, hk1, hk2⟩ := hv
    refine Fn.enter Tryz.func181 rfl Tryz.ntmps181 (by simp) (fun I0 w0 => ?_)
    repeat (first | (refine sty ?_; try intro _) | (refine st ?_; try intro _) | (refine stz ?_; try intro _) | (refine stq ?_; try intro _))
    exact G.ret rfl (.cons (.tmp rfl) .nil) (Φ' := []) (M' := (B, Ob [.pointer a, .slice (some ⟨b, 0, none⟩) xs.length (xs.length + ex.length)] 181) :: bufM 5 xs (some (b, ex, k))) inferInstance (List.Sublist.refl _) ⟨rfl, rfl, rfl⟩
theorem mul_spec (n : Nat) (hn : n ≤ 1000000000) : FnV Tryz.prog 177 [.int .u64 1, .int .u64 (n : Int)] [] (.tuple #[.int .u64 0, .int .u64 (n : Int)]) := by
  have h := mul64_spec 1 n (by decide) (by omega)
  rw [show 1 * n / 18446744073709551616 = 0 from by omega, show 1 * n % 18446744073709551616 = n from by omega] at h
  refine Fn.enter Tryz.func177 rfl Tryz.ntmps177 (by simp) (fun I0 w0 => ?_)
  repeat (first | (refine sty ?_; try intro _) | (refine st ?_; try intro _) | (refine stz ?_; try intro _) | (refine stq ?_; try intro _))
  refine o_callV rfl rfl rfl rfl h rfl ?_
  repeat (first | (refine sty ?_; try intro _) | (refine st ?_; try intro _) | (refine stz ?_; try intro _) | (refine stq ?_; try intro _))
  refine G.retV ?_
  rfl
structure RpSt where
  k : Nat
  v : Value
  o : BO
theorem repeat_spec (n : Nat) (hn : n ≤ 100000000) : FnV Tryz.prog 93 [.string (ba [0]), .int .i64 (n : Int)] [] (.string (ba (List.replicate n 0))) := by
  have hm := mul_spec n (by omega)
  refine Fn.enter Tryz.func93 rfl Tryz.ntmps93 (by simp) (fun I0 w0 => ?_)
  by_cases h0 : n = 0
  · subst h0
    repeat (first | (refine sty ?_; try intro _) | (refine st ?_; try intro _) | (refine stz ?_; try intro _) | (refine stq ?_; try intro _))
    refine G.retV ?_
    rfl
  by_cases h1 : n = 1
  · subst h1
    repeat (first | (refine sty ?_; try intro _) | (refine st ?_; try intro _) | (refine stz ?_; try intro _) | (refine stq ?_; try intro _))
    refine G.retV ?_
    rfl
  repeat (first | (refine sty ?_; try intro _) | (refine st ?_; try intro _) | (refine stz ?_; try intro _) | (refine stq ?_; try intro _))
  refine o_callV rfl rfl rfl rfl hm rfl ?_
  repeat (first | (refine sty ?_; try intro _) | (refine st ?_; try intro _) | (refine stz ?_; try intro _) | (refine stq ?_; try intro _))
  refine o_ixG (l := [0]) 0 0 rfl rfl rfl rfl rfl rfl ?_
  repeat (first | (refine sty ?_; try intro _) | (refine st ?_; try intro _) | (refine stz ?_; try intro _) | (refine stq ?_; try intro _))
  refine W.cutE (S := Unit) (fun _ => ([], [(8, .int .i64 ((min n 8192 : Nat) : Int)), (7, .int .i64 (n : Int)), (0, .string (ba [0]))], [])) (fun _ => True) ?_ ?_
  · by_cases hn8 : 8192 < n
    · rw [show min n 8192 = 8192 from by omega]
      repeat (first | (refine sty ?_; try intro _) | (refine st ?_; try intro _) | (refine stz ?_; try intro _) | (refine stq ?_; try intro _))
      refine o_int rfl rfl rfl rfl (show intOp .mul .i64 ((8192 / 1 : Nat) : Int) ((1 : Nat) : Int) = some (.int .i64 8192) from by kernel_rfl) ?_
      repeat (first | (refine sty ?_; try intro _) | (refine st ?_; try intro _) | (refine stz ?_; try intro _) | (refine stq ?_; try intro _))
      exact G.kpE () trivial (show Ents _ [] from inferInstance) (look_sub_cons rfl (look_sub_cons rfl (look_sub_cons rfl look_sub_nil))) (List.Sublist.refl _)
    · rw [show min n 8192 = n from by omega]
      repeat (first | (refine sty ?_; try intro _) | (refine st ?_; try intro _) | (refine stz ?_; try intro _) | (refine stq ?_; try intro _))
      exact G.kpE () trivial (show Ents _ [] from inferInstance) (look_sub_cons rfl (look_sub_cons rfl (look_sub_cons rfl look_sub_nil))) (List.Sublist.refl _)
  rintro ⟨⟩ -
  dsimp only
  repeat (first | (refine sty ?_; try intro _) | (refine st ?_; try intro _) | (refine stz ?_; try intro _) | (refine stq ?_; try intro _))
  rename_i B
  have hgr := bGrow_spec B n (by omega) (by omega)
  refine OpK.call rfl rfl rfl rfl hgr inferInstance (Mr := []) (List.Perm.refl _) ?_
  rintro u Φ' Mc' ⟨v, o, hb, rfl, rfl⟩
  rw [List.append_nil]
  dsimp only [List.nil_append]
  repeat (first | (refine sty ?_; try intro _) | (refine st ?_; try intro _) | (refine stz ?_; try intro _) | (refine stq ?_; try intro _))
  have hw := writeString_spec B (some ⟨B, 0, none⟩) (.inr rfl) v [] [0] o hb (by simp)
  refine OpK.call rfl rfl rfl rfl hw inferInstance (Mr := []) (by rw [List.append_nil]) ?_
  rintro u Φ' Mc' ⟨v, o, hb, rfl, rfl, rfl⟩
  rw [List.append_nil]
  dsimp only [List.nil_append]
  repeat (first | (refine sty ?_; try intro _) | (refine st ?_; try intro _) | (refine stz ?_; try intro _) | (refine stq ?_; try intro _))
  refine W.lp (S := RpSt) (fun s => ([], [(9, .pointer (some ⟨B, 0, none⟩)), (8, .int .i64 (min n 8192 : Nat)), (7, .int .i64 (n : Int))], bldM B (some ⟨B, 0, none⟩) s.v (List.replicate s.k 0) s.o)) (fun s => 0 < s.k ∧ s.k ≤ n ∧ IsBuf s.v (List.replicate s.k 0) s.o) (fun s => n - s.k) ⟨1, v, o⟩ ?_ (h0 := ⟨Nat.zero_lt_one, by dsimp only; omega, hb⟩)
  rintro ⟨k, v, o⟩ ⟨hk0, hkn, hb⟩
  dsimp only at hk0 hkn hb ⊢
  have hxl : (List.replicate k (0 : UInt8)).length = k := List.length_replicate
  have hlen := bLen_spec B (some ⟨B, 0, none⟩) v (List.replicate k 0) o hb
  have hstr := bString_spec B (some ⟨B, 0, none⟩) v (List.replicate k 0) o hb (by omega)
  rw [hxl] at hlen
  by_cases hke : k = n
  · subst hke
    repeat (first | (refine sty ?_; try intro _) | (refine st ?_; try intro _) | (refine stz ?_; try intro _) | (refine stq ?_; try intro _))
    refine OpK.call rfl rfl rfl rfl hlen inferInstance (Mr := []) (by rw [List.append_nil]) ?_
    rintro u Φ' Mc' ⟨rfl, rfl, rfl⟩
    rw [List.append_nil]
    dsimp only [List.nil_append]
    repeat (first | (refine sty ?_; try intro _) | (refine st ?_; try intro _) | (refine stz ?_; try intro _) | (refine stq ?_; try intro _))
    refine OpK.call rfl rfl rfl rfl hstr inferInstance (Mr := []) (by rw [List.append_nil]) ?_
    rintro u Φ' Mc' ⟨o', hb', rfl, rfl, rfl⟩
    rw [List.append_nil]
    dsimp only [List.nil_append]
    repeat (first | (refine sty ?_; try intro _) | (refine st ?_; try intro _) | (refine stz ?_; try intro _) | (refine stq ?_; try intro _))
    refine G.retV ?_
    rfl
  · repeat (first | (refine sty ?_; try intro _) | (refine st ?_; try intro _) | (refine stz ?_; try intro _) | (refine stq ?_; try intro _))
    refine OpK.call rfl rfl rfl rfl hlen inferInstance (Mr := []) (by rw [List.append_nil]) ?_
    rintro u Φ' Mc' ⟨rfl, rfl, rfl⟩
    rw [List.append_nil]
    dsimp only [List.nil_append]
    repeat (first | (refine sty ?_; try intro _) | (refine st ?_; try intro _) | (refine stz ?_; try intro _) | (refine stq ?_; try intro _))
    refine OpK.call rfl rfl rfl rfl hlen inferInstance (Mr := []) (by rw [List.append_nil]) ?_
    rintro u Φ' Mc' ⟨rfl, rfl, rfl⟩
    rw [List.append_nil]
    dsimp only [List.nil_append]
    repeat (first | (refine sty ?_; try intro _) | (refine st ?_; try intro _) | (refine stz ?_; try intro _) | (refine stq ?_; try intro _))
    refine OpK.call rfl rfl rfl rfl hlen inferInstance (Mr := []) (by rw [List.append_nil]) ?_
    rintro u Φ' Mc' ⟨rfl, rfl, rfl⟩
    rw [List.append_nil]
    dsimp only [List.nil_append]
    repeat (first | (refine sty ?_; try intro _) | (refine st ?_; try intro _) | (refine stz ?_; try intro _) | (refine stq ?_; try intro _))
    obtain ⟨m, hm⟩ : ∃ m : Nat, m = min (n - k) (min k (min n 8192)) := ⟨_, rfl⟩
    refine o_min3 rfl rfl rfl rfl rfl (v := .int .i64 (m : Int)) (congrArg (Value.int .i64) (by omega)) ?_
    repeat (first | (refine sty ?_; try intro _) | (refine st ?_; try intro _) | (refine stz ?_; try intro _) | (refine stq ?_; try intro _))
    refine OpK.call rfl rfl rfl rfl hstr inferInstance (Mr := []) (by simp) ?_
    rintro u Φ' Mc' ⟨o', hb', rfl, rfl, rfl⟩
    rw [List.append_nil]
    dsimp only [List.nil_append]
    repeat (first | (refine sty ?_; try intro _) | (refine st ?_; try intro _) | (refine stz ?_; try intro _) | (refine stq ?_; try intro _))
    have e : ((List.replicate k (0 : UInt8)).take m).drop 0 = List.replicate m 0 := by rw [List.drop_zero, List.take_replicate, Nat.min_eq_left (by omega)]
    rw [e]
    have hw2 := writeString_spec B (some ⟨B, 0, none⟩) (.inr rfl) v (List.replicate k 0) (List.replicate m 0) o' hb' (by rw [List.length_replicate, List.length_replicate]; omega)
    refine OpK.call rfl rfl rfl rfl hw2 inferInstance (Mr := []) (by simp) ?_
    rintro u Φ' Mc' ⟨v2, o2, hb2, rfl, rfl, rfl⟩
    rw [List.append_nil]
    dsimp only [List.nil_append]
    rw [List.replicate_append_replicate] at hb2 ⊢
    repeat (first | (refine sty ?_; try intro _) | (refine st ?_; try intro _) | (refine stz ?_; try intro _) | (refine stq ?_; try intro _))
    exact G.ag (S := RpSt) ⟨k + m, v2, o2⟩ (hpre := ⟨by dsimp only; omega, by dsimp only; omega, hb2⟩)
end Go.Rail
