/- frame.Run. -/
import Derived.Test.YtpbbjkbackiljaaGreatDoorAFQFR
import Derived.Test.YtpbbjkbackiljaaGreatDoorAC17C19
import Derived.Test.YtpbbjkbackiljaaGreatDoorAC2Put
import Derived.Test.YtpbbjkbackiljaaGreatDoorAF5BF
import Derived.Test.YtpbbjkbackiljaaGreatDoorAEqMul
import Derived.Test.YtpbbjkbackiljaaGreatDoorRailG
set_option linter.unusedSimpArgs false
set_option linter.unusedVariables false
namespace Go.Rail
open Go Go.Proofs
set_option maxHeartbeats 400000
set_option maxRecDepth 4000
attribute [local irreducible] OpK G W LW wpListIn Exit.then Exit.inBlock Post rounds opRun bodyPostM intOp
set_option maxHeartbeats 2000000
def RRuns (p : Frm × Nat) : Value → List Fa → Own → Prop := fun u Φ' M' => ∃ a c, u = .tuple #[frmV p.1 (.slice a p.1.stack.length c), .int .i64 (p.2 : Int), .int .i64 0] ∧ Φ' = [fRp (.slice a p.1.stack.length c) p.1.stack] ∧ M' = []
structure RnSt where
  i : Nat
  g : Frm
  a : Option Addr
  c : Nat
theorem fRun_spec (f : Frm) (sv : Value) (m : Nat) (hm : m ≤ 100000) (hr : Rt f) : Fn Tryz.prog 22 [frmV f sv, .int .i64 (m : Int)] [fRp sv f.stack, fKc] [] (RRuns (runL keccakL m f)) := by
  have h1 := fun v => fright_spec f v (right_Rt.2 hr)
  have h2 := fun v => own_spec f v (by have := hr.2.2.2.2.2.2.2.2.1; omega)
  refine Fn.enter Tryz.func22 rfl Tryz.ntmps22 (by simp) (fun I0 w0 => ?_)
  refine W.bare (G.slice sv f.stack ?_)
  intro a1 c1 e1 k1
  subst e1
  repeat (first | (refine sty ?_; try intro _) | (refine st ?_; try intro _) | (refine stz ?_; try intro _) | (refine stq ?_; try intro _))
  rename_i b2 b4
  refine OpK.call rfl rfl rfl rfl (h2 _) inferInstance (Mr := _) (List.Perm.refl _) ?_
  rintro u Φ' Mc' ⟨v5, o, hv, rfl, rfl, rfl⟩
  obtain ⟨a2, c2, rfl⟩ := own_open hv
  dsimp only [List.cons_append, List.nil_append]
  refine G.giveOwn _ _ o 49 (Mr := _) hv inferInstance (List.Perm.refl _) ?_
  repeat (first | (refine sty ?_; try intro _) | (refine st ?_; try intro _) | (refine stz ?_; try intro _) | (refine stq ?_; try intro _))
  refine o_callV rfl rfl rfl rfl (h1 _) rfl ?_
  repeat (first | (refine sty ?_; try intro _) | (refine st ?_; try intro _) | (refine stz ?_; try intro _) | (refine stq ?_; try intro _))
  refine W.lp (S := RnSt) (fun s => ([fRp (.slice s.a s.g.stack.length s.c) s.g.stack, fKc], [(25, .int .i64 (s.i : Int)), (24, .int .i64 (m : Int)), (1, .int .i64 (m : Int)), (2, .pointer (some ⟨b2, 0, none⟩)), (4, .pointer (some ⟨b4, 0, none⟩))], [(b4, Ob (frmC (bgF [] [] 0) (.slice none 0 0)) 26), (b2, Ob (frmC s.g (.slice s.a s.g.stack.length s.c)) 26)])) (fun s => s.i ≤ m ∧ Rt s.g ∧ runL keccakL m f = ((runL keccakL (m - s.i) s.g).1, (runL keccakL (m - s.i) s.g).2 + s.i)) (fun s => m - s.i) ⟨0, f, a2, c2⟩ ?_ (h0 := ⟨Nat.zero_le _, hr, rfl⟩)
  rintro ⟨i, g, ag, cg⟩ ⟨hi, hrg, hrun⟩
  dsimp only at hi hrg hrun ⊢
  rw [hrun]
  by_cases he : i = m
  · subst he
    rw [Nat.sub_self, show runL keccakL 0 g = (g, 0) from rfl, Nat.zero_add]
    repeat (first | (refine sty ?_; try intro _) | (refine st ?_; try intro _) | (refine stz ?_; try intro _) | (refine stq ?_; try intro _))
    exact G.ret rfl (.cons (.cellA rfl rfl) (.cons (.tmp rfl) (.cons (.tmp rfl) .nil))) (Φ' := [fRp (.slice ag _ cg) _]) (M' := []) inferInstance (List.nil_sublist _) ⟨ag, cg, rfl, rfl, rfl⟩
  · have h3 := fun v => fStep_spec g v hrg
    obtain ⟨k, hk⟩ : ∃ k, m - i = k + 1 := ⟨m - i - 1, by omega⟩
    have hk2 : m - (i + 1) = k := by omega
    have hlaw := stepL_law keccakL hrg
    rw [hk, runL_s]
    rw [hk, runL_s] at hrun
    generalize hq : stepL keccakL g = q at h3 hrun hlaw ⊢
    obtain ⟨g2, e⟩ := q
    dsimp only at hlaw hrun ⊢
    by_cases hz : e ≠ 0
    · rw [if_pos hz, Nat.zero_add]
      repeat (first | (refine sty ?_; try intro _) | (refine st ?_; try intro _) | (refine stz ?_; try intro _) | (refine stq ?_; try intro _))
      refine OpK.call rfl rfl rfl rfl (h3 _) inferInstance (Mr := _) (List.Perm.refl _) ?_
      rintro u Φ' Mc' ⟨a3, c3, rfl, rfl, rfl⟩
      dsimp only [List.cons_append, List.nil_append]
      repeat (first | (refine sty ?_; try intro _) | (refine st ?_; try intro _) | (refine stz ?_; try intro _) | (refine stq ?_; try intro _))
      exact G.ret rfl (.cons (.cellA rfl rfl) (.cons (.tmp rfl) (.cons (.tmp rfl) .nil))) (Φ' := [fRp (.slice ag _ cg) _]) (M' := []) inferInstance (List.nil_sublist _) ⟨ag, cg, rfl, rfl, rfl⟩
    · obtain rfl : e = 0 := by omega
      rw [if_neg hz] at hrun ⊢
      obtain ⟨_, hrt, _⟩ := hlaw rfl
      repeat (first | (refine sty ?_; try intro _) | (refine st ?_; try intro _) | (refine stz ?_; try intro _) | (refine stq ?_; try intro _))
      refine OpK.call rfl rfl rfl rfl (h3 _) inferInstance (Mr := _) (List.Perm.refl _) ?_
      rintro u Φ' Mc' ⟨a3, c3, rfl, rfl, rfl⟩
      dsimp only [List.cons_append, List.nil_append]
      repeat (first | (refine sty ?_; try intro _) | (refine st ?_; try intro _) | (refine stz ?_; try intro _) | (refine stq ?_; try intro _))
      refine G.ag (S := RnSt) ⟨i + 1, g2, a3, c3⟩ (hpre := ⟨by dsimp only; omega, hrt, ?_⟩) (hM := .cons _ (List.Sublist.refl _))
      dsimp only
      rw [hk2, Nat.add_assoc, Nat.add_comm 1 i]
end Go.Rail
namespace Go.Rail
open Go Go.Proofs
set_option maxHeartbeats 400000
set_option maxRecDepth 4000
attribute [local irreducible] OpK G W LW wpListIn Exit.then Exit.inBlock Post rounds opRun bodyPostM intOp
set_option maxHeartbeats 16000000
set_option maxRecDepth 20000
theorem takes_succ {α : Type} {xs ys : List α} {i : Nat} (hx : i < xs.length) (hy : i < ys.length) (h : xs.take i = ys.take i) (e : xs[i] = ys[i]) : xs.take (i + 1) = ys.take (i + 1) := by
  rw [List.take_succ_eq_append_getElem hx, List.take_succ_eq_append_getElem hy, h, e]
theorem samew_spec (v u : Value) (xs ys : List Word) (hx : xs.length ≤ 1000000) : FnV Tryz.prog 27 [v, u] [fRp v xs, fRp u ys] (.bool (decide (xs = ys))) := by
  refine Fn.enter Tryz.func27 rfl Tryz.ntmps27 (by simp) (fun I0 w0 => ?_)
  by_cases hl : xs.length = ys.length
  case neg =>
    rw [decide_eq_false (fun h => hl (by rw [h]))]
    refine W.bare (G.slice v xs ?_); intro a1 c1 e1 k1; subst e1
    refine G.slice u ys ?_; intro a2 c2 e2 k2; subst e2
    refine G.code ?_
    repeat (refine st ?_; try intro _)
    refine G.retV ?_
    rfl
  refine W.bare (G.slice v xs ?_); intro a1 c1 e1 k1; subst e1
  refine G.slice u ys ?_; intro a2 c2 e2 k2; subst e2
  refine G.code ?_
  repeat (refine st ?_; try intro _)
  refine W.lp (fun (i : Nat) => ([fRp (.slice a1 xs.length c1) xs, fRp (.slice a2 ys.length c2) ys], [(0, .slice a1 xs.length c1), (1, .slice a2 ys.length c2), (5, .int .i64 (i : Int)), (4, .bool false)], [])) (fun i => i ≤ xs.length ∧ xs.take i = ys.take i) (fun i => xs.length - i) 0 ?_ (h0 := ⟨Nat.zero_le _, rfl⟩)
  rintro i ⟨hi, ht⟩
  dsimp only
  by_cases hd : i = xs.length
  · subst hd
    repeat (refine st ?_; try intro _)
    refine G.retV ?_
    rw [List.take_length, hl, List.take_length] at ht
    rw [decide_eq_true ht]; rfl
  · have hix : i < xs.length := by omega
    have hiy : i < ys.length := by omega
    by_cases hne : xs[i] = ys[i]
    · repeat (refine st ?_; try intro _)
      refine W.drawA 8 [dq _, dq _, dk _, dq _, dq _, dq _, dk _, dq _] [[], [], [0,1], [2], [], [], [4,5], [6]] [3, 7] (hrest := fun c => nrm ?_) (hops := by
        iterate 8 refine AllQ.au ?_
        exact AllQ.nil)
      repeat (refine st ?_; try intro _)
      exact G.ag (i + 1) (hpre := ⟨by omega, takes_succ hix hiy ht hne⟩)
    · rw [decide_eq_false (fun h => hne (by subst h; rfl))]
      repeat (refine st ?_; try intro _)
      refine W.drawA 8 [dq _, dq _, dk _, dq _, dq _, dq _, dk _, dq _] [[], [], [0,1], [2], [], [], [4,5], [6]] [3, 7] (hrest := fun c => nrm ?_) (hops := by
        iterate 8 refine AllQ.au ?_
        exact AllQ.nil)
      repeat (refine st ?_; try intro _)
      refine G.retV ?_
      rfl
end Go.Rail
namespace Go.Rail
open Go Go.Proofs
set_option maxHeartbeats 400000
set_option maxRecDepth 4000
attribute [local irreducible] OpK G W LW wpListIn Exit.then Exit.inBlock Post rounds opRun bodyPostM intOp
set_option maxHeartbeats 4000000
def u8I (n : Int) : UInt8 := UInt8.ofNat n.toNat
def okR (a : Int × Int) : Prop := (-9223372036854775808 ≤ a.1 ∧ a.1 ≤ 9223372036854775807) ∧ (-9223372036854775808 ≤ a.2 ∧ a.2 ≤ 9223372036854775807)
theorem u8I_nat (n : Int) (h0 : 0 ≤ n) (h : n < 256) : ((u8I n).toNat : Int) = n := by
  rw [u8I, UInt8.toNat_ofNat', Nat.mod_eq_of_lt (by omega)]; omega
structure CdSt where
  i : Nat
  xs : List UInt8
  w : Value
  o : OR
end Go.Rail
namespace Go.Rail
open Go Go.Proofs
set_option maxHeartbeats 400000
set_option maxRecDepth 4000
attribute [local irreducible] OpK G W LW wpListIn Exit.then Exit.inBlock Post rounds opRun bodyPostM intOp
set_option maxHeartbeats 4000000
theorem pick17_spec (c n : Int) (h1 : -9223372036854775808 ≤ c) (hn : 0 < n) : FnV Tryz.prog 11 [.int .i64 c, .int .i64 n] [] (.int .i64 (pickI c n)) := by
  refine Fn.enter Tryz.func11 rfl Tryz.ntmps11 (by simp) (fun I0 w0 => ?_)
  unfold pickI
  by_cases hc : c < 0
  · rw [if_pos hc]
    repeat (first | (refine sty ?_; try intro _) | (refine st ?_; try intro _) | (refine stz ?_; try intro _) | (refine stq ?_; try intro _))
    refine G.retV ?_
    rfl
  · rw [if_neg hc]
    repeat (first | (refine sty ?_; try intro _) | (refine st ?_; try intro _) | (refine stz ?_; try intro _) | (refine stq ?_; try intro _))
    refine G.retV ?_
    rfl
theorem u8g (n : Int) (h0 : 0 ≤ n) (h : n < 256) : Value.int .u8 n = GoFlat.val (u8I n) := by
  show Value.int .u8 n = Value.int .u8 (((u8I n).toNat : Nat) : Int)
  rw [u8I_nat n h0 h]
theorem new_Rt {code input ret : List UInt8} {gas : Int} (h1 : code.length ≤ 49152) (h2 : input.length ≤ 1048576) (h3 : ret.length ≤ 1048576) (h4 : 0 ≤ gas) (h5 : gas ≤ 2000000) : Rt ⟨code, input, 0, [], [], gas, ret, 0, 0, []⟩ :=
  ⟨h1, h2, h3, Nat.zero_le _, Int.le_refl _, (by decide : (0 : Int) ≤ 9007199254740992), h4, h5, Nat.zero_le _, Nat.zero_le _, rfl, Int.le_refl _, (by decide : (0 : Int) ≤ 4), (by decide : (0 : Int) ≠ 0 ↔ (0 : Int) = 4), .inl rfl⟩
theorem rsame_spec (f : Frm) (sv tv : Value) (hs : f.stack.length ≤ 1000000) : FnV Tryz.prog 17 [frmV f sv, frmV f tv] [fRp sv f.stack, fRp tv f.stack] (.bool true) := by
  have h1 := fun v u => samew_spec v u f.stack f.stack hs
  rw [decide_eq_true (show f.stack = f.stack from rfl)] at h1
  refine Fn.enter Tryz.func17 rfl Tryz.ntmps17 (by simp) (fun I0 w0 => ?_)
  refine W.bare (G.slice sv f.stack ?_); intro a1 c1 e1 k1; subst e1
  refine G.slice tv f.stack ?_; intro a2 c2 e2 k2; subst e2
  refine G.code ?_
  have e1 : f.code = f.code := rfl
  have e2 : f.input = f.input := rfl
  have e3 : f.mem = f.mem := rfl
  have e4 : f.ret = f.ret := rfl
  have e5 : f.out = f.out := rfl
  have e6 : decide (f.pc = f.pc) = true := decide_eq_true rfl
  repeat (first | (refine sty ?_; try intro _) | (refine st ?_; try intro _) | (refine stz ?_; try intro _) | (refine stq ?_; try intro _))
  refine o_callV rfl rfl rfl rfl (h1 _ _) rfl ?_
  repeat (first | (refine sty ?_; try intro _) | (refine st ?_; try intro _) | (refine stz ?_; try intro _) | (refine stq ?_; try intro _))
  refine G.retV ?_
  rfl
end Go.Rail
namespace Go.Rail
open Go Go.Proofs
set_option maxHeartbeats 400000
set_option maxRecDepth 4000
attribute [local irreducible] OpK G W LW wpListIn Exit.then Exit.inBlock Post rounds opRun bodyPostM intOp
set_option maxHeartbeats 8000000
def awC : List UInt8 := [96, 5, 96, 3, 3, 0]
def awG : Frm := ⟨awC, [], 5, [Word.of (-2)], [], 91, [], 1, 0, []⟩
theorem aw_right : rightF (bgF awC [] 100) = true := by kernel_rfl
theorem aw_run : runL keccakL 50 (bgF awC [] 100) = (awG, 4) := by kernel_rfl
theorem aw_step : stepL keccakL awG = (awG, 50) := by kernel_rfl
def awK : Frm := ⟨[84], [], 0, [], [], 5, [], 0, 0, []⟩
def awM : Frm := ⟨[1], [], 0, [], [], 5, [], 0, 0, []⟩
theorem aw_stepK : stepL keccakL awK = (awK, 51) := by kernel_rfl
theorem aw_stepM : stepL keccakL awM = (failF awM 40, 0) := by kernel_rfl
theorem aw_loc1 : localF 95 = true := by kernel_rfl
theorem aw_loc2 : localF 84 = false := by kernel_rfl
theorem aw_Rt1 : Rt (bgF awC [] 100) := right_Rt.1 aw_right
theorem aw_Rt2 : Rt awG := right_Rt.1 (by kernel_rfl)
theorem aw_Rt3 : Rt awK := right_Rt.1 (by kernel_rfl)
theorem aw_Rt4 : Rt awM := right_Rt.1 (by kernel_rfl)
theorem awake17_spec : FnV Tryz.prog 10 [] [fKc] (.bool true) := by
  have c1 := begin_spec awC [] 100 aw_right
  have c2 := fRun_spec (bgF awC [] 100) (.slice none 0 0) 50 (by decide) aw_Rt1
  rw [aw_run] at c2
  have c3 := fun v => fStep_spec awG v aw_Rt2
  rw [aw_step] at c3
  have c4 := fStep_spec awK (.slice none 0 0) aw_Rt3
  rw [aw_stepK] at c4
  have c5 := fStep_spec awM (.slice none 0 0) aw_Rt4
  rw [aw_stepM] at c5
  have c6 := begin_none [] [] (-1) (by decide) (by decide) (by decide)
  have c7 := of_spec (-2)
  have c8 := fun v u => samew_spec v u awG.stack [Word.of (-2)] (by decide)
  rw [decide_eq_true (show awG.stack = [Word.of (-2)] from rfl)] at c8
  have c9 := fun v u => rsame_spec awG v u (by decide)
  have c10 := local_spec 95 (by decide)
  have c11 := local_spec 84 (by decide)
  rw [aw_loc1] at c10
  rw [aw_loc2] at c11
  have c12 := fun v => fright_spec awG v (right_Rt.2 aw_Rt2)
  refine Fn.enter Tryz.func10 rfl Tryz.ntmps10 (by simp) (fun I0 w0 => ?_)
  repeat (first | (refine sty ?_; try intro _) | (refine st ?_; try intro _) | (refine stz ?_; try intro _) | (refine stq ?_; try intro _))
  refine o_callV rfl rfl rfl rfl c1 rfl ?_
  repeat (first | (refine sty ?_; try intro _) | (refine st ?_; try intro _) | (refine stz ?_; try intro _) | (refine stq ?_; try intro _))
  refine OpK.call rfl rfl rfl rfl c2 ⟨fun I hp φ hφ => by
    rcases List.mem_cons.1 hφ with rfl | hφ
    · exact Rp.nil none 0
    · exact hp φ hφ⟩ (Mr := _) (List.Perm.refl _) ?_
  rintro u Φ' Mc' ⟨a2, k2, rfl, rfl, rfl⟩
  dsimp only [List.cons_append, List.nil_append]
  repeat (first | (refine sty ?_; try intro _) | (refine st ?_; try intro _) | (refine stz ?_; try intro _) | (refine stq ?_; try intro _))
  refine OpK.call rfl rfl rfl rfl (c3 _) inferInstance (Mr := _) (List.Perm.refl _) ?_
  rintro u Φ' Mc' ⟨a3, k3, rfl, rfl, rfl⟩
  dsimp only [List.cons_append, List.nil_append]
  repeat (first | (refine sty ?_; try intro _) | (refine st ?_; try intro _) | (refine stz ?_; try intro _) | (refine stq ?_; try intro _))
  refine OpK.call rfl rfl rfl rfl c4 ⟨fun I hp φ hφ => by
    rcases List.mem_cons.1 hφ with rfl | hφ
    · exact Rp.nil none 0
    · exact hp φ (.tail _ (.tail _ hφ))⟩ (Mr := _) (List.Perm.refl _) ?_
  rintro u Φ' Mc' ⟨a4, k4, rfl, rfl, rfl⟩
  dsimp only [List.cons_append, List.nil_append]
  repeat (first | (refine sty ?_; try intro _) | (refine st ?_; try intro _) | (refine stz ?_; try intro _) | (refine stq ?_; try intro _))
  refine OpK.call rfl rfl rfl rfl c5 ⟨fun I hp φ hφ => by
    rcases List.mem_cons.1 hφ with rfl | hφ
    · exact Rp.nil none 0
    · exact hp φ (.tail _ (.tail _ (.tail _ hφ)))⟩ (Mr := _) (List.Perm.refl _) ?_
  rintro u Φ' Mc' ⟨a5, k5, rfl, rfl, rfl⟩
  dsimp only [List.cons_append, List.nil_append]
  repeat (first | (refine sty ?_; try intro _) | (refine st ?_; try intro _) | (refine stz ?_; try intro _) | (refine stq ?_; try intro _))
  refine o_callV rfl rfl rfl rfl c6 rfl ?_
  repeat (first | (refine sty ?_; try intro _) | (refine st ?_; try intro _) | (refine stz ?_; try intro _) | (refine stq ?_; try intro _))
  refine W.drawA 39 (dq _ :: dq _ :: dq _ :: dq _ :: dq _ :: dq _ :: dq _ :: dq _ :: dq _ :: dq _ :: dq _ :: dq _ :: dq _ :: dq _ :: (dk fun _ z => fRp z [Word.of (-2)]) :: dq _ :: dq _ :: dq _ :: dq _ :: dq _ :: dq _ :: dq _ :: dq _ :: dq _ :: dq _ :: dq _ :: dq _ :: dq _ :: dq _ :: dq _ :: dq _ :: dq _ :: dq _ :: dq _ :: dq _ :: dq _ :: dq _ :: dq _ :: dq _ :: []) ([] :: [0] :: [1] :: [2] :: [2,3] :: [2,4] :: [5] :: [6] :: [6,7] :: [6,8] :: [9] :: [10] :: [10,11] :: [10] :: [10,13] :: [10,12,14] :: [10,15] :: [16] :: [17] :: [17,18] :: [17,19] :: [17,20] :: [21] :: [22] :: [22,23] :: [22,24] :: [22,25] :: [26] :: [27] :: [27,28] :: [27,29] :: [27,30] :: [31] :: [32] :: [32,33] :: [32,34] :: [35] :: [36] :: [36] :: []) [36, 37, 38] (hrest := fun c => nrm ?_) (hops := by
    iterate 13 refine AllQ.aq ?_
    refine AllQ.mk (by intro c z0 Φr Lr K; refine nrm ?_; intro hK; refine o_callV rfl rfl rfl rfl c7 rfl ?_; exact hK z0) ?_
    refine AllQ.mk (by intro c z0 Φr Lr K; refine nrm ?_; intro hK; refine o_litV (xs := [Word.of (-2)]) rfl rfl rfl (.cons rfl .nil) inferInstance inferInstance rfl rfl ?_; intro v; exact hK v) ?_
    refine AllQ.mk (by intro c z0 Φr Lr K; refine nrm ?_; intro hK; refine o_callV rfl rfl rfl rfl (c8 _ _) rfl ?_; exact hK z0) ?_
    iterate 23 refine AllQ.aq ?_
    exact AllQ.nil)
  repeat (first | (refine sty ?_; try intro _) | (refine st ?_; try intro _) | (refine stz ?_; try intro _) | (refine stq ?_; try intro _))
  refine o_callV rfl rfl rfl rfl (c9 _ _) rfl ?_
  repeat (first | (refine sty ?_; try intro _) | (refine st ?_; try intro _) | (refine stz ?_; try intro _) | (refine stq ?_; try intro _))
  refine o_callV rfl rfl rfl rfl c10 rfl ?_
  repeat (first | (refine sty ?_; try intro _) | (refine st ?_; try intro _) | (refine stz ?_; try intro _) | (refine stq ?_; try intro _))
  refine o_callV rfl rfl rfl rfl c11 rfl ?_
  repeat (first | (refine sty ?_; try intro _) | (refine st ?_; try intro _) | (refine stz ?_; try intro _) | (refine stq ?_; try intro _))
  refine o_callV rfl rfl rfl rfl (c12 _) rfl ?_
  repeat (first | (refine sty ?_; try intro _) | (refine st ?_; try intro _) | (refine stz ?_; try intro _) | (refine stq ?_; try intro _))
  refine G.retV ?_
  rfl
end Go.Rail
namespace Go.Rail
open Go Go.Proofs
set_option maxHeartbeats 400000
set_option maxRecDepth 4000
attribute [local irreducible] OpK G W LW wpListIn Exit.then Exit.inBlock Post rounds opRun bodyPostM intOp
set_option maxHeartbeats 16000000
set_option maxRecDepth 20000
theorem rsmall1_spec (n : Nat) (hn : n < 10) : FnV Tryz.prog 45 [.int .i64 (n : Int)] [] (.string (ba (decN n))) := by
  refine Fn.enter Tryz.func45 rfl Tryz.ntmps45 (by simp) (fun I0 w0 => ?_)
  unfold decN
  rw [if_pos hn]
  repeat (refine st ?_; try intro _)
  refine G.retV ?_
  refine congrArg (fun l => Value.string (ba l)) ?_
  clear I0 w0
  revert n
  exact of_decide_eq_true (by kernel_rfl)
theorem rsmall_spec (n : Nat) (hn : n < 100) : FnV Tryz.prog 45 [.int .i64 (n : Int)] [] (.string (ba (decN n))) := by
  by_cases h : n < 10
  · exact rsmall1_spec n h
  have h1 := rsmall1_spec (n / 10) (by omega)
  have h2 := rsmall1_spec (n % 10) (by omega)
  have e1 : (decN (n / 10)).length = 1 := by unfold decN; rw [if_pos (by omega)]; rfl
  have e2 : (decN (n % 10)).length = 1 := by unfold decN; rw [if_pos (by omega)]; rfl
  refine Fn.enter Tryz.func45 rfl Tryz.ntmps45 (by simp) (fun I0 w0 => ?_)
  repeat (refine st ?_; try intro _)
  refine o_callV rfl rfl rfl rfl h1 rfl ?_
  repeat (refine st ?_; try intro _)
  refine o_callV rfl rfl rfl rfl h2 rfl ?_
  repeat (refine st ?_; try intro _)
  refine G.retV ?_
  refine congrArg (fun l => Value.string (ba l)) ?_
  unfold decN
  rw [if_pos (by omega), if_pos (by omega), if_neg h]; rfl
theorem named_spec (n : Nat) (hn : n < 256) : FnV Tryz.prog 46 [.int .u8 (n : Int)] [] (.tuple #[rowV ((tabN n).getD noRow), .bool (tabN n).isSome]) := by
  refine Fn.enter Tryz.func46 rfl Tryz.ntmps46 (by simp) (fun I0 w0 => ?_)
  iterate 75
    repeat (refine st ?_; try intro _)
    refine W.cond rfl (fun h => ?_) (fun h => ?_)
    · obtain rfl := natk h
      repeat (refine st ?_; try intro _)
      refine G.ret rfl (.cons (.cellA rfl rfl) (.cons (.tmp rfl) .nil)) (Φ' := []) (M' := []) inferInstance (List.nil_sublist _) ⟨?_, rfl, rfl⟩
      rfl
  repeat (refine st ?_; try intro _)
  simp only [decide_eq_false_iff_not] at *
  rw [tab_none n hn (by simp only [tabK, rowsLow, rowsHigh, List.map_cons, List.map_nil, List.cons_append, List.nil_append, List.mem_cons, List.not_mem_nil, or_false, not_or]; omega)]
  refine G.ret rfl (.cons (.cellA rfl rfl) (.cons (.tmp rfl) .nil)) (Φ' := []) (M' := []) inferInstance (List.nil_sublist _) ⟨?_, rfl, rfl⟩
  rfl
theorem rinfo_spec (n : Nat) (hn : n < 256) : FnV Tryz.prog 26 [.int .u8 (n : Int)] [] (infoV n) := by
  refine Fn.enter Tryz.func26 rfl Tryz.ntmps26 (by simp) (fun I0 w0 => ?_)
  unfold infoV infoN
  by_cases h1 : 96 ≤ n ∧ n ≤ 127
  · rw [if_pos h1]
    have hs := rsmall_spec (n - 95) (by omega)
    have hl : (decN (n - 95)).length ≤ 2 := by unfold decN; split <;> simp
    repeat (refine st ?_; try intro _)
    refine o_callV rfl rfl rfl rfl hs rfl ?_
    repeat (refine st ?_; try intro _)
    refine G.retV ?_
    rfl
  rw [if_neg h1]
  by_cases h2 : 128 ≤ n ∧ n ≤ 143
  · rw [if_pos h2]
    have hs := rsmall_spec (n - 127) (by omega)
    have hl : (decN (n - 127)).length ≤ 2 := by unfold decN; split <;> simp
    repeat (refine st ?_; try intro _)
    refine o_callV rfl rfl rfl rfl hs rfl ?_
    repeat (refine st ?_; try intro _)
    refine G.retV ?_
    rfl
  rw [if_neg h2]
  by_cases h3 : 144 ≤ n ∧ n ≤ 159
  · rw [if_pos h3]
    have hs := rsmall_spec (n - 143) (by omega)
    have hl : (decN (n - 143)).length ≤ 2 := by unfold decN; split <;> simp
    repeat (refine st ?_; try intro _)
    refine o_callV rfl rfl rfl rfl hs rfl ?_
    repeat (refine st ?_; try intro _)
    refine G.retV ?_
    rfl
  rw [if_neg h3]
  by_cases h4 : 160 ≤ n ∧ n ≤ 164
  · rw [if_pos h4]
    have hs := rsmall_spec (n - 160) (by omega)
    have hl : (decN (n - 160)).length ≤ 2 := by unfold decN; split <;> simp
    repeat (refine st ?_; try intro _)
    refine o_callV rfl rfl rfl rfl hs rfl ?_
    repeat (refine st ?_; try intro _)
    refine G.retV ?_
    rfl
  rw [if_neg h4]
  have hs := named_spec n hn
  have h5 : n < 96 ∨ 164 < n := by omega
  rcases h5 with h5 | h5
  · repeat (refine st ?_; try intro _)
    refine o_callV rfl rfl rfl rfl hs rfl ?_
    repeat (refine st ?_; try intro _)
    refine G.retV ?_
    rfl
  · repeat (refine st ?_; try intro _)
    refine o_callV rfl rfl rfl rfl hs rfl ?_
    repeat (refine st ?_; try intro _)
    refine G.retV ?_
    rfl
end Go.Rail
