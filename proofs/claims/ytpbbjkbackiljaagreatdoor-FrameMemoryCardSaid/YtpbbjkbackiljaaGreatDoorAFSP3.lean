/- frame.Run. -/
import Derived.Test.YtpbbjkbackiljaaGreatDoorAFQFR
import Derived.Test.YtpbbjkbackiljaaGreatDoorAC17C19
import Derived.Test.YtpbbjkbackiljaaGreatDoorAOneOrd
import Derived.Test.YtpbbjkbackiljaaGreatDoorAF5BF
import Derived.Test.YtpbbjkbackiljaaGreatDoorAK4FM
set_option linter.unusedSimpArgs false
set_option linter.unusedVariables false
namespace Go.Rail
open Go Go.Proofs
set_option maxHeartbeats 400000
set_option maxRecDepth 4000
attribute [local irreducible] OpK G W LW wpListIn Exit.then Exit.inBlock Post rounds opRun bodyPostM intOp
set_option maxHeartbeats 2000000
def RRuns (p : Frm × Nat) : Value → List Fa → Own → Prop := fun u Φ' M' => ∃ a c, u = .tuple #[frmV p.1 (.slice a p.1.stack.length c), .int .i64 (p.2 : Int), .int .i64 0] ∧ Φ' = [fRp (.slice a p.1.stack.length c) p.1.stack] ∧ M' = []
structure RnSt where
  i : Nat
  g : Frm
  a : Option Addr
  c : Nat
theorem fRun_spec (f : Frm) (sv : Value) (m : Nat) (hm : m ≤ 100000) (hr : Rt f) : Fn Tryz.prog 22 [frmV f sv, .int .i64 (m : Int)] [fRp sv f.stack, fKc] [] (RRuns (runL keccakL m f)) := by
  have h1 := fun v => fright_spec f v (right_Rt.2 hr)
  have h2 := fun v => own_spec f v (by have := hr.2.2.2.2.2.2.2.2.1; omega)
  refine Fn.enter Tryz.func22 rfl Tryz.ntmps22 (by simp) (fun I0 w0 => ?_)
  refine W.bare (G.slice sv f.stack ?_)
  intro a1 c1 e1 k1
  subst e1
  repeat (first | (refine sty ?_; try intro _) | (refine st ?_; try intro _) | (refine stz ?_; try intro _) | (refine stq ?_; try intro _))
  rename_i b2 b4
  refine OpK.call rfl rfl rfl rfl (h2 _) inferInstance (Mr := _) (List.Perm.refl _) ?_
  rintro u Φ' Mc' ⟨v5, o, hv, rfl, rfl, rfl⟩
  obtain ⟨a2, c2, rfl⟩ := own_open hv
  dsimp only [List.cons_append, List.nil_append]
  refine G.giveOwn _ _ o 49 (Mr := _) hv inferInstance (List.Perm.refl _) ?_
  repeat (first | (refine sty ?_; try intro _) | (refine st ?_; try intro _) | (refine stz ?_; try intro _) | (refine stq ?_; try intro _))
  refine o_callV rfl rfl rfl rfl (h1 _) rfl ?_
  repeat (first | (refine sty ?_; try intro _) | (refine st ?_; try intro _) | (refine stz ?_; try intro _) | (refine stq ?_; try intro _))
  refine W.lp (S := RnSt) (fun s => ([fRp (.slice s.a s.g.stack.length s.c) s.g.stack, fKc], [(25, .int .i64 (s.i : Int)), (24, .int .i64 (m : Int)), (1, .int .i64 (m : Int)), (2, .pointer (some ⟨b2, 0, none⟩)), (4, .pointer (some ⟨b4, 0, none⟩))], [(b4, Ob (frmC (bgF [] [] 0) (.slice none 0 0)) 26), (b2, Ob (frmC s.g (.slice s.a s.g.stack.length s.c)) 26)])) (fun s => s.i ≤ m ∧ Rt s.g ∧ runL keccakL m f = ((runL keccakL (m - s.i) s.g).1, (runL keccakL (m - s.i) s.g).2 + s.i)) (fun s => m - s.i) ⟨0, f, a2, c2⟩ ?_ (h0 := ⟨Nat.zero_le _, hr, rfl⟩)
  rintro ⟨i, g, ag, cg⟩ ⟨hi, hrg, hrun⟩
  dsimp only at hi hrg hrun ⊢
  rw [hrun]
  by_cases he : i = m
  · subst he
    rw [Nat.sub_self, show runL keccakL 0 g = (g, 0) from rfl, Nat.zero_add]
    repeat (first | (refine sty ?_; try intro _) | (refine st ?_; try intro _) | (refine stz ?_; try intro _) | (refine stq ?_; try intro _))
    exact G.ret rfl (.cons (.cellA rfl rfl) (.cons (.tmp rfl) (.cons (.tmp rfl) .nil))) (Φ' := [fRp (.slice ag _ cg) _]) (M' := []) inferInstance (List.nil_sublist _) ⟨ag, cg, rfl, rfl, rfl⟩
  · have h3 := fun v => fStep_spec g v hrg
    obtain ⟨k, hk⟩ : ∃ k, m - i = k + 1 := ⟨m - i - 1, by omega⟩
    have hk2 : m - (i + 1) = k := by omega
    have hlaw := stepL_law keccakL hrg
    rw [hk, runL_s]
    rw [hk, runL_s] at hrun
    generalize hq : stepL keccakL g = q at h3 hrun hlaw ⊢
    obtain ⟨g2, e⟩ := q
    dsimp only at hlaw hrun ⊢
    by_cases hz : e ≠ 0
    · rw [if_pos hz, Nat.zero_add]
      repeat (first | (refine sty ?_; try intro _) | (refine st ?_; try intro _) | (refine stz ?_; try intro _) | (refine stq ?_; try intro _))
      refine OpK.call rfl rfl rfl rfl (h3 _) inferInstance (Mr := _) (List.Perm.refl _) ?_
      rintro u Φ' Mc' ⟨a3, c3, rfl, rfl, rfl⟩
      dsimp only [List.cons_append, List.nil_append]
      repeat (first | (refine sty ?_; try intro _) | (refine st ?_; try intro _) | (refine stz ?_; try intro _) | (refine stq ?_; try intro _))
      exact G.ret rfl (.cons (.cellA rfl rfl) (.cons (.tmp rfl) (.cons (.tmp rfl) .nil))) (Φ' := [fRp (.slice ag _ cg) _]) (M' := []) inferInstance (List.nil_sublist _) ⟨ag, cg, rfl, rfl, rfl⟩
    · obtain rfl : e = 0 := by omega
      rw [if_neg hz] at hrun ⊢
      obtain ⟨_, hrt, _⟩ := hlaw rfl
      repeat (first | (refine sty ?_; try intro _) | (refine st ?_; try intro _) | (refine stz ?_; try intro _) | (refine stq ?_; try intro _))
      refine OpK.call rfl rfl rfl rfl (h3 _) inferInstance (Mr := _) (List.Perm.refl _) ?_
      rintro u Φ' Mc' ⟨a3, c3, rfl, rfl, rfl⟩
      dsimp only [List.cons_append, List.nil_append]
      repeat (first | (refine sty ?_; try intro _) | (refine st ?_; try intro _) | (refine stz ?_; try intro _) | (refine stq ?_; try intro _))
      refine G.ag (S := RnSt) ⟨i + 1, g2, a3, c3⟩ (hpre := ⟨by dsimp only; omega, hrt, ?_⟩) (hM := .cons _ (List.Sublist.refl _))
      dsimp only
      rw [hk2, Nat.add_assoc, Nat.add_comm 1 i]
end Go.Rail
namespace Go.Rail
open Go Go.Proofs
set_option maxHeartbeats 400000
set_option maxRecDepth 4000
attribute [local irreducible] OpK G W LW wpListIn Exit.then Exit.inBlock Post rounds opRun bodyPostM intOp
set_option maxHeartbeats 16000000
set_option maxRecDepth 20000
theorem takes_succ {α : Type} {xs ys : List α} {i : Nat} (hx : i < xs.length) (hy : i < ys.length) (h : xs.take i = ys.take i) (e : xs[i] = ys[i]) : xs.take (i + 1) = ys.take (i + 1) := by
  rw [List.take_succ_eq_append_getElem hx, List.take_succ_eq_append_getElem hy, h, e]
theorem samew_spec (v u : Value) (xs ys : List Word) (hx : xs.length ≤ 1000000) : FnV Tryz.prog 27 [v, u] [fRp v xs, fRp u ys] (.bool (decide (xs = ys))) := by
  refine Fn.enter Tryz.func27 rfl Tryz.ntmps27 (by simp) (fun I0 w0 => ?_)
  by_cases hl : xs.length = ys.length
  case neg =>
    rw [decide_eq_false (fun h => hl (by rw [h]))]
    refine W.bare (G.slice v xs ?_); intro a1 c1 e1 k1; subst e1
    refine G.slice u ys ?_; intro a2 c2 e2 k2; subst e2
    refine G.code ?_
    repeat (refine st ?_; try intro _)
    refine G.retV ?_
    rfl
  refine W.bare (G.slice v xs ?_); intro a1 c1 e1 k1; subst e1
  refine G.slice u ys ?_; intro a2 c2 e2 k2; subst e2
  refine G.code ?_
  repeat (refine st ?_; try intro _)
  refine W.lp (fun (i : Nat) => ([fRp (.slice a1 xs.length c1) xs, fRp (.slice a2 ys.length c2) ys], [(0, .slice a1 xs.length c1), (1, .slice a2 ys.length c2), (5, .int .i64 (i : Int)), (4, .bool false)], [])) (fun i => i ≤ xs.length ∧ xs.take i = ys.take i) (fun i => xs.length - i) 0 ?_ (h0 := ⟨Nat.zero_le _, rfl⟩)
  rintro i ⟨hi, ht⟩
  dsimp only
  by_cases hd : i = xs.length
  · subst hd
    repeat (refine st ?_; try intro _)
    refine G.retV ?_
    rw [List.take_length, hl, List.take_length] at ht
    rw [decide_eq_true ht]; rfl
  · have hix : i < xs.length := by omega
    have hiy : i < ys.length := by omega
    by_cases hne : xs[i] = ys[i]
    · repeat (refine st ?_; try intro _)
      refine W.drawA 8 [dq _, dq _, dk _, dq _, dq _, dq _, dk _, dq _] [[], [], [0,1], [2], [], [], [4,5], [6]] [3, 7] (hrest := fun c => nrm ?_) (hops := by
        iterate 8 refine AllQ.au ?_
        exact AllQ.nil)
      repeat (refine st ?_; try intro _)
      exact G.ag (i + 1) (hpre := ⟨by omega, takes_succ hix hiy ht hne⟩)
    · rw [decide_eq_false (fun h => hne (by subst h; rfl))]
      repeat (refine st ?_; try intro _)
      refine W.drawA 8 [dq _, dq _, dk _, dq _, dq _, dq _, dk _, dq _] [[], [], [0,1], [2], [], [], [4,5], [6]] [3, 7] (hrest := fun c => nrm ?_) (hops := by
        iterate 8 refine AllQ.au ?_
        exact AllQ.nil)
      repeat (refine st ?_; try intro _)
      refine G.retV ?_
      rfl
end Go.Rail
namespace Go.Rail
open Go Go.Proofs
set_option maxHeartbeats 400000
set_option maxRecDepth 4000
attribute [local irreducible] OpK G W LW wpListIn Exit.then Exit.inBlock Post rounds opRun bodyPostM intOp
set_option maxHeartbeats 4000000
def okR (a : Int × Int) : Prop := (-9223372036854775808 ≤ a.1 ∧ a.1 ≤ 9223372036854775807) ∧ (-9223372036854775808 ≤ a.2 ∧ a.2 ≤ 9223372036854775807)
end Go.Rail
namespace Go.Rail
open Go Go.Proofs
set_option maxHeartbeats 400000
set_option maxRecDepth 4000
attribute [local irreducible] OpK G W LW wpListIn Exit.then Exit.inBlock Post rounds opRun bodyPostM intOp
set_option maxHeartbeats 4000000
theorem pick17_spec (c n : Int) (h1 : -9223372036854775808 ≤ c) (hn : 0 < n) : FnV Tryz.prog 11 [.int .i64 c, .int .i64 n] [] (.int .i64 (pickI c n)) := by
  refine Fn.enter Tryz.func11 rfl Tryz.ntmps11 (by simp) (fun I0 w0 => ?_)
  unfold pickI
  by_cases hc : c < 0
  · rw [if_pos hc]
    repeat (first | (refine sty ?_; try intro _) | (refine st ?_; try intro _) | (refine stz ?_; try intro _) | (refine stq ?_; try intro _))
    refine G.retV ?_
    rfl
  · rw [if_neg hc]
    repeat (first | (refine sty ?_; try intro _) | (refine st ?_; try intro _) | (refine stz ?_; try intro _) | (refine stq ?_; try intro _))
    refine G.retV ?_
    rfl
theorem rsame_spec (f : Frm) (sv tv : Value) (hs : f.stack.length ≤ 1000000) : FnV Tryz.prog 17 [frmV f sv, frmV f tv] [fRp sv f.stack, fRp tv f.stack] (.bool true) := by
  have h1 := fun v u => samew_spec v u f.stack f.stack hs
  rw [decide_eq_true (show f.stack = f.stack from rfl)] at h1
  refine Fn.enter Tryz.func17 rfl Tryz.ntmps17 (by simp) (fun I0 w0 => ?_)
  refine W.bare (G.slice sv f.stack ?_); intro a1 c1 e1 k1; subst e1
  refine G.slice tv f.stack ?_; intro a2 c2 e2 k2; subst e2
  refine G.code ?_
  have e1 : f.code = f.code := rfl
  have e2 : f.input = f.input := rfl
  have e3 : f.mem = f.mem := rfl
  have e4 : f.ret = f.ret := rfl
  have e5 : f.out = f.out := rfl
  have e6 : decide (f.pc = f.pc) = true := decide_eq_true rfl
  repeat (first | (refine sty ?_; try intro _) | (refine st ?_; try intro _) | (refine stz ?_; try intro _) | (refine stq ?_; try intro _))
  refine o_callV rfl rfl rfl rfl (h1 _ _) rfl ?_
  repeat (first | (refine sty ?_; try intro _) | (refine st ?_; try intro _) | (refine stz ?_; try intro _) | (refine stq ?_; try intro _))
  refine G.retV ?_
  rfl
end Go.Rail
namespace Go.Rail
open Go Go.Proofs
set_option maxHeartbeats 400000
set_option maxRecDepth 4000
attribute [local irreducible] OpK G W LW wpListIn Exit.then Exit.inBlock Post rounds opRun bodyPostM intOp
set_option maxHeartbeats 8000000
def awC : List UInt8 := [96, 5, 96, 3, 3, 0]
def awG : Frm := ⟨awC, [], 5, [Word.of (-2)], [], 91, [], 1, 0, []⟩
theorem aw_right : rightF (bgF awC [] 100) = true := by kernel_rfl
theorem aw_run : runL keccakL 50 (bgF awC [] 100) = (awG, 4) := by kernel_rfl
theorem aw_step : stepL keccakL awG = (awG, 50) := by kernel_rfl
def awK : Frm := ⟨[84], [], 0, [], [], 5, [], 0, 0, []⟩
def awM : Frm := ⟨[1], [], 0, [], [], 5, [], 0, 0, []⟩
theorem aw_stepK : stepL keccakL awK = (awK, 51) := by kernel_rfl
theorem aw_stepM : stepL keccakL awM = (failF awM 40, 0) := by kernel_rfl
theorem aw_loc1 : localF 95 = true := by kernel_rfl
theorem aw_loc2 : localF 84 = false := by kernel_rfl
theorem aw_Rt1 : Rt (bgF awC [] 100) := right_Rt.1 aw_right
theorem aw_Rt2 : Rt awG := right_Rt.1 (by kernel_rfl)
theorem aw_Rt3 : Rt awK := right_Rt.1 (by kernel_rfl)
theorem aw_Rt4 : Rt awM := right_Rt.1 (by kernel_rfl)
theorem awake17_spec : FnV Tryz.prog 10 [] [fKc] (.bool true) := by
  have c1 := begin_spec awC [] 100 aw_right
  have c2 := fRun_spec (bgF awC [] 100) (.slice none 0 0) 50 (by decide) aw_Rt1
  rw [aw_run] at c2
  have c3 := fun v => fStep_spec awG v aw_Rt2
  rw [aw_step] at c3
  have c4 := fStep_spec awK (.slice none 0 0) aw_Rt3
  rw [aw_stepK] at c4
  have c5 := fStep_spec awM (.slice none 0 0) aw_Rt4
  rw [aw_stepM] at c5
  have c6 := begin_none [] [] (-1) (by decide) (by decide) (by decide)
  have c7 := of_spec (-2)
  have c8 := fun v u => samew_spec v u awG.stack [Word.of (-2)] (by decide)
  rw [decide_eq_true (show awG.stack = [Word.of (-2)] from rfl)] at c8
  have c9 := fun v u => rsame_spec awG v u (by decide)
  have c10 := local_spec 95 (by decide)
  have c11 := local_spec 84 (by decide)
  rw [aw_loc1] at c10
  rw [aw_loc2] at c11
  have c12 := fun v => fright_spec awG v (right_Rt.2 aw_Rt2)
  refine Fn.enter Tryz.func10 rfl Tryz.ntmps10 (by simp) (fun I0 w0 => ?_)
  repeat (first | (refine sty ?_; try intro _) | (refine st ?_; try intro _) | (refine stz ?_; try intro _) | (refine stq ?_; try intro _))
  refine o_callV rfl rfl rfl rfl c1 rfl ?_
  repeat (first | (refine sty ?_; try intro _) | (refine st ?_; try intro _) | (refine stz ?_; try intro _) | (refine stq ?_; try intro _))
  refine OpK.call rfl rfl rfl rfl c2 ⟨fun I hp φ hφ => by
    rcases List.mem_cons.1 hφ with rfl | hφ
    · exact Rp.nil none 0
    · exact hp φ hφ⟩ (Mr := _) (List.Perm.refl _) ?_
  rintro u Φ' Mc' ⟨a2, k2, rfl, rfl, rfl⟩
  dsimp only [List.cons_append, List.nil_append]
  repeat (first | (refine sty ?_; try intro _) | (refine st ?_; try intro _) | (refine stz ?_; try intro _) | (refine stq ?_; try intro _))
  refine OpK.call rfl rfl rfl rfl (c3 _) inferInstance (Mr := _) (List.Perm.refl _) ?_
  rintro u Φ' Mc' ⟨a3, k3, rfl, rfl, rfl⟩
  dsimp only [List.cons_append, List.nil_append]
  repeat (first | (refine sty ?_; try intro _) | (refine st ?_; try intro _) | (refine stz ?_; try intro _) | (refine stq ?_; try intro _))
  refine OpK.call rfl rfl rfl rfl c4 ⟨fun I hp φ hφ => by
    rcases List.mem_cons.1 hφ with rfl | hφ
    · exact Rp.nil none 0
    · exact hp φ (.tail _ (.tail _ hφ))⟩ (Mr := _) (List.Perm.refl _) ?_
  rintro u Φ' Mc' ⟨a4, k4, rfl, rfl, rfl⟩
  dsimp only [List.cons_append, List.nil_append]
  repeat (first | (refine sty ?_; try intro _) | (refine st ?_; try intro _) | (refine stz ?_; try intro _) | (refine stq ?_; try intro _))
  refine OpK.call rfl rfl rfl rfl c5 ⟨fun I hp φ hφ => by
    rcases List.mem_cons.1 hφ with rfl | hφ
    · exact Rp.nil none 0
    · exact hp φ (.tail _ (.tail _ (.tail _ hφ)))⟩ (Mr := _) (List.Perm.refl _) ?_
  rintro u Φ' Mc' ⟨a5, k5, rfl, rfl, rfl⟩
  dsimp only [List.cons_append, List.nil_append]
  repeat (first | (refine sty ?_; try intro _) | (refine st ?_; try intro _) | (refine stz ?_; try intro _) | (refine stq ?_; try intro _))
  refine o_callV rfl rfl rfl rfl c6 rfl ?_
  repeat (first | (refine sty ?_; try intro _) | (refine st ?_; try intro _) | (refine stz ?_; try intro _) | (refine stq ?_; try intro _))
  refine W.drawA 39 (dq _ :: dq _ :: dq _ :: dq _ :: dq _ :: dq _ :: dq _ :: dq _ :: dq _ :: dq _ :: dq _ :: dq _ :: dq _ :: dq _ :: (dk fun _ z => fRp z [Word.of (-2)]) :: dq _ :: dq _ :: dq _ :: dq _ :: dq _ :: dq _ :: dq _ :: dq _ :: dq _ :: dq _ :: dq _ :: dq _ :: dq _ :: dq _ :: dq _ :: dq _ :: dq _ :: dq _ :: dq _ :: dq _ :: dq _ :: dq _ :: dq _ :: dq _ :: []) ([] :: [0] :: [1] :: [2] :: [2,3] :: [2,4] :: [5] :: [6] :: [6,7] :: [6,8] :: [9] :: [10] :: [10,11] :: [10] :: [10,13] :: [10,12,14] :: [10,15] :: [16] :: [17] :: [17,18] :: [17,19] :: [17,20] :: [21] :: [22] :: [22,23] :: [22,24] :: [22,25] :: [26] :: [27] :: [27,28] :: [27,29] :: [27,30] :: [31] :: [32] :: [32,33] :: [32,34] :: [35] :: [36] :: [36] :: []) [36, 37, 38] (hrest := fun c => nrm ?_) (hops := by
    iterate 13 refine AllQ.aq ?_
    refine AllQ.mk (by intro c z0 Φr Lr K; refine nrm ?_; intro hK; refine o_callV rfl rfl rfl rfl c7 rfl ?_; exact hK z0) ?_
    refine AllQ.mk (by intro c z0 Φr Lr K; refine nrm ?_; intro hK; refine o_litV (xs := [Word.of (-2)]) rfl rfl rfl (.cons rfl .nil) inferInstance inferInstance rfl rfl ?_; intro v; exact hK v) ?_
    refine AllQ.mk (by intro c z0 Φr Lr K; refine nrm ?_; intro hK; refine o_callV rfl rfl rfl rfl (c8 _ _) rfl ?_; exact hK z0) ?_
    iterate 23 refine AllQ.aq ?_
    exact AllQ.nil)
  repeat (first | (refine sty ?_; try intro _) | (refine st ?_; try intro _) | (refine stz ?_; try intro _) | (refine stq ?_; try intro _))
  refine o_callV rfl rfl rfl rfl (c9 _ _) rfl ?_
  repeat (first | (refine sty ?_; try intro _) | (refine st ?_; try intro _) | (refine stz ?_; try intro _) | (refine stq ?_; try intro _))
  refine o_callV rfl rfl rfl rfl c10 rfl ?_
  repeat (first | (refine sty ?_; try intro _) | (refine st ?_; try intro _) | (refine stz ?_; try intro _) | (refine stq ?_; try intro _))
  refine o_callV rfl rfl rfl rfl c11 rfl ?_
  repeat (first | (refine sty ?_; try intro _) | (refine st ?_; try intro _) | (refine stz ?_; try intro _) | (refine stq ?_; try intro _))
  refine o_callV rfl rfl rfl rfl (c12 _) rfl ?_
  repeat (first | (refine sty ?_; try intro _) | (refine st ?_; try intro _) | (refine stz ?_; try intro _) | (refine stq ?_; try intro _))
  refine G.retV ?_
  rfl
end Go.Rail
namespace Go.Rail
open Go Go.Proofs
set_option maxHeartbeats 2000000
abbrev needG (f : Frm) (op words more : Nat) : Int := (costF words : Int) - (costF (f.mem.length / 32) : Int) + (gasN op : Int) + (more : Int)
abbrev pdF (f : Frm) (op words more : Nat) : Frm := { f with gas := f.gas - needG f op words more, mem := growF f.mem words, stack := if isC op then f.stack else f.stack.take (f.stack.length - popsN op), pc := f.pc + 1 }
theorem step_gen (hash : List UInt8 → List UInt8) {f : Frm} {op words : Nat} {l : List Word} (h : Rt f) (hs : f.status = 0) (hpc : f.pc < f.code.length) (hop : (f.code.getD f.pc.toNat 0).toNat = op) (hl : localF op = true) (ht : takeF f.stack op = (l, 0))
    (hw : reachF (f.mem.length / 32) (spanF op l) = some words) :
    (f.gas < needG f op words (moreF op l) → stepL hash f = (failF f 43, 0)) ∧ (needG f op words (moreF op l) ≤ f.gas → ∀ g, doF hash op (pdF f op words (moreF op l)) l = (g, 0) → stepL hash f = (g, 0)) := by
  have e : stepL hash f = (stepF hash f op, 0) := by
    unfold stepL
    rw [right_Rt.2 h, if_neg (show ¬ true = false by decide), if_neg (show ¬ f.status ≠ 0 by omega), if_neg (by omega), hop, if_neg (by rw [hl]; decide)]
  rw [e]
  unfold stepF
  rw [ht]
  dsimp only
  rw [if_neg (show ¬ (0 : Int) ≠ 0 by decide)]
  unfold payF
  rw [hw]
  dsimp only
  refine ⟨fun hg => ?_, fun hg g hd => ?_⟩
  · rw [if_pos hg]
  · rw [if_neg (show ¬ f.gas < needG f op words (moreF op l) by omega)]
    dsimp only
    rw [hd]
    rfl
def Goes (hash : List UInt8 → List UInt8) (m : Nat) (f g : Frm) : Prop := ∀ t, runL hash (m + t) f = ((runL hash t g).1, (runL hash t g).2 + m)
theorem Goes.refl (hash : List UInt8 → List UInt8) (f : Frm) : Goes hash 0 f f := fun t => by rw [Nat.zero_add]; rfl
theorem Goes.step {hash : List UInt8 → List UInt8} {f g : Frm} (h : stepL hash f = (g, 0)) : Goes hash 1 f g := fun t => by
  rw [Nat.add_comm, runL_s, h]
  rw [if_neg (show ¬ (0 : Int) ≠ 0 by decide)]
theorem Goes.trans {hash : List UInt8 → List UInt8} {m n : Nat} {f g e : Frm} (h : Goes hash m f g) (k : Goes hash n g e) : Goes hash (m + n) f e := fun t => by
  rw [Nat.add_assoc, h, k]
  dsimp only
  rw [Nat.add_assoc, Nat.add_comm n m]
def Short (hash : List UInt8 → List UInt8) (m : Nat) (f : Frm) : Prop := ∃ j h, j ≤ m ∧ Goes hash j f h ∧ h.status = 4 ∧ h.errno = 43 ∧ h.gas = 0
def Way (hash : List UInt8 → List UInt8) (m c : Nat) (f g : Int → Frm) : Prop := ∀ x : Int, 0 ≤ x → x ≤ 2000000 → ((c : Int) ≤ x → Goes hash m (f x) (g (x - c))) ∧ (x < c → Short hash m (f x))
theorem Way.refl (hash : List UInt8 → List UInt8) (f : Int → Frm) : Way hash 0 0 f f := fun x h0 _ => ⟨fun _ => by rw [show x - ((0 : Nat) : Int) = x from by omega]; exact Goes.refl hash _, fun h => by omega⟩
theorem Way.trans {hash : List UInt8 → List UInt8} {m n c d : Nat} {f g e : Int → Frm} (h : Way hash m c f g) (k : Way hash n d g e) : Way hash (m + n) (c + d) f e := fun x h0 h1 => by
  obtain ⟨a1, a2⟩ := h x h0 h1
  by_cases hc : (c : Int) ≤ x
  · obtain ⟨b1, b2⟩ := k (x - c) (by omega) (by omega)
    refine ⟨fun hx => ?_, fun hx => ?_⟩
    · rw [show x - ((c + d : Nat) : Int) = x - c - d from by omega]
      exact (a1 hc).trans (b1 (by omega))
    · obtain ⟨j, z, hj, hz, r⟩ := b2 (by omega)
      exact ⟨m + j, z, by omega, (a1 hc).trans hz, r⟩
  · refine ⟨fun hx => by omega, fun _ => ?_⟩
    obtain ⟨j, z, hj, hz, r⟩ := a2 (by omega)
    exact ⟨j, z, by omega, hz, r⟩
theorem Way.one {hash : List UInt8 → List UInt8} {c : Nat} {f g : Int → Frm} (h : ∀ x : Int, 0 ≤ x → x ≤ 2000000 → (x < c → stepL hash (f x) = (failF (f x) 43, 0)) ∧ ((c : Int) ≤ x → stepL hash (f x) = (g (x - c), 0))) : Way hash 1 c f g := fun x h0 h1 => by
  obtain ⟨a, b⟩ := h x h0 h1
  exact ⟨fun hx => Goes.step (b hx), fun hx => ⟨1, _, Nat.le_refl _, Goes.step (a hx), rfl, rfl, rfl⟩⟩
theorem Way.stop {hash : List UInt8 → List UInt8} {m c : Nat} {f g : Int → Frm} (h : Way hash m c f g) (hg : ∀ y, (g y).status ≠ 0) (x : Int) (h0 : 0 ≤ x) (h1 : x ≤ 2000000) (t : Nat) (ht : m ≤ t) :
    ((c : Int) ≤ x → runL hash t (f x) = (g (x - c), m)) ∧ (x < c → (runL hash t (f x)).1.status = 4 ∧ (runL hash t (f x)).1.errno = 43 ∧ (runL hash t (f x)).1.gas = 0) := by
  obtain ⟨a1, a2⟩ := h x h0 h1
  refine ⟨fun hx => ?_, fun hx => ?_⟩
  · have := a1 hx (t - m)
    rw [show m + (t - m) = t from by omega, runL_done hash _ (hg _)] at this
    rw [this]
    simp
  · obtain ⟨j, z, hj, hz, r1, r2, r3⟩ := a2 hx
    have := hz (t - j)
    rw [show j + (t - j) = t from by omega, runL_done hash _ (show z.status ≠ 0 by omega)] at this
    rw [this]
    exact ⟨r1, r2, r3⟩
def loopC (n : Nat) : List UInt8 := [0x5f, 0x60, UInt8.ofNat n, 0x5b, 0x5b, 0x90, 0x60, 0x03, 0x01, 0x90, 0x60, 0x01, 0x90, 0x03, 0x80, 0x60, 0x04, 0x57, 0x50, 0x5f, 0x52, 0x60, 0x20, 0x5f, 0xf3]
abbrev lpF (n : Nat) (pc : Int) (st : List Word) (mem : List UInt8) (g : Int) : Frm := ⟨loopC n, [], pc, st, mem, g, [], 0, 0, []⟩
theorem lp_Rt {n : Nat} {pc : Int} {st : List Word} {mem : List UInt8} {g : Int} (h1 : 0 ≤ pc) (h2 : pc ≤ 25) (h3 : st.length ≤ 1024) (hm : mem.length = 0 ∨ mem.length = 32) (h4 : 0 ≤ g) (h5 : g ≤ 2000000) : Rt (lpF n pc st mem g) :=
  ⟨(by decide : (25 : Nat) ≤ 49152), Nat.zero_le _, Nat.zero_le _, Nat.zero_le _, h1, by show pc ≤ _; omega, h4, h5, h3, by show mem.length ≤ _; omega, by show mem.length % 32 = 0; omega, Int.le_refl _, (by decide : (0 : Int) ≤ 4), ⟨fun h => absurd rfl h, fun h => absurd (show (0 : Int) = 4 from h) (by decide)⟩, .inl rfl⟩
theorem lp_step (hash : List UInt8 → List UInt8) {n k op c : Nat} {pc2 : Int} {st st2 l : List Word} {mem : List UInt8} (hk : k < 25) (h3 : st.length ≤ 1024) (hm : mem.length = 0 ∨ mem.length = 32) (hop : ((loopC n).getD k 0).toNat = op) (hl : localF op = true) (ht : takeF st op = (l, 0)) (hsp : spanF op l = []) (hmo : moreF op l = 0) (hc : gasN op = c)
    (hd : ∀ g, doF hash op ⟨loopC n, [], (k : Int) + 1, if isC op then st else st.take (st.length - popsN op), mem, g, [], 0, 0, []⟩ l = (lpF n pc2 st2 mem g, 0)) : Way hash 1 c (lpF n k st mem) (lpF n pc2 st2 mem) := by
  refine Way.one fun x h0 h1 => ?_
  obtain ⟨a, b⟩ := step_gen hash (f := lpF n k st mem x) (op := op) (words := mem.length / 32) (l := l) (lp_Rt (by omega) (by omega) h3 hm h0 h1) rfl (by show (k : Int) < 25; omega) hop hl ht (by rw [hsp]; rfl)
  have e : needG (lpF n k st mem x) op (mem.length / 32) (moreF op l) = c := by
    show (costF (mem.length / 32) : Int) - (costF (mem.length / 32) : Int) + (gasN op : Int) + ((moreF op l : Nat) : Int) = c
    rw [hmo, hc]
    omega
  have e2 : pdF (lpF n k st mem x) op (mem.length / 32) (moreF op l) = ⟨loopC n, [], (k : Int) + 1, if isC op then st else st.take (st.length - popsN op), mem, x - c, [], 0, 0, []⟩ := by
    unfold pdF
    rw [e]
    have : growF mem (mem.length / 32) = mem := growF_same mem (by omega)
    rw [show (lpF n k st mem x).mem = mem from rfl, this]
  rw [e] at a b
  rw [e2] at b
  exact ⟨a, fun hx => b hx _ (hd _)⟩
end Go.Rail
namespace Go.Rail
open Go Go.Proofs
set_option maxHeartbeats 1000000
theorem takeF_eq {s : List Word} {op p q : Nat} (hi : infoN op ≠ none) (h254 : op ≠ 254) (hp : popsN op = p) (hq : pushN' op = q) (hs : s.length ≤ 1024) (hl : p ≤ s.length) (ho : s.length + q ≤ 1024 + p) : takeF s op = ((s.drop (s.length - p)).reverse, 0) := by
  have hw : wrongL s (p : Int) 0 = 0 := by
    unfold wrongL
    rw [if_neg (by omega), if_neg (by omega)]
  unfold takeF
  rw [if_neg (by rintro (h | h); exact hi h; exact h254 h), hp, hq]
  unfold popL
  rw [hw]
  rw [if_pos rfl]
  dsimp only
  rw [if_neg (by omega)]
theorem doF_C (hash : List UInt8 → List UInt8) {op : Nat} (h : isC op = true) (f : Frm) (l : List Word) {s : List Word} (hs : (doC op f.stack).1 = s) : doF hash op f l = ({ f with stack := s }, 0) := by
  unfold doF
  rw [if_pos h, hs]
def opB (op p q g : Nat) (c : Bool) : Bool := (infoN op).isSome && decide (op ≠ 254) && decide (popsN op = p) && decide (pushN' op = q) && decide (gasN op = g) && (isC op == c) && localF op
theorem opB_at {op p q g : Nat} {c : Bool} (h : opB op p q g c = true) : infoN op ≠ none ∧ op ≠ 254 ∧ popsN op = p ∧ pushN' op = q ∧ gasN op = g ∧ isC op = c ∧ localF op = true := by
  unfold opB at h
  simp only [Bool.and_eq_true, decide_eq_true_eq, beq_iff_eq] at h
  obtain ⟨⟨⟨⟨⟨⟨a1, a2⟩, a3⟩, a4⟩, a5⟩, a6⟩, a7⟩ := h
  exact ⟨fun h => by (rw [h] at a1; exact absurd a1 (by decide)), a2, a3, a4, a5, a6, a7⟩
theorem wordB_all : ((List.range 256).all fun b => decide (wordB [UInt8.ofNat b] = Word.nat b)) = true := by kernel_rfl
theorem wordB_1 {b : Nat} (h : b < 256) : wordB [UInt8.ofNat b] = Word.nat b := of_decide_eq_true (List.all_eq_true.1 wordB_all b (List.mem_range.2 h))
theorem nat_num {k : Nat} (h : k < 18446744073709551616) : (Word.nat k).num = k := by
  rw [Word.num_nat]; unfold top256; omega
theorem addW_n {a b : Nat} (ha : a < 1000000) (hb : b < 1000000) : addW (.nat a) (.nat b) = .nat (a + b) := by
  unfold addW; rw [nat_num (by omega), nat_num (by omega)]
theorem subW_n {a b : Nat} (ha : a < 1000000) (hb : b ≤ a) : subW (.nat a) (.nat b) = .nat (a - b) := by
  unfold subW; rw [nat_num (by omega), nat_num (by omega)]
  exact Word.nat_eq (by unfold top256; omega)
theorem o1 : opB 0x01 2 1 3 true = true := by kernel_rfl
theorem o3 : opB 0x03 2 1 3 true = true := by kernel_rfl
theorem o50 : opB 0x50 1 0 2 true = true := by kernel_rfl
theorem o52 : opB 0x52 2 0 3 false = true := by kernel_rfl
theorem o57 : opB 0x57 2 0 10 false = true := by kernel_rfl
theorem o5b : opB 0x5b 0 0 1 false = true := by kernel_rfl
theorem o5f : opB 0x5f 0 1 2 false = true := by kernel_rfl
theorem o60 : opB 0x60 0 1 3 false = true := by kernel_rfl
theorem o80 : opB 0x80 1 2 3 true = true := by kernel_rfl
theorem o90 : opB 0x90 2 2 3 true = true := by kernel_rfl
theorem of3 : opB 0xf3 2 0 0 false = true := by kernel_rfl
theorem c1 (a b : Word) : (doC 0x01 [a, b]).1 = [addW b a] := by kernel_rfl
theorem c1' (d a b : Word) : (doC 0x01 [d, a, b]).1 = [d, addW b a] := by kernel_rfl
theorem c3' (d a b : Word) : (doC 0x03 [d, a, b]).1 = [d, subW b a] := by kernel_rfl
theorem c50 (a b : Word) : (doC 0x50 [a, b]).1 = [a] := by kernel_rfl
theorem c80 (a b : Word) : (doC 0x80 [a, b]).1 = [a, b, b] := by kernel_rfl
theorem c90 (a b : Word) : (doC 0x90 [a, b]).1 = [b, a] := by kernel_rfl
theorem c90' (d a b : Word) : (doC 0x90 [d, a, b]).1 = [d, b, a] := by kernel_rfl
theorem jm_all : ((List.range 61).all fun n => decide ((4 : Int) ∈ jmL (loopC n))) = true := by kernel_rfl
theorem jm_at {n : Nat} (h : n ≤ 60) : (4 : Int) ∈ jmL (loopC n) := of_decide_eq_true (List.all_eq_true.1 jm_all n (List.mem_range.2 (by omega)))
end Go.Rail
