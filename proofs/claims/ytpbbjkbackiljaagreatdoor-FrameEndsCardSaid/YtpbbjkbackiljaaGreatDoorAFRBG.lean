/- frame.Step, frame.Run. -/
import Derived.Test.YtpbbjkbackiljaaGreatDoorAFQ
import Derived.Test.YtpbbjkbackiljaaGreatDoorAF2FM
import Derived.Test.YtpbbjkbackiljaaGreatDoorAC18C19
import Derived.Test.YtpbbjkbackiljaaGreatDoorAOneRev
import Derived.Test.YtpbbjkbackiljaaGreatDoorAF5BF
namespace Go.Rail
open Go Go.Proofs
set_option linter.unusedSimpArgs false
set_option linter.unusedVariables false
set_option maxHeartbeats 400000
set_option maxRecDepth 4000
attribute [local irreducible] OpK G W LW wpListIn Exit.then Exit.inBlock Post rounds opRun bodyPostM intOp
set_option maxHeartbeats 2000000
/-- A frame, and a number that tells how it went. -/
def RStep (p : Frm × Int) : Value → List Fa → Own → Prop := fun u Φ' M' => ∃ a c, u = .tuple #[frmV p.1 (.slice a p.1.stack.length c), .int .i64 p.2] ∧ Φ' = [fRp (.slice a p.1.stack.length c) p.1.stack] ∧ M' = []
theorem fStep_spec (f : Frm) (sv : Value) (hr : Rt f) : Fn Tryz.prog 18 [frmV f sv] [fRp sv f.stack, fKc] [] (RStep (stepL keccakL f)) := by
  have hrr := right_Rt.2 hr
  have hr0 := hr
  obtain ⟨a1, a2, a3, a4, a5, a6, a7, a8, a9, a10, a11, a12, a13, a14, a15⟩ := hr
  have h1 := fun v => fright_spec f v hrr
  have h2 := fun v => own_spec f v (by omega)
  unfold stepL
  rw [hrr, if_neg (show ¬ true = false by decide)]
  by_cases hs : f.status ≠ 0
  · rw [if_pos hs]
    refine Fn.enter Tryz.func18 rfl Tryz.ntmps18 (by simp) (fun I0 w0 => ?_)
    refine W.bare (G.slice sv f.stack ?_)
    intro a1 c1 e1 k1
    subst e1
    repeat (first | (refine sty ?_; try intro _) | (refine st ?_; try intro _) | (refine stz ?_; try intro _) | (refine stq ?_; try intro _))
    refine o_callV rfl rfl rfl rfl (h1 _) rfl ?_
    repeat (first | (refine sty ?_; try intro _) | (refine st ?_; try intro _) | (refine stz ?_; try intro _) | (refine stq ?_; try intro _))
    refine OpK.call rfl rfl rfl rfl (h2 _) inferInstance (Mr := _) (List.Perm.refl _) ?_
    rintro u Φ' Mc' ⟨v5, o, hv, rfl, rfl, rfl⟩
    obtain ⟨a2, c2, rfl⟩ := own_open hv
    dsimp only [List.cons_append, List.nil_append]
    refine G.giveOwn _ _ o 49 (Mr := _) hv inferInstance (List.Perm.refl _) ?_
    repeat (first | (refine sty ?_; try intro _) | (refine st ?_; try intro _) | (refine stz ?_; try intro _) | (refine stq ?_; try intro _))
    exact G.ret rfl (.cons (.cellA rfl rfl) (.cons (.tmp rfl) .nil)) (Φ' := [fRp (.slice a2 _ c2) _]) (M' := []) inferInstance (List.nil_sublist _) ⟨a2, c2, rfl, rfl, rfl⟩
  rw [if_neg hs]
  have hs0 : f.status = 0 := by omega
  by_cases hp : (f.code.length : Int) ≤ f.pc
  · rw [if_pos hp]
    refine Fn.enter Tryz.func18 rfl Tryz.ntmps18 (by simp) (fun I0 w0 => ?_)
    refine W.bare (G.slice sv f.stack ?_)
    intro a1 c1 e1 k1
    subst e1
    repeat (first | (refine sty ?_; try intro _) | (refine st ?_; try intro _) | (refine stz ?_; try intro _) | (refine stq ?_; try intro _))
    refine o_callV rfl rfl rfl rfl (h1 _) rfl ?_
    repeat (first | (refine sty ?_; try intro _) | (refine st ?_; try intro _) | (refine stz ?_; try intro _) | (refine stq ?_; try intro _))
    refine OpK.call rfl rfl rfl rfl (h2 _) inferInstance (Mr := _) (List.Perm.refl _) ?_
    rintro u Φ' Mc' ⟨v5, o, hv, rfl, rfl, rfl⟩
    obtain ⟨a2, c2, rfl⟩ := own_open hv
    dsimp only [List.cons_append, List.nil_append]
    refine G.giveOwn _ _ o 49 (Mr := _) hv inferInstance (List.Perm.refl _) ?_
    repeat (first | (refine sty ?_; try intro _) | (refine st ?_; try intro _) | (refine stz ?_; try intro _) | (refine stq ?_; try intro _))
    exact G.ret rfl (.cons (.cellA rfl rfl) (.cons (.tmp rfl) .nil)) (Φ' := [fRp (.slice a2 _ c2) _]) (M' := []) inferInstance (List.nil_sublist _) ⟨a2, c2, rfl, rfl, rfl⟩
  rw [if_neg hp]
  have hlt : f.pc.toNat < f.code.length := by omega
  have hix : f.code[f.pc.toNat]? = some (f.code.getD f.pc.toNat 0) := by
    rw [List.getD_eq_getElem?_getD, List.getElem?_eq_getElem hlt]; rfl
  generalize f.code.getD f.pc.toNat 0 = ch at hix ⊢
  have hch : ch.toNat < 256 := UInt8.toNat_lt _
  have h3 := find_spec ch.toNat hch
  have h4 := local_spec ch.toNat hch
  by_cases hl : localF ch.toNat = false
  · rw [if_pos hl]
    rw [hl] at h4
    refine Fn.enter Tryz.func18 rfl Tryz.ntmps18 (by simp) (fun I0 w0 => ?_)
    refine W.bare (G.slice sv f.stack ?_)
    intro a1 c1 e1 k1
    subst e1
    repeat (first | (refine sty ?_; try intro _) | (refine st ?_; try intro _) | (refine stz ?_; try intro _) | (refine stq ?_; try intro _))
    refine o_callV rfl rfl rfl rfl (h1 _) rfl ?_
    repeat (first | (refine sty ?_; try intro _) | (refine st ?_; try intro _) | (refine stz ?_; try intro _) | (refine stq ?_; try intro _))
    refine o_ixG f.pc.toNat ch rfl rfl rfl rfl (by omega) hix ?_
    repeat (first | (refine sty ?_; try intro _) | (refine st ?_; try intro _) | (refine stz ?_; try intro _) | (refine stq ?_; try intro _))
    refine OpK.call rfl rfl rfl rfl h3 inferInstance (Mr := _) (List.Perm.refl _) ?_
    rintro u Φ' Mc' ⟨v1, v2, v3, rfl, ho, rfl, ha⟩
    haveI : Whole (.agg #[v1, v2, v3]) 3 := ⟨⟨[v1, v2, v3], rfl, rfl, ho⟩⟩
    rw [List.nil_append]
    refine G.weaken (Φ' := [fRp (.slice a1 f.stack.length c1) f.stack, fKc]) ?_ (fun φ hφ => List.mem_append_right _ hφ) (fun _ _ h => h) (List.Sublist.refl _)
    repeat (first | (refine sty ?_; try intro _) | (refine st ?_; try intro _) | (refine stz ?_; try intro _) | (refine stq ?_; try intro _))
    refine o_callV rfl rfl rfl rfl h4 rfl ?_
    repeat (first | (refine sty ?_; try intro _) | (refine st ?_; try intro _) | (refine stz ?_; try intro _) | (refine stq ?_; try intro _))
    refine OpK.call rfl rfl rfl rfl (h2 _) inferInstance (Mr := _) (List.Perm.refl _) ?_
    rintro u Φ' Mc' ⟨v5, o, hv, rfl, rfl, rfl⟩
    obtain ⟨a2, c2, rfl⟩ := own_open hv
    dsimp only [List.cons_append, List.nil_append]
    refine G.giveOwn _ _ o 49 (Mr := _) hv inferInstance (List.Perm.refl _) ?_
    repeat (first | (refine sty ?_; try intro _) | (refine st ?_; try intro _) | (refine stz ?_; try intro _) | (refine stq ?_; try intro _))
    exact G.ret rfl (.cons (.cellA rfl rfl) (.cons (.tmp rfl) .nil)) (Φ' := [fRp (.slice a2 _ c2) _]) (M' := []) inferInstance (List.nil_sublist _) ⟨a2, c2, rfl, rfl, rfl⟩
  · rw [if_neg hl]
    have hl : localF ch.toNat = true := by simpa using hl
    rw [hl] at h4
    refine Fn.enter Tryz.func18 rfl Tryz.ntmps18 (by simp) (fun I0 w0 => ?_)
    refine W.bare (G.slice sv f.stack ?_)
    intro a1 c1 e1 k1
    subst e1
    repeat (first | (refine sty ?_; try intro _) | (refine st ?_; try intro _) | (refine stz ?_; try intro _) | (refine stq ?_; try intro _))
    refine o_callV rfl rfl rfl rfl (h1 _) rfl ?_
    repeat (first | (refine sty ?_; try intro _) | (refine st ?_; try intro _) | (refine stz ?_; try intro _) | (refine stq ?_; try intro _))
    refine o_ixG f.pc.toNat ch rfl rfl rfl rfl (by omega) hix ?_
    repeat (first | (refine sty ?_; try intro _) | (refine st ?_; try intro _) | (refine stz ?_; try intro _) | (refine stq ?_; try intro _))
    refine OpK.call rfl rfl rfl rfl h3 inferInstance (Mr := _) (List.Perm.refl _) ?_
    rintro u Φ' Mc' ⟨v1, v2, v3, rfl, ho, rfl, ha⟩
    haveI : Whole (.agg #[v1, v2, v3]) 3 := ⟨⟨[v1, v2, v3], rfl, rfl, ho⟩⟩
    have h5 := fun w => step_spec f w ch.toNat v1 v2 v3 Φ' hch hr0 hs0 (by omega) hl ho ha
    rw [List.nil_append]
    refine G.weaken (Φ' := fRp (.slice a1 f.stack.length c1) f.stack :: fKc :: Φ') ?_ (fun φ hφ => ?_) (fun _ _ h => h) (List.Sublist.refl _)
    · repeat (first | (refine sty ?_; try intro _) | (refine st ?_; try intro _) | (refine stz ?_; try intro _) | (refine stq ?_; try intro _))
      refine o_callV rfl rfl rfl rfl h4 rfl (hΦ := ⟨fun I hp φ hφ => (List.not_mem_nil hφ).elim⟩) ?_
      repeat (first | (refine sty ?_; try intro _) | (refine st ?_; try intro _) | (refine stz ?_; try intro _) | (refine stq ?_; try intro _))
      refine OpK.call rfl rfl rfl rfl (h5 _) ⟨fun I hp => hp⟩ (Mr := _) (List.Perm.refl _) ?_
      rintro u Φ2 Mc' ⟨a2, c2, rfl, rfl, rfl⟩
      dsimp only [List.cons_append, List.nil_append]
      repeat (first | (refine sty ?_; try intro _) | (refine st ?_; try intro _) | (refine stz ?_; try intro _) | (refine stq ?_; try intro _))
      exact G.ret rfl (.cons (.cellA rfl rfl) (.cons (.tmp rfl) .nil)) (Φ' := [fRp (.slice a2 _ c2) _]) (M' := []) inferInstance (List.nil_sublist _) ⟨a2, c2, rfl, rfl, rfl⟩
    · rcases List.mem_cons.1 hφ with rfl | hφ
      · exact List.mem_append_right _ (.head _)
      · rcases List.mem_cons.1 hφ with rfl | hφ
        · exact List.mem_append_right _ (.tail _ (.head _))
        · exact List.mem_append_left _ hφ
end Go.Rail
namespace Go.Rail
open Go Go.Proofs
set_option linter.unusedSimpArgs false
set_option linter.unusedVariables false
set_option maxHeartbeats 400000
set_option maxRecDepth 4000
attribute [local irreducible] OpK G W LW wpListIn Exit.then Exit.inBlock Post rounds opRun bodyPostM intOp
set_option maxHeartbeats 2000000
/-- A frame, how many steps went, and a number that tells how it went. -/
def RRuns (p : Frm × Nat) : Value → List Fa → Own → Prop := fun u Φ' M' => ∃ a c, u = .tuple #[frmV p.1 (.slice a p.1.stack.length c), .int .i64 (p.2 : Int), .int .i64 0] ∧ Φ' = [fRp (.slice a p.1.stack.length c) p.1.stack] ∧ M' = []
structure RnSt where
  i : Nat
  g : Frm
  a : Option Addr
  c : Nat
theorem fRun_spec (f : Frm) (sv : Value) (m : Nat) (hm : m ≤ 100000) (hr : Rt f) : Fn Tryz.prog 22 [frmV f sv, .int .i64 (m : Int)] [fRp sv f.stack, fKc] [] (RRuns (runL keccakL m f)) := by
  have h1 := fun v => fright_spec f v (right_Rt.2 hr)
  have h2 := fun v => own_spec f v (by have := hr.2.2.2.2.2.2.2.2.1; omega)
  refine Fn.enter Tryz.func22 rfl Tryz.ntmps22 (by simp) (fun I0 w0 => ?_)
  refine W.bare (G.slice sv f.stack ?_)
  intro a1 c1 e1 k1
  subst e1
  repeat (first | (refine sty ?_; try intro _) | (refine st ?_; try intro _) | (refine stz ?_; try intro _) | (refine stq ?_; try intro _))
  rename_i b2 b4
  refine OpK.call rfl rfl rfl rfl (h2 _) inferInstance (Mr := _) (List.Perm.refl _) ?_
  rintro u Φ' Mc' ⟨v5, o, hv, rfl, rfl, rfl⟩
  obtain ⟨a2, c2, rfl⟩ := own_open hv
  dsimp only [List.cons_append, List.nil_append]
  refine G.giveOwn _ _ o 49 (Mr := _) hv inferInstance (List.Perm.refl _) ?_
  repeat (first | (refine sty ?_; try intro _) | (refine st ?_; try intro _) | (refine stz ?_; try intro _) | (refine stq ?_; try intro _))
  refine o_callV rfl rfl rfl rfl (h1 _) rfl ?_
  repeat (first | (refine sty ?_; try intro _) | (refine st ?_; try intro _) | (refine stz ?_; try intro _) | (refine stq ?_; try intro _))
  refine W.lp (S := RnSt) (fun s => ([fRp (.slice s.a s.g.stack.length s.c) s.g.stack, fKc], [(25, .int .i64 (s.i : Int)), (24, .int .i64 (m : Int)), (1, .int .i64 (m : Int)), (2, .pointer (some ⟨b2, 0, none⟩)), (4, .pointer (some ⟨b4, 0, none⟩))], [(b4, Ob (frmC (bgF [] [] 0) (.slice none 0 0)) 26), (b2, Ob (frmC s.g (.slice s.a s.g.stack.length s.c)) 26)])) (fun s => s.i ≤ m ∧ Rt s.g ∧ runL keccakL m f = ((runL keccakL (m - s.i) s.g).1, (runL keccakL (m - s.i) s.g).2 + s.i)) (fun s => m - s.i) ⟨0, f, a2, c2⟩ ?_ (h0 := ⟨Nat.zero_le _, hr, rfl⟩)
  rintro ⟨i, g, ag, cg⟩ ⟨hi, hrg, hrun⟩
  dsimp only at hi hrg hrun ⊢
  rw [hrun]
  by_cases he : i = m
  · subst he
    rw [Nat.sub_self, show runL keccakL 0 g = (g, 0) from rfl, Nat.zero_add]
    repeat (first | (refine sty ?_; try intro _) | (refine st ?_; try intro _) | (refine stz ?_; try intro _) | (refine stq ?_; try intro _))
    exact G.ret rfl (.cons (.cellA rfl rfl) (.cons (.tmp rfl) (.cons (.tmp rfl) .nil))) (Φ' := [fRp (.slice ag _ cg) _]) (M' := []) inferInstance (List.nil_sublist _) ⟨ag, cg, rfl, rfl, rfl⟩
  · have h3 := fun v => fStep_spec g v hrg
    obtain ⟨k, hk⟩ : ∃ k, m - i = k + 1 := ⟨m - i - 1, by omega⟩
    have hk2 : m - (i + 1) = k := by omega
    have hlaw := stepL_law keccakL hrg
    rw [hk, runL_s]
    rw [hk, runL_s] at hrun
    generalize hq : stepL keccakL g = q at h3 hrun hlaw ⊢
    obtain ⟨g2, e⟩ := q
    dsimp only at hlaw hrun ⊢
    by_cases hz : e ≠ 0
    · rw [if_pos hz, Nat.zero_add]
      repeat (first | (refine sty ?_; try intro _) | (refine st ?_; try intro _) | (refine stz ?_; try intro _) | (refine stq ?_; try intro _))
      refine OpK.call rfl rfl rfl rfl (h3 _) inferInstance (Mr := _) (List.Perm.refl _) ?_
      rintro u Φ' Mc' ⟨a3, c3, rfl, rfl, rfl⟩
      dsimp only [List.cons_append, List.nil_append]
      repeat (first | (refine sty ?_; try intro _) | (refine st ?_; try intro _) | (refine stz ?_; try intro _) | (refine stq ?_; try intro _))
      exact G.ret rfl (.cons (.cellA rfl rfl) (.cons (.tmp rfl) (.cons (.tmp rfl) .nil))) (Φ' := [fRp (.slice ag _ cg) _]) (M' := []) inferInstance (List.nil_sublist _) ⟨ag, cg, rfl, rfl, rfl⟩
    · obtain rfl : e = 0 := by omega
      rw [if_neg hz] at hrun ⊢
      obtain ⟨_, hrt, _⟩ := hlaw rfl
      repeat (first | (refine sty ?_; try intro _) | (refine st ?_; try intro _) | (refine stz ?_; try intro _) | (refine stq ?_; try intro _))
      refine OpK.call rfl rfl rfl rfl (h3 _) inferInstance (Mr := _) (List.Perm.refl _) ?_
      rintro u Φ' Mc' ⟨a3, c3, rfl, rfl, rfl⟩
      dsimp only [List.cons_append, List.nil_append]
      repeat (first | (refine sty ?_; try intro _) | (refine st ?_; try intro _) | (refine stz ?_; try intro _) | (refine stq ?_; try intro _))
      refine G.ag (S := RnSt) ⟨i + 1, g2, a3, c3⟩ (hpre := ⟨by dsimp only; omega, hrt, ?_⟩) (hM := .cons _ (List.Sublist.refl _))
      dsimp only
      rw [hk2, Nat.add_assoc, Nat.add_comm 1 i]
end Go.Rail
namespace Go.Rail
open Go Go.Proofs
set_option linter.unusedSimpArgs false
set_option linter.unusedVariables false
set_option maxHeartbeats 400000
set_option maxRecDepth 4000
attribute [local irreducible] OpK G W LW wpListIn Exit.then Exit.inBlock Post rounds opRun bodyPostM intOp
set_option maxHeartbeats 16000000
set_option maxRecDepth 20000
theorem takes_succ {α : Type} {xs ys : List α} {i : Nat} (hx : i < xs.length) (hy : i < ys.length) (h : xs.take i = ys.take i) (e : xs[i] = ys[i]) : xs.take (i + 1) = ys.take (i + 1) := by
  rw [List.take_succ_eq_append_getElem hx, List.take_succ_eq_append_getElem hy, h, e]
theorem samew_spec (v u : Value) (xs ys : List Word) (hx : xs.length ≤ 1000000) : FnV Tryz.prog 27 [v, u] [fRp v xs, fRp u ys] (.bool (decide (xs = ys))) := by
  refine Fn.enter Tryz.func27 rfl Tryz.ntmps27 (by simp) (fun I0 w0 => ?_)
  by_cases hl : xs.length = ys.length
  case neg =>
    rw [decide_eq_false (fun h => hl (by rw [h]))]
    refine W.bare (G.slice v xs ?_); intro a1 c1 e1 k1; subst e1
    refine G.slice u ys ?_; intro a2 c2 e2 k2; subst e2
    refine G.code ?_
    repeat (refine st ?_; try intro _)
    refine G.retV ?_
    rfl
  refine W.bare (G.slice v xs ?_); intro a1 c1 e1 k1; subst e1
  refine G.slice u ys ?_; intro a2 c2 e2 k2; subst e2
  refine G.code ?_
  repeat (refine st ?_; try intro _)
  refine W.lp (fun (i : Nat) => ([fRp (.slice a1 xs.length c1) xs, fRp (.slice a2 ys.length c2) ys], [(0, .slice a1 xs.length c1), (1, .slice a2 ys.length c2), (5, .int .i64 (i : Int)), (4, .bool false)], [])) (fun i => i ≤ xs.length ∧ xs.take i = ys.take i) (fun i => xs.length - i) 0 ?_ (h0 := ⟨Nat.zero_le _, rfl⟩)
  rintro i ⟨hi, ht⟩
  dsimp only
  by_cases hd : i = xs.length
  · subst hd
    repeat (refine st ?_; try intro _)
    refine G.retV ?_
    rw [List.take_length, hl, List.take_length] at ht
    rw [decide_eq_true ht]; rfl
  · have hix : i < xs.length := by omega
    have hiy : i < ys.length := by omega
    by_cases hne : xs[i] = ys[i]
    · repeat (refine st ?_; try intro _)
      refine W.drawA 8 [dq _, dq _, dk _, dq _, dq _, dq _, dk _, dq _] [[], [], [0,1], [2], [], [], [4,5], [6]] [3, 7] (hrest := fun c => nrm ?_) (hops := by
        iterate 8 refine AllQ.au ?_
        exact AllQ.nil)
      repeat (refine st ?_; try intro _)
      exact G.ag (i + 1) (hpre := ⟨by omega, takes_succ hix hiy ht hne⟩)
    · rw [decide_eq_false (fun h => hne (by subst h; rfl))]
      repeat (refine st ?_; try intro _)
      refine W.drawA 8 [dq _, dq _, dk _, dq _, dq _, dq _, dk _, dq _] [[], [], [0,1], [2], [], [], [4,5], [6]] [3, 7] (hrest := fun c => nrm ?_) (hops := by
        iterate 8 refine AllQ.au ?_
        exact AllQ.nil)
      repeat (refine st ?_; try intro _)
      refine G.retV ?_
      rfl
end Go.Rail
namespace Go.Rail
open Go Go.Proofs
set_option linter.unusedSimpArgs false
set_option linter.unusedVariables false
set_option maxHeartbeats 400000
set_option maxRecDepth 4000
attribute [local irreducible] OpK G W LW wpListIn Exit.then Exit.inBlock Post rounds opRun bodyPostM intOp
set_option maxHeartbeats 4000000
def u8I (n : Int) : UInt8 := UInt8.ofNat n.toNat
def okR (a : Int × Int) : Prop := (-9223372036854775808 ≤ a.1 ∧ a.1 ≤ 9223372036854775807) ∧ (-9223372036854775808 ≤ a.2 ∧ a.2 ≤ 9223372036854775807)
theorem u8I_nat (n : Int) (h0 : 0 ≤ n) (h : n < 256) : ((u8I n).toNat : Int) = n := by
  rw [u8I, UInt8.toNat_ofNat', Nat.mod_eq_of_lt (by omega)]; omega
structure CdSt where
  i : Nat
  xs : List UInt8
  w : Value
  o : OR
end Go.Rail
