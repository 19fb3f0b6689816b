/- What find tells: compute.Do. -/
import Derived.Test.YtpbbjkbackiljaaGreatDoorAFEFH
namespace Go.Rail
open Go Go.Proofs
set_option linter.unusedSimpArgs false
set_option linter.unusedVariables false
set_option maxHeartbeats 400000
set_option maxRecDepth 4000
attribute [local irreducible] OpK G W LW wpListIn Exit.then Exit.inBlock Post rounds opRun bodyPostM intOp
set_option maxHeartbeats 600000
attribute [local irreducible] doC
theorem find1_spec (B b1 : Nat) (f : Frm) (a0 : Option Addr) (c0 : Nat) (av : Value) (wrong : Int) (op : Nat) (hop : op < 256) (hs : f.stack.length ≤ 100000) :
    Fn Tryz.prog 53 [.pointer (some ⟨B, 0, none⟩), .pointer (some ⟨b1, 0, none⟩)] [fRp (.slice a0 f.stack.length c0) f.stack, fBlk b1 [.int .u8 (op : Int)] 5] [(B, Ob (runC f (.slice a0 f.stack.length c0) av wrong) 94)] (RRun B (stkF f (doC op f.stack).1) av wrong) := by
  have h1 := do_spec op hop (.slice a0 f.stack.length c0) f.stack hs
  generalize (doC op f.stack).1 = ys at h1 ⊢
  generalize (doC op f.stack).2 = e at h1
  refine Fn.enter Tryz.func53 rfl Tryz.ntmps53 (by simp) (fun I0 w0 => ?_)
  repeat (first | (refine sty ?_; try intro _) | (refine st ?_; try intro _) | (refine stz ?_; try intro _) | (refine stq ?_; try intro _))
  refine W.drawMx 15 14 (fun z => [(B, Ob (runC f z av wrong) 94)]) [dq _, dq _, dq _, dq _, dq _, dq _, dq _, ⟨fun _ z => .tuple #[z, .int .i64 e], fun _ z => [fRp z ys]⟩, dq _, dq _, dq _, dq _, dq _, dq _, ⟨fun _ _ => .bool false, fun _ z => [fRp z ys]⟩] [[], [], [], [2], [3], [4], [5], [1,6], [7], [8], [8], [0], [11], [12], [7,9,13]] [14] (hloc := by (repeat (first | exact AllL.nil | refine AllL.au ?_ | refine AllL.au ?_ (by intro c c2 z h; refine nrm ?_; constructor <;> first | rfl | (rw [h 7 (by kernel_rfl)]))))) (hrest := fun c => nrmX ?_) (hops := by
    refine AllX.a0 ?_ rfl (by kernel_rfl) (by intro c z0 Φr Lr K; refine nrmX ?_; intro hK; (first | refine sty ?_ | refine st ?_ | refine stz ?_ | refine stq ?_); (first | exact hK z0 | exact hK | exact fun b => hK (.int .i64 (b : Int))))
    refine AllX.a0 ?_ rfl (by kernel_rfl) (by intro c z0 Φr Lr K; refine nrmX ?_; intro hK; (first | refine sty ?_ | refine st ?_ | refine stz ?_ | refine stq ?_); (first | exact hK z0 | exact hK | exact fun b => hK (.int .i64 (b : Int))))
    refine AllX.a0 ?_ rfl (by kernel_rfl) (by intro c z0 Φr Lr K; refine nrmX ?_; intro hK; (first | refine sty ?_ | refine st ?_ | refine stz ?_ | refine stq ?_); (first | exact hK z0 | exact hK | exact fun b => hK (.int .i64 (b : Int))))
    refine AllX.a0 ?_ rfl (by kernel_rfl) (by intro c z0 Φr Lr K; refine nrmX ?_; intro hK; (first | refine sty ?_ | refine st ?_ | refine stz ?_ | refine stq ?_); (first | exact hK z0 | exact hK | exact fun b => hK (.int .i64 (b : Int))))
    refine AllX.a0 ?_ rfl (by kernel_rfl) (by intro c z0 Φr Lr K; refine nrmX ?_; intro hK; (first | refine sty ?_ | refine st ?_ | refine stz ?_ | refine stq ?_); (first | exact hK z0 | exact hK | exact fun b => hK (.int .i64 (b : Int))))
    refine AllX.a0 ?_ rfl (by kernel_rfl) (by intro c z0 Φr Lr K; refine nrmX ?_; intro hK; (first | refine sty ?_ | refine st ?_ | refine stz ?_ | refine stq ?_); (first | exact hK z0 | exact hK | exact fun b => hK (.int .i64 (b : Int))))
    refine AllX.a0 ?_ rfl (by kernel_rfl) (by intro c z0 Φr Lr K; refine nrmX ?_; intro hK; (first | refine sty ?_ | refine st ?_ | refine stz ?_ | refine stq ?_); (first | exact hK z0 | exact hK | exact fun b => hK (.int .i64 (b : Int))))
    refine AllX.a0 ?_ rfl (by kernel_rfl) (by intro c z0 Φr Lr K; refine nrmX ?_; intro hK; refine OpK.call rfl rfl rfl rfl h1 inferInstance (Mr := _) (List.Perm.refl _) ?_; rintro u Φ' Mc' ⟨v, rfl, rfl, rfl⟩; exact hK v)
    refine AllX.a0 ?_ rfl (by kernel_rfl) (by intro c z0 Φr Lr K; refine nrmX ?_; intro hK; (first | refine sty ?_ | refine st ?_ | refine stz ?_ | refine stq ?_); (first | exact hK z0 | exact hK | exact fun b => hK (.int .i64 (b : Int))))
    refine AllX.a0 ?_ rfl (by kernel_rfl) (by intro c z0 Φr Lr K; refine nrmX ?_; intro hK; (first | refine sty ?_ | refine st ?_ | refine stz ?_ | refine stq ?_); (first | exact hK z0 | exact hK | exact fun b => hK (.int .i64 (b : Int))))
    refine AllX.a01 ?_ rfl (by intro c z0 Φr Lr K; refine nrmX ?_; intro hK; (first | refine sty ?_ | refine st ?_ | refine stz ?_ | refine stq ?_); (first | exact hK z0 | exact hK | exact fun b => hK (.int .i64 (b : Int)))) (by intro c z0 Φr Lr K; refine nrmX ?_; intro hK; (first | refine sty ?_ | refine st ?_ | refine stz ?_ | refine stq ?_); (first | exact hK z0 | exact hK | exact fun b => hK (.int .i64 (b : Int))))
    refine AllX.a0 ?_ rfl (by kernel_rfl) (by intro c z0 Φr Lr K; refine nrmX ?_; intro hK; (first | refine sty ?_ | refine st ?_ | refine stz ?_ | refine stq ?_); (first | exact hK z0 | exact hK | exact fun b => hK (.int .i64 (b : Int))))
    refine AllX.a0 ?_ rfl (by kernel_rfl) (by intro c z0 Φr Lr K; refine nrmX ?_; intro hK; (first | refine sty ?_ | refine st ?_ | refine stz ?_ | refine stq ?_); (first | exact hK z0 | exact hK | exact fun b => hK (.int .i64 (b : Int))))
    refine AllX.a0 ?_ rfl (by kernel_rfl) (by intro c z0 Φr Lr K; refine nrmX ?_; intro hK; (first | refine sty ?_ | refine st ?_ | refine stz ?_ | refine stq ?_); (first | exact hK z0 | exact hK | exact fun b => hK (.int .i64 (b : Int))))
    refine AllX.ai ?_ (by intro c z0 Φr Lr K; refine nrmX ?_; intro hK; refine OpK.bare (G.slice (c 7) ys ?_); intro a9 c9 e9 k9; refine OpK.back ?_; have hk := hK (c 7); rw [e9] at hk ⊢; (first | refine sty ?_ | refine st ?_ | refine stz ?_ | refine stq ?_); refine G.learn (fRp (.slice a9 ys.length c9) ys) ?_; exact hk)
    exact AllX.end)
  generalize c 14 = v
  refine LW.bare (G.slice v ys ?_)
  intro a2 c2 e2 k2
  subst e2
  refine LW.back ?_
  repeat (first | (refine sty ?_; try intro _) | (refine st ?_; try intro _) | (refine stz ?_; try intro _) | (refine stq ?_; try intro _))
  exact G.fin rfl .nil (Φ' := [fRp (.slice a2 ys.length c2) ys]) (M' := [_]) inferInstance (List.Sublist.refl _) ⟨a2, c2, rfl, rfl, rfl⟩
end Go.Rail
namespace Go.Rail
open Go Go.Proofs
set_option linter.unusedSimpArgs false
set_option linter.unusedVariables false
set_option maxHeartbeats 400000
set_option maxRecDepth 4000
attribute [local irreducible] OpK G W LW wpListIn Exit.then Exit.inBlock Post rounds opRun bodyPostM intOp
set_option maxHeartbeats 600000
instance : PartOf (α := Word) (β := UInt64) 0 Word.a where
  le := by decide
  h := fun I cs z h => by rw [h]; rfl
theorem num_low (w : Word) : w.num % 256 = w.a.toNat % 256 := by
  have := w.a.toNat_lt; have := w.b.toNat_lt; have := w.c.toNat_lt; have := w.d.toNat_lt
  simp only [Word.num]; omega
theorem u8v (n : Nat) (h : n < 256) : Value.int .u8 ((n : Nat) : Int) = GoFlat.val (UInt8.ofNat n) := by
  have e : (UInt8.ofNat n).toNat = n := by rw [UInt8.toNat_ofNat']; omega
  show Value.int .u8 ((n : Nat) : Int) = Value.int .u8 (((UInt8.ofNat n).toNat : Nat) : Int)
  rw [e]
theorem ract8_spec (B : Nat) (f : Frm) (sv av : Value) (wrong : Int) (l : List Word) (hm : f.mem.length ≤ 1048576) (h32 : f.mem.length % 32 = 0) (hl : 1 < l.length) :
    Fn Tryz.prog 114 [.pointer (some ⟨B, 0, none⟩)] [fRp av l] [(B, Ob (runC f sv av wrong) 94)] (RKeep B (runC (memF f (putF f.mem (numF (l.getD 0 .zero)) [UInt8.ofNat ((l.getD 1 .zero).num % 256)])) sv av wrong)) := by
  have h3 := fun av => rput_spec B f sv av wrong l [UInt8.ofNat (l[1].num % 256)] hm h32 (by simp) (by omega)
  rw [getD_at l 1 hl]
  rw [num_low] at h3 ⊢
  refine Fn.enter Tryz.func114 rfl Tryz.ntmps114 (by simp) (fun I0 w0 => ?_)
  refine W.bare (G.slice av l ?_)
  intro a1 c1 e1 k1
  subst e1
  repeat (first | (refine sty ?_; try intro _) | (refine st ?_; try intro _) | (refine stz ?_; try intro _) | (refine stq ?_; try intro _))
  refine o_indexP (off := 0) Word.a rfl rfl rfl rfl (by decide) (by decide) rfl ?_
  intro p'
  repeat (first | (refine sty ?_; try intro _) | (refine st ?_; try intro _) | (refine stz ?_; try intro _) | (refine stq ?_; try intro _))
  refine o_litV (xs := [UInt8.ofNat (l[1].a.toNat % 256)]) rfl rfl rfl (.cons (u8v _ (Nat.mod_lt _ (by decide))) .nil) inferInstance inferInstance rfl rfl ?_
  intro v
  repeat (first | (refine sty ?_; try intro _) | (refine st ?_; try intro _) | (refine stz ?_; try intro _) | (refine stq ?_; try intro _))
  refine OpK.call rfl rfl rfl rfl (h3 _) inferInstance (Mr := []) (by rw [List.append_nil]) ?_
  rintro u Φ' Mc' ⟨rfl, rfl, rfl⟩
  dsimp only [List.cons_append, List.nil_append, List.append_nil]
  repeat (first | (refine sty ?_; try intro _) | (refine st ?_; try intro _) | (refine stz ?_; try intro _) | (refine stq ?_; try intro _))
  exact G.fin rfl .nil (Φ' := []) (M' := [_]) inferInstance (List.Sublist.refl _) ⟨rfl, rfl, rfl⟩
end Go.Rail
