/- mstore8. -/
import Derived.Test.YtpbbjkbackiljaaGreatDoorAFEFI
set_option linter.unusedSimpArgs false
set_option linter.unusedVariables false
namespace Go.Rail
open Go Go.Proofs
set_option maxHeartbeats 400000
set_option maxRecDepth 4000
attribute [local irreducible] OpK G W LW wpListIn Exit.then Exit.inBlock Post rounds opRun bodyPostM intOp
set_option maxHeartbeats 600000
instance : PartOf (α := Word) (β := UInt64) 0 Word.a where
  le := by decide
  h := fun I cs z h => by rw [h]; rfl
theorem num_low (w : Word) : w.num % 256 = w.a.toNat % 256 := by
  have := w.a.toNat_lt; have := w.b.toNat_lt; have := w.c.toNat_lt; have := w.d.toNat_lt
  simp only [Word.num]; omega
theorem u8v (n : Nat) (h : n < 256) : Value.int .u8 ((n : Nat) : Int) = GoFlat.val (UInt8.ofNat n) := by
  have e : (UInt8.ofNat n).toNat = n := by rw [UInt8.toNat_ofNat']; omega
  show Value.int .u8 ((n : Nat) : Int) = Value.int .u8 (((UInt8.ofNat n).toNat : Nat) : Int)
  rw [e]
theorem ract8_spec (B : Nat) (f : Frm) (sv av : Value) (wrong : Int) (l : List Word) (hm : f.mem.length ≤ 1048576) (h32 : f.mem.length % 32 = 0) (hl : 1 < l.length) :
    Fn Tryz.prog 114 [.pointer (some ⟨B, 0, none⟩)] [fRp av l] [(B, Ob (runC f sv av wrong) 94)] (RKeep B (runC (memF f (putF f.mem (numF (l.getD 0 .zero)) [UInt8.ofNat ((l.getD 1 .zero).num % 256)])) sv av wrong)) := by
  have h3 := fun av => rput_spec B f sv av wrong l [UInt8.ofNat (l[1].num % 256)] hm h32 (by simp) (by omega)
  rw [getD_at l 1 hl]
  rw [num_low] at h3 ⊢
  refine Fn.enter Tryz.func114 rfl Tryz.ntmps114 (by simp) (fun I0 w0 => ?_)
  refine W.bare (G.slice av l ?_)
  intro a1 c1 e1 k1
  subst e1
  repeat (first | (refine sty ?_; try intro _) | (refine st ?_; try intro _) | (refine stz ?_; try intro _) | (refine stq ?_; try intro _))
  refine o_indexP (off := 0) Word.a rfl rfl rfl rfl (by decide) (by decide) rfl ?_
  intro p'
  repeat (first | (refine sty ?_; try intro _) | (refine st ?_; try intro _) | (refine stz ?_; try intro _) | (refine stq ?_; try intro _))
  refine o_litV (xs := [UInt8.ofNat (l[1].a.toNat % 256)]) rfl rfl rfl (.cons (u8v _ (Nat.mod_lt _ (by decide))) .nil) inferInstance inferInstance rfl rfl ?_
  intro v
  repeat (first | (refine sty ?_; try intro _) | (refine st ?_; try intro _) | (refine stz ?_; try intro _) | (refine stq ?_; try intro _))
  refine OpK.call rfl rfl rfl rfl (h3 _) inferInstance (Mr := []) (by rw [List.append_nil]) ?_
  rintro u Φ' Mc' ⟨rfl, rfl, rfl⟩
  dsimp only [List.cons_append, List.nil_append, List.append_nil]
  repeat (first | (refine sty ?_; try intro _) | (refine st ?_; try intro _) | (refine stz ?_; try intro _) | (refine stq ?_; try intro _))
  exact G.fin rfl .nil (Φ' := []) (M' := [_]) inferInstance (List.Sublist.refl _) ⟨rfl, rfl, rfl⟩
end Go.Rail
