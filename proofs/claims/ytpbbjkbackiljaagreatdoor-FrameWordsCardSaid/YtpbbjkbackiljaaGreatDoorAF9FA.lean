/- What opcodes do: those that push a number; copies; ends. -/
import Derived.Test.YtpbbjkbackiljaaGreatDoorAF7F8
set_option linter.unusedSimpArgs false
set_option linter.unusedVariables false
namespace Go.Rail
open Go Go.Proofs
set_option maxHeartbeats 400000
set_option maxRecDepth 4000
attribute [local irreducible] OpK G W LW wpListIn Exit.then Exit.inBlock Post rounds opRun bodyPostM intOp
set_option maxHeartbeats 1000000
abbrev stkF (f : Frm) (s : List Word) : Frm := { f with stack := s }
theorem ract1_spec (B : Nat) (f : Frm) (sv av : Value) (wrong : Int) (o : OR) (hs : f.stack.length ≤ 1000000) (ho : IsOwn (GoTy.sz Word) sv f.stack.length o) (hx : f.input.length ≤ 1000000000) :
    Fn Tryz.prog 100 [.pointer (some ⟨B, 0, none⟩)] [fRow (ocells o) f.stack] ((B, Ob (runC f sv av wrong) 94) :: ownM 49 o) (RRun B (stkF f (f.stack ++ [.nat f.input.length])) av wrong) := by
  have hof := wof_spec f.input.length (by omega)
  refine Fn.enter Tryz.func100 rfl Tryz.ntmps100 (by simp) (fun I0 w0 => ?_)
  repeat (first | (refine sty ?_; try intro _) | (refine st ?_; try intro _) | (refine stz ?_; try intro _) | (refine stq ?_; try intro _))
  refine o_callV rfl rfl rfl rfl hof rfl ?_
  repeat (first | (refine sty ?_; try intro _) | (refine st ?_; try intro _) | (refine stz ?_; try intro _) | (refine stq ?_; try intro _))
  refine OpK.call rfl rfl rfl rfl (rpush_spec B f sv av wrong o (.nat f.input.length) hs ho) inferInstance (Mr := []) (by rw [List.append_nil]) ?_
  rintro u Φ' Mc' ⟨a, c, rfl, rfl, rfl⟩
  dsimp only [List.cons_append, List.nil_append, List.append_nil]
  repeat (first | (refine sty ?_; try intro _) | (refine st ?_; try intro _) | (refine stz ?_; try intro _) | (refine stq ?_; try intro _))
  exact G.fin rfl .nil (Φ' := [fRp (.slice a _ c) _]) (M' := [_]) inferInstance (List.Sublist.refl _) ⟨a, c, rfl, rfl, rfl⟩

theorem ract3_spec (B : Nat) (f : Frm) (sv av : Value) (wrong : Int) (o : OR) (hs : f.stack.length ≤ 1000000) (ho : IsOwn (GoTy.sz Word) sv f.stack.length o) (hx : f.code.length ≤ 1000000000) :
    Fn Tryz.prog 105 [.pointer (some ⟨B, 0, none⟩)] [fRow (ocells o) f.stack] ((B, Ob (runC f sv av wrong) 94) :: ownM 49 o) (RRun B (stkF f (f.stack ++ [.nat f.code.length])) av wrong) := by
  have hof := wof_spec f.code.length (by omega)
  refine Fn.enter Tryz.func105 rfl Tryz.ntmps105 (by simp) (fun I0 w0 => ?_)
  repeat (first | (refine sty ?_; try intro _) | (refine st ?_; try intro _) | (refine stz ?_; try intro _) | (refine stq ?_; try intro _))
  refine o_callV rfl rfl rfl rfl hof rfl ?_
  repeat (first | (refine sty ?_; try intro _) | (refine st ?_; try intro _) | (refine stz ?_; try intro _) | (refine stq ?_; try intro _))
  refine OpK.call rfl rfl rfl rfl (rpush_spec B f sv av wrong o (.nat f.code.length) hs ho) inferInstance (Mr := []) (by rw [List.append_nil]) ?_
  rintro u Φ' Mc' ⟨a, c, rfl, rfl, rfl⟩
  dsimp only [List.cons_append, List.nil_append, List.append_nil]
  repeat (first | (refine sty ?_; try intro _) | (refine st ?_; try intro _) | (refine stz ?_; try intro _) | (refine stq ?_; try intro _))
  exact G.fin rfl .nil (Φ' := [fRp (.slice a _ c) _]) (M' := [_]) inferInstance (List.Sublist.refl _) ⟨a, c, rfl, rfl, rfl⟩

theorem ract5_spec (B : Nat) (f : Frm) (sv av : Value) (wrong : Int) (o : OR) (hs : f.stack.length ≤ 1000000) (ho : IsOwn (GoTy.sz Word) sv f.stack.length o) (hx : f.ret.length ≤ 1000000000) :
    Fn Tryz.prog 107 [.pointer (some ⟨B, 0, none⟩)] [fRow (ocells o) f.stack] ((B, Ob (runC f sv av wrong) 94) :: ownM 49 o) (RRun B (stkF f (f.stack ++ [.nat f.ret.length])) av wrong) := by
  have hof := wof_spec f.ret.length (by omega)
  refine Fn.enter Tryz.func107 rfl Tryz.ntmps107 (by simp) (fun I0 w0 => ?_)
  repeat (first | (refine sty ?_; try intro _) | (refine st ?_; try intro _) | (refine stz ?_; try intro _) | (refine stq ?_; try intro _))
  refine o_callV rfl rfl rfl rfl hof rfl ?_
  repeat (first | (refine sty ?_; try intro _) | (refine st ?_; try intro _) | (refine stz ?_; try intro _) | (refine stq ?_; try intro _))
  refine OpK.call rfl rfl rfl rfl (rpush_spec B f sv av wrong o (.nat f.ret.length) hs ho) inferInstance (Mr := []) (by rw [List.append_nil]) ?_
  rintro u Φ' Mc' ⟨a, c, rfl, rfl, rfl⟩
  dsimp only [List.cons_append, List.nil_append, List.append_nil]
  repeat (first | (refine sty ?_; try intro _) | (refine st ?_; try intro _) | (refine stz ?_; try intro _) | (refine stq ?_; try intro _))
  exact G.fin rfl .nil (Φ' := [fRp (.slice a _ c) _]) (M' := [_]) inferInstance (List.Sublist.refl _) ⟨a, c, rfl, rfl, rfl⟩

theorem ract10_spec (B : Nat) (f : Frm) (sv av : Value) (wrong : Int) (o : OR) (hs : f.stack.length ≤ 1000000) (ho : IsOwn (GoTy.sz Word) sv f.stack.length o) (hx : f.mem.length ≤ 1000000000) :
    Fn Tryz.prog 118 [.pointer (some ⟨B, 0, none⟩)] [fRow (ocells o) f.stack] ((B, Ob (runC f sv av wrong) 94) :: ownM 49 o) (RRun B (stkF f (f.stack ++ [.nat f.mem.length])) av wrong) := by
  have hof := wof_spec f.mem.length (by omega)
  refine Fn.enter Tryz.func118 rfl Tryz.ntmps118 (by simp) (fun I0 w0 => ?_)
  repeat (first | (refine sty ?_; try intro _) | (refine st ?_; try intro _) | (refine stz ?_; try intro _) | (refine stq ?_; try intro _))
  refine o_callV rfl rfl rfl rfl hof rfl ?_
  repeat (first | (refine sty ?_; try intro _) | (refine st ?_; try intro _) | (refine stz ?_; try intro _) | (refine stq ?_; try intro _))
  refine OpK.call rfl rfl rfl rfl (rpush_spec B f sv av wrong o (.nat f.mem.length) hs ho) inferInstance (Mr := []) (by rw [List.append_nil]) ?_
  rintro u Φ' Mc' ⟨a, c, rfl, rfl, rfl⟩
  dsimp only [List.cons_append, List.nil_append, List.append_nil]
  repeat (first | (refine sty ?_; try intro _) | (refine st ?_; try intro _) | (refine stz ?_; try intro _) | (refine stq ?_; try intro _))
  exact G.fin rfl .nil (Φ' := [fRp (.slice a _ c) _]) (M' := [_]) inferInstance (List.Sublist.refl _) ⟨a, c, rfl, rfl, rfl⟩

theorem ract9_spec (B : Nat) (f : Frm) (sv av : Value) (wrong : Int) (o : OR) (hs : f.stack.length ≤ 1000000) (ho : IsOwn (GoTy.sz Word) sv f.stack.length o) (h1 : 1 ≤ f.pc) (h2 : f.pc ≤ 1000000000000000000) :
    Fn Tryz.prog 117 [.pointer (some ⟨B, 0, none⟩)] [fRow (ocells o) f.stack] ((B, Ob (runC f sv av wrong) 94) :: ownM 49 o) (RRun B (stkF f (f.stack ++ [.nat (f.pc - 1).toNat])) av wrong) := by
  have hof := wof_spec (f.pc - 1).toNat (by omega)
  rw [show (((f.pc - 1).toNat : Nat) : Int) = f.pc - 1 from by omega] at hof
  refine Fn.enter Tryz.func117 rfl Tryz.ntmps117 (by simp) (fun I0 w0 => ?_)
  repeat (first | (refine sty ?_; try intro _) | (refine st ?_; try intro _) | (refine stz ?_; try intro _) | (refine stq ?_; try intro _))
  refine o_callV rfl rfl rfl rfl hof rfl ?_
  repeat (first | (refine sty ?_; try intro _) | (refine st ?_; try intro _) | (refine stz ?_; try intro _) | (refine stq ?_; try intro _))
  refine OpK.call rfl rfl rfl rfl (rpush_spec B f sv av wrong o (.nat (f.pc - 1).toNat) hs ho) inferInstance (Mr := []) (by rw [List.append_nil]) ?_
  rintro u Φ' Mc' ⟨a, c, rfl, rfl, rfl⟩
  dsimp only [List.cons_append, List.nil_append, List.append_nil]
  repeat (first | (refine sty ?_; try intro _) | (refine st ?_; try intro _) | (refine stz ?_; try intro _) | (refine stq ?_; try intro _))
  exact G.fin rfl .nil (Φ' := [fRp (.slice a _ c) _]) (M' := [_]) inferInstance (List.Sublist.refl _) ⟨a, c, rfl, rfl, rfl⟩

theorem ract11_spec (B : Nat) (f : Frm) (sv av : Value) (wrong : Int) (o : OR) (hs : f.stack.length ≤ 1000000) (ho : IsOwn (GoTy.sz Word) sv f.stack.length o) (h1 : 0 ≤ f.gas) (h2 : f.gas ≤ 1000000000000000000) :
    Fn Tryz.prog 119 [.pointer (some ⟨B, 0, none⟩)] [fRow (ocells o) f.stack] ((B, Ob (runC f sv av wrong) 94) :: ownM 49 o) (RRun B (stkF f (f.stack ++ [.nat f.gas.toNat])) av wrong) := by
  have hof := wof_spec f.gas.toNat (by omega)
  rw [show ((f.gas.toNat : Nat) : Int) = f.gas from by omega] at hof
  refine Fn.enter Tryz.func119 rfl Tryz.ntmps119 (by simp) (fun I0 w0 => ?_)
  repeat (first | (refine sty ?_; try intro _) | (refine st ?_; try intro _) | (refine stz ?_; try intro _) | (refine stq ?_; try intro _))
  refine o_callV rfl rfl rfl rfl hof rfl ?_
  repeat (first | (refine sty ?_; try intro _) | (refine st ?_; try intro _) | (refine stz ?_; try intro _) | (refine stq ?_; try intro _))
  refine OpK.call rfl rfl rfl rfl (rpush_spec B f sv av wrong o (.nat f.gas.toNat) hs ho) inferInstance (Mr := []) (by rw [List.append_nil]) ?_
  rintro u Φ' Mc' ⟨a, c, rfl, rfl, rfl⟩
  dsimp only [List.cons_append, List.nil_append, List.append_nil]
  repeat (first | (refine sty ?_; try intro _) | (refine st ?_; try intro _) | (refine stz ?_; try intro _) | (refine stq ?_; try intro _))
  exact G.fin rfl .nil (Φ' := [fRp (.slice a _ c) _]) (M' := [_]) inferInstance (List.Sublist.refl _) ⟨a, c, rfl, rfl, rfl⟩

theorem ract12_spec (B : Nat) (f : Frm) (sv av : Value) (wrong : Int) :
    Fn Tryz.prog 120 [.pointer (some ⟨B, 0, none⟩)] [] [(B, Ob (runC f sv av wrong) 94)] (RKeep B (runC f sv av wrong)) := by
  refine Fn.enter Tryz.func120 rfl Tryz.ntmps120 (by simp) (fun I0 w0 => ?_)
  repeat (first | (refine sty ?_; try intro _) | (refine st ?_; try intro _) | (refine stz ?_; try intro _) | (refine stq ?_; try intro _))
  exact G.fin rfl .nil (Φ' := []) (M' := [_]) inferInstance (List.Sublist.refl _) ⟨rfl, rfl, rfl⟩
theorem getD_at (l : List Word) (k : Nat) (h : k < l.length) : l.getD k .zero = l[k] := by rw [List.getD_eq_getElem?_getD, List.getElem?_eq_getElem h]; rfl
theorem partF_len (s : List UInt8) (a : Word) (n : Nat) : (partF s a n).length ≤ 1048576 := by
  unfold partF
  split
  · simp
  · dsimp only
    have : (if a.num < s.length then (s.drop a.num).take n else []).length ≤ n := by
      split
      · exact List.length_take_le _ _
      · exact Nat.zero_le _
    rw [List.length_append, List.length_replicate]
    omega
theorem rcopy_spec (B : Nat) (f : Frm) (sv av : Value) (wrong : Int) (l : List Word) (s : List UInt8) (hm : f.mem.length ≤ 1048576) (h32 : f.mem.length % 32 = 0) (hs : s.length ≤ 1000000000) (hl : 2 < l.length) :
    Fn Tryz.prog 103 [.pointer (some ⟨B, 0, none⟩), .string (ba s)] [fRp av l] [(B, Ob (runC f sv av wrong) 94)] (RKeep B (runC (copyF f s l).1 sv av wrong)) := by
  have h1 := number_spec l[2]
  have h2 := mpiece_spec s l[1] (numF l[2]) hs
  have h3 := fun av => rput_spec B f sv av wrong l (partF s l[1] (numF l[2])) hm h32 (Nat.le_trans (partF_len _ _ _) (by decide)) (by omega)
  unfold copyF
  rw [getD_at l 1 (by omega), getD_at l 2 hl]
  generalize numF l[2] = n at h1 h2 h3 ⊢
  generalize partF s l[1] n = q at h2 h3 ⊢
  generalize (if n ≤ 1048576 then (0 : Int) else 1) = e at h2
  refine Fn.enter Tryz.func103 rfl Tryz.ntmps103 (by simp) (fun I0 w0 => ?_)
  refine W.bare (G.slice av l ?_)
  intro a1 c1 e1 k1
  subst e1
  repeat (first | (refine sty ?_; try intro _) | (refine st ?_; try intro _) | (refine stz ?_; try intro _) | (refine stq ?_; try intro _))
  refine W.drawA 19 [dq _, dq _, dq _, dq _, dq _, dk _, dq _, dq _, dq _, dq _, dq _, dk _, dq _, dq _, dq _, dq _, dq _, dq _, dq _] [[], [], [1], [2], [3], [4], [5], [], [7], [8], [9], [10], [11], [12], [0,6,13], [14], [15], [15], [16]] [17, 18] (hrest := fun c => nrm ?_) (hops := by
    iterate 13 refine AllQ.aq ?_
    refine AllQ.mk (by intro c z0 Φr Lr K; refine nrm ?_; intro hK; refine o_callV rfl rfl rfl rfl h1 rfl ?_; exact hK z0) ?_
    refine AllQ.mk (by intro c z0 Φr Lr K; refine nrm ?_; intro hK; refine o_callV rfl rfl rfl rfl h2 rfl ?_; exact hK z0) ?_
    iterate 4 refine AllQ.aq ?_
    exact AllQ.nil)
  repeat (first | (refine sty ?_; try intro _) | (refine st ?_; try intro _) | (refine stz ?_; try intro _) | (refine stq ?_; try intro _))
  refine OpK.call rfl rfl rfl rfl (h3 _) inferInstance (Mr := []) (by rw [List.append_nil]) ?_
  rintro u Φ' Mc' ⟨rfl, rfl, rfl⟩
  dsimp only [List.cons_append, List.nil_append, List.append_nil]
  repeat (first | (refine sty ?_; try intro _) | (refine st ?_; try intro _) | (refine stz ?_; try intro _) | (refine stq ?_; try intro _))
  exact G.fin rfl .nil (Φ' := []) (M' := [_]) inferInstance (List.Sublist.refl _) ⟨rfl, rfl, rfl⟩

theorem ract2_spec (B : Nat) (f : Frm) (sv av : Value) (wrong : Int) (l : List Word) (hm : f.mem.length ≤ 1048576) (h32 : f.mem.length % 32 = 0) (hs : f.input.length ≤ 1000000000) (hl : 2 < l.length) :
    Fn Tryz.prog 102 [.pointer (some ⟨B, 0, none⟩)] [fRp av l] [(B, Ob (runC f sv av wrong) 94)] (RKeep B (runC (copyF f f.input l).1 sv av wrong)) := by
  refine Fn.enter Tryz.func102 rfl Tryz.ntmps102 (by simp) (fun I0 w0 => ?_)
  repeat (first | (refine sty ?_; try intro _) | (refine st ?_; try intro _) | (refine stz ?_; try intro _) | (refine stq ?_; try intro _))
  refine OpK.call rfl rfl rfl rfl (rcopy_spec B f sv av wrong l f.input hm h32 hs hl) inferInstance (Mr := []) (by rw [List.append_nil]) ?_
  rintro u Φ' Mc' ⟨rfl, rfl, rfl⟩
  dsimp only [List.cons_append, List.nil_append, List.append_nil]
  repeat (first | (refine sty ?_; try intro _) | (refine st ?_; try intro _) | (refine stz ?_; try intro _) | (refine stq ?_; try intro _))
  exact G.fin rfl .nil (Φ' := []) (M' := [_]) inferInstance (List.Sublist.refl _) ⟨rfl, rfl, rfl⟩

theorem ract4_spec (B : Nat) (f : Frm) (sv av : Value) (wrong : Int) (l : List Word) (hm : f.mem.length ≤ 1048576) (h32 : f.mem.length % 32 = 0) (hs : f.code.length ≤ 1000000000) (hl : 2 < l.length) :
    Fn Tryz.prog 106 [.pointer (some ⟨B, 0, none⟩)] [fRp av l] [(B, Ob (runC f sv av wrong) 94)] (RKeep B (runC (copyF f f.code l).1 sv av wrong)) := by
  refine Fn.enter Tryz.func106 rfl Tryz.ntmps106 (by simp) (fun I0 w0 => ?_)
  repeat (first | (refine sty ?_; try intro _) | (refine st ?_; try intro _) | (refine stz ?_; try intro _) | (refine stq ?_; try intro _))
  refine OpK.call rfl rfl rfl rfl (rcopy_spec B f sv av wrong l f.code hm h32 hs hl) inferInstance (Mr := []) (by rw [List.append_nil]) ?_
  rintro u Φ' Mc' ⟨rfl, rfl, rfl⟩
  dsimp only [List.cons_append, List.nil_append, List.append_nil]
  repeat (first | (refine sty ?_; try intro _) | (refine st ?_; try intro _) | (refine stz ?_; try intro _) | (refine stq ?_; try intro _))
  exact G.fin rfl .nil (Φ' := []) (M' := [_]) inferInstance (List.Sublist.refl _) ⟨rfl, rfl, rfl⟩

end Go.Rail
namespace Go.Rail
open Go Go.Proofs
set_option maxHeartbeats 400000
set_option maxRecDepth 4000
attribute [local irreducible] OpK G W LW wpListIn Exit.then Exit.inBlock Post rounds opRun bodyPostM intOp
set_option maxHeartbeats 1000000
theorem partF_le (s : List UInt8) (a : Word) (n : Nat) : (partF s a n).length ≤ n := by
  unfold partF
  split
  · exact Nat.zero_le _
  · dsimp only
    have : (if a.num < s.length then (s.drop a.num).take n else []).length ≤ n := by
      split
      · exact List.length_take_le _ _
      · exact Nat.zero_le _
    rw [List.length_append, List.length_replicate]
    omega
theorem pieceF_le (m : List UInt8) (a : Word) (n : Nat) : (pieceF m a n).length ≤ n := by
  unfold pieceF
  split
  · exact Nat.zero_le _
  · split
    · exact List.length_take_le _ _
    · exact Nat.zero_le _

theorem rload_spec (B : Nat) (f : Frm) (sv av : Value) (wrong : Int) (o : OR) (l : List Word) (hs : f.stack.length ≤ 1000000) (ho : IsOwn (GoTy.sz Word) sv f.stack.length o) (hx : f.input.length ≤ 1000000000) (hl : 0 < l.length) :
    Fn Tryz.prog 99 [.pointer (some ⟨B, 0, none⟩)] [fRow (ocells o) f.stack, fRp av l] ((B, Ob (runC f sv av wrong) 94) :: ownM 49 o) (RRun B (stkF f (f.stack ++ [wordB (partF f.input l[0] 32)])) av wrong) := by
  have h2 := mpiece_spec f.input l[0] 32 hx
  have h3 := wfb_spec (partF f.input l[0] 32) (Nat.le_trans (partF_le _ _ _) (by decide))
  generalize partF f.input l[0] 32 = q at h2 h3 ⊢
  refine Fn.enter Tryz.func99 rfl Tryz.ntmps99 (by simp) (fun I0 w0 => ?_)
  refine W.bare (G.slice av l ?_)
  intro a1 c1 e1 k1
  subst e1
  repeat (first | (refine sty ?_; try intro _) | (refine st ?_; try intro _) | (refine stz ?_; try intro _) | (refine stq ?_; try intro _))
  refine W.drawA 16 [dq _, dq _, dq _, dq _, dq _, dq _, dq _, dq _, dq _, dk _, dq _, dq _, dq _, dq _, dq _, dq _] [[], [0], [1], [2], [3], [], [5], [6], [7], [8], [9], [4,10], [11], [12], [12], [13]] [14, 15] (hrest := fun c => nrm ?_) (hops := by
    iterate 11 refine AllQ.aq ?_
    refine AllQ.mk (by intro c z0 Φr Lr K; refine nrm ?_; intro hK; refine o_callV rfl rfl rfl rfl h2 rfl ?_; exact hK z0) ?_
    iterate 4 refine AllQ.aq ?_
    exact AllQ.nil)
  repeat (first | (refine sty ?_; try intro _) | (refine st ?_; try intro _) | (refine stz ?_; try intro _) | (refine stq ?_; try intro _))
  refine o_callV rfl rfl rfl rfl h3 rfl ?_
  repeat (first | (refine sty ?_; try intro _) | (refine st ?_; try intro _) | (refine stz ?_; try intro _) | (refine stq ?_; try intro _))
  refine OpK.call rfl rfl rfl rfl (rpush_spec B f sv (.slice a1 l.length c1) wrong o (wordB q) hs ho) inferInstance (Mr := []) (by rw [List.append_nil]) ?_
  rintro u Φ' Mc' ⟨a, c, rfl, rfl, rfl⟩
  dsimp only [List.cons_append, List.nil_append, List.append_nil]
  repeat (first | (refine sty ?_; try intro _) | (refine st ?_; try intro _) | (refine stz ?_; try intro _) | (refine stq ?_; try intro _))
  exact G.fin rfl .nil (Φ' := [fRp (.slice a _ c) _]) (M' := [_]) inferInstance (List.Sublist.refl _) ⟨a, c, rfl, rfl, rfl⟩

theorem ract6_spec (B : Nat) (f : Frm) (sv av : Value) (wrong : Int) (o : OR) (l : List Word) (hs : f.stack.length ≤ 1000000) (ho : IsOwn (GoTy.sz Word) sv f.stack.length o) (hm : f.mem.length ≤ 1048576) (h32 : f.mem.length % 32 = 0) (hl : 0 < l.length) :
    Fn Tryz.prog 109 [.pointer (some ⟨B, 0, none⟩)] [fRow (ocells o) f.stack, fRp av l] ((B, Ob (runC f sv av wrong) 94) :: ownM 49 o) (RRun B (stkF f (f.stack ++ [wordB (pieceF f.mem l[0] 32)])) av wrong) := by
  have h2 := fun av => rat_spec B f sv av wrong l[0] 32 hm h32 (by decide)
  have h3 := wfb_spec (pieceF f.mem l[0] 32) (Nat.le_trans (pieceF_le _ _ _) (by decide))
  generalize pieceF f.mem l[0] 32 = q at h2 h3 ⊢
  refine Fn.enter Tryz.func109 rfl Tryz.ntmps109 (by simp) (fun I0 w0 => ?_)
  refine W.bare (G.slice av l ?_)
  intro a1 c1 e1 k1
  subst e1
  repeat (first | (refine sty ?_; try intro _) | (refine st ?_; try intro _) | (refine stz ?_; try intro _) | (refine stq ?_; try intro _))
  refine OpK.call rfl rfl rfl rfl (h2 _) inferInstance (Mr := ownM 49 o) (List.Perm.refl _) ?_
  rintro u Φ' Mc' ⟨rfl, rfl, rfl⟩
  dsimp only [List.cons_append, List.nil_append, List.append_nil]
  repeat (first | (refine sty ?_; try intro _) | (refine st ?_; try intro _) | (refine stz ?_; try intro _) | (refine stq ?_; try intro _))
  refine o_callV rfl rfl rfl rfl h3 rfl ?_
  repeat (first | (refine sty ?_; try intro _) | (refine st ?_; try intro _) | (refine stz ?_; try intro _) | (refine stq ?_; try intro _))
  refine OpK.call rfl rfl rfl rfl (rpush_spec B f sv (.slice a1 l.length c1) wrong o (wordB q) hs ho) inferInstance (Mr := []) (by rw [List.append_nil]) ?_
  rintro u Φ' Mc' ⟨a, c, rfl, rfl, rfl⟩
  dsimp only [List.cons_append, List.nil_append, List.append_nil]
  repeat (first | (refine sty ?_; try intro _) | (refine st ?_; try intro _) | (refine stz ?_; try intro _) | (refine stq ?_; try intro _))
  exact G.fin rfl .nil (Φ' := [fRp (.slice a _ c) _]) (M' := [_]) inferInstance (List.Sublist.refl _) ⟨a, c, rfl, rfl, rfl⟩

theorem ract7_spec (B : Nat) (f : Frm) (sv av : Value) (wrong : Int) (l : List Word) (hm : f.mem.length ≤ 1048576) (h32 : f.mem.length % 32 = 0) (hl : 1 < l.length) :
    Fn Tryz.prog 112 [.pointer (some ⟨B, 0, none⟩)] [fRp av l] [(B, Ob (runC f sv av wrong) 94)] (RKeep B (runC (memF f (putF f.mem (numF (l.getD 0 .zero)) (byN (l.getD 1 .zero).num))) sv av wrong)) := by
  have h1 := wbytes_spec l[1]
  have h3 := fun av => rput_spec B f sv av wrong l (byN l[1].num) hm h32 (by rw [byN_len]; decide) (by omega)
  rw [getD_at l 1 hl]
  generalize byN l[1].num = q at h1 h3 ⊢
  refine Fn.enter Tryz.func112 rfl Tryz.ntmps112 (by simp) (fun I0 w0 => ?_)
  refine W.bare (G.slice av l ?_)
  intro a1 c1 e1 k1
  subst e1
  repeat (first | (refine sty ?_; try intro _) | (refine st ?_; try intro _) | (refine stz ?_; try intro _) | (refine stq ?_; try intro _))
  refine o_callV rfl rfl rfl rfl h1 rfl ?_
  repeat (first | (refine sty ?_; try intro _) | (refine st ?_; try intro _) | (refine stz ?_; try intro _) | (refine stq ?_; try intro _))
  refine OpK.call rfl rfl rfl rfl (h3 _) inferInstance (Mr := []) (by rw [List.append_nil]) ?_
  rintro u Φ' Mc' ⟨rfl, rfl, rfl⟩
  dsimp only [List.cons_append, List.nil_append, List.append_nil]
  repeat (first | (refine sty ?_; try intro _) | (refine st ?_; try intro _) | (refine stz ?_; try intro _) | (refine stq ?_; try intro _))
  exact G.fin rfl .nil (Φ' := []) (M' := [_]) inferInstance (List.Sublist.refl _) ⟨rfl, rfl, rfl⟩

theorem rtold_spec (B : Nat) (f : Frm) (sv av : Value) (l : List Word) (hm : f.mem.length ≤ 1048576) (h32 : f.mem.length % 32 = 0) (hr : f.ret.length ≤ 1048576) (hl : 2 < l.length) :
    Fn Tryz.prog 108 [.pointer (some ⟨B, 0, none⟩)] [fRp av l] [(B, Ob (runC f sv av 0) 94)] (fun u Φ' M' => u = .tuple #[] ∧ Φ' = [] ∧ ∃ p : Frm × Int, p = (if f.ret.length < numF (l.getD 1 .zero) + numF (l.getD 2 .zero) then (f, 45) else copyF f f.ret l) ∧ M' = [(B, Ob (runC p.1 sv av p.2) 94)]) := by
  have h1 := number_spec l[1]
  have h2 := number_spec l[2]
  have hb1 : numF l[1] ≤ 1099511627776 := Nat.min_le_right _ _
  have hb2 : numF l[2] ≤ 1099511627776 := Nat.min_le_right _ _
  have h3 := fun av => rcopy_spec B f sv av 0 l f.ret hm h32 (by omega) hl
  rw [getD_at l 1 (by omega), getD_at l 2 hl]
  generalize numF l[1] = n1 at h1 hb1 ⊢
  generalize numF l[2] = n2 at h2 hb2 ⊢
  by_cases hc : f.ret.length < n1 + n2
  · rw [if_pos hc]
    refine Fn.enter Tryz.func108 rfl Tryz.ntmps108 (by simp) (fun I0 w0 => ?_)
    refine W.bare (G.slice av l ?_)
    intro a1 c1 e1 k1
    subst e1
    repeat (first | (refine sty ?_; try intro _) | (refine st ?_; try intro _) | (refine stz ?_; try intro _) | (refine stq ?_; try intro _))
    refine W.drawA 21 [dq _, dq _, dq _, dq _, dk _, dq _, dq _, dq _, dq _, dq _, dq _, dk _, dq _, dq _, dq _, dq _, dq _, dq _, dq _, dq _, dq _] [[], [0], [1], [2], [3], [4], [5], [], [7], [8], [9], [10], [11], [12], [6,13], [], [15], [16], [17], [18], [19]] [14, 20] (hrest := fun c => nrm ?_) (hops := by
      iterate 6 refine AllQ.aq ?_
      refine AllQ.mk (by intro c z0 Φr Lr K; refine nrm ?_; intro hK; refine o_callV rfl rfl rfl rfl h1 rfl ?_; exact hK z0) ?_
      iterate 6 refine AllQ.aq ?_
      refine AllQ.mk (by intro c z0 Φr Lr K; refine nrm ?_; intro hK; refine o_callV rfl rfl rfl rfl h2 rfl ?_; exact hK z0) ?_
      iterate 7 refine AllQ.aq ?_
      exact AllQ.nil)
    repeat (first | (refine sty ?_; try intro _) | (refine st ?_; try intro _) | (refine stz ?_; try intro _) | (refine stq ?_; try intro _))
    exact G.ret rfl .nil (Φ' := []) (M' := [_]) inferInstance (List.Sublist.refl _) ⟨rfl, rfl, (f, 45), rfl, rfl⟩
  · rw [if_neg hc]
    refine Fn.enter Tryz.func108 rfl Tryz.ntmps108 (by simp) (fun I0 w0 => ?_)
    refine W.bare (G.slice av l ?_)
    intro a1 c1 e1 k1
    subst e1
    repeat (first | (refine sty ?_; try intro _) | (refine st ?_; try intro _) | (refine stz ?_; try intro _) | (refine stq ?_; try intro _))
    refine W.drawA 21 [dq _, dq _, dq _, dq _, dk _, dq _, dq _, dq _, dq _, dq _, dq _, dk _, dq _, dq _, dq _, dq _, dq _, dq _, dq _, dq _, dq _] [[], [0], [1], [2], [3], [4], [5], [], [7], [8], [9], [10], [11], [12], [6,13], [], [15], [16], [17], [18], [19]] [14, 20] (hrest := fun c => nrm ?_) (hops := by
      iterate 6 refine AllQ.aq ?_
      refine AllQ.mk (by intro c z0 Φr Lr K; refine nrm ?_; intro hK; refine o_callV rfl rfl rfl rfl h1 rfl ?_; exact hK z0) ?_
      iterate 6 refine AllQ.aq ?_
      refine AllQ.mk (by intro c z0 Φr Lr K; refine nrm ?_; intro hK; refine o_callV rfl rfl rfl rfl h2 rfl ?_; exact hK z0) ?_
      iterate 7 refine AllQ.aq ?_
      exact AllQ.nil)
    repeat (first | (refine sty ?_; try intro _) | (refine st ?_; try intro _) | (refine stz ?_; try intro _) | (refine stq ?_; try intro _))
    refine OpK.call rfl rfl rfl rfl (h3 _) inferInstance (Mr := []) (by rw [List.append_nil]) ?_
    rintro u Φ' Mc' ⟨rfl, rfl, rfl⟩
    dsimp only [List.cons_append, List.nil_append, List.append_nil]
    repeat (first | (refine sty ?_; try intro _) | (refine st ?_; try intro _) | (refine stz ?_; try intro _) | (refine stq ?_; try intro _))
    exact G.fin rfl .nil (Φ' := []) (M' := [_]) inferInstance (List.Sublist.refl _) ⟨rfl, rfl, copyF f f.ret l, rfl, rfl⟩

end Go.Rail
