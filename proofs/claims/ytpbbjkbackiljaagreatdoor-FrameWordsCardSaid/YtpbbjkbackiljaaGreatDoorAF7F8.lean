/- The runner's methods. -/
import Derived.Test.YtpbbjkbackiljaaGreatDoorAF1F6
set_option linter.unusedSimpArgs false
set_option linter.unusedVariables false
namespace Go.Rail
open Go Go.Proofs
set_option maxHeartbeats 400000
set_option maxRecDepth 4000
attribute [local irreducible] OpK G W LW wpListIn Exit.then Exit.inBlock Post rounds opRun bodyPostM intOp
set_option maxHeartbeats 1000000
abbrev runC (f : Frm) (sv av : Value) (wrong : Int) : List Value := [.string (ba f.code), .string (ba f.input), .int .i64 f.pc, sv, .string (ba f.mem), .int .i64 f.gas, .string (ba f.ret), .int .i64 f.status, .int .i64 f.errno, .string (ba f.out), av, .int .i64 wrong]
def RRun (B : Nat) (f : Frm) (av : Value) (wrong : Int) : Value → List Fa → Own → Prop := fun u Φ' M' => ∃ a c, u = .tuple #[] ∧ Φ' = [fRp (.slice a f.stack.length c) f.stack] ∧ M' = [(B, Ob (runC f (.slice a f.stack.length c) av wrong) 94)]
theorem rpush_spec (B : Nat) (f : Frm) (sv av : Value) (wrong : Int) (o : OR) (w : Word) (hs : f.stack.length ≤ 1000000) (ho : IsOwn (GoTy.sz Word) sv f.stack.length o) :
    Fn Tryz.prog 58 [.pointer (some ⟨B, 0, none⟩), w.v] [fRow (ocells o) f.stack] ((B, Ob (runC f sv av wrong) 94) :: ownM 49 o) (RRun B { f with stack := f.stack ++ [w] } av wrong) := by
  refine Fn.enter Tryz.func58 rfl Tryz.ntmps58 (by simp) (fun I0 w0 => ?_)
  obtain ⟨a0, c0, rfl⟩ := own_open ho
  repeat (first | (refine sty ?_; try intro _) | (refine st ?_; try intro _) | (refine stz ?_; try intro _) | (refine stq ?_; try intro _))
  rename_i b3
  refine W.drawMx 9 8 (fun z => (b3, Ob (cellsL w.v) 49) :: (B, Ob (runC f (.slice a0 f.stack.length c0) av wrong) 94) :: ownM 49 (co z)) [dq _, dq _, dq _, dq _, dq _, dq _, dq _, dk fun _ z => fRp z [w], ⟨fun _ z => cv z, fun _ z => [fPure (IsOwn (GoTy.sz Word) (cv z) (f.stack ++ [w]).length (co z)), fRow (ocells (co z)) (f.stack ++ [w])]⟩] [[], [], [1], [2], [3], [4], [], [6], [5,7]] [0, 8] (hrest := fun c => nrmX ?_) (hops := by
    refine AllX.a01 ?_ rfl (by intro c z0 Φr Lr K; refine nrmX ?_; intro hK; (first | refine sty ?_ | refine st ?_ | refine stz ?_ | refine stq ?_); (first | exact hK z0 | exact hK | exact fun b => hK (.int .i64 (b : Int)))) (by intro c z0 Φr Lr K; refine nrmX ?_; intro hK; (first | refine sty ?_ | refine st ?_ | refine stz ?_ | refine stq ?_); (first | exact hK z0 | exact hK | exact fun b => hK (.int .i64 (b : Int))))
    refine AllX.a0 ?_ rfl (by kernel_rfl) (by intro c z0 Φr Lr K; refine nrmX ?_; intro hK; (first | refine sty ?_ | refine st ?_ | refine stz ?_ | refine stq ?_); (first | exact hK z0 | exact hK | exact fun b => hK (.int .i64 (b : Int))))
    refine AllX.a0 ?_ rfl (by kernel_rfl) (by intro c z0 Φr Lr K; refine nrmX ?_; intro hK; (first | refine sty ?_ | refine st ?_ | refine stz ?_ | refine stq ?_); (first | exact hK z0 | exact hK | exact fun b => hK (.int .i64 (b : Int))))
    refine AllX.a0 ?_ rfl (by kernel_rfl) (by intro c z0 Φr Lr K; refine nrmX ?_; intro hK; (first | refine sty ?_ | refine st ?_ | refine stz ?_ | refine stq ?_); (first | exact hK z0 | exact hK | exact fun b => hK (.int .i64 (b : Int))))
    refine AllX.a0 ?_ rfl (by kernel_rfl) (by intro c z0 Φr Lr K; refine nrmX ?_; intro hK; (first | refine sty ?_ | refine st ?_ | refine stz ?_ | refine stq ?_); (first | exact hK z0 | exact hK | exact fun b => hK (.int .i64 (b : Int))))
    refine AllX.a0 ?_ rfl (by kernel_rfl) (by intro c z0 Φr Lr K; refine nrmX ?_; intro hK; (first | refine sty ?_ | refine st ?_ | refine stz ?_ | refine stq ?_); (first | exact hK z0 | exact hK | exact fun b => hK (.int .i64 (b : Int))))
    refine AllX.a0 ?_ rfl (by kernel_rfl) (by intro c z0 Φr Lr K; refine nrmX ?_; intro hK; (first | refine sty ?_ | refine st ?_ | refine stz ?_ | refine stq ?_); (first | exact hK z0 | exact hK | exact fun b => hK (.int .i64 (b : Int))))
    refine AllX.a0 ?_ rfl (by kernel_rfl) (by intro c z0 Φr Lr K; refine nrmX ?_; intro hK; (first | refine sty ?_ | refine st ?_ | refine stz ?_ | refine stq ?_); intro p; exact hK p)
    refine AllX.ai ?_ (by intro c z0 Φr Lr K; refine nrmX ?_; intro hK; refine o_app2 (Mr := [_, _]) o (xs := f.stack) (ys := [w]) ho ⟨by simp; omega, by simp; omega, rfl⟩ rfl rfl rfl rfl inferInstance inferInstance (List.Perm.refl _) ?_; intro v' o' hown'; have hk := hK (codeO v' o'); simp only [cv_code, co_code] at hk; refine G.learn (fPure (IsOwn (GoTy.sz Word) v' _ o')) (e := ⟨fun _ _ => hown'⟩) ?_; exact hk)
    exact AllX.end)
  refine LW.bare (G.use (p := IsOwn (GoTy.sz Word) (cv (c 8)) (f.stack ++ [w]).length (co (c 8))) (fun I hp => hp (fPure _) (.head _)) ?_)
  intro hown
  generalize cv (c 8) = v1 at hown ⊢
  generalize co (c 8) = o1 at hown ⊢
  obtain ⟨a1, c1, rfl⟩ := own_open hown
  repeat (first | (refine sty ?_; try intro _) | (refine st ?_; try intro _) | (refine stz ?_; try intro _) | (refine stq ?_; try intro _))
  refine G.giveOwn2 (.slice a1 (f.stack ++ [w]).length c1) (f.stack ++ [w]) o1 49 (Mr := [_, _]) hown inferInstance (List.Perm.refl _) ?_
  exact G.fin rfl .nil (Φ' := [fRp (.slice a1 (f.stack ++ [w]).length c1) (f.stack ++ [w])]) (M' := [_]) inferInstance (.cons _ (List.Sublist.refl _)) ⟨a1, c1, rfl, rfl, rfl⟩
end Go.Rail
namespace Go.Rail
open Go Go.Proofs
set_option maxHeartbeats 400000
set_option maxRecDepth 4000
attribute [local irreducible] OpK G W LW wpListIn Exit.then Exit.inBlock Post rounds opRun bodyPostM intOp
set_option maxHeartbeats 1000000
abbrev memF (f : Frm) (m : List UInt8) : Frm := { f with mem := m }
theorem mslice_gen (m : List UInt8) (at_ n : Nat) (hm : m.length ≤ 1048576) (h32 : m.length % 32 = 0) : FnV Tryz.prog 189 [.string (ba m), .int .i64 (at_ : Int), .int .i64 (n : Int)] [] (.tuple #[.string (ba (if at_ + n ≤ m.length then (m.drop at_).take n else [])), .int .i64 (if at_ + n ≤ m.length then 0 else 1)]) := by
  by_cases h : at_ + n ≤ m.length
  · rw [if_pos h, if_pos h]; exact mslice_spec m at_ n hm h32 h
  rw [if_neg h, if_neg h]
  have h1 := there_spec m at_ n (by omega)
  rw [decide_eq_false (by omega)] at h1
  refine Fn.enter Tryz.func189 rfl Tryz.ntmps189 (by simp) (fun I0 w0 => ?_)
  repeat (first | (refine sty ?_; try intro _) | (refine st ?_; try intro _) | (refine stz ?_; try intro _) | (refine stq ?_; try intro _))
  refine o_callV rfl rfl rfl rfl h1 rfl ?_
  repeat (first | (refine sty ?_; try intro _) | (refine st ?_; try intro _) | (refine stz ?_; try intro _) | (refine stq ?_; try intro _))
  refine G.retV ?_
  rfl
theorem mcopy_gen (m s : List UInt8) (at_ : Nat) (hm : m.length ≤ 1048576) (h32 : m.length % 32 = 0) (hs : s.length ≤ 1000000000) : FnV Tryz.prog 191 [.string (ba m), .int .i64 (at_ : Int), .string (ba s)] [] (.tuple #[.string (ba (if at_ + s.length ≤ m.length then m.take at_ ++ s ++ m.drop (at_ + s.length) else m)), .int .i64 (if at_ + s.length ≤ m.length then 0 else 1)]) := by
  by_cases h : at_ + s.length ≤ m.length
  · rw [if_pos h, if_pos h]; exact mcopy_spec m s at_ hm h32 h
  rw [if_neg h, if_neg h]
  have h1 := there_spec m at_ s.length (by omega)
  rw [decide_eq_false (by omega)] at h1
  refine Fn.enter Tryz.func191 rfl Tryz.ntmps191 (by simp) (fun I0 w0 => ?_)
  repeat (first | (refine sty ?_; try intro _) | (refine st ?_; try intro _) | (refine stz ?_; try intro _) | (refine stq ?_; try intro _))
  refine o_callV rfl rfl rfl rfl h1 rfl ?_
  repeat (first | (refine sty ?_; try intro _) | (refine st ?_; try intro _) | (refine stz ?_; try intro _) | (refine stq ?_; try intro _))
  refine G.retV ?_
  rfl
def RKeep (B : Nat) (cs : List Value) : Value → List Fa → Own → Prop := fun u Φ' M' => u = .tuple #[] ∧ Φ' = [] ∧ M' = [(B, Ob cs 94)]
theorem rstop_spec (B : Nat) (f : Frm) (sv av : Value) (wrong : Int) (h1 : 0 ≤ f.pc) (h2 : f.pc ≤ 9223372036854775806) :
    Fn Tryz.prog 94 [.pointer (some ⟨B, 0, none⟩)] [] [(B, Ob (runC f sv av wrong) 94)] (RKeep B (runC { f with status := 1, pc := f.pc - 1 } sv av wrong)) := by
  refine Fn.enter Tryz.func94 rfl Tryz.ntmps94 (by simp) (fun I0 w0 => ?_)
  repeat (first | (refine sty ?_; try intro _) | (refine st ?_; try intro _) | (refine stz ?_; try intro _) | (refine stq ?_; try intro _))
  exact G.fin rfl .nil (Φ' := []) (M' := [_]) inferInstance (List.Sublist.refl _) ⟨rfl, rfl, rfl⟩
theorem rat_spec (B : Nat) (f : Frm) (sv av : Value) (wrong : Int) (w : Word) (n : Nat) (hm : f.mem.length ≤ 1048576) (h32 : f.mem.length % 32 = 0) (hn : n ≤ 1099511627776) :
    Fn Tryz.prog 110 [.pointer (some ⟨B, 0, none⟩), w.v, .int .i64 (n : Int)] [] [(B, Ob (runC f sv av wrong) 94)] (fun u Φ' M' => u = .string (ba (pieceF f.mem w n)) ∧ Φ' = [] ∧ M' = [(B, Ob (runC f sv av wrong) 94)]) := by
  have h1 := number_spec w
  have h2 := mslice_gen f.mem (numF w) n hm h32
  unfold pieceF
  generalize numF w = a at h1 h2 ⊢
  by_cases h0 : n = 0
  · subst h0
    rw [if_pos rfl]
    refine Fn.enter Tryz.func110 rfl Tryz.ntmps110 (by simp) (fun I0 w0 => ?_)
    repeat (first | (refine sty ?_; try intro _) | (refine st ?_; try intro _) | (refine stz ?_; try intro _) | (refine stq ?_; try intro _))
    exact G.ret rfl (.cons (.tmp rfl) .nil) (Φ' := []) (M' := [_]) inferInstance (by first | exact List.Sublist.refl _ | exact .cons _ (List.Sublist.refl _)) ⟨rfl, rfl, rfl⟩
  · rw [if_neg h0]
    generalize hq : (if a + n ≤ f.mem.length then (f.mem.drop a).take n else []) = q at h2 ⊢
    refine Fn.enter Tryz.func110 rfl Tryz.ntmps110 (by simp) (fun I0 w0 => ?_)
    repeat (first | (refine sty ?_; try intro _) | (refine st ?_; try intro _) | (refine stz ?_; try intro _) | (refine stq ?_; try intro _))
    refine W.drawA 13 [dq _, dq _, dq _, dq _, dq _, dq _, dq _, dq _, dq _, dq _, dq _, dq _, dq _] [[], [0], [1], [2], [3], [], [5], [], [4,6,7], [8], [9], [9], [10]] [11, 12] (hrest := fun c => nrm ?_) (hops := by
      iterate 6 refine AllQ.aq ?_
      refine AllQ.mk (by intro c z0 Φr Lr K; refine nrm ?_; intro hK; refine o_callV rfl rfl rfl rfl h1 rfl ?_; exact hK z0) ?_
      iterate 1 refine AllQ.aq ?_
      refine AllQ.mk (by intro c z0 Φr Lr K; refine nrm ?_; intro hK; refine o_callV rfl rfl rfl rfl h2 rfl ?_; exact hK z0) ?_
      iterate 4 refine AllQ.aq ?_
      exact AllQ.nil)
    repeat (first | (refine sty ?_; try intro _) | (refine st ?_; try intro _) | (refine stz ?_; try intro _) | (refine stq ?_; try intro _))
    exact G.ret rfl (.cons (.tmp rfl) .nil) (Φ' := []) (M' := [_]) inferInstance (by first | exact List.Sublist.refl _ | exact .cons _ (List.Sublist.refl _)) ⟨rfl, rfl, rfl⟩
theorem rput_spec (B : Nat) (f : Frm) (sv av : Value) (wrong : Int) (l : List Word) (s : List UInt8) (hm : f.mem.length ≤ 1048576) (h32 : f.mem.length % 32 = 0) (hs : s.length ≤ 1000000000) (hl : 0 < l.length) :
    Fn Tryz.prog 113 [.pointer (some ⟨B, 0, none⟩), .string (ba s)] [fRp av l] [(B, Ob (runC f sv av wrong) 94)] (RKeep B (runC { f with mem := putF f.mem (numF (l.getD 0 .zero)) s } sv av wrong)) := by
  have e0 : l.getD 0 .zero = l[0] := by rw [List.getD_eq_getElem?_getD, List.getElem?_eq_getElem hl]; rfl
  rw [e0]
  have h1 := number_spec l[0]
  have h2 := mcopy_gen f.mem s (numF l[0]) hm h32 hs
  unfold putF
  generalize numF l[0] = a at h1 h2 ⊢
  by_cases h0 : s = []
  · subst h0
    rw [if_pos rfl]
    refine Fn.enter Tryz.func113 rfl Tryz.ntmps113 (by simp) (fun I0 w0 => ?_)
    repeat (first | (refine sty ?_; try intro _) | (refine st ?_; try intro _) | (refine stz ?_; try intro _) | (refine stq ?_; try intro _))
    exact G.fin rfl .nil (Φ' := []) (M' := [_]) inferInstance (List.Sublist.refl _) ⟨rfl, rfl, rfl⟩
  · rw [if_neg h0]
    generalize hq : (if a + s.length ≤ f.mem.length then f.mem.take a ++ s ++ f.mem.drop (a + s.length) else f.mem) = q at h2 ⊢
    refine Fn.enter Tryz.func113 rfl Tryz.ntmps113 (by simp) (fun I0 w0 => ?_)
    refine W.bare (G.slice av l ?_)
    intro a1 c1 e1 k1
    subst e1
    repeat (first | (refine sty ?_; try intro _) | (refine st ?_; try intro _) | (refine stz ?_; try intro _) | (refine stq ?_; try intro _))
    refine W.drawSt 22 21 B (Ob (runC (memF f q) sv (.slice a1 l.length c1) wrong) 94) [dq _, dq _, dq _, dq _, dq _, dq _, dq _, dq _, dq _, dq _, dk _, dq _, dq _, dq _, dq _, dq _, dq _, dq _, dq _, dq _, dq _, (dq fun _ _ => .bool false)] [[], [], [1], [2], [3], [4], [], [6], [7], [8], [9], [10], [11], [], [5,12,13], [14], [15], [15], [0], [18], [19], [16,20]] [] (hrest := fun c => nrmX ?_) (hops := by
      refine AllX.a0 ?_ rfl (by kernel_rfl) (by intro c z0 Φr Lr K; refine nrmX ?_; intro hK; (first | refine sty ?_ | refine st ?_ | refine stz ?_ | refine stq ?_); (first | exact hK z0 | exact hK | exact fun b => hK (.int .i64 (b : Int))))
      refine AllX.a0 ?_ rfl (by kernel_rfl) (by intro c z0 Φr Lr K; refine nrmX ?_; intro hK; (first | refine sty ?_ | refine st ?_ | refine stz ?_ | refine stq ?_); (first | exact hK z0 | exact hK | exact fun b => hK (.int .i64 (b : Int))))
      refine AllX.a0 ?_ rfl (by kernel_rfl) (by intro c z0 Φr Lr K; refine nrmX ?_; intro hK; (first | refine sty ?_ | refine st ?_ | refine stz ?_ | refine stq ?_); (first | exact hK z0 | exact hK | exact fun b => hK (.int .i64 (b : Int))))
      refine AllX.a0 ?_ rfl (by kernel_rfl) (by intro c z0 Φr Lr K; refine nrmX ?_; intro hK; (first | refine sty ?_ | refine st ?_ | refine stz ?_ | refine stq ?_); (first | exact hK z0 | exact hK | exact fun b => hK (.int .i64 (b : Int))))
      refine AllX.a0 ?_ rfl (by kernel_rfl) (by intro c z0 Φr Lr K; refine nrmX ?_; intro hK; (first | refine sty ?_ | refine st ?_ | refine stz ?_ | refine stq ?_); (first | exact hK z0 | exact hK | exact fun b => hK (.int .i64 (b : Int))))
      refine AllX.a0 ?_ rfl (by kernel_rfl) (by intro c z0 Φr Lr K; refine nrmX ?_; intro hK; (first | refine sty ?_ | refine st ?_ | refine stz ?_ | refine stq ?_); (first | exact hK z0 | exact hK | exact fun b => hK (.int .i64 (b : Int))))
      refine AllX.a0 ?_ rfl (by kernel_rfl) (by intro c z0 Φr Lr K; refine nrmX ?_; intro hK; (first | refine sty ?_ | refine st ?_ | refine stz ?_ | refine stq ?_); (first | exact hK z0 | exact hK | exact fun b => hK (.int .i64 (b : Int))))
      refine AllX.a0 ?_ rfl (by kernel_rfl) (by intro c z0 Φr Lr K; refine nrmX ?_; intro hK; (first | refine sty ?_ | refine st ?_ | refine stz ?_ | refine stq ?_); (first | exact hK z0 | exact hK | exact fun b => hK (.int .i64 (b : Int))))
      refine AllX.a0 ?_ rfl (by kernel_rfl) (by intro c z0 Φr Lr K; refine nrmX ?_; intro hK; (first | refine sty ?_ | refine st ?_ | refine stz ?_ | refine stq ?_); (first | exact hK z0 | exact hK | exact fun b => hK (.int .i64 (b : Int))))
      refine AllX.a0 ?_ rfl (by kernel_rfl) (by intro c z0 Φr Lr K; refine nrmX ?_; intro hK; (first | refine sty ?_ | refine st ?_ | refine stz ?_ | refine stq ?_); (first | exact hK z0 | exact hK | exact fun b => hK (.int .i64 (b : Int))))
      refine AllX.a0 ?_ rfl (by kernel_rfl) (by intro c z0 Φr Lr K; refine nrmX ?_; intro hK; (first | refine sty ?_ | refine st ?_ | refine stz ?_ | refine stq ?_); (first | exact hK z0 | exact hK | exact fun b => hK (.int .i64 (b : Int))))
      refine AllX.a0 ?_ rfl (by kernel_rfl) (by intro c z0 Φr Lr K; refine nrmX ?_; intro hK; (first | refine sty ?_ | refine st ?_ | refine stz ?_ | refine stq ?_); (first | exact hK z0 | exact hK | exact fun b => hK (.int .i64 (b : Int))))
      refine AllX.a0 ?_ rfl (by kernel_rfl) (by intro c z0 Φr Lr K; refine nrmX ?_; intro hK; refine o_callV rfl rfl rfl rfl h1 rfl ?_; exact hK z0)
      refine AllX.a0 ?_ rfl (by kernel_rfl) (by intro c z0 Φr Lr K; refine nrmX ?_; intro hK; (first | refine sty ?_ | refine st ?_ | refine stz ?_ | refine stq ?_); (first | exact hK z0 | exact hK | exact fun b => hK (.int .i64 (b : Int))))
      refine AllX.a0 ?_ rfl (by kernel_rfl) (by intro c z0 Φr Lr K; refine nrmX ?_; intro hK; refine o_callV rfl rfl rfl rfl h2 rfl ?_; exact hK z0)
      refine AllX.a0 ?_ rfl (by kernel_rfl) (by intro c z0 Φr Lr K; refine nrmX ?_; intro hK; (first | refine sty ?_ | refine st ?_ | refine stz ?_ | refine stq ?_); (first | exact hK z0 | exact hK | exact fun b => hK (.int .i64 (b : Int))))
      refine AllX.a0 ?_ rfl (by kernel_rfl) (by intro c z0 Φr Lr K; refine nrmX ?_; intro hK; (first | refine sty ?_ | refine st ?_ | refine stz ?_ | refine stq ?_); (first | exact hK z0 | exact hK | exact fun b => hK (.int .i64 (b : Int))))
      refine AllX.a01 ?_ rfl (by intro c z0 Φr Lr K; refine nrmX ?_; intro hK; (first | refine sty ?_ | refine st ?_ | refine stz ?_ | refine stq ?_); (first | exact hK z0 | exact hK | exact fun b => hK (.int .i64 (b : Int)))) (by intro c z0 Φr Lr K; refine nrmX ?_; intro hK; (first | refine sty ?_ | refine st ?_ | refine stz ?_ | refine stq ?_); (first | exact hK z0 | exact hK | exact fun b => hK (.int .i64 (b : Int))))
      refine AllX.a0 ?_ rfl (by kernel_rfl) (by intro c z0 Φr Lr K; refine nrmX ?_; intro hK; (first | refine sty ?_ | refine st ?_ | refine stz ?_ | refine stq ?_); (first | exact hK z0 | exact hK | exact fun b => hK (.int .i64 (b : Int))))
      refine AllX.a0 ?_ rfl (by kernel_rfl) (by intro c z0 Φr Lr K; refine nrmX ?_; intro hK; (first | refine sty ?_ | refine st ?_ | refine stz ?_ | refine stq ?_); (first | exact hK z0 | exact hK | exact fun b => hK (.int .i64 (b : Int))))
      refine AllX.a0 ?_ rfl (by kernel_rfl) (by intro c z0 Φr Lr K; refine nrmX ?_; intro hK; (first | refine sty ?_ | refine st ?_ | refine stz ?_ | refine stq ?_); (first | exact hK z0 | exact hK | exact fun b => hK (.int .i64 (b : Int))))
      refine AllX.ai ?_ (by intro c z0 Φr Lr K; refine nrmX ?_; intro hK; (first | refine sty ?_ | refine st ?_ | refine stz ?_ | refine stq ?_); (first | exact hK z0 | exact hK | exact fun b => hK (.int .i64 (b : Int))))
      exact AllX.end)
    repeat (first | (refine sty ?_; try intro _) | (refine st ?_; try intro _) | (refine stz ?_; try intro _) | (refine stq ?_; try intro _))
    exact G.fin rfl .nil (Φ' := []) (M' := [_]) inferInstance (List.Sublist.refl _) ⟨rfl, rfl, rfl⟩
end Go.Rail
