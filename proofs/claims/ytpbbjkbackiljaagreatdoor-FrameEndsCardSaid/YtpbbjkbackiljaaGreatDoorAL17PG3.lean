/- FrameParts: the walk. -/
import Derived.Test.YtpbbjkbackiljaaGreatDoorAG1G2
namespace Go.Rail
open Go Go.Proofs
set_option linter.unusedSimpArgs false
set_option linter.unusedVariables false
set_option maxHeartbeats 400000
set_option maxRecDepth 4000
attribute [local irreducible] OpK G W LW wpListIn Exit.then Exit.inBlock Post rounds opRun bodyPostM intOp
set_option maxHeartbeats 4000000
theorem parts17_walk (v : Value) (raw : List (Int × Int)) (input : List UInt8) (gas one two : Int) (hok : ∀ a ∈ raw, okR a) (hi : input.length ≤ 4611686018427387904) (hg : -9223372036854775808 ≤ gas) (h1 : -9223372036854775808 ≤ one) (h2 : -9223372036854775808 ≤ two) :
    FnV Tryz.prog 6 [v, .string (ba input), .int .i64 gas, .int .i64 one, .int .i64 two] [fRp v raw, fKc] (.bool true) := by
  have c1 := awake17_spec
  have c2 := fun w => frameR_spec w raw input gas hok hg hi
  have hRt := frmR_Rt raw input gas
  have hfs : (frmR raw input gas).stack = [] := rfl
  generalize frmR raw input gas = f at c2 hRt hfs
  have c3 := pick17_spec one 50 h1 (by decide)
  have c4 := pick17_spec two 50 h2 (by decide)
  have px := pickI_nn one 50 (by decide)
  have py := pickI_nn two 50 (by decide)
  obtain ⟨x, hx⟩ : ∃ x : Nat, pickI one 50 = (x : Int) := ⟨(pickI one 50).toNat, by omega⟩
  obtain ⟨y, hy⟩ : ∃ y : Nat, pickI two 50 = (y : Int) := ⟨(pickI two 50).toNat, by omega⟩
  rw [hx] at c3 px
  rw [hy] at c4 py
  obtain ⟨k1, k2, hnm⟩ := runL_add keccakL x y f
  have lA := runL_law keccakL x f hRt
  have cA := fun w => fRun_spec f w x (by omega) hRt
  have cC := fun w => fRun_spec f w (x + y) (by omega) hRt
  obtain ⟨l1, l2⟩ := runL_le keccakL (x + y) f
  generalize hA : runL keccakL x f = A at *
  obtain ⟨A1, n⟩ := A
  dsimp only at k1 k2 hnm lA
  obtain ⟨rA, _⟩ := lA
  have lB := runL_law keccakL y A1 rA
  have cB := fun w => fRun_spec A1 w y (by omega) rA
  generalize hB : runL keccakL y A1 = B at *
  obtain ⟨B1, m⟩ := B
  dsimp only at k1 k2 hnm lB
  obtain ⟨rB, _⟩ := lB
  have hC : runL keccakL (x + y) f = (B1, n + m) := Prod.ext k1 k2
  rw [hC] at cC l1 l2
  dsimp only at l1 l2
  have cD := fun w => fStep_spec B1 w rB
  have hst := stepL_stay keccakL B1
  generalize hD : stepL keccakL B1 = D at *
  obtain ⟨D1, e⟩ := D
  dsimp only at hst l2
  have cS := fun v u => rsame_spec B1 v u (by have := rB.2.2.2.2.2.2.2.2.1; omega)
  clear hA hB hD hC k1 k2
  refine Fn.enter Tryz.func6 rfl Tryz.ntmps6 (by simp) (fun I0 w0 => ?_)
  refine W.bare (G.slice v raw ?_); intro ad cap e1 k1; subst e1
  refine G.code ?_
  repeat (first | (refine sty ?_; try intro _) | (refine st ?_; try intro _) | (refine stz ?_; try intro _) | (refine stq ?_; try intro _))
  refine o_callV rfl rfl rfl rfl c1 rfl ?_
  repeat (first | (refine sty ?_; try intro _) | (refine st ?_; try intro _) | (refine stz ?_; try intro _) | (refine stq ?_; try intro _))
  refine o_callV rfl rfl rfl rfl (c2 _) rfl ?_
  refine G.learn (fRp (.slice none 0 0) f.stack) (e := ⟨fun I hp => by show Rp I _ _; rw [hfs]; exact Rp.nil none 0⟩) ?_
  repeat (first | (refine sty ?_; try intro _) | (refine st ?_; try intro _) | (refine stz ?_; try intro _) | (refine stq ?_; try intro _))
  refine o_callV rfl rfl rfl rfl c3 rfl ?_
  repeat (first | (refine sty ?_; try intro _) | (refine st ?_; try intro _) | (refine stz ?_; try intro _) | (refine stq ?_; try intro _))
  refine o_callV rfl rfl rfl rfl c4 rfl ?_
  repeat (first | (refine sty ?_; try intro _) | (refine st ?_; try intro _) | (refine stz ?_; try intro _) | (refine stq ?_; try intro _))
  refine OpK.call rfl rfl rfl rfl (cA _) inferInstance (Mr := _) (List.Perm.refl _) ?_
  rintro u Φ' Mc' ⟨a2, k2, rfl, rfl, rfl⟩
  dsimp only [List.cons_append, List.nil_append]
  repeat (first | (refine sty ?_; try intro _) | (refine st ?_; try intro _) | (refine stz ?_; try intro _) | (refine stq ?_; try intro _))
  refine OpK.call rfl rfl rfl rfl (cB _) inferInstance (Mr := _) (List.Perm.refl _) ?_
  rintro u Φ' Mc' ⟨a3, k3, rfl, rfl, rfl⟩
  dsimp only [List.cons_append, List.nil_append]
  repeat (first | (refine sty ?_; try intro _) | (refine st ?_; try intro _) | (refine stz ?_; try intro _) | (refine stq ?_; try intro _))
  refine OpK.call rfl rfl rfl rfl (cC _) inferInstance (Mr := _) (List.Perm.refl _) ?_
  rintro u Φ' Mc' ⟨a4, k4, rfl, rfl, rfl⟩
  dsimp only [List.cons_append, List.nil_append]
  repeat (first | (refine sty ?_; try intro _) | (refine st ?_; try intro _) | (refine stz ?_; try intro _) | (refine stq ?_; try intro _))
  refine OpK.call rfl rfl rfl rfl (cD _) inferInstance (Mr := _) (List.Perm.refl _) ?_
  rintro u Φ' Mc' ⟨a5, k5, rfl, rfl, rfl⟩
  dsimp only [List.cons_append, List.nil_append]
  repeat (first | (refine sty ?_; try intro _) | (refine st ?_; try intro _) | (refine stz ?_; try intro _) | (refine stq ?_; try intro _))
  refine o_callV rfl rfl rfl rfl (cS _ _) rfl ?_
  by_cases hn : n + m = x + y
  · by_cases hx2 : n = x
    · repeat (first | (refine sty ?_; try intro _) | (refine st ?_; try intro _) | (refine stz ?_; try intro _) | (refine stq ?_; try intro _))
      refine G.retV ?_
      rfl
    · have hm0 : m = 0 := by omega
      repeat (first | (refine sty ?_; try intro _) | (refine st ?_; try intro _) | (refine stz ?_; try intro _) | (refine stq ?_; try intro _))
      refine G.retV ?_
      rfl
  · have he := l2 (by omega)
    have hd := hst he
    subst hd
    by_cases hx2 : n = x
    · repeat (first | (refine sty ?_; try intro _) | (refine st ?_; try intro _) | (refine stz ?_; try intro _) | (refine stq ?_; try intro _))
      refine o_callV rfl rfl rfl rfl (cS _ _) rfl ?_
      repeat (first | (refine sty ?_; try intro _) | (refine st ?_; try intro _) | (refine stz ?_; try intro _) | (refine stq ?_; try intro _))
      refine G.retV ?_
      rfl
    · have hm0 : m = 0 := by omega
      repeat (first | (refine sty ?_; try intro _) | (refine st ?_; try intro _) | (refine stz ?_; try intro _) | (refine stq ?_; try intro _))
      refine o_callV rfl rfl rfl rfl (cS _ _) rfl ?_
      repeat (first | (refine sty ?_; try intro _) | (refine st ?_; try intro _) | (refine stz ?_; try intro _) | (refine stq ?_; try intro _))
      refine G.retV ?_
      rfl
end Go.Rail
namespace Go.Rail
open Go Go.Proofs
instance frmTy : GoTy Frm where
  sz := 10
  agg := true
  rep := fun I cs f => ∃ sv, cs = frmC f sv ∧ Rp I sv f.stack
  mono := fun hl ⟨sv, e, h⟩ => ⟨sv, e, h.mono hl⟩
  len := fun ⟨sv, e, h⟩ => by rw [e]; rfl
  one := fun ⟨sv, e, h⟩ => by
    obtain ⟨_, _, rfl, _⟩ := h.slice
    rw [e]; rfl
  agg1 := fun h => by cases h
theorem Rp.frm {I : Imm} {f : Frm} {sv : Value} (h : Rp I sv f.stack) : Rp I (frmV f sv) f := ⟨frmC f sv, rfl, sv, rfl, h⟩
theorem Rp.frm_inv {I : Imm} {f : Frm} {v : Value} (h : Rp I v f) : ∃ sv, v = frmV f sv ∧ Rp I sv f.stack := by
  obtain ⟨cs, hv, sv, rfl, hs⟩ := h
  exact ⟨sv, hv, hs⟩
theorem G.frm {x : Cx} {Φ : List Fa} {L : Env} {M : Own} {F : Act → World → Prop} (v : Value) (f : Frm) [k : Ent' Φ (fRp v f)] (h : ∀ a c, v = frmV f (.slice a f.stack.length c) → G x (fRp (.slice a f.stack.length c) f.stack :: Φ) L M F) : G x Φ L M F := by
  intro I a w hp hk hw
  obtain ⟨sv, e, hs⟩ := Rp.frm_inv (k.h I hp)
  obtain ⟨ad, cap, rfl, _⟩ := hs.slice
  refine h ad cap e I a w (fun ψ hψ => ?_) hk hw
  rcases List.mem_cons.1 hψ with rfl | hψ
  · exact hs
  · exact hp ψ hψ
set_option linter.unusedSimpArgs false
set_option linter.unusedVariables false
set_option maxHeartbeats 400000
set_option maxRecDepth 4000
attribute [local irreducible] OpK G W LW wpListIn Exit.then Exit.inBlock Post rounds opRun bodyPostM intOp
set_option maxHeartbeats 4000000
/-- FrameEnds' second frame: of any code. -/
def anyR (raw : List (Int × Int)) (any input : List UInt8) (gas : Int) : Frm := { frmR raw input gas with code := any.take 200, gas := pickI gas 400 }
theorem anyR_Rt (raw : List (Int × Int)) (any input : List UInt8) (gas : Int) : Rt (anyR raw any input gas) := by
  have h2 := pickI_nn gas 400 (by decide)
  exact new_Rt (by rw [List.length_take]; omega) (by show (input.take 60).length ≤ _; rw [List.length_take]; omega) (by show ((input.take 60).drop _).length ≤ _; rw [List.length_drop, List.length_take]; omega) h2.1 (by omega)
structure EnSt where
  i : Nat
  g : Frm
  a : Option Addr
  c : Nat
theorem ends17_walk (v : Value) (raw : List (Int × Int)) (any input : List UInt8) (gas : Int) (hok : ∀ a ∈ raw, okR a) (hi : input.length ≤ 4611686018427387904) (ha : any.length ≤ 4611686018427387904) (hg : -9223372036854775808 ≤ gas) :
    FnV Tryz.prog 4 [v, .string (ba any), .string (ba input), .int .i64 gas] [fRp v raw, fKc] (.bool true) := by
  have c1 := awake17_spec
  have c2 := fun w => frameR_spec w raw input gas hok hg hi
  have c3 := pick17_spec gas 400 hg (by decide)
  have r1 := frmR_Rt raw input gas
  have r2 := anyR_Rt raw any input gas
  have g1 : (frmR raw input gas).gas ≤ 4000 := by have := pickI_nn gas 4000 (by decide); show pickI gas 4000 ≤ 4000; omega
  have g2 : (anyR raw any input gas).gas ≤ 4000 := by have := pickI_nn gas 400 (by decide); show pickI gas 400 ≤ 4000; omega
  have s1 : (frmR raw input gas).stack = [] := rfl
  have s2 : (anyR raw any input gas).stack = [] := rfl
  have hgx : anyR raw any input gas = { frmR raw input gas with code := any.take 200, gas := pickI gas 400 } := rfl
  generalize anyR raw any input gas = g at r2 g2 s2 hgx
  generalize frmR raw input gas = f at c2 r1 g1 s1 hgx
  generalize pickI gas 400 = gg at c3 hgx
  obtain ⟨n2, hn2⟩ : ∃ n, n = min any.length 200 := ⟨_, rfl⟩
  have hin : (any.take n2).drop 0 = any.take 200 := by
    rw [List.drop_zero, hn2]
    by_cases h : any.length ≤ 200
    · rw [Nat.min_eq_left h, List.take_of_length_le h, List.take_of_length_le (Nat.le_refl _)]
    · rw [Nat.min_eq_right (by omega)]
  generalize any.take 200 = cd at hin hgx
  refine Fn.enter Tryz.func4 rfl Tryz.ntmps4 (by simp) (fun I0 w0 => ?_)
  refine W.bare (G.slice v raw ?_); intro ad cap e1 k1; subst e1
  refine G.code ?_
  repeat (first | (refine sty ?_; try intro _) | (refine st ?_; try intro _) | (refine stz ?_; try intro _) | (refine stq ?_; try intro _))
  refine o_callV rfl rfl rfl rfl c1 rfl ?_
  repeat (first | (refine sty ?_; try intro _) | (refine st ?_; try intro _) | (refine stz ?_; try intro _) | (refine stq ?_; try intro _))
  refine o_callV rfl rfl rfl rfl (c2 _) rfl ?_
  repeat (first | (refine sty ?_; try intro _) | (refine st ?_; try intro _) | (refine stz ?_; try intro _) | (refine stq ?_; try intro _))
  refine o_slT 0 n2 rfl rfl rfl bd0 ⟨_, _, rfl, by rw [hn2]; omega⟩ (by omega) (by omega) ?_
  rw [hin]
  repeat (first | (refine sty ?_; try intro _) | (refine st ?_; try intro _) | (refine stz ?_; try intro _) | (refine stq ?_; try intro _))
  refine o_callV rfl rfl rfl rfl c3 rfl ?_
  repeat (first | (refine sty ?_; try intro _) | (refine st ?_; try intro _) | (refine stz ?_; try intro _) | (refine stq ?_; try intro _))
  subst hgx
  refine o_lit (α := Frm) (xs := [f, { f with code := cd, gas := gg }]) ⟨by decide, rfl, by decide⟩ rfl rfl rfl ⟨fun I hp => Rp.frm (f := f) (by rw [s1]; exact Rp.nil none 0), fun I hp => Rp.frm (f := { f with code := cd, gas := gg }) (by rw [s2]; exact Rp.nil none 0), trivial⟩ rfl ?_
  intro vl
  obtain ⟨l, hl⟩ : ∃ l : List Frm, l = [f, { f with code := cd, gas := gg }] := ⟨_, rfl⟩
  have hl2 : l.length = 2 := by rw [hl]; rfl
  have hall : ∀ x ∈ l, Rt x ∧ x.gas ≤ 4000 := by
    intro x hx
    rw [hl] at hx
    rcases List.mem_cons.1 hx with rfl | hx
    · exact ⟨r1, g1⟩
    · rw [List.mem_singleton.1 hx]; exact ⟨r2, g2⟩
  rw [← hl]
  clear hl r1 r2 g1 g2 s1 s2 c2 c3
  refine G.slice vl l ?_
  intro al cl el kl
  subst el
  repeat (first | (refine sty ?_; try intro _) | (refine st ?_; try intro _) | (refine stz ?_; try intro _) | (refine stq ?_; try intro _))
  refine W.lp (S := Nat) (fun i => ([fRp (.slice al l.length cl) l, fKc], [(40, .int .i64 (i : Int)), (39, .int .i64 ((l.length : Nat) : Int)), (38, .slice al l.length cl), (9, .bool true)], [])) (fun i => i ≤ l.length) (fun i => l.length - i) 0 ?_ (h0 := Nat.zero_le _)
  intro i hi
  dsimp only
  by_cases hil : i = l.length
  · subst hil
    repeat (first | (refine sty ?_; try intro _) | (refine st ?_; try intro _) | (refine stz ?_; try intro _) | (refine stq ?_; try intro _))
    refine G.retV ?_
    rfl
  · have hix : i < l.length := by omega
    obtain ⟨rx, gx⟩ := hall _ (List.getElem_mem hix)
    generalize hx : l[i]'hix = x at rx gx
    repeat (first | (refine sty ?_; try intro _) | (refine st ?_; try intro _) | (refine stz ?_; try intro _) | (refine stq ?_; try intro _))
    rw [hx]
    refine o_loadR rfl rfl rfl rfl ?_
    intro vx
    refine G.frm vx x ?_
    intro ax cx ex
    subst ex
    have gx0 : 0 ≤ x.gas := rx.2.2.2.2.2.2.1
    have cR := fun w => fRun_spec x w (x.gas.toNat + 1) (by omega) rx
    have hadd : x.gas + 1 = ((x.gas.toNat + 1 : Nat) : Int) := by omega
    obtain ⟨u1, u2, u3, _⟩ := runL_law keccakL (x.gas.toNat + 1) x rx
    obtain ⟨w1, _⟩ := runL_le keccakL (x.gas.toNat + 1) x
    have w3 := runL_ends keccakL x rx
    generalize runL keccakL (x.gas.toNat + 1) x = q at cR u1 u2 u3 w1 w3
    obtain ⟨E, n⟩ := q
    dsimp only at u1 u2 u3 w1 w3
    have cE := fun v => fright_spec E v (right_Rt.2 u1)
    repeat (first | (refine sty ?_; try intro _) | (refine st ?_; try intro _) | (refine stz ?_; try intro _) | (refine stq ?_; try intro _))
    rw [hadd]
    refine OpK.call rfl rfl rfl rfl (cR _) inferInstance (Mr := _) (List.Perm.refl _) ?_
    rintro u Φ' Mc' ⟨a2, k2, rfl, rfl, rfl⟩
    dsimp only [List.cons_append, List.nil_append]
    repeat (first | (refine sty ?_; try intro _) | (refine st ?_; try intro _) | (refine stz ?_; try intro _) | (refine stq ?_; try intro _))
    refine o_callV rfl rfl rfl rfl (cE _) rfl ?_
    have hpc0 : 0 ≤ E.pc := u1.2.2.2.2.1
    by_cases hst : E.status = 0
    · obtain ⟨hlt, hloc⟩ := w3 hst
      have hltn : E.pc.toNat < E.code.length := by omega
      have hix2 : E.code[E.pc.toNat]? = some (E.code.getD E.pc.toNat 0) := by
        rw [List.getD_eq_getElem?_getD, List.getElem?_eq_getElem hltn]; rfl
      generalize E.code.getD E.pc.toNat 0 = ch at hix2 hloc
      have c4 := local_spec ch.toNat (UInt8.toNat_lt _)
      rw [hloc] at c4
      repeat (first | (refine sty ?_; try intro _) | (refine st ?_; try intro _) | (refine stz ?_; try intro _) | (refine stq ?_; try intro _))
      refine o_ixG E.pc.toNat ch rfl rfl rfl rfl (by omega) hix2 ?_
      repeat (first | (refine sty ?_; try intro _) | (refine st ?_; try intro _) | (refine stz ?_; try intro _) | (refine stq ?_; try intro _))
      refine o_callV rfl rfl rfl rfl c4 rfl ?_
      repeat (first | (refine sty ?_; try intro _) | (refine st ?_; try intro _) | (refine stz ?_; try intro _) | (refine stq ?_; try intro _))
      rename_i b17
      refine W.lp (S := EnSt) (fun s => ([fRp (.slice s.a s.g.stack.length s.c) s.g.stack, fRp (.slice al l.length cl) l, fKc], [(18, .int .i64 (s.i : Int)), (17, .pointer (some ⟨b17, 0, none⟩)), (40, .int .i64 (i : Int)), (39, .int .i64 ((l.length : Nat) : Int)), (38, .slice al l.length cl), (9, .bool true)], [(b17, Ob (frmC s.g (.slice s.a s.g.stack.length s.c)) 26)])) (fun s => s.i ≤ 40 ∧ Rt s.g) (fun s => 40 - s.i) ⟨0, x, ax, cx⟩ ?_ (h0 := ⟨Nat.zero_le _, rx⟩) (hM := by (repeat (first | exact List.Sublist.refl _ | apply List.Sublist.cons_cons | apply List.Sublist.cons | exact List.nil_sublist _)))
      rintro ⟨j, g, ag, cg⟩ ⟨hj, rg⟩
      dsimp only at hj rg ⊢
      by_cases hje : j = 40
      · subst hje
        repeat (first | (refine sty ?_; try intro _) | (refine st ?_; try intro _) | (refine stz ?_; try intro _) | (refine stq ?_; try intro _))
        exact G.ag (S := Nat) (i + 1) (hM := List.nil_sublist _)
      · have cT := fun v => fStep_spec g v rg
        have hlaw := stepL_law keccakL rg
        generalize stepL keccakL g = q at cT hlaw
        obtain ⟨g2, e⟩ := q
        dsimp only at hlaw
        by_cases hz : e ≠ 0
        · repeat (first | (refine sty ?_; try intro _) | (refine st ?_; try intro _) | (refine stz ?_; try intro _) | (refine stq ?_; try intro _))
          refine OpK.call rfl rfl rfl rfl (cT _) inferInstance (Mr := _) (List.Perm.refl _) ?_
          rintro u Φ' Mc' ⟨a3, c3, rfl, rfl, rfl⟩
          dsimp only [List.cons_append, List.nil_append]
          repeat (first | (refine sty ?_; try intro _) | (refine st ?_; try intro _) | (refine stz ?_; try intro _) | (refine stq ?_; try intro _))
          exact G.ag (S := Nat) (i + 1) (hM := List.nil_sublist _)
        · obtain rfl : e = 0 := by omega
          obtain ⟨z1, z2, z3, z4, z5, z6⟩ := hlaw rfl
          have z7 : g2.stack.length ≤ 1024 := z2.2.2.2.2.2.2.2.2.1
          by_cases hgg : g2.gas = g.gas
          · have hs2 : g2.status ≠ 0 := fun h => by have := z6 h; omega
            repeat (first | (refine sty ?_; try intro _) | (refine st ?_; try intro _) | (refine stz ?_; try intro _) | (refine stq ?_; try intro _))
            refine OpK.call rfl rfl rfl rfl (cT _) inferInstance (Mr := _) (List.Perm.refl _) ?_
            rintro u Φ' Mc' ⟨a3, c3, rfl, rfl, rfl⟩
            dsimp only [List.cons_append, List.nil_append]
            repeat (first | (refine sty ?_; try intro _) | (refine st ?_; try intro _) | (refine stz ?_; try intro _) | (refine stq ?_; try intro _))
            exact G.ag (S := EnSt) ⟨j + 1, g2, a3, c3⟩ (hpre := ⟨by dsimp only; omega, z2⟩) (hM := .cons _ (List.Sublist.refl _))
          · repeat (first | (refine sty ?_; try intro _) | (refine st ?_; try intro _) | (refine stz ?_; try intro _) | (refine stq ?_; try intro _))
            refine OpK.call rfl rfl rfl rfl (cT _) inferInstance (Mr := _) (List.Perm.refl _) ?_
            rintro u Φ' Mc' ⟨a3, c3, rfl, rfl, rfl⟩
            dsimp only [List.cons_append, List.nil_append]
            repeat (first | (refine sty ?_; try intro _) | (refine st ?_; try intro _) | (refine stz ?_; try intro _) | (refine stq ?_; try intro _))
            exact G.ag (S := EnSt) ⟨j + 1, g2, a3, c3⟩ (hpre := ⟨by dsimp only; omega, z2⟩) (hM := .cons _ (List.Sublist.refl _))
    · repeat (first | (refine sty ?_; try intro _) | (refine st ?_; try intro _) | (refine stz ?_; try intro _) | (refine stq ?_; try intro _))
      rename_i b17
      refine W.lp (S := EnSt) (fun s => ([fRp (.slice s.a s.g.stack.length s.c) s.g.stack, fRp (.slice al l.length cl) l, fKc], [(18, .int .i64 (s.i : Int)), (17, .pointer (some ⟨b17, 0, none⟩)), (40, .int .i64 (i : Int)), (39, .int .i64 ((l.length : Nat) : Int)), (38, .slice al l.length cl), (9, .bool true)], [(b17, Ob (frmC s.g (.slice s.a s.g.stack.length s.c)) 26)])) (fun s => s.i ≤ 40 ∧ Rt s.g) (fun s => 40 - s.i) ⟨0, x, ax, cx⟩ ?_ (h0 := ⟨Nat.zero_le _, rx⟩) (hM := by (repeat (first | exact List.Sublist.refl _ | apply List.Sublist.cons_cons | apply List.Sublist.cons | exact List.nil_sublist _)))
      rintro ⟨j, g, ag, cg⟩ ⟨hj, rg⟩
      dsimp only at hj rg ⊢
      by_cases hje : j = 40
      · subst hje
        repeat (first | (refine sty ?_; try intro _) | (refine st ?_; try intro _) | (refine stz ?_; try intro _) | (refine stq ?_; try intro _))
        exact G.ag (S := Nat) (i + 1) (hM := List.nil_sublist _)
      · have cT := fun v => fStep_spec g v rg
        have hlaw := stepL_law keccakL rg
        generalize stepL keccakL g = q at cT hlaw
        obtain ⟨g2, e⟩ := q
        dsimp only at hlaw
        by_cases hz : e ≠ 0
        · repeat (first | (refine sty ?_; try intro _) | (refine st ?_; try intro _) | (refine stz ?_; try intro _) | (refine stq ?_; try intro _))
          refine OpK.call rfl rfl rfl rfl (cT _) inferInstance (Mr := _) (List.Perm.refl _) ?_
          rintro u Φ' Mc' ⟨a3, c3, rfl, rfl, rfl⟩
          dsimp only [List.cons_append, List.nil_append]
          repeat (first | (refine sty ?_; try intro _) | (refine st ?_; try intro _) | (refine stz ?_; try intro _) | (refine stq ?_; try intro _))
          exact G.ag (S := Nat) (i + 1) (hM := List.nil_sublist _)
        · obtain rfl : e = 0 := by omega
          obtain ⟨z1, z2, z3, z4, z5, z6⟩ := hlaw rfl
          have z7 : g2.stack.length ≤ 1024 := z2.2.2.2.2.2.2.2.2.1
          by_cases hgg : g2.gas = g.gas
          · have hs2 : g2.status ≠ 0 := fun h => by have := z6 h; omega
            repeat (first | (refine sty ?_; try intro _) | (refine st ?_; try intro _) | (refine stz ?_; try intro _) | (refine stq ?_; try intro _))
            refine OpK.call rfl rfl rfl rfl (cT _) inferInstance (Mr := _) (List.Perm.refl _) ?_
            rintro u Φ' Mc' ⟨a3, c3, rfl, rfl, rfl⟩
            dsimp only [List.cons_append, List.nil_append]
            repeat (first | (refine sty ?_; try intro _) | (refine st ?_; try intro _) | (refine stz ?_; try intro _) | (refine stq ?_; try intro _))
            exact G.ag (S := EnSt) ⟨j + 1, g2, a3, c3⟩ (hpre := ⟨by dsimp only; omega, z2⟩) (hM := .cons _ (List.Sublist.refl _))
          · repeat (first | (refine sty ?_; try intro _) | (refine st ?_; try intro _) | (refine stz ?_; try intro _) | (refine stq ?_; try intro _))
            refine OpK.call rfl rfl rfl rfl (cT _) inferInstance (Mr := _) (List.Perm.refl _) ?_
            rintro u Φ' Mc' ⟨a3, c3, rfl, rfl, rfl⟩
            dsimp only [List.cons_append, List.nil_append]
            repeat (first | (refine sty ?_; try intro _) | (refine st ?_; try intro _) | (refine stz ?_; try intro _) | (refine stq ?_; try intro _))
            exact G.ag (S := EnSt) ⟨j + 1, g2, a3, c3⟩ (hpre := ⟨by dsimp only; omega, z2⟩) (hM := .cons _ (List.Sublist.refl _))
end Go.Rail
