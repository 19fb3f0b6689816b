/- The document's quotients. -/
import Derived.Test.YtpbbjkbackiljaaGreatDoorAD3D4
import Derived.Test.YtpbbjkbackiljaaGreatDoorAOneOrd
import Derived.Test.YtpbbjkbackiljaaGreatDoorRailC
import Derived.Test.YtpbbjkbackiljaaGreatDoorRailH
import Derived.Test.YtpbbjkbackiljaaGreatDoorAC17C19
set_option linter.unusedSimpArgs false
set_option linter.unusedVariables false
namespace Go.Rail
open Go Go.Proofs
set_option maxHeartbeats 400000
set_option maxRecDepth 4000
attribute [local irreducible] OpK G W LW wpListIn Exit.then Exit.inBlock Post rounds opRun bodyPostM intOp
set_option maxHeartbeats 4000000
attribute [local irreducible] Word.num Word.nat
instance cvD5_1 (a b : Word) {Φ : List Fa} : CV Tryz.prog 203 [a.v, b.v] Φ (addW a b).v := ⟨Fn.weaken (radd_spec a b)⟩
instance cvD5_2 (a b : Word) {Φ : List Fa} : CV Tryz.prog 205 [a.v, b.v] Φ (subW a b).v := ⟨Fn.weaken (rsub_spec a b)⟩
instance cvD5_3 (a b : Word) {Φ : List Fa} : CV Tryz.prog 204 [a.v, b.v] Φ (mulW a b).v := ⟨Fn.weaken (rmul_spec a b)⟩
instance cvD5_4 (a b : Word) {Φ : List Fa} : CV Tryz.prog 215 [a.v, b.v] Φ (.int .i64 (cmpW a b)) := ⟨Fn.weaken (cmp_spec a b)⟩
instance (priority := low) cvD5_5 (n : Int) {Φ : List Fa} : CV Tryz.prog 29 [.int .i64 n] Φ (Word.of n).v := ⟨Fn.weaken (of_spec n)⟩
theorem none_spec (w : Word) : FnV Tryz.prog 278 [w.v] [] (.bool (decide (w = .zero))) := by
  refine Fn.enter Tryz.func278 rfl Tryz.ntmps278 (by simp) (fun I0 w0 => ?_)
  repeat (first | (refine sty ?_; try intro _) | (refine st ?_; try intro _) | (refine stz ?_; try intro _))
  refine G.retV ?_
  rfl
instance cvD5_6 (a : Word) {Φ : List Fa} : CV Tryz.prog 278 [a.v] Φ (.bool (decide (a = .zero))) := ⟨Fn.weaken (none_spec a)⟩
theorem rbelow_spec (w : Word) : FnV Tryz.prog 281 [w.v] [] (.bool (negW w)) := by
  refine Fn.enter Tryz.func281 rfl Tryz.ntmps281 (by simp) (fun I0 w0 => ?_)
  repeat (first | (refine sty ?_; try intro _) | (refine st ?_; try intro _) | (refine stz ?_; try intro _))
  refine G.retV ?_
  refine congrArg Value.bool (decide_eq_decide.2 ?_)
  omega
instance cvD5_7 (a : Word) {Φ : List Fa} : CV Tryz.prog 281 [a.v] Φ (.bool (negW a)) := ⟨Fn.weaken (rbelow_spec a)⟩
theorem minus_spec (w : Word) : FnV Tryz.prog 282 [w.v] [] (minusW w).v := by
  refine Fn.enter Tryz.func282 rfl Tryz.ntmps282 (by simp) (fun I0 w0 => ?_)
  repeat (first | (refine sty ?_; try intro _) | (refine st ?_; try intro _) | (refine stz ?_; try intro _))
  refine G.retV ?_
  rfl
instance cvD5_8 (a : Word) {Φ : List Fa} : CV Tryz.prog 282 [a.v] Φ (minusW a).v := ⟨Fn.weaken (minus_spec a)⟩
theorem size_spec (w : Word) : FnV Tryz.prog 280 [w.v] [] (sizeW w).v := by
  refine Fn.enter Tryz.func280 rfl Tryz.ntmps280 (by simp) (fun I0 w0 => ?_)
  unfold sizeW
  cases h : negW w
  · rw [if_neg (by decide)]
    repeat (first | (refine sty ?_; try intro _) | (refine st ?_; try intro _) | (refine stz ?_; try intro _))
    refine G.retV ?_
    rfl
  · rw [if_pos rfl]
    repeat (first | (refine sty ?_; try intro _) | (refine st ?_; try intro _) | (refine stz ?_; try intro _))
    refine G.retV ?_
    rfl
instance cvD5_9 (a : Word) {Φ : List Fa} : CV Tryz.prog 280 [a.v] Φ (sizeW a).v := ⟨Fn.weaken (size_spec a)⟩
def subP (w n : Word) (over : Bool) : Word := if over || decide (n.num ≤ w.num) then subW w n else w
theorem rless_spec (w n : Word) (over : Bool) : FnV Tryz.prog 283 [w.v, .bool over, n.v] [] (.tuple #[(subP w n over).v, .bool (over || decide (n.num ≤ w.num))]) := by
  have hc := cmpW_num w n
  refine Fn.enter Tryz.func283 rfl Tryz.ntmps283 (by simp) (fun I0 w0 => ?_)
  unfold subP
  cases over
  · by_cases h : n.num ≤ w.num
    · rw [decide_eq_true h]
      have h2 : 0 ≤ cmpW w n := by rw [hc, if_neg (by omega)]; split <;> decide
      repeat (first | (refine sty ?_; try intro _) | (refine st ?_; try intro _) | (refine stz ?_; try intro _))
      refine G.retV ?_
      rfl
    · rw [decide_eq_false h]
      have h2 : cmpW w n < 0 := by rw [hc, if_pos (by omega)]; decide
      repeat (first | (refine sty ?_; try intro _) | (refine st ?_; try intro _) | (refine stz ?_; try intro _))
      refine G.retV ?_
      rfl
  · repeat (first | (refine sty ?_; try intro _) | (refine st ?_; try intro _) | (refine stz ?_; try intro _))
    refine G.retV ?_
    rfl
theorem num_add (a b : Word) : (addW a b).num = (a.num + b.num) % top256 := Word.num_nat _
theorem num_of1 : (Word.of 1).num = 1 := by kernel_rfl
theorem over_iff (w : Word) : 9223372036854775808 ≤ w.d.toNat ↔ top256 ≤ 2 * w.num := by
  have := w.a.toNat_lt; have := w.b.toNat_lt; have := w.c.toNat_lt; have := w.d.toNat_lt
  unfold Word.num
  simp only [top256]
  omega
def dblX (w : Word) (b : Bool) : Word := if b then addW (addW w w) (Word.of 1) else addW w w
theorem dblX_num (w : Word) (b : Bool) : (dblX w b).num = (2 * w.num + b.toNat) % top256 := by
  have := w.num_lt
  unfold dblX
  cases b
  · rw [if_neg (by decide), num_add, show w.num + w.num = 2 * w.num + 0 from by omega]; rfl
  · rw [if_pos rfl, num_add, num_add, num_of1]; simp only [Bool.toNat_true, top256] at *; omega
theorem dbl_law (w n : Word) (b : Bool) (h : w.num < n.num) (over : Bool) (ho : over = decide (9223372036854775808 ≤ w.d.toNat)) :
    Value.tuple #[(subP (dblX w b) n over).v, .bool (over || decide (n.num ≤ (dblX w b).num))] = .tuple #[(Word.nat ((2 * w.num + b.toNat) % n.num)).v, .bool (decide (n.num ≤ 2 * w.num + b.toNat))] := by
  have hn := n.num_lt
  have hb : b.toNat ≤ 1 := by cases b <;> decide
  have hx := dblX_num w b
  have key : (over || decide (n.num ≤ (dblX w b).num)) = decide (n.num ≤ 2 * w.num + b.toNat) := by
    subst ho
    by_cases h1 : 9223372036854775808 ≤ w.d.toNat
    · rw [decide_eq_true h1, Bool.true_or]
      have := (over_iff w).1 h1
      rw [decide_eq_true (by omega)]
    · rw [decide_eq_false h1, Bool.false_or, hx]
      have := mt (over_iff w).2 h1
      simp only [top256] at *
      rw [Nat.mod_eq_of_lt (by omega)]
  have key2 : subP (dblX w b) n over = Word.nat ((2 * w.num + b.toNat) % n.num) := by
    unfold subP
    rw [key]
    by_cases h2 : n.num ≤ 2 * w.num + b.toNat
    · rw [if_pos (decide_eq_true h2), Nat.mod_eq_sub_mod h2, Nat.mod_eq_of_lt (a := 2 * w.num + b.toNat - n.num) (by omega)]
      refine Word.nat_eq ?_
      rw [hx]
      simp only [top256] at *
      omega
    · rw [if_neg (by rw [decide_eq_false h2]; decide), Nat.mod_eq_of_lt (a := 2 * w.num + b.toNat) (by omega)]
      refine Word.num_inj.1 ?_
      rw [Word.num_nat, hx]
  rw [key, key2]
theorem double_spec (w n : Word) (b : Bool) (h : w.num < n.num) : FnV Tryz.prog 285 [w.v, .bool b, n.v] [] (.tuple #[(Word.nat ((2 * w.num + b.toNat) % n.num)).v, .bool (decide (n.num ≤ 2 * w.num + b.toNat))]) := by
  have hl := fun over => dbl_law w n b h over
  have hs := fun over => rless_spec (dblX w b) n over
  refine Fn.enter Tryz.func285 rfl Tryz.ntmps285 (by simp) (fun I0 w0 => ?_)
  unfold dblX at hl hs
  by_cases ho : 9223372036854775808 ≤ w.d.toNat
  · have hl := hl true (decide_eq_true ho).symm
    have hs := hs true
    cases b
    · rw [if_neg (by decide)] at hl hs
      repeat (first | (refine sty ?_; try intro _) | (refine st ?_; try intro _) | (refine stz ?_; try intro _))
      refine o_callV rfl rfl rfl rfl hs hl ?_
      repeat (first | (refine sty ?_; try intro _) | (refine st ?_; try intro _) | (refine stz ?_; try intro _))
      refine G.retV ?_
      rfl
    · rw [if_pos rfl] at hl hs
      repeat (first | (refine sty ?_; try intro _) | (refine st ?_; try intro _) | (refine stz ?_; try intro _))
      refine W.drawA 2 [dq _, dq _] [[], []] [0, 1] (hrest := fun c => nrm ?_) (hops := by
        iterate 2 refine AllQ.az ?_
        exact AllQ.nil)
      repeat (first | (refine sty ?_; try intro _) | (refine st ?_; try intro _) | (refine stz ?_; try intro _))
      refine o_callV rfl rfl rfl rfl hs hl ?_
      repeat (first | (refine sty ?_; try intro _) | (refine st ?_; try intro _) | (refine stz ?_; try intro _))
      refine G.retV ?_
      rfl
  · have hl := hl false (decide_eq_false ho).symm
    have hs := hs false
    cases b
    · rw [if_neg (by decide)] at hl hs
      repeat (first | (refine sty ?_; try intro _) | (refine st ?_; try intro _) | (refine stz ?_; try intro _))
      refine o_callV rfl rfl rfl rfl hs hl ?_
      repeat (first | (refine sty ?_; try intro _) | (refine st ?_; try intro _) | (refine stz ?_; try intro _))
      refine G.retV ?_
      rfl
    · rw [if_pos rfl] at hl hs
      repeat (first | (refine sty ?_; try intro _) | (refine st ?_; try intro _) | (refine stz ?_; try intro _))
      refine W.drawA 2 [dq _, dq _] [[], []] [0, 1] (hrest := fun c => nrm ?_) (hops := by
        iterate 2 refine AllQ.az ?_
        exact AllQ.nil)
      repeat (first | (refine sty ?_; try intro _) | (refine st ?_; try intro _) | (refine stz ?_; try intro _))
      refine o_callV rfl rfl rfl rfl hs hl ?_
      repeat (first | (refine sty ?_; try intro _) | (refine st ?_; try intro _) | (refine stz ?_; try intro _))
      refine G.retV ?_
      rfl
end Go.Rail
namespace Go.Rail
open Go Go.Proofs
set_option maxHeartbeats 400000
set_option maxRecDepth 4000
attribute [local irreducible] OpK G W LW wpListIn Exit.then Exit.inBlock Post rounds opRun bodyPostM intOp
set_option maxHeartbeats 4000000
attribute [local irreducible] Word.num Word.nat
def qF (x s k : Nat) : Int := if s ≤ k then ((bt x k : Nat) : Int) else 0
theorem qF_top (x : Nat) : rowZ 256 (fun _ => 0) = rowZ 256 (qF x 256) := rowZ_congr (fun i hi => by unfold qF; rw [if_neg (by omega)])
theorem qF_zero (x : Nat) : rowZ 256 (qF x 0) = rowN 256 (bt x) := rowZ_congr (fun i hi => by unfold qF; rw [if_pos (Nat.zero_le _)])
theorem qF_one {x m : Nat} (h : bt x m = 1) : (fun k => if k = m then (1 : Int) else qF x (m + 1) k) = qF x m := by
  funext k
  unfold qF
  by_cases hk : k = m
  · subst hk; rw [if_pos rfl, if_pos (Nat.le_refl _), h]; rfl
  · rw [if_neg hk]
    by_cases h2 : m + 1 ≤ k
    · rw [if_pos h2, if_pos (by omega)]
    · rw [if_neg h2, if_neg (by omega)]
theorem qF_none {x m : Nat} (h : bt x m = 0) : qF x (m + 1) = qF x m := by
  funext k
  unfold qF
  by_cases hk : k = m
  · subst hk; rw [if_neg (by omega), if_pos (Nat.le_refl _), h]; rfl
  · by_cases h2 : m + 1 ≤ k
    · rw [if_pos h2, if_pos (by omega)]
    · rw [if_neg h2, if_neg (by omega)]
theorem divb_step (a b m : Nat) (hb : 0 < b) : a / 2 ^ m % b = (2 * (a / 2 ^ (m + 1) % b) + bt a m) % b ∧ bt (a / b) m = if b ≤ 2 * (a / 2 ^ (m + 1) % b) + bt a m then 1 else 0 := by
  have h1 : a / 2 ^ m = 2 * (a / 2 ^ (m + 1)) + bt a m := by
    rw [Nat.pow_succ, ← Nat.div_div_eq_div_mul]
    show _ = _ + a / 2 ^ m % 2
    omega
  have h2 : a / b / 2 ^ m = a / 2 ^ m / b := by rw [Nat.div_div_eq_div_mul, Nat.mul_comm, ← Nat.div_div_eq_div_mul]
  have hbt : bt a m < 2 := Nat.mod_lt _ (by decide)
  show _ ∧ a / b / 2 ^ m % 2 = _
  rw [h2, h1]
  generalize bt a m = t at *
  generalize a / 2 ^ (m + 1) = A at *
  have h3 := Nat.div_add_mod A b
  have hr : A % b < b := Nat.mod_lt _ hb
  generalize A / b = u at *
  generalize A % b = r at *
  subst h3
  have e : 2 * (b * u + r) + t = 2 * r + t + b * (2 * u) := by rw [Nat.mul_add, Nat.mul_left_comm]; omega
  rw [e, Nat.add_mul_mod_self_left, Nat.add_mul_div_left _ _ hb]
  refine ⟨rfl, ?_⟩
  by_cases h : b ≤ 2 * r + t
  · rw [if_pos h, Nat.div_eq_of_lt_le (m := 2 * r + t) (k := 1) (by omega) (by omega)]; omega
  · rw [if_neg h, Nat.div_eq_of_lt (by omega)]; omega
theorem divided_spec (a b : Word) (hb : b ≠ .zero) : FnV Tryz.prog 279 [a.v, b.v] [] (.tuple #[(Word.nat (a.num / b.num)).v, (Word.nat (a.num % b.num)).v]) := by
  have hb0 : 0 < b.num := by
    rcases Nat.eq_zero_or_pos b.num with h | h
    · exact absurd (Word.num_inj.1 (h.trans Word.zero_num.symm)) hb
    · exact h
  have hbl := b.num_lt
  have hal := a.num_lt
  refine Fn.enter Tryz.func279 rfl Tryz.ntmps279 (by simp) (fun I0 w0 => ?_)
  repeat (first | (refine sty ?_; try intro _) | (refine st ?_; try intro _) | (refine stz ?_; try intro _))
  rename_i b2 b3 b4 b5
  refine o_callO rfl rfl rfl rfl (bits_spec a) ?_
  intro vx ox hox
  refine G.giveOwn2 vx (rowN 256 (bt a.num)) ox 3 hox inferInstance (List.Perm.refl _) ?_
  repeat (first | (refine sty ?_; try intro _) | (refine st ?_; try intro _) | (refine stz ?_; try intro _))
  rename_i b7
  refine o_makeI 256 rfl rfl rfl rfl rfl rfl (by decide) ?_
  intro bz
  rw [rowZ_const, qF_top (a.num / b.num), show cI (rowZ 256 (qF (a.num / b.num) 256)) = cIx (rowZ 256 (qF (a.num / b.num) 256)) [] from by rw [cIx, List.append_nil]]
  repeat (first | (refine sty ?_; try intro _) | (refine st ?_; try intro _) | (refine stz ?_; try intro _))
  refine W.lp (S := Nat × Word) (fun s => ([fRp vx (rowN 256 (bt a.num))], [(9, .int .i64 ((s.1 : Int) - 1)), (8, .slice (some ⟨bz, 0, none⟩) 256 256), (7, .pointer (some ⟨b7, 0, none⟩)), (6, vx), (5, .pointer (some ⟨b5, 0, none⟩)), (4, .pointer (some ⟨b4, 0, none⟩)), (3, .pointer (some ⟨b3, 0, none⟩))], [(bz, Ob (cIx (rowZ 256 (qF (a.num / b.num) s.1)) []) 3), (b7, Ob (cellsL s.2.v) 49), (b5, Ob Word.zero.cells 49), (b4, Ob Word.zero.cells 49), (b3, Ob (cellsL b.v) 49)])) (fun s => s.1 ≤ 256 ∧ s.2.num = a.num / 2 ^ s.1 % b.num) (fun s => s.1) (256, .zero) ?_ (hM := by (repeat (first | exact List.nil_sublist _ | apply List.Sublist.cons_cons))) (h0 := ⟨Nat.le_refl _, by dsimp only; rw [Word.zero_num, Nat.div_eq_of_lt (Nat.lt_of_lt_of_eq hal (by kernel_rfl)), Nat.zero_mod]⟩)
  rintro ⟨s, r⟩ ⟨hs, hr⟩
  dsimp only at hs hr ⊢
  cases s with
  | zero =>
    refine W.bare (G.giveZ bz 256 rfl ?_)
    rw [qF_zero]
    have hbits := fromBits_spec (.slice (some ⟨bz, 0, none⟩) 256 256) (bt (a.num / b.num)) (fun i _ => Nat.mod_lt _ (by decide))
    have hq : sumB 2 (bt (a.num / b.num)) 256 = a.num / b.num := by
      have h := sumB_bt (a.num / b.num) 256
      rw [Nat.mod_eq_of_lt (Nat.lt_of_le_of_lt (Nat.div_le_self _ _) (Nat.lt_of_lt_of_eq hal (by kernel_rfl)))] at h
      exact h
    rw [hq] at hbits
    rw [Nat.pow_zero, Nat.div_one] at hr
    have hrw : r = Word.nat (a.num % b.num) := by rw [← hr, Word.nat_num]
    subst hrw
    refine G.code ?_
    repeat (first | (refine sty ?_; try intro _) | (refine st ?_; try intro _) | (refine stz ?_; try intro _))
    refine W.any (by kernel_rfl) ?_
    refine G.anyStep [0, 2] (by kernel_rfl) (by kernel_rfl) (by kernel_rfl) ?_
    refine ⟨?_, ?_, trivial⟩
    · show OpK _ _ _ (List.getD (_ :: _) _ _) _ _ _ _; simp only [getD_s, getD_z]
      refine st ?_
      refine G.anyStep [1, 2] (by kernel_rfl) (by kernel_rfl) (by kernel_rfl) ?_
      refine ⟨?_, ?_, trivial⟩
      · show OpK _ _ _ (List.getD (_ :: _) _ _) _ _ _ _; simp only [getD_s, getD_z]
        refine o_callV rfl rfl rfl rfl hbits rfl ?_
        refine G.anyStep [2, 3] (by kernel_rfl) (by kernel_rfl) (by kernel_rfl) ?_
        refine ⟨?_, ?_, trivial⟩
        · show OpK _ _ _ (List.getD (_ :: _) _ _) _ _ _ _; simp only [getD_s, getD_z]
          refine st ?_
          refine G.anyStep [3] (by kernel_rfl) (by kernel_rfl) (by kernel_rfl) ?_
          refine ⟨?_, trivial⟩
          · show OpK _ _ _ (List.getD (_ :: _) _ _) _ _ _ _; simp only [getD_s, getD_z]
            refine st ?_
            refine G.anyStep [4] (by kernel_rfl) (by kernel_rfl) (by kernel_rfl) ?_
            refine ⟨?_, trivial⟩
            · show OpK _ _ _ (List.getD (_ :: _) _ _) _ _ _ _; simp only [getD_s, getD_z]
              refine st ?_
              refine G.anyEnd (by kernel_rfl) ?_
              repeat (first | (refine sty ?_; try intro _) | (refine st ?_; try intro _) | (refine stz ?_; try intro _))
              refine G.retV ?_
              rfl
        · show OpK _ _ _ (List.getD (_ :: _) _ _) _ _ _ _; simp only [getD_s, getD_z]
          refine st ?_
          refine G.anyStep [2] (by kernel_rfl) (by kernel_rfl) (by kernel_rfl) ?_
          refine ⟨?_, trivial⟩
          · show OpK _ _ _ (List.getD (_ :: _) _ _) _ _ _ _; simp only [getD_s, getD_z]
            refine st ?_
            refine G.anyStep [4] (by kernel_rfl) (by kernel_rfl) (by kernel_rfl) ?_
            refine ⟨?_, trivial⟩
            · show OpK _ _ _ (List.getD (_ :: _) _ _) _ _ _ _; simp only [getD_s, getD_z]
              refine st ?_
              refine G.anyEnd (by kernel_rfl) ?_
              repeat (first | (refine sty ?_; try intro _) | (refine st ?_; try intro _) | (refine stz ?_; try intro _))
              refine G.retV ?_
              rfl
      · show OpK _ _ _ (List.getD (_ :: _) _ _) _ _ _ _; simp only [getD_s, getD_z]
        refine st ?_
        refine G.anyStep [1] (by kernel_rfl) (by kernel_rfl) (by kernel_rfl) ?_
        refine ⟨?_, trivial⟩
        · show OpK _ _ _ (List.getD (_ :: _) _ _) _ _ _ _; simp only [getD_s, getD_z]
          refine o_callV rfl rfl rfl rfl hbits rfl ?_
          refine G.anyStep [3] (by kernel_rfl) (by kernel_rfl) (by kernel_rfl) ?_
          refine ⟨?_, trivial⟩
          · show OpK _ _ _ (List.getD (_ :: _) _ _) _ _ _ _; simp only [getD_s, getD_z]
            refine st ?_
            refine G.anyStep [4] (by kernel_rfl) (by kernel_rfl) (by kernel_rfl) ?_
            refine ⟨?_, trivial⟩
            · show OpK _ _ _ (List.getD (_ :: _) _ _) _ _ _ _; simp only [getD_s, getD_z]
              refine st ?_
              refine G.anyEnd (by kernel_rfl) ?_
              repeat (first | (refine sty ?_; try intro _) | (refine st ?_; try intro _) | (refine stz ?_; try intro _))
              refine G.retV ?_
              rfl
    · show OpK _ _ _ (List.getD (_ :: _) _ _) _ _ _ _; simp only [getD_s, getD_z]
      refine st ?_
      refine G.anyStep [0] (by kernel_rfl) (by kernel_rfl) (by kernel_rfl) ?_
      refine ⟨?_, trivial⟩
      · show OpK _ _ _ (List.getD (_ :: _) _ _) _ _ _ _; simp only [getD_s, getD_z]
        refine st ?_
        refine G.anyStep [1] (by kernel_rfl) (by kernel_rfl) (by kernel_rfl) ?_
        refine ⟨?_, trivial⟩
        · show OpK _ _ _ (List.getD (_ :: _) _ _) _ _ _ _; simp only [getD_s, getD_z]
          refine o_callV rfl rfl rfl rfl hbits rfl ?_
          refine G.anyStep [3] (by kernel_rfl) (by kernel_rfl) (by kernel_rfl) ?_
          refine ⟨?_, trivial⟩
          · show OpK _ _ _ (List.getD (_ :: _) _ _) _ _ _ _; simp only [getD_s, getD_z]
            refine st ?_
            refine G.anyStep [4] (by kernel_rfl) (by kernel_rfl) (by kernel_rfl) ?_
            refine ⟨?_, trivial⟩
            · show OpK _ _ _ (List.getD (_ :: _) _ _) _ _ _ _; simp only [getD_s, getD_z]
              refine st ?_
              refine G.anyEnd (by kernel_rfl) ?_
              repeat (first | (refine sty ?_; try intro _) | (refine st ?_; try intro _) | (refine stz ?_; try intro _))
              refine G.retV ?_
              rfl
  | succ m =>
    rw [show ((m + 1 : Nat) : Int) - 1 = (m : Int) from by omega]
    obtain ⟨d1, d2⟩ := divb_step a.num b.num m hb0
    rw [← hr] at d1 d2
    have hrl : r.num < b.num := by rw [hr]; exact Nat.mod_lt _ hb0
    have hbt : bt a.num m < 2 := Nat.mod_lt _ (by decide)
    have hds := double_spec r b (decide (bt a.num m = 1)) hrl
    have htn : (decide (bt a.num m = 1)).toNat = bt a.num m := by
      generalize bt a.num m = t at hbt
      by_cases h : t = 1
      · subst h; rfl
      · rw [decide_eq_false h]; obtain rfl : t = 0 := by omega
        rfl
    rw [htn, ← d1] at hds
    have hn : (Word.nat (a.num / 2 ^ m % b.num)).num = a.num / 2 ^ m % b.num := by
      rw [Word.num_nat, Nat.mod_eq_of_lt (Nat.lt_trans (Nat.mod_lt _ hb0) hbl)]
    repeat (first | (refine sty ?_; try intro _) | (refine st ?_; try intro _) | (refine stz ?_; try intro _))
    refine W.drawSt 12 11 b7 (Ob (Word.nat (a.num / 2 ^ m % b.num)).cells 49) [dq _, dq _, dq _, dk _, dq _, dq _, dq _, dq _, dq _, dq _, dq _, (dq fun _ _ => .bool false)] [[], [], [], [1,2], [3], [4], [], [0,5,6], [7], [8], [8], [9]] [10] (hrest := fun c => nrmX ?_) (hops := by
      refine AllX.a0 ?_ rfl (by kernel_rfl)
      refine AllX.a0 ?_ rfl (by kernel_rfl)
      refine AllX.a0 ?_ rfl (by kernel_rfl)
      refine AllX.a0 ?_ rfl (by kernel_rfl)
      refine AllX.a0 ?_ rfl (by kernel_rfl)
      refine AllX.a0 ?_ rfl (by kernel_rfl) (by intro c z0 Φr Lr K; refine nrmX ?_; intro hK; refine o_int rfl rfl rfl rfl i_eqlN ?_; exact hK z0)
      refine AllX.a0 ?_ rfl (by kernel_rfl)
      refine AllX.a0 ?_ rfl (by kernel_rfl) (by intro c z0 Φr Lr K; refine nrmX ?_; intro hK; refine o_callV rfl rfl rfl rfl hds rfl ?_; exact hK z0)
      refine AllX.a0 ?_ rfl (by kernel_rfl)
      refine AllX.a0 ?_ rfl (by kernel_rfl)
      refine AllX.a01 ?_ rfl
      refine AllX.ai ?_
      exact AllX.end)
    by_cases hq : b.num ≤ 2 * r.num + bt a.num m
    · rw [if_pos hq] at d2
      repeat (first | (refine sty ?_; try intro _) | (refine st ?_; try intro _) | (refine stz ?_; try intro _))
      rw [qF_one d2]
      repeat (first | (refine sty ?_; try intro _) | (refine st ?_; try intro _) | (refine stz ?_; try intro _))
      exact G.ag (S := Nat × Word) (m, _) (hpre := ⟨by dsimp only; omega, hn⟩)
    · rw [if_neg hq] at d2
      rw [qF_none d2]
      repeat (first | (refine sty ?_; try intro _) | (refine st ?_; try intro _) | (refine stz ?_; try intro _))
      exact G.ag (S := Nat × Word) (m, _) (hpre := ⟨by dsimp only; omega, hn⟩)
end Go.Rail
namespace Go.Rail
open Go Go.Proofs
set_option maxHeartbeats 400000
set_option maxRecDepth 4000
attribute [local irreducible] OpK G W LW wpListIn Exit.then Exit.inBlock Post rounds opRun bodyPostM intOp
set_option maxHeartbeats 4000000
attribute [local irreducible] Word.num Word.nat
theorem rdiv_spec (a b : Word) : FnV Tryz.prog 206 [a.v, b.v] [] (divW a b).v := by
  refine Fn.enter Tryz.func206 rfl Tryz.ntmps206 (by simp) (fun I0 w0 => ?_)
  by_cases hb : b = .zero
  · subst hb
    repeat (first | (refine sty ?_; try intro _) | (refine st ?_; try intro _) | (refine stz ?_; try intro _))
    refine G.retV ?_
    unfold divW
    rw [Word.zero_num, Nat.div_zero, Word.nat_zero]
    rfl
  · have hd := divided_spec a b hb
    repeat (first | (refine sty ?_; try intro _) | (refine st ?_; try intro _) | (refine stz ?_; try intro _))
    refine o_callV rfl rfl rfl rfl hd rfl ?_
    repeat (first | (refine sty ?_; try intro _) | (refine st ?_; try intro _) | (refine stz ?_; try intro _))
    refine G.retV ?_
    rfl
theorem rmod_spec (a b : Word) : FnV Tryz.prog 208 [a.v, b.v] [] (modW a b).v := by
  refine Fn.enter Tryz.func208 rfl Tryz.ntmps208 (by simp) (fun I0 w0 => ?_)
  unfold modW
  by_cases hb : b = .zero
  · subst hb
    rw [if_pos rfl]
    repeat (first | (refine sty ?_; try intro _) | (refine st ?_; try intro _) | (refine stz ?_; try intro _))
    refine G.retV ?_
    rfl
  · rw [if_neg hb]
    have hd := divided_spec a b hb
    repeat (first | (refine sty ?_; try intro _) | (refine st ?_; try intro _) | (refine stz ?_; try intro _))
    refine o_callV rfl rfl rfl rfl hd rfl ?_
    repeat (first | (refine sty ?_; try intro _) | (refine st ?_; try intro _) | (refine stz ?_; try intro _))
    refine G.retV ?_
    rfl
instance cvD7_1 (a b : Word) {Φ : List Fa} : CV Tryz.prog 206 [a.v, b.v] Φ (divW a b).v := ⟨Fn.weaken (rdiv_spec a b)⟩
instance cvD7_2 (a b : Word) {Φ : List Fa} : CV Tryz.prog 208 [a.v, b.v] Φ (modW a b).v := ⟨Fn.weaken (rmod_spec a b)⟩
end Go.Rail
namespace Go.Rail
open Go Go.Proofs
set_option maxHeartbeats 400000
set_option maxRecDepth 4000
attribute [local irreducible] OpK G W LW wpListIn Exit.then Exit.inBlock Post rounds opRun bodyPostM intOp
set_option maxHeartbeats 4000000
attribute [local irreducible] Word.num Word.nat
theorem pow256 (k : Nat) : (256 : Nat) ^ k = 2 ^ (8 * k) := by rw [show (256 : Nat) = 2 ^ 8 from rfl, ← Nat.pow_mul]
theorem dgB (n k : Nat) : (UInt8.ofNat (dg n k)).toNat = dg n k := by
  rw [UInt8.toNat_ofNat']
  exact Nat.mod_eq_of_lt (Nat.mod_lt _ (by decide))
def bD (n k : Nat) : Nat := (UInt8.ofNat (dg n k)).toNat
instance fvBD (n k : Nat) : FV (.int .u8 ((bD n k : Nat) : Int)) UInt8 (UInt8.ofNat (dg n k)) := ⟨rfl⟩
theorem rbytes_spec (a : Word) : FnV Tryz.prog 28 [a.v] [] (.string (ba (byN a.num))) := by
  have hlen := byN_len a.num
  refine Fn.enter Tryz.func28 rfl Tryz.ntmps28 (by simp) (fun I0 w0 => ?_)
  repeat (first | (refine sty ?_; try intro _) | (refine st ?_; try intro _) | (refine stz ?_; try intro _))
  rename_i b1
  refine o_callO rfl rfl rfl rfl (digits_spec a) ?_
  intro vx ox hox
  refine G.giveOwn2 vx (rowN 32 (dg a.num)) ox 3 hox inferInstance (List.Perm.refl _) ?_
  rw [show rowN 32 (dg a.num) = rowN 32 (bD a.num) from rowZ_congr (fun k _ => congrArg Int.ofNat (dgB a.num k).symm)]
  repeat (first | (refine sty ?_; try intro _) | (refine st ?_; try intro _) | (refine stz ?_; try intro _))
  refine W.lp (S := Nat × Value × OR) (fun s => ([fRow (ocells s.2.2) ((byN a.num).take (32 - s.1)), fRp vx (rowN 32 (bD a.num))], [(5, .int .i64 ((s.1 : Int) - 1)), (4, s.2.1), (3, vx)], ownM 5 s.2.2)) (fun s => s.1 ≤ 32 ∧ IsOwn 1 s.2.1 ((byN a.num).take (32 - s.1)).length s.2.2) (fun s => s.1) (32, .slice none 0 0, none) ?_ (h0 := ⟨Nat.le_refl _, rfl, rfl⟩) (hM := List.nil_sublist _) (hΦ := by show Ents _ [fRow [] ([] : List UInt8), fRp vx (rowN 32 (bD a.num))]; infer_instance)
  rintro ⟨s, w, o⟩ ⟨hi, hown⟩
  dsimp only at hi hown ⊢
  cases s with
  | zero =>
    rw [Nat.sub_zero, ← hlen, List.take_length] at hown ⊢
    refine W.bare (G.giveOwn2 (Mr := []) w (byN a.num) o 5 hown inferInstance (List.Perm.refl _) ?_)
    refine G.code ?_
    repeat (first | (refine sty ?_; try intro _) | (refine st ?_; try intro _) | (refine stz ?_; try intro _))
    refine G.retV ?_
    rfl
  | succ m =>
    have hb : bD a.num m < 256 := (UInt8.ofNat (dg a.num m)).toNat_lt
    have he : (byN a.num).take (32 - m) = (byN a.num).take (32 - (m + 1)) ++ [UInt8.ofNat (dg a.num m)] := by
      have h1 := byN_at a.num (32 - (m + 1)) (by omega)
      obtain ⟨h2, h3⟩ := List.getElem?_eq_some_iff.1 h1
      rw [show 32 - m = 32 - (m + 1) + 1 from by omega, List.take_succ_eq_append_getElem h2, h3, show 31 - (32 - (m + 1)) = m from by omega, ← pow256]
    have hl2 : ((byN a.num).take (32 - (m + 1))).length = 31 - m := by rw [List.length_take]; omega
    rw [show ((m + 1 : Nat) : Int) - 1 = (m : Int) from by omega]
    repeat (first | (refine sty ?_; try intro _) | (refine st ?_; try intro _) | (refine stz ?_; try intro _))
    refine o_app2 (Mr := []) o (xs := (byN a.num).take (32 - (m + 1))) (ys := [UInt8.ofNat (dg a.num m)]) hown ⟨by simp [hl2]; omega, by simp [hl2]; omega, rfl⟩ rfl rfl rfl rfl inferInstance inferInstance (List.Perm.refl _) ?_
    intro w' o' hown'
    rw [← he] at hown' ⊢
    dsimp only [List.nil_append]
    repeat (first | (refine sty ?_; try intro _) | (refine st ?_; try intro _) | (refine stz ?_; try intro _))
    exact G.ag (S := Nat × Value × OR) (m, w', o') (hpre := ⟨by dsimp only; omega, hown'⟩)
theorem of_nat0 (t : Nat) (ht : t < 256) : Word.of (t : Int) = Word.nat t := by
  have h : ∀ k : Fin 256, Word.of ((k.val : Nat) : Int) = Word.nat k.val := by decide +kernel
  exact h ⟨t, ht⟩
end Go.Rail
