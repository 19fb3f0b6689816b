/- strings.Builder. -/
import Derived.Test.YtpbbjkbackiljaaGreatDoorAEqMul
import Derived.Test.YtpbbjkbackiljaaGreatDoorRailH
import Derived.Test.YtpbbjkbackiljaaGreatDoorRailI
import Derived.Test.YtpbbjkbackiljaaGreatDoorAC14C10
import Derived.Test.YtpbbjkbackiljaaGreatDoorRailF
import Derived.Test.YtpbbjkbackiljaaGreatDoorRailG
set_option linter.unusedSimpArgs false
set_option linter.unusedVariables false
namespace Go.Rail
open Go Go.Proofs
set_option maxHeartbeats 400000
set_option maxRecDepth 4000
attribute [local irreducible] OpK G W LW wpListIn Exit.then Exit.inBlock Post rounds opRun bodyPostM intOp
set_option maxHeartbeats 4000000
instance ptB : PtTy Tryz.prog 179 181 := ⟨Tryz.underlying179⟩
instance ptU : PtTy Tryz.prog 243 5 := ⟨Tryz.underlying243⟩
instance unP : UnTy Tryz.prog 272 := ⟨Tryz.underlying272⟩
instance rmB : Rm Tryz.prog 181 := Rm.of (by kernel_rfl)
instance exNE : ExtF Tryz.prog 312 Extern.AbiNoEscape.same := ⟨fun args w => run_callFunc_extern Tryz.func312 (by kernel_rfl) (by kernel_rfl) (by kernel_rfl) (by kernel_rfl) args w⟩
def bldM (B : Nat) (a : Option Addr) (v : Value) (xs : List UInt8) (o : BO) : Own := (B, Ob [.pointer a, v] 181) :: bufM 5 xs o
theorem copyCheck_spec (B : Nat) (a : Option Addr) (ha : a = none ∨ a = some ⟨B, 0, none⟩) (v : Value) : Fn Tryz.prog 262 [.pointer (some ⟨B, 0, none⟩)] [] [(B, Ob [.pointer a, v] 181)] (fun u Φ' M' => Φ' = [] ∧ M' = [(B, Ob [.pointer (some ⟨B, 0, none⟩), v] 181)]) := by
  rcases ha with rfl | rfl
  · refine Fn.enter Tryz.func262 rfl Tryz.ntmps262 (by simp) (fun I0 w0 => ?_)
    repeat (first | (refine sty ?_; try intro _) | (refine st ?_; try intro _) | (refine stz ?_; try intro _) | (refine stq ?_; try intro _))
    exact G.fin rfl .nil (Φ' := []) (M' := [(B, Ob [.pointer (some ⟨B, 0, none⟩), v] 181)]) inferInstance (List.Sublist.refl _) ⟨rfl, rfl⟩
  · refine Fn.enter Tryz.func262 rfl Tryz.ntmps262 (by simp) (fun I0 w0 => ?_)
    repeat (first | (refine sty ?_; try intro _) | (refine st ?_; try intro _) | (refine stz ?_; try intro _) | (refine stq ?_; try intro _))
    exact G.fin rfl .nil (Φ' := []) (M' := [(B, Ob [.pointer (some ⟨B, 0, none⟩), v] 181)]) inferInstance (List.Sublist.refl _) ⟨rfl, rfl⟩
def RBld (B : Nat) (r : Value) (xs : List UInt8) : Value → List Fa → Own → Prop := fun u Φ' M' => ∃ v' o', IsBuf v' xs o' ∧ u = r ∧ Φ' = [] ∧ M' = bldM B (some ⟨B, 0, none⟩) v' xs o'
theorem writeString_spec (B : Nat) (a : Option Addr) (ha : a = none ∨ a = some ⟨B, 0, none⟩) (v : Value) (xs ys : List UInt8) (o : BO) (hv : IsBuf v xs o) (hl : 2 * (xs.length + ys.length) + 200 ≤ 281474976710656) :
    Fn Tryz.prog 180 [.pointer (some ⟨B, 0, none⟩), .string (ba ys)] [] (bldM B a v xs o) (RBld B (.tuple #[.int .i64 (ys.length : Int), .nilIface]) (xs ++ ys)) := by
  have hc := copyCheck_spec B a ha v
  unfold bldM
  refine Fn.enter Tryz.func180 rfl Tryz.ntmps180 (by simp) (fun I0 w0 => ?_)
  repeat (first | (refine sty ?_; try intro _) | (refine st ?_; try intro _) | (refine stz ?_; try intro _) | (refine stq ?_; try intro _))
  refine OpK.call rfl rfl rfl rfl hc inferInstance (Mr := bufM 5 xs o) (List.Perm.refl _) ?_
  rintro u Φ' Mc' ⟨rfl, rfl⟩
  dsimp only [List.cons_append, List.nil_append]
  repeat (first | (refine sty ?_; try intro _) | (refine st ?_; try intro _) | (refine stz ?_; try intro _) | (refine stq ?_; try intro _))
  refine o_appB (Mr := [(B, Ob [.pointer (some ⟨B, 0, none⟩), v] 181)]) (xs := xs) (ys := ys) o hv hl rfl rfl rfl rfl (List.perm_append_singleton _ _).symm ?_
  intro v' o' hv'
  refine G.perm ?_ (List.perm_append_singleton _ _)
  repeat (first | (refine sty ?_; try intro _) | (refine st ?_; try intro _) | (refine stz ?_; try intro _) | (refine stq ?_; try intro _))
  refine o_store (vs := [v']) rfl rfl rfl (buf_cell hv').1 rfl (Nat.le_refl _) (buf_cell hv').2 rfl ?_
  repeat (first | (refine sty ?_; try intro _) | (refine st ?_; try intro _) | (refine stz ?_; try intro _) | (refine stq ?_; try intro _))
  exact G.ret rfl (.cons (.tmp rfl) (.cons (.tmp rfl) .nil)) (Φ' := []) (M' := (B, Ob [.pointer (some ⟨B, 0, none⟩), v'] 181) :: bufM 5 (xs ++ ys) o') inferInstance (List.Sublist.refl _) ⟨v', o', hv', rfl, rfl, rfl⟩
theorem bString_spec (B : Nat) (a : Option Addr) (v : Value) (xs : List UInt8) (o : BO) (hv : IsBuf v xs o) (hl : xs.length ≤ 9223372036854775807) :
    Fn Tryz.prog 182 [.pointer (some ⟨B, 0, none⟩)] [] (bldM B a v xs o) (fun u Φ' M' => ∃ o', IsBuf v xs o' ∧ u = .string (ba xs) ∧ Φ' = [] ∧ M' = bldM B a v xs o') := by
  unfold bldM
  cases o with
  | none =>
    obtain ⟨rfl, rfl⟩ := hv
    unfold bufM
    refine Fn.enter Tryz.func182 rfl Tryz.ntmps182 (by simp) (fun I0 w0 => ?_)
    repeat (first | (refine sty ?_; try intro _) | (refine st ?_; try intro _) | (refine stz ?_; try intro _) | (refine stq ?_; try intro _))
    refine W.drawA 10 [dq _, dq _, dq _, dq _, dq _, dq _, dq _, dq _, dq _, dq _] [[], [0], [1], [2], [3], [], [5], [6], [7], [8]] [4, 9] (hrest := fun c => nrm ?_) (hops := by
      iterate 10 refine AllQ.aq ?_
      exact AllQ.nil)
    repeat (first | (refine sty ?_; try intro _) | (refine st ?_; try intro _) | (refine stz ?_; try intro _) | (refine stq ?_; try intro _))
    refine o_unsafeString0 rfl rfl rfl rfl ?_
    repeat (first | (refine sty ?_; try intro _) | (refine st ?_; try intro _) | (refine stz ?_; try intro _) | (refine stq ?_; try intro _))
    exact G.ret rfl (.cons (.tmp rfl) .nil) (Φ' := []) (M' := [(B, Ob [.pointer a, .slice none 0 0] 181)]) inferInstance (List.Sublist.refl _) ⟨none, ⟨rfl, rfl⟩, rfl, rfl, rfl⟩
  | some q =>
    obtain ⟨b, ex, k⟩ := q
    obtain ⟨rfl, hk1, hk2⟩ := hv
    unfold bufM
    refine Fn.enter Tryz.func182 rfl Tryz.ntmps182 (by simp) (fun I0 w0 => ?_)
    repeat (first | (refine sty ?_; try intro _) | (refine st ?_; try intro _) | (refine stz ?_; try intro _) | (refine stq ?_; try intro _))
    refine W.drawA 10 [dq _, dq _, dq _, dq _, dq _, dq _, dq _, dq _, dq _, dq _] [[], [0], [1], [2], [3], [], [5], [6], [7], [8]] [4, 9] (hrest := fun c => nrm ?_) (hops := by
      iterate 10 refine AllQ.aq ?_
      exact AllQ.nil)
    repeat (first | (refine sty ?_; try intro _) | (refine st ?_; try intro _) | (refine stz ?_; try intro _) | (refine stq ?_; try intro _))
    refine o_unsafeString (by kernel_rfl) hk1 hl rfl rfl rfl rfl ?_
    repeat (first | (refine sty ?_; try intro _) | (refine st ?_; try intro _) | (refine stz ?_; try intro _) | (refine stq ?_; try intro _))
    exact G.ret rfl (.cons (.tmp rfl) .nil) (Φ' := []) (M' := [(B, Ob [.pointer a, .slice (some ⟨b, 0, none⟩) xs.length (xs.length + ex.length)] 181), (b, bufO 5 xs ex xs.length)]) inferInstance (List.Sublist.refl _) ⟨some (b, ex, xs.length), ⟨rfl, Nat.le_refl _, hk2⟩, rfl, rfl, rfl⟩
end Go.Rail
namespace Go.Rail
open Go Go.Proofs
set_option maxHeartbeats 400000
set_option maxRecDepth 4000
attribute [local irreducible] OpK G W LW wpListIn Exit.then Exit.inBlock Post rounds opRun bodyPostM intOp
set_option maxHeartbeats 4000000
instance exIB : ExtF Tryz.prog 340 Extern.BytealgIndexByte.indexByte := ⟨fun args w => run_callFunc_extern Tryz.func340 (by kernel_rfl) (by kernel_rfl) (by kernel_rfl) (by kernel_rfl) args w⟩
end Go.Rail
namespace Go.Rail
open Go Go.Proofs
set_option maxHeartbeats 400000
set_option maxRecDepth 4000
attribute [local irreducible] OpK G W LW wpListIn Exit.then Exit.inBlock Post rounds opRun bodyPostM intOp
set_option maxHeartbeats 4000000
def digsL : List UInt8 := [48, 49, 50, 51, 52, 53, 54, 55, 56, 57, 97, 98, 99, 100, 101, 102]
def hx1 (n : Nat) : UInt8 := digsL.getD n 0
def behN (n : Nat) : Nat := if 96 ≤ n ∧ n ≤ 127 then n - 95 else 0
theorem behN_le (n : Nat) : behN n ≤ 32 := by unfold behN; split <;> omega
theorem behind_spec (n : Nat) (hn : n < 256) : FnV Tryz.prog 321 [.int .u8 (n : Int)] [] (.int .i64 ((behN n : Nat) : Int)) := by
  refine Fn.enter Tryz.func321 rfl Tryz.ntmps321 (by simp) (fun I0 w0 => ?_)
  unfold behN
  by_cases h : 96 ≤ n ∧ n ≤ 127
  · rw [if_pos h]
    repeat (first | (refine sty ?_; try intro _) | (refine st ?_; try intro _) | (refine stz ?_; try intro _) | (refine stq ?_; try intro _))
    refine G.retV ?_
    refine congrArg (Value.int .i64) ?_
    omega
  · rw [if_neg h]
    by_cases h1 : 96 ≤ n
    · repeat (first | (refine sty ?_; try intro _) | (refine st ?_; try intro _) | (refine stz ?_; try intro _) | (refine stq ?_; try intro _))
      refine G.retV ?_
      rfl
    · repeat (first | (refine sty ?_; try intro _) | (refine st ?_; try intro _) | (refine stz ?_; try intro _) | (refine stq ?_; try intro _))
      refine G.retV ?_
      rfl
end Go.Rail
namespace Go.Rail
open Go Go.Proofs
set_option maxHeartbeats 400000
set_option maxRecDepth 4000
attribute [local irreducible] OpK G W LW wpListIn Exit.then Exit.inBlock Post rounds opRun bodyPostM intOp
set_option maxHeartbeats 4000000
def plcF (l : List UInt8) : Nat → Nat → List Nat
  | 0, _ => []
  | f + 1, p => if p < l.length then p :: plcF l f (p + 1 + behN (l.getD p 0).toNat) else []
def plc (l : List UInt8) : List Nat := plcF l l.length 0
theorem plcF_done {l : List UInt8} {f p : Nat} (h : l.length ≤ p) : plcF l f p = [] := by
  cases f with
  | zero => rfl
  | succ f => unfold plcF; rw [if_neg (by omega)]
theorem plcF_step {l : List UInt8} {f p : Nat} (hf : l.length ≤ f + p) (h : p < l.length) : ∃ g, f = g + 1 ∧ plcF l f p = p :: plcF l g (p + 1 + behN (l.getD p 0).toNat) ∧ l.length ≤ g + (p + 1 + behN (l.getD p 0).toNat) := by
  cases f with
  | zero => omega
  | succ g => exact ⟨g, rfl, by conv => lhs; unfold plcF; rw [if_pos h], by omega⟩
def plE (l : List UInt8) : List (List Value) := (plc l).map fun (p : Nat) => [.int .i64 (p : Int), .int .u8 (((l.getD p 0).toNat : Nat) : Int)]
theorem plE_len (l : List UInt8) : (plE l).length = (plc l).length := by simp [plE]
theorem plE_two (l : List UInt8) : ∀ vs ∈ plE l, vs.length = 2 := by
  intro vs h
  obtain ⟨p, _, rfl⟩ := List.mem_map.1 h
  rfl
theorem plE_at (l : List UInt8) (k p : Nat) (h : k < (plE l).length) (hp : (plc l)[k]? = some p) : (plE l)[k] = [.int .i64 (p : Int), .int .u8 (((l.getD p 0).toNat : Nat) : Int)] := by
  obtain ⟨h1, h2⟩ := List.getElem?_eq_some_iff.1 hp
  simp [plE, h2]
structure PlSt where
  k : Nat
  p : Nat
  f : Nat
  s : St
theorem places1_spec (b : Nat) (l : List UInt8) (hl : l.length ≤ 1000000000) : IterR Tryz.prog 320 [.pointer (some ⟨b, 0, none⟩)] (plE l) [fBlk b [.string (ba l)] 9] := by
  intro y T Z hy s0 hs0
  rw [plE_len]
  show Fn _ _ _ (fBlk b [.string (ba l)] 9 :: s0.1) _ _
  refine Fn.enter Tryz.func320 rfl Tryz.ntmps320 (by simp) (fun I0 w0 => ?_)
  repeat (first | (refine sty ?_; try intro _) | (refine st ?_; try intro _) | (refine stz ?_; try intro _) | (refine stq ?_; try intro _))
  refine W.lp (S := PlSt) (fun i => (fBlk b [.string (ba l)] 9 :: i.s.1, [(0, .func (.yield y) #[] #[]), (1, .pointer (some ⟨b, 0, none⟩)), (3, .int .i64 (i.p : Int))], i.s.2)) (fun i => l.length ≤ i.f + i.p ∧ i.k ≤ (plc l).length ∧ (plc l).drop i.k = plcF l i.f i.p ∧ i.p ≤ l.length + 100 ∧ T i.k i.s) (fun i => (plc l).length - i.k) ⟨0, 0, l.length, s0⟩ ?_ (h0 := ⟨by dsimp only; omega, Nat.zero_le _, rfl, by dsimp only; omega, hs0⟩) (hΦ := ⟨fun I hp φ hφ => hp φ hφ⟩)
  rintro ⟨k, p, f, sa⟩ ⟨hf, hk, hd, hp100, hT⟩
  dsimp only at hf hk hd hp100 hT ⊢
  by_cases hp : p < l.length
  · obtain ⟨g, rfl, hg1, hg2⟩ := plcF_step hf hp
    rw [hg1] at hd
    have hkl : k < (plc l).length := by
      rcases Nat.lt_or_ge k (plc l).length with h | h
      · exact h
      · rw [List.drop_eq_nil_of_le h] at hd; cases hd
    have hkp : (plc l)[k]? = some p := by
      have := congrArg List.head? hd
      rw [List.head?_drop] at this; exact this
    have hd2 : (plc l).drop (k + 1) = plcF l g (p + 1 + behN (l.getD p 0).toNat) := by
      have := congrArg List.tail hd
      rwa [List.tail_drop] at this
    have hyk := hy k (by rw [plE_len]; exact hkl) sa hT
    rw [plE_at l k p (by rw [plE_len]; exact hkl) hkp] at hyk
    have hlp : l[p]? = some (l.getD p 0) := by rw [List.getD_eq_getElem?_getD, List.getElem?_eq_getElem hp]; rfl
    have hbh := behind_spec (l.getD p 0).toNat (l.getD p 0).toNat_lt
    have hb32 := behN_le (l.getD p 0).toNat
    generalize behN (l.getD p 0).toNat = n at hg1 hg2 hd hd2 hbh hb32
    generalize l.getD p 0 = ch at hyk hlp hbh
    obtain ⟨_, he⟩ := List.getElem?_eq_some_iff.1 hlp
    repeat (first | (refine sty ?_; try intro _) | (refine st ?_; try intro _) | (refine stz ?_; try intro _) | (refine stq ?_; try intro _))
    rw [he]
    refine o_yieldR (Mr := []) rfl rfl rfl rfl hyk (fun I hp φ hφ => hp φ (by simp [hφ])) (by simp) ?_ ?_
    · intro st2 hst2
      rw [List.append_nil]
      refine G.weaken (Φ' := fBlk b [.string (ba l)] 9 :: st2.1) ?_ (fun φ hφ => (List.mem_cons.1 hφ).elim (fun e => List.mem_append_right _ (by rw [e]; exact .head _)) (fun h => List.mem_append_left _ h)) (fun _ _ h => h) (List.Sublist.refl _)
      repeat (first | (refine sty ?_; try intro _) | (refine st ?_; try intro _) | (refine stz ?_; try intro _) | (refine stq ?_; try intro _))
      rw [he]
      repeat (first | (refine sty ?_; try intro _) | (refine st ?_; try intro _) | (refine stz ?_; try intro _) | (refine stq ?_; try intro _))
      refine o_callV rfl rfl rfl rfl hbh rfl ?_
      repeat (first | (refine sty ?_; try intro _) | (refine st ?_; try intro _) | (refine stz ?_; try intro _) | (refine stq ?_; try intro _))
      refine G.ag (S := PlSt) ⟨k + 1, p + (1 + n), g, st2⟩ (hpre := ⟨by dsimp only; omega, by dsimp only; omega, by rw [← Nat.add_assoc]; exact hd2, by dsimp only; omega, hst2⟩) (hΦ := ⟨fun I hp φ hφ => ?_⟩) (hM := List.Sublist.refl _)
      exact hp φ hφ
    · intro s hs
      rw [List.append_nil]
      repeat (first | (refine sty ?_; try intro _) | (refine st ?_; try intro _) | (refine stz ?_; try intro _) | (refine stq ?_; try intro _))
      exact G.ret rfl .nil (Φ' := s.1) (M' := s.2) ⟨fun I hp φ hφ => hp φ (by simp [hφ])⟩ (List.Sublist.refl _) (.inr hs)
  · rw [plcF_done (by omega)] at hd
    have hkl : k = (plc l).length := by
      have := congrArg List.length hd
      rw [List.length_drop] at this
      have h0 : ([] : List Nat).length = 0 := rfl
      omega
    subst hkl
    repeat (first | (refine sty ?_; try intro _) | (refine st ?_; try intro _) | (refine stz ?_; try intro _) | (refine stq ?_; try intro _))
    exact G.fin rfl .nil (Φ' := sa.1) (M' := sa.2) ⟨fun I hp φ hφ => hp φ (.tail _ hφ)⟩ (List.Sublist.refl _) (.inl hT)
theorem places_spec (l : List UInt8) : Fn Tryz.prog 273 [.string (ba l)] [] [] (fun u Φ' M' => ∃ b, u = .func (.func 320) #[] #[.pointer (some ⟨b, 0, none⟩)] ∧ Φ' = [fBlk b [.string (ba l)] 9] ∧ M' = []) := by
  refine Fn.enter Tryz.func273 rfl Tryz.ntmps273 (by simp) (fun I0 w0 => ?_)
  repeat (first | (refine sty ?_; try intro _) | (refine st ?_; try intro _) | (refine stz ?_; try intro _) | (refine stq ?_; try intro _))
  rename_i b
  refine o_func rfl rfl rfl rfl ?_
  repeat (first | (refine sty ?_; try intro _) | (refine st ?_; try intro _) | (refine stz ?_; try intro _) | (refine stq ?_; try intro _))
  refine G.give b (cs := [.string (ba l)]) (t := 9) ?_
  exact G.ret rfl (.cons (.tmp rfl) .nil) (Φ' := [fBlk b [.string (ba l)] 9]) (M' := []) inferInstance (List.nil_sublist _) ⟨b, rfl, rfl, rfl⟩
end Go.Rail
namespace Go.Rail
open Go Go.Proofs
set_option maxHeartbeats 400000
set_option maxRecDepth 4000
attribute [local irreducible] OpK G W LW wpListIn Exit.then Exit.inBlock Post rounds opRun bodyPostM intOp
set_option maxHeartbeats 4000000
theorem plcF_len (l : List UInt8) : ∀ f p, (plcF l f p).length ≤ f
  | 0, _ => Nat.le_refl _
  | f + 1, p => by
    unfold plcF
    split
    · rw [List.length_cons]; have := plcF_len l f (p + 1 + behN (l.getD p 0).toNat); omega
    · exact Nat.zero_le _
def jmT (l : List UInt8) (k : Nat) : List Int := (((plc l).take k).filter fun (p : Nat) => decide ((l.getD p 0).toNat = 91)).map fun (p : Nat) => (p : Int)
def jmL (l : List UInt8) : List Int := ((plc l).filter fun (p : Nat) => decide ((l.getD p 0).toNat = 91)).map fun (p : Nat) => (p : Int)
theorem jmT_all (l : List UInt8) : jmT l (plc l).length = jmL l := by rw [jmT, jmL, List.take_length]
theorem jmT_len (l : List UInt8) (k : Nat) : (jmT l k).length ≤ l.length := by
  rw [jmT, List.length_map]
  have h1 := List.length_filter_le (fun (p : Nat) => decide ((l.getD p 0).toNat = 91)) ((plc l).take k)
  have h2 := plcF_len l l.length 0
  have h3 : ((plc l).take k).length ≤ (plc l).length := by rw [List.length_take]; omega
  rw [plc] at h3
  rw [plc] at h1 ⊢
  omega
theorem jmT_step (l : List UInt8) (k p : Nat) (hp : (plc l)[k]? = some p) : jmT l (k + 1) = jmT l k ++ (if (l.getD p 0).toNat = 91 then [(p : Int)] else []) := by
  obtain ⟨h1, h2⟩ := List.getElem?_eq_some_iff.1 hp
  rw [jmT, jmT, List.take_succ_eq_append_getElem h1, h2, List.filter_append, List.map_append]
  by_cases h : (l.getD p 0).toNat = 91
  · rw [if_pos h, List.filter_cons_of_pos (by simpa using h)]; rfl
  · rw [if_neg h, List.filter_cons_of_neg (by simpa using h)]; rfl
theorem jumpsO_spec (l : List UInt8) (hl : l.length ≤ 100000) : Fn Tryz.prog 193 [.string (ba l)] [] [] (ROwn 3 (jmL l)) := by
  have hpl := places_spec l
  refine Fn.enter Tryz.func193 rfl Tryz.ntmps193 (by simp) (fun I0 w0 => ?_)
  repeat (first | (refine sty ?_; try intro _) | (refine st ?_; try intro _) | (refine stz ?_; try intro _) | (refine stq ?_; try intro _))
  rename_i b2
  refine OpK.call rfl rfl rfl rfl hpl inferInstance (Mr := _) (List.Perm.refl _) ?_
  rintro u Φ' Mc' ⟨b, rfl, rfl, rfl⟩
  dsimp only [List.cons_append, List.nil_append]
  repeat (first | (refine sty ?_; try intro _) | (refine st ?_; try intro _) | (refine stz ?_; try intro _) | (refine stq ?_; try intro _))
  refine W.rangeFuncR (enc := plE l) (ps := [7, 8]) (Φi := [fBlk b [.string (ba l)] 9]) (Mr := []) (fun k s => ∃ w o, IsOwn 1 w (jmT l k).length o ∧ s = ([fRow (ocells o) (jmT l k)], (b2, Ob [w] 38) :: ownM 3 o)) (fun _ _ => False) rfl (places1_spec b l (by omega)) (by decide) (plE_two l) inferInstance ([fRow ([] : List Value) ([] : List Int)], [(b2, Ob [.slice none 0 0] 38)]) ⟨_, none, ⟨rfl, rfl⟩, rfl⟩ inferInstance (List.Perm.refl _) ?_ ?_ ?_
  · rintro y rec I0' w0' k hk _ ⟨w, o, hown, rfl⟩
    rw [plE_len] at hk
    obtain ⟨p, hp⟩ : ∃ p, (plc l)[k]? = some p := ⟨_, List.getElem?_eq_getElem hk⟩
    have hst := jmT_step l k p hp
    have hlen := jmT_len l k
    dsimp only
    rw [plE_at l k p (by rw [plE_len]; exact hk) hp]
    generalize l.getD p 0 = ch at hst ⊢
    show W _ _ _ _ ((8, .int .u8 ((ch.toNat : Nat) : Int)) :: (7, .int .i64 (p : Int)) :: _) _
    repeat (first | (refine sty ?_; try intro _) | (refine st ?_; try intro _) | (refine stz ?_; try intro _) | (refine stq ?_; try intro _))
    refine G.begin (by rfl) ?_
    by_cases h91 : ch.toNat = 91
    · rw [if_pos h91] at hst
      repeat (first | (refine sty ?_; try intro _) | (refine st ?_; try intro _) | (refine stz ?_; try intro _) | (refine stq ?_; try intro _))
      refine o_app2 (Mr := [_, _]) o (xs := jmT l k) (ys := [(p : Int)]) hown ⟨by simp; omega, by simp; omega, rfl⟩ rfl rfl rfl rfl inferInstance inferInstance (List.Perm.refl _) ?_
      intro w' o' hown'
      rw [← hst] at hown' ⊢
      dsimp only [List.cons_append, List.nil_append]
      repeat (first | (refine sty ?_; try intro _) | (refine st ?_; try intro _) | (refine stz ?_; try intro _) | (refine stq ?_; try intro _))
      refine o_store (vs := [w']) (cs' := [w']) rfl rfl rfl (own_cell hown').1 rfl (Nat.le_of_ble_eq_true rfl) (own_cell hown').2 rfl ?_
      repeat (first | (refine sty ?_; try intro _) | (refine st ?_; try intro _) | (refine stz ?_; try intro _) | (refine stq ?_; try intro _))
      refine G.roundEnd inferInstance (Φ' := [fRow (ocells o') (jmT l (k + 1))]) (M'' := (b2, Ob [w'] 38) :: ownM 3 o') ?_ inferInstance (by first | exact List.Sublist.refl _ | exact .cons _ (List.Sublist.refl _))
      exact Or.inl ⟨rfl, ([fRow (ocells o') (jmT l (k + 1))], (b2, Ob [w'] 38) :: ownM 3 o'), ⟨w', o', hown', rfl⟩, rfl⟩
    · rw [if_neg h91, List.append_nil] at hst
      rw [← hst] at hown ⊢
      repeat (first | (refine sty ?_; try intro _) | (refine st ?_; try intro _) | (refine stz ?_; try intro _) | (refine stq ?_; try intro _))
      refine G.roundEnd inferInstance (Φ' := [fRow (ocells o) (jmT l (k + 1))]) (M'' := (b2, Ob [w] 38) :: ownM 3 o) ?_ inferInstance (by first | exact List.Sublist.refl _ | exact .cons _ (List.Sublist.refl _))
      exact Or.inl ⟨rfl, ([fRow (ocells o) (jmT l (k + 1))], (b2, Ob [w] 38) :: ownM 3 o), ⟨w, o, hown, rfl⟩, rfl⟩
  · rintro D _ ⟨w, o, hown, rfl⟩
    rw [plE_len, jmT_all] at hown ⊢
    refine G.perm ?_ List.perm_append_comm
    dsimp only [List.cons_append, List.nil_append]
    repeat (first | (refine sty ?_; try intro _) | (refine st ?_; try intro _) | (refine stz ?_; try intro _) | (refine stq ?_; try intro _))
    refine o_store (vs := [w]) (cs' := [w]) rfl rfl rfl (own_cell hown).1 rfl (Nat.le_of_ble_eq_true rfl) (own_cell hown).2 rfl ?_
    repeat (first | (refine sty ?_; try intro _) | (refine st ?_; try intro _) | (refine stz ?_; try intro _) | (refine stq ?_; try intro _))
    refine G.unmark inferInstance ?_
    refine G.give b2 (cs := [w]) (t := 38) ?_
    exact G.ret rfl (.cons (.cell1 rfl) .nil) (Φ' := [fRow (ocells o) (jmL l)]) (M' := ownM 3 o) inferInstance (List.Sublist.refl _) ⟨o, hown, rfl, rfl⟩
  · intro D c s h
    exact h.elim
end Go.Rail
namespace Go.Rail
open Go Go.Proofs
set_option maxHeartbeats 400000
set_option maxRecDepth 4000
attribute [local irreducible] OpK G W LW wpListIn Exit.then Exit.inBlock Post rounds opRun bodyPostM intOp
set_option maxHeartbeats 4000000
theorem rbehind_spec (n : Nat) (hn : n < 256) : FnV Tryz.prog 24 [.int .u8 (n : Int)] [] (.int .i64 ((behN n : Nat) : Int)) := by
  refine Fn.enter Tryz.func24 rfl Tryz.ntmps24 (by simp) (fun I0 w0 => ?_)
  unfold behN
  by_cases h : 96 ≤ n ∧ n ≤ 127
  · rw [if_pos h]
    repeat (first | (refine sty ?_; try intro _) | (refine st ?_; try intro _) | (refine stz ?_; try intro _) | (refine stq ?_; try intro _))
    refine G.retV ?_
    refine congrArg (Value.int .i64) ?_
    omega
  · rw [if_neg h]
    by_cases h1 : 96 ≤ n
    · repeat (first | (refine sty ?_; try intro _) | (refine st ?_; try intro _) | (refine stz ?_; try intro _) | (refine stq ?_; try intro _))
      refine G.retV ?_
      rfl
    · repeat (first | (refine sty ?_; try intro _) | (refine st ?_; try intro _) | (refine stz ?_; try intro _) | (refine stq ?_; try intro _))
      refine G.retV ?_
      rfl
end Go.Rail
