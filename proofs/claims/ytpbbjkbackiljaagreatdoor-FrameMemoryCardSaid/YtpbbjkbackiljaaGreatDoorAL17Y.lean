/- FrameMemory: the walk. -/
import Derived.Test.YtpbbjkbackiljaaGreatDoorAFSP3
import Derived.Test.YtpbbjkbackiljaaGreatDoorAP6
import Derived.Test.YtpbbjkbackiljaaGreatDoorAD5DA
import Derived.Test.YtpbbjkbackiljaaGreatDoorAOneOrd
set_option linter.unusedSimpArgs false
set_option linter.unusedVariables false
namespace Go.Rail
open Go Go.Proofs
set_option maxHeartbeats 400000
set_option maxRecDepth 4000
attribute [local irreducible] OpK G W LW wpListIn Exit.then Exit.inBlock Post rounds opRun bodyPostM intOp
set_option maxHeartbeats 2000000
def stR (a : Int × Int) : Sto := ((pickI a.1 600).toNat, Word.of a.2)
theorem stR_lt (a : Int × Int) : (stR a).1 < 600 := by
  have := pickI_nn a.1 600 (by decide)
  show (pickI a.1 600).toNat < 600
  omega
theorem take_snoc {α : Type} {l : List α} {i : Nat} {x : α} (h : l[i]? = some x) : l.take (i + 1) = l.take i ++ [x] := by
  rw [List.take_add_one, h]; rfl
theorem memory17_walk (v : Value) (raw : List (Int × Int)) (hok : ∀ a ∈ raw, okR a) :
    FnV Tryz.prog 9 [v] [fRp v raw, fKc] (.bool true) := by
  have c1 := awake17_spec
  obtain ⟨l, hl⟩ : ∃ l, l = (raw.take 8).map stR := ⟨_, rfl⟩
  have hll : l.length = min raw.length 8 := by rw [hl, List.length_map, List.length_take, Nat.min_comm]
  have hat : ∀ i (h : i < raw.length), i < 8 → l[i]? = some (stR raw[i]) := by
    intro i h h8
    rw [hl, List.getElem?_map, List.getElem?_take, if_pos h8, List.getElem?_eq_getElem h]
    rfl
  have hs : ∀ s ∈ l, s.1 < 600 := by
    intro s h
    rw [hl] at h
    obtain ⟨a, _, rfl⟩ := List.mem_map.1 h
    exact stR_lt a
  obtain ⟨hrun, hml, hw⟩ := mem_run keccakL (l := l) (by omega) hs
  have hc : (memC l).length ≤ 1000 := by rw [memC_len]; omega
  have hRt : Rt (bgF (memC l) [] 5000) := m_Rt hc (Nat.zero_le _) (by decide) rfl (by decide) (by decide) (by decide)
  have c4 := begin_spec (memC l) [] 5000 (right_Rt.2 hRt)
  have c5 := fun w => fRun_spec (bgF (memC l) [] 5000) w 100 (by decide) hRt
  rw [show runL keccakL 100 (bgF (memC l) [] 5000) = (memE l, 3 * l.length + 1) from hrun] at c5
  have E1 : (memE l).status = 1 := rfl
  have E2 : (memE l).mem = l.foldl mS [] := rfl
  have E3 : (memE l).gas = 5000 - 9 * l.length - 3 * (l.foldl mW 0 : Nat) := rfl
  generalize memE l = E at c5 E1 E2 E3
  rw [← E2] at hml
  refine Fn.enter Tryz.func9 rfl Tryz.ntmps9 (by simp) (fun I0 w0 => ?_)
  refine W.bare (G.slice v raw ?_); intro ad cap e1 k1; subst e1
  refine G.code ?_
  repeat (first | (refine sty ?_; try intro _) | (refine st ?_; try intro _) | (refine stz ?_; try intro _) | (refine stq ?_; try intro _))
  refine o_callV rfl rfl rfl rfl c1 rfl ?_
  repeat (first | (refine sty ?_; try intro _) | (refine st ?_; try intro _) | (refine stz ?_; try intro _) | (refine stq ?_; try intro _))
  refine W.lp (S := Nat) (fun i => ([fRp (.slice ad raw.length cap) raw, fKc], [(6, .int .i64 (i : Int)), (5, .int .i64 (((l.take i).foldl mW 0 : Nat) : Int)), (4, .string (ba (memC (l.take i)))), (3, .bool true), (0, .slice ad raw.length cap)], [])) (fun i => i ≤ l.length) (fun i => l.length - i) 0 ?_ (h0 := Nat.zero_le _)
  intro i hi
  dsimp only at hi ⊢
  by_cases hil : i < l.length
  · have hir : i < raw.length := by omega
    have hi8 : i < 8 := by omega
    have hx := take_snoc (hat i hir hi8)
    have ho := hok _ (List.getElem_mem hir)
    unfold okR at ho
    obtain ⟨⟨o1, o2⟩, o3, o4⟩ := ho
    have c2 := pick17_spec raw[i].1 600 o1 (by decide)
    have p2 := pickI_nn raw[i].1 600 (by decide)
    have cO := of_spec raw[i].2
    have cB := rbytes_spec (Word.of raw[i].2)
    obtain ⟨p, hp⟩ : ∃ p : Nat, pickI raw[i].1 600 = (p : Int) := ⟨(pickI raw[i].1 600).toNat, by omega⟩
    have hst : stR raw[i] = (p, Word.of raw[i].2) := by unfold stR; rw [hp]; rfl
    rw [hst] at hx
    rw [hp] at c2 p2
    have hcl : (memC (l.take i)).length ≤ 296 := by rw [memC_len, List.length_take]; omega
    have hb := byN_len (Word.of raw[i].2).num
    repeat (first | (refine sty ?_; try intro _) | (refine st ?_; try intro _) | (refine stz ?_; try intro _) | (refine stq ?_; try intro _))
    refine o_indexP (off := 0) Prod.fst rfl rfl rfl rfl (by omega) (by omega) rfl ?_; intro q
    repeat (first | (refine sty ?_; try intro _) | (refine st ?_; try intro _) | (refine stz ?_; try intro _) | (refine stq ?_; try intro _))
    refine o_callV rfl rfl rfl rfl c2 rfl ?_
    repeat (first | (refine sty ?_; try intro _) | (refine st ?_; try intro _) | (refine stz ?_; try intro _) | (refine stq ?_; try intro _))
    refine W.drawA 19 [dq _, dq _, dq _, dq _, dk _, (dk fun _ z => fPt z raw[i].2), dq _, dq _, dq _, dq _, dq _, dq _, dq _, dq _, dq _, dq _, dq _, (dk fun _ z => fRp z [UInt8.ofNat (p / 256), UInt8.ofNat (p % 256)]), dq _] [[], [0], [], [], [2,3], [4], [5], [6], [7], [1,8], [9], [], [11], [12], [], [14], [15], [13,16], [17]] [10, 18] (hrest := fun c => nrm ?_) (hops := by
      iterate 1 refine AllQ.aq ?_
      refine AllQ.mk (by intro c z0 Φr Lr K; refine nrm ?_; intro hK; refine o_catT (m := [0x7f]) rfl rfl rfl rfl (by show _ + 1 < _; omega) ?_; exact hK z0) ?_
      iterate 3 refine AllQ.aq ?_
      refine AllQ.mk (by intro c z0 Φr Lr K; refine nrm ?_; intro hK; refine o_indexP (off := 1) Prod.snd rfl rfl rfl rfl (by omega) (by omega) rfl ?_; intro p'; exact hK p') ?_
      iterate 1 refine AllQ.aq ?_
      refine AllQ.mk (by intro c z0 Φr Lr K; refine nrm ?_; intro hK; refine o_callV rfl rfl rfl rfl cO rfl ?_; exact hK z0) ?_
      refine AllQ.mk (by intro c z0 Φr Lr K; refine nrm ?_; intro hK; refine o_callV rfl rfl rfl rfl cB rfl ?_; exact hK z0) ?_
      iterate 1 refine AllQ.aq ?_
      refine AllQ.mk (by intro c z0 Φr Lr K; refine nrm ?_; intro hK; refine o_catT (m := [0x61]) rfl rfl rfl rfl (by rw [List.length_append, List.length_append, hb]; show _ + 1 + _ + 1 < _; omega) ?_; exact hK z0) ?_
      iterate 6 refine AllQ.aq ?_
      refine AllQ.mk (by intro c z0 Φr Lr K; refine nrm ?_; intro hK; refine o_litV (xs := [UInt8.ofNat (p / 256), UInt8.ofNat (p % 256)]) rfl rfl rfl (.cons (u8v (p / 256) (by omega)) (.cons (u8v (p % 256) (by omega)) .nil)) inferInstance inferInstance rfl rfl ?_; intro v; exact hK v) ?_
      iterate 1 refine AllQ.aq ?_
      exact AllQ.nil)
    repeat (first | (refine sty ?_; try intro _) | (refine st ?_; try intro _) | (refine stz ?_; try intro _) | (refine stq ?_; try intro _))
    have hm1 : (if ((List.foldl mW 0 (l.take i) : Nat) : Int) < (((p + 32 + 31) / 32 : Nat) : Int) then (((p + 32 + 31) / 32 : Nat) : Int) else ((List.foldl mW 0 (l.take i) : Nat) : Int)) = ((List.foldl mW 0 (l.take (i + 1)) : Nat) : Int) := by
      rw [hx, List.foldl_append]
      show _ = ((max (List.foldl mW 0 (l.take i)) ((p + 63) / 32) : Nat) : Int)
      rw [show p + 32 + 31 = p + 63 from rfl]
      split <;> omega
    rw [hm1]
    have hcd : memC (l.take i) ++ [0x7f] ++ byN (Word.of raw[i].2).num ++ [0x61] ++ [UInt8.ofNat (p / 256), UInt8.ofNat (p % 256)] ++ [0x52] = memC (l.take (i + 1)) := by
      rw [hx, memC_app]
      simp [memC, memB]
    rw [hcd]
    exact G.ag (S := Nat) (i + 1) (hpre := hil)
  · obtain rfl : i = l.length := by omega
    rw [List.take_length]
    have hcs : l.length = raw.length ∨ (l.length < raw.length ∧ l.length = 8) := by omega
    generalize List.foldl mW 0 l = most at *
    have hmm : most * most ≤ 400 := Nat.mul_le_mul hw hw
    by_cases h0 : l.length = 0
    · have h : l.length = raw.length := by omega
      repeat (first | (refine sty ?_; try intro _) | (refine st ?_; try intro _) | (refine stz ?_; try intro _) | (refine stq ?_; try intro _))
      refine o_callV rfl rfl rfl rfl c4 rfl ?_
      refine G.learn (fRp (.slice none 0 0) (bgF (memC l) [] 5000).stack) (e := ⟨fun I hp => Rp.nil none 0⟩) ?_
      repeat (first | (refine sty ?_; try intro _) | (refine st ?_; try intro _) | (refine stz ?_; try intro _) | (refine stq ?_; try intro _))
      refine OpK.call rfl rfl rfl rfl (c5 _) inferInstance (Mr := _) (List.Perm.refl _) ?_
      rintro u Φ' Mc' ⟨a2, k2, rfl, rfl, rfl⟩
      dsimp only [List.cons_append, List.nil_append]
      repeat (first | (refine sty ?_; try intro _) | (refine st ?_; try intro _) | (refine stz ?_; try intro _) | (refine stq ?_; try intro _))
      refine G.retV ?_
      rfl
    obtain ⟨t, ht⟩ : ∃ t, l.length = t + 1 := ⟨l.length - 1, by omega⟩
    have htr : t < raw.length := by omega
    have hlast : l[t]? = some (stR raw[t]) := hat t htr (by omega)
    have hsp : l = l.take t ++ [stR raw[t]] := by
      have := take_snoc hlast
      rw [← ht, List.take_length] at this
      exact this
    have ho := hok _ (List.getElem_mem htr)
    unfold okR at ho
    obtain ⟨⟨o1, o2⟩, o3, o4⟩ := ho
    have c2 := pick17_spec raw[t].1 600 o1 (by decide)
    have p2 := pickI_nn raw[t].1 600 (by decide)
    have cO := of_spec raw[t].2
    have cB := rbytes_spec (Word.of raw[t].2)
    obtain ⟨p, hp⟩ : ∃ p : Nat, pickI raw[t].1 600 = (p : Int) := ⟨(pickI raw[t].1 600).toNat, by omega⟩
    have hst : stR raw[t] = (p, Word.of raw[t].2) := by unfold stR; rw [hp]; rfl
    rw [hp] at c2 p2
    obtain ⟨m1, m2⟩ := mem_last (l.take t) (p, Word.of raw[t].2) (by
      have hs2 : ∀ s ∈ l.take t, s.1 < 600 := fun s h => hs s (List.mem_of_mem_take h)
      obtain ⟨_, r, _⟩ := mem_run keccakL (l := l.take t) (by rw [List.length_take]; omega) hs2
      omega)
    rw [← hst, ← hsp, ← E2] at m1 m2
    rw [show (stR raw[t]).1 = p from by rw [hst]] at m1 m2
    have m3 : (E.mem.take (p + 32)).drop p = byN (Word.of raw[t].2).num := by
      rw [List.drop_take, show p + 32 - p = 32 from by omega, m1, hst]
    have hmin : (if (8 : Int) < (raw.length : Int) then 8 else (raw.length : Int)) = ((t + 1 : Nat) : Int) := by split <;> omega
    have htn : (((t + 1 : Nat) : Int) - 1).toNat = t := by omega
    rcases hcs with h | ⟨h, h8⟩
    all_goals
      repeat (first | (refine sty ?_; try intro _) | (refine st ?_; try intro _) | (refine stz ?_; try intro _) | (refine stq ?_; try intro _))
      refine o_callV rfl rfl rfl rfl c4 rfl ?_
      refine G.learn (fRp (.slice none 0 0) (bgF (memC l) [] 5000).stack) (e := ⟨fun I hp => Rp.nil none 0⟩) ?_
      repeat (first | (refine sty ?_; try intro _) | (refine st ?_; try intro _) | (refine stz ?_; try intro _) | (refine stq ?_; try intro _))
      refine OpK.call rfl rfl rfl rfl (c5 _) inferInstance (Mr := _) (List.Perm.refl _) ?_
      rintro u Φ' Mc' ⟨a2, k2, rfl, rfl, rfl⟩
      dsimp only [List.cons_append, List.nil_append]
      repeat (first | (refine sty ?_; try intro _) | (refine st ?_; try intro _) | (refine stz ?_; try intro _) | (refine stq ?_; try intro _))
      simp only [hmin, htn]
      refine o_indexP (off := 0) Prod.fst rfl rfl rfl rfl (by omega) (by omega) rfl ?_; intro q
      repeat (first | (refine sty ?_; try intro _) | (refine st ?_; try intro _) | (refine stz ?_; try intro _) | (refine stq ?_; try intro _))
      refine o_callV rfl rfl rfl rfl c2 rfl ?_
      repeat (first | (refine sty ?_; try intro _) | (refine st ?_; try intro _) | (refine stz ?_; try intro _) | (refine stq ?_; try intro _))
      refine W.drawA 16 [dq _, dq _, dq _, dq _, dq _, dq _, dq _, dq _, dq _, dq _, dq _, (dk fun _ z => fPt z raw[t]), (dk fun _ z => fPt z raw[t].2), dq _, dq _, dq _] [[], [0], [1], [1,2], [1], [1], [1,5], [1,3,4,6], [1], [1], [1,9], [1,8,10], [1,11], [1,12], [1,13], [1,14]] [1, 7, 15] (hrest := fun c => nrm ?_) (hops := by
        iterate 7 refine AllQ.aq ?_
        refine AllQ.mk (by intro c z0 Φr Lr K; refine nrm ?_; intro hK; refine o_slT p (p + 32) rfl rfl rfl ⟨_, _, rfl, rfl⟩ ⟨_, _, rfl, by omega⟩ (by omega) m2 ?_; exact hK z0) ?_
        iterate 2 refine AllQ.aq ?_
        refine AllQ.mk (by intro c z0 Φr Lr K; refine nrm ?_; intro hK; refine o_int rfl rfl rfl rfl (v := .int .i64 (t : Int)) (by rw [i_sub (by omega) (by omega), show ((t + 1 : Nat) : Int) - 1 = t from by omega]) ?_; exact hK z0) ?_
        refine AllQ.mk (by intro c z0 Φr Lr K; refine nrm ?_; intro hK; refine o_idxN t rfl rfl rfl rfl rfl htr ?_; intro p'; exact hK p') ?_
        refine AllQ.mk (by intro c z0 Φr Lr K; refine nrm ?_; intro hK; refine o_indexP (off := 1) Prod.snd rfl rfl rfl rfl (by omega) (by omega) rfl ?_; intro p'; exact hK p') ?_
        iterate 1 refine AllQ.aq ?_
        refine AllQ.mk (by intro c z0 Φr Lr K; refine nrm ?_; intro hK; refine o_callV rfl rfl rfl rfl cO rfl ?_; exact hK z0) ?_
        refine AllQ.mk (by intro c z0 Φr Lr K; refine nrm ?_; intro hK; refine o_callV rfl rfl rfl rfl cB rfl ?_; exact hK z0) ?_
        exact AllQ.nil)
      repeat (first | (refine sty ?_; try intro _) | (refine st ?_; try intro _) | (refine stz ?_; try intro _) | (refine stq ?_; try intro _))
      refine G.retV ?_
      rfl
end Go.Rail
