/- slices.Values of texts; memory.Grow, Slice, Copy, Piece; gas.Exp. -/
import Derived.Test.YtpbbjkbackiljaaGreatDoorAF3F4
import Derived.Test.YtpbbjkbackiljaaGreatDoorAB1BC
import Derived.Test.YtpbbjkbackiljaaGreatDoorRailD
set_option linter.unusedSimpArgs false
set_option linter.unusedVariables false
namespace Go.Rail
open Go Go.Proofs
set_option maxHeartbeats 400000
set_option maxRecDepth 4000
attribute [local irreducible] OpK G W LW wpListIn Exit.then Exit.inBlock Post rounds opRun bodyPostM intOp
set_option maxHeartbeats 1000000
attribute [local irreducible] addW cmpW Word.nat
theorem valuesS1_spec (b : Nat) (v : Value) (xs : List ByteArray) (h1 : xs.length ≤ 1000000) : IterR Tryz.prog 276 [.pointer (some ⟨b, 0, none⟩)] (xs.map fun k => [.string k]) [fBlk b [v] 200, fRp v xs] := by
  intro l T Z hy s0 hs0
  have hy' : ∀ k (h : k < xs.length) s, T k s → FnY Tryz.prog l [.string xs[k]] s.1 s.2 (YRr (T (k + 1)) Z) := fun k h s hs => by
    have := hy k (by simpa using h) s hs
    simpa using this
  rw [List.length_map]
  show Fn _ _ _ (fBlk b [v] 200 :: fRp v xs :: s0.1) _ _
  refine Fn.enter Tryz.func276 rfl Tryz.ntmps276 (by simp) (fun I0 w0 => ?_)
  repeat (first | (refine sty ?_; try intro _) | (refine st ?_; try intro _) | (refine stz ?_; try intro _) | (refine stq ?_; try intro _))
  refine W.loopI (fun (s : Nat × St) => (fBlk b [v] 200 :: fRp v xs :: s.2.1, [(0, .func (.yield l) #[] #[]), (5, v), (6, .int .i64 xs.length), (7, .int .i64 s.1)], s.2.2)) (fun s => s.1 ≤ xs.length ∧ T s.1 s.2) (fun s => xs.length - s.1) (0, s0) ⟨Nat.zero_le _, hs0⟩ ⟨fun I hp => hp⟩ (look_sub_cons rfl (look_sub_cons rfl (look_sub_cons rfl (look_sub_cons rfl look_sub_nil)))) (List.Sublist.refl _) ?_
  rintro ⟨i, s1⟩ ⟨hi, hst⟩
  dsimp only at hi hst ⊢
  by_cases hi0 : i = xs.length
  · subst hi0
    repeat (first | (refine sty ?_; try intro _) | (refine st ?_; try intro _) | (refine stz ?_; try intro _) | (refine stq ?_; try intro _))
    exact G.fin rfl .nil (Φ' := s1.1) (M' := s1.2) ⟨fun I hp φ hφ => hp φ (.tail _ (.tail _ hφ))⟩ (List.Sublist.refl _) (.inl hst)
  · have hi1 : i < xs.length := by omega
    repeat (first | (refine sty ?_; try intro _) | (refine st ?_; try intro _) | (refine stz ?_; try intro _) | (refine stq ?_; try intro _))
    refine o_yieldR (Mr := []) rfl rfl rfl rfl (hy' i hi1 s1 hst) (fun I hp φ hφ => hp φ (by simp [hφ])) (by simp) ?_ ?_
    · intro st2 hst2
      repeat (first | (refine sty ?_; try intro _) | (refine st ?_; try intro _) | (refine stz ?_; try intro _) | (refine stq ?_; try intro _))
      refine G.again (S := Nat × St) (i + 1, st2) (by dsimp only; omega) ⟨by dsimp only; omega, hst2⟩ ⟨fun I hp φ hφ => ?_⟩ (look_sub_cons rfl (look_sub_cons rfl (look_sub_cons rfl (look_sub_cons rfl look_sub_nil)))) (by simp)
      rcases List.mem_cons.1 hφ with rfl | hφ
      · exact hp _ (by simp)
      · rcases List.mem_cons.1 hφ with rfl | hφ
        · exact hp _ (by simp)
        · exact hp _ (by simp [hφ])
    · intro s hs
      repeat (first | (refine sty ?_; try intro _) | (refine st ?_; try intro _) | (refine stz ?_; try intro _) | (refine stq ?_; try intro _))
      exact G.ret rfl .nil (Φ' := s.1) (M' := s.2) ⟨fun I hp φ hφ => hp φ (List.mem_append_left _ hφ)⟩ (by simp) (.inr hs)
theorem valuesS_spec (v : Value) (xs : List ByteArray) : Fn Tryz.prog 199 [v] [fRp v xs] [] (fun u Φ' M' => ∃ b, u = .func (.func 276) #[] #[.pointer (some ⟨b, 0, none⟩)] ∧ Φ' = [fBlk b [v] 200] ∧ M' = []) := by
  refine Fn.enter Tryz.func199 rfl Tryz.ntmps199 (by simp) (fun I0 w0 => ?_)
  refine W.bare (G.slice v xs ?_)
  intro a1 c1 e1 k1
  subst e1
  repeat (first | (refine sty ?_; try intro _) | (refine st ?_; try intro _) | (refine stz ?_; try intro _) | (refine stq ?_; try intro _))
  rename_i b
  refine o_func rfl rfl rfl rfl ?_
  repeat (first | (refine sty ?_; try intro _) | (refine st ?_; try intro _) | (refine stz ?_; try intro _) | (refine stq ?_; try intro _))
  refine G.give b (cs := [.slice a1 xs.length c1]) (t := 200) ?_
  exact G.ret rfl (.cons (.tmp rfl) .nil) (Φ' := [fBlk b [.slice a1 xs.length c1] 200]) (M' := []) inferInstance (List.nil_sublist _) ⟨b, rfl, rfl, rfl⟩
theorem joinedV_spec (b : Nat) (v : Value) (xs : List ByteArray) (ts : List (List UInt8)) (ht : xs = ts.map ba) (h1 : ts.length ≤ 1000000) (hx : ts.flatten.length ≤ 100000000) :
    FnV Tryz.prog 198 [.func (.func 276) #[] #[.pointer (some ⟨b, 0, none⟩)]] [fBlk b [v] 200, fRp v xs] (.string (ba ts.flatten)) := by
  subst ht
  have hv := valuesS1_spec b v (ts.map ba) (by simpa using h1)
  rw [List.map_map] at hv
  exact joined_spec 276 [.pointer (some ⟨b, 0, none⟩)] ts _ hv hx
theorem grow_spec (m : List UInt8) (words : Int) (hm : m.length ≤ 1048576) (h32 : m.length % 32 = 0) (h0 : 0 ≤ words) (hw : words ≤ 32768) : FnV Tryz.prog 125 [.string (ba m), .int .i64 words] [] (.tuple #[.string (ba (growF m words.toNat)), .int .i64 0]) := by
  have h1 := mmay_spec m (by omega)
  rw [decide_eq_true ⟨hm, h32⟩] at h1
  have h2 := mwithin_spec words 32768 (by decide)
  rw [show max 0 (min words 32768) = words from by omega] at h2
  have h3 := noughts_spec (words * 32 - m.length) (by omega)
  rw [show (words * 32 - (m.length : Int)).toNat = words.toNat * 32 - m.length from by omega] at h3
  have hfl : [m, List.replicate (words.toNat * 32 - m.length) 0].flatten = growF m words.toNat := by simp [growF]
  refine Fn.enter Tryz.func125 rfl Tryz.ntmps125 (by simp) (fun I0 w0 => ?_)
  repeat (first | (refine sty ?_; try intro _) | (refine st ?_; try intro _) | (refine stz ?_; try intro _) | (refine stq ?_; try intro _))
  refine o_callV rfl rfl rfl rfl h1 rfl ?_
  repeat (first | (refine sty ?_; try intro _) | (refine st ?_; try intro _) | (refine stz ?_; try intro _) | (refine stq ?_; try intro _))
  refine o_callV rfl rfl rfl rfl h2 rfl ?_
  repeat (first | (refine sty ?_; try intro _) | (refine st ?_; try intro _) | (refine stz ?_; try intro _) | (refine stq ?_; try intro _))
  refine o_callV rfl rfl rfl rfl h3 rfl ?_
  repeat (first | (refine sty ?_; try intro _) | (refine st ?_; try intro _) | (refine stz ?_; try intro _) | (refine stq ?_; try intro _))
  rename_i v
  refine OpK.call rfl rfl rfl rfl (valuesS_spec v [ba m, ba (List.replicate (words.toNat * 32 - m.length) 0)]) inferInstance (Mr := []) (by simp) ?_
  rintro u Φ' Mc' ⟨b, rfl, rfl, rfl⟩
  dsimp only [List.cons_append, List.nil_append]
  repeat (first | (refine sty ?_; try intro _) | (refine st ?_; try intro _) | (refine stz ?_; try intro _) | (refine stq ?_; try intro _))
  refine o_callV rfl rfl rfl rfl (joinedV_spec b v [ba m, ba (List.replicate (words.toNat * 32 - m.length) 0)] [m, List.replicate (words.toNat * 32 - m.length) 0] rfl (by simp) (by rw [hfl, growF]; simp; omega)) rfl ?_
  rw [hfl]
  repeat (first | (refine sty ?_; try intro _) | (refine st ?_; try intro _) | (refine stz ?_; try intro _) | (refine stq ?_; try intro _))
  refine G.retV ?_
  rfl
theorem mslice_spec (m : List UInt8) (at_ n : Nat) (hm : m.length ≤ 1048576) (h32 : m.length % 32 = 0) (h : at_ + n ≤ m.length) : FnV Tryz.prog 189 [.string (ba m), .int .i64 (at_ : Int), .int .i64 (n : Int)] [] (.tuple #[.string (ba ((m.drop at_).take n)), .int .i64 0]) := by
  have h1 := there_spec m at_ n (by omega)
  rw [decide_eq_true (by omega)] at h1
  refine Fn.enter Tryz.func189 rfl Tryz.ntmps189 (by simp) (fun I0 w0 => ?_)
  repeat (first | (refine sty ?_; try intro _) | (refine st ?_; try intro _) | (refine stz ?_; try intro _) | (refine stq ?_; try intro _))
  refine o_callV rfl rfl rfl rfl h1 rfl ?_
  repeat (first | (refine sty ?_; try intro _) | (refine st ?_; try intro _) | (refine stz ?_; try intro _) | (refine stq ?_; try intro _))
  refine G.retV ?_
  refine congrArg (fun z => Value.tuple #[.string (ba z), .int .i64 0]) ?_
  rw [List.drop_take, Nat.add_sub_cancel_left]
theorem mcopy_spec (m s : List UInt8) (at_ : Nat) (hm : m.length ≤ 1048576) (h32 : m.length % 32 = 0) (h : at_ + s.length ≤ m.length) : FnV Tryz.prog 191 [.string (ba m), .int .i64 (at_ : Int), .string (ba s)] [] (.tuple #[.string (ba (m.take at_ ++ s ++ m.drop (at_ + s.length))), .int .i64 0]) := by
  have h1 := there_spec m at_ s.length (by omega)
  rw [decide_eq_true (by omega)] at h1
  have hfl : [(m.take at_).drop 0, s, (m.take m.length).drop (at_ + s.length)].flatten = m.take at_ ++ s ++ m.drop (at_ + s.length) := by simp
  refine Fn.enter Tryz.func191 rfl Tryz.ntmps191 (by simp) (fun I0 w0 => ?_)
  repeat (first | (refine sty ?_; try intro _) | (refine st ?_; try intro _) | (refine stz ?_; try intro _) | (refine stq ?_; try intro _))
  refine o_callV rfl rfl rfl rfl h1 rfl ?_
  repeat (first | (refine sty ?_; try intro _) | (refine st ?_; try intro _) | (refine stz ?_; try intro _) | (refine stq ?_; try intro _))
  refine W.drawA 10 [dq _, dq _, dq _, dq _, dq _, dq _, dq _, dq _, dq _, dq _] [[], [], [0,1], [], [], [], [], [6], [5,7], [4,8]] [2, 3, 9] (hrest := fun c => nrm ?_) (hops := by
    iterate 2 refine AllQ.aq ?_
    refine AllQ.mk (by intro c z0 Φr Lr K; refine nrm ?_; intro hK; refine o_slT 0 at_ rfl rfl rfl bd0 ⟨_, _, rfl, rfl⟩ (Nat.zero_le _) (by omega) ?_; exact hK z0) ?_
    iterate 6 refine AllQ.aq ?_
    refine AllQ.mk (by intro c z0 Φr Lr K; refine nrm ?_; intro hK; refine o_slT (at_ + s.length) m.length rfl rfl rfl ⟨_, _, rfl, rfl⟩ bd0 (by omega) (Nat.le_refl _) ?_; exact hK z0) ?_
    exact AllQ.nil)
  repeat (first | (refine sty ?_; try intro _) | (refine st ?_; try intro _) | (refine stz ?_; try intro _) | (refine stq ?_; try intro _))
  rename_i v
  refine OpK.call rfl rfl rfl rfl (valuesS_spec v [ba ((m.take at_).drop 0), ba s, ba ((m.take m.length).drop (at_ + s.length))]) inferInstance (Mr := []) (by simp) ?_
  rintro u Φ' Mc' ⟨b, rfl, rfl, rfl⟩
  dsimp only [List.cons_append, List.nil_append]
  repeat (first | (refine sty ?_; try intro _) | (refine st ?_; try intro _) | (refine stz ?_; try intro _) | (refine stq ?_; try intro _))
  refine o_callV rfl rfl rfl rfl (joinedV_spec b v [ba ((m.take at_).drop 0), ba s, ba ((m.take m.length).drop (at_ + s.length))] [(m.take at_).drop 0, s, (m.take m.length).drop (at_ + s.length)] rfl (by simp) (by rw [hfl]; simp; omega)) rfl ?_
  rw [hfl]
  repeat (first | (refine sty ?_; try intro _) | (refine st ?_; try intro _) | (refine stz ?_; try intro _) | (refine stq ?_; try intro _))
  refine G.retV ?_
  rfl
theorem byN_ne (n : Nat) : byN n ≠ [] := by
  intro h
  have := byN_len n
  rw [h] at this
  exact absurd this (by decide)
theorem trimLeft_spec (l : List UInt8) (h0 : l ≠ []) (hl : l.length ≤ 1000000) : FnV Tryz.prog 90 [.string (ba l), .string (ba [0])] [] (.string (ba (trimF l))) := by
  have h := trimB_spec l hl
  refine Fn.enter Tryz.func90 rfl Tryz.ntmps90 (by simp) (fun I0 w0 => ?_)
  repeat (first | (refine sty ?_; try intro _) | (refine st ?_; try intro _) | (refine stz ?_; try intro _) | (refine stq ?_; try intro _))
  refine o_ixT 0 rfl rfl rfl rfl rfl (by decide) ?_
  repeat (first | (refine sty ?_; try intro _) | (refine st ?_; try intro _) | (refine stz ?_; try intro _) | (refine stq ?_; try intro _))
  refine o_ixT 0 rfl rfl rfl rfl rfl (by decide) ?_
  repeat (first | (refine sty ?_; try intro _) | (refine st ?_; try intro _) | (refine stz ?_; try intro _) | (refine stq ?_; try intro _))
  refine o_callV rfl rfl rfl rfl h rfl ?_
  repeat (first | (refine sty ?_; try intro _) | (refine st ?_; try intro _) | (refine stz ?_; try intro _) | (refine stq ?_; try intro _))
  refine G.retV ?_
  rfl
theorem gexp_spec (w : Word) : FnV Tryz.prog 56 [w.v] [] (.int .i64 ((50 * (trimF (byN w.num)).length : Nat) : Int)) := by
  have h1 := wbytes_spec w
  have h2 := trimLeft_spec (byN w.num) (byN_ne _) (by rw [byN_len]; decide)
  have h3 : (trimF (byN w.num)).length ≤ 32 := by
    have := (List.dropWhile_sublist (l := byN w.num) (· == 0)).length_le
    rw [byN_len] at this
    exact this
  refine Fn.enter Tryz.func56 rfl Tryz.ntmps56 (by simp) (fun I0 w0 => ?_)
  repeat (first | (refine sty ?_; try intro _) | (refine st ?_; try intro _) | (refine stz ?_; try intro _) | (refine stq ?_; try intro _))
  refine o_callV rfl rfl rfl rfl h1 rfl ?_
  repeat (first | (refine sty ?_; try intro _) | (refine st ?_; try intro _) | (refine stz ?_; try intro _) | (refine stq ?_; try intro _))
  refine o_callV rfl rfl rfl rfl h2 rfl ?_
  generalize (trimF (byN w.num)) = t at h3 ⊢
  repeat (first | (refine sty ?_; try intro _) | (refine st ?_; try intro _) | (refine stz ?_; try intro _) | (refine stq ?_; try intro _))
  refine G.retV ?_
  refine congrArg (Value.int .i64) ?_
  omega
theorem mpiece_spec (s : List UInt8) (a : Word) (n : Nat) (hs : s.length ≤ 1000000000) : FnV Tryz.prog 188 [.string (ba s), a.v, .int .i64 (n : Int)] [] (.tuple #[.string (ba (partF s a n)), .int .i64 (if n ≤ 1048576 then 0 else 1)]) := by
  by_cases hn : n ≤ 1048576
  · have h1 := mwithin_spec (n : Int) 1048576 (by decide)
    rw [show max 0 (min (n : Int) 1048576) = n from by omega] at h1
    have h2 := wint_spec a
    rw [if_pos hn]
    unfold partF
    rw [if_neg (by omega)]
    by_cases ha : a.num < s.length
    · rw [if_pos (by omega), decide_eq_true (by omega)] at h2
      rw [if_pos ha]
      generalize a.num = f at h2 ha ⊢
      have hd : ((s.take s.length).drop f).length = s.length - f := by simp
      have hd2 : (s.take s.length).drop f = s.drop f := by rw [List.take_length]
      refine Fn.enter Tryz.func188 rfl Tryz.ntmps188 (by simp) (fun I0 w0 => ?_)
      repeat (first | (refine sty ?_; try intro _) | (refine st ?_; try intro _) | (refine stz ?_; try intro _) | (refine stq ?_; try intro _))
      refine o_callV rfl rfl rfl rfl h1 rfl ?_
      repeat (first | (refine sty ?_; try intro _) | (refine st ?_; try intro _) | (refine stz ?_; try intro _) | (refine stq ?_; try intro _))
      refine o_callV rfl rfl rfl rfl h2 rfl ?_
      repeat (first | (refine sty ?_; try intro _) | (refine st ?_; try intro _) | (refine stz ?_; try intro _) | (refine stq ?_; try intro _))
      refine o_slT 0 (min n (s.length - f)) rfl rfl rfl bd0 ⟨_, _, rfl, by rw [hd]; split <;> omega⟩ (Nat.zero_le _) (by rw [hd]; omega) ?_
      have hT2 : (((s.take s.length).drop f).take (min n (s.length - f))).drop 0 = (s.drop f).take n := by
        rw [hd2, List.drop_zero, List.take_eq_take_iff]
        simp
      rw [hT2]
      have hT3 : ((s.drop f).take n).length ≤ n := List.length_take_le _ _
      generalize (s.drop f).take n = t at hT3 ⊢
      have h3 := noughts_spec ((n - t.length : Nat) : Int) (by omega)
      rw [Int.toNat_natCast] at h3
      repeat (first | (refine sty ?_; try intro _) | (refine st ?_; try intro _) | (refine stz ?_; try intro _) | (refine stq ?_; try intro _))
      refine o_callV rfl rfl rfl rfl h3 rfl ?_
      repeat (first | (refine sty ?_; try intro _) | (refine st ?_; try intro _) | (refine stz ?_; try intro _) | (refine stq ?_; try intro _))
      refine G.retV ?_
      rfl
    · rw [if_neg ha]
      by_cases hi : a.num ≤ 4611686018427387903
      · rw [if_pos hi, decide_eq_true hi] at h2
        generalize a.num = f at h2 ha ⊢
        refine Fn.enter Tryz.func188 rfl Tryz.ntmps188 (by simp) (fun I0 w0 => ?_)
        repeat (first | (refine sty ?_; try intro _) | (refine st ?_; try intro _) | (refine stz ?_; try intro _) | (refine stq ?_; try intro _))
        refine o_callV rfl rfl rfl rfl h1 rfl ?_
        repeat (first | (refine sty ?_; try intro _) | (refine st ?_; try intro _) | (refine stz ?_; try intro _) | (refine stq ?_; try intro _))
        refine o_callV rfl rfl rfl rfl h2 rfl ?_
        repeat (first | (refine sty ?_; try intro _) | (refine st ?_; try intro _) | (refine stz ?_; try intro _) | (refine stq ?_; try intro _))
        refine o_slT (s := []) 0 0 rfl rfl rfl bd0 ⟨_, _, rfl, by split <;> (try simp only [List.length_nil] at *) <;> omega⟩ (Nat.le_refl _) (Nat.le_refl _) ?_
        have hz : (List.drop 0 (List.take 0 ([] : List UInt8))).length = 0 := rfl
        generalize hq : List.drop 0 (List.take 0 ([] : List UInt8)) = t at hz ⊢
        have h3 := noughts_spec ((n - t.length : Nat) : Int) (by omega)
        rw [Int.toNat_natCast] at h3
        repeat (first | (refine sty ?_; try intro _) | (refine st ?_; try intro _) | (refine stz ?_; try intro _) | (refine stq ?_; try intro _))
        refine o_callV rfl rfl rfl rfl h3 rfl ?_
        repeat (first | (refine sty ?_; try intro _) | (refine st ?_; try intro _) | (refine stz ?_; try intro _) | (refine stq ?_; try intro _))
        refine G.retV ?_
        subst hq
        rfl
      · rw [if_neg hi, decide_eq_false hi] at h2
        refine Fn.enter Tryz.func188 rfl Tryz.ntmps188 (by simp) (fun I0 w0 => ?_)
        repeat (first | (refine sty ?_; try intro _) | (refine st ?_; try intro _) | (refine stz ?_; try intro _) | (refine stq ?_; try intro _))
        refine o_callV rfl rfl rfl rfl h1 rfl ?_
        repeat (first | (refine sty ?_; try intro _) | (refine st ?_; try intro _) | (refine stz ?_; try intro _) | (refine stq ?_; try intro _))
        refine o_callV rfl rfl rfl rfl h2 rfl ?_
        repeat (first | (refine sty ?_; try intro _) | (refine st ?_; try intro _) | (refine stz ?_; try intro _) | (refine stq ?_; try intro _))
        refine o_slT (s := []) 0 0 rfl rfl rfl bd0 ⟨_, _, rfl, by split <;> (try simp only [List.length_nil] at *) <;> omega⟩ (Nat.le_refl _) (Nat.le_refl _) ?_
        have hz : (List.drop 0 (List.take 0 ([] : List UInt8))).length = 0 := rfl
        generalize hq : List.drop 0 (List.take 0 ([] : List UInt8)) = t at hz ⊢
        have h3 := noughts_spec ((n - t.length : Nat) : Int) (by omega)
        rw [Int.toNat_natCast] at h3
        repeat (first | (refine sty ?_; try intro _) | (refine st ?_; try intro _) | (refine stz ?_; try intro _) | (refine stq ?_; try intro _))
        refine o_callV rfl rfl rfl rfl h3 rfl ?_
        repeat (first | (refine sty ?_; try intro _) | (refine st ?_; try intro _) | (refine stz ?_; try intro _) | (refine stq ?_; try intro _))
        refine G.retV ?_
        subst hq
        rfl
  · have h1 := mwithin_spec (n : Int) 1048576 (by decide)
    rw [show max 0 (min (n : Int) 1048576) = 1048576 from by omega] at h1
    rw [if_neg hn]
    unfold partF
    rw [if_pos (by omega)]
    refine Fn.enter Tryz.func188 rfl Tryz.ntmps188 (by simp) (fun I0 w0 => ?_)
    repeat (first | (refine sty ?_; try intro _) | (refine st ?_; try intro _) | (refine stz ?_; try intro _) | (refine stq ?_; try intro _))
    refine o_callV rfl rfl rfl rfl h1 rfl ?_
    repeat (first | (refine sty ?_; try intro _) | (refine st ?_; try intro _) | (refine stz ?_; try intro _) | (refine stq ?_; try intro _))
    refine G.retV ?_
    rfl
end Go.Rail
namespace Go.Rail
open Go Go.Proofs
set_option maxHeartbeats 4000000
def jmS : Nat → Nat → List UInt8 → List Int
  | _, _, [] => []
  | p, 0, b :: r => if b.toNat = 91 then (p : Int) :: jmS (p + 1) 0 r else jmS (p + 1) (behN b.toNat) r
  | p, k + 1, _ :: r => jmS (p + 1) k r
theorem jmS_z (p : Nat) (b : UInt8) (r : List UInt8) : jmS p 0 (b :: r) = if b.toNat = 91 then (p : Int) :: jmS (p + 1) 0 r else jmS (p + 1) (behN b.toNat) r := rfl
theorem jmS_s (p k : Nat) (b : UInt8) (r : List UInt8) : jmS p (k + 1) (b :: r) = jmS (p + 1) k r := rfl
theorem jmS_skip : ∀ (k p : Nat) (l : List UInt8), jmS p k l = jmS (p + k) 0 (l.drop k)
  | 0, p, l => rfl
  | k + 1, p, [] => by simp [jmS]
  | k + 1, p, b :: r => by
    rw [jmS_s, jmS_skip k (p + 1) r, List.drop_succ_cons, show p + 1 + k = p + (k + 1) from by omega]
theorem plcF_jmS (l : List UInt8) : ∀ f p, l.length ≤ f + p → ((plcF l f p).filter fun (q : Nat) => decide ((l.getD q 0).toNat = 91)).map (fun (q : Nat) => (q : Int)) = jmS p 0 (l.drop p)
  | 0, p, h => by rw [List.drop_eq_nil_of_le (by omega)]; rfl
  | f + 1, p, h => by
    by_cases hp : p < l.length
    · have e : l.drop p = l.getD p 0 :: l.drop (p + 1) := by
        rw [List.drop_eq_getElem_cons hp, List.getD_eq_getElem?_getD, List.getElem?_eq_getElem hp]; rfl
      unfold plcF
      rw [if_pos hp, e, jmS_z]
      have ih := plcF_jmS l f (p + 1 + behN (l.getD p 0).toNat) (by omega)
      by_cases h91 : (l.getD p 0).toNat = 91
      · rw [List.filter_cons_of_pos (by simpa using h91), List.map_cons, ih, if_pos h91, h91]
        simp [behN]
      · rw [List.filter_cons_of_neg (by simpa using h91), ih, if_neg h91, jmS_skip (behN (l.getD p 0).toNat) (p + 1), List.drop_drop]
    · rw [plcF_done (by omega), List.drop_eq_nil_of_le (by omega)]; rfl
theorem jmL_jmS (l : List UInt8) : jmL l = jmS 0 0 l := plcF_jmS l l.length 0 (by omega)
theorem jmS_at : ∀ (l : List UInt8) (p k : Nat), ∀ q ∈ jmS p k l, ∃ i : Nat, q = ((p + i : Nat) : Int) ∧ ∃ b, l[i]? = some b ∧ b.toNat = 91
  | [], p, k, q, h => by simp [jmS] at h
  | b :: r, p, 0, q, h => by
    unfold jmS at h
    split at h
    · rename_i hb
      rcases List.mem_cons.1 h with rfl | h
      · exact ⟨0, rfl, b, rfl, hb⟩
      · obtain ⟨i, hi, b', h1, h2⟩ := jmS_at r (p + 1) 0 q h
        exact ⟨i + 1, by rw [hi]; congr 1; omega, b', by simpa using h1, h2⟩
    · obtain ⟨i, hi, b', h1, h2⟩ := jmS_at r (p + 1) _ q h
      exact ⟨i + 1, by rw [hi]; congr 1; omega, b', by simpa using h1, h2⟩
  | b :: r, p, k + 1, q, h => by
    unfold jmS at h
    obtain ⟨i, hi, b', h1, h2⟩ := jmS_at r (p + 1) k q h
    exact ⟨i + 1, by rw [hi]; congr 1; omega, b', by simpa using h1, h2⟩
end Go.Rail
