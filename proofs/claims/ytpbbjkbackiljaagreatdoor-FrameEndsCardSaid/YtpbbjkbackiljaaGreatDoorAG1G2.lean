/- law17: pick, Program, Frame. -/
import Derived.Test.YtpbbjkbackiljaaGreatDoorAFRBG
import Derived.Test.YtpbbjkbackiljaaGreatDoorAOneRev
namespace Go.Rail
open Go Go.Proofs
set_option linter.unusedSimpArgs false
set_option linter.unusedVariables false
set_option maxHeartbeats 400000
set_option maxRecDepth 4000
attribute [local irreducible] OpK G W LW wpListIn Exit.then Exit.inBlock Post rounds opRun bodyPostM intOp
set_option maxHeartbeats 4000000
theorem pick17_spec (c n : Int) (h1 : -9223372036854775808 ≤ c) (hn : 0 < n) : FnV Tryz.prog 11 [.int .i64 c, .int .i64 n] [] (.int .i64 (pickI c n)) := by
  refine Fn.enter Tryz.func11 rfl Tryz.ntmps11 (by simp) (fun I0 w0 => ?_)
  unfold pickI
  by_cases hc : c < 0
  · rw [if_pos hc]
    repeat (first | (refine sty ?_; try intro _) | (refine st ?_; try intro _) | (refine stz ?_; try intro _) | (refine stq ?_; try intro _))
    refine G.retV ?_
    rfl
  · rw [if_neg hc]
    repeat (first | (refine sty ?_; try intro _) | (refine st ?_; try intro _) | (refine stz ?_; try intro _) | (refine stq ?_; try intro _))
    refine G.retV ?_
    rfl
def locB : List UInt8 := [0x01, 0x02, 0x03, 0x04, 0x06, 0x0a, 0x10, 0x14, 0x15, 0x16, 0x19, 0x1b, 0x20, 0x35, 0x36, 0x37, 0x38, 0x39, 0x3d, 0x3e, 0x50, 0x51, 0x52, 0x53, 0x56, 0x57, 0x58, 0x59, 0x5a, 0x5b, 0x5b, 0x5f, 0x80, 0x81, 0x82, 0x90, 0x91, 0xf3, 0xfd, 0x00, 0xfe, 0x0c]
def progP (a : Int × Int) : List UInt8 :=
  if pickI a.1 5 = 0 ∨ pickI a.1 5 = 1 then [96, u8I (pickI a.2 80)]
  else if pickI a.1 5 = 2 then [97, u8I (pickI a.2 3), u8I (pickI (a.2.tdiv 7) 256)]
  else [locB.getD (pickI a.2 42).toNat 0]
theorem progP_len (a : Int × Int) : (progP a).length ≤ 3 := by
  unfold progP
  split
  · simp
  · split <;> simp
def progT (raw : List (Int × Int)) (i : Nat) : List UInt8 := (raw.take i).flatMap progP
def progR (raw : List (Int × Int)) : List UInt8 := progT raw 40
theorem progT_len (raw : List (Int × Int)) : ∀ i, (progT raw i).length ≤ 3 * i := by
  have h : ∀ l : List (Int × Int), (l.flatMap progP).length ≤ 3 * l.length := by
    intro l
    induction l with
    | nil => exact Nat.zero_le _
    | cons a l ih =>
      have := progP_len a
      rw [List.flatMap_cons, List.length_append, List.length_cons]
      omega
  intro i
  have := h (raw.take i)
  rw [List.length_take] at this
  unfold progT
  omega
theorem progT_step (raw : List (Int × Int)) (i : Nat) (h : i < raw.length) : progT raw (i + 1) = progT raw i ++ progP raw[i] := by
  rw [progT, List.take_succ_eq_append_getElem h, List.flatMap_append]
  simp [progT]
theorem progT_end (raw : List (Int × Int)) (i : Nat) (h : raw.length ≤ i) (h2 : i ≤ 40) : progR raw = progT raw i := by
  rw [progR, progT, progT, List.take_of_length_le h, List.take_of_length_le (by omega)]
theorem tdiv7 (n : Int) (h1 : -9223372036854775808 ≤ n) (h2 : n ≤ 9223372036854775807) : -4000000000000000000 ≤ n.tdiv 7 ∧ n.tdiv 7 ≤ 4000000000000000000 := by
  rw [Int.tdiv_eq_ediv]
  have h3 : (7 : Int).sign = 1 := rfl
  rw [h3]
  split <;> omega
theorem u8g (n : Int) (h0 : 0 ≤ n) (h : n < 256) : Value.int .u8 n = GoFlat.val (u8I n) := by
  show Value.int .u8 n = Value.int .u8 (((u8I n).toNat : Nat) : Int)
  rw [u8I_nat n h0 h]
theorem program_spec (v : Value) (raw : List (Int × Int)) (hok : ∀ a ∈ raw, okR a) : FnV Tryz.prog 33 [v] [fRp v raw] (.string (ba (progR raw))) := by
  refine Fn.enter Tryz.func33 rfl Tryz.ntmps33 (by simp) (fun I0 w0 => ?_)
  refine W.bare (G.slice v raw ?_); intro ad cap e1 k1; subst e1
  refine G.code ?_
  repeat (first | (refine sty ?_; try intro _) | (refine st ?_; try intro _) | (refine stz ?_; try intro _) | (refine stq ?_; try intro _))
  refine o_litV (xs := locB) rfl rfl rfl (by unfold locB; repeat (first | exact FVs.nil | refine FVs.cons rfl ?_)) inferInstance inferInstance rfl rfl ?_
  intro vl
  refine G.slice vl locB ?_
  intro al cl el kl
  subst el
  rw [show locB.length = 42 from rfl]
  repeat (first | (refine sty ?_; try intro _) | (refine st ?_; try intro _) | (refine stz ?_; try intro _) | (refine stq ?_; try intro _))
  refine W.lp (S := CdSt) (fun s => ([fRow (ocells s.o) s.xs, fRp (.slice ad raw.length cap) raw, fRp (.slice al 42 cl) locB], [(5, .int .i64 (s.i : Int)), (3, s.w), (4, .slice al 42 cl), (0, .slice ad raw.length cap)], ownM 5 s.o)) (fun s => s.i ≤ raw.length ∧ s.i ≤ 40 ∧ s.xs = progT raw s.i ∧ IsOwn 1 s.w s.xs.length s.o) (fun s => 40 - s.i) ⟨0, [], .slice none 0 0, none⟩ ?_ (h0 := ⟨Nat.zero_le _, Nat.zero_le _, rfl, ⟨rfl, rfl⟩⟩)
  rintro ⟨i, xs, w, o⟩ ⟨hi, hi40, hxs, hown⟩
  dsimp only at hi hi40 hxs hown ⊢
  have hlen := progT_len raw i
  rw [← hxs] at hlen
  by_cases hil : i < raw.length ∧ i < 40
  · obtain ⟨hil, hi4⟩ := hil
    have hst := progT_step raw i hil
    rw [← hxs] at hst
    have ho := hok _ (List.getElem_mem hil)
    unfold okR at ho
    obtain ⟨⟨o1, o2⟩, o3, o4⟩ := ho
    have hp5 := pick17_spec raw[i].1 5 o1 (by decide)
    have p5 := pickI_nn raw[i].1 5 (by decide)
    repeat (first | (refine sty ?_; try intro _) | (refine st ?_; try intro _) | (refine stz ?_; try intro _) | (refine stq ?_; try intro _))
    refine o_indexP (off := 1) Prod.snd rfl rfl rfl rfl (by omega) (by omega) rfl ?_; intro q
    repeat (first | (refine sty ?_; try intro _) | (refine st ?_; try intro _) | (refine stz ?_; try intro _) | (refine stq ?_; try intro _))
    refine o_indexP (off := 0) Prod.fst rfl rfl rfl rfl (by omega) (by omega) rfl ?_; intro q
    repeat (first | (refine sty ?_; try intro _) | (refine st ?_; try intro _) | (refine stz ?_; try intro _) | (refine stq ?_; try intro _))
    refine o_callV rfl rfl rfl rfl hp5 rfl ?_
    generalize hra : raw[i] = a at *
    unfold progP at hst
    by_cases h01 : pickI a.1 5 = 0 ∨ pickI a.1 5 = 1
    · rw [if_pos h01] at hst
      have hp80 := pick17_spec a.2 80 o3 (by decide)
      have p80 := pickI_nn a.2 80 (by decide)
      have hu := u8g (pickI a.2 80) (by omega) (by omega)
      rcases h01 with h0 | h0
      all_goals
        repeat (first | (refine sty ?_; try intro _) | (refine st ?_; try intro _) | (refine stz ?_; try intro _) | (refine stq ?_; try intro _))
        refine o_callV rfl rfl rfl rfl hp80 rfl ?_
        repeat (first | (refine sty ?_; try intro _) | (refine st ?_; try intro _) | (refine stz ?_; try intro _) | (refine stq ?_; try intro _))
        refine o_litV (xs := [(96 : UInt8), u8I (pickI a.2 80)]) rfl rfl rfl (.cons rfl (.cons hu .nil)) inferInstance inferInstance rfl rfl ?_
        intro u1
        repeat (first | (refine sty ?_; try intro _) | (refine st ?_; try intro _) | (refine stz ?_; try intro _) | (refine stq ?_; try intro _))
        refine o_app2 (Mr := []) o (xs := xs) (ys := [(96 : UInt8), u8I (pickI a.2 80)]) hown ⟨by simp; omega, by simp; omega, rfl⟩ rfl rfl rfl rfl inferInstance inferInstance (List.Perm.refl _) ?_
        intro w1 o1 hown1
        dsimp only [List.nil_append]
        rw [← hst] at hown1 ⊢
        repeat (first | (refine sty ?_; try intro _) | (refine st ?_; try intro _) | (refine stz ?_; try intro _) | (refine stq ?_; try intro _))
        exact G.ag (S := CdSt) ⟨i + 1, progT raw (i + 1), w1, o1⟩ (hpre := ⟨by dsimp only; omega, by dsimp only; omega, rfl, hown1⟩)
    · rw [if_neg h01] at hst
      by_cases h2 : pickI a.1 5 = 2
      · rw [if_pos h2] at hst
        have t7 := tdiv7 a.2 o3 o4
        have hp3 := pick17_spec a.2 3 o3 (by decide)
        have p3 := pickI_nn a.2 3 (by decide)
        have hu3 := u8g (pickI a.2 3) (by omega) (by omega)
        have hp256 := pick17_spec (a.2.tdiv 7) 256 (by omega) (by decide)
        have p256 := pickI_nn (a.2.tdiv 7) 256 (by decide)
        have hu256 := u8g (pickI (a.2.tdiv 7) 256) (by omega) (by omega)
        repeat (first | (refine sty ?_; try intro _) | (refine st ?_; try intro _) | (refine stz ?_; try intro _) | (refine stq ?_; try intro _))
        refine o_callV rfl rfl rfl rfl hp3 rfl ?_
        repeat (first | (refine sty ?_; try intro _) | (refine st ?_; try intro _) | (refine stz ?_; try intro _) | (refine stq ?_; try intro _))
        refine o_int rfl rfl rfl rfl (i_quoI (by decide) (by omega) (by omega)) ?_
        repeat (first | (refine sty ?_; try intro _) | (refine st ?_; try intro _) | (refine stz ?_; try intro _) | (refine stq ?_; try intro _))
        refine o_callV rfl rfl rfl rfl hp256 rfl ?_
        repeat (first | (refine sty ?_; try intro _) | (refine st ?_; try intro _) | (refine stz ?_; try intro _) | (refine stq ?_; try intro _))
        refine o_litV (xs := [(97 : UInt8), u8I (pickI a.2 3), u8I (pickI (a.2.tdiv 7) 256)]) rfl rfl rfl (.cons rfl (.cons hu3 (.cons hu256 .nil))) inferInstance inferInstance rfl rfl ?_
        intro u1
        repeat (first | (refine sty ?_; try intro _) | (refine st ?_; try intro _) | (refine stz ?_; try intro _) | (refine stq ?_; try intro _))
        refine o_app2 (Mr := []) o (xs := xs) (ys := [(97 : UInt8), u8I (pickI a.2 3), u8I (pickI (a.2.tdiv 7) 256)]) hown ⟨by simp; omega, by simp; omega, rfl⟩ rfl rfl rfl rfl inferInstance inferInstance (List.Perm.refl _) ?_
        intro w1 o1 hown1
        dsimp only [List.nil_append]
        rw [← hst] at hown1 ⊢
        repeat (first | (refine sty ?_; try intro _) | (refine st ?_; try intro _) | (refine stz ?_; try intro _) | (refine stq ?_; try intro _))
        exact G.ag (S := CdSt) ⟨i + 1, progT raw (i + 1), w1, o1⟩ (hpre := ⟨by dsimp only; omega, by dsimp only; omega, rfl, hown1⟩)
      · rw [if_neg h2] at hst
        have hp42 := pick17_spec a.2 42 o3 (by decide)
        have p42 := pickI_nn a.2 42 (by decide)
        have hlt : (pickI a.2 42).toNat < locB.length := by show _ < 42; omega
        have hgd : locB.getD (pickI a.2 42).toNat 0 = locB[(pickI a.2 42).toNat]'hlt := by
          rw [List.getD_eq_getElem?_getD, List.getElem?_eq_getElem hlt]; rfl
        rw [hgd] at hst
        repeat (first | (refine sty ?_; try intro _) | (refine st ?_; try intro _) | (refine stz ?_; try intro _) | (refine stq ?_; try intro _))
        refine o_callV rfl rfl rfl rfl hp42 rfl ?_
        repeat (first | (refine sty ?_; try intro _) | (refine st ?_; try intro _) | (refine stz ?_; try intro _) | (refine stq ?_; try intro _))
        refine o_app2 (Mr := []) o (xs := xs) (ys := [locB[(pickI a.2 42).toNat]'hlt]) hown ⟨by simp; omega, by simp; omega, rfl⟩ rfl rfl rfl rfl inferInstance inferInstance (List.Perm.refl _) ?_
        intro w1 o1 hown1
        dsimp only [List.nil_append]
        rw [← hst] at hown1 ⊢
        repeat (first | (refine sty ?_; try intro _) | (refine st ?_; try intro _) | (refine stz ?_; try intro _) | (refine stq ?_; try intro _))
        exact G.ag (S := CdSt) ⟨i + 1, progT raw (i + 1), w1, o1⟩ (hpre := ⟨by dsimp only; omega, by dsimp only; omega, rfl, hown1⟩)
  · have e : progR raw = xs := by
      rw [hxs]
      by_cases h : i = 40
      · subst h; rfl
      · exact progT_end raw i (by omega) hi40
    rw [e]
    have hil2 : i = raw.length ∨ (i < raw.length ∧ i = 40) := by omega
    refine W.bare (G.giveOwn2 (Mr := []) w xs o 5 hown inferInstance (List.Perm.refl _) ?_)
    refine G.code ?_
    rcases hil2 with h | ⟨h, h2⟩
    · repeat (first | (refine sty ?_; try intro _) | (refine st ?_; try intro _) | (refine stz ?_; try intro _) | (refine stq ?_; try intro _))
      refine G.retV ?_
      rfl
    · repeat (first | (refine sty ?_; try intro _) | (refine st ?_; try intro _) | (refine stz ?_; try intro _) | (refine stq ?_; try intro _))
      refine G.retV ?_
      rfl
/-- A frame of a raw program. -/
def frmR (raw : List (Int × Int)) (input : List UInt8) (gas : Int) : Frm := ⟨progR raw, input.take 60, 0, [], [], pickI gas 4000, (input.take 60).drop ((input.take 60).length / 2), 0, 0, []⟩
theorem new_Rt {code input ret : List UInt8} {gas : Int} (h1 : code.length ≤ 49152) (h2 : input.length ≤ 1048576) (h3 : ret.length ≤ 1048576) (h4 : 0 ≤ gas) (h5 : gas ≤ 2000000) : Rt ⟨code, input, 0, [], [], gas, ret, 0, 0, []⟩ :=
  ⟨h1, h2, h3, Nat.zero_le _, Int.le_refl _, (by decide : (0 : Int) ≤ 9007199254740992), h4, h5, Nat.zero_le _, Nat.zero_le _, rfl, Int.le_refl _, (by decide : (0 : Int) ≤ 4), (by decide : (0 : Int) ≠ 0 ↔ (0 : Int) = 4), .inl rfl⟩
theorem frmR_Rt (raw : List (Int × Int)) (input : List UInt8) (gas : Int) : Rt (frmR raw input gas) := by
  have h1 := progT_len raw 40
  have h2 := pickI_nn gas 4000 (by decide)
  exact new_Rt (by show (progT raw 40).length ≤ _; omega) (by rw [List.length_take]; omega) (by rw [List.length_drop, List.length_take]; omega) h2.1 (by omega)
theorem frameR_spec (v : Value) (raw : List (Int × Int)) (input : List UInt8) (gas : Int) (hok : ∀ a ∈ raw, okR a) (hg : -9223372036854775808 ≤ gas) (hi : input.length ≤ 4611686018427387904) : FnV Tryz.prog 14 [v, .string (ba input), .int .i64 gas] [fRp v raw] (frmV (frmR raw input gas) (.slice none 0 0)) := by
  have h1 := program_spec v raw hok
  have h2 := pick17_spec gas 4000 hg (by decide)
  unfold frmR
  generalize progR raw = code at h1 ⊢
  generalize pickI gas 4000 = g at h2 ⊢
  obtain ⟨n60, hn60⟩ : ∃ n, n = min input.length 60 := ⟨_, rfl⟩
  have hin : (input.take n60).drop 0 = input.take 60 := by
    rw [List.drop_zero, hn60]
    by_cases h : input.length ≤ 60
    · rw [Nat.min_eq_left h, List.take_of_length_le h, List.take_of_length_le (Nat.le_refl _)]
    · rw [Nat.min_eq_right (by omega)]
  have hil : (input.take 60).length ≤ 60 := by rw [List.length_take]; omega
  generalize input.take 60 = inp at hin hil ⊢
  refine Fn.enter Tryz.func14 rfl Tryz.ntmps14 (by simp) (fun I0 w0 => ?_)
  refine W.bare (G.slice v raw ?_); intro ad cap e1 k1; subst e1
  refine G.code ?_
  repeat (first | (refine sty ?_; try intro _) | (refine st ?_; try intro _) | (refine stz ?_; try intro _) | (refine stq ?_; try intro _))
  rename_i b6
  refine W.drawAl 11 10 26 [dq _, dq _, dq _, dq _, dq _, dq _, dq _, dq _, dq _, dq _, dp] [[], [0], [], [], [3], [4], [2,5], [], [7], [1,6,8], []] [9, 10] (hrest := fun c => nrmX ?_) (hops := by
    refine AllX.a01 ?_ rfl (by intro c z0 Φr Lr K; refine nrmX ?_; intro hK; (first | refine sty ?_ | refine st ?_ | refine stz ?_ | refine stq ?_); (first | exact hK z0 | exact hK | exact fun b => hK (.int .i64 (b : Int)))) (by intro c z0 Φr Lr K; refine nrmX ?_; intro hK; (first | refine sty ?_ | refine st ?_ | refine stz ?_ | refine stq ?_); (first | exact hK z0 | exact hK | exact fun b => hK (.int .i64 (b : Int))))
    refine AllX.a01 ?_ rfl (by intro c z0 Φr Lr K; refine nrmX ?_; intro hK; refine o_callV rfl rfl rfl rfl h1 rfl ?_; exact hK z0) (by intro c z0 Φr Lr K; refine nrmX ?_; intro hK; refine o_callV rfl rfl rfl rfl h1 rfl ?_; exact hK z0)
    refine AllX.a01 ?_ rfl (by intro c z0 Φr Lr K; refine nrmX ?_; intro hK; (first | refine sty ?_ | refine st ?_ | refine stz ?_ | refine stq ?_); (first | exact hK z0 | exact hK | exact fun b => hK (.int .i64 (b : Int)))) (by intro c z0 Φr Lr K; refine nrmX ?_; intro hK; (first | refine sty ?_ | refine st ?_ | refine stz ?_ | refine stq ?_); (first | exact hK z0 | exact hK | exact fun b => hK (.int .i64 (b : Int))))
    refine AllX.a01 ?_ rfl (by intro c z0 Φr Lr K; refine nrmX ?_; intro hK; (first | refine sty ?_ | refine st ?_ | refine stz ?_ | refine stq ?_); (first | exact hK z0 | exact hK | exact fun b => hK (.int .i64 (b : Int)))) (by intro c z0 Φr Lr K; refine nrmX ?_; intro hK; (first | refine sty ?_ | refine st ?_ | refine stz ?_ | refine stq ?_); (first | exact hK z0 | exact hK | exact fun b => hK (.int .i64 (b : Int))))
    refine AllX.a01 ?_ rfl (by intro c z0 Φr Lr K; refine nrmX ?_; intro hK; (first | refine sty ?_ | refine st ?_ | refine stz ?_ | refine stq ?_); (first | exact hK z0 | exact hK | exact fun b => hK (.int .i64 (b : Int)))) (by intro c z0 Φr Lr K; refine nrmX ?_; intro hK; (first | refine sty ?_ | refine st ?_ | refine stz ?_ | refine stq ?_); (first | exact hK z0 | exact hK | exact fun b => hK (.int .i64 (b : Int))))
    refine AllX.a01 ?_ rfl (by intro c z0 Φr Lr K; refine nrmX ?_; intro hK; refine o_min rfl rfl rfl rfl (v := .int .i64 ((n60 : Nat) : Int)) (by rw [hn60]; congr 1; split <;> omega) ?_; exact hK z0) (by intro c z0 Φr Lr K; refine nrmX ?_; intro hK; refine o_min rfl rfl rfl rfl (v := .int .i64 ((n60 : Nat) : Int)) (by rw [hn60]; congr 1; split <;> omega) ?_; exact hK z0)
    refine AllX.a01 ?_ rfl (by intro c z0 Φr Lr K; refine nrmX ?_; intro hK; refine o_slT 0 n60 rfl rfl rfl bd0 (bdS rfl) (by omega) (by omega) ?_; rw [hin]; exact hK z0) (by intro c z0 Φr Lr K; refine nrmX ?_; intro hK; refine o_slT 0 n60 rfl rfl rfl bd0 (bdS rfl) (by omega) (by omega) ?_; rw [hin]; exact hK z0)
    refine AllX.a01 ?_ rfl (by intro c z0 Φr Lr K; refine nrmX ?_; intro hK; (first | refine sty ?_ | refine st ?_ | refine stz ?_ | refine stq ?_); (first | exact hK z0 | exact hK | exact fun b => hK (.int .i64 (b : Int)))) (by intro c z0 Φr Lr K; refine nrmX ?_; intro hK; (first | refine sty ?_ | refine st ?_ | refine stz ?_ | refine stq ?_); (first | exact hK z0 | exact hK | exact fun b => hK (.int .i64 (b : Int))))
    refine AllX.a01 ?_ rfl (by intro c z0 Φr Lr K; refine nrmX ?_; intro hK; refine o_callV rfl rfl rfl rfl h2 rfl ?_; exact hK z0) (by intro c z0 Φr Lr K; refine nrmX ?_; intro hK; refine o_callV rfl rfl rfl rfl h2 rfl ?_; exact hK z0)
    refine AllX.a01 ?_ rfl (by intro c z0 Φr Lr K; refine nrmX ?_; intro hK; (first | refine sty ?_ | refine st ?_ | refine stz ?_ | refine stq ?_); (first | exact hK z0 | exact hK | exact fun b => hK (.int .i64 (b : Int)))) (by intro c z0 Φr Lr K; refine nrmX ?_; intro hK; (first | refine sty ?_ | refine st ?_ | refine stz ?_ | refine stq ?_); (first | exact hK z0 | exact hK | exact fun b => hK (.int .i64 (b : Int))))
    refine AllX.ai ?_ (by intro c z0 Φr Lr K; refine nrmX ?_; intro hK; (first | refine sty ?_ | refine st ?_ | refine stz ?_ | refine stq ?_); (first | exact hK z0 | exact hK | exact fun b => hK (.int .i64 (b : Int))))
    exact AllX.end)
  repeat (first | (refine sty ?_; try intro _) | (refine st ?_; try intro _) | (refine stz ?_; try intro _) | (refine stq ?_; try intro _))
  refine G.retV ?_
  rw [List.take_length]
  rfl
/-- Two frames are the same. -/
theorem rsame_spec (f : Frm) (sv tv : Value) (hs : f.stack.length ≤ 1000000) : FnV Tryz.prog 17 [frmV f sv, frmV f tv] [fRp sv f.stack, fRp tv f.stack] (.bool true) := by
  have h1 := fun v u => samew_spec v u f.stack f.stack hs
  rw [decide_eq_true (show f.stack = f.stack from rfl)] at h1
  refine Fn.enter Tryz.func17 rfl Tryz.ntmps17 (by simp) (fun I0 w0 => ?_)
  refine W.bare (G.slice sv f.stack ?_); intro a1 c1 e1 k1; subst e1
  refine G.slice tv f.stack ?_; intro a2 c2 e2 k2; subst e2
  refine G.code ?_
  have e1 : f.code = f.code := rfl
  have e2 : f.input = f.input := rfl
  have e3 : f.mem = f.mem := rfl
  have e4 : f.ret = f.ret := rfl
  have e5 : f.out = f.out := rfl
  have e6 : decide (f.pc = f.pc) = true := decide_eq_true rfl
  repeat (first | (refine sty ?_; try intro _) | (refine st ?_; try intro _) | (refine stz ?_; try intro _) | (refine stq ?_; try intro _))
  refine o_callV rfl rfl rfl rfl (h1 _ _) rfl ?_
  repeat (first | (refine sty ?_; try intro _) | (refine st ?_; try intro _) | (refine stz ?_; try intro _) | (refine stq ?_; try intro _))
  refine G.retV ?_
  rfl
end Go.Rail
namespace Go.Rail
open Go Go.Proofs
set_option linter.unusedSimpArgs false
set_option linter.unusedVariables false
set_option maxHeartbeats 400000
set_option maxRecDepth 4000
attribute [local irreducible] OpK G W LW wpListIn Exit.then Exit.inBlock Post rounds opRun bodyPostM intOp
set_option maxHeartbeats 8000000
def awC : List UInt8 := [96, 5, 96, 3, 3, 0]
def awG : Frm := ⟨awC, [], 5, [Word.of (-2)], [], 91, [], 1, 0, []⟩
theorem aw_right : rightF (bgF awC [] 100) = true := by kernel_rfl
theorem aw_run : runL keccakL 50 (bgF awC [] 100) = (awG, 4) := by kernel_rfl
theorem aw_step : stepL keccakL awG = (awG, 50) := by kernel_rfl
def awK : Frm := ⟨[84], [], 0, [], [], 5, [], 0, 0, []⟩
def awM : Frm := ⟨[1], [], 0, [], [], 5, [], 0, 0, []⟩
theorem aw_stepK : stepL keccakL awK = (awK, 51) := by kernel_rfl
theorem aw_stepM : stepL keccakL awM = (failF awM 40, 0) := by kernel_rfl
theorem aw_loc1 : localF 95 = true := by kernel_rfl
theorem aw_loc2 : localF 84 = false := by kernel_rfl
theorem aw_Rt1 : Rt (bgF awC [] 100) := right_Rt.1 aw_right
theorem aw_Rt2 : Rt awG := right_Rt.1 (by kernel_rfl)
theorem aw_Rt3 : Rt awK := right_Rt.1 (by kernel_rfl)
theorem aw_Rt4 : Rt awM := right_Rt.1 (by kernel_rfl)
theorem awake17_spec : FnV Tryz.prog 10 [] [fKc] (.bool true) := by
  have c1 := begin_spec awC [] 100 aw_right
  have c2 := fRun_spec (bgF awC [] 100) (.slice none 0 0) 50 (by decide) aw_Rt1
  rw [aw_run] at c2
  have c3 := fun v => fStep_spec awG v aw_Rt2
  rw [aw_step] at c3
  have c4 := fStep_spec awK (.slice none 0 0) aw_Rt3
  rw [aw_stepK] at c4
  have c5 := fStep_spec awM (.slice none 0 0) aw_Rt4
  rw [aw_stepM] at c5
  have c6 := begin_none [] [] (-1) (by decide) (by decide) (by decide)
  have c7 := of_spec (-2)
  have c8 := fun v u => samew_spec v u awG.stack [Word.of (-2)] (by decide)
  rw [decide_eq_true (show awG.stack = [Word.of (-2)] from rfl)] at c8
  have c9 := fun v u => rsame_spec awG v u (by decide)
  have c10 := local_spec 95 (by decide)
  have c11 := local_spec 84 (by decide)
  rw [aw_loc1] at c10
  rw [aw_loc2] at c11
  have c12 := fun v => fright_spec awG v (right_Rt.2 aw_Rt2)
  refine Fn.enter Tryz.func10 rfl Tryz.ntmps10 (by simp) (fun I0 w0 => ?_)
  repeat (first | (refine sty ?_; try intro _) | (refine st ?_; try intro _) | (refine stz ?_; try intro _) | (refine stq ?_; try intro _))
  refine o_callV rfl rfl rfl rfl c1 rfl ?_
  repeat (first | (refine sty ?_; try intro _) | (refine st ?_; try intro _) | (refine stz ?_; try intro _) | (refine stq ?_; try intro _))
  refine OpK.call rfl rfl rfl rfl c2 ⟨fun I hp φ hφ => by
    rcases List.mem_cons.1 hφ with rfl | hφ
    · exact Rp.nil none 0
    · exact hp φ hφ⟩ (Mr := _) (List.Perm.refl _) ?_
  rintro u Φ' Mc' ⟨a2, k2, rfl, rfl, rfl⟩
  dsimp only [List.cons_append, List.nil_append]
  repeat (first | (refine sty ?_; try intro _) | (refine st ?_; try intro _) | (refine stz ?_; try intro _) | (refine stq ?_; try intro _))
  refine OpK.call rfl rfl rfl rfl (c3 _) inferInstance (Mr := _) (List.Perm.refl _) ?_
  rintro u Φ' Mc' ⟨a3, k3, rfl, rfl, rfl⟩
  dsimp only [List.cons_append, List.nil_append]
  repeat (first | (refine sty ?_; try intro _) | (refine st ?_; try intro _) | (refine stz ?_; try intro _) | (refine stq ?_; try intro _))
  refine OpK.call rfl rfl rfl rfl c4 ⟨fun I hp φ hφ => by
    rcases List.mem_cons.1 hφ with rfl | hφ
    · exact Rp.nil none 0
    · exact hp φ (.tail _ (.tail _ hφ))⟩ (Mr := _) (List.Perm.refl _) ?_
  rintro u Φ' Mc' ⟨a4, k4, rfl, rfl, rfl⟩
  dsimp only [List.cons_append, List.nil_append]
  repeat (first | (refine sty ?_; try intro _) | (refine st ?_; try intro _) | (refine stz ?_; try intro _) | (refine stq ?_; try intro _))
  refine OpK.call rfl rfl rfl rfl c5 ⟨fun I hp φ hφ => by
    rcases List.mem_cons.1 hφ with rfl | hφ
    · exact Rp.nil none 0
    · exact hp φ (.tail _ (.tail _ (.tail _ hφ)))⟩ (Mr := _) (List.Perm.refl _) ?_
  rintro u Φ' Mc' ⟨a5, k5, rfl, rfl, rfl⟩
  dsimp only [List.cons_append, List.nil_append]
  repeat (first | (refine sty ?_; try intro _) | (refine st ?_; try intro _) | (refine stz ?_; try intro _) | (refine stq ?_; try intro _))
  refine o_callV rfl rfl rfl rfl c6 rfl ?_
  repeat (first | (refine sty ?_; try intro _) | (refine st ?_; try intro _) | (refine stz ?_; try intro _) | (refine stq ?_; try intro _))
  refine W.drawA 39 (dq _ :: dq _ :: dq _ :: dq _ :: dq _ :: dq _ :: dq _ :: dq _ :: dq _ :: dq _ :: dq _ :: dq _ :: dq _ :: dq _ :: (dk fun _ z => fRp z [Word.of (-2)]) :: dq _ :: dq _ :: dq _ :: dq _ :: dq _ :: dq _ :: dq _ :: dq _ :: dq _ :: dq _ :: dq _ :: dq _ :: dq _ :: dq _ :: dq _ :: dq _ :: dq _ :: dq _ :: dq _ :: dq _ :: dq _ :: dq _ :: dq _ :: dq _ :: []) ([] :: [0] :: [1] :: [2] :: [2,3] :: [2,4] :: [5] :: [6] :: [6,7] :: [6,8] :: [9] :: [10] :: [10,11] :: [10] :: [10,13] :: [10,12,14] :: [10,15] :: [16] :: [17] :: [17,18] :: [17,19] :: [17,20] :: [21] :: [22] :: [22,23] :: [22,24] :: [22,25] :: [26] :: [27] :: [27,28] :: [27,29] :: [27,30] :: [31] :: [32] :: [32,33] :: [32,34] :: [35] :: [36] :: [36] :: []) [36, 37, 38] (hrest := fun c => nrm ?_) (hops := by
    iterate 13 refine AllQ.aq ?_
    refine AllQ.mk (by intro c z0 Φr Lr K; refine nrm ?_; intro hK; refine o_callV rfl rfl rfl rfl c7 rfl ?_; exact hK z0) ?_
    refine AllQ.mk (by intro c z0 Φr Lr K; refine nrm ?_; intro hK; refine o_litV (xs := [Word.of (-2)]) rfl rfl rfl (.cons rfl .nil) inferInstance inferInstance rfl rfl ?_; intro v; exact hK v) ?_
    refine AllQ.mk (by intro c z0 Φr Lr K; refine nrm ?_; intro hK; refine o_callV rfl rfl rfl rfl (c8 _ _) rfl ?_; exact hK z0) ?_
    iterate 23 refine AllQ.aq ?_
    exact AllQ.nil)
  repeat (first | (refine sty ?_; try intro _) | (refine st ?_; try intro _) | (refine stz ?_; try intro _) | (refine stq ?_; try intro _))
  refine o_callV rfl rfl rfl rfl (c9 _ _) rfl ?_
  repeat (first | (refine sty ?_; try intro _) | (refine st ?_; try intro _) | (refine stz ?_; try intro _) | (refine stq ?_; try intro _))
  refine o_callV rfl rfl rfl rfl c10 rfl ?_
  repeat (first | (refine sty ?_; try intro _) | (refine st ?_; try intro _) | (refine stz ?_; try intro _) | (refine stq ?_; try intro _))
  refine o_callV rfl rfl rfl rfl c11 rfl ?_
  repeat (first | (refine sty ?_; try intro _) | (refine st ?_; try intro _) | (refine stz ?_; try intro _) | (refine stq ?_; try intro _))
  refine o_callV rfl rfl rfl rfl (c12 _) rfl ?_
  repeat (first | (refine sty ?_; try intro _) | (refine st ?_; try intro _) | (refine stz ?_; try intro _) | (refine stq ?_; try intro _))
  refine G.retV ?_
  rfl
end Go.Rail
