/- FrameWords: the walk. -/
import Derived.Test.YtpbbjkbackiljaaGreatDoorAP7
import Derived.Test.YtpbbjkbackiljaaGreatDoorAQ1
import Derived.Test.YtpbbjkbackiljaaGreatDoorAFSC16
import Derived.Test.YtpbbjkbackiljaaGreatDoorAB1BC
set_option linter.unusedSimpArgs false
set_option linter.unusedVariables false
namespace Go.Rail
open Go Go.Proofs
set_option maxHeartbeats 400000
set_option maxRecDepth 4000
attribute [local irreducible] OpK G W LW wpListIn Exit.then Exit.inBlock Post rounds opRun bodyPostM intOp
set_option maxHeartbeats 8000000
theorem take_snoc' {α : Type} {l : List α} {i : Nat} {x : α} (h : l[i]? = some x) : l.take (i + 1) = l.take i ++ [x] := by
  rw [List.take_add_one, h]; rfl
structure WdSt where
  j : Nat
  ws : List Word
  w : Value
  o : OR
theorem u8lit (n : Nat) (h : n < 256) : (UInt8.ofNat n).toNat = n := by rw [UInt8.toNat_ofNat']; omega
theorem u8_add95 {n : Nat} (h : n ≤ 32) : intOp .add .u8 95 (n : Int) = some (.int .u8 ((95 + n : Nat) : Int)) := by
  have e : IntKind.u8.wrap (95 + (n : Int)) = 95 + (n : Int) := by
    simp [IntKind.wrap, IntKind.signed, IntKind.bits]
    omega
  simp [intOp, e]
theorem words17_walk (v : Value) (raw : List (Int × Int)) (hok : ∀ a ∈ raw, okR a) :
    FnV Tryz.prog 7 [v] [fRp v raw, fKc] (.bool true) := by
  have c1 := awake17_spec
  obtain ⟨l, hl⟩ : ∃ l, l = (raw.take 30).map blkR := ⟨_, rfl⟩
  have hll : l.length = min raw.length 30 := by rw [hl, List.length_map, List.length_take, Nat.min_comm]
  have hat : ∀ i (h : i < raw.length), i < 30 → l[i]? = some (blkR raw[i]) := by
    intro i h h8
    rw [hl, List.getElem?_map, List.getElem?_take, if_pos h8, List.getElem?_eq_getElem h]
    rfl
  have hs : ∀ b ∈ l, BlkOk b := by
    intro s h
    rw [hl] at h
    obtain ⟨a, _, rfl⟩ := List.mem_map.1 h
    exact blkR_ok a
  obtain ⟨hRt, hrun, hshort⟩ := words_run keccakL (l := l) (by omega) hs
  have hcl := codeB_len l hs
  obtain ⟨g1, g2⟩ := gasB_pos l hs
  have c4 := begin_spec (codeB l) [] (gasB l) (right_Rt.2 hRt)
  have c5 := fun w => fRun_spec (bgF (codeB l) [] (gasB l)) w 100 (by decide) hRt
  rw [hrun] at c5
  obtain ⟨gs, hgs⟩ : ∃ gs : Int, gs = if (gasB l : Int) - 1 < 0 then 0 else (gasB l : Int) - 1 := ⟨_, rfl⟩
  have hgs0 : 0 ≤ gs ∧ gs ≤ gasB l ∧ (l.length = 0 → gs = gasB l) ∧ (l.length ≠ 0 → gs < gasB l) := by
    have : l.length = 0 → gasB l = 0 := fun h => by omega
    rw [hgs]
    split <;> omega
  have hRs : Rt (bgF (codeB l) [] gs) := by
    by_cases h : l.length = 0
    · rw [hgs0.2.2.1 h]; exact hRt
    · exact (hshort gs hgs0.1 (hgs0.2.2.2 h)).1
  have cS := fun w => fRun_spec (bgF (codeB l) [] gs) w 100 (by decide) hRs
  have hS : l.length ≠ 0 → (runL keccakL 100 (bgF (codeB l) [] gs)).1.errno = 43 := fun h => (hshort gs hgs0.1 (hgs0.2.2.2 h)).2
  generalize runL keccakL 100 (bgF (codeB l) [] gs) = R at cS hS
  obtain ⟨R1, steps⟩ := R
  dsimp only at hS
  have E1 : (wdE l).status = 1 := rfl
  have E2 : (wdE l).stack = wdsB (codeB l) 0 l := rfl
  have E3 : (wdE l).gas = 0 := rfl
  have hwlen := wdsB_len (codeB l) l 0
  have cW := fun v u => samew_spec v u (wdsB (codeB l) 0 l) (wdsB (codeB l) 0 l) (by omega)
  rw [decide_eq_true rfl] at cW
  rw [← E2] at cW hwlen
  generalize wdE l = E at c5 E1 E2 E3 cW hwlen
  refine Fn.enter Tryz.func7 rfl Tryz.ntmps7 (by simp) (fun I0 w0 => ?_)
  refine W.bare (G.slice v raw ?_); intro ad cap e1 k1; subst e1
  refine G.code ?_
  repeat (first | (refine sty ?_; try intro _) | (refine st ?_; try intro _) | (refine stz ?_; try intro _) | (refine stq ?_; try intro _))
  refine o_callV rfl rfl rfl rfl c1 rfl ?_
  repeat (first | (refine sty ?_; try intro _) | (refine st ?_; try intro _) | (refine stz ?_; try intro _) | (refine stq ?_; try intro _))
  refine W.lp (S := CdSt) (fun s => ([fRow (ocells s.o) s.xs, fRp (.slice ad raw.length cap) raw, fKc], [(6, .int .i64 (s.i : Int)), (5, .slice none 0 0), (4, s.w), (3, .bool true), (0, .slice ad raw.length cap)], ownM 5 s.o)) (fun s => s.i ≤ l.length ∧ s.xs = codeB (l.take s.i) ∧ IsOwn 1 s.w s.xs.length s.o) (fun s => l.length - s.i) ⟨0, [], .slice none 0 0, none⟩ ?_ (h0 := ⟨Nat.zero_le _, rfl, ⟨rfl, rfl⟩⟩)
  rintro ⟨i, xs, w, o⟩ ⟨hi, hxs, hown⟩
  dsimp only at hi hxs hown ⊢
  have htl := codeB_len (l.take i) (fun x hx => hs x (List.mem_of_mem_take hx))
  rw [← hxs, List.length_take] at htl
  by_cases hil : i < l.length
  · have hir : i < raw.length := by omega
    have hi8 : i < 30 := by omega
    have hx := take_snoc' (hat i hir hi8)
    have ho := hok _ (List.getElem_mem hir)
    unfold okR at ho
    obtain ⟨⟨o1, o2⟩, o3, o4⟩ := ho
    have c2 := pick17_spec raw[i].1 33 o1 (by decide)
    rw [nW_eq] at c2
    have hn := nW_le raw[i]
    obtain ⟨n, hnn⟩ : ∃ n, n = nW raw[i] := ⟨_, rfl⟩
    rw [← hnn] at c2 hn
    repeat (first | (refine sty ?_; try intro _) | (refine st ?_; try intro _) | (refine stz ?_; try intro _) | (refine stq ?_; try intro _))
    refine o_indexP (off := 0) Prod.fst rfl rfl rfl rfl (by omega) (by omega) rfl ?_; intro q
    repeat (first | (refine sty ?_; try intro _) | (refine st ?_; try intro _) | (refine stz ?_; try intro _) | (refine stq ?_; try intro _))
    refine o_callV rfl rfl rfl rfl c2 rfl ?_
    repeat (first | (refine sty ?_; try intro _) | (refine st ?_; try intro _) | (refine stz ?_; try intro _) | (refine stq ?_; try intro _))
    refine o_int rfl rfl rfl rfl (u8_add95 (by omega)) ?_
    repeat (first | (refine sty ?_; try intro _) | (refine st ?_; try intro _) | (refine stz ?_; try intro _) | (refine stq ?_; try intro _))
    refine o_litV (xs := [UInt8.ofNat (95 + n)]) rfl rfl rfl (.cons (u8v (95 + n) (by omega)) .nil) inferInstance inferInstance rfl rfl ?_
    intro u1
    repeat (first | (refine sty ?_; try intro _) | (refine st ?_; try intro _) | (refine stz ?_; try intro _) | (refine stq ?_; try intro _))
    refine o_app2 (Mr := []) o (xs := xs) (ys := [UInt8.ofNat (95 + n)]) hown ⟨by simp; omega, by simp; omega, rfl⟩ rfl rfl rfl rfl inferInstance inferInstance (List.Perm.refl _) ?_
    intro w1 o1' hown1
    dsimp only [List.nil_append]
    repeat (first | (refine sty ?_; try intro _) | (refine st ?_; try intro _) | (refine stz ?_; try intro _) | (refine stq ?_; try intro _))
    refine W.lp (S := CdSt) (fun s => ([fRow (ocells s.o) s.xs, fRp (.slice ad raw.length cap) raw, fKc], [(8, .int .i64 (s.i : Int)), (7, .int .i64 (n : Int)), (6, .int .i64 (i : Int)), (5, .slice none 0 0), (4, s.w), (3, .bool true), (0, .slice ad raw.length cap)], ownM 5 s.o)) (fun s => s.i ≤ n ∧ s.xs = codeB (l.take i) ++ (UInt8.ofNat (95 + n) :: bsW raw[i] s.i) ∧ IsOwn 1 s.w s.xs.length s.o) (fun s => n - s.i) ⟨0, xs ++ [UInt8.ofNat (95 + n)], w1, o1'⟩ ?_ (h0 := ⟨Nat.zero_le _, by rw [hxs]; rfl, hown1⟩)
    rintro ⟨k, ys, w2, o2'⟩ ⟨hk, hys, hown2⟩
    dsimp only at hk hys hown2 ⊢
    have hyl : ys.length ≤ 2000 := by rw [hys, ← hxs, List.length_append, List.length_cons]; simp [bsW]; omega
    by_cases hkn : k = n
    · subst hkn
      have e : ys = codeB (l.take (i + 1)) := by rw [hx, codeB_snoc, hys]; unfold blkR blkB; rw [← hnn]
      repeat (first | (refine sty ?_; try intro _) | (refine st ?_; try intro _) | (refine stz ?_; try intro _) | (refine stq ?_; try intro _))
      exact G.ag (S := CdSt) ⟨i + 1, ys, w2, o2'⟩ (hpre := ⟨hil, e, hown2⟩)
    · have hst := bsW_succ raw[i] k
      have c3 := pick17_spec (IntKind.i64.wrap (raw[i].2 + (k : Int))) 256 (wrap_ge _) (by decide)
      have p3 := pickI_nn (IntKind.i64.wrap (raw[i].2 + (k : Int))) 256 (by decide)
      have hu := u8g (pickI (IntKind.i64.wrap (raw[i].2 + (k : Int))) 256) (by omega) (by omega)
      repeat (first | (refine sty ?_; try intro _) | (refine st ?_; try intro _) | (refine stz ?_; try intro _) | (refine stq ?_; try intro _))
      refine o_indexP (off := 1) Prod.snd rfl rfl rfl rfl (by omega) (by omega) rfl ?_; intro q2
      repeat (first | (refine sty ?_; try intro _) | (refine st ?_; try intro _) | (refine stz ?_; try intro _) | (refine stq ?_; try intro _))
      refine o_int rfl rfl rfl rfl i_addw ?_
      repeat (first | (refine sty ?_; try intro _) | (refine st ?_; try intro _) | (refine stz ?_; try intro _) | (refine stq ?_; try intro _))
      refine o_callV rfl rfl rfl rfl c3 rfl ?_
      repeat (first | (refine sty ?_; try intro _) | (refine st ?_; try intro _) | (refine stz ?_; try intro _) | (refine stq ?_; try intro _))
      refine o_litV (xs := [bkW raw[i] k]) rfl rfl rfl (.cons hu .nil) inferInstance inferInstance rfl rfl ?_
      intro u2
      repeat (first | (refine sty ?_; try intro _) | (refine st ?_; try intro _) | (refine stz ?_; try intro _) | (refine stq ?_; try intro _))
      refine o_app2 (Mr := []) o2' (xs := ys) (ys := [bkW raw[i] k]) hown2 ⟨by simp; omega, by simp; omega, rfl⟩ rfl rfl rfl rfl inferInstance inferInstance (List.Perm.refl _) ?_
      intro w3 o3' hown3
      dsimp only [List.nil_append]
      repeat (first | (refine sty ?_; try intro _) | (refine st ?_; try intro _) | (refine stz ?_; try intro _) | (refine stq ?_; try intro _))
      exact G.ag (S := CdSt) ⟨k + 1, ys ++ [bkW raw[i] k], w3, o3'⟩ (hpre := ⟨by dsimp only; omega, by dsimp only; rw [hys, hst, List.append_assoc]; rfl, hown3⟩)
  · obtain rfl : i = l.length := by omega
    rw [List.take_length] at hxs
    subst hxs
    have hcs : l.length = raw.length ∨ (l.length < raw.length ∧ l.length = 30) := by omega
    refine W.bare (G.giveOwn2 (Mr := []) w (codeB l) o 5 hown inferInstance (List.Perm.refl _) ?_)
    refine G.code ?_
    rcases hcs with h | ⟨h, h8⟩
    all_goals
      repeat (first | (refine sty ?_; try intro _) | (refine st ?_; try intro _) | (refine stz ?_; try intro _) | (refine stq ?_; try intro _))
      refine W.lp (S := WdSt) (fun s => ([fRow (ocells s.o) s.ws, fKc], [(11, .int .i64 (((codeB (l.take s.j)).length : Nat) : Int)), (10, .int .i64 ((gasB (l.take s.j) : Nat) : Int)), (9, .string (ba (codeB l))), (5, s.w), (3, .bool true)], ownM 49 s.o)) (fun s => s.j ≤ l.length ∧ s.ws = wdsB (codeB l) 0 (l.take s.j) ∧ IsOwn 4 s.w s.ws.length s.o) (fun s => l.length - s.j) ⟨0, [], .slice none 0 0, none⟩ ?_ (h0 := ⟨Nat.zero_le _, rfl, ⟨rfl, rfl⟩⟩)
      rintro ⟨j, ws, w5, o5⟩ ⟨hj, hws, hown5⟩
      dsimp only at hj hws hown5 ⊢
      have hwl : ws.length ≤ 30 := by rw [hws, wdsB_len, List.length_take]; omega
      by_cases hjl : j < l.length
      · obtain ⟨b, hb⟩ : ∃ b, b = l[j] := ⟨_, rfl⟩
        have hbj : l[j]? = some b := by rw [hb]; exact List.getElem?_eq_getElem hjl
        have hx := take_snoc' hbj
        obtain ⟨b1, b2⟩ := hs b (List.mem_of_getElem? hbj)
        have hsp : codeB l = codeB (l.take j) ++ (blkB b ++ codeB (l.drop (j + 1))) := by
          rw [← List.append_assoc, ← codeB_snoc, ← hx, ← codeB_app, List.take_append_drop]
        obtain ⟨pc, hpc⟩ : ∃ pc, pc = (codeB (l.take j)).length := ⟨_, rfl⟩
        obtain ⟨ch, hce⟩ : ∃ ch, ch = UInt8.ofNat (95 + b.1) := ⟨_, rfl⟩
        have hch : ch.toNat = 95 + b.1 := by rw [hce]; exact u8lit _ (by omega)
        have hpl : pc < (codeB l).length := by rw [hsp, List.length_append, List.length_append]; unfold blkB; rw [List.length_cons]; omega
        have hget : (codeB l)[pc]? = some ch := by
          rw [hsp, hpc, List.getElem?_append_right (Nat.le_refl _), Nat.sub_self, hce]
          rfl
        have hge : (codeB l)[pc]'hpl = ch := by
          have := List.getElem?_eq_getElem hpl
          rw [hget] at this
          exact (Option.some.inj this).symm
        have cP : FnV Tryz.prog 25 [.string (ba (codeB l)), .int .i64 (pc : Int), .int .i64 ((ch.toNat - 95 : Nat) : Int)] [] (opushL (codeB l) (pc : Int) (b.1 : Int)).v := by
          rw [show ch.toNat - 95 = b.1 from by omega]
          exact rpush14_spec (codeB l) pc b.1 (by omega) hpl b1
        have cI := rinfo_spec ch.toNat (by omega)
        have cB := rbehind_spec ch.toNat (by omega)
        have hbe : behN ch.toNat = b.1 := by unfold behN; split <;> omega
        rw [hbe] at cB
        unfold infoV at cI
        have hgn : ((infoN ch.toNat).getD noRow).gas = gasN (95 + b.1) := by rw [hch]; rfl
        generalize (infoN ch.toNat).getD noRow = r at cI hgn
        generalize (infoN ch.toNat).isSome = is at cI
        have hwx : wdsB (codeB l) 0 (l.take (j + 1)) = ws ++ [opushL (codeB l) (pc : Int) (b.1 : Int)] := by
          rw [hx, wdsB_snoc _ _ _ _ (fun x h => hs x (List.mem_of_mem_take h)), ← hws, Nat.zero_add, ← hpc]
        have hgx : gasB (l.take (j + 1)) = gasB (l.take j) + gasN (95 + b.1) := by rw [hx, gasB_snoc]
        have hcx : (codeB (l.take (j + 1))).length = pc + 1 + b.1 := by
          rw [hx, codeB_snoc, List.length_append, ← hpc]
          unfold blkB
          rw [List.length_cons, b2]
          omega
        have hgl := (gasB_pos (l.take j) (fun x h => hs x (List.mem_of_mem_take h))).2
        rw [List.length_take] at hgl
        have hg3 : gasN (95 + b.1) ≤ 3 := (chkU_at (n := 95 + b.1) (by omega) (by omega)).2.2.2.2.2.2
        rw [← hpc]
        repeat (first | (refine sty ?_; try intro _) | (refine st ?_; try intro _) | (refine stz ?_; try intro _) | (refine stq ?_; try intro _))
        simp only [hge]
        repeat (first | (refine sty ?_; try intro _) | (refine st ?_; try intro _) | (refine stz ?_; try intro _) | (refine stq ?_; try intro _))
        refine o_callV rfl rfl rfl rfl cP rfl ?_
        repeat (first | (refine sty ?_; try intro _) | (refine st ?_; try intro _) | (refine stz ?_; try intro _) | (refine stq ?_; try intro _))
        refine o_app2 (Mr := []) o5 (xs := ws) (ys := [opushL (codeB l) (pc : Int) (b.1 : Int)]) hown5 ⟨by simp; omega, by simp; omega, rfl⟩ rfl rfl rfl rfl inferInstance inferInstance (List.Perm.refl _) ?_
        intro w6 o6 hown6
        dsimp only [List.nil_append]
        repeat (first | (refine sty ?_; try intro _) | (refine st ?_; try intro _) | (refine stz ?_; try intro _) | (refine stq ?_; try intro _))
        simp only [hge]
        refine o_callV rfl rfl rfl rfl cI rfl ?_
        repeat (first | (refine sty ?_; try intro _) | (refine st ?_; try intro _) | (refine stz ?_; try intro _) | (refine stq ?_; try intro _))
        simp only [hge]
        refine o_callV rfl rfl rfl rfl cB rfl ?_
        repeat (first | (refine sty ?_; try intro _) | (refine st ?_; try intro _) | (refine stz ?_; try intro _) | (refine stq ?_; try intro _))
        exact G.ag (S := WdSt) ⟨j + 1, ws ++ [opushL (codeB l) (pc : Int) (b.1 : Int)], w6, o6⟩ (hpre := ⟨hjl, hwx.symm, hown6⟩) (hL := look_sub_cons (congrArg (fun q => some (Value.int .i64 q)) (by dsimp only; omega)) (look_sub_cons (congrArg (fun q => some (Value.int .i64 q)) (by dsimp only; omega)) (look_sub_cons rfl (look_sub_cons rfl (look_sub_cons rfl look_sub_nil)))))
      · obtain rfl : j = l.length := by omega
        rw [List.take_length] at hws
        rw [List.take_length]
        refine W.bare (G.giveOwn2 (Mr := []) w5 ws o5 49 hown5 inferInstance (List.Perm.refl _) ?_)
        refine G.code ?_
        rw [← E2] at hws
        subst hws
        repeat (first | (refine sty ?_; try intro _) | (refine st ?_; try intro _) | (refine stz ?_; try intro _) | (refine stq ?_; try intro _))
        refine o_callV rfl rfl rfl rfl c4 rfl ?_
        refine G.learn (fRp (.slice none 0 0) (bgF (codeB l) [] (gasB l)).stack) (e := ⟨fun I hp => Rp.nil none 0⟩) ?_
        refine G.learn (fRp (.slice none 0 0) (bgF (codeB l) [] gs).stack) (e := ⟨fun I hp => Rp.nil none 0⟩) ?_
        repeat (first | (refine sty ?_; try intro _) | (refine st ?_; try intro _) | (refine stz ?_; try intro _) | (refine stq ?_; try intro _))
        refine OpK.call rfl rfl rfl rfl (c5 _) inferInstance (Mr := _) (List.Perm.refl _) ?_
        rintro u Φ' Mc' ⟨a2, k2, rfl, rfl, rfl⟩
        dsimp only [List.cons_append, List.nil_append]
        repeat (first | (refine sty ?_; try intro _) | (refine st ?_; try intro _) | (refine stz ?_; try intro _) | (refine stq ?_; try intro _))
        first | rw [show (if ((gasB l - 1 : Nat) : Int) < 0 then (0 : Int) else ((gasB l - 1 : Nat) : Int)) = gs from by rw [hgs]; split <;> split <;> omega] | rw [← hgs]
        refine OpK.call rfl rfl rfl rfl (cS _) inferInstance (Mr := _) (List.Perm.refl _) ?_
        rintro u Φ' Mc' ⟨a3, k3, rfl, rfl, rfl⟩
        dsimp only [List.cons_append, List.nil_append]
        by_cases h0 : l.length = 0
        · repeat (first | (refine sty ?_; try intro _) | (refine st ?_; try intro _) | (refine stz ?_; try intro _) | (refine stq ?_; try intro _))
          refine o_callV rfl rfl rfl rfl (cW _ _) rfl ?_
          repeat (first | (refine sty ?_; try intro _) | (refine st ?_; try intro _) | (refine stz ?_; try intro _) | (refine stq ?_; try intro _))
          refine G.retV ?_
          rfl
        · have hS' := hS h0
          repeat (first | (refine sty ?_; try intro _) | (refine st ?_; try intro _) | (refine stz ?_; try intro _) | (refine stq ?_; try intro _))
          refine o_callV rfl rfl rfl rfl (cW _ _) rfl ?_
          repeat (first | (refine sty ?_; try intro _) | (refine st ?_; try intro _) | (refine stz ?_; try intro _) | (refine stq ?_; try intro _))
          refine G.retV ?_
          rfl
end Go.Rail
