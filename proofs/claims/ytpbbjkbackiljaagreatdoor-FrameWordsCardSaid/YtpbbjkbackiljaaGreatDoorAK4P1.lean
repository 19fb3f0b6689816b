/- keccak.Sum. -/
import Derived.Test.YtpbbjkbackiljaaGreatDoorAK3
import Derived.Test.YtpbbjkbackiljaaGreatDoorAFK
import Derived.Test.YtpbbjkbackiljaaGreatDoorAF1F6
set_option linter.unusedSimpArgs false
set_option linter.unusedVariables false
namespace Go.Rail
open Go Go.Proofs
set_option maxHeartbeats 400000
set_option maxRecDepth 4000
attribute [local irreducible] OpK G W LW wpListIn Exit.then Exit.inBlock Post rounds opRun bodyPostM intOp
set_option maxHeartbeats 1000000
def abL (a : Nat → Nat) (c : List UInt8) : Nat → Nat → Nat
  | 0 => a
  | i + 1 => fun k => if k = i then abL a c i i ^^^ lowS ((c.take (8 * i + 8)).drop (8 * i)) 8 else abL a c i k
theorem abL_lt (a : Nat → Nat) (c : List UInt8) (ha : ∀ k, a k < 18446744073709551616) : ∀ i k, abL a c i k < 18446744073709551616
  | 0, k => ha k
  | i + 1, k => by
    unfold abL
    split
    · exact Nat.xor_lt_two_pow (n := 64) (abL_lt a c ha i i) (lowS_lt _ _)
    · exact abL_lt a c ha i k
def smL (l : List UInt8) : Nat → Nat → Nat
  | 0 => fun _ => 0
  | k + 1 => peL (abL (smL l k) ((l.take (136 * k + 136)).drop (136 * k)) 17) 24
theorem smL_lt (l : List UInt8) : ∀ i k, smL l i k < 18446744073709551616
  | 0, k => (by decide : (0 : Nat) < 18446744073709551616)
  | i + 1, k => by
    unfold smL
    exact peL_lt _ (abL_lt _ _ (smL_lt l i) 17) 24 k
def outL (a : Nat → Nat) (i : Nat) : UInt8 := UInt8.ofNat (a (i / 8) / 2 ^ (8 * (i % 8)) % 256)
def hashL (a : Nat → Nat) : List UInt8 := (List.range 32).map (outL a)
def keccakL (s : List UInt8) : List UInt8 := hashL (smL (padL s) ((padL s).length / 136))
theorem keccakL_len (s : List UInt8) : (keccakL s).length = 32 := by simp [keccakL, hashL]
def outP (a : Nat → Nat) (i : Nat) : List UInt8 := (List.range i).map (outL a) ++ List.replicate (32 - i) 0
theorem outP_len (a : Nat → Nat) (i : Nat) (h : i ≤ 32) : (outP a i).length = 32 := by simp [outP]; omega
theorem outP_set (a : Nat → Nat) (i : Nat) (h : i < 32) : (outP a i).set i (outL a i) = outP a (i + 1) := by
  unfold outP
  rw [List.set_append_right _ _ (by simp), List.range_succ, List.map_append]
  simp only [List.length_map, List.length_range, Nat.sub_self]
  obtain ⟨m, hm⟩ : ∃ m, 32 - i = m + 1 := ⟨31 - i, by omega⟩
  rw [hm, show 32 - (i + 1) = m from by omega, List.replicate_succ]
  simp
theorem ksum_spec (s : List UInt8) (hs : s.length ≤ 1048576) : FnV Tryz.prog 183 [.string (ba s)] [fKc] (.tuple #[.string (ba (keccakL s)), .int .i64 0]) := by
  have hp := kpad_spec s (by omega)
  have hm := padL_mod s
  have hl : (padL s).length ≤ 1048576 + 200 := by rw [padL_len]; have : padZ s.length < 136 := Nat.mod_lt _ (by decide); omega
  have hl1 : 136 ≤ (padL s).length := by have := padL_len s; omega
  unfold keccakL
  generalize padL s = l at hp hm hl hl1 ⊢
  refine Fn.enter Tryz.func183 rfl Tryz.ntmps183 (by simp) (fun I0 w0 => ?_)
  repeat (first | (refine sty ?_; try intro _) | (refine st ?_; try intro _) | (refine stz ?_; try intro _) | (refine stq ?_; try intro _))
  rename_i b4
  refine o_callV rfl rfl rfl rfl hp rfl ?_
  repeat (first | (refine sty ?_; try intro _) | (refine st ?_; try intro _) | (refine stz ?_; try intro _) | (refine stq ?_; try intro _))
  refine o_toB rfl rfl rfl ?_
  intro v
  repeat (first | (refine sty ?_; try intro _) | (refine st ?_; try intro _) | (refine stz ?_; try intro _) | (refine stq ?_; try intro _))
  refine OpK.call rfl rfl rfl rfl (kchunk_spec v l) inferInstance (Mr := _) (List.Perm.refl _) ?_
  rintro u Φ' Mc' ⟨b2, b3, rfl, rfl, rfl⟩
  dsimp only [List.cons_append, List.nil_append, List.append_nil]
  repeat (first | (refine sty ?_; try intro _) | (refine st ?_; try intro _) | (refine stz ?_; try intro _) | (refine stq ?_; try intro _))
  have hne : l ≠ [] := by intro e; rw [e] at hl1; simp at hl1
  refine W.bare (G.sliceB v l hne ?_)
  intro b0 off cap e1 k1
  subst e1
  refine G.code ?_
  have hit := kchunk1_spec b0 b2 b3 off cap l hm (by omega) k1
  refine W.rangeFuncR (enc := chE ⟨b0, off, none⟩ l) (ps := [16]) (Mr := []) (fun k s => s = ([fKc, fRp (.slice (some ⟨b0, off, none⟩) l.length cap) l], [(b4, Ob (cU 25 (smL l k)) 203)])) (fun _ _ => False) rfl hit (by decide) (chE_one _ _) inferInstance ([fKc, fRp (.slice (some ⟨b0, off, none⟩) l.length cap) l], [(b4, Ob (cU 25 (smL l 0)) 203)]) rfl inferInstance (List.Perm.refl _) ?_ ?_ ?_
  · rintro y rec I0' w0' k hk _ rfl
    rw [chE_len] at hk
    dsimp only
    rw [chE_at b0 off l k (by rw [chE_len]; exact hk)]
    show W _ _ _ _ ((16, .slice (some ⟨b0, off + k * 136, none⟩) 136 136) :: _) _
    have hlt := smL_lt l k
    have hsm : smL l (k + 1) = peL (abL (smL l k) ((l.take (136 * k + 136)).drop (136 * k)) 17) 24 := rfl
    generalize smL l (k + 1) = q1 at hsm ⊢
    generalize smL l k = q at hlt hsm ⊢
    have hck : ((l.take (136 * k + 136)).drop (136 * k)).length = 136 := by simp; omega
    refine W.bare (G.part (b := b0) (off := off) (n := l.length) (cap := cap) l (136 * k) (136 * k + 136) 136 (off + k * 136) (by omega) (by omega) (by omega) (by show off + 136 * k * 1 = _; omega) ?_)
    rw [show 136 * k + 136 - 136 * k = 136 from by omega]
    generalize (l.take (136 * k + 136)).drop (136 * k) = ck at hck hsm ⊢
    refine G.code ?_
    repeat (first | (refine sty ?_; try intro _) | (refine st ?_; try intro _) | (refine stz ?_; try intro _) | (refine stq ?_; try intro _))
    refine G.begin (by rfl) ?_
    repeat (first | (refine sty ?_; try intro _) | (refine st ?_; try intro _) | (refine stz ?_; try intro _) | (refine stq ?_; try intro _))
    refine W.lp (S := Nat) (fun i => ([fRp (.slice (some ⟨b0, off + k * 136, none⟩) 136 136) ck, fKc, fRp (.slice (some ⟨b0, off, none⟩) l.length cap) l], [(17, .int .i64 (i : Int)), (5, .slice (some ⟨b0, off + k * 136, none⟩) 136 136), (4, .pointer (some ⟨b4, 0, none⟩))], [(y, Obj.loop { rec with state := .busy, pending := none }), (b4, Ob (cU 25 (abL q ck i)) 203)])) (fun i => i ≤ 17) (fun i => 17 - i) 0 ?_ (h0 := Nat.zero_le _)
    intro i hi
    dsimp only
    by_cases he : i = 17
    · subst he
      have hpe := permute_spec (abL q ck 17) (abL_lt q ck hlt 17)
      rw [← hsm] at hpe
      generalize abL q ck 17 = q2 at hpe ⊢
      repeat (first | refine stu ?_ | (refine sty ?_; try intro _) | (refine st ?_; try intro _) | (refine stz ?_; try intro _) | (refine stq ?_; try intro _))
      refine o_callV rfl rfl rfl rfl hpe rfl ?_
      repeat (first | refine stu ?_ | (refine sty ?_; try intro _) | (refine st ?_; try intro _) | (refine stz ?_; try intro _) | (refine stq ?_; try intro _))
      refine G.roundEnd (r := { rec with state := .busy, pending := none }) (inferInstanceAs (MDel ((y, Obj.loop { rec with state := .busy, pending := none }) :: _) y _ _)) (Φ' := [fKc, fRp (.slice (some ⟨b0, off, none⟩) l.length cap) l]) (M'' := [(b4, Ob (cU 25 q1) 203)]) ?_ inferInstance (List.Sublist.refl _)
      exact Or.inl ⟨rfl, ([fKc, fRp (.slice (some ⟨b0, off, none⟩) l.length cap) l], [(b4, Ob (cU 25 q1) 203)]), rfl, rfl⟩
    · have hs : abL q ck (i + 1) = fun k => if k = i then abL q ck i i ^^^ lowS ((ck.take (8 * i + 8)).drop (8 * i)) 8 else abL q ck i k := rfl
      have h1 := abL_lt q ck hlt i i
      have h2 := lowS_lt ((ck.take (8 * i + 8)).drop (8 * i)) 8
      have hcl : ((ck.take (8 * i + 8)).drop (8 * i)).length = 8 := by simp; omega
      have hlow := fun v => klow_spec v ((ck.take (8 * i + 8)).drop (8 * i)) (by omega)
      rw [hcl] at hlow
      generalize hq3 : abL q ck (i + 1) = q3 at hs
      generalize abL q ck i = q2 at h1 hs ⊢
      generalize hw : (ck.take (8 * i + 8)).drop (8 * i) = w at h2 hcl hlow hs ⊢
      repeat (first | (refine sty ?_; try intro _) | (refine st ?_; try intro _) | (refine stz ?_; try intro _) | (refine stq ?_; try intro _))
      refine W.drawA 11 [dq _, dq _, dq _, dq _, dq _, dq _, dq _, dq _, dq _, dk fun _ z => fRp z w, dq _] [[], [0], [1], [], [], [4], [], [6], [7], [3,5,8], [9]] [0, 2, 10] (hrest := fun c => nrm ?_) (hops := by
        iterate 9 refine AllQ.aq ?_
        refine AllQ.mk (by intro c z0 Φr Lr K; refine nrm ?_; intro hK; refine o_slice (8 * i) (8 * i + 8) rfl rfl rfl (bdS rfl) (bdS rfl) (by omega) (by omega) ?_; rw [hw]; intro v'; exact hK v') ?_
        refine AllQ.mk (by intro c z0 Φr Lr K; refine nrm ?_; intro hK; refine o_callV rfl rfl rfl rfl (hlow (c 9)) rfl ?_; exact hK z0) ?_
        exact AllQ.nil)
      repeat (first | (refine sty ?_; try intro _) | (refine st ?_; try intro _) | (refine stz ?_; try intro _) | (refine stq ?_; try intro _))
      rw [← hs, ← hq3]
      exact G.ag (S := Nat) (i + 1)
  · rintro D _ rfl
    rw [chE_len]
    have hlt := smL_lt l (l.length / 136)
    generalize smL l (l.length / 136) = q at hlt ⊢
    dsimp only [List.nil_append, List.cons_append]
    repeat (first | (refine sty ?_; try intro _) | (refine st ?_; try intro _) | (refine stz ?_; try intro _) | (refine stq ?_; try intro _))
    refine o_makeKd 32 rfl rfl rfl rfl rfl rfl (by decide) ?_
    intro b5
    repeat (first | (refine sty ?_; try intro _) | (refine st ?_; try intro _) | (refine stz ?_; try intro _) | (refine stq ?_; try intro _))
    refine W.lp (S := Nat) (fun i => ([], [(39, .int .i64 (i : Int)), (38, .int .i64 32), (7, .slice (some ⟨b5, 0, none⟩) 32 32), (4, .pointer (some ⟨b4, 0, none⟩))], [(b5, Okd false (bvs (outP q i) ++ []) 5), (b4, Ob (cU 25 q) 203), (D, .deferred (some []))])) (fun i => i ≤ 32) (fun i => 32 - i) 0 ?_ (h0 := Nat.zero_le _)
    intro i hi
    dsimp only
    by_cases he : i = 32
    · subst he
      refine W.bare (G.giveB b5 5 false (outP q 32) [] (Mr := [(b4, Ob (cU 25 q) 203), (D, .deferred (some []))]) (List.Perm.refl _) ?_)
      rw [outP_len q 32 (Nat.le_refl _)]
      refine G.code ?_
      repeat (first | (refine sty ?_; try intro _) | (refine st ?_; try intro _) | (refine stz ?_; try intro _) | (refine stq ?_; try intro _))
      refine G.unmark inferInstance ?_
      refine G.retV ?_
      unfold hashL outP
      simp [tup]
    · have hb := hlt (i / 8)
      have hlen := outP_len q i hi
      have hset := outP_set q i (by omega)
      have hout : Value.int .u8 ((q (i / 8) / 2 ^ (8 * (i % 8)) % 256 : Nat) : Int) = .int .u8 (((outL q i).toNat : Nat) : Int) := by
        unfold outL
        rw [UInt8.toNat_ofNat', Nat.mod_mod_of_dvd _ (by decide)]
      repeat (first | (refine sty ?_; try intro _) | (refine st ?_; try intro _) | (refine stz ?_; try intro _) | (refine stq ?_; try intro _))
      refine o_storeKd (c := outL q i) rfl rfl rfl hout (by omega) (List.Perm.refl _) ?_
      rw [hset]
      repeat (first | (refine sty ?_; try intro _) | (refine st ?_; try intro _) | (refine stz ?_; try intro _) | (refine stq ?_; try intro _))
      exact G.ag (S := Nat) (i + 1)
  · intro D c s h
    exact h.elim
end Go.Rail
namespace Go.Rail
open Go Go.Proofs
set_option maxHeartbeats 400000
set_option maxRecDepth 4000
attribute [local irreducible] OpK G W LW wpListIn Exit.then Exit.inBlock Post rounds opRun bodyPostM intOp
set_option maxHeartbeats 1000000
theorem rhash_spec (B : Nat) (f : Frm) (sv av : Value) (wrong : Int) (o : OR) (l : List Word) (hs : f.stack.length ≤ 1000000) (ho : IsOwn (GoTy.sz Word) sv f.stack.length o) (hm : f.mem.length ≤ 1048576) (h32 : f.mem.length % 32 = 0) (hl : 1 < l.length) :
    Fn Tryz.prog 95 [.pointer (some ⟨B, 0, none⟩)] [fRow (ocells o) f.stack, fRp av l, fKc] ((B, Ob (runC f sv av wrong) 94) :: ownM 49 o) (RRun B (stkF f (f.stack ++ [wordB (keccakL (pieceF f.mem l[0] (numF l[1])))])) av wrong) := by
  have h1 := number_spec l[1]
  have hb1 : numF l[1] ≤ 1099511627776 := Nat.min_le_right _ _
  generalize numF l[1] = n at h1 hb1 ⊢
  have h2 := fun av => rat_spec B f sv av wrong l[0] n hm h32 hb1
  have hpl := pieceF_len f.mem l[0] n
  generalize pieceF f.mem l[0] n = q at h2 hpl ⊢
  have h3 := ksum_spec q (by omega)
  have h4 := wfb_spec (keccakL q) (by rw [keccakL_len]; decide)
  generalize keccakL q = q2 at h3 h4 ⊢
  refine Fn.enter Tryz.func95 rfl Tryz.ntmps95 (by simp) (fun I0 w0 => ?_)
  refine W.bare (G.slice av l ?_)
  intro a1 c1 e1 k1
  subst e1
  repeat (first | (refine sty ?_; try intro _) | (refine st ?_; try intro _) | (refine stz ?_; try intro _) | (refine stq ?_; try intro _))
  refine W.drawA 20 [dq _, dq _, dq _, dq _, dq _, dk _, dq _, dq _, dq _, dq _, dq _, dk _, dq _, dq _, dq _, dq _, dq _, dq _, dq _, dq _] [[], [], [1], [2], [3], [4], [5], [], [7], [8], [9], [10], [11], [12], [0,6,13], [14], [15], [16], [16], [17]] [18, 19] (hrest := fun c => nrm ?_) (hops := by
    iterate 13 refine AllQ.aq ?_
    refine AllQ.mk (by intro c z0 Φr Lr K; refine nrm ?_; intro hK; refine o_callV rfl rfl rfl rfl h1 rfl ?_; exact hK z0) ?_
    refine AllQ.mk (by intro c z0 Φr Lr K; refine nrm ?_; intro hK; refine OpK.call rfl rfl rfl rfl (h2 _) inferInstance (Mr := ownM 49 o) (List.Perm.refl _) ?_; rintro u Φ' Mc' ⟨rfl, rfl, rfl⟩; exact hK z0) ?_
    refine AllQ.mk (by intro c z0 Φr Lr K; refine nrm ?_; intro hK; refine o_callV rfl rfl rfl rfl h3 rfl ?_; exact hK z0) ?_
    iterate 4 refine AllQ.aq ?_
    exact AllQ.nil)
  repeat (first | (refine sty ?_; try intro _) | (refine st ?_; try intro _) | (refine stz ?_; try intro _) | (refine stq ?_; try intro _))
  refine o_callV rfl rfl rfl rfl h4 rfl ?_
  repeat (first | (refine sty ?_; try intro _) | (refine st ?_; try intro _) | (refine stz ?_; try intro _) | (refine stq ?_; try intro _))
  refine OpK.call rfl rfl rfl rfl (rpush_spec B f sv (.slice a1 l.length c1) wrong o (wordB q2) hs ho) inferInstance (Mr := []) (by rw [List.append_nil]) ?_
  rintro u Φ' Mc' ⟨a, c, rfl, rfl, rfl⟩
  dsimp only [List.cons_append, List.nil_append, List.append_nil]
  repeat (first | (refine sty ?_; try intro _) | (refine st ?_; try intro _) | (refine stz ?_; try intro _) | (refine stq ?_; try intro _))
  exact G.fin rfl .nil (Φ' := [fRp (.slice a _ c) _]) (M' := [_]) inferInstance (List.Sublist.refl _) ⟨a, c, rfl, rfl, rfl⟩
end Go.Rail
namespace Go.Rail
open Go Go.Proofs
set_option maxHeartbeats 2000000
theorem stepL_law (hash : List UInt8 → List UInt8) {f : Frm} (h : Rt f) (h0 : (stepL hash f).2 = 0) :
    f.status = 0 ∧ Rt (stepL hash f).1 ∧ (stepL hash f).1.code = f.code ∧ f.mem.length ≤ (stepL hash f).1.mem.length ∧ (stepL hash f).1.gas ≤ f.gas ∧ ((stepL hash f).1.status = 0 → (stepL hash f).1.gas < f.gas) := by
  unfold stepL at h0 ⊢
  rw [right_Rt.2 h, if_neg (by decide)] at h0 ⊢
  by_cases hs : f.status ≠ 0
  · rw [if_pos hs] at h0; cases h0
  rw [if_neg hs] at h0 ⊢
  have hs0 : f.status = 0 := by omega
  by_cases hp : (f.code.length : Int) ≤ f.pc
  · rw [if_pos hp]
    obtain ⟨a1, a2, a3, a4, a5, a6, a7, a8, a9, a10, a11, a12, a13, a14, a15⟩ := h
    refine ⟨hs0, ⟨a1, a2, a3, a4, a5, a6, a7, a8, a9, a10, a11, by show (0 : Int) ≤ 1; decide, by show (1 : Int) ≤ 4; decide, ?_, .inl ?_⟩, rfl, Nat.le_refl _, Int.le_refl _, fun h => by cases h⟩
    · show f.errno ≠ 0 ↔ (1 : Int) = 4
      constructor
      · intro h; have := a14.1 h; omega
      · intro h; cases h
    · rcases a15 with h | h | h <;> first | exact h | omega
  rw [if_neg hp] at h0 ⊢
  by_cases hl : localF (f.code.getD f.pc.toNat 0).toNat = false
  · rw [if_pos hl] at h0; cases h0
  rw [if_neg hl]
  exact ⟨hs0, stepF_law hash (UInt8.toNat_lt _) h hs0 (by omega) (by simpa using hl)⟩
end Go.Rail
namespace Go.Rail
open Go Go.Proofs
set_option maxHeartbeats 1000000
def chkU (n : Nat) : Bool := !(decide (95 ≤ n ∧ n ≤ 127)) || (!(isC n) && foundF n && (infoN n).isSome && decide (popsN n = 0) && decide (pushN' n = 1) && decide (n ≠ 254) && decide (n ≠ 10) && decide (n ≠ 32) && decide (n ≠ 55) && decide (n ≠ 57) && decide (n ≠ 62) && decide (gasN n ≤ 3) && decide (1 ≤ gasN n))
theorem chkU_all : ((List.range 256).all chkU) = true := by kernel_rfl
theorem chkU_at {n : Nat} (h1 : 95 ≤ n) (h2 : n ≤ 127) : isC n = false ∧ foundF n = true ∧ (infoN n).isSome = true ∧ popsN n = 0 ∧ pushN' n = 1 ∧ 1 ≤ gasN n ∧ gasN n ≤ 3 := by
  have h := List.all_eq_true.1 chkU_all n (List.mem_range.2 (by omega))
  unfold chkU at h
  rw [decide_eq_true (show 95 ≤ n ∧ n ≤ 127 from ⟨h1, h2⟩)] at h
  simp only [Bool.not_true, Bool.false_or, Bool.and_eq_true, Bool.not_eq_true', decide_eq_true_eq] at h
  obtain ⟨⟨⟨⟨⟨⟨⟨⟨⟨⟨⟨⟨a1, a2⟩, a3⟩, a4⟩, a5⟩, _⟩, _⟩, _⟩, _⟩, _⟩, _⟩, a6⟩, a7⟩ := h
  exact ⟨a1, a2, a3, a4, a5, a7, a6⟩
theorem popL_0 (s : List Word) (h : s.length ≤ 1024) : popL s 0 = (s, [], 0) := by
  have h0 : wrongL s 0 0 = 0 := by
    unfold wrongL
    rw [if_neg (by omega), if_neg (by omega)]
  unfold popL
  rw [show ((0 : Nat) : Int) = 0 from rfl] at *
  rw [h0, if_pos rfl]
  simp
theorem growF_same (m : List UInt8) (h : m.length % 32 = 0) : growF m (m.length / 32) = m := by
  unfold growF
  rw [show m.length / 32 * 32 - m.length = 0 from by omega]
  simp
theorem step_push (hash : List UInt8 → List UInt8) (f : Frm) (h : Rt f) (hs : f.status = 0) (op : UInt8) (hpc : f.pc < f.code.length) (hop : f.code.getD f.pc.toNat 0 = op) (h1 : 95 ≤ op.toNat) (h2 : op.toNat ≤ 127) (hst : f.stack.length < 1024) :
    stepL hash f = if f.gas < gasN op.toNat then (failF f 43, 0) else ({ f with stack := f.stack ++ [opushL f.code f.pc ((op.toNat - 95 : Nat) : Int)], pc := f.pc + 1 + ((op.toNat - 95 : Nat) : Int), gas := f.gas - gasN op.toNat }, 0) := by
  obtain ⟨c1, c2, c3, c4, c5, c6, c7⟩ := chkU_at h1 h2
  have h' := h
  obtain ⟨a1, a2, a3, a4, a5, a6, a7, a8, a9, a10, a11, a12, a13, a14, a15⟩ := h'
  have hl : localF op.toNat = true := by unfold localF; rw [c2]; rfl
  have hta : takeF f.stack op.toNat = ([], 0) := by
    unfold takeF
    rw [if_neg (by rintro (h | h); (rw [h] at c3; cases c3); omega), c4, popL_0 _ a9, if_neg (by rw [c5]; omega)]
  have hsp : spanF op.toNat [] = [] := by
    unfold spanF
    rw [if_neg (by omega), if_neg (by omega), if_neg (by omega), if_neg (by omega)]
  have hmo : moreF op.toNat [] = 0 := by
    unfold moreF
    rw [if_neg (by omega), if_neg (by omega), if_neg (by omega)]
  unfold stepL
  rw [right_Rt.2 h, if_neg (by decide), if_neg (by omega), if_neg (by omega), hop, if_neg (by rw [hl]; decide)]
  unfold stepF
  rw [hta]
  dsimp only
  rw [if_neg (by decide), hsp, hmo]
  unfold payF reachF
  dsimp only
  rw [growF_same _ a11, c4, c1, Nat.sub_zero, List.take_length]
  by_cases hg : f.gas < gasN op.toNat
  · rw [if_pos (by omega), if_pos hg]
  · rw [if_neg (by omega), if_neg hg]
    dsimp only
    have hd : ∀ p : Frm, doF hash op.toNat p [] = ({ p with stack := p.stack ++ [opushL p.code (p.pc - 1) ((op.toNat - 95 : Nat) : Int)], pc := p.pc + ((op.toNat - 95 : Nat) : Int) }, 0) := by
      intro p
      unfold doF
      rw [c1, if_neg (by decide), if_pos ⟨h1, h2⟩]
    rw [hd]
    dsimp only
    rw [if_neg (by decide)]
    simp only [Bool.false_eq_true, if_false, ite_self]
    congr 2
    · rw [show f.pc + 1 - 1 = f.pc from by omega]
    · omega
abbrev Blk := Nat × List UInt8
def blkB (b : Blk) : List UInt8 := UInt8.ofNat (95 + b.1) :: b.2
def codeB (l : List Blk) : List UInt8 := l.flatMap blkB
def BlkOk (b : Blk) : Prop := b.1 ≤ 32 ∧ b.2.length = b.1
theorem codeB_app (a b : List Blk) : codeB (a ++ b) = codeB a ++ codeB b := List.flatMap_append
theorem codeB_len : ∀ (l : List Blk), (∀ b ∈ l, BlkOk b) → (codeB l).length ≤ 33 * l.length
  | [], _ => Nat.le_refl _
  | b :: l, h => by
    have := codeB_len l (fun x hx => h x (.tail _ hx))
    obtain ⟨h1, h2⟩ := h b (.head _)
    show (blkB b ++ codeB l).length ≤ _
    rw [List.length_append]
    unfold blkB
    rw [List.length_cons, List.length_cons]
    omega
def wdsB (s : List UInt8) : Nat → List Blk → List Word
  | _, [] => []
  | pc, b :: l => opushL s (pc : Int) (b.1 : Int) :: wdsB s (pc + 1 + b.1) l
def gasB : List Blk → Nat
  | [] => 0
  | b :: l => gasN (95 + b.1) + gasB l
theorem wdsB_len (s : List UInt8) : ∀ (l : List Blk) (pc : Nat), (wdsB s pc l).length = l.length
  | [], _ => rfl
  | b :: l, pc => by unfold wdsB; rw [List.length_cons, List.length_cons, wdsB_len s l]
theorem gasB_pos : ∀ (l : List Blk), (∀ b ∈ l, BlkOk b) → l.length ≤ gasB l ∧ gasB l ≤ 3 * l.length
  | [], _ => ⟨Nat.le_refl _, Nat.le_refl _⟩
  | b :: l, h => by
    obtain ⟨i1, i2⟩ := gasB_pos l (fun x hx => h x (.tail _ hx))
    obtain ⟨h1, h2⟩ := h b (.head _)
    obtain ⟨_, _, _, _, _, c6, c7⟩ := chkU_at (n := 95 + b.1) (by omega) (by omega)
    unfold gasB
    rw [List.length_cons]
    omega
theorem stop_step (hash : List UInt8 → List UInt8) (f : Frm) (h : Rt f) (hs : f.status = 0) (hp : (f.code.length : Int) ≤ f.pc) : stepL hash f = ({ f with status := 1 }, 0) := by
  unfold stepL
  rw [right_Rt.2 h, if_neg (by decide), if_neg (by omega), if_pos hp]
theorem stepL_done (hash : List UInt8 → List UInt8) (f : Frm) (hs : f.status ≠ 0) : (stepL hash f).2 ≠ 0 := by
  unfold stepL
  split
  · exact (by decide : (1 : Int) ≠ 0)
  · exact (by decide : (50 : Int) ≠ 0)
theorem runL_done (hash : List UInt8 → List UInt8) (f : Frm) (hs : f.status ≠ 0) : ∀ m, runL hash m f = (f, 0)
  | 0 => rfl
  | m + 1 => by rw [runL_s, if_pos (stepL_done hash f hs)]
theorem runB (hash : List UInt8 → List UInt8) : ∀ (l : List Blk) (pre : List UInt8) (f : Frm) (m : Nat), Rt f → f.status = 0 → (∀ b ∈ l, BlkOk b) → f.code = pre ++ codeB l → f.pc = (pre.length : Int) → f.stack.length + l.length ≤ 1024 → l.length < m →
    ((gasB l : Int) ≤ f.gas → runL hash m f = ({ f with pc := (f.code.length : Int), stack := f.stack ++ wdsB f.code pre.length l, gas := f.gas - gasB l, status := 1 }, l.length + 1)) ∧
    (f.gas < gasB l → (runL hash m f).1.errno = 43)
  | [], pre, f, m, h, hs, hl, hc, hp, hst, hm => by
    have hlen : (f.code.length : Int) = pre.length := by rw [hc]; simp [codeB]
    refine ⟨fun _ => ?_, fun hg => ?_⟩
    · obtain ⟨m, rfl⟩ : ∃ k, m = k + 1 := ⟨m - 1, by simp at hm; omega⟩
      rw [runL_s, stop_step hash f h hs (by omega), if_neg (show ¬ (0 : Int) ≠ 0 by decide), runL_done hash _ (show (1 : Int) ≠ 0 by decide)]
      simp only [wdsB, gasB, List.append_nil, List.length_nil]
      rw [hlen, ← hp]
      simp
    · have : 0 ≤ f.gas := h.2.2.2.2.2.2.1
      exact absurd hg (by show ¬ f.gas < ((0 : Nat) : Int); omega)
  | b :: l, pre, f, m, h, hs, hl, hc, hp, hst, hm => by
    obtain ⟨m, rfl⟩ : ∃ k, m = k + 1 := ⟨m - 1, by simp at hm; omega⟩
    obtain ⟨hb1, hb2⟩ := hl b (.head _)
    have hcb : codeB (b :: l) = UInt8.ofNat (95 + b.1) :: (b.2 ++ codeB l) := rfl
    have hop : f.code.getD f.pc.toNat 0 = UInt8.ofNat (95 + b.1) := by
      rw [hc, hp, hcb]
      simp [List.getD_eq_getElem?_getD]
    have hlen : f.code.length = pre.length + (1 + b.1 + (codeB l).length) := by
      rw [hc, hcb]
      simp [hb2]
      omega
    have hopn : (UInt8.ofNat (95 + b.1)).toNat = 95 + b.1 := by
      rw [UInt8.toNat_ofNat']
      omega
    have hstep := step_push hash f h hs (UInt8.ofNat (95 + b.1)) (by omega) hop (by omega) (by omega) (by simp at hst; omega)
    rw [hopn, show 95 + b.1 - 95 = b.1 from by omega] at hstep
    have hlaw := stepL_law hash h
    rw [runL_s]
    unfold gasB
    by_cases hg : f.gas < gasN (95 + b.1)
    · rw [if_pos hg] at hstep
      refine ⟨fun hg' => by omega, fun _ => ?_⟩
      rw [hstep, if_neg (show ¬ (0 : Int) ≠ 0 by decide), runL_done hash _ (by show (4 : Int) ≠ 0; decide)]
      rfl
    · rw [if_neg hg] at hstep
      rw [hstep] at hlaw ⊢
      rw [if_neg (show ¬ (0 : Int) ≠ 0 by decide)]
      dsimp only at hlaw ⊢
      obtain ⟨_, h', _⟩ := hlaw rfl
      have ih := runB hash l (pre ++ blkB b) _ m h' hs (fun x hx => hl x (.tail _ hx)) (by show f.code = _; rw [hc, hcb]; simp [blkB]) (by show f.pc + 1 + (b.1 : Int) = _; rw [hp]; simp [blkB, hb2]; omega) (by dsimp only; simp at hst ⊢; omega) (by simp at hm; omega)
      have hpl : (pre ++ blkB b).length = pre.length + 1 + b.1 := by simp [blkB, hb2]; omega
      rw [hpl] at ih
      dsimp only at ih
      refine ⟨fun hg' => ?_, fun hg' => ih.2 (by omega)⟩
      rw [ih.1 (by omega)]
      dsimp only
      rw [show wdsB f.code pre.length (b :: l) = opushL f.code (pre.length : Int) (b.1 : Int) :: wdsB f.code (pre.length + 1 + b.1) l from rfl]
      rw [hp, List.append_assoc, List.singleton_append, List.length_cons]
      congr 2
      omega
end Go.Rail
