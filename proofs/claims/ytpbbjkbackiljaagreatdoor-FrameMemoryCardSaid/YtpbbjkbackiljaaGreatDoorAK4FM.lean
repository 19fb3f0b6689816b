/- keccak.Sum. -/
import Derived.Test.YtpbbjkbackiljaaGreatDoorAK3
import Derived.Test.YtpbbjkbackiljaaGreatDoorAFK
import Derived.Test.YtpbbjkbackiljaaGreatDoorAF1F6
import Derived.Test.YtpbbjkbackiljaaGreatDoorRailJ
set_option linter.unusedSimpArgs false
set_option linter.unusedVariables false
namespace Go.Rail
open Go Go.Proofs
set_option maxHeartbeats 400000
set_option maxRecDepth 4000
attribute [local irreducible] OpK G W LW wpListIn Exit.then Exit.inBlock Post rounds opRun bodyPostM intOp
set_option maxHeartbeats 1000000
def abL (a : Nat → Nat) (c : List UInt8) : Nat → Nat → Nat
  | 0 => a
  | i + 1 => fun k => if k = i then abL a c i i ^^^ lowS ((c.take (8 * i + 8)).drop (8 * i)) 8 else abL a c i k
theorem abL_lt (a : Nat → Nat) (c : List UInt8) (ha : ∀ k, a k < 18446744073709551616) : ∀ i k, abL a c i k < 18446744073709551616
  | 0, k => ha k
  | i + 1, k => by
    unfold abL
    split
    · exact Nat.xor_lt_two_pow (n := 64) (abL_lt a c ha i i) (lowS_lt _ _)
    · exact abL_lt a c ha i k
def smL (l : List UInt8) : Nat → Nat → Nat
  | 0 => fun _ => 0
  | k + 1 => peL (abL (smL l k) ((l.take (136 * k + 136)).drop (136 * k)) 17) 24
theorem smL_lt (l : List UInt8) : ∀ i k, smL l i k < 18446744073709551616
  | 0, k => (by decide : (0 : Nat) < 18446744073709551616)
  | i + 1, k => by
    unfold smL
    exact peL_lt _ (abL_lt _ _ (smL_lt l i) 17) 24 k
def outL (a : Nat → Nat) (i : Nat) : UInt8 := UInt8.ofNat (a (i / 8) / 2 ^ (8 * (i % 8)) % 256)
def hashL (a : Nat → Nat) : List UInt8 := (List.range 32).map (outL a)
def keccakL (s : List UInt8) : List UInt8 := hashL (smL (padL s) ((padL s).length / 136))
theorem keccakL_len (s : List UInt8) : (keccakL s).length = 32 := by simp [keccakL, hashL]
def outP (a : Nat → Nat) (i : Nat) : List UInt8 := (List.range i).map (outL a) ++ List.replicate (32 - i) 0
theorem outP_len (a : Nat → Nat) (i : Nat) (h : i ≤ 32) : (outP a i).length = 32 := by simp [outP]; omega
theorem outP_set (a : Nat → Nat) (i : Nat) (h : i < 32) : (outP a i).set i (outL a i) = outP a (i + 1) := by
  unfold outP
  rw [List.set_append_right _ _ (by simp), List.range_succ, List.map_append]
  simp only [List.length_map, List.length_range, Nat.sub_self]
  obtain ⟨m, hm⟩ : ∃ m, 32 - i = m + 1 := ⟨31 - i, by omega⟩
  rw [hm, show 32 - (i + 1) = m from by omega, List.replicate_succ]
  simp
theorem ksum_spec (s : List UInt8) (hs : s.length ≤ 1048576) : FnV Tryz.prog 183 [.string (ba s)] [fKc] (.tuple #[.string (ba (keccakL s)), .int .i64 0]) := by
  have hp := kpad_spec s (by omega)
  have hm := padL_mod s
  have hl : (padL s).length ≤ 1048576 + 200 := by rw [padL_len]; have : padZ s.length < 136 := Nat.mod_lt _ (by decide); omega
  have hl1 : 136 ≤ (padL s).length := by have := padL_len s; omega
  unfold keccakL
  generalize padL s = l at hp hm hl hl1 ⊢
  refine Fn.enter Tryz.func183 rfl Tryz.ntmps183 (by simp) (fun I0 w0 => ?_)
  repeat (first | (refine sty ?_; try intro _) | (refine st ?_; try intro _) | (refine stz ?_; try intro _) | (refine stq ?_; try intro _))
  rename_i b4
  refine o_callV rfl rfl rfl rfl hp rfl ?_
  repeat (first | (refine sty ?_; try intro _) | (refine st ?_; try intro _) | (refine stz ?_; try intro _) | (refine stq ?_; try intro _))
  refine o_toB rfl rfl rfl ?_
  intro v
  repeat (first | (refine sty ?_; try intro _) | (refine st ?_; try intro _) | (refine stz ?_; try intro _) | (refine stq ?_; try intro _))
  refine OpK.call rfl rfl rfl rfl (kchunk_spec v l) inferInstance (Mr := _) (List.Perm.refl _) ?_
  rintro u Φ' Mc' ⟨b2, b3, rfl, rfl, rfl⟩
  dsimp only [List.cons_append, List.nil_append, List.append_nil]
  repeat (first | (refine sty ?_; try intro _) | (refine st ?_; try intro _) | (refine stz ?_; try intro _) | (refine stq ?_; try intro _))
  have hne : l ≠ [] := by intro e; rw [e] at hl1; simp at hl1
  refine W.bare (G.sliceB v l hne ?_)
  intro b0 off cap e1 k1
  subst e1
  refine G.code ?_
  have hit := kchunk1_spec b0 b2 b3 off cap l hm (by omega) k1
  refine W.rangeFuncR (enc := chE ⟨b0, off, none⟩ l) (ps := [16]) (Mr := []) (fun k s => s = ([fKc, fRp (.slice (some ⟨b0, off, none⟩) l.length cap) l], [(b4, Ob (cU 25 (smL l k)) 203)])) (fun _ _ => False) rfl hit (by decide) (chE_one _ _) inferInstance ([fKc, fRp (.slice (some ⟨b0, off, none⟩) l.length cap) l], [(b4, Ob (cU 25 (smL l 0)) 203)]) rfl inferInstance (List.Perm.refl _) ?_ ?_ ?_
  · rintro y rec I0' w0' k hk _ rfl
    rw [chE_len] at hk
    dsimp only
    rw [chE_at b0 off l k (by rw [chE_len]; exact hk)]
    show W _ _ _ _ ((16, .slice (some ⟨b0, off + k * 136, none⟩) 136 136) :: _) _
    have hlt := smL_lt l k
    have hsm : smL l (k + 1) = peL (abL (smL l k) ((l.take (136 * k + 136)).drop (136 * k)) 17) 24 := rfl
    generalize smL l (k + 1) = q1 at hsm ⊢
    generalize smL l k = q at hlt hsm ⊢
    have hck : ((l.take (136 * k + 136)).drop (136 * k)).length = 136 := by simp; omega
    refine W.bare (G.part (b := b0) (off := off) (n := l.length) (cap := cap) l (136 * k) (136 * k + 136) 136 (off + k * 136) (by omega) (by omega) (by omega) (by show off + 136 * k * 1 = _; omega) ?_)
    rw [show 136 * k + 136 - 136 * k = 136 from by omega]
    generalize (l.take (136 * k + 136)).drop (136 * k) = ck at hck hsm ⊢
    refine G.code ?_
    repeat (first | (refine sty ?_; try intro _) | (refine st ?_; try intro _) | (refine stz ?_; try intro _) | (refine stq ?_; try intro _))
    refine G.begin (by rfl) ?_
    repeat (first | (refine sty ?_; try intro _) | (refine st ?_; try intro _) | (refine stz ?_; try intro _) | (refine stq ?_; try intro _))
    refine W.lp (S := Nat) (fun i => ([fRp (.slice (some ⟨b0, off + k * 136, none⟩) 136 136) ck, fKc, fRp (.slice (some ⟨b0, off, none⟩) l.length cap) l], [(17, .int .i64 (i : Int)), (5, .slice (some ⟨b0, off + k * 136, none⟩) 136 136), (4, .pointer (some ⟨b4, 0, none⟩))], [(y, Obj.loop { rec with state := .busy, pending := none }), (b4, Ob (cU 25 (abL q ck i)) 203)])) (fun i => i ≤ 17) (fun i => 17 - i) 0 ?_ (h0 := Nat.zero_le _)
    intro i hi
    dsimp only
    by_cases he : i = 17
    · subst he
      have hpe := permute_spec (abL q ck 17) (abL_lt q ck hlt 17)
      rw [← hsm] at hpe
      generalize abL q ck 17 = q2 at hpe ⊢
      repeat (first | refine stu ?_ | (refine sty ?_; try intro _) | (refine st ?_; try intro _) | (refine stz ?_; try intro _) | (refine stq ?_; try intro _))
      refine o_callV rfl rfl rfl rfl hpe rfl ?_
      repeat (first | refine stu ?_ | (refine sty ?_; try intro _) | (refine st ?_; try intro _) | (refine stz ?_; try intro _) | (refine stq ?_; try intro _))
      refine G.roundEnd (r := { rec with state := .busy, pending := none }) (inferInstanceAs (MDel ((y, Obj.loop { rec with state := .busy, pending := none }) :: _) y _ _)) (Φ' := [fKc, fRp (.slice (some ⟨b0, off, none⟩) l.length cap) l]) (M'' := [(b4, Ob (cU 25 q1) 203)]) ?_ inferInstance (List.Sublist.refl _)
      exact Or.inl ⟨rfl, ([fKc, fRp (.slice (some ⟨b0, off, none⟩) l.length cap) l], [(b4, Ob (cU 25 q1) 203)]), rfl, rfl⟩
    · have hs : abL q ck (i + 1) = fun k => if k = i then abL q ck i i ^^^ lowS ((ck.take (8 * i + 8)).drop (8 * i)) 8 else abL q ck i k := rfl
      have h1 := abL_lt q ck hlt i i
      have h2 := lowS_lt ((ck.take (8 * i + 8)).drop (8 * i)) 8
      have hcl : ((ck.take (8 * i + 8)).drop (8 * i)).length = 8 := by simp; omega
      have hlow := fun v => klow_spec v ((ck.take (8 * i + 8)).drop (8 * i)) (by omega)
      rw [hcl] at hlow
      generalize hq3 : abL q ck (i + 1) = q3 at hs
      generalize abL q ck i = q2 at h1 hs ⊢
      generalize hw : (ck.take (8 * i + 8)).drop (8 * i) = w at h2 hcl hlow hs ⊢
      repeat (first | (refine sty ?_; try intro _) | (refine st ?_; try intro _) | (refine stz ?_; try intro _) | (refine stq ?_; try intro _))
      refine W.drawA 11 [dq _, dq _, dq _, dq _, dq _, dq _, dq _, dq _, dq _, dk fun _ z => fRp z w, dq _] [[], [0], [1], [], [], [4], [], [6], [7], [3,5,8], [9]] [0, 2, 10] (hrest := fun c => nrm ?_) (hops := by
        iterate 9 refine AllQ.aq ?_
        refine AllQ.mk (by intro c z0 Φr Lr K; refine nrm ?_; intro hK; refine o_slice (8 * i) (8 * i + 8) rfl rfl rfl (bdS rfl) (bdS rfl) (by omega) (by omega) ?_; rw [hw]; intro v'; exact hK v') ?_
        refine AllQ.mk (by intro c z0 Φr Lr K; refine nrm ?_; intro hK; refine o_callV rfl rfl rfl rfl (hlow (c 9)) rfl ?_; exact hK z0) ?_
        exact AllQ.nil)
      repeat (first | (refine sty ?_; try intro _) | (refine st ?_; try intro _) | (refine stz ?_; try intro _) | (refine stq ?_; try intro _))
      rw [← hs, ← hq3]
      exact G.ag (S := Nat) (i + 1)
  · rintro D _ rfl
    rw [chE_len]
    have hlt := smL_lt l (l.length / 136)
    generalize smL l (l.length / 136) = q at hlt ⊢
    dsimp only [List.nil_append, List.cons_append]
    repeat (first | (refine sty ?_; try intro _) | (refine st ?_; try intro _) | (refine stz ?_; try intro _) | (refine stq ?_; try intro _))
    refine o_makeKd 32 rfl rfl rfl rfl rfl rfl (by decide) ?_
    intro b5
    repeat (first | (refine sty ?_; try intro _) | (refine st ?_; try intro _) | (refine stz ?_; try intro _) | (refine stq ?_; try intro _))
    refine W.lp (S := Nat) (fun i => ([], [(39, .int .i64 (i : Int)), (38, .int .i64 32), (7, .slice (some ⟨b5, 0, none⟩) 32 32), (4, .pointer (some ⟨b4, 0, none⟩))], [(b5, Okd false (bvs (outP q i) ++ []) 5), (b4, Ob (cU 25 q) 203), (D, .deferred (some []))])) (fun i => i ≤ 32) (fun i => 32 - i) 0 ?_ (h0 := Nat.zero_le _)
    intro i hi
    dsimp only
    by_cases he : i = 32
    · subst he
      refine W.bare (G.giveB b5 5 false (outP q 32) [] (Mr := [(b4, Ob (cU 25 q) 203), (D, .deferred (some []))]) (List.Perm.refl _) ?_)
      rw [outP_len q 32 (Nat.le_refl _)]
      refine G.code ?_
      repeat (first | (refine sty ?_; try intro _) | (refine st ?_; try intro _) | (refine stz ?_; try intro _) | (refine stq ?_; try intro _))
      refine G.unmark inferInstance ?_
      refine G.retV ?_
      unfold hashL outP
      simp [tup]
    · have hb := hlt (i / 8)
      have hlen := outP_len q i hi
      have hset := outP_set q i (by omega)
      have hout : Value.int .u8 ((q (i / 8) / 2 ^ (8 * (i % 8)) % 256 : Nat) : Int) = .int .u8 (((outL q i).toNat : Nat) : Int) := by
        unfold outL
        rw [UInt8.toNat_ofNat', Nat.mod_mod_of_dvd _ (by decide)]
      repeat (first | (refine sty ?_; try intro _) | (refine st ?_; try intro _) | (refine stz ?_; try intro _) | (refine stq ?_; try intro _))
      refine o_storeKd (c := outL q i) rfl rfl rfl hout (by omega) (List.Perm.refl _) ?_
      rw [hset]
      repeat (first | (refine sty ?_; try intro _) | (refine st ?_; try intro _) | (refine stz ?_; try intro _) | (refine stq ?_; try intro _))
      exact G.ag (S := Nat) (i + 1)
  · intro D c s h
    exact h.elim
end Go.Rail
namespace Go.Rail
open Go Go.Proofs
set_option maxHeartbeats 400000
set_option maxRecDepth 4000
attribute [local irreducible] OpK G W LW wpListIn Exit.then Exit.inBlock Post rounds opRun bodyPostM intOp
set_option maxHeartbeats 1000000
theorem rhash_spec (B : Nat) (f : Frm) (sv av : Value) (wrong : Int) (o : OR) (l : List Word) (hs : f.stack.length ≤ 1000000) (ho : IsOwn (GoTy.sz Word) sv f.stack.length o) (hm : f.mem.length ≤ 1048576) (h32 : f.mem.length % 32 = 0) (hl : 1 < l.length) :
    Fn Tryz.prog 95 [.pointer (some ⟨B, 0, none⟩)] [fRow (ocells o) f.stack, fRp av l, fKc] ((B, Ob (runC f sv av wrong) 94) :: ownM 49 o) (RRun B (stkF f (f.stack ++ [wordB (keccakL (pieceF f.mem l[0] (numF l[1])))])) av wrong) := by
  have h1 := number_spec l[1]
  have hb1 : numF l[1] ≤ 1099511627776 := Nat.min_le_right _ _
  generalize numF l[1] = n at h1 hb1 ⊢
  have h2 := fun av => rat_spec B f sv av wrong l[0] n hm h32 hb1
  have hpl := pieceF_len f.mem l[0] n
  generalize pieceF f.mem l[0] n = q at h2 hpl ⊢
  have h3 := ksum_spec q (by omega)
  have h4 := wfb_spec (keccakL q) (by rw [keccakL_len]; decide)
  generalize keccakL q = q2 at h3 h4 ⊢
  refine Fn.enter Tryz.func95 rfl Tryz.ntmps95 (by simp) (fun I0 w0 => ?_)
  refine W.bare (G.slice av l ?_)
  intro a1 c1 e1 k1
  subst e1
  repeat (first | (refine sty ?_; try intro _) | (refine st ?_; try intro _) | (refine stz ?_; try intro _) | (refine stq ?_; try intro _))
  refine W.drawA 20 [dq _, dq _, dq _, dq _, dq _, dk _, dq _, dq _, dq _, dq _, dq _, dk _, dq _, dq _, dq _, dq _, dq _, dq _, dq _, dq _] [[], [], [1], [2], [3], [4], [5], [], [7], [8], [9], [10], [11], [12], [0,6,13], [14], [15], [16], [16], [17]] [18, 19] (hrest := fun c => nrm ?_) (hops := by
    iterate 13 refine AllQ.aq ?_
    refine AllQ.mk (by intro c z0 Φr Lr K; refine nrm ?_; intro hK; refine o_callV rfl rfl rfl rfl h1 rfl ?_; exact hK z0) ?_
    refine AllQ.mk (by intro c z0 Φr Lr K; refine nrm ?_; intro hK; refine OpK.call rfl rfl rfl rfl (h2 _) inferInstance (Mr := ownM 49 o) (List.Perm.refl _) ?_; rintro u Φ' Mc' ⟨rfl, rfl, rfl⟩; exact hK z0) ?_
    refine AllQ.mk (by intro c z0 Φr Lr K; refine nrm ?_; intro hK; refine o_callV rfl rfl rfl rfl h3 rfl ?_; exact hK z0) ?_
    iterate 4 refine AllQ.aq ?_
    exact AllQ.nil)
  repeat (first | (refine sty ?_; try intro _) | (refine st ?_; try intro _) | (refine stz ?_; try intro _) | (refine stq ?_; try intro _))
  refine o_callV rfl rfl rfl rfl h4 rfl ?_
  repeat (first | (refine sty ?_; try intro _) | (refine st ?_; try intro _) | (refine stz ?_; try intro _) | (refine stq ?_; try intro _))
  refine OpK.call rfl rfl rfl rfl (rpush_spec B f sv (.slice a1 l.length c1) wrong o (wordB q2) hs ho) inferInstance (Mr := []) (by rw [List.append_nil]) ?_
  rintro u Φ' Mc' ⟨a, c, rfl, rfl, rfl⟩
  dsimp only [List.cons_append, List.nil_append, List.append_nil]
  repeat (first | (refine sty ?_; try intro _) | (refine st ?_; try intro _) | (refine stz ?_; try intro _) | (refine stq ?_; try intro _))
  exact G.fin rfl .nil (Φ' := [fRp (.slice a _ c) _]) (M' := [_]) inferInstance (List.Sublist.refl _) ⟨a, c, rfl, rfl, rfl⟩
end Go.Rail
namespace Go.Rail
open Go Go.Proofs
set_option maxHeartbeats 2000000
theorem stepL_law (hash : List UInt8 → List UInt8) {f : Frm} (h : Rt f) (h0 : (stepL hash f).2 = 0) :
    f.status = 0 ∧ Rt (stepL hash f).1 ∧ (stepL hash f).1.code = f.code ∧ f.mem.length ≤ (stepL hash f).1.mem.length ∧ (stepL hash f).1.gas ≤ f.gas ∧ ((stepL hash f).1.status = 0 → (stepL hash f).1.gas < f.gas) := by
  unfold stepL at h0 ⊢
  rw [right_Rt.2 h, if_neg (by decide)] at h0 ⊢
  by_cases hs : f.status ≠ 0
  · rw [if_pos hs] at h0; cases h0
  rw [if_neg hs] at h0 ⊢
  have hs0 : f.status = 0 := by omega
  by_cases hp : (f.code.length : Int) ≤ f.pc
  · rw [if_pos hp]
    obtain ⟨a1, a2, a3, a4, a5, a6, a7, a8, a9, a10, a11, a12, a13, a14, a15⟩ := h
    refine ⟨hs0, ⟨a1, a2, a3, a4, a5, a6, a7, a8, a9, a10, a11, by show (0 : Int) ≤ 1; decide, by show (1 : Int) ≤ 4; decide, ?_, .inl ?_⟩, rfl, Nat.le_refl _, Int.le_refl _, fun h => by cases h⟩
    · show f.errno ≠ 0 ↔ (1 : Int) = 4
      constructor
      · intro h; have := a14.1 h; omega
      · intro h; cases h
    · rcases a15 with h | h | h <;> first | exact h | omega
  rw [if_neg hp] at h0 ⊢
  by_cases hl : localF (f.code.getD f.pc.toNat 0).toNat = false
  · rw [if_pos hl] at h0; cases h0
  rw [if_neg hl]
  exact ⟨hs0, stepF_law hash (UInt8.toNat_lt _) h hs0 (by omega) (by simpa using hl)⟩
end Go.Rail
namespace Go.Rail
open Go Go.Proofs
set_option maxHeartbeats 1000000
def chkU (n : Nat) : Bool := !(decide (95 ≤ n ∧ n ≤ 127)) || (!(isC n) && foundF n && (infoN n).isSome && decide (popsN n = 0) && decide (pushN' n = 1) && decide (n ≠ 254) && decide (n ≠ 10) && decide (n ≠ 32) && decide (n ≠ 55) && decide (n ≠ 57) && decide (n ≠ 62) && decide (gasN n ≤ 3) && decide (1 ≤ gasN n))
theorem chkU_all : ((List.range 256).all chkU) = true := by kernel_rfl
theorem chkU_at {n : Nat} (h1 : 95 ≤ n) (h2 : n ≤ 127) : isC n = false ∧ foundF n = true ∧ (infoN n).isSome = true ∧ popsN n = 0 ∧ pushN' n = 1 ∧ 1 ≤ gasN n ∧ gasN n ≤ 3 := by
  have h := List.all_eq_true.1 chkU_all n (List.mem_range.2 (by omega))
  unfold chkU at h
  rw [decide_eq_true (show 95 ≤ n ∧ n ≤ 127 from ⟨h1, h2⟩)] at h
  simp only [Bool.not_true, Bool.false_or, Bool.and_eq_true, Bool.not_eq_true', decide_eq_true_eq] at h
  obtain ⟨⟨⟨⟨⟨⟨⟨⟨⟨⟨⟨⟨a1, a2⟩, a3⟩, a4⟩, a5⟩, _⟩, _⟩, _⟩, _⟩, _⟩, _⟩, a6⟩, a7⟩ := h
  exact ⟨a1, a2, a3, a4, a5, a7, a6⟩
theorem popL_0 (s : List Word) (h : s.length ≤ 1024) : popL s 0 = (s, [], 0) := by
  have h0 : wrongL s 0 0 = 0 := by
    unfold wrongL
    rw [if_neg (by omega), if_neg (by omega)]
  unfold popL
  rw [show ((0 : Nat) : Int) = 0 from rfl] at *
  rw [h0, if_pos rfl]
  simp
theorem growF_same (m : List UInt8) (h : m.length % 32 = 0) : growF m (m.length / 32) = m := by
  unfold growF
  rw [show m.length / 32 * 32 - m.length = 0 from by omega]
  simp
theorem step_push (hash : List UInt8 → List UInt8) (f : Frm) (h : Rt f) (hs : f.status = 0) (op : UInt8) (hpc : f.pc < f.code.length) (hop : f.code.getD f.pc.toNat 0 = op) (h1 : 95 ≤ op.toNat) (h2 : op.toNat ≤ 127) (hst : f.stack.length < 1024) :
    stepL hash f = if f.gas < gasN op.toNat then (failF f 43, 0) else ({ f with stack := f.stack ++ [opushL f.code f.pc ((op.toNat - 95 : Nat) : Int)], pc := f.pc + 1 + ((op.toNat - 95 : Nat) : Int), gas := f.gas - gasN op.toNat }, 0) := by
  obtain ⟨c1, c2, c3, c4, c5, c6, c7⟩ := chkU_at h1 h2
  have h' := h
  obtain ⟨a1, a2, a3, a4, a5, a6, a7, a8, a9, a10, a11, a12, a13, a14, a15⟩ := h'
  have hl : localF op.toNat = true := by unfold localF; rw [c2]; rfl
  have hta : takeF f.stack op.toNat = ([], 0) := by
    unfold takeF
    rw [if_neg (by rintro (h | h); (rw [h] at c3; cases c3); omega), c4, popL_0 _ a9, if_neg (by rw [c5]; omega)]
  have hsp : spanF op.toNat [] = [] := by
    unfold spanF
    rw [if_neg (by omega), if_neg (by omega), if_neg (by omega), if_neg (by omega)]
  have hmo : moreF op.toNat [] = 0 := by
    unfold moreF
    rw [if_neg (by omega), if_neg (by omega), if_neg (by omega)]
  unfold stepL
  rw [right_Rt.2 h, if_neg (by decide), if_neg (by omega), if_neg (by omega), hop, if_neg (by rw [hl]; decide)]
  unfold stepF
  rw [hta]
  dsimp only
  rw [if_neg (by decide), hsp, hmo]
  unfold payF reachF
  dsimp only
  rw [growF_same _ a11, c4, c1, Nat.sub_zero, List.take_length]
  by_cases hg : f.gas < gasN op.toNat
  · rw [if_pos (by omega), if_pos hg]
  · rw [if_neg (by omega), if_neg hg]
    dsimp only
    have hd : ∀ p : Frm, doF hash op.toNat p [] = ({ p with stack := p.stack ++ [opushL p.code (p.pc - 1) ((op.toNat - 95 : Nat) : Int)], pc := p.pc + ((op.toNat - 95 : Nat) : Int) }, 0) := by
      intro p
      unfold doF
      rw [c1, if_neg (by decide), if_pos ⟨h1, h2⟩]
    rw [hd]
    dsimp only
    rw [if_neg (by decide)]
    simp only [Bool.false_eq_true, if_false, ite_self]
    congr 2
    · rw [show f.pc + 1 - 1 = f.pc from by omega]
    · omega
theorem stop_step (hash : List UInt8 → List UInt8) (f : Frm) (h : Rt f) (hs : f.status = 0) (hp : (f.code.length : Int) ≤ f.pc) : stepL hash f = ({ f with status := 1 }, 0) := by
  unfold stepL
  rw [right_Rt.2 h, if_neg (by decide), if_neg (by omega), if_pos hp]
theorem stepL_done (hash : List UInt8 → List UInt8) (f : Frm) (hs : f.status ≠ 0) : (stepL hash f).2 ≠ 0 := by
  unfold stepL
  split
  · exact (by decide : (1 : Int) ≠ 0)
  · exact (by decide : (50 : Int) ≠ 0)
theorem runL_done (hash : List UInt8 → List UInt8) (f : Frm) (hs : f.status ≠ 0) : ∀ m, runL hash m f = (f, 0)
  | 0 => rfl
  | m + 1 => by rw [runL_s, if_pos (stepL_done hash f hs)]
end Go.Rail
namespace Go.Rail
open Go Go.Proofs
set_option maxHeartbeats 400000
set_option maxRecDepth 4000
attribute [local irreducible] OpK G W LW wpListIn Exit.then Exit.inBlock Post rounds opRun bodyPostM intOp
set_option maxHeartbeats 4000000
def actsT (c : Nat → Nat) : List (Int × Value) :=
  [(0, .agg #[.func (.func 94) #[] #[], .nilFunc, .nilFunc]),
   (32, .agg #[.func (.func 95) #[] #[], .func (.func 185) #[] #[.pointer (some ⟨c 0, 0, none⟩), .pointer (some ⟨c 1, 0, none⟩)], .func (.func 187) #[] #[.pointer (some ⟨c 2, 0, none⟩), .pointer (some ⟨c 3, 0, none⟩)]]),
   (53, .agg #[.func (.func 99) #[] #[], .nilFunc, .nilFunc]),
   (54, .agg #[.func (.func 100) #[] #[], .nilFunc, .nilFunc]),
   (55, .agg #[.func (.func 102) #[] #[], .func (.func 185) #[] #[.pointer (some ⟨c 4, 0, none⟩), .pointer (some ⟨c 5, 0, none⟩)], .func (.func 187) #[] #[.pointer (some ⟨c 6, 0, none⟩), .pointer (some ⟨c 7, 0, none⟩)]]),
   (56, .agg #[.func (.func 105) #[] #[], .nilFunc, .nilFunc]),
   (57, .agg #[.func (.func 106) #[] #[], .func (.func 185) #[] #[.pointer (some ⟨c 8, 0, none⟩), .pointer (some ⟨c 9, 0, none⟩)], .func (.func 187) #[] #[.pointer (some ⟨c 10, 0, none⟩), .pointer (some ⟨c 11, 0, none⟩)]]),
   (61, .agg #[.func (.func 107) #[] #[], .nilFunc, .nilFunc]),
   (62, .agg #[.func (.func 108) #[] #[], .func (.func 185) #[] #[.pointer (some ⟨c 12, 0, none⟩), .pointer (some ⟨c 13, 0, none⟩)], .func (.func 187) #[] #[.pointer (some ⟨c 14, 0, none⟩), .pointer (some ⟨c 15, 0, none⟩)]]),
   (81, .agg #[.func (.func 109) #[] #[], .nilFunc, .func (.func 190) #[] #[.pointer (some ⟨c 16, 0, none⟩)]]),
   (82, .agg #[.func (.func 112) #[] #[], .nilFunc, .func (.func 190) #[] #[.pointer (some ⟨c 17, 0, none⟩)]]),
   (83, .agg #[.func (.func 114) #[] #[], .nilFunc, .func (.func 190) #[] #[.pointer (some ⟨c 18, 0, none⟩)]]),
   (86, .agg #[.func (.func 115) #[] #[], .nilFunc, .nilFunc]),
   (87, .agg #[.func (.func 116) #[] #[], .nilFunc, .nilFunc]),
   (88, .agg #[.func (.func 117) #[] #[], .nilFunc, .nilFunc]),
   (89, .agg #[.func (.func 118) #[] #[], .nilFunc, .nilFunc]),
   (90, .agg #[.func (.func 119) #[] #[], .nilFunc, .nilFunc]),
   (91, .agg #[.func (.func 120) #[] #[], .nilFunc, .nilFunc]),
   (243, .agg #[.func (.func 121) #[] #[], .nilFunc, .func (.func 187) #[] #[.pointer (some ⟨c 19, 0, none⟩), .pointer (some ⟨c 20, 0, none⟩)]]),
   (253, .agg #[.func (.func 123) #[] #[], .nilFunc, .func (.func 187) #[] #[.pointer (some ⟨c 21, 0, none⟩), .pointer (some ⟨c 22, 0, none⟩)]])]
abbrev actsF (c : Nat → Nat) : List Fa :=
  [fBlk (c 21) [.int .i64 0] 3, fBlk (c 22) [.int .i64 1] 3,
   fBlk (c 19) [.int .i64 0] 3, fBlk (c 20) [.int .i64 1] 3,
   fBlk (c 18) [.int .i64 1] 3,
   fBlk (c 17) [.int .i64 32] 3,
   fBlk (c 16) [.int .i64 32] 3,
   fBlk (c 14) [.int .i64 0] 3, fBlk (c 15) [.int .i64 2] 3,
   fBlk (c 12) [.func (.func 104) #[] #[]] 107, fBlk (c 13) [.int .i64 2] 3,
   fBlk (c 10) [.int .i64 0] 3, fBlk (c 11) [.int .i64 2] 3,
   fBlk (c 8) [.func (.func 104) #[] #[]] 107, fBlk (c 9) [.int .i64 2] 3,
   fBlk (c 6) [.int .i64 0] 3, fBlk (c 7) [.int .i64 2] 3,
   fBlk (c 4) [.func (.func 104) #[] #[]] 107, fBlk (c 5) [.int .i64 2] 3,
   fBlk (c 2) [.int .i64 0] 3, fBlk (c 3) [.int .i64 1] 3,
   fBlk (c 0) [.func (.func 97) #[] #[]] 107, fBlk (c 1) [.int .i64 1] 3]
def cOf (l : List Nat) (i : Nat) : Nat := l.getD i 0
theorem acts_spec : Fn Tryz.prog 60 [] [] [] (fun u Φ' M' => ∃ b l, u = .map (some b) ∧ Φ' = fObj b (MapV (actsT (cOf l))) :: actsF (cOf l) ∧ M' = []) := by
  refine Fn.enter Tryz.func60 rfl Tryz.ntmps60 (by simp) (fun I0 w0 => ?_)
  repeat (first | (refine sty ?_; try intro _) | (refine st ?_; try intro _) | (refine stz ?_; try intro _) | (refine stq ?_; try intro _))
  refine o_makeMapV rfl rfl ?_
  intro b
  repeat (first
    | (refine st ?_; try intro _)
    | refine o_insV rfl rfl rfl rfl (by kernel_rfl) ?_
    | (refine OpK.call rfl rfl rfl rfl (fof_spec _ _) inferInstance (Mr := _) (List.Perm.refl _) ?_; rintro _ _ _ ⟨_, _, rfl, rfl, rfl⟩; dsimp only [List.cons_append, List.nil_append, List.append_nil])
    | (refine OpK.call rfl rfl rfl rfl (fpiece_spec _ _) inferInstance (Mr := _) (List.Perm.refl _) ?_; rintro _ _ _ ⟨_, _, rfl, rfl, rfl⟩; dsimp only [List.cons_append, List.nil_append, List.append_nil])
    | (refine OpK.call rfl rfl rfl rfl (ffixed_spec _) inferInstance (Mr := _) (List.Perm.refl _) ?_; rintro _ _ _ ⟨_, rfl, rfl, rfl⟩; dsimp only [List.cons_append, List.nil_append, List.append_nil]))
  rename_i c0 c1 c2 c3 c4 c5 c6 c7 c8 c9 c10 c11 c12 c13 c14 c15 c16 c17 c18 c19 c20 c21 c22
  refine G.giveObj b (MapV (actsT (cOf [c0, c1, c2, c3, c4, c5, c6, c7, c8, c9, c10, c11, c12, c13, c14, c15, c16, c17, c18, c19, c20, c21, c22]))) (m := MDel.head) ?_
  exact G.ret rfl (.cons (.tmp rfl) .nil) (Φ' := fObj b (MapV (actsT (cOf [c0, c1, c2, c3, c4, c5, c6, c7, c8, c9, c10, c11, c12, c13, c14, c15, c16, c17, c18, c19, c20, c21, c22]))) :: actsF (cOf [c0, c1, c2, c3, c4, c5, c6, c7, c8, c9, c10, c11, c12, c13, c14, c15, c16, c17, c18, c19, c20, c21, c22])) (M' := []) ⟨fun I hp => hp⟩ (List.nil_sublist _) ⟨b, [c0, c1, c2, c3, c4, c5, c6, c7, c8, c9, c10, c11, c12, c13, c14, c15, c16, c17, c18, c19, c20, c21, c22], rfl, rfl, rfl⟩
def RDo (B : Nat) (av : Value) (p : Frm × Int) : Value → List Fa → Own → Prop := fun u Φ' M' => ∃ a c, u = .tuple #[] ∧ Φ' = [fRp (.slice a p.1.stack.length c) p.1.stack] ∧ M' = [(B, Ob (runC p.1 (.slice a p.1.stack.length c) av p.2) 94)]
def DoOK (op : Nat) (fd : FuncId) (cd : List Value) (Φx : List Fa) : Prop := ∀ (B : Nat) (f : Frm) (sv av : Value) (l : List Word) (o : OR), Paid f op → l.length = popsN op → (isC op = false → ∃ r, infoN op = some r) → IsOwn (GoTy.sz Word) sv f.stack.length o →
  Fn Tryz.prog fd ([.pointer (some ⟨B, 0, none⟩)] ++ cd) (fRow (ocells o) f.stack :: fRp av l :: fKc :: Φx) ((B, Ob (runC f sv av 0) 94) :: ownM 49 o) (RDo B av (doF keccakL op f l))
def MoreOK (op : Nat) (v : Value) (Φx : List Fa) : Prop := (v = .nilFunc ∧ ∀ l, moreF op l = 0) ∨ ∃ g cg, v = .func (.func g) #[] cg.toArray ∧ HasFn Tryz.prog g ∧ ∀ (av : Value) (l : List Word), l.length = popsN op → FnV Tryz.prog g ([av] ++ cg) (fRp av l :: Φx) (.int .i64 ((moreF op l : Nat) : Int))
def ReachOK (op : Nat) (v : Value) (Φx : List Fa) : Prop := (v = .nilFunc ∧ ∀ l, spanF op l = []) ∨ ∃ g cg, v = .func (.func g) #[] cg.toArray ∧ HasFn Tryz.prog g ∧ ∀ (av : Value) (l : List Word), l.length = popsN op → ∃ s : Spn, spanF op l = [(s.at_, s.n)] ∧ FnV Tryz.prog g ([av] ++ cg) (fRp av l :: Φx) s.v
def ActOK (op : Nat) (x : Value) (Φx : List Fa) : Prop := ∃ fd cd more reach, x = .agg #[.func (.func fd) #[] cd.toArray, more, reach] ∧ HasFn Tryz.prog fd ∧ DoOK op fd cd Φx ∧ MoreOK op more Φx ∧ ReachOK op reach Φx
theorem Fn.lay {P : Program} {f : FuncId} {args : List Value} {Φ Φ1 ψ : List Fa} {M M1 : Own} {R : Value → List Fa → Own → Prop} (h : Fn P f args Φ1 M1 R)
    (hl : ∀ I w, (∀ φ ∈ Φ, φ.p I) → Wd ⟨I, doms M, w⟩ I M w → ∃ I1, (∀ φ ∈ Φ1, φ.p I1) ∧ (∀ φ ∈ ψ, φ.p I1) ∧ Wd ⟨I, doms M, w⟩ I1 M1 w) : Fn P f args Φ M (fun u Φ' M' => ∃ Φ2, R u Φ2 M' ∧ Φ' = Φ2 ++ ψ) := by
  intro I w hp hw
  obtain ⟨I1, h1, h2, h3⟩ := hl I w hp hw
  refine (h I1 w h1 (h3.start (List.Sublist.refl _))).mono ?_
  rintro e w' ⟨v, Φ2, M2, I2, rfl, hR, hf, hwd⟩
  have hb := Wd.back (Mr := []) (by rw [List.append_nil]; exact h3) hwd
  rw [List.append_nil] at hb
  refine ⟨v, Φ2 ++ ψ, M2, I2, rfl, ⟨Φ2, hR, rfl⟩, fun φ hφ => ?_, hb⟩
  rcases List.mem_append.1 hφ with hφ | hφ
  · exact hf φ hφ
  · exact φ.mono _ _ hwd.up (h2 φ hφ)
end Go.Rail
