/- keccak.Sum. -/
import Derived.Test.YtpbbjkbackiljaaGreatDoorAK3
import Derived.Test.YtpbbjkbackiljaaGreatDoorAFK
namespace Go.Rail
open Go Go.Proofs
set_option linter.unusedSimpArgs false
set_option linter.unusedVariables false
set_option maxHeartbeats 400000
set_option maxRecDepth 4000
attribute [local irreducible] OpK G W LW wpListIn Exit.then Exit.inBlock Post rounds opRun bodyPostM intOp
set_option maxHeartbeats 1000000
/-- A piece is mixed in, of the first i lanes. -/
def abL (a : Nat → Nat) (c : List UInt8) : Nat → Nat → Nat
  | 0 => a
  | i + 1 => fun k => if k = i then abL a c i i ^^^ lowS ((c.take (8 * i + 8)).drop (8 * i)) 8 else abL a c i k
theorem abL_lt (a : Nat → Nat) (c : List UInt8) (ha : ∀ k, a k < 18446744073709551616) : ∀ i k, abL a c i k < 18446744073709551616
  | 0, k => ha k
  | i + 1, k => by
    unfold abL
    split
    · exact Nat.xor_lt_two_pow (n := 64) (abL_lt a c ha i i) (lowS_lt _ _)
    · exact abL_lt a c ha i k
/-- Behind so many pieces. -/
def smL (l : List UInt8) : Nat → Nat → Nat
  | 0 => fun _ => 0
  | k + 1 => peL (abL (smL l k) ((l.take (136 * k + 136)).drop (136 * k)) 17) 24
theorem smL_lt (l : List UInt8) : ∀ i k, smL l i k < 18446744073709551616
  | 0, k => (by decide : (0 : Nat) < 18446744073709551616)
  | i + 1, k => by
    unfold smL
    exact peL_lt _ (abL_lt _ _ (smL_lt l i) 17) 24 k
/-- The bytes of lanes. -/
def outL (a : Nat → Nat) (i : Nat) : UInt8 := UInt8.ofNat (a (i / 8) / 2 ^ (8 * (i % 8)) % 256)
def hashL (a : Nat → Nat) : List UInt8 := (List.range 32).map (outL a)
def keccakL (s : List UInt8) : List UInt8 := hashL (smL (padL s) ((padL s).length / 136))
theorem keccakL_len (s : List UInt8) : (keccakL s).length = 32 := by simp [keccakL, hashL]
/-- The first i bytes told. -/
def outP (a : Nat → Nat) (i : Nat) : List UInt8 := (List.range i).map (outL a) ++ List.replicate (32 - i) 0
theorem outP_len (a : Nat → Nat) (i : Nat) (h : i ≤ 32) : (outP a i).length = 32 := by simp [outP]; omega
theorem outP_set (a : Nat → Nat) (i : Nat) (h : i < 32) : (outP a i).set i (outL a i) = outP a (i + 1) := by
  unfold outP
  rw [List.set_append_right _ _ (by simp), List.range_succ, List.map_append]
  simp only [List.length_map, List.length_range, Nat.sub_self]
  obtain ⟨m, hm⟩ : ∃ m, 32 - i = m + 1 := ⟨31 - i, by omega⟩
  rw [hm, show 32 - (i + 1) = m from by omega, List.replicate_succ]
  simp
theorem ksum_spec (s : List UInt8) (hs : s.length ≤ 1048576) : FnV Tryz.prog 183 [.string (ba s)] [fKc] (.tuple #[.string (ba (keccakL s)), .int .i64 0]) := by
  have hp := kpad_spec s (by omega)
  have hm := padL_mod s
  have hl : (padL s).length ≤ 1048576 + 200 := by rw [padL_len]; have : padZ s.length < 136 := Nat.mod_lt _ (by decide); omega
  have hl1 : 136 ≤ (padL s).length := by have := padL_len s; omega
  unfold keccakL
  generalize padL s = l at hp hm hl hl1 ⊢
  refine Fn.enter Tryz.func183 rfl Tryz.ntmps183 (by simp) (fun I0 w0 => ?_)
  repeat (first | (refine sty ?_; try intro _) | (refine st ?_; try intro _) | (refine stz ?_; try intro _) | (refine stq ?_; try intro _))
  rename_i b4
  refine o_callV rfl rfl rfl rfl hp rfl ?_
  repeat (first | (refine sty ?_; try intro _) | (refine st ?_; try intro _) | (refine stz ?_; try intro _) | (refine stq ?_; try intro _))
  refine o_toB rfl rfl rfl ?_
  intro v
  repeat (first | (refine sty ?_; try intro _) | (refine st ?_; try intro _) | (refine stz ?_; try intro _) | (refine stq ?_; try intro _))
  refine OpK.call rfl rfl rfl rfl (kchunk_spec v l) inferInstance (Mr := _) (List.Perm.refl _) ?_
  rintro u Φ' Mc' ⟨b2, b3, rfl, rfl, rfl⟩
  dsimp only [List.cons_append, List.nil_append, List.append_nil]
  repeat (first | (refine sty ?_; try intro _) | (refine st ?_; try intro _) | (refine stz ?_; try intro _) | (refine stq ?_; try intro _))
  have hne : l ≠ [] := by intro e; rw [e] at hl1; simp at hl1
  refine W.bare (G.sliceB v l hne ?_)
  intro b0 off cap e1 k1
  subst e1
  refine G.code ?_
  have hit := kchunk1_spec b0 b2 b3 off cap l hm (by omega) k1
  refine W.rangeFuncR (enc := chE ⟨b0, off, none⟩ l) (ps := [16]) (Mr := []) (fun k s => s = ([fKc, fRp (.slice (some ⟨b0, off, none⟩) l.length cap) l], [(b4, Ob (cU 25 (smL l k)) 203)])) (fun _ _ => False) rfl hit (by decide) (chE_one _ _) inferInstance ([fKc, fRp (.slice (some ⟨b0, off, none⟩) l.length cap) l], [(b4, Ob (cU 25 (smL l 0)) 203)]) rfl inferInstance (List.Perm.refl _) ?_ ?_ ?_
  · rintro y rec I0' w0' k hk _ rfl
    rw [chE_len] at hk
    dsimp only
    rw [chE_at b0 off l k (by rw [chE_len]; exact hk)]
    show W _ _ _ _ ((16, .slice (some ⟨b0, off + k * 136, none⟩) 136 136) :: _) _
    have hlt := smL_lt l k
    have hsm : smL l (k + 1) = peL (abL (smL l k) ((l.take (136 * k + 136)).drop (136 * k)) 17) 24 := rfl
    generalize smL l (k + 1) = q1 at hsm ⊢
    generalize smL l k = q at hlt hsm ⊢
    have hck : ((l.take (136 * k + 136)).drop (136 * k)).length = 136 := by simp; omega
    refine W.bare (G.part (b := b0) (off := off) (n := l.length) (cap := cap) l (136 * k) (136 * k + 136) 136 (off + k * 136) (by omega) (by omega) (by omega) (by show off + 136 * k * 1 = _; omega) ?_)
    rw [show 136 * k + 136 - 136 * k = 136 from by omega]
    generalize (l.take (136 * k + 136)).drop (136 * k) = ck at hck hsm ⊢
    refine G.code ?_
    repeat (first | (refine sty ?_; try intro _) | (refine st ?_; try intro _) | (refine stz ?_; try intro _) | (refine stq ?_; try intro _))
    refine G.begin (by rfl) ?_
    repeat (first | (refine sty ?_; try intro _) | (refine st ?_; try intro _) | (refine stz ?_; try intro _) | (refine stq ?_; try intro _))
    refine W.lp (S := Nat) (fun i => ([fRp (.slice (some ⟨b0, off + k * 136, none⟩) 136 136) ck, fKc, fRp (.slice (some ⟨b0, off, none⟩) l.length cap) l], [(17, .int .i64 (i : Int)), (5, .slice (some ⟨b0, off + k * 136, none⟩) 136 136), (4, .pointer (some ⟨b4, 0, none⟩))], [(y, Obj.loop { rec with state := .busy, pending := none }), (b4, Ob (cU 25 (abL q ck i)) 203)])) (fun i => i ≤ 17) (fun i => 17 - i) 0 ?_ (h0 := Nat.zero_le _)
    intro i hi
    dsimp only
    by_cases he : i = 17
    · subst he
      have hpe := permute_spec (abL q ck 17) (abL_lt q ck hlt 17)
      rw [← hsm] at hpe
      generalize abL q ck 17 = q2 at hpe ⊢
      repeat (first | refine stu ?_ | (refine sty ?_; try intro _) | (refine st ?_; try intro _) | (refine stz ?_; try intro _) | (refine stq ?_; try intro _))
      refine o_callV rfl rfl rfl rfl hpe rfl ?_
      repeat (first | refine stu ?_ | (refine sty ?_; try intro _) | (refine st ?_; try intro _) | (refine stz ?_; try intro _) | (refine stq ?_; try intro _))
      refine G.roundEnd (r := { rec with state := .busy, pending := none }) (inferInstanceAs (MDel ((y, Obj.loop { rec with state := .busy, pending := none }) :: _) y _ _)) (Φ' := [fKc, fRp (.slice (some ⟨b0, off, none⟩) l.length cap) l]) (M'' := [(b4, Ob (cU 25 q1) 203)]) ?_ inferInstance (List.Sublist.refl _)
      exact Or.inl ⟨rfl, ([fKc, fRp (.slice (some ⟨b0, off, none⟩) l.length cap) l], [(b4, Ob (cU 25 q1) 203)]), rfl, rfl⟩
    · have hs : abL q ck (i + 1) = fun k => if k = i then abL q ck i i ^^^ lowS ((ck.take (8 * i + 8)).drop (8 * i)) 8 else abL q ck i k := rfl
      have h1 := abL_lt q ck hlt i i
      have h2 := lowS_lt ((ck.take (8 * i + 8)).drop (8 * i)) 8
      have hcl : ((ck.take (8 * i + 8)).drop (8 * i)).length = 8 := by simp; omega
      have hlow := fun v => klow_spec v ((ck.take (8 * i + 8)).drop (8 * i)) (by omega)
      rw [hcl] at hlow
      generalize hq3 : abL q ck (i + 1) = q3 at hs
      generalize abL q ck i = q2 at h1 hs ⊢
      generalize hw : (ck.take (8 * i + 8)).drop (8 * i) = w at h2 hcl hlow hs ⊢
      repeat (first | (refine sty ?_; try intro _) | (refine st ?_; try intro _) | (refine stz ?_; try intro _) | (refine stq ?_; try intro _))
      refine W.drawA 11 [dq _, dq _, dq _, dq _, dq _, dq _, dq _, dq _, dq _, dk fun _ z => fRp z w, dq _] [[], [0], [1], [], [], [4], [], [6], [7], [3,5,8], [9]] [0, 2, 10] (hrest := fun c => nrm ?_) (hops := by
        iterate 9 refine AllQ.aq ?_
        refine AllQ.mk (by intro c z0 Φr Lr K; refine nrm ?_; intro hK; refine o_slice (8 * i) (8 * i + 8) rfl rfl rfl (bdS rfl) (bdS rfl) (by omega) (by omega) ?_; rw [hw]; intro v'; exact hK v') ?_
        refine AllQ.mk (by intro c z0 Φr Lr K; refine nrm ?_; intro hK; refine o_callV rfl rfl rfl rfl (hlow (c 9)) rfl ?_; exact hK z0) ?_
        exact AllQ.nil)
      repeat (first | (refine sty ?_; try intro _) | (refine st ?_; try intro _) | (refine stz ?_; try intro _) | (refine stq ?_; try intro _))
      rw [← hs, ← hq3]
      exact G.ag (S := Nat) (i + 1)
  · rintro D _ rfl
    rw [chE_len]
    have hlt := smL_lt l (l.length / 136)
    generalize smL l (l.length / 136) = q at hlt ⊢
    dsimp only [List.nil_append, List.cons_append]
    repeat (first | (refine sty ?_; try intro _) | (refine st ?_; try intro _) | (refine stz ?_; try intro _) | (refine stq ?_; try intro _))
    refine o_makeKd 32 rfl rfl rfl rfl rfl rfl (by decide) ?_
    intro b5
    repeat (first | (refine sty ?_; try intro _) | (refine st ?_; try intro _) | (refine stz ?_; try intro _) | (refine stq ?_; try intro _))
    refine W.lp (S := Nat) (fun i => ([], [(39, .int .i64 (i : Int)), (38, .int .i64 32), (7, .slice (some ⟨b5, 0, none⟩) 32 32), (4, .pointer (some ⟨b4, 0, none⟩))], [(b5, Okd false (bvs (outP q i) ++ []) 5), (b4, Ob (cU 25 q) 203), (D, .deferred (some []))])) (fun i => i ≤ 32) (fun i => 32 - i) 0 ?_ (h0 := Nat.zero_le _)
    intro i hi
    dsimp only
    by_cases he : i = 32
    · subst he
      refine W.bare (G.giveB b5 5 false (outP q 32) [] (Mr := [(b4, Ob (cU 25 q) 203), (D, .deferred (some []))]) (List.Perm.refl _) ?_)
      rw [outP_len q 32 (Nat.le_refl _)]
      refine G.code ?_
      repeat (first | (refine sty ?_; try intro _) | (refine st ?_; try intro _) | (refine stz ?_; try intro _) | (refine stq ?_; try intro _))
      refine G.unmark inferInstance ?_
      refine G.retV ?_
      unfold hashL outP
      simp [tup]
    · have hb := hlt (i / 8)
      have hlen := outP_len q i hi
      have hset := outP_set q i (by omega)
      have hout : Value.int .u8 ((q (i / 8) / 2 ^ (8 * (i % 8)) % 256 : Nat) : Int) = .int .u8 (((outL q i).toNat : Nat) : Int) := by
        unfold outL
        rw [UInt8.toNat_ofNat', Nat.mod_mod_of_dvd _ (by decide)]
      repeat (first | (refine sty ?_; try intro _) | (refine st ?_; try intro _) | (refine stz ?_; try intro _) | (refine stq ?_; try intro _))
      refine o_storeKd (c := outL q i) rfl rfl rfl hout (by omega) (List.Perm.refl _) ?_
      rw [hset]
      repeat (first | (refine sty ?_; try intro _) | (refine st ?_; try intro _) | (refine stz ?_; try intro _) | (refine stq ?_; try intro _))
      exact G.ag (S := Nat) (i + 1)
  · intro D c s h
    exact h.elim
end Go.Rail
namespace Go.Rail
open Go Go.Proofs
set_option linter.unusedSimpArgs false
set_option linter.unusedVariables false
set_option maxHeartbeats 400000
set_option maxRecDepth 4000
attribute [local irreducible] OpK G W LW wpListIn Exit.then Exit.inBlock Post rounds opRun bodyPostM intOp
set_option maxHeartbeats 1000000
theorem rhash_spec (B : Nat) (f : Frm) (sv av : Value) (wrong : Int) (o : OR) (l : List Word) (hs : f.stack.length ≤ 1000000) (ho : IsOwn (GoTy.sz Word) sv f.stack.length o) (hm : f.mem.length ≤ 1048576) (h32 : f.mem.length % 32 = 0) (hl : 1 < l.length) :
    Fn Tryz.prog 95 [.pointer (some ⟨B, 0, none⟩)] [fRow (ocells o) f.stack, fRp av l, fKc] ((B, Ob (runC f sv av wrong) 94) :: ownM 49 o) (RRun B (stkF f (f.stack ++ [wordB (keccakL (pieceF f.mem l[0] (numF l[1])))])) av wrong) := by
  have h1 := number_spec l[1]
  have hb1 : numF l[1] ≤ 1099511627776 := Nat.min_le_right _ _
  generalize numF l[1] = n at h1 hb1 ⊢
  have h2 := fun av => rat_spec B f sv av wrong l[0] n hm h32 hb1
  have hpl := pieceF_len f.mem l[0] n
  generalize pieceF f.mem l[0] n = q at h2 hpl ⊢
  have h3 := ksum_spec q (by omega)
  have h4 := wfb_spec (keccakL q) (by rw [keccakL_len]; decide)
  generalize keccakL q = q2 at h3 h4 ⊢
  refine Fn.enter Tryz.func95 rfl Tryz.ntmps95 (by simp) (fun I0 w0 => ?_)
  refine W.bare (G.slice av l ?_)
  intro a1 c1 e1 k1
  subst e1
  repeat (first | (refine sty ?_; try intro _) | (refine st ?_; try intro _) | (refine stz ?_; try intro _) | (refine stq ?_; try intro _))
  refine W.drawA 20 [dq _, dq _, dq _, dq _, dq _, dk _, dq _, dq _, dq _, dq _, dq _, dk _, dq _, dq _, dq _, dq _, dq _, dq _, dq _, dq _] [[], [], [1], [2], [3], [4], [5], [], [7], [8], [9], [10], [11], [12], [0,6,13], [14], [15], [16], [16], [17]] [18, 19] (hrest := fun c => nrm ?_) (hops := by
    iterate 13 refine AllQ.aq ?_
    refine AllQ.mk (by intro c z0 Φr Lr K; refine nrm ?_; intro hK; refine o_callV rfl rfl rfl rfl h1 rfl ?_; exact hK z0) ?_
    refine AllQ.mk (by intro c z0 Φr Lr K; refine nrm ?_; intro hK; refine OpK.call rfl rfl rfl rfl (h2 _) inferInstance (Mr := ownM 49 o) (List.Perm.refl _) ?_; rintro u Φ' Mc' ⟨rfl, rfl, rfl⟩; exact hK z0) ?_
    refine AllQ.mk (by intro c z0 Φr Lr K; refine nrm ?_; intro hK; refine o_callV rfl rfl rfl rfl h3 rfl ?_; exact hK z0) ?_
    iterate 4 refine AllQ.aq ?_
    exact AllQ.nil)
  repeat (first | (refine sty ?_; try intro _) | (refine st ?_; try intro _) | (refine stz ?_; try intro _) | (refine stq ?_; try intro _))
  refine o_callV rfl rfl rfl rfl h4 rfl ?_
  repeat (first | (refine sty ?_; try intro _) | (refine st ?_; try intro _) | (refine stz ?_; try intro _) | (refine stq ?_; try intro _))
  refine OpK.call rfl rfl rfl rfl (rpush_spec B f sv (.slice a1 l.length c1) wrong o (wordB q2) hs ho) inferInstance (Mr := []) (by rw [List.append_nil]) ?_
  rintro u Φ' Mc' ⟨a, c, rfl, rfl, rfl⟩
  dsimp only [List.cons_append, List.nil_append, List.append_nil]
  repeat (first | (refine sty ?_; try intro _) | (refine st ?_; try intro _) | (refine stz ?_; try intro _) | (refine stq ?_; try intro _))
  exact G.fin rfl .nil (Φ' := [fRp (.slice a _ c) _]) (M' := [_]) inferInstance (List.Sublist.refl _) ⟨a, c, rfl, rfl, rfl⟩
end Go.Rail
