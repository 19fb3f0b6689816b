/- frame.find. -/
import Derived.Test.YtpbbjkbackiljaaGreatDoorAFMFN
set_option linter.unusedSimpArgs false
set_option linter.unusedVariables false
namespace Go.Rail
open Go Go.Proofs
set_option maxHeartbeats 400000
set_option maxRecDepth 4000
attribute [local irreducible] OpK G W LW wpListIn Exit.then Exit.inBlock Post rounds opRun bodyPostM intOp
set_option maxHeartbeats 1000000
theorem doC_ok (op : Nat) (hop : op < 256) (hc : isC op = true) (b1 : Nat) : DoOK op 53 [.pointer (some ⟨b1, 0, none⟩)] [fBlk b1 [.int .u8 (op : Int)] 5] := by
  refine doOf_lay fun B f a c av l hp hl => ?_
  have hs := hp.stack
  have e : doF keccakL op f l = (stkF f (doC op f.stack).1, 0) := by unfold doF; rw [if_pos hc]
  rw [e]
  exact (find1_spec B b1 f a c av 0 op hop (by omega)).weaken
theorem isC_push {op : Nat} (h1 : 95 ≤ op) (h2 : op ≤ 127) : isC op = false := (chkU_at h1 h2).1
theorem doP_ok (op : Nat) (h1 : 95 ≤ op) (h2 : op ≤ 127) (b1 : Nat) : DoOK op 57 [.pointer (some ⟨b1, 0, none⟩)] [fBlk b1 [.int .i64 ((op - 95 : Nat) : Int)] 3] := by
  refine doOf_push fun B f sv av l o hp hl ho => ?_
  have hs := hp.stack; have hc := hp.code; have hp1 := hp.pc1; have hp2 := hp.pc2
  have e : doF keccakL op f l = (pcF f (f.stack ++ [opushL f.code (f.pc - 1) ((op - 95 : Nat) : Int)]) (f.pc + ((op - 95 : Nat) : Int)), 0) := by
    unfold doF
    rw [if_neg (by rw [isC_push h1 h2]; decide), if_pos ⟨h1, h2⟩]
  rw [e]
  exact (find3_spec B b1 f sv av 0 (op - 95) o (by omega) ho (by omega) (by omega) (by omega) (by omega)).weaken
def chkN (n : Nat) : Bool := !(isC n || decide (95 ≤ n ∧ n ≤ 127)) || (decide (n ≠ 32) && decide (n ≠ 55) && decide (n ≠ 57) && decide (n ≠ 62) && decide (n ≠ 81) && decide (n ≠ 82) && decide (n ≠ 83) && decide (n ≠ 243) && decide (n ≠ 253) && (!isC 10 || decide (popsN 10 = 2)))
theorem chkN_all : ((List.range 256).all chkN) = true := by kernel_rfl
theorem span_nil {op : Nat} (hop : op < 256) (h : isC op = true ∨ (95 ≤ op ∧ op ≤ 127)) (l : List Word) : spanF op l = [] ∧ (op ≠ 10 → moreF op l = 0) := by
  have hk := List.all_eq_true.1 chkN_all op (List.mem_range.2 hop)
  unfold chkN at hk
  have hb : (isC op || decide (95 ≤ op ∧ op ≤ 127)) = true := by
    rcases h with h | h
    · rw [h]; rfl
    · rw [decide_eq_true h, Bool.or_true]
  rw [hb] at hk
  simp only [Bool.not_true, Bool.false_or, Bool.and_eq_true, decide_eq_true_eq] at hk
  obtain ⟨⟨⟨⟨⟨⟨⟨⟨⟨a1, a2⟩, a3⟩, a4⟩, a5⟩, a6⟩, a7⟩, a8⟩, a9⟩, _⟩ := hk
  unfold spanF moreF
  rw [if_neg (by omega), if_neg (by omega), if_neg (by omega), if_neg (by omega)]
  exact ⟨rfl, fun h10 => by rw [if_neg h10, if_neg a1, if_neg (by omega)]⟩
theorem pops10 : popsN 10 = 2 := by kernel_rfl
theorem more10 (Φx : List Fa) : MoreOK 10 (.func (.func 55) #[] #[]) Φx :=
  .inr ⟨55, [], rfl, inferInstance, fun av l hl => by
    rw [pops10] at hl
    have h := find2_spec av l (by omega)
    rw [show moreF 10 l = 50 * (trimF (byN (l.getD 1 .zero).num)).length from rfl, getD_at l 1 (by omega)]
    exact h.weaken⟩
theorem more_nil {op : Nat} {Φx : List Fa} (h : ∀ l, moreF op l = 0) : MoreOK op .nilFunc Φx := .inl ⟨rfl, h⟩
theorem reach_nil {op : Nat} {Φx : List Fa} (h : ∀ l, spanF op l = []) : ReachOK op .nilFunc Φx := .inl ⟨rfl, h⟩
theorem Ents.mem {Φ Ψ : List Fa} (h : ∀ φ ∈ Ψ, φ ∈ Φ) : Ents Φ Ψ := ⟨fun I hp φ hφ => hp φ (h φ hφ)⟩
theorem more_hash {Φx : List Fa} (b1 b2 : Nat) (h1 : fBlk b1 [.func (.func 97) #[] #[]] 107 ∈ Φx) (h2 : fBlk b2 [.int .i64 1] 3 ∈ Φx) : MoreOK 32 (.func (.func 185) #[] #[.pointer (some ⟨b1, 0, none⟩), .pointer (some ⟨b2, 0, none⟩)]) Φx :=
  .inr ⟨185, [.pointer (some ⟨b1, 0, none⟩), .pointer (some ⟨b2, 0, none⟩)], rfl, inferInstance, fun av l hl => by
    rw [pops32] at hl
    have h := of1_hash b1 b2 1 av l (by omega) (by omega)
    rw [show moreF 32 l = 6 * wordsF (numF (l.getD 1 .zero)) from rfl, getD_at l 1 (by omega)]
    exact h.weaken (e := .mem fun φ hφ => by
      rcases List.mem_cons.1 hφ with rfl | hφ
      · exact .head _
      · rcases List.mem_cons.1 hφ with rfl | hφ
        · exact .tail _ h1
        · rcases List.mem_cons.1 hφ with rfl | hφ
          · exact .tail _ h2
          · exact (List.not_mem_nil hφ).elim)⟩
theorem more_copy {Φx : List Fa} {op : Nat} (b1 b2 : Nat) (hop : popsN op = 3) (hm : ∀ l, moreF op l = 3 * wordsF (numF (l.getD 2 .zero))) (h1 : fBlk b1 [.func (.func 104) #[] #[]] 107 ∈ Φx) (h2 : fBlk b2 [.int .i64 2] 3 ∈ Φx) : MoreOK op (.func (.func 185) #[] #[.pointer (some ⟨b1, 0, none⟩), .pointer (some ⟨b2, 0, none⟩)]) Φx :=
  .inr ⟨185, [.pointer (some ⟨b1, 0, none⟩), .pointer (some ⟨b2, 0, none⟩)], rfl, inferInstance, fun av l hl => by
    rw [hop] at hl
    have h := of1_copy b1 b2 2 av l (by omega) (by omega)
    rw [hm, getD_at l 2 (by omega)]
    exact h.weaken (e := .mem fun φ hφ => by
      rcases List.mem_cons.1 hφ with rfl | hφ
      · exact .head _
      · rcases List.mem_cons.1 hφ with rfl | hφ
        · exact .tail _ h1
        · rcases List.mem_cons.1 hφ with rfl | hφ
          · exact .tail _ h2
          · exact (List.not_mem_nil hφ).elim)⟩
theorem reach_piece {Φx : List Fa} {op : Nat} (b1 b2 i j k : Nat) (hop : popsN op = k) (hk : k ≤ 1000) (hi : i < k) (hj : j < k) (hm : ∀ l, spanF op l = [(l.getD i .zero, l.getD j .zero)]) (h1 : fBlk b1 [.int .i64 (i : Int)] 3 ∈ Φx) (h2 : fBlk b2 [.int .i64 (j : Int)] 3 ∈ Φx) : ReachOK op (.func (.func 187) #[] #[.pointer (some ⟨b1, 0, none⟩), .pointer (some ⟨b2, 0, none⟩)]) Φx :=
  .inr ⟨187, [.pointer (some ⟨b1, 0, none⟩), .pointer (some ⟨b2, 0, none⟩)], rfl, inferInstance, fun av l hl => by
    rw [hop] at hl
    have h := piece1_spec b1 b2 i j av l (by omega) (by omega) (by omega)
    refine ⟨.mk (l[i]'(by omega)) (l[j]'(by omega)), by rw [hm, getD_at l i (by omega), getD_at l j (by omega)], ?_⟩
    exact h.weaken (e := .mem fun φ hφ => by
      rcases List.mem_cons.1 hφ with rfl | hφ
      · exact .head _
      · rcases List.mem_cons.1 hφ with rfl | hφ
        · exact .tail _ h1
        · rcases List.mem_cons.1 hφ with rfl | hφ
          · exact .tail _ h2
          · exact (List.not_mem_nil hφ).elim)⟩
theorem reach_fixed {Φx : List Fa} {op : Nat} (b1 n k : Nat) (hop : popsN op = k) (hk : 0 < k) (hn : n ≤ 1000) (hm : ∀ l, spanF op l = [(l.getD 0 .zero, .nat n)]) (h1 : fBlk b1 [.int .i64 (n : Int)] 3 ∈ Φx) : ReachOK op (.func (.func 190) #[] #[.pointer (some ⟨b1, 0, none⟩)]) Φx :=
  .inr ⟨190, [.pointer (some ⟨b1, 0, none⟩)], rfl, inferInstance, fun av l hl => by
    rw [hop] at hl
    have h := fixed1_spec b1 n av l (by omega) hn
    refine ⟨.mk (l[0]'(by omega)) (.nat n), by rw [hm, getD_at l 0 (by omega)], ?_⟩
    exact h.weaken (e := .mem fun φ hφ => by
      rcases List.mem_cons.1 hφ with rfl | hφ
      · exact .head _
      · rcases List.mem_cons.1 hφ with rfl | hφ
        · exact .tail _ h1
        · exact (List.not_mem_nil hφ).elim)⟩
end Go.Rail
namespace Go.Rail
open Go Go.Proofs
set_option maxHeartbeats 400000
set_option maxRecDepth 4000
attribute [local irreducible] OpK G W LW wpListIn Exit.then Exit.inBlock Post rounds opRun bodyPostM intOp
set_option maxHeartbeats 1000000
theorem act0 (c : Nat → Nat) : ∃ v1 v2 v3, getV (actsT c) 0 = some (.agg #[v1, v2, v3]) ∧ ones [v1, v2, v3] = true ∧ ActOK 0 (.agg #[v1, v2, v3]) (actsF c) :=
  ⟨_, _, _, rfl, rfl, 94, [], _, _, rfl, inferInstance, do0 _, more_nil (fun l => rfl), reach_nil (fun l => rfl)⟩
theorem act32 (c : Nat → Nat) : ∃ v1 v2 v3, getV (actsT c) 32 = some (.agg #[v1, v2, v3]) ∧ ones [v1, v2, v3] = true ∧ ActOK 32 (.agg #[v1, v2, v3]) (actsF c) :=
  ⟨_, _, _, rfl, rfl, 95, [], _, _, rfl, inferInstance, do32 _, more_hash (c 0) (c 1) (by repeat (first | exact List.Mem.head _ | apply List.Mem.tail)) (by repeat (first | exact List.Mem.head _ | apply List.Mem.tail)), reach_piece (c 2) (c 3) 0 1 2 pops32 (by decide) (by decide) (by decide) (fun l => rfl) (by repeat (first | exact List.Mem.head _ | apply List.Mem.tail)) (by repeat (first | exact List.Mem.head _ | apply List.Mem.tail))⟩
theorem act53 (c : Nat → Nat) : ∃ v1 v2 v3, getV (actsT c) 53 = some (.agg #[v1, v2, v3]) ∧ ones [v1, v2, v3] = true ∧ ActOK 53 (.agg #[v1, v2, v3]) (actsF c) :=
  ⟨_, _, _, rfl, rfl, 99, [], _, _, rfl, inferInstance, do53 _, more_nil (fun l => rfl), reach_nil (fun l => rfl)⟩
theorem act54 (c : Nat → Nat) : ∃ v1 v2 v3, getV (actsT c) 54 = some (.agg #[v1, v2, v3]) ∧ ones [v1, v2, v3] = true ∧ ActOK 54 (.agg #[v1, v2, v3]) (actsF c) :=
  ⟨_, _, _, rfl, rfl, 100, [], _, _, rfl, inferInstance, do54 _, more_nil (fun l => rfl), reach_nil (fun l => rfl)⟩
theorem act55 (c : Nat → Nat) : ∃ v1 v2 v3, getV (actsT c) 55 = some (.agg #[v1, v2, v3]) ∧ ones [v1, v2, v3] = true ∧ ActOK 55 (.agg #[v1, v2, v3]) (actsF c) :=
  ⟨_, _, _, rfl, rfl, 102, [], _, _, rfl, inferInstance, do55 _, more_copy (c 4) (c 5) pops55 (fun l => rfl) (by repeat (first | exact List.Mem.head _ | apply List.Mem.tail)) (by repeat (first | exact List.Mem.head _ | apply List.Mem.tail)), reach_piece (c 6) (c 7) 0 2 3 pops55 (by decide) (by decide) (by decide) (fun l => rfl) (by repeat (first | exact List.Mem.head _ | apply List.Mem.tail)) (by repeat (first | exact List.Mem.head _ | apply List.Mem.tail))⟩
theorem act56 (c : Nat → Nat) : ∃ v1 v2 v3, getV (actsT c) 56 = some (.agg #[v1, v2, v3]) ∧ ones [v1, v2, v3] = true ∧ ActOK 56 (.agg #[v1, v2, v3]) (actsF c) :=
  ⟨_, _, _, rfl, rfl, 105, [], _, _, rfl, inferInstance, do56 _, more_nil (fun l => rfl), reach_nil (fun l => rfl)⟩
theorem act57 (c : Nat → Nat) : ∃ v1 v2 v3, getV (actsT c) 57 = some (.agg #[v1, v2, v3]) ∧ ones [v1, v2, v3] = true ∧ ActOK 57 (.agg #[v1, v2, v3]) (actsF c) :=
  ⟨_, _, _, rfl, rfl, 106, [], _, _, rfl, inferInstance, do57 _, more_copy (c 8) (c 9) pops57 (fun l => rfl) (by repeat (first | exact List.Mem.head _ | apply List.Mem.tail)) (by repeat (first | exact List.Mem.head _ | apply List.Mem.tail)), reach_piece (c 10) (c 11) 0 2 3 pops57 (by decide) (by decide) (by decide) (fun l => rfl) (by repeat (first | exact List.Mem.head _ | apply List.Mem.tail)) (by repeat (first | exact List.Mem.head _ | apply List.Mem.tail))⟩
theorem act61 (c : Nat → Nat) : ∃ v1 v2 v3, getV (actsT c) 61 = some (.agg #[v1, v2, v3]) ∧ ones [v1, v2, v3] = true ∧ ActOK 61 (.agg #[v1, v2, v3]) (actsF c) :=
  ⟨_, _, _, rfl, rfl, 107, [], _, _, rfl, inferInstance, do61 _, more_nil (fun l => rfl), reach_nil (fun l => rfl)⟩
theorem act62 (c : Nat → Nat) : ∃ v1 v2 v3, getV (actsT c) 62 = some (.agg #[v1, v2, v3]) ∧ ones [v1, v2, v3] = true ∧ ActOK 62 (.agg #[v1, v2, v3]) (actsF c) :=
  ⟨_, _, _, rfl, rfl, 108, [], _, _, rfl, inferInstance, do62 _, more_copy (c 12) (c 13) pops62 (fun l => rfl) (by repeat (first | exact List.Mem.head _ | apply List.Mem.tail)) (by repeat (first | exact List.Mem.head _ | apply List.Mem.tail)), reach_piece (c 14) (c 15) 0 2 3 pops62 (by decide) (by decide) (by decide) (fun l => rfl) (by repeat (first | exact List.Mem.head _ | apply List.Mem.tail)) (by repeat (first | exact List.Mem.head _ | apply List.Mem.tail))⟩
theorem act81 (c : Nat → Nat) : ∃ v1 v2 v3, getV (actsT c) 81 = some (.agg #[v1, v2, v3]) ∧ ones [v1, v2, v3] = true ∧ ActOK 81 (.agg #[v1, v2, v3]) (actsF c) :=
  ⟨_, _, _, rfl, rfl, 109, [], _, _, rfl, inferInstance, do81 _, more_nil (fun l => rfl), reach_fixed (c 16) 32 1 pops81 (by decide) (by decide) (fun l => rfl) (by repeat (first | exact List.Mem.head _ | apply List.Mem.tail))⟩
theorem act82 (c : Nat → Nat) : ∃ v1 v2 v3, getV (actsT c) 82 = some (.agg #[v1, v2, v3]) ∧ ones [v1, v2, v3] = true ∧ ActOK 82 (.agg #[v1, v2, v3]) (actsF c) :=
  ⟨_, _, _, rfl, rfl, 112, [], _, _, rfl, inferInstance, do82 _, more_nil (fun l => rfl), reach_fixed (c 17) 32 2 pops82 (by decide) (by decide) (fun l => rfl) (by repeat (first | exact List.Mem.head _ | apply List.Mem.tail))⟩
theorem act83 (c : Nat → Nat) : ∃ v1 v2 v3, getV (actsT c) 83 = some (.agg #[v1, v2, v3]) ∧ ones [v1, v2, v3] = true ∧ ActOK 83 (.agg #[v1, v2, v3]) (actsF c) :=
  ⟨_, _, _, rfl, rfl, 114, [], _, _, rfl, inferInstance, do83 _, more_nil (fun l => rfl), reach_fixed (c 18) 1 2 pops83 (by decide) (by decide) (fun l => rfl) (by repeat (first | exact List.Mem.head _ | apply List.Mem.tail))⟩
theorem act86 (c : Nat → Nat) : ∃ v1 v2 v3, getV (actsT c) 86 = some (.agg #[v1, v2, v3]) ∧ ones [v1, v2, v3] = true ∧ ActOK 86 (.agg #[v1, v2, v3]) (actsF c) :=
  ⟨_, _, _, rfl, rfl, 115, [], _, _, rfl, inferInstance, do86 _, more_nil (fun l => rfl), reach_nil (fun l => rfl)⟩
theorem act87 (c : Nat → Nat) : ∃ v1 v2 v3, getV (actsT c) 87 = some (.agg #[v1, v2, v3]) ∧ ones [v1, v2, v3] = true ∧ ActOK 87 (.agg #[v1, v2, v3]) (actsF c) :=
  ⟨_, _, _, rfl, rfl, 116, [], _, _, rfl, inferInstance, do87 _, more_nil (fun l => rfl), reach_nil (fun l => rfl)⟩
theorem act88 (c : Nat → Nat) : ∃ v1 v2 v3, getV (actsT c) 88 = some (.agg #[v1, v2, v3]) ∧ ones [v1, v2, v3] = true ∧ ActOK 88 (.agg #[v1, v2, v3]) (actsF c) :=
  ⟨_, _, _, rfl, rfl, 117, [], _, _, rfl, inferInstance, do88 _, more_nil (fun l => rfl), reach_nil (fun l => rfl)⟩
theorem act89 (c : Nat → Nat) : ∃ v1 v2 v3, getV (actsT c) 89 = some (.agg #[v1, v2, v3]) ∧ ones [v1, v2, v3] = true ∧ ActOK 89 (.agg #[v1, v2, v3]) (actsF c) :=
  ⟨_, _, _, rfl, rfl, 118, [], _, _, rfl, inferInstance, do89 _, more_nil (fun l => rfl), reach_nil (fun l => rfl)⟩
theorem act90 (c : Nat → Nat) : ∃ v1 v2 v3, getV (actsT c) 90 = some (.agg #[v1, v2, v3]) ∧ ones [v1, v2, v3] = true ∧ ActOK 90 (.agg #[v1, v2, v3]) (actsF c) :=
  ⟨_, _, _, rfl, rfl, 119, [], _, _, rfl, inferInstance, do90 _, more_nil (fun l => rfl), reach_nil (fun l => rfl)⟩
theorem act91 (c : Nat → Nat) : ∃ v1 v2 v3, getV (actsT c) 91 = some (.agg #[v1, v2, v3]) ∧ ones [v1, v2, v3] = true ∧ ActOK 91 (.agg #[v1, v2, v3]) (actsF c) :=
  ⟨_, _, _, rfl, rfl, 120, [], _, _, rfl, inferInstance, do91 _, more_nil (fun l => rfl), reach_nil (fun l => rfl)⟩
theorem act243 (c : Nat → Nat) : ∃ v1 v2 v3, getV (actsT c) 243 = some (.agg #[v1, v2, v3]) ∧ ones [v1, v2, v3] = true ∧ ActOK 243 (.agg #[v1, v2, v3]) (actsF c) :=
  ⟨_, _, _, rfl, rfl, 121, [], _, _, rfl, inferInstance, do243 _, more_nil (fun l => rfl), reach_piece (c 19) (c 20) 0 1 2 pops243 (by decide) (by decide) (by decide) (fun l => rfl) (by repeat (first | exact List.Mem.head _ | apply List.Mem.tail)) (by repeat (first | exact List.Mem.head _ | apply List.Mem.tail))⟩
theorem act253 (c : Nat → Nat) : ∃ v1 v2 v3, getV (actsT c) 253 = some (.agg #[v1, v2, v3]) ∧ ones [v1, v2, v3] = true ∧ ActOK 253 (.agg #[v1, v2, v3]) (actsF c) :=
  ⟨_, _, _, rfl, rfl, 123, [], _, _, rfl, inferInstance, do253 _, more_nil (fun l => rfl), reach_piece (c 21) (c 22) 0 1 2 pops253 (by decide) (by decide) (by decide) (fun l => rfl) (by repeat (first | exact List.Mem.head _ | apply List.Mem.tail)) (by repeat (first | exact List.Mem.head _ | apply List.Mem.tail))⟩
theorem getV_none {l : List (Int × Value)} {k : Int} (h : k ∉ l.map (·.1)) : getV l k = none := by
  induction l with
  | nil => rfl
  | cons e r ih =>
    rw [List.map_cons, List.mem_cons, not_or] at h
    rw [getV, if_neg h.1]
    exact ih h.2
theorem look_act (c : Nat → Nat) (op : Nat) : (tabF op = true → ∃ v1 v2 v3, getV (actsT c) (op : Int) = some (.agg #[v1, v2, v3]) ∧ ones [v1, v2, v3] = true ∧ ActOK op (.agg #[v1, v2, v3]) (actsF c)) ∧ (tabF op = false → getV (actsT c) (op : Int) = none) := by
  have hm : tabF op = true ↔ op ∈ [0, 32, 53, 54, 55, 56, 57, 61, 62, 81, 82, 83, 86, 87, 88, 89, 90, 91, 243, 253] := by
    unfold tabF
    exact List.contains_iff_mem
  constructor
  · intro h
    have h := hm.1 h
    simp only [List.mem_cons, List.not_mem_nil, or_false] at h
    rcases h with rfl | rfl | rfl | rfl | rfl | rfl | rfl | rfl | rfl | rfl | rfl | rfl | rfl | rfl | rfl | rfl | rfl | rfl | rfl | rfl
    · exact act0 c
    · exact act32 c
    · exact act53 c
    · exact act54 c
    · exact act55 c
    · exact act56 c
    · exact act57 c
    · exact act61 c
    · exact act62 c
    · exact act81 c
    · exact act82 c
    · exact act83 c
    · exact act86 c
    · exact act87 c
    · exact act88 c
    · exact act89 c
    · exact act90 c
    · exact act91 c
    · exact act243 c
    · exact act253 c
  · intro h
    refine getV_none ?_
    rw [show (actsT c).map (·.1) = [0, 32, 53, 54, 55, 56, 57, 61, 62, 81, 82, 83, 86, 87, 88, 89, 90, 91, 243, 253] from rfl]
    intro h2
    have : op ∈ [0, 32, 53, 54, 55, 56, 57, 61, 62, 81, 82, 83, 86, 87, 88, 89, 90, 91, 243, 253] := by
      simp only [List.mem_cons, List.not_mem_nil, or_false] at h2 ⊢
      omega
    rw [hm.2 this] at h
    cases h
def entA (c : Nat → Nat) (op : Nat) : Value := (getV (actsT c) (op : Int)).getD (.agg #[.nilFunc, .nilFunc, .nilFunc])
theorem entA_is (c : Nat → Nat) (op : Nat) : ∃ v1 v2 v3, entA c op = .agg #[v1, v2, v3] ∧ ones [v1, v2, v3] = true ∧ (getV (actsT c) (op : Int)).isSome = tabF op ∧ (tabF op = true → ActOK op (.agg #[v1, v2, v3]) (actsF c)) := by
  obtain ⟨h1, h2⟩ := look_act c op
  unfold entA
  cases ht : tabF op with
  | true =>
    obtain ⟨v1, v2, v3, e, ho, ha⟩ := h1 ht
    exact ⟨v1, v2, v3, by rw [e]; rfl, ho, by rw [e]; rfl, fun _ => ha⟩
  | false =>
    rw [h2 ht]
    exact ⟨_, _, _, rfl, rfl, rfl, fun h => by cases h⟩
theorem entA_whole (c : Nat → Nat) (op : Nat) : Whole (entA c op) 3 := by
  obtain ⟨v1, v2, v3, e, ho, _⟩ := entA_is c op
  exact ⟨⟨[v1, v2, v3], e, rfl, ho⟩⟩
def RFind (op : Nat) : Value → List Fa → Own → Prop := fun u Φ' M' => ∃ v1 v2 v3, u = .tuple #[.agg #[v1, v2, v3], .bool (foundF op)] ∧ ones [v1, v2, v3] = true ∧ M' = [] ∧ (foundF op = true → ActOK op (.agg #[v1, v2, v3]) Φ')
theorem find_spec (op : Nat) (hop : op < 256) : Fn Tryz.prog 31 [.int .u8 (op : Int)] [] [] (RFind op) := by
  have his := is_spec op hop
  by_cases hc : isC op = true
  · rw [hc] at his
    have hf : foundF op = true := by unfold foundF; rw [hc]; rfl
    unfold RFind
    rw [hf]
    by_cases h10 : op = 10
    · subst h10
      refine Fn.enter Tryz.func31 rfl Tryz.ntmps31 (by simp) (fun I0 w0 => ?_)
      repeat (first | (refine sty ?_; try intro _) | (refine st ?_; try intro _) | (refine stz ?_; try intro _) | (refine stq ?_; try intro _))
      rename_i b1 b2
      refine o_callV rfl rfl rfl rfl his rfl ?_
      repeat (first | (refine sty ?_; try intro _) | (refine st ?_; try intro _) | (refine stz ?_; try intro _) | (refine stq ?_; try intro _))
      refine o_func rfl rfl rfl rfl ?_
      repeat (first | (refine sty ?_; try intro _) | (refine st ?_; try intro _) | (refine stz ?_; try intro _) | (refine stq ?_; try intro _))
      refine G.give b1 (cs := [.int .u8 ((10 : Nat) : Int)]) (t := 5) ?_
      exact G.ret rfl (.cons (.cellA rfl rfl) (.cons (.tmp rfl) .nil)) (Φ' := [fBlk b1 [.int .u8 ((10 : Nat) : Int)] 5]) (M' := []) inferInstance (List.nil_sublist _) ⟨_, _, _, rfl, rfl, rfl, fun _ => ⟨53, [.pointer (some ⟨b1, 0, none⟩)], _, _, rfl, inferInstance, doC_ok 10 hop hc b1, more10 _, reach_nil (fun l => (span_nil hop (.inl hc) l).1)⟩⟩
    · refine Fn.enter Tryz.func31 rfl Tryz.ntmps31 (by simp) (fun I0 w0 => ?_)
      repeat (first | (refine sty ?_; try intro _) | (refine st ?_; try intro _) | (refine stz ?_; try intro _) | (refine stq ?_; try intro _))
      rename_i b1 b2
      refine o_callV rfl rfl rfl rfl his rfl ?_
      repeat (first | (refine sty ?_; try intro _) | (refine st ?_; try intro _) | (refine stz ?_; try intro _) | (refine stq ?_; try intro _))
      refine o_func rfl rfl rfl rfl ?_
      repeat (first | (refine sty ?_; try intro _) | (refine st ?_; try intro _) | (refine stz ?_; try intro _) | (refine stq ?_; try intro _))
      refine G.give b1 (cs := [.int .u8 (op : Int)]) (t := 5) ?_
      exact G.ret rfl (.cons (.cellA rfl rfl) (.cons (.tmp rfl) .nil)) (Φ' := [fBlk b1 [.int .u8 (op : Int)] 5]) (M' := []) inferInstance (List.nil_sublist _) ⟨_, _, _, rfl, rfl, rfl, fun _ => ⟨53, [.pointer (some ⟨b1, 0, none⟩)], _, _, rfl, inferInstance, doC_ok op hop hc b1, more_nil (fun l => (span_nil hop (.inl hc) l).2 h10), reach_nil (fun l => (span_nil hop (.inl hc) l).1)⟩⟩
  · have hc : isC op = false := by simpa using hc
    rw [hc] at his
    by_cases hp : 95 ≤ op ∧ op ≤ 127
    · have hf : foundF op = true := by unfold foundF; rw [decide_eq_true hp, Bool.or_true]; rfl
      unfold RFind
      rw [hf]
      refine Fn.enter Tryz.func31 rfl Tryz.ntmps31 (by simp) (fun I0 w0 => ?_)
      repeat (first | (refine sty ?_; try intro _) | (refine st ?_; try intro _) | (refine stz ?_; try intro _) | (refine stq ?_; try intro _))
      rename_i b1 b2
      refine o_callV rfl rfl rfl rfl his rfl ?_
      repeat (first | (refine sty ?_; try intro _) | (refine st ?_; try intro _) | (refine stz ?_; try intro _) | (refine stq ?_; try intro _))
      rename_i b5
      refine o_func rfl rfl rfl rfl ?_
      repeat (first | (refine sty ?_; try intro _) | (refine st ?_; try intro _) | (refine stz ?_; try intro _) | (refine stq ?_; try intro _))
      refine G.give b5 (cs := [.int .i64 ((op - 95 : Nat) : Int)]) (t := 3) ?_
      exact G.ret rfl (.cons (.cellA rfl rfl) (.cons (.tmp rfl) .nil)) (Φ' := [fBlk b5 [.int .i64 ((op - 95 : Nat) : Int)] 3]) (M' := []) inferInstance (List.nil_sublist _) ⟨_, _, _, rfl, rfl, rfl, fun _ => ⟨57, [.pointer (some ⟨b5, 0, none⟩)], _, _, rfl, inferInstance, doP_ok op hp.1 hp.2 b5, more_nil (fun l => (span_nil hop (.inr hp) l).2 (by omega)), reach_nil (fun l => (span_nil hop (.inr hp) l).1)⟩⟩
    · have hf : foundF op = tabF op := by unfold foundF; rw [hc, decide_eq_false hp]; rfl
      unfold RFind
      rw [hf]
      have hn : op < 95 ∨ 127 < op := by omega
      refine Fn.enter Tryz.func31 rfl Tryz.ntmps31 (by simp) (fun I0 w0 => ?_)
      repeat (first | (refine sty ?_; try intro _) | (refine st ?_; try intro _) | (refine stz ?_; try intro _) | (refine stq ?_; try intro _))
      rename_i b1 b2
      refine o_callV rfl rfl rfl rfl his rfl ?_
      have hwh := entA_whole
      have his2 := fun c => (entA_is c op).choose_spec.choose_spec.choose_spec.2.2.1
      rcases hn with hn | hn
      all_goals
        repeat (first | (refine sty ?_; try intro _) | (refine st ?_; try intro _) | (refine stz ?_; try intro _) | (refine stq ?_; try intro _))
        refine W.drawCh 8 { j := 7, k := [0, 6], M := fun c => [(bk (c 6), Ob (cellsL (entA (cOf (blL (c 0))) op)) 64), (b2, Ob [.nilFunc, .nilFunc, .nilFunc] 64), (b1, Ob [.int .u8 (op : Int)] 5)] } [{ j := 6, k := [6], M := fun c => [(bk (c 6), Ob [.nilFunc, .nilFunc, .nilFunc] 64), (b2, Ob [.nilFunc, .nilFunc, .nilFunc] 64), (b1, Ob [.int .u8 (op : Int)] 5)] }] [⟨fun _ z => .map (some (blB z)), fun _ z => fObj (blB z) (MapV (actsT (cOf (blL z)))) :: actsF (cOf (blL z))⟩, dq _, dq (fun c _ => .tuple #[entA (cOf (blL (c 0))) op, .bool (tabF op)]), dq _, dq _, dq _, dp, (dq fun _ _ => .bool false)] [[], [], [0,1], [2], [3], [3], [], [4,6]] [0, 5, 6] (hloc := by (repeat (first | exact AllL.nil | refine AllL.au ?_ | refine AllL.au ?_ (by intro c c2 z h; refine nrm ?_; constructor <;> first | rfl | (rw [h 0 (by kernel_rfl)]))))) (hrest := fun c => nrmC ?_) (hops := by
          refine AllX.ch ?_ ?_; rotate_left
          focus (refine ⟨⟨rfl, (by kernel_rfl)⟩, .inl (by kernel_rfl), .inr (⟨⟨rfl, (by kernel_rfl)⟩, .inr ?_, .inr (?_)⟩)⟩; all_goals (intro c z0 Φr Lr K; refine nrmC ?_; intro hK; refine OpK.call rfl rfl rfl rfl acts_spec inferInstance (Mr := _) (List.Perm.refl _) ?_; rintro u Φ' Mc' ⟨b, l, rfl, rfl, rfl⟩; have hk := hK (blV b l); simp only [blB_v, blL_v] at hk; exact hk))
          refine AllX.ch ?_ ?_; rotate_left
          focus (refine ⟨⟨rfl, (by kernel_rfl)⟩, .inl (by kernel_rfl), .inr (⟨⟨rfl, (by kernel_rfl)⟩, .inr ?_, .inr (?_)⟩)⟩; all_goals (intro c z0 Φr Lr K; refine nrmC ?_; intro hK; (first | refine sty ?_ | refine st ?_ | refine stz ?_ | refine stq ?_); (first | exact hK z0 | exact hK | exact fun b => hK (.int .i64 (b : Int)))))
          refine AllX.ch ?_ ?_; rotate_left
          focus (refine ⟨⟨rfl, (by kernel_rfl)⟩, .inl (by kernel_rfl), .inr (⟨⟨rfl, (by kernel_rfl)⟩, .inr ?_, .inr (?_)⟩)⟩; all_goals (intro c z0 Φr Lr K; refine nrmC ?_; intro hK; refine o_lookG (l := actsT (cOf (blL (c 0)))) rfl rfl rfl rfl (by first | exact .head _ | simp) rfl (his2 _) ?_; exact hK z0))
          refine AllX.ch ?_ ?_; rotate_left
          focus (refine ⟨⟨rfl, (by kernel_rfl)⟩, .inl (by kernel_rfl), .inr (⟨⟨rfl, (by kernel_rfl)⟩, .inr ?_, .inr (?_)⟩)⟩; all_goals (intro c z0 Φr Lr K; refine nrmC ?_; intro hK; (first | refine sty ?_ | refine st ?_ | refine stz ?_ | refine stq ?_); (first | exact hK z0 | exact hK | exact fun b => hK (.int .i64 (b : Int)))))
          refine AllX.ch ?_ ?_; rotate_left
          focus (refine ⟨⟨rfl, (by kernel_rfl)⟩, .inl (by kernel_rfl), .inr (⟨⟨rfl, (by kernel_rfl)⟩, .inr ?_, .inr (?_)⟩)⟩; all_goals (intro c z0 Φr Lr K; refine nrmC ?_; intro hK; (first | refine sty ?_ | refine st ?_ | refine stz ?_ | refine stq ?_); (first | exact hK z0 | exact hK | exact fun b => hK (.int .i64 (b : Int)))))
          refine AllX.ch ?_ ?_; rotate_left
          focus (refine ⟨⟨rfl, (by kernel_rfl)⟩, .inr ?_, .inr (⟨⟨rfl, (by kernel_rfl)⟩, .inr ?_, .inr (?_)⟩)⟩; all_goals (intro c z0 Φr Lr K; refine nrmC ?_; intro hK; (first | refine sty ?_ | refine st ?_ | refine stz ?_ | refine stq ?_); (first | exact hK z0 | exact hK | exact fun b => hK (.int .i64 (b : Int)))))
          refine AllX.cj ?_ ?_; rotate_left
          focus (refine .inr ⟨rfl, (by kernel_rfl), .inl ⟨rfl, (by kernel_rfl), ?_⟩⟩; all_goals (intro c z0 Φr Lr K; refine nrmC ?_; intro hK; (first | refine sty ?_ | refine st ?_ | refine stz ?_ | refine stq ?_); (first | exact hK z0 | exact hK | exact fun b => hK (.int .i64 (b : Int)))))
          refine AllX.cj ?_ ?_; rotate_left
          focus (refine .inl ⟨rfl, (by kernel_rfl), ?_⟩; all_goals (intro c z0 Φr Lr K; refine nrmC ?_; intro hK; (first | refine sty ?_ | refine st ?_ | refine stz ?_ | refine stq ?_); (first | exact hK z0 | exact hK | exact fun b => hK (.int .i64 (b : Int)))))
          exact AllX.end)
        obtain ⟨v1, v2, v3, he, ho, _, ha⟩ := entA_is (cOf (blL (c 0))) op
        rw [he]
        haveI : Whole (.agg #[v1, v2, v3]) 3 := ⟨⟨[v1, v2, v3], rfl, rfl, ho⟩⟩
        repeat (first | (refine sty ?_; try intro _) | (refine st ?_; try intro _) | (refine stz ?_; try intro _) | (refine stq ?_; try intro _))
        exact G.ret rfl (.cons (.cellA rfl rfl) (.cons (.tmp rfl) .nil)) (Φ' := actsF (cOf (blL (c 0)))) (M' := []) ⟨fun I hp φ hφ => hp φ (.tail _ hφ)⟩ (List.nil_sublist _) ⟨v1, v2, v3, rfl, ho, rfl, ha⟩
end Go.Rail
