/- slices.BinarySearch over whole numbers; jump, jumpIf. -/
import Derived.Test.YtpbbjkbackiljaaGreatDoorAFJ
import Derived.Test.YtpbbjkbackiljaaGreatDoorRailJ
set_option linter.unusedSimpArgs false
set_option linter.unusedVariables false
namespace Go.Rail
open Go Go.Proofs
set_option maxHeartbeats 400000
set_option maxRecDepth 4000
attribute [local irreducible] OpK G W LW wpListIn Exit.then Exit.inBlock Post rounds opRun bodyPostM intOp
set_option maxHeartbeats 1000000
theorem snan_spec (n : Int) : FnV Tryz.prog 272 [.int .i64 n] [] (.bool false) := by
  refine Fn.enter Tryz.func272 rfl Tryz.ntmps272 (by simp) (fun I0 w0 => ?_)
  repeat (first | (refine sty ?_; try intro _) | (refine st ?_; try intro _) | (refine stz ?_; try intro _) | (refine stq ?_; try intro _))
  refine G.retV ?_
  simp [tup]
theorem cless_spec (m n : Int) : FnV Tryz.prog 271 [.int .i64 m, .int .i64 n] [] (.bool (decide (m < n))) := by
  have h1 := nan_spec m
  refine Fn.enter Tryz.func271 rfl Tryz.ntmps271 (by simp) (fun I0 w0 => ?_)
  repeat (first | (refine sty ?_; try intro _) | (refine st ?_; try intro _) | (refine stz ?_; try intro _) | (refine stq ?_; try intro _))
  refine o_callV rfl rfl rfl rfl h1 rfl ?_
  by_cases h : m < n
  · rw [decide_eq_true h]
    repeat (first | (refine sty ?_; try intro _) | (refine st ?_; try intro _) | (refine stz ?_; try intro _) | (refine stq ?_; try intro _))
    refine G.retV ?_
    rfl
  · rw [decide_eq_false h]
    repeat (first | (refine sty ?_; try intro _) | (refine st ?_; try intro _) | (refine stz ?_; try intro _) | (refine stq ?_; try intro _))
    refine G.retV ?_
    rfl
theorem bsearch_spec (v : Value) (xs : List Int) (t : Int) (hs : xs.Pairwise (· < ·)) (hl : xs.length ≤ 1000000) :
    Fn Tryz.prog 192 [v, .int .i64 t] [fRp v xs] [] (fun u Φ' M' => ∃ i : Nat, u = .tuple #[.int .i64 (i : Int), .bool (decide (t ∈ xs))] ∧ Φ' = [] ∧ M' = []) := by
  refine Fn.enter Tryz.func192 rfl Tryz.ntmps192 (by simp) (fun I0 w0 => ?_)
  refine W.bare (G.slice v xs ?_)
  intro a1 c1 e1 k1
  subst e1
  repeat (first | (refine sty ?_; try intro _) | (refine st ?_; try intro _) | (refine stz ?_; try intro _) | (refine stq ?_; try intro _))
  refine W.lp (S := Nat × Nat) (fun s => ([fRp (.slice a1 xs.length c1) xs], [(6, .int .i64 (xs.length : Int)), (7, .int .i64 (s.1 : Int)), (8, .int .i64 (s.2 : Int)), (0, .slice a1 xs.length c1), (1, .int .i64 t)], [])) (fun s => s.1 ≤ s.2 ∧ s.2 ≤ xs.length ∧ (∀ k (h : k < xs.length), k < s.1 → xs[k] < t) ∧ (∀ k (h : k < xs.length), s.2 ≤ k → t ≤ xs[k])) (fun s => s.2 - s.1) (0, xs.length) ?_ (h0 := ⟨Nat.zero_le _, Nat.le_refl _, fun k _ h => absurd h (Nat.not_lt_zero _), fun k h h2 => absurd h (by dsimp only at h2; omega)⟩)
  rintro ⟨i, j⟩ ⟨hij, hj, hlo, hhi⟩
  dsimp only at hij hj hlo hhi ⊢
  by_cases he : i = j
  · subst he
    by_cases hi : i < xs.length
    · by_cases ht : xs[i] = t
      · have hm : t ∈ xs := ht ▸ List.getElem_mem hi
        rw [decide_eq_true hm]
        repeat (first | (refine sty ?_; try intro _) | (refine st ?_; try intro _) | (refine stz ?_; try intro _) | (refine stq ?_; try intro _))
        exact G.ret rfl (.cons (.tmp rfl) (.cons (.tmp rfl) .nil)) (Φ' := []) (M' := []) inferInstance (List.nil_sublist _) ⟨i, rfl, rfl, rfl⟩
      · have hm : t ∉ xs := by
          intro hm
          obtain ⟨k, hk, hkt⟩ := List.mem_iff_getElem.1 hm
          have h1 := hhi i hi (Nat.le_refl _)
          rcases Nat.lt_trichotomy k i with h | h | h
          · have := hlo k hk h; omega
          · subst h; exact ht hkt
          · have := List.pairwise_iff_getElem.1 hs i k hi hk h; omega
        rw [decide_eq_false hm]
        repeat (first | (refine sty ?_; try intro _) | (refine st ?_; try intro _) | (refine stz ?_; try intro _) | (refine stq ?_; try intro _))
        refine o_callV rfl rfl rfl rfl (snan_spec xs[i]) rfl ?_
        repeat (first | (refine sty ?_; try intro _) | (refine st ?_; try intro _) | (refine stz ?_; try intro _) | (refine stq ?_; try intro _))
        exact G.ret rfl (.cons (.tmp rfl) (.cons (.tmp rfl) .nil)) (Φ' := []) (M' := []) inferInstance (List.nil_sublist _) ⟨i, rfl, rfl, rfl⟩
    · have hm : t ∉ xs := by
        intro hm
        obtain ⟨k, hk, hkt⟩ := List.mem_iff_getElem.1 hm
        have := hlo k hk (by omega); omega
      rw [decide_eq_false hm]
      repeat (first | (refine sty ?_; try intro _) | (refine st ?_; try intro _) | (refine stz ?_; try intro _) | (refine stq ?_; try intro _))
      exact G.ret rfl (.cons (.tmp rfl) (.cons (.tmp rfl) .nil)) (Φ' := []) (M' := []) inferInstance (List.nil_sublist _) ⟨i, rfl, rfl, rfl⟩
  · have hlt : i < j := by omega
    have hmid : (i + j) / 2 < xs.length := by omega
    have hm1 : (i + j) / 2 < j := by omega
    have hm2 : i ≤ (i + j) / 2 := by omega
    have hc := cless_spec xs[(i + j) / 2] t
    have mono : ∀ p q (hp : p < xs.length) (hq : q < xs.length), p ≤ q → xs[p] ≤ xs[q] := by
      intro p q hp hq h
      rcases Nat.lt_or_ge p q with h1 | h1
      · exact Int.le_of_lt (List.pairwise_iff_getElem.1 hs p q hp hq h1)
      · have : p = q := by omega
        subst this; exact Int.le_refl _
    by_cases hlt2 : xs[(i + j) / 2] < t
    · rw [decide_eq_true hlt2] at hc
      repeat (first | (refine sty ?_; try intro _) | (refine st ?_; try intro _) | (refine stz ?_; try intro _) | (refine stq ?_; try intro _))
      refine o_callV rfl rfl rfl rfl hc rfl ?_
      repeat (first | (refine sty ?_; try intro _) | (refine st ?_; try intro _) | (refine stz ?_; try intro _) | (refine stq ?_; try intro _))
      exact G.ag (S := Nat × Nat) ((i + j) / 2 + 1, j) (hpre := ⟨by dsimp only; omega, hj, fun k hk h => by have := mono k _ hk hmid (by dsimp only at h; omega); omega, hhi⟩)
    · rw [decide_eq_false hlt2] at hc
      repeat (first | (refine sty ?_; try intro _) | (refine st ?_; try intro _) | (refine stz ?_; try intro _) | (refine stq ?_; try intro _))
      refine o_callV rfl rfl rfl rfl hc rfl ?_
      repeat (first | (refine sty ?_; try intro _) | (refine st ?_; try intro _) | (refine stz ?_; try intro _) | (refine stq ?_; try intro _))
      exact G.ag (S := Nat × Nat) (i, (i + j) / 2) (hpre := ⟨by dsimp only; omega, by dsimp only; omega, hlo, fun k hk h => by have := mono _ k hmid hk (by dsimp only at h; omega); omega⟩)
theorem plcF_ge (l : List UInt8) : ∀ (f p : Nat), (∀ q ∈ plcF l f p, p ≤ q) ∧ (plcF l f p).Pairwise (· < ·)
  | 0, p => ⟨fun q h => (List.not_mem_nil h).elim, List.Pairwise.nil⟩
  | f + 1, p => by
    unfold plcF
    split
    · obtain ⟨h1, h2⟩ := plcF_ge l f (p + 1 + behN (l.getD p 0).toNat)
      refine ⟨fun q hq => ?_, List.pairwise_cons.2 ⟨fun q hq => by have := h1 q hq; omega, h2⟩⟩
      rcases List.mem_cons.1 hq with rfl | hq
      · exact Nat.le_refl _
      · have := h1 q hq; omega
    · exact ⟨fun q h => (List.not_mem_nil h).elim, List.Pairwise.nil⟩
theorem jmL_sorted (l : List UInt8) : (jmL l).Pairwise (· < ·) := by
  unfold jmL
  refine List.Pairwise.map _ (fun a b h => ?_) (List.Pairwise.filter _ (plcF_ge l l.length 0).2)
  exact Int.ofNat_lt.2 h
theorem jmL_len (l : List UInt8) : (jmL l).length ≤ l.length := by
  rw [← jmT_all]; exact jmT_len _ _
def RJmp (B : Nat) (sv av : Value) (p : Frm × Int) : Value → List Fa → Own → Prop := fun u Φ' M' => u = .tuple #[] ∧ Φ' = [] ∧ M' = [(B, Ob (runC p.1 sv av p.2) 94)]
theorem rjump_spec (B : Nat) (f : Frm) (sv av : Value) (l : List Word) (hc : f.code.length ≤ 100000) (hl : 0 < l.length) :
    Fn Tryz.prog 115 [.pointer (some ⟨B, 0, none⟩)] [fRp av l] [(B, Ob (runC f sv av 0) 94)] (RJmp B sv av (jumpF f (numF (l.getD 0 .zero)))) := by
  have h1 := number_spec l[0]
  have h2 := jumpsO_spec f.code hc
  rw [getD_at l 0 hl]
  have hjl := jmL_len f.code
  generalize numF l[0] = to at h1 ⊢
  have h3 := fun v => bsearch_spec v (jmL f.code) (to : Int) (jmL_sorted _) (by omega)
  unfold jumpF
  by_cases hm : (to : Int) ∈ jmL f.code
  · rw [if_pos hm]
    rw [decide_eq_true hm] at h3
    generalize jmL f.code = js at h2 h3
    refine Fn.enter Tryz.func115 rfl Tryz.ntmps115 (by simp) (fun I0 w0 => ?_)
    refine W.bare (G.slice av l ?_)
    intro a1 c1 e1 k1
    subst e1
    repeat (first | (refine sty ?_; try intro _) | (refine st ?_; try intro _) | (refine stz ?_; try intro _) | (refine stq ?_; try intro _))
    refine o_callV rfl rfl rfl rfl h1 rfl ?_
    repeat (first | (refine sty ?_; try intro _) | (refine st ?_; try intro _) | (refine stz ?_; try intro _) | (refine stq ?_; try intro _))
    refine o_callO rfl rfl rfl rfl h2 ?_
    intro v o hv
    refine G.giveOwn2 v js o 3 (Mr := [_]) hv inferInstance (List.Perm.refl _) ?_
    repeat (first | (refine sty ?_; try intro _) | (refine st ?_; try intro _) | (refine stz ?_; try intro _) | (refine stq ?_; try intro _))
    refine OpK.call rfl rfl rfl rfl (h3 v) inferInstance (Mr := _) (List.Perm.refl _) ?_
    rintro u Φ' Mc' ⟨i, rfl, rfl, rfl⟩
    dsimp only [List.cons_append, List.nil_append, List.append_nil]
    repeat (first | (refine sty ?_; try intro _) | (refine st ?_; try intro _) | (refine stz ?_; try intro _) | (refine stq ?_; try intro _))
    exact G.fin rfl .nil (Φ' := []) (M' := [_]) inferInstance (List.Sublist.refl _) ⟨rfl, rfl, rfl⟩
  · rw [if_neg hm]
    rw [decide_eq_false hm] at h3
    generalize jmL f.code = js at h2 h3
    refine Fn.enter Tryz.func115 rfl Tryz.ntmps115 (by simp) (fun I0 w0 => ?_)
    refine W.bare (G.slice av l ?_)
    intro a1 c1 e1 k1
    subst e1
    repeat (first | (refine sty ?_; try intro _) | (refine st ?_; try intro _) | (refine stz ?_; try intro _) | (refine stq ?_; try intro _))
    refine o_callV rfl rfl rfl rfl h1 rfl ?_
    repeat (first | (refine sty ?_; try intro _) | (refine st ?_; try intro _) | (refine stz ?_; try intro _) | (refine stq ?_; try intro _))
    refine o_callO rfl rfl rfl rfl h2 ?_
    intro v o hv
    refine G.giveOwn2 v js o 3 (Mr := [_]) hv inferInstance (List.Perm.refl _) ?_
    repeat (first | (refine sty ?_; try intro _) | (refine st ?_; try intro _) | (refine stz ?_; try intro _) | (refine stq ?_; try intro _))
    refine OpK.call rfl rfl rfl rfl (h3 v) inferInstance (Mr := _) (List.Perm.refl _) ?_
    rintro u Φ' Mc' ⟨i, rfl, rfl, rfl⟩
    dsimp only [List.cons_append, List.nil_append, List.append_nil]
    repeat (first | (refine sty ?_; try intro _) | (refine st ?_; try intro _) | (refine stz ?_; try intro _) | (refine stq ?_; try intro _))
    exact G.ret rfl .nil (Φ' := []) (M' := [_]) inferInstance (List.Sublist.refl _) ⟨rfl, rfl, rfl⟩
theorem rjumpIf_spec (B : Nat) (f : Frm) (sv av : Value) (l : List Word) (hc : f.code.length ≤ 100000) (hl : 1 < l.length) :
    Fn Tryz.prog 116 [.pointer (some ⟨B, 0, none⟩)] [fRp av l] [(B, Ob (runC f sv av 0) 94)] (RJmp B sv av (if l.getD 1 .zero = .zero then (f, 0) else jumpF f (numF (l.getD 0 .zero)))) := by
  have h1 := fun av => rjump_spec B f sv av l hc (by omega)
  rw [getD_at l 1 hl]
  by_cases hz : l[1] = .zero
  · rw [if_pos hz]
    refine Fn.enter Tryz.func116 rfl Tryz.ntmps116 (by simp) (fun I0 w0 => ?_)
    refine W.bare (G.slice av l ?_)
    intro a1 c1 e1 k1
    subst e1
    repeat (first | (refine sty ?_; try intro _) | (refine st ?_; try intro _) | (refine stz ?_; try intro _) | (refine stq ?_; try intro _))
    exact G.fin rfl .nil (Φ' := []) (M' := [_]) inferInstance (List.Sublist.refl _) ⟨rfl, rfl, rfl⟩
  · rw [if_neg hz]
    refine Fn.enter Tryz.func116 rfl Tryz.ntmps116 (by simp) (fun I0 w0 => ?_)
    refine W.bare (G.slice av l ?_)
    intro a1 c1 e1 k1
    subst e1
    repeat (first | (refine sty ?_; try intro _) | (refine st ?_; try intro _) | (refine stz ?_; try intro _) | (refine stq ?_; try intro _))
    refine OpK.call rfl rfl rfl rfl (h1 _) inferInstance (Mr := []) (by rw [List.append_nil]) ?_
    rintro u Φ' Mc' ⟨rfl, rfl, rfl⟩
    dsimp only [List.cons_append, List.nil_append, List.append_nil]
    repeat (first | (refine sty ?_; try intro _) | (refine st ?_; try intro _) | (refine stz ?_; try intro _) | (refine stq ?_; try intro _))
    exact G.fin rfl .nil (Φ' := []) (M' := [_]) inferInstance (List.Sublist.refl _) ⟨rfl, rfl, rfl⟩
abbrev enA (f : Frm) (so : Int) : Frm := { f with status := so }
abbrev enB (f : Frm) (so : Int) (q : List UInt8) : Frm := { f with status := so, out := q }
theorem rend_spec (B : Nat) (f : Frm) (sv av : Value) (so : Int) (l : List Word) (hm : f.mem.length ≤ 1048576) (h32 : f.mem.length % 32 = 0) (hl : 1 < l.length) (hp1 : 0 ≤ f.pc) (hp2 : f.pc ≤ 1000000000000000000) :
    Fn Tryz.prog 122 [.pointer (some ⟨B, 0, none⟩), .int .i64 so] [fRp av l] [(B, Ob (runC f sv av 0) 94)] (RJmp B sv av (endF f so l)) := by
  have h1 := number_spec l[1]
  have hb1 : numF l[1] ≤ 1099511627776 := Nat.min_le_right _ _
  unfold endF
  rw [getD_at l 1 hl, getD_at l 0 (by omega)]
  generalize numF l[1] = n at h1 hb1 ⊢
  have h2 := fun av => rat_spec B f sv av 0 l[0] n hm h32 hb1
  generalize pieceF f.mem l[0] n = q at h2 ⊢
  refine Fn.enter Tryz.func122 rfl Tryz.ntmps122 (by simp) (fun I0 w0 => ?_)
  refine W.bare (G.slice av l ?_)
  intro a1 c1 e1 k1
  subst e1
  refine G.code ?_
  refine W.drawCh 33 { j := 32, k := [32], M := fun _ => [(B, Ob (runC (enB f so q) sv (.slice a1 l.length c1) 0) 94)] } [{ j := 28, k := [28], M := fun _ => [(B, Ob (runC (enA f so) sv (.slice a1 l.length c1) 0) 94)] }] (dq _ :: dq _ :: dq _ :: dq _ :: dq _ :: dq _ :: dq _ :: dq _ :: dq _ :: dk _ :: dq _ :: dq _ :: dq _ :: dq _ :: dq _ :: dk _ :: dq _ :: dq _ :: dq _ :: dq _ :: dq _ :: dq _ :: dq _ :: dq _ :: dq _ :: dq _ :: dq _ :: dq _ :: (dq fun _ _ => .bool false) :: dq _ :: dq _ :: dq _ :: (dq fun _ _ => .bool false) :: []) ([] :: [] :: [] :: [] :: [] :: [] :: [5] :: [6] :: [7] :: [8] :: [9] :: [] :: [11] :: [12] :: [13] :: [14] :: [15] :: [16] :: [4,10,17] :: [] :: [19] :: [20] :: [21] :: [22] :: [23] :: [0] :: [25] :: [26] :: [3,27] :: [1] :: [29] :: [30] :: [18,31] :: []) [2, 24] (hrest := fun c => nrmC ?_) (hops := by
    refine AllX.ch ?_ ?_; rotate_left
    focus (refine ⟨⟨rfl, (by kernel_rfl)⟩, .inl (by kernel_rfl), .inr (⟨⟨rfl, (by kernel_rfl)⟩, .inl (by kernel_rfl), .inr (?_)⟩)⟩; all_goals (intro c z0 Φr Lr K; refine nrmC ?_; intro hK; (first | refine sty ?_ | refine st ?_ | refine stz ?_ | refine stq ?_); (first | exact hK z0 | exact hK | exact fun b => hK (.int .i64 (b : Int)))))
    refine AllX.ch ?_ ?_; rotate_left
    focus (refine ⟨⟨rfl, (by kernel_rfl)⟩, .inl (by kernel_rfl), .inr (⟨⟨rfl, (by kernel_rfl)⟩, .inr ?_, .inr (?_)⟩)⟩; all_goals (intro c z0 Φr Lr K; refine nrmC ?_; intro hK; (first | refine sty ?_ | refine st ?_ | refine stz ?_ | refine stq ?_); (first | exact hK z0 | exact hK | exact fun b => hK (.int .i64 (b : Int)))))
    refine AllX.ch ?_ ?_; rotate_left
    focus (refine ⟨⟨rfl, (by kernel_rfl)⟩, .inr ?_, .inr (⟨⟨rfl, (by kernel_rfl)⟩, .inr ?_, .inr (?_)⟩)⟩; all_goals (intro c z0 Φr Lr K; refine nrmC ?_; intro hK; (first | refine sty ?_ | refine st ?_ | refine stz ?_ | refine stq ?_); (first | exact hK z0 | exact hK | exact fun b => hK (.int .i64 (b : Int)))))
    refine AllX.ch ?_ ?_; rotate_left
    focus (refine ⟨⟨rfl, (by kernel_rfl)⟩, .inl (by kernel_rfl), .inr (⟨⟨rfl, (by kernel_rfl)⟩, .inl (by kernel_rfl), .inr (?_)⟩)⟩; all_goals (intro c z0 Φr Lr K; refine nrmC ?_; intro hK; (first | refine sty ?_ | refine st ?_ | refine stz ?_ | refine stq ?_); (first | exact hK z0 | exact hK | exact fun b => hK (.int .i64 (b : Int)))))
    refine AllX.ch ?_ ?_; rotate_left
    focus (refine ⟨⟨rfl, (by kernel_rfl)⟩, .inl (by kernel_rfl), .inr (⟨⟨rfl, (by kernel_rfl)⟩, .inl (by kernel_rfl), .inr (?_)⟩)⟩; all_goals (intro c z0 Φr Lr K; refine nrmC ?_; intro hK; (first | refine sty ?_ | refine st ?_ | refine stz ?_ | refine stq ?_); (first | exact hK z0 | exact hK | exact fun b => hK (.int .i64 (b : Int)))))
    refine AllX.ch ?_ ?_; rotate_left
    focus (refine ⟨⟨rfl, (by kernel_rfl)⟩, .inl (by kernel_rfl), .inr (⟨⟨rfl, (by kernel_rfl)⟩, .inl (by kernel_rfl), .inr (?_)⟩)⟩; all_goals (intro c z0 Φr Lr K; refine nrmC ?_; intro hK; (first | refine sty ?_ | refine st ?_ | refine stz ?_ | refine stq ?_); (first | exact hK z0 | exact hK | exact fun b => hK (.int .i64 (b : Int)))))
    refine AllX.ch ?_ ?_; rotate_left
    focus (refine ⟨⟨rfl, (by kernel_rfl)⟩, .inl (by kernel_rfl), .inr (⟨⟨rfl, (by kernel_rfl)⟩, .inl (by kernel_rfl), .inr (?_)⟩)⟩; all_goals (intro c z0 Φr Lr K; refine nrmC ?_; intro hK; (first | refine sty ?_ | refine st ?_ | refine stz ?_ | refine stq ?_); (first | exact hK z0 | exact hK | exact fun b => hK (.int .i64 (b : Int)))))
    refine AllX.ch ?_ ?_; rotate_left
    focus (refine ⟨⟨rfl, (by kernel_rfl)⟩, .inl (by kernel_rfl), .inr (⟨⟨rfl, (by kernel_rfl)⟩, .inl (by kernel_rfl), .inr (?_)⟩)⟩; all_goals (intro c z0 Φr Lr K; refine nrmC ?_; intro hK; (first | refine sty ?_ | refine st ?_ | refine stz ?_ | refine stq ?_); (first | exact hK z0 | exact hK | exact fun b => hK (.int .i64 (b : Int)))))
    refine AllX.ch ?_ ?_; rotate_left
    focus (refine ⟨⟨rfl, (by kernel_rfl)⟩, .inl (by kernel_rfl), .inr (⟨⟨rfl, (by kernel_rfl)⟩, .inl (by kernel_rfl), .inr (?_)⟩)⟩; all_goals (intro c z0 Φr Lr K; refine nrmC ?_; intro hK; (first | refine sty ?_ | refine st ?_ | refine stz ?_ | refine stq ?_); (first | exact hK z0 | exact hK | exact fun b => hK (.int .i64 (b : Int)))))
    refine AllX.ch ?_ ?_; rotate_left
    focus (refine ⟨⟨rfl, (by kernel_rfl)⟩, .inl (by kernel_rfl), .inr (⟨⟨rfl, (by kernel_rfl)⟩, .inl (by kernel_rfl), .inr (?_)⟩)⟩; all_goals (intro c z0 Φr Lr K; refine nrmC ?_; intro hK; (first | refine sty ?_ | refine st ?_ | refine stz ?_ | refine stq ?_); (first | exact hK z0 | exact hK | exact fun b => hK (.int .i64 (b : Int)))))
    refine AllX.ch ?_ ?_; rotate_left
    focus (refine ⟨⟨rfl, (by kernel_rfl)⟩, .inl (by kernel_rfl), .inr (⟨⟨rfl, (by kernel_rfl)⟩, .inl (by kernel_rfl), .inr (?_)⟩)⟩; all_goals (intro c z0 Φr Lr K; refine nrmC ?_; intro hK; (first | refine sty ?_ | refine st ?_ | refine stz ?_ | refine stq ?_); (first | exact hK z0 | exact hK | exact fun b => hK (.int .i64 (b : Int)))))
    refine AllX.ch ?_ ?_; rotate_left
    focus (refine ⟨⟨rfl, (by kernel_rfl)⟩, .inl (by kernel_rfl), .inr (⟨⟨rfl, (by kernel_rfl)⟩, .inl (by kernel_rfl), .inr (?_)⟩)⟩; all_goals (intro c z0 Φr Lr K; refine nrmC ?_; intro hK; (first | refine sty ?_ | refine st ?_ | refine stz ?_ | refine stq ?_); (first | exact hK z0 | exact hK | exact fun b => hK (.int .i64 (b : Int)))))
    refine AllX.ch ?_ ?_; rotate_left
    focus (refine ⟨⟨rfl, (by kernel_rfl)⟩, .inl (by kernel_rfl), .inr (⟨⟨rfl, (by kernel_rfl)⟩, .inl (by kernel_rfl), .inr (?_)⟩)⟩; all_goals (intro c z0 Φr Lr K; refine nrmC ?_; intro hK; (first | refine sty ?_ | refine st ?_ | refine stz ?_ | refine stq ?_); (first | exact hK z0 | exact hK | exact fun b => hK (.int .i64 (b : Int)))))
    refine AllX.ch ?_ ?_; rotate_left
    focus (refine ⟨⟨rfl, (by kernel_rfl)⟩, .inl (by kernel_rfl), .inr (⟨⟨rfl, (by kernel_rfl)⟩, .inl (by kernel_rfl), .inr (?_)⟩)⟩; all_goals (intro c z0 Φr Lr K; refine nrmC ?_; intro hK; (first | refine sty ?_ | refine st ?_ | refine stz ?_ | refine stq ?_); (first | exact hK z0 | exact hK | exact fun b => hK (.int .i64 (b : Int)))))
    refine AllX.ch ?_ ?_; rotate_left
    focus (refine ⟨⟨rfl, (by kernel_rfl)⟩, .inl (by kernel_rfl), .inr (⟨⟨rfl, (by kernel_rfl)⟩, .inl (by kernel_rfl), .inr (?_)⟩)⟩; all_goals (intro c z0 Φr Lr K; refine nrmC ?_; intro hK; (first | refine sty ?_ | refine st ?_ | refine stz ?_ | refine stq ?_); (first | exact hK z0 | exact hK | exact fun b => hK (.int .i64 (b : Int)))))
    refine AllX.ch ?_ ?_; rotate_left
    focus (refine ⟨⟨rfl, (by kernel_rfl)⟩, .inl (by kernel_rfl), .inr (⟨⟨rfl, (by kernel_rfl)⟩, .inl (by kernel_rfl), .inr (?_)⟩)⟩; all_goals (intro c z0 Φr Lr K; refine nrmC ?_; intro hK; (first | refine sty ?_ | refine st ?_ | refine stz ?_ | refine stq ?_); (first | exact hK z0 | exact hK | exact fun b => hK (.int .i64 (b : Int)))))
    refine AllX.ch ?_ ?_; rotate_left
    focus (refine ⟨⟨rfl, (by kernel_rfl)⟩, .inl (by kernel_rfl), .inr (⟨⟨rfl, (by kernel_rfl)⟩, .inl (by kernel_rfl), .inr (?_)⟩)⟩; all_goals (intro c z0 Φr Lr K; refine nrmC ?_; intro hK; (first | refine sty ?_ | refine st ?_ | refine stz ?_ | refine stq ?_); (first | exact hK z0 | exact hK | exact fun b => hK (.int .i64 (b : Int)))))
    refine AllX.ch ?_ ?_; rotate_left
    focus (refine ⟨⟨rfl, (by kernel_rfl)⟩, .inl (by kernel_rfl), .inr (⟨⟨rfl, (by kernel_rfl)⟩, .inl (by kernel_rfl), .inr (?_)⟩)⟩; all_goals (intro c z0 Φr Lr K; refine nrmC ?_; intro hK; refine o_callV rfl rfl rfl rfl h1 rfl ?_; exact hK z0))
    refine AllX.ch ?_ ?_; rotate_left
    focus (refine ⟨⟨rfl, (by kernel_rfl)⟩, .inl (by kernel_rfl), .inr (⟨⟨rfl, (by kernel_rfl)⟩, .inl (by kernel_rfl), .inr (?_)⟩)⟩; all_goals (intro c z0 Φr Lr K; refine nrmC ?_; intro hK; refine OpK.call rfl rfl rfl rfl (h2 _) inferInstance (Mr := []) (by rw [List.append_nil]) ?_; rintro u Φ' Mc' ⟨rfl, rfl, rfl⟩; exact hK z0))
    refine AllX.ch ?_ ?_; rotate_left
    focus (refine ⟨⟨rfl, (by kernel_rfl)⟩, .inr ?_, .inr (⟨⟨rfl, (by kernel_rfl)⟩, .inr ?_, .inr (?_)⟩)⟩; all_goals (intro c z0 Φr Lr K; refine nrmC ?_; intro hK; (first | refine sty ?_ | refine st ?_ | refine stz ?_ | refine stq ?_); (first | exact hK z0 | exact hK | exact fun b => hK (.int .i64 (b : Int)))))
    refine AllX.ch ?_ ?_; rotate_left
    focus (refine ⟨⟨rfl, (by kernel_rfl)⟩, .inr ?_, .inr (⟨⟨rfl, (by kernel_rfl)⟩, .inr ?_, .inr (?_)⟩)⟩; all_goals (intro c z0 Φr Lr K; refine nrmC ?_; intro hK; (first | refine sty ?_ | refine st ?_ | refine stz ?_ | refine stq ?_); (first | exact hK z0 | exact hK | exact fun b => hK (.int .i64 (b : Int)))))
    refine AllX.ch ?_ ?_; rotate_left
    focus (refine ⟨⟨rfl, (by kernel_rfl)⟩, .inr ?_, .inr (⟨⟨rfl, (by kernel_rfl)⟩, .inr ?_, .inr (?_)⟩)⟩; all_goals (intro c z0 Φr Lr K; refine nrmC ?_; intro hK; (first | refine sty ?_ | refine st ?_ | refine stz ?_ | refine stq ?_); (first | exact hK z0 | exact hK | exact fun b => hK (.int .i64 (b : Int)))))
    refine AllX.ch ?_ ?_; rotate_left
    focus (refine ⟨⟨rfl, (by kernel_rfl)⟩, .inr ?_, .inr (⟨⟨rfl, (by kernel_rfl)⟩, .inr ?_, .inr (?_)⟩)⟩; all_goals (intro c z0 Φr Lr K; refine nrmC ?_; intro hK; (first | refine sty ?_ | refine st ?_ | refine stz ?_ | refine stq ?_); (first | exact hK z0 | exact hK | exact fun b => hK (.int .i64 (b : Int)))))
    refine AllX.ch ?_ ?_; rotate_left
    focus (refine ⟨⟨rfl, (by kernel_rfl)⟩, .inr ?_, .inr (⟨⟨rfl, (by kernel_rfl)⟩, .inr ?_, .inr (?_)⟩)⟩; all_goals (intro c z0 Φr Lr K; refine nrmC ?_; intro hK; (first | refine sty ?_ | refine st ?_ | refine stz ?_ | refine stq ?_); (first | exact hK z0 | exact hK | exact fun b => hK (.int .i64 (b : Int)))))
    refine AllX.ch ?_ ?_; rotate_left
    focus (refine ⟨⟨rfl, (by kernel_rfl)⟩, .inr ?_, .inr (⟨⟨rfl, (by kernel_rfl)⟩, .inr ?_, .inr (?_)⟩)⟩; all_goals (intro c z0 Φr Lr K; refine nrmC ?_; intro hK; (first | refine sty ?_ | refine st ?_ | refine stz ?_ | refine stq ?_); (first | exact hK z0 | exact hK | exact fun b => hK (.int .i64 (b : Int)))))
    refine AllX.ch ?_ ?_; rotate_left
    focus (refine ⟨⟨rfl, (by kernel_rfl)⟩, .inl (by kernel_rfl), .inr (⟨⟨rfl, (by kernel_rfl)⟩, .inl (by kernel_rfl), .inr (?_)⟩)⟩; all_goals (intro c z0 Φr Lr K; refine nrmC ?_; intro hK; (first | refine sty ?_ | refine st ?_ | refine stz ?_ | refine stq ?_); (first | exact hK z0 | exact hK | exact fun b => hK (.int .i64 (b : Int)))))
    refine AllX.ch ?_ ?_; rotate_left
    focus (refine ⟨⟨rfl, (by kernel_rfl)⟩, .inl (by kernel_rfl), .inr (⟨⟨rfl, (by kernel_rfl)⟩, .inl (by kernel_rfl), .inr (?_)⟩)⟩; all_goals (intro c z0 Φr Lr K; refine nrmC ?_; intro hK; (first | refine sty ?_ | refine st ?_ | refine stz ?_ | refine stq ?_); (first | exact hK z0 | exact hK | exact fun b => hK (.int .i64 (b : Int)))))
    refine AllX.ch ?_ ?_; rotate_left
    focus (refine ⟨⟨rfl, (by kernel_rfl)⟩, .inl (by kernel_rfl), .inr (⟨⟨rfl, (by kernel_rfl)⟩, .inl (by kernel_rfl), .inr (?_)⟩)⟩; all_goals (intro c z0 Φr Lr K; refine nrmC ?_; intro hK; (first | refine sty ?_ | refine st ?_ | refine stz ?_ | refine stq ?_); (first | exact hK z0 | exact hK | exact fun b => hK (.int .i64 (b : Int)))))
    refine AllX.cj ?_ ?_; rotate_left
    focus (refine .inr ⟨rfl, (by kernel_rfl), .inl ⟨rfl, (by kernel_rfl), ?_⟩⟩; all_goals (intro c z0 Φr Lr K; refine nrmC ?_; intro hK; (first | refine sty ?_ | refine st ?_ | refine stz ?_ | refine stq ?_); (first | exact hK z0 | exact hK | exact fun b => hK (.int .i64 (b : Int)))))
    refine AllX.ch ?_ ?_; rotate_left
    focus (refine ⟨⟨rfl, (by kernel_rfl)⟩, .inl (by kernel_rfl), .inr (⟨⟨rfl, (by kernel_rfl)⟩, .inr ?_, .inr (?_)⟩)⟩; all_goals (intro c z0 Φr Lr K; refine nrmC ?_; intro hK; (first | refine sty ?_ | refine st ?_ | refine stz ?_ | refine stq ?_); (first | exact hK z0 | exact hK | exact fun b => hK (.int .i64 (b : Int)))))
    refine AllX.ch ?_ ?_; rotate_left
    focus (refine ⟨⟨rfl, (by kernel_rfl)⟩, .inl (by kernel_rfl), .inr (⟨⟨rfl, (by kernel_rfl)⟩, .inr ?_, .inr (?_)⟩)⟩; all_goals (intro c z0 Φr Lr K; refine nrmC ?_; intro hK; (first | refine sty ?_ | refine st ?_ | refine stz ?_ | refine stq ?_); (first | exact hK z0 | exact hK | exact fun b => hK (.int .i64 (b : Int)))))
    refine AllX.ch ?_ ?_; rotate_left
    focus (refine ⟨⟨rfl, (by kernel_rfl)⟩, .inl (by kernel_rfl), .inr (⟨⟨rfl, (by kernel_rfl)⟩, .inr ?_, .inr (?_)⟩)⟩; all_goals (intro c z0 Φr Lr K; refine nrmC ?_; intro hK; (first | refine sty ?_ | refine st ?_ | refine stz ?_ | refine stq ?_); (first | exact hK z0 | exact hK | exact fun b => hK (.int .i64 (b : Int)))))
    refine AllX.cj ?_ ?_; rotate_left
    focus (refine .inl ⟨rfl, (by kernel_rfl), ?_⟩; all_goals (intro c z0 Φr Lr K; refine nrmC ?_; intro hK; (first | refine sty ?_ | refine st ?_ | refine stz ?_ | refine stq ?_); (first | exact hK z0 | exact hK | exact fun b => hK (.int .i64 (b : Int)))))
    exact AllX.end)
  repeat (first | (refine sty ?_; try intro _) | (refine st ?_; try intro _) | (refine stz ?_; try intro _) | (refine stq ?_; try intro _))
  exact G.fin rfl .nil (Φ' := []) (M' := [_]) inferInstance (List.Sublist.refl _) ⟨rfl, rfl, rfl⟩
theorem ract13_spec (B : Nat) (f : Frm) (sv av : Value) (l : List Word) (hm : f.mem.length ≤ 1048576) (h32 : f.mem.length % 32 = 0) (hl : 1 < l.length) (hp1 : 0 ≤ f.pc) (hp2 : f.pc ≤ 1000000000000000000) :
    Fn Tryz.prog 121 [.pointer (some ⟨B, 0, none⟩)] [fRp av l] [(B, Ob (runC f sv av 0) 94)] (RJmp B sv av (endF f 2 l)) := by
  have h1 := rend_spec B f sv av 2 l hm h32 hl hp1 hp2
  generalize endF f 2 l = p at h1 ⊢
  refine Fn.enter Tryz.func121 rfl Tryz.ntmps121 (by simp) (fun I0 w0 => ?_)
  repeat (first | (refine sty ?_; try intro _) | (refine st ?_; try intro _) | (refine stz ?_; try intro _) | (refine stq ?_; try intro _))
  refine OpK.call rfl rfl rfl rfl h1 inferInstance (Mr := []) (by rw [List.append_nil]) ?_
  rintro u Φ' Mc' ⟨rfl, rfl, rfl⟩
  dsimp only [List.cons_append, List.nil_append, List.append_nil]
  repeat (first | (refine sty ?_; try intro _) | (refine st ?_; try intro _) | (refine stz ?_; try intro _) | (refine stq ?_; try intro _))
  exact G.fin rfl .nil (Φ' := []) (M' := [_]) inferInstance (List.Sublist.refl _) ⟨rfl, rfl, rfl⟩
theorem ract14_spec (B : Nat) (f : Frm) (sv av : Value) (l : List Word) (hm : f.mem.length ≤ 1048576) (h32 : f.mem.length % 32 = 0) (hl : 1 < l.length) (hp1 : 0 ≤ f.pc) (hp2 : f.pc ≤ 1000000000000000000) :
    Fn Tryz.prog 123 [.pointer (some ⟨B, 0, none⟩)] [fRp av l] [(B, Ob (runC f sv av 0) 94)] (RJmp B sv av (endF f 3 l)) := by
  have h1 := rend_spec B f sv av 3 l hm h32 hl hp1 hp2
  generalize endF f 3 l = p at h1 ⊢
  refine Fn.enter Tryz.func123 rfl Tryz.ntmps123 (by simp) (fun I0 w0 => ?_)
  repeat (first | (refine sty ?_; try intro _) | (refine st ?_; try intro _) | (refine stz ?_; try intro _) | (refine stq ?_; try intro _))
  refine OpK.call rfl rfl rfl rfl h1 inferInstance (Mr := []) (by rw [List.append_nil]) ?_
  rintro u Φ' Mc' ⟨rfl, rfl, rfl⟩
  dsimp only [List.cons_append, List.nil_append, List.append_nil]
  repeat (first | (refine sty ?_; try intro _) | (refine st ?_; try intro _) | (refine stz ?_; try intro _) | (refine stq ?_; try intro _))
  exact G.fin rfl .nil (Φ' := []) (M' := [_]) inferInstance (List.Sublist.refl _) ⟨rfl, rfl, rfl⟩
end Go.Rail
