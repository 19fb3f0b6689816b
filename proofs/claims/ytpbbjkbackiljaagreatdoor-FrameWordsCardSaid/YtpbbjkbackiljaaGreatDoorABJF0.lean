/- Words out of bytes, and what an opcode pushes. -/
import Derived.Test.YtpbbjkbackiljaaGreatDoorABID2
import Derived.Test.YtpbbjkbackiljaaGreatDoorAC17C19
import Derived.Test.YtpbbjkbackiljaaGreatDoorAC14C10
set_option linter.unusedSimpArgs false
set_option linter.unusedVariables false
namespace Go.Rail
open Go Go.Proofs
set_option maxHeartbeats 400000
set_option maxRecDepth 4000
attribute [local irreducible] OpK G W LW wpListIn Exit.then Exit.inBlock Post rounds opRun bodyPostM intOp
set_option maxHeartbeats 4000000
def byG (l : List UInt8) (k : Nat) : Nat := (l.reverse.getD k 0).toNat
def wordB (l : List UInt8) : Word := Word.nat (sumB 256 (byG l) 32)
theorem byG_lt (l : List UInt8) (k : Nat) : byG l k < 256 := (l.reverse.getD k 0).toNat_lt
theorem byG_zero (l : List UInt8) (k : Nat) (h : l.length ≤ k) : byG l k = 0 := by
  unfold byG
  rw [List.getD_eq_getElem?_getD, List.getElem?_eq_none (by rw [List.length_reverse]; exact h)]; rfl
def pF (g : Nat → Nat) (i j : Nat) : Nat := sumB 256 (fun k => g (8 * j + k)) (min 8 (i - 8 * j))
theorem pF_step (g : Nat → Nat) (m : Nat) : pF g (m + 1) = fun j => if j = m / 8 then pF g m (m / 8) + g m * 256 ^ (m % 8) else pF g m j := by
  funext j
  by_cases h : j = m / 8
  · subst h
    rw [if_pos rfl]
    unfold pF
    rw [show min 8 (m + 1 - 8 * (m / 8)) = m % 8 + 1 from by omega, show min 8 (m - 8 * (m / 8)) = m % 8 from by omega, sumB, show 8 * (m / 8) + m % 8 = m from by omega]
  · rw [if_neg h]
    unfold pF
    congr 1
    omega
theorem sumB_nil {b : Nat} {f : Nat → Nat} : ∀ {n : Nat}, (∀ i < n, f i = 0) → sumB b f n = 0
  | 0, _ => rfl
  | n + 1, h => by simp only [sumB]; rw [sumB_nil (fun i hi => h i (by omega)), h n (by omega)]; omega
theorem pF_all (g : Nat → Nat) (n : Nat) (hz : ∀ k, n ≤ k → k < 32 → g k = 0) (j : Nat) (hj : j < 4) : pF g n j = stF g 0 j := by
  unfold pF stF
  rw [Nat.zero_max, show 8 * j + 8 - 8 * j = min 8 (n - 8 * j) + (8 - min 8 (n - 8 * j)) from by omega, sumB_split, sumB_nil (n := 8 - min 8 (n - 8 * j)) (fun i hi => hz _ (by omega) (by omega))]
  omega
theorem pF_lt {g : Nat → Nat} (hg : ∀ i < 32, g i < 256) {m : Nat} (hm : m < 32) : pF g m (m / 8) < 256 ^ (m % 8) := by
  unfold pF
  rw [show min 8 (m - 8 * (m / 8)) = m % 8 from by omega]
  exact sumB_lt (by decide) (fun i hi => hg _ (by omega))
theorem or_top (a b k : Nat) (hk : k < 8) (ha : a < 256 ^ k) (hb : b < 256) : a ||| b * 2 ^ (k * 8) % 18446744073709551616 = a + b * 256 ^ k := by
  have e : (2 : Nat) ^ (k * 8) = 256 ^ k := by rw [Nat.mul_comm, Nat.pow_mul]
  have h1 : (256 : Nat) ^ k ≤ 256 ^ 7 := Nat.pow_le_pow_right (by decide) (by omega)
  have h2 : b * 256 ^ k ≤ 255 * 256 ^ 7 := Nat.mul_le_mul (by omega) h1
  have h3 : (255 : Nat) * 256 ^ 7 < 18446744073709551616 := by decide
  rw [e, Nat.mod_eq_of_lt (by omega), Nat.or_comm, ← e, Nat.mul_comm b]
  rw [← e] at ha
  rw [← Nat.two_pow_add_eq_or_of_lt ha, Nat.add_comm]
theorem cU_congr {n : Nat} {f g : Nat → Nat} (h : ∀ i < n, f i = g i) : cU n f = cU n g := by
  unfold cU
  exact List.map_congr_left fun i hi => by rw [h i (List.mem_range.1 hi)]
theorem wfb_spec (l : List UInt8) (hl : l.length ≤ 1000000) : FnV Tryz.prog 92 [.string (ba l)] [] (wordB l).v := by
  refine Fn.enter Tryz.func92 rfl Tryz.ntmps92 (by simp) (fun I0 w0 => ?_)
  repeat (first | (refine sty ?_; try intro _) | (refine st ?_; try intro _) | (refine stz ?_; try intro _) | (refine stq ?_; try intro _))
  refine o_toB rfl rfl rfl ?_
  intro v1
  repeat (first | (refine sty ?_; try intro _) | (refine st ?_; try intro _) | (refine stz ?_; try intro _) | (refine stq ?_; try intro _))
  refine o_callD rfl rfl rfl rfl (last8_spec _ l hl) ?_
  intro v2
  repeat (first | (refine sty ?_; try intro _) | (refine st ?_; try intro _) | (refine stz ?_; try intro _) | (refine stq ?_; try intro _))
  refine o_callD rfl rfl rfl rfl (reversed8_spec _ (l.drop (l.length - 32)) (by rw [List.length_drop]; omega)) ?_
  intro v3
  have htl : (l.drop (l.length - 32)).reverse.length ≤ 32 := by rw [List.length_reverse, List.length_drop]; omega
  have hte : ∀ k, k < (l.drop (l.length - 32)).reverse.length → ((l.drop (l.length - 32)).reverse.getD k 0).toNat = byG l k := by
    intro k hk
    unfold byG
    rw [List.length_reverse, List.length_drop] at hk
    rw [List.getD_eq_getElem?_getD, List.getD_eq_getElem?_getD, List.getElem?_reverse (by rw [List.length_drop]; exact hk), List.getElem?_drop, List.length_drop, List.getElem?_reverse (by omega)]
    congr 3; omega
  have hz : ∀ k, (l.drop (l.length - 32)).reverse.length ≤ k → k < 32 → byG l k = 0 := fun k h1 h2 => byG_zero l k (by rw [List.length_reverse, List.length_drop] at h1; omega)
  generalize (l.drop (l.length - 32)).reverse = t at htl hte hz ⊢
  dsimp only [List.cons_append, List.nil_append]
  refine G.slice v3 t ?_; intro ad cap e1 k1; subst e1
  repeat (first | (refine sty ?_; try intro _) | (refine st ?_; try intro _) | (refine stz ?_; try intro _) | (refine stq ?_; try intro _))
  rename_i b2
  refine W.lp (S := Nat) (fun i => ([fRp (.slice ad t.length cap) t], [(10, .int .i64 (i : Int)), (9, .int .i64 (t.length : Int)), (8, .slice ad t.length cap), (2, .pointer (some ⟨b2, 0, none⟩))], [(b2, Ob (cU 4 (pF (byG l) i)) 49)])) (fun i => i ≤ t.length) (fun i => t.length - i) 0 ?_ (h0 := Nat.zero_le _)
  intro i hi
  dsimp only
  by_cases hie : i = t.length
  · subst hie
    repeat (first | (refine sty ?_; try intro _) | (refine st ?_; try intro _) | (refine stz ?_; try intro _) | (refine stq ?_; try intro _))
    refine G.retV ?_
    refine (congrArg (fun q => Value.agg q.toArray) (cU_congr (g := stF (byG l) 0) (fun j hj => pF_all _ _ hz j hj))).trans ?_
    exact stF_word _ (fun i _ => byG_lt l i)
  · have h1 := pF_lt (g := byG l) (fun i _ => byG_lt l i) (m := i) (by omega)
    have h2 := byG_lt l i
    have h3 := or_top (pF (byG l) i (i / 8)) (byG l i) (i % 8) (Nat.mod_lt _ (by decide)) h1 h2
    have h4 : (256 : Nat) ^ (i % 8) ≤ 256 ^ 7 := Nat.pow_le_pow_right (by decide) (by omega)
    have hg : t[i]? = some (t.getD i 0) := by rw [List.getD_eq_getElem?_getD, List.getElem?_eq_getElem (by omega)]; rfl
    have hb := hte i (by omega)
    generalize t.getD i 0 = ch at hg hb
    obtain ⟨hlt, he⟩ := List.getElem?_eq_some_iff.1 hg
    repeat (first | (refine sty ?_; try intro _) | (refine st ?_; try intro _) | (refine stz ?_; try intro _) | (refine stq ?_; try intro _))
    refine W.drawA 10 [dq _, dq _, dq _, dq _, dq _, dq _, dq _, dq _, dq _, dq _] [[], [0], [1], [2], [], [4], [], [6], [7], [5,8]] [1, 3, 9] (hrest := fun c => nrm ?_) (hops := by
      iterate 10 refine AllQ.aq ?_
      exact AllQ.nil)
    repeat (first | (refine sty ?_; try intro _) | (refine st ?_; try intro _) | (refine stz ?_; try intro _) | (refine stq ?_; try intro _))
    have hu : (u64 (ch.toNat : Int)).toNat = byG l i := by
      have := u64_toNat (ch.toNat : Int)
      rw [hb] at this ⊢
      omega
    rw [he, hu, h3, ← pF_step]
    exact G.ag (i + 1)
theorem fromDigitsN_spec (v : Value) (n : Nat) (g : Nat → Nat) (hn : n ≤ 32) (hg : ∀ i < 32, g i < 256) (hz : ∀ k, n ≤ k → k < 32 → g k = 0) : FnV Tryz.prog 80 [v] [fRp v (rowN n g)] (Word.nat (sumB 256 g 32)).v := by
  have e0 : Ob Word.zero.cells 49 = Ob (cU 4 (stF g n)) 49 := by
    have : cU 4 (stF g n) = cU 4 (fun _ => 0) := cU_congr (fun j hj => sumB_nil (fun i hi => hz _ (by omega) (by omega)))
    rw [this]; rfl
  refine Fn.enter Tryz.func80 rfl Tryz.ntmps80 (by simp) (fun I0 w0 => ?_)
  refine W.bare (G.slice v (rowN n g) ?_); intro a1 c1 e1 k1; subst e1
  rw [rowZ_length] at k1 ⊢
  refine G.code ?_
  repeat (first | (refine sty ?_; try intro _) | (refine st ?_; try intro _) | (refine stz ?_; try intro _) | (refine stq ?_; try intro _))
  rename_i b2 b3
  have hrl : (rowN n g).length = n := rowZ_length _ _
  refine W.lp (fun (s : Nat) => ([fRp (.slice a1 n c1) (rowN n g)], [(4, iV s), (3, .pointer (some ⟨b3, 0, none⟩)), (2, .pointer (some ⟨b2, 0, none⟩)), (0, .slice a1 n c1)], [(b3, Ob (cU 4 (stF g s)) 49), (b2, Ob Word.zero.cells 49)])) (fun s => s ≤ n) (fun s => s) n ?_ (h0 := Nat.le_refl _) (hL := look_sub_cons (by cases n with
    | zero => rfl
    | succ m => exact congrArg (fun q => some (Value.int .i64 q)) (by split <;> omega)) (look_sub_cons rfl (look_sub_cons rfl (look_sub_cons rfl look_sub_nil)))) (hM := by dsimp only; rw [← e0]; exact List.Sublist.refl _)
  intro s hs
  dsimp only
  cases s with
  | zero =>
    dsimp only [iV]
    repeat (first | (refine sty ?_; try intro _) | (refine st ?_; try intro _) | (refine stz ?_; try intro _) | (refine stq ?_; try intro _))
    refine G.retV ?_
    exact stF_word g hg
  | succ m =>
    dsimp only [iV]
    have h1 := stF_lt hg (s := m + 1) (j := m / 8) (by omega)
    have h2 := hg m (by omega)
    have h3 := pow_le7 (n := 8 * (m / 8) + 8 - (m + 1)) (by omega)
    rw [Nat.max_eq_left (by omega)] at h1
    repeat (first | (refine sty ?_; try intro _) | (refine st ?_; try intro _) | (refine stz ?_; try intro _) | (refine stq ?_; try intro _))
    refine W.drawA 13 [dq _, dq _, dq _, dq _, dq _, dq _, dq _, dq _, dq _, dk _, dq _, dq _, dq _] [[], [0], [], [2], [3], [4], [5], [], [], [7,8], [9], [10], [6,11]] [1, 12] (hrest := fun c => nrm ?_) (hops := by
      iterate 13 refine AllQ.aq ?_
      exact AllQ.nil)
    repeat (first | (refine sty ?_; try intro _) | (refine st ?_; try intro _) | (refine stz ?_; try intro _) | (refine stq ?_; try intro _))
    rw [← stF_step]
    repeat (first | (refine sty ?_; try intro _) | (refine st ?_; try intro _) | (refine stz ?_; try intro _) | (refine stq ?_; try intro _))
    cases m with
    | zero => exact G.ag 0
    | succ m =>
      rw [show ((m + 1 : Nat) : Int) - 1 = (m : Int) from by omega]
      exact G.ag (m + 1)
theorem own_open {n : Nat} {v : Value} {k : Nat} {o : OR} (h : IsOwn n v k o) : ∃ a c, v = .slice a k c := by
  cases o with
  | none => obtain ⟨rfl, rfl⟩ := h; exact ⟨_, _, rfl⟩
  | some q => obtain ⟨b, cs⟩ := q; obtain ⟨cap, rfl, _⟩ := h; exact ⟨_, _, rfl⟩
structure FbSt where
  k : Nat
  v : Value
  o : OR
theorem rfb_spec (l : List UInt8) (hl : l.length ≤ 1000000) : FnV Tryz.prog 44 [.string (ba l)] [] (wordB l).v := by
  refine Fn.enter Tryz.func44 rfl Tryz.ntmps44 (by simp) (fun I0 w0 => ?_)
  repeat (first | (refine sty ?_; try intro _) | (refine st ?_; try intro _) | (refine stz ?_; try intro _) | (refine stq ?_; try intro _))
  rename_i b2
  refine W.lp (S := FbSt) (fun s => ([fRow (ocells s.o) (rowN s.k (byG l))], [(4, .int .i64 ((l.length : Int) - 1 - (s.k : Int))), (3, s.v), (2, .pointer (some ⟨b2, 0, none⟩)), (0, .string (ba l))], (b2, Ob Word.zero.cells 49) :: ownM 3 s.o)) (fun s => s.k ≤ 32 ∧ s.k ≤ l.length ∧ IsOwn 1 s.v s.k s.o) (fun s => 32 - s.k) ⟨0, .slice none 0 0, none⟩ ?_ (h0 := ⟨Nat.zero_le _, Nat.zero_le _, ⟨rfl, rfl⟩⟩) (hL := look_sub_cons (congrArg (fun q => some (Value.int .i64 q)) (by dsimp only; omega)) (look_sub_cons rfl (look_sub_cons rfl (look_sub_cons rfl look_sub_nil))))
  rintro ⟨k, v, o⟩ ⟨hk, hkl, hown⟩
  dsimp only at hk hkl hown ⊢
  have hrl : (rowN k (byG l)).length = k := rowZ_length _ _
  by_cases hke : k = 32 ∨ k = l.length
  · refine W.bare (G.giveOwn2 (Mr := [_]) v (rowN k (byG l)) o 3 (by rw [hrl]; exact hown) inferInstance (List.Perm.refl _) ?_)
    refine G.code ?_
    have hfd := fromDigitsN_spec v k (byG l) hk (fun i _ => byG_lt l i) (fun j h1 h2 => byG_zero l j (by omega))
    by_cases hk1 : k = l.length
    · repeat (first | (refine sty ?_; try intro _) | (refine st ?_; try intro _) | (refine stz ?_; try intro _) | (refine stq ?_; try intro _))
      refine o_callV rfl rfl rfl rfl hfd rfl ?_
      repeat (first | (refine sty ?_; try intro _) | (refine st ?_; try intro _) | (refine stz ?_; try intro _) | (refine stq ?_; try intro _))
      refine G.retV ?_
      rfl
    · repeat (first | (refine sty ?_; try intro _) | (refine st ?_; try intro _) | (refine stz ?_; try intro _) | (refine stq ?_; try intro _))
      refine o_callV rfl rfl rfl rfl hfd rfl ?_
      repeat (first | (refine sty ?_; try intro _) | (refine st ?_; try intro _) | (refine stz ?_; try intro _) | (refine stq ?_; try intro _))
      refine G.retV ?_
      rfl
  · obtain ⟨ch, hget, hch⟩ : ∃ ch, l[l.length - 1 - k]? = some ch ∧ byG l k = ch.toNat := by
      refine ⟨l.reverse.getD k 0, ?_, rfl⟩
      rw [List.getD_eq_getElem?_getD, List.getElem?_reverse (by omega), List.getElem?_eq_getElem (by omega)]; rfl
    have hst : rowN (k + 1) (byG l) = rowN k (byG l) ++ [((byG l k : Nat) : Int)] := rowZ_succ _ _
    rw [hch] at hst
    have hlt := ch.toNat_lt
    obtain ⟨a0, c0, rfl⟩ := own_open hown
    repeat (first | (refine sty ?_; try intro _) | (refine st ?_; try intro _) | (refine stz ?_; try intro _) | (refine stq ?_; try intro _))
    refine o_ixG (l.length - 1 - k) ch rfl rfl rfl rfl (by omega) hget ?_
    repeat (first | (refine sty ?_; try intro _) | (refine st ?_; try intro _) | (refine stz ?_; try intro _) | (refine stq ?_; try intro _))
    refine o_app2 (Mr := [_]) o (xs := rowN k (byG l)) (ys := [((ch.toNat : Nat) : Int)]) (by rw [hrl]; exact hown) ⟨by simp [hrl]; omega, by simp [hrl]; omega, rfl⟩ rfl rfl rfl rfl inferInstance inferInstance (List.Perm.refl _) ?_
    intro w' o' hown'
    rw [← hst] at hown' ⊢
    rw [rowZ_length] at hown'
    dsimp only [List.nil_append, List.cons_append]
    repeat (first | (refine sty ?_; try intro _) | (refine st ?_; try intro _) | (refine stz ?_; try intro _) | (refine stq ?_; try intro _))
    exact G.ag (S := FbSt) ⟨k + 1, w', o'⟩ (hpre := ⟨by dsimp only; omega, by dsimp only; omega, hown'⟩) (hL := look_sub_cons (congrArg (fun q => some (Value.int .i64 q)) (by dsimp only; omega)) (look_sub_cons rfl (look_sub_cons rfl (look_sub_cons rfl look_sub_nil))))
def opushL (l : List UInt8) (pc n : Int) : Word :=
  if n < 1 ∨ 32 < n ∨ pc < 0 ∨ (l.length : Int) ≤ pc then .zero else wordB ((l.drop (pc.toNat + 1)).take n.toNat ++ List.replicate (n.toNat - ((l.drop (pc.toNat + 1)).take n.toNat).length) 0)
theorem opush_spec (l : List UInt8) (pc n : Int) (hl : l.length ≤ 1000000) : FnV Tryz.prog 59 [.string (ba l), .int .i64 pc, .int .i64 n] [] (opushL l pc n).v := by
  unfold opushL
  by_cases h1 : n < 1
  · rw [if_pos (.inl h1)]
    refine Fn.enter Tryz.func59 rfl Tryz.ntmps59 (by simp) (fun I0 w0 => ?_)
    repeat (first | (refine sty ?_; try intro _) | (refine st ?_; try intro _) | (refine stz ?_; try intro _) | (refine stq ?_; try intro _))
    refine G.retV ?_
    rfl
  by_cases h2 : 32 < n
  · rw [if_pos (.inr (.inl h2))]
    refine Fn.enter Tryz.func59 rfl Tryz.ntmps59 (by simp) (fun I0 w0 => ?_)
    repeat (first | (refine sty ?_; try intro _) | (refine st ?_; try intro _) | (refine stz ?_; try intro _) | (refine stq ?_; try intro _))
    refine G.retV ?_
    rfl
  by_cases h3 : pc < 0
  · rw [if_pos (.inr (.inr (.inl h3)))]
    refine Fn.enter Tryz.func59 rfl Tryz.ntmps59 (by simp) (fun I0 w0 => ?_)
    repeat (first | (refine sty ?_; try intro _) | (refine st ?_; try intro _) | (refine stz ?_; try intro _) | (refine stq ?_; try intro _))
    refine G.retV ?_
    rfl
  by_cases h4 : (l.length : Int) ≤ pc
  · rw [if_pos (.inr (.inr (.inr h4)))]
    refine Fn.enter Tryz.func59 rfl Tryz.ntmps59 (by simp) (fun I0 w0 => ?_)
    repeat (first | (refine sty ?_; try intro _) | (refine st ?_; try intro _) | (refine stz ?_; try intro _) | (refine stq ?_; try intro _))
    refine G.retV ?_
    rfl
  rw [if_neg (by omega)]
  obtain ⟨p, rfl⟩ : ∃ p : Nat, pc = (p : Int) := ⟨pc.toNat, by omega⟩
  obtain ⟨m, rfl⟩ : ∃ m : Nat, n = (m : Int) := ⟨n.toNat, by omega⟩
  rw [Int.toNat_natCast, Int.toNat_natCast]
  have hdl : (l.drop (p + 1)).length = l.length - (p + 1) := List.length_drop ..
  have htl : ((l.drop (p + 1)).take m).length = min m (l.length - (p + 1)) := by rw [List.length_take, hdl]
  have hrp := repeat_spec (m - ((l.drop (p + 1)).take m).length) (by omega)
  have hwf := wfb_spec ((l.drop (p + 1)).take m ++ List.replicate (m - ((l.drop (p + 1)).take m).length) 0) (by rw [List.length_append, List.length_replicate]; omega)
  refine Fn.enter Tryz.func59 rfl Tryz.ntmps59 (by simp) (fun I0 w0 => ?_)
  repeat (first | (refine sty ?_; try intro _) | (refine st ?_; try intro _) | (refine stz ?_; try intro _) | (refine stq ?_; try intro _))
  have hlen : ((l.take l.length).drop (p + 1)).length = l.length - (p + 1) := by rw [List.take_length, hdl]
  have e : ((((l.take l.length).drop (p + 1)).take (min m (l.length - (p + 1)))).drop 0) = (l.drop (p + 1)).take m := by
    rw [List.take_length, List.drop_zero, List.take_eq_take_iff, hdl]; omega
  refine o_slT 0 (min m (l.length - (p + 1))) rfl rfl rfl bd0 ⟨_, _, rfl, by rw [hlen]; split <;> omega⟩ (Nat.zero_le _) (by rw [hlen]; omega) ?_
  rw [e]
  generalize (l.drop (p + 1)).take m = t at htl hrp hwf ⊢
  repeat (first | (refine sty ?_; try intro _) | (refine st ?_; try intro _) | (refine stz ?_; try intro _) | (refine stq ?_; try intro _))
  refine o_callV rfl rfl rfl rfl hrp rfl ?_
  repeat (first | (refine sty ?_; try intro _) | (refine st ?_; try intro _) | (refine stz ?_; try intro _) | (refine stq ?_; try intro _))
  refine o_callV rfl rfl rfl rfl hwf rfl ?_
  repeat (first | (refine sty ?_; try intro _) | (refine st ?_; try intro _) | (refine stz ?_; try intro _) | (refine stq ?_; try intro _))
  refine G.retV ?_
  rfl
end Go.Rail
namespace Go.Rail
open Go Go.Proofs
structure Frm where
  code : List UInt8
  input : List UInt8
  pc : Int
  stack : List Word
  mem : List UInt8
  gas : Int
  ret : List UInt8
  status : Int
  errno : Int
  out : List UInt8
abbrev frmV (f : Frm) (sv : Value) : Value := .agg [.string (ba f.code), .string (ba f.input), .int .i64 f.pc, sv, .string (ba f.mem), .int .i64 f.gas, .string (ba f.ret), .int .i64 f.status, .int .i64 f.errno, .string (ba f.out)].toArray
def rightF (f : Frm) : Bool := decide (f.code.length ≤ 49152 ∧ f.input.length ≤ 1048576 ∧ f.ret.length ≤ 1048576 ∧ f.out.length ≤ 1048576 ∧ 0 ≤ f.pc ∧ f.pc ≤ 9007199254740992 ∧ 0 ≤ f.gas ∧ f.gas ≤ 2000000 ∧
  f.stack.length ≤ 1024 ∧ f.mem.length ≤ 1048576 ∧ f.mem.length % 32 = 0 ∧ 0 ≤ f.status ∧ f.status ≤ 4 ∧ (f.errno ≠ 0 ↔ f.status = 4) ∧ (f.out = [] ∨ f.status = 2 ∨ f.status = 3))
def numF (w : Word) : Nat := min w.num 1099511627776
def costF (n : Nat) : Nat := 3 * min n 32768 + min n 32768 * min n 32768 / 512
def needF (a n : Word) : Option Nat := if n = .zero then some 0 else if (addW a n).num ≤ 1048576 ∧ a.num ≤ (addW a n).num then some (((addW a n).num + 31) / 32) else none
def manyF (n : Nat) : Nat := min n 1048576
def wordsF (n : Nat) : Nat := (manyF n + 31) / 32
def trimF (l : List UInt8) : List UInt8 := l.dropWhile (· == 0)
def moreF (op : Nat) (l : List Word) : Nat :=
  if op = 10 then 50 * (trimF (byN (l.getD 1 .zero).num)).length
  else if op = 32 then 6 * wordsF (numF (l.getD 1 .zero))
  else if op = 55 ∨ op = 57 ∨ op = 62 then 3 * wordsF (numF (l.getD 2 .zero)) else 0
def spanF (op : Nat) (l : List Word) : List (Word × Word) :=
  if op = 32 ∨ op = 243 ∨ op = 253 then [(l.getD 0 .zero, l.getD 1 .zero)]
  else if op = 55 ∨ op = 57 ∨ op = 62 then [(l.getD 0 .zero, l.getD 2 .zero)]
  else if op = 81 ∨ op = 82 then [(l.getD 0 .zero, .nat 32)]
  else if op = 83 then [(l.getD 0 .zero, .nat 1)] else []
def tabF (op : Nat) : Bool := [0, 32, 53, 54, 55, 56, 57, 61, 62, 81, 82, 83, 86, 87, 88, 89, 90, 91, 243, 253].contains op
def foundF (op : Nat) : Bool := isC op || decide (95 ≤ op ∧ op ≤ 127) || tabF op
def localF (op : Nat) : Bool := foundF op || (infoN op).isNone || decide (op = 254)
def reachF (had : Nat) : List (Word × Word) → Option Nat
  | [] => some had
  | s :: r => match needF s.1 s.2 with
    | none => none
    | some n => reachF (max had n) r
def gasN (n : Nat) : Nat := ((infoN n).getD noRow).gas
def pushN' (n : Nat) : Nat := ((infoN n).getD noRow).pushes
def takeF (s : List Word) (op : Nat) : List Word × Int :=
  if infoN op = none ∨ op = 254 then ([], 42)
  else if (popL s (popsN op)).2.2 = 0 ∧ 1024 + popsN op < s.length + pushN' op then ([], 41)
  else ((popL s (popsN op)).2.1, (popL s (popsN op)).2.2)
def failF (f : Frm) (e : Int) : Frm := { f with status := 4, errno := e, gas := 0 }
def growF (m : List UInt8) (words : Nat) : List UInt8 := m ++ List.replicate (words * 32 - m.length) 0
def payF (f : Frm) (op : Nat) (more : Nat) (sp : List (Word × Word)) : Option Frm :=
  match reachF (f.mem.length / 32) sp with
  | none => none
  | some words =>
    if f.gas < (costF words : Int) - (costF (f.mem.length / 32) : Int) + (gasN op : Int) + (more : Int) then none
    else some { f with gas := f.gas - ((costF words : Int) - (costF (f.mem.length / 32) : Int) + (gasN op : Int) + (more : Int)), mem := growF f.mem words,
                       stack := if isC op then f.stack else f.stack.take (f.stack.length - popsN op), pc := f.pc + 1 }
def pieceF (m : List UInt8) (a : Word) (n : Nat) : List UInt8 := if n = 0 then [] else if numF a + n ≤ m.length then (m.drop (numF a)).take n else []
def partF (s : List UInt8) (a : Word) (n : Nat) : List UInt8 :=
  if 1048576 < n then [] else
    let t := if a.num < s.length then (s.drop a.num).take n else []
    t ++ List.replicate (n - t.length) 0
def putF (m : List UInt8) (at_ : Nat) (s : List UInt8) : List UInt8 := if s = [] then m else if at_ + s.length ≤ m.length then m.take at_ ++ s ++ m.drop (at_ + s.length) else m
def jumpF (f : Frm) (to : Nat) : Frm × Int := if (to : Int) ∈ jmL f.code then ({ f with pc := to }, 0) else (f, 44)
def pushF (f : Frm) (w : Word) : Frm × Int := ({ f with stack := f.stack ++ [w] }, 0)
def copyF (f : Frm) (s : List UInt8) (l : List Word) : Frm × Int := ({ f with mem := putF f.mem (numF (l.getD 0 .zero)) (partF s (l.getD 1 .zero) (numF (l.getD 2 .zero))) }, 0)
def endF (f : Frm) (status : Int) (l : List Word) : Frm × Int := ({ f with status := status, out := pieceF f.mem (l.getD 0 .zero) (numF (l.getD 1 .zero)), pc := f.pc - 1 }, 0)
def doF (hash : List UInt8 → List UInt8) (op : Nat) (f : Frm) (l : List Word) : Frm × Int :=
  if isC op then ({ f with stack := (doC op f.stack).1 }, 0)
  else if 95 ≤ op ∧ op ≤ 127 then ({ f with stack := f.stack ++ [opushL f.code (f.pc - 1) ((op - 95 : Nat) : Int)], pc := f.pc + ((op - 95 : Nat) : Int) }, 0)
  else if op = 0 then ({ f with status := 1, pc := f.pc - 1 }, 0)
  else if op = 32 then pushF f (wordB (hash (pieceF f.mem (l.getD 0 .zero) (numF (l.getD 1 .zero)))))
  else if op = 53 then pushF f (wordB (partF f.input (l.getD 0 .zero) 32))
  else if op = 54 then pushF f (.nat f.input.length)
  else if op = 55 then copyF f f.input l
  else if op = 56 then pushF f (.nat f.code.length)
  else if op = 57 then copyF f f.code l
  else if op = 61 then pushF f (.nat f.ret.length)
  else if op = 62 then (if f.ret.length < numF (l.getD 1 .zero) + numF (l.getD 2 .zero) then (f, 45) else copyF f f.ret l)
  else if op = 81 then pushF f (wordB (pieceF f.mem (l.getD 0 .zero) 32))
  else if op = 82 then ({ f with mem := putF f.mem (numF (l.getD 0 .zero)) (byN (l.getD 1 .zero).num) }, 0)
  else if op = 83 then ({ f with mem := putF f.mem (numF (l.getD 0 .zero)) [UInt8.ofNat ((l.getD 1 .zero).num % 256)] }, 0)
  else if op = 86 then jumpF f (numF (l.getD 0 .zero))
  else if op = 87 then (if l.getD 1 .zero = .zero then (f, 0) else jumpF f (numF (l.getD 0 .zero)))
  else if op = 88 then pushF f (.nat (f.pc - 1).toNat)
  else if op = 89 then pushF f (.nat f.mem.length)
  else if op = 90 then pushF f (.nat f.gas.toNat)
  else if op = 243 then endF f 2 l
  else if op = 253 then endF f 3 l
  else (f, 0)
def stepF (hash : List UInt8 → List UInt8) (f : Frm) (op : Nat) : Frm :=
  if (takeF f.stack op).2 ≠ 0 then failF f (takeF f.stack op).2
  else match payF f op (moreF op (takeF f.stack op).1) (spanF op (takeF f.stack op).1) with
    | none => failF f 43
    | some p => if (doF hash op p (takeF f.stack op).1).2 ≠ 0 then failF f (doF hash op p (takeF f.stack op).1).2 else (doF hash op p (takeF f.stack op).1).1
def stepL (hash : List UInt8 → List UInt8) (f : Frm) : Frm × Int :=
  if rightF f = false then (f, 1) else if f.status ≠ 0 then (f, 50) else if (f.code.length : Int) ≤ f.pc then ({ f with status := 1 }, 0)
  else if localF (f.code.getD f.pc.toNat 0).toNat = false then (f, 51) else (stepF hash f (f.code.getD f.pc.toNat 0).toNat, 0)
def runL (hash : List UInt8 → List UInt8) : Nat → Frm → Frm × Nat
  | 0, f => (f, 0)
  | m + 1, f => if (stepL hash f).2 ≠ 0 then (f, 0) else ((runL hash m (stepL hash f).1).1, (runL hash m (stepL hash f).1).2 + 1)
theorem runL_s (hash : List UInt8 → List UInt8) (m : Nat) (f : Frm) : runL hash (m + 1) f = if (stepL hash f).2 ≠ 0 then (f, 0) else ((runL hash m (stepL hash f).1).1, (runL hash m (stepL hash f).1).2 + 1) := rfl
end Go.Rail
