/- Frames: a round of the loop, and all of them. -/
import Derived.Test.YtpbbjkbackiljaaGreatDoorAFSP3
set_option linter.unusedSimpArgs false
set_option linter.unusedVariables false
namespace Go.Rail
open Go Go.Proofs
set_option maxHeartbeats 1000000
theorem lp_C (hash : List UInt8 → List UInt8) {op p q g n k : Nat} {st st2 : List Word} {mem : List UInt8} (o : opB op p q g true = true) (hk : k < 25) (hop : ((loopC n).getD k 0).toNat = op) (h3 : st.length ≤ 1000) (hp : p ≤ st.length) (hv : st.length + q ≤ 1024 + p) (hm : mem.length = 0 ∨ mem.length = 32)
    (hsp : ∀ l, spanF op l = []) (hmo : ∀ l, moreF op l = 0) (hd : (doC op st).1 = st2) : Way hash 1 g (lpF n k st mem) (lpF n ((k + 1 : Nat) : Int) st2 mem) := by
  obtain ⟨a1, a2, a3, a4, a5, a6, a7⟩ := opB_at o
  refine lp_step hash hk (by omega) hm hop a7 (takeF_eq a1 a2 a3 a4 (by omega) hp hv) (hsp _) (hmo _) a5 fun x => ?_
  rw [a6, if_pos rfl, doF_C hash a6 _ _ hd]
  rfl
theorem lp_push (hash : List UInt8 → List UInt8) {op g n k b : Nat} {st : List Word} {mem : List UInt8} (w : Word) (o : opB op 0 1 g false = true) (h1 : 95 ≤ op) (h2 : op ≤ 127) (hb : op - 95 = b) (hk : k < 25) (hop : ((loopC n).getD k 0).toNat = op) (h3 : st.length ≤ 1000) (hm : mem.length = 0 ∨ mem.length = 32)
    (hsp : ∀ l, spanF op l = []) (hmo : ∀ l, moreF op l = 0) (hw : opushL (loopC n) k b = w) : Way hash 1 g (lpF n k st mem) (lpF n ((k + 1 + b : Nat) : Int) (st ++ [w]) mem) := by
  obtain ⟨a1, a2, a3, a4, a5, a6, a7⟩ := opB_at o
  refine lp_step hash hk (by omega) hm hop a7 (takeF_eq a1 a2 a3 a4 (by omega) (Nat.zero_le _) (by omega)) (hsp _) (hmo _) a5 fun x => ?_
  rw [a6, if_neg (by decide), a3, Nat.sub_zero, List.take_length]
  unfold doF
  rw [a6, if_neg (by decide), if_pos ⟨h1, h2⟩, hb]
  dsimp only
  rw [show (k : Int) + 1 - 1 = k from by omega, hw, show ((k + 1 + b : Nat) : Int) = (k : Int) + 1 + b from by omega]
theorem pu0 (n : Nat) (k : Int) : opushL (loopC n) k 0 = .nat 0 := by unfold opushL; rw [if_pos (.inl (by decide))]; rfl
theorem pu1 {n b : Nat} (hb : b < 256) (k : Nat) (hk : k < 25) (h : ((loopC n).drop (k + 1)).take 1 = [UInt8.ofNat b]) : opushL (loopC n) k 1 = .nat b := by
  unfold opushL
  rw [if_neg (by rintro (h | h | h | h); (exact absurd h (by decide)); (exact absurd h (by decide)); omega; (have : (25 : Int) ≤ k := h; omega))]
  rw [show (k : Int).toNat = k from by omega, show (1 : Int).toNat = 1 from rfl, h]
  exact wordB_1 hb
theorem lp_jd (hash : List UInt8 → List UInt8) {n k : Nat} {st : List Word} {mem : List UInt8} (hk : k < 25) (hop : ((loopC n).getD k 0).toNat = 0x5b) (h3 : st.length ≤ 1000) (hm : mem.length = 0 ∨ mem.length = 32) : Way hash 1 1 (lpF n k st mem) (lpF n ((k + 1 : Nat) : Int) st mem) := by
  obtain ⟨a1, a2, a3, a4, a5, a6, a7⟩ := opB_at o5b
  refine lp_step hash hk (by omega) hm hop a7 (takeF_eq a1 a2 a3 a4 (by omega) (Nat.zero_le _) (by omega)) rfl rfl a5 fun x => ?_
  rw [a6, if_neg (by decide), a3, Nat.sub_zero, List.take_length]
  rfl
theorem lp_ji (hash : List UInt8 → List UInt8) {n r : Nat} {s : Word} (hn : n ≤ 60) (hr : r ≤ 60) : Way hash 1 10 (lpF n (17 : Nat) [s, .nat r, .nat r, .nat 4] []) (lpF n (if r = 0 then 18 else 4) [s, .nat r] []) := by
  obtain ⟨a1, a2, a3, a4, a5, a6, a7⟩ := opB_at o57
  refine lp_step hash (l := [.nat 4, .nat r]) (by decide) (show (4 : Nat) ≤ 1024 by decide) (.inl rfl) (op := 0x57) rfl a7 (takeF_eq a1 a2 a3 a4 (show (4 : Nat) ≤ 1024 by decide) (show (2 : Nat) ≤ 4 by decide) (show 4 + 0 ≤ 1024 + 2 by decide)) rfl rfl a5 fun x => ?_
  rw [a6, if_neg (by decide), a3]
  have e : ∀ f l, doF hash 0x57 f l = if l.getD 1 .zero = .zero then (f, 0) else jumpF f (numF (l.getD 0 .zero)) := fun f l => by kernel_rfl
  rw [e]
  have h4 : numF (Word.nat 4) = 4 := by kernel_rfl
  by_cases h0 : r = 0
  · subst h0
    rw [if_pos rfl, if_pos (show [Word.nat 4, Word.nat 0].getD 1 .zero = .zero from rfl)]
    rfl
  · rw [if_neg h0, if_neg (c := [Word.nat 4, Word.nat r].getD 1 .zero = .zero)]
    · show jumpF _ (numF (Word.nat 4)) = _
      rw [h4]
      unfold jumpF
      rw [if_pos (show ((4 : Nat) : Int) ∈ jmL (loopC n) from jm_at hn)]
      rfl
    · show ¬ Word.nat r = .zero
      intro h
      have := congrArg Word.num h
      rw [nat_num (by omega)] at this
      exact h0 this
theorem lp_round (hash : List UInt8 → List UInt8) {n s r : Nat} (hn : n ≤ 60) (hs : s < 900000) (hr : 1 ≤ r) (hr2 : r ≤ 60) :
    Way hash 11 38 (lpF n (4 : Nat) [.nat s, .nat r] []) (lpF n (if r - 1 = 0 then 18 else 4) [.nat (s + 3), .nat (r - 1)] []) := by
  have z : (2 : Nat) ≤ 1000 := by decide
  have z3 : (3 : Nat) ≤ 1000 := by decide
  have w1 := lp_jd hash (n := n) (k := 4) (st := [.nat s, .nat r]) (mem := []) (by decide) rfl z (.inl rfl)
  have w2 := lp_C hash (n := n) (k := 5) (st := [.nat s, .nat r]) (mem := []) o90 (by decide) rfl z (show (2 : Nat) ≤ 2 by decide) (show 2 + 2 ≤ 1024 + 2 by decide) (.inl rfl) (fun _ => rfl) (fun _ => rfl) (c90 _ _)
  have w3 := lp_push hash (n := n) (k := 6) (st := [.nat r, .nat s]) (mem := []) (.nat 3) o60 (by decide) (by decide) (b := 1) rfl (by decide) rfl z (.inl rfl) (fun _ => rfl) (fun _ => rfl) (pu1 (b := 3) (by decide) 6 (by decide) rfl)
  have w4 := lp_C hash (n := n) (k := 8) (st := [.nat r, .nat s, .nat 3]) (mem := []) o1 (by decide) rfl z3 (show (2 : Nat) ≤ 3 by decide) (show 3 + 1 ≤ 1024 + 2 by decide) (.inl rfl) (fun _ => rfl) (fun _ => rfl) ((c1' _ _ _).trans (by rw [addW_n (by omega) (by omega), Nat.add_comm]))
  have w5 := lp_C hash (n := n) (k := 9) (st := [.nat r, .nat (s + 3)]) (mem := []) o90 (by decide) rfl z (show (2 : Nat) ≤ 2 by decide) (show 2 + 2 ≤ 1024 + 2 by decide) (.inl rfl) (fun _ => rfl) (fun _ => rfl) (c90 _ _)
  have w6 := lp_push hash (n := n) (k := 10) (st := [.nat (s + 3), .nat r]) (mem := []) (.nat 1) o60 (by decide) (by decide) (b := 1) rfl (by decide) rfl z (.inl rfl) (fun _ => rfl) (fun _ => rfl) (pu1 (b := 1) (by decide) 10 (by decide) rfl)
  have w7 := lp_C hash (n := n) (k := 12) (st := [.nat (s + 3), .nat r, .nat 1]) (mem := []) o90 (by decide) rfl z3 (show (2 : Nat) ≤ 3 by decide) (show 3 + 2 ≤ 1024 + 2 by decide) (.inl rfl) (fun _ => rfl) (fun _ => rfl) (c90' _ _ _)
  have w8 := lp_C hash (n := n) (k := 13) (st := [.nat (s + 3), .nat 1, .nat r]) (mem := []) o3 (by decide) rfl z3 (show (2 : Nat) ≤ 3 by decide) (show 3 + 1 ≤ 1024 + 2 by decide) (.inl rfl) (fun _ => rfl) (fun _ => rfl) ((c3' _ _ _).trans (by rw [subW_n (by omega) hr]))
  have w9 := lp_C hash (n := n) (k := 14) (st := [.nat (s + 3), .nat (r - 1)]) (mem := []) o80 (by decide) rfl z (show (1 : Nat) ≤ 2 by decide) (show 2 + 2 ≤ 1024 + 1 by decide) (.inl rfl) (fun _ => rfl) (fun _ => rfl) (c80 _ _)
  have w10 := lp_push hash (n := n) (k := 15) (st := [.nat (s + 3), .nat (r - 1), .nat (r - 1)]) (mem := []) (.nat 4) o60 (by decide) (by decide) (b := 1) rfl (by decide) rfl z3 (.inl rfl) (fun _ => rfl) (fun _ => rfl) (pu1 (b := 4) (by decide) 15 (by decide) rfl)
  have w11 := lp_ji hash (n := n) (r := r - 1) (s := .nat (s + 3)) hn (by omega)
  exact (((((((((w1.trans w2).trans w3).trans w4).trans w5).trans w6).trans w7).trans w8).trans w9).trans w10).trans w11
theorem lp_rounds (hash : List UInt8 → List UInt8) {n : Nat} (hn : n ≤ 60) : ∀ (r s : Nat), 1 ≤ r → r ≤ 60 → s + 3 * r < 800000 →
    Way hash (11 * r) (38 * r) (lpF n (4 : Nat) [.nat s, .nat r] []) (lpF n (18 : Nat) [.nat (s + 3 * r), .nat 0] [])
  | 0, _, h, _, _ => absurd h (by decide)
  | 1, s, _, _, hs => lp_round hash hn (by omega) (Nat.le_refl 1) (by decide)
  | r + 2, s, _, hr, hs => by
    have w1 := lp_round hash (n := n) (s := s) (r := r + 2) hn (by omega) (by omega) hr
    rw [show r + 2 - 1 = r + 1 from by omega, if_neg (by omega)] at w1
    have w2 := lp_rounds hash hn (r + 1) (s + 3) (by omega) (by omega) (by omega)
    rw [show s + 3 + 3 * (r + 1) = s + 3 * (r + 2) from by omega] at w2
    have := w1.trans w2
    rwa [show 11 + 11 * (r + 1) = 11 * (r + 2) from by omega, show 38 + 38 * (r + 1) = 38 * (r + 2) from by omega] at this
theorem lp_mem (hash : List UInt8 → List UInt8) {n k op c words : Nat} {st l : List Word} {mem : List UInt8} {g : Int → Frm} (hk : k < 25) (h3 : st.length ≤ 1024) (hm : mem.length = 0 ∨ mem.length = 32) (hop : ((loopC n).getD k 0).toNat = op) (hl : localF op = true) (ht : takeF st op = (l, 0)) (hmo : moreF op l = 0) (hr : reachF (mem.length / 32) (spanF op l) = some words) (hc : costF words + gasN op = costF (mem.length / 32) + c)
    (hd : ∀ x, doF hash op ⟨loopC n, [], (k : Int) + 1, if isC op then st else st.take (st.length - popsN op), growF mem words, x, [], 0, 0, []⟩ l = (g x, 0)) : Way hash 1 c (lpF n k st mem) g := by
  refine Way.one fun x h0 h1 => ?_
  obtain ⟨a, b⟩ := step_gen hash (f := lpF n k st mem x) (op := op) (words := words) (l := l) (lp_Rt (by omega) (by omega) h3 hm h0 h1) rfl (by show (k : Int) < 25; omega) hop hl ht hr
  have e : needG (lpF n k st mem x) op words (moreF op l) = c := by
    show (costF words : Int) - (costF (mem.length / 32) : Int) + (gasN op : Int) + ((moreF op l : Nat) : Int) = c
    rw [hmo]
    omega
  have e2 : pdF (lpF n k st mem x) op words (moreF op l) = ⟨loopC n, [], (k : Int) + 1, if isC op then st else st.take (st.length - popsN op), growF mem words, x - c, [], 0, 0, []⟩ := by
    unfold pdF
    rw [e]
  rw [e] at a b
  rw [e2] at b
  exact ⟨a, fun hx => b hx _ (hd _)⟩
abbrev lpEnd (n : Nat) (x : Int) : Frm := ⟨loopC n, [], 24, [], byN (3 * n), x, [], 2, 0, byN (3 * n)⟩
theorem lp_end (hash : List UInt8 → List UInt8) {n : Nat} (hn : n ≤ 60) : Way hash 6 15 (lpF n (18 : Nat) [.nat (3 * n), .nat 0] []) (lpEnd n) := by
  have z : (2 : Nat) ≤ 1000 := by decide
  have z1 : (1 : Nat) ≤ 1000 := by decide
  have z0 : (0 : Nat) ≤ 1000 := by decide
  have hb := byN_len (3 * n)
  have hbm : (byN (3 * n)).length = 0 ∨ (byN (3 * n)).length = 32 := .inr hb
  have w1 := lp_C hash (n := n) (k := 18) (st := [.nat (3 * n), .nat 0]) (mem := []) o50 (by decide) rfl z (show (1 : Nat) ≤ 2 by decide) (show 2 + 0 ≤ 1024 + 1 by decide) (.inl rfl) (fun _ => rfl) (fun _ => rfl) (c50 _ _)
  have w2 := lp_push hash (n := n) (k := 19) (st := [.nat (3 * n)]) (mem := []) (.nat 0) o5f (by decide) (by decide) (b := 0) rfl (by decide) rfl z1 (.inl rfl) (fun _ => rfl) (fun _ => rfl) (pu0 _ _)
  obtain ⟨a1, a2, a3, a4, a5, a6, a7⟩ := opB_at o52
  have w3 : Way hash 1 6 (lpF n (20 : Nat) [.nat (3 * n), .nat 0] []) (lpF n (21 : Nat) [] (byN (3 * n))) := by
    refine lp_mem hash (words := 1) (l := [.nat 0, .nat (3 * n)]) (by decide) (show (2 : Nat) ≤ 1024 by decide) (.inl rfl) (op := 0x52) rfl a7 (takeF_eq a1 a2 a3 a4 (show (2 : Nat) ≤ 1024 by decide) (show (2 : Nat) ≤ 2 by decide) (show 2 + 0 ≤ 1024 + 2 by decide)) rfl (by kernel_rfl) (by rw [a5]; rfl) fun x => ?_
    rw [a6, if_neg (by decide), a3]
    have e : ∀ f l, doF hash 0x52 f l = ({ f with mem := putF f.mem (numF (l.getD 0 .zero)) (byN (l.getD 1 .zero).num) }, 0) := fun f l => by kernel_rfl
    rw [e]
    have h0 : numF (Word.nat 0) = 0 := by kernel_rfl
    have hg : growF [] 1 = List.replicate 32 0 := by kernel_rfl
    have hp : putF (growF [] 1) (numF ([Word.nat 0, Word.nat (3 * n)].getD 0 .zero)) (byN ([Word.nat 0, Word.nat (3 * n)].getD 1 .zero).num) = byN (3 * n) := by
      show putF (growF [] 1) (numF (Word.nat 0)) (byN (Word.nat (3 * n)).num) = _
      rw [h0, hg, nat_num (by omega)]
      unfold putF
      rw [if_neg (fun h => by rw [h] at hb; cases hb), if_pos (by rw [hb, List.length_replicate]; decide), hb]
      simp
    show (({ .. } : Frm), (0 : Int)) = _
    rw [hp]
    rfl
  have w4 := lp_push hash (n := n) (k := 21) (st := []) (mem := byN (3 * n)) (.nat 32) o60 (by decide) (by decide) (b := 1) rfl (by decide) rfl z0 hbm (fun _ => rfl) (fun _ => rfl) (pu1 (b := 32) (by decide) 21 (by decide) rfl)
  have w5 := lp_push hash (n := n) (k := 23) (st := [.nat 32]) (mem := byN (3 * n)) (.nat 0) o5f (by decide) (by decide) (b := 0) rfl (by decide) rfl z1 hbm (fun _ => rfl) (fun _ => rfl) (pu0 _ _)
  obtain ⟨a1, a2, a3, a4, a5, a6, a7⟩ := opB_at of3
  have w6 : Way hash 1 0 (lpF n (24 : Nat) [.nat 32, .nat 0] (byN (3 * n))) (lpEnd n) := by
    refine lp_mem hash (words := 1) (l := [.nat 0, .nat 32]) (by decide) (show (2 : Nat) ≤ 1024 by decide) hbm (op := 0xf3) rfl a7 (takeF_eq a1 a2 a3 a4 (show (2 : Nat) ≤ 1024 by decide) (show (2 : Nat) ≤ 2 by decide) (show 2 + 0 ≤ 1024 + 2 by decide)) rfl (by rw [hb]; kernel_rfl) (by rw [a5, hb]) fun x => ?_
    rw [a6, if_neg (by decide), a3]
    have e : ∀ f l, doF hash 0xf3 f l = endF f 2 l := fun f l => by kernel_rfl
    rw [e]
    unfold endF
    have h0 : numF (Word.nat 0) = 0 := by kernel_rfl
    have h32 : numF (Word.nat 32) = 32 := by kernel_rfl
    have hg : growF (byN (3 * n)) 1 = byN (3 * n) := by
      have := growF_same (byN (3 * n)) (by rw [hb])
      rwa [hb] at this
    have hp : pieceF (byN (3 * n)) (Word.nat 0) (numF (Word.nat 32)) = byN (3 * n) := by
      rw [h32]
      unfold pieceF
      rw [if_neg (by decide), h0, if_pos (by rw [hb]; decide), List.drop_zero, List.take_of_length_le (by rw [hb]; exact Nat.le_refl _)]
    rw [hg]
    show (({ .. } : Frm), (0 : Int)) = _
    rw [show pieceF (byN (3 * n)) ([Word.nat 0, Word.nat 32].getD 0 .zero) (numF ([Word.nat 0, Word.nat 32].getD 1 .zero)) = byN (3 * n) from hp]
    rfl
  exact ((((w1.trans w2).trans w3).trans w4).trans w5).trans w6
theorem lp_begin (hash : List UInt8 → List UInt8) {n : Nat} (hn : n ≤ 60) : Way hash 3 6 (lpF n (0 : Nat) [] []) (lpF n (4 : Nat) [.nat 0, .nat n] []) := by
  have z2 : (2 : Nat) ≤ 1000 := by decide
  have z1 : (1 : Nat) ≤ 1000 := by decide
  have z0 : (0 : Nat) ≤ 1000 := by decide
  have w1 := lp_push hash (n := n) (k := 0) (st := []) (mem := []) (.nat 0) o5f (by decide) (by decide) (b := 0) rfl (by decide) rfl z0 (.inl rfl) (fun _ => rfl) (fun _ => rfl) (pu0 _ _)
  have w2 := lp_push hash (n := n) (k := 1) (st := [.nat 0]) (mem := []) (.nat n) o60 (by decide) (by decide) (b := 1) rfl (by decide) rfl z1 (.inl rfl) (fun _ => rfl) (fun _ => rfl) (pu1 (b := n) (by omega) 1 (by decide) rfl)
  have w3 := lp_jd hash (n := n) (k := 3) (st := [.nat 0, .nat n]) (mem := []) (by decide) rfl z2 (.inl rfl)
  exact (w1.trans w2).trans w3
theorem lp_way (hash : List UInt8 → List UInt8) {n : Nat} (h1 : 1 ≤ n) (hn : n ≤ 60) : Way hash (3 + 11 * n + 6) (6 + 38 * n + 15) (lpF n (0 : Nat) [] []) (lpEnd n) := by
  have w := lp_rounds hash hn n 0 h1 hn (by omega)
  rw [Nat.zero_add] at w
  exact ((lp_begin hash hn).trans w).trans (lp_end hash hn)
theorem lp_run (hash : List UInt8 → List UInt8) {n : Nat} (h1 : 1 ≤ n) (hn : n ≤ 60) {x : Int} (h0 : 0 ≤ x) (hx : x ≤ 4000) :
    ((21 + 38 * n : Int) ≤ x → runL hash 5000 (lpF n 0 [] [] x) = (lpEnd n (x - (21 + 38 * n)), 9 + 11 * n)) ∧ (x < 21 + 38 * n → (runL hash 5000 (lpF n 0 [] [] x)).1.status = 4 ∧ (runL hash 5000 (lpF n 0 [] [] x)).1.errno = 43 ∧ (runL hash 5000 (lpF n 0 [] [] x)).1.gas = 0) := by
  obtain ⟨a, b⟩ := (lp_way hash h1 hn).stop (fun _ => by show (2 : Int) ≠ 0; decide) x h0 (by omega) 5000 (by omega)
  refine ⟨fun h => ?_, fun h => b (by omega)⟩
  have := a (by omega)
  rw [show x - ((6 + 38 * n + 15 : Nat) : Int) = x - (21 + 38 * n) from by omega, show 3 + 11 * n + 6 = 9 + 11 * n from by omega] at this
  exact this
end Go.Rail
