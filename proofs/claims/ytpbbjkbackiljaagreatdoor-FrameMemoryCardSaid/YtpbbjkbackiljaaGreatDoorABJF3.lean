/- Words out of bytes, and what an opcode pushes. -/
import Derived.Test.YtpbbjkbackiljaaGreatDoorABID2
import Derived.Test.YtpbbjkbackiljaaGreatDoorAC17C19
import Derived.Test.YtpbbjkbackiljaaGreatDoorAC14C10
set_option linter.unusedSimpArgs false
set_option linter.unusedVariables false
namespace Go.Rail
open Go Go.Proofs
set_option maxHeartbeats 400000
set_option maxRecDepth 4000
attribute [local irreducible] OpK G W LW wpListIn Exit.then Exit.inBlock Post rounds opRun bodyPostM intOp
set_option maxHeartbeats 4000000
def byG (l : List UInt8) (k : Nat) : Nat := (l.reverse.getD k 0).toNat
def wordB (l : List UInt8) : Word := Word.nat (sumB 256 (byG l) 32)
theorem byG_lt (l : List UInt8) (k : Nat) : byG l k < 256 := (l.reverse.getD k 0).toNat_lt
theorem byG_zero (l : List UInt8) (k : Nat) (h : l.length ≤ k) : byG l k = 0 := by
  unfold byG
  rw [List.getD_eq_getElem?_getD, List.getElem?_eq_none (by rw [List.length_reverse]; exact h)]; rfl
def pF (g : Nat → Nat) (i j : Nat) : Nat := sumB 256 (fun k => g (8 * j + k)) (min 8 (i - 8 * j))
theorem pF_step (g : Nat → Nat) (m : Nat) : pF g (m + 1) = fun j => if j = m / 8 then pF g m (m / 8) + g m * 256 ^ (m % 8) else pF g m j := by
  funext j
  by_cases h : j = m / 8
  · subst h
    rw [if_pos rfl]
    unfold pF
    rw [show min 8 (m + 1 - 8 * (m / 8)) = m % 8 + 1 from by omega, show min 8 (m - 8 * (m / 8)) = m % 8 from by omega, sumB, show 8 * (m / 8) + m % 8 = m from by omega]
  · rw [if_neg h]
    unfold pF
    congr 1
    omega
theorem sumB_nil {b : Nat} {f : Nat → Nat} : ∀ {n : Nat}, (∀ i < n, f i = 0) → sumB b f n = 0
  | 0, _ => rfl
  | n + 1, h => by simp only [sumB]; rw [sumB_nil (fun i hi => h i (by omega)), h n (by omega)]; omega
theorem pF_all (g : Nat → Nat) (n : Nat) (hz : ∀ k, n ≤ k → k < 32 → g k = 0) (j : Nat) (hj : j < 4) : pF g n j = stF g 0 j := by
  unfold pF stF
  rw [Nat.zero_max, show 8 * j + 8 - 8 * j = min 8 (n - 8 * j) + (8 - min 8 (n - 8 * j)) from by omega, sumB_split, sumB_nil (n := 8 - min 8 (n - 8 * j)) (fun i hi => hz _ (by omega) (by omega))]
  omega
theorem pF_lt {g : Nat → Nat} (hg : ∀ i < 32, g i < 256) {m : Nat} (hm : m < 32) : pF g m (m / 8) < 256 ^ (m % 8) := by
  unfold pF
  rw [show min 8 (m - 8 * (m / 8)) = m % 8 from by omega]
  exact sumB_lt (by decide) (fun i hi => hg _ (by omega))
theorem or_top (a b k : Nat) (hk : k < 8) (ha : a < 256 ^ k) (hb : b < 256) : a ||| b * 2 ^ (k * 8) % 18446744073709551616 = a + b * 256 ^ k := by
  have e : (2 : Nat) ^ (k * 8) = 256 ^ k := by rw [Nat.mul_comm, Nat.pow_mul]
  have h1 : (256 : Nat) ^ k ≤ 256 ^ 7 := Nat.pow_le_pow_right (by decide) (by omega)
  have h2 : b * 256 ^ k ≤ 255 * 256 ^ 7 := Nat.mul_le_mul (by omega) h1
  have h3 : (255 : Nat) * 256 ^ 7 < 18446744073709551616 := by decide
  rw [e, Nat.mod_eq_of_lt (by omega), Nat.or_comm, ← e, Nat.mul_comm b]
  rw [← e] at ha
  rw [← Nat.two_pow_add_eq_or_of_lt ha, Nat.add_comm]
theorem cU_congr {n : Nat} {f g : Nat → Nat} (h : ∀ i < n, f i = g i) : cU n f = cU n g := by
  unfold cU
  exact List.map_congr_left fun i hi => by rw [h i (List.mem_range.1 hi)]
theorem wfb_spec (l : List UInt8) (hl : l.length ≤ 1000000) : FnV Tryz.prog 92 [.string (ba l)] [] (wordB l).v := by
  refine Fn.enter Tryz.func92 rfl Tryz.ntmps92 (by simp) (fun I0 w0 => ?_)
  repeat (first | (refine sty ?_; try intro _) | (refine st ?_; try intro _) | (refine stz ?_; try intro _) | (refine stq ?_; try intro _))
  refine o_toB rfl rfl rfl ?_
  intro v1
  repeat (first | (refine sty ?_; try intro _) | (refine st ?_; try intro _) | (refine stz ?_; try intro _) | (refine stq ?_; try intro _))
  refine o_callD rfl rfl rfl rfl (last8_spec _ l hl) ?_
  intro v2
  repeat (first | (refine sty ?_; try intro _) | (refine st ?_; try intro _) | (refine stz ?_; try intro _) | (refine stq ?_; try intro _))
  refine o_callD rfl rfl rfl rfl (reversed8_spec _ (l.drop (l.length - 32)) (by rw [List.length_drop]; omega)) ?_
  intro v3
  have htl : (l.drop (l.length - 32)).reverse.length ≤ 32 := by rw [List.length_reverse, List.length_drop]; omega
  have hte : ∀ k, k < (l.drop (l.length - 32)).reverse.length → ((l.drop (l.length - 32)).reverse.getD k 0).toNat = byG l k := by
    intro k hk
    unfold byG
    rw [List.length_reverse, List.length_drop] at hk
    rw [List.getD_eq_getElem?_getD, List.getD_eq_getElem?_getD, List.getElem?_reverse (by rw [List.length_drop]; exact hk), List.getElem?_drop, List.length_drop, List.getElem?_reverse (by omega)]
    congr 3; omega
  have hz : ∀ k, (l.drop (l.length - 32)).reverse.length ≤ k → k < 32 → byG l k = 0 := fun k h1 h2 => byG_zero l k (by rw [List.length_reverse, List.length_drop] at h1; omega)
  generalize (l.drop (l.length - 32)).reverse = t at htl hte hz ⊢
  dsimp only [List.cons_append, List.nil_append]
  refine G.slice v3 t ?_; intro ad cap e1 k1; subst e1
  repeat (first | (refine sty ?_; try intro _) | (refine st ?_; try intro _) | (refine stz ?_; try intro _) | (refine stq ?_; try intro _))
  rename_i b2
  refine W.lp (S := Nat) (fun i => ([fRp (.slice ad t.length cap) t], [(10, .int .i64 (i : Int)), (9, .int .i64 (t.length : Int)), (8, .slice ad t.length cap), (2, .pointer (some ⟨b2, 0, none⟩))], [(b2, Ob (cU 4 (pF (byG l) i)) 49)])) (fun i => i ≤ t.length) (fun i => t.length - i) 0 ?_ (h0 := Nat.zero_le _)
  intro i hi
  dsimp only
  by_cases hie : i = t.length
  · subst hie
    repeat (first | (refine sty ?_; try intro _) | (refine st ?_; try intro _) | (refine stz ?_; try intro _) | (refine stq ?_; try intro _))
    refine G.retV ?_
    refine (congrArg (fun q => Value.agg q.toArray) (cU_congr (g := stF (byG l) 0) (fun j hj => pF_all _ _ hz j hj))).trans ?_
    exact stF_word _ (fun i _ => byG_lt l i)
  · have h1 := pF_lt (g := byG l) (fun i _ => byG_lt l i) (m := i) (by omega)
    have h2 := byG_lt l i
    have h3 := or_top (pF (byG l) i (i / 8)) (byG l i) (i % 8) (Nat.mod_lt _ (by decide)) h1 h2
    have h4 : (256 : Nat) ^ (i % 8) ≤ 256 ^ 7 := Nat.pow_le_pow_right (by decide) (by omega)
    have hg : t[i]? = some (t.getD i 0) := by rw [List.getD_eq_getElem?_getD, List.getElem?_eq_getElem (by omega)]; rfl
    have hb := hte i (by omega)
    generalize t.getD i 0 = ch at hg hb
    obtain ⟨hlt, he⟩ := List.getElem?_eq_some_iff.1 hg
    repeat (first | (refine sty ?_; try intro _) | (refine st ?_; try intro _) | (refine stz ?_; try intro _) | (refine stq ?_; try intro _))
    refine W.drawA 10 [dq _, dq _, dq _, dq _, dq _, dq _, dq _, dq _, dq _, dq _] [[], [0], [1], [2], [], [4], [], [6], [7], [5,8]] [1, 3, 9] (hrest := fun c => nrm ?_) (hops := by
      iterate 10 refine AllQ.aq ?_
      exact AllQ.nil)
    repeat (first | (refine sty ?_; try intro _) | (refine st ?_; try intro _) | (refine stz ?_; try intro _) | (refine stq ?_; try intro _))
    have hu : (u64 (ch.toNat : Int)).toNat = byG l i := by
      have := u64_toNat (ch.toNat : Int)
      rw [hb] at this ⊢
      omega
    rw [he, hu, h3, ← pF_step]
    exact G.ag (i + 1)
theorem own_open {n : Nat} {v : Value} {k : Nat} {o : OR} (h : IsOwn n v k o) : ∃ a c, v = .slice a k c := by
  cases o with
  | none => obtain ⟨rfl, rfl⟩ := h; exact ⟨_, _, rfl⟩
  | some q => obtain ⟨b, cs⟩ := q; obtain ⟨cap, rfl, _⟩ := h; exact ⟨_, _, rfl⟩
def opushL (l : List UInt8) (pc n : Int) : Word :=
  if n < 1 ∨ 32 < n ∨ pc < 0 ∨ (l.length : Int) ≤ pc then .zero else wordB ((l.drop (pc.toNat + 1)).take n.toNat ++ List.replicate (n.toNat - ((l.drop (pc.toNat + 1)).take n.toNat).length) 0)
theorem opush_spec (l : List UInt8) (pc n : Int) (hl : l.length ≤ 1000000) : FnV Tryz.prog 59 [.string (ba l), .int .i64 pc, .int .i64 n] [] (opushL l pc n).v := by
  unfold opushL
  by_cases h1 : n < 1
  · rw [if_pos (.inl h1)]
    refine Fn.enter Tryz.func59 rfl Tryz.ntmps59 (by simp) (fun I0 w0 => ?_)
    repeat (first | (refine sty ?_; try intro _) | (refine st ?_; try intro _) | (refine stz ?_; try intro _) | (refine stq ?_; try intro _))
    refine G.retV ?_
    rfl
  by_cases h2 : 32 < n
  · rw [if_pos (.inr (.inl h2))]
    refine Fn.enter Tryz.func59 rfl Tryz.ntmps59 (by simp) (fun I0 w0 => ?_)
    repeat (first | (refine sty ?_; try intro _) | (refine st ?_; try intro _) | (refine stz ?_; try intro _) | (refine stq ?_; try intro _))
    refine G.retV ?_
    rfl
  by_cases h3 : pc < 0
  · rw [if_pos (.inr (.inr (.inl h3)))]
    refine Fn.enter Tryz.func59 rfl Tryz.ntmps59 (by simp) (fun I0 w0 => ?_)
    repeat (first | (refine sty ?_; try intro _) | (refine st ?_; try intro _) | (refine stz ?_; try intro _) | (refine stq ?_; try intro _))
    refine G.retV ?_
    rfl
  by_cases h4 : (l.length : Int) ≤ pc
  · rw [if_pos (.inr (.inr (.inr h4)))]
    refine Fn.enter Tryz.func59 rfl Tryz.ntmps59 (by simp) (fun I0 w0 => ?_)
    repeat (first | (refine sty ?_; try intro _) | (refine st ?_; try intro _) | (refine stz ?_; try intro _) | (refine stq ?_; try intro _))
    refine G.retV ?_
    rfl
  rw [if_neg (by omega)]
  obtain ⟨p, rfl⟩ : ∃ p : Nat, pc = (p : Int) := ⟨pc.toNat, by omega⟩
  obtain ⟨m, rfl⟩ : ∃ m : Nat, n = (m : Int) := ⟨n.toNat, by omega⟩
  rw [Int.toNat_natCast, Int.toNat_natCast]
  have hdl : (l.drop (p + 1)).length = l.length - (p + 1) := List.length_drop ..
  have htl : ((l.drop (p + 1)).take m).length = min m (l.length - (p + 1)) := by rw [List.length_take, hdl]
  have hrp := repeat_spec (m - ((l.drop (p + 1)).take m).length) (by omega)
  have hwf := wfb_spec ((l.drop (p + 1)).take m ++ List.replicate (m - ((l.drop (p + 1)).take m).length) 0) (by rw [List.length_append, List.length_replicate]; omega)
  refine Fn.enter Tryz.func59 rfl Tryz.ntmps59 (by simp) (fun I0 w0 => ?_)
  repeat (first | (refine sty ?_; try intro _) | (refine st ?_; try intro _) | (refine stz ?_; try intro _) | (refine stq ?_; try intro _))
  have hlen : ((l.take l.length).drop (p + 1)).length = l.length - (p + 1) := by rw [List.take_length, hdl]
  have e : ((((l.take l.length).drop (p + 1)).take (min m (l.length - (p + 1)))).drop 0) = (l.drop (p + 1)).take m := by
    rw [List.take_length, List.drop_zero, List.take_eq_take_iff, hdl]; omega
  refine o_slT 0 (min m (l.length - (p + 1))) rfl rfl rfl bd0 ⟨_, _, rfl, by rw [hlen]; split <;> omega⟩ (Nat.zero_le _) (by rw [hlen]; omega) ?_
  rw [e]
  generalize (l.drop (p + 1)).take m = t at htl hrp hwf ⊢
  repeat (first | (refine sty ?_; try intro _) | (refine st ?_; try intro _) | (refine stz ?_; try intro _) | (refine stq ?_; try intro _))
  refine o_callV rfl rfl rfl rfl hrp rfl ?_
  repeat (first | (refine sty ?_; try intro _) | (refine st ?_; try intro _) | (refine stz ?_; try intro _) | (refine stq ?_; try intro _))
  refine o_callV rfl rfl rfl rfl hwf rfl ?_
  repeat (first | (refine sty ?_; try intro _) | (refine st ?_; try intro _) | (refine stz ?_; try intro _) | (refine stq ?_; try intro _))
  refine G.retV ?_
  rfl
end Go.Rail
namespace Go.Rail
open Go Go.Proofs
structure Frm where
  code : List UInt8
  input : List UInt8
  pc : Int
  stack : List Word
  mem : List UInt8
  gas : Int
  ret : List UInt8
  status : Int
  errno : Int
  out : List UInt8
abbrev frmV (f : Frm) (sv : Value) : Value := .agg [.string (ba f.code), .string (ba f.input), .int .i64 f.pc, sv, .string (ba f.mem), .int .i64 f.gas, .string (ba f.ret), .int .i64 f.status, .int .i64 f.errno, .string (ba f.out)].toArray
def rightF (f : Frm) : Bool := decide (f.code.length ≤ 49152 ∧ f.input.length ≤ 1048576 ∧ f.ret.length ≤ 1048576 ∧ f.out.length ≤ 1048576 ∧ 0 ≤ f.pc ∧ f.pc ≤ 9007199254740992 ∧ 0 ≤ f.gas ∧ f.gas ≤ 2000000 ∧
  f.stack.length ≤ 1024 ∧ f.mem.length ≤ 1048576 ∧ f.mem.length % 32 = 0 ∧ 0 ≤ f.status ∧ f.status ≤ 4 ∧ (f.errno ≠ 0 ↔ f.status = 4) ∧ (f.out = [] ∨ f.status = 2 ∨ f.status = 3))
def numF (w : Word) : Nat := min w.num 1099511627776
def costF (n : Nat) : Nat := 3 * min n 32768 + min n 32768 * min n 32768 / 512
def needF (a n : Word) : Option Nat := if n = .zero then some 0 else if (addW a n).num ≤ 1048576 ∧ a.num ≤ (addW a n).num then some (((addW a n).num + 31) / 32) else none
def manyF (n : Nat) : Nat := min n 1048576
def wordsF (n : Nat) : Nat := (manyF n + 31) / 32
def trimF (l : List UInt8) : List UInt8 := l.dropWhile (· == 0)
def moreF (op : Nat) (l : List Word) : Nat :=
  if op = 10 then 50 * (trimF (byN (l.getD 1 .zero).num)).length
  else if op = 32 then 6 * wordsF (numF (l.getD 1 .zero))
  else if op = 55 ∨ op = 57 ∨ op = 62 then 3 * wordsF (numF (l.getD 2 .zero)) else 0
def spanF (op : Nat) (l : List Word) : List (Word × Word) :=
  if op = 32 ∨ op = 243 ∨ op = 253 then [(l.getD 0 .zero, l.getD 1 .zero)]
  else if op = 55 ∨ op = 57 ∨ op = 62 then [(l.getD 0 .zero, l.getD 2 .zero)]
  else if op = 81 ∨ op = 82 then [(l.getD 0 .zero, .nat 32)]
  else if op = 83 then [(l.getD 0 .zero, .nat 1)] else []
def tabF (op : Nat) : Bool := [0, 32, 53, 54, 55, 56, 57, 61, 62, 81, 82, 83, 86, 87, 88, 89, 90, 91, 243, 253].contains op
def foundF (op : Nat) : Bool := isC op || decide (95 ≤ op ∧ op ≤ 127) || tabF op
def localF (op : Nat) : Bool := foundF op || (infoN op).isNone || decide (op = 254)
def reachF (had : Nat) : List (Word × Word) → Option Nat
  | [] => some had
  | s :: r => match needF s.1 s.2 with
    | none => none
    | some n => reachF (max had n) r
def gasN (n : Nat) : Nat := ((infoN n).getD noRow).gas
def pushN' (n : Nat) : Nat := ((infoN n).getD noRow).pushes
def takeF (s : List Word) (op : Nat) : List Word × Int :=
  if infoN op = none ∨ op = 254 then ([], 42)
  else if (popL s (popsN op)).2.2 = 0 ∧ 1024 + popsN op < s.length + pushN' op then ([], 41)
  else ((popL s (popsN op)).2.1, (popL s (popsN op)).2.2)
def failF (f : Frm) (e : Int) : Frm := { f with status := 4, errno := e, gas := 0 }
def growF (m : List UInt8) (words : Nat) : List UInt8 := m ++ List.replicate (words * 32 - m.length) 0
def payF (f : Frm) (op : Nat) (more : Nat) (sp : List (Word × Word)) : Option Frm :=
  match reachF (f.mem.length / 32) sp with
  | none => none
  | some words =>
    if f.gas < (costF words : Int) - (costF (f.mem.length / 32) : Int) + (gasN op : Int) + (more : Int) then none
    else some { f with gas := f.gas - ((costF words : Int) - (costF (f.mem.length / 32) : Int) + (gasN op : Int) + (more : Int)), mem := growF f.mem words,
                       stack := if isC op then f.stack else f.stack.take (f.stack.length - popsN op), pc := f.pc + 1 }
def pieceF (m : List UInt8) (a : Word) (n : Nat) : List UInt8 := if n = 0 then [] else if numF a + n ≤ m.length then (m.drop (numF a)).take n else []
def partF (s : List UInt8) (a : Word) (n : Nat) : List UInt8 :=
  if 1048576 < n then [] else
    let t := if a.num < s.length then (s.drop a.num).take n else []
    t ++ List.replicate (n - t.length) 0
def putF (m : List UInt8) (at_ : Nat) (s : List UInt8) : List UInt8 := if s = [] then m else if at_ + s.length ≤ m.length then m.take at_ ++ s ++ m.drop (at_ + s.length) else m
def jumpF (f : Frm) (to : Nat) : Frm × Int := if (to : Int) ∈ jmL f.code then ({ f with pc := to }, 0) else (f, 44)
def pushF (f : Frm) (w : Word) : Frm × Int := ({ f with stack := f.stack ++ [w] }, 0)
def copyF (f : Frm) (s : List UInt8) (l : List Word) : Frm × Int := ({ f with mem := putF f.mem (numF (l.getD 0 .zero)) (partF s (l.getD 1 .zero) (numF (l.getD 2 .zero))) }, 0)
def endF (f : Frm) (status : Int) (l : List Word) : Frm × Int := ({ f with status := status, out := pieceF f.mem (l.getD 0 .zero) (numF (l.getD 1 .zero)), pc := f.pc - 1 }, 0)
def doF (hash : List UInt8 → List UInt8) (op : Nat) (f : Frm) (l : List Word) : Frm × Int :=
  if isC op then ({ f with stack := (doC op f.stack).1 }, 0)
  else if 95 ≤ op ∧ op ≤ 127 then ({ f with stack := f.stack ++ [opushL f.code (f.pc - 1) ((op - 95 : Nat) : Int)], pc := f.pc + ((op - 95 : Nat) : Int) }, 0)
  else if op = 0 then ({ f with status := 1, pc := f.pc - 1 }, 0)
  else if op = 32 then pushF f (wordB (hash (pieceF f.mem (l.getD 0 .zero) (numF (l.getD 1 .zero)))))
  else if op = 53 then pushF f (wordB (partF f.input (l.getD 0 .zero) 32))
  else if op = 54 then pushF f (.nat f.input.length)
  else if op = 55 then copyF f f.input l
  else if op = 56 then pushF f (.nat f.code.length)
  else if op = 57 then copyF f f.code l
  else if op = 61 then pushF f (.nat f.ret.length)
  else if op = 62 then (if f.ret.length < numF (l.getD 1 .zero) + numF (l.getD 2 .zero) then (f, 45) else copyF f f.ret l)
  else if op = 81 then pushF f (wordB (pieceF f.mem (l.getD 0 .zero) 32))
  else if op = 82 then ({ f with mem := putF f.mem (numF (l.getD 0 .zero)) (byN (l.getD 1 .zero).num) }, 0)
  else if op = 83 then ({ f with mem := putF f.mem (numF (l.getD 0 .zero)) [UInt8.ofNat ((l.getD 1 .zero).num % 256)] }, 0)
  else if op = 86 then jumpF f (numF (l.getD 0 .zero))
  else if op = 87 then (if l.getD 1 .zero = .zero then (f, 0) else jumpF f (numF (l.getD 0 .zero)))
  else if op = 88 then pushF f (.nat (f.pc - 1).toNat)
  else if op = 89 then pushF f (.nat f.mem.length)
  else if op = 90 then pushF f (.nat f.gas.toNat)
  else if op = 243 then endF f 2 l
  else if op = 253 then endF f 3 l
  else (f, 0)
def stepF (hash : List UInt8 → List UInt8) (f : Frm) (op : Nat) : Frm :=
  if (takeF f.stack op).2 ≠ 0 then failF f (takeF f.stack op).2
  else match payF f op (moreF op (takeF f.stack op).1) (spanF op (takeF f.stack op).1) with
    | none => failF f 43
    | some p => if (doF hash op p (takeF f.stack op).1).2 ≠ 0 then failF f (doF hash op p (takeF f.stack op).1).2 else (doF hash op p (takeF f.stack op).1).1
def stepL (hash : List UInt8 → List UInt8) (f : Frm) : Frm × Int :=
  if rightF f = false then (f, 1) else if f.status ≠ 0 then (f, 50) else if (f.code.length : Int) ≤ f.pc then ({ f with status := 1 }, 0)
  else if localF (f.code.getD f.pc.toNat 0).toNat = false then (f, 51) else (stepF hash f (f.code.getD f.pc.toNat 0).toNat, 0)
def runL (hash : List UInt8 → List UInt8) : Nat → Frm → Frm × Nat
  | 0, f => (f, 0)
  | m + 1, f => if (stepL hash f).2 ≠ 0 then (f, 0) else ((runL hash m (stepL hash f).1).1, (runL hash m (stepL hash f).1).2 + 1)
theorem runL_s (hash : List UInt8 → List UInt8) (m : Nat) (f : Frm) : runL hash (m + 1) f = if (stepL hash f).2 ≠ 0 then (f, 0) else ((runL hash m (stepL hash f).1).1, (runL hash m (stepL hash f).1).2 + 1) := rfl
end Go.Rail
namespace Go.Rail
open Go Go.Proofs
set_option maxHeartbeats 400000
set_option maxRecDepth 4000
attribute [local irreducible] OpK G W LW wpListIn Exit.then Exit.inBlock Post rounds opRun bodyPostM intOp
set_option maxHeartbeats 2000000
theorem gwithin_spec (x : Nat) : FnV Tryz.prog 318 [.int .i64 (x : Int), .int .i64 0, .int .i64 1048576] [] (.int .i64 ((min x 1048576 : Nat) : Int)) := by
  refine Fn.enter Tryz.func318 rfl Tryz.ntmps318 (by simp) (fun I0 w0 => ?_)
  by_cases h : x ≤ 1048576
  · rw [Nat.min_eq_left h]
    repeat (first | (refine sty ?_; try intro _) | (refine st ?_; try intro _) | (refine stz ?_; try intro _) | (refine stq ?_; try intro _))
    refine G.retV ?_
    refine congrArg (Value.int .i64) ?_
    split <;> split <;> omega
  · rw [Nat.min_eq_right (by omega)]
    repeat (first | (refine sty ?_; try intro _) | (refine st ?_; try intro _) | (refine stz ?_; try intro _) | (refine stq ?_; try intro _))
    refine G.retV ?_
    refine congrArg (Value.int .i64) ?_
    split <;> split <;> omega
theorem gmany_spec (x : Nat) : FnV Tryz.prog 269 [.int .i64 (x : Int)] [] (.int .i64 ((manyF x : Nat) : Int)) := by
  have h := gwithin_spec x
  refine Fn.enter Tryz.func269 rfl Tryz.ntmps269 (by simp) (fun I0 w0 => ?_)
  repeat (first | (refine sty ?_; try intro _) | (refine st ?_; try intro _) | (refine stz ?_; try intro _) | (refine stq ?_; try intro _))
  refine o_callV rfl rfl rfl rfl h rfl ?_
  repeat (first | (refine sty ?_; try intro _) | (refine st ?_; try intro _) | (refine stz ?_; try intro _) | (refine stq ?_; try intro _))
  refine G.retV ?_
  rfl
theorem gwords_spec (x : Nat) : FnV Tryz.prog 186 [.int .i64 (x : Int)] [] (.int .i64 ((wordsF x : Nat) : Int)) := by
  have h := gmany_spec x
  have hm : manyF x ≤ 1048576 := by unfold manyF; omega
  unfold wordsF
  generalize manyF x = m at h hm
  refine Fn.enter Tryz.func186 rfl Tryz.ntmps186 (by simp) (fun I0 w0 => ?_)
  repeat (first | (refine sty ?_; try intro _) | (refine st ?_; try intro _) | (refine stz ?_; try intro _) | (refine stq ?_; try intro _))
  refine o_callV rfl rfl rfl rfl h rfl ?_
  repeat (first | (refine sty ?_; try intro _) | (refine st ?_; try intro _) | (refine stz ?_; try intro _) | (refine stq ?_; try intro _))
  refine G.retV ?_
  refine congrArg (Value.int .i64) ?_
  omega
theorem gcopy_spec (x : Nat) : FnV Tryz.prog 104 [.int .i64 (x : Int)] [] (.int .i64 ((3 * wordsF x : Nat) : Int)) := by
  have h := gwords_spec x
  have hm : wordsF x ≤ 32768 := by unfold wordsF manyF; omega
  generalize wordsF x = m at h hm
  refine Fn.enter Tryz.func104 rfl Tryz.ntmps104 (by simp) (fun I0 w0 => ?_)
  repeat (first | (refine sty ?_; try intro _) | (refine st ?_; try intro _) | (refine stz ?_; try intro _) | (refine stq ?_; try intro _))
  refine o_callV rfl rfl rfl rfl h rfl ?_
  repeat (first | (refine sty ?_; try intro _) | (refine st ?_; try intro _) | (refine stz ?_; try intro _) | (refine stq ?_; try intro _))
  refine G.retV ?_
  rfl
theorem ghash_spec (x : Nat) : FnV Tryz.prog 97 [.int .i64 (x : Int)] [] (.int .i64 ((6 * wordsF x : Nat) : Int)) := by
  have h := gwords_spec x
  have hm : wordsF x ≤ 32768 := by unfold wordsF manyF; omega
  generalize wordsF x = m at h hm
  refine Fn.enter Tryz.func97 rfl Tryz.ntmps97 (by simp) (fun I0 w0 => ?_)
  repeat (first | (refine sty ?_; try intro _) | (refine st ?_; try intro _) | (refine stz ?_; try intro _) | (refine stq ?_; try intro _))
  refine o_callV rfl rfl rfl rfl h rfl ?_
  repeat (first | (refine sty ?_; try intro _) | (refine st ?_; try intro _) | (refine stz ?_; try intro _) | (refine stq ?_; try intro _))
  refine G.retV ?_
  rfl
theorem trimB_spec (l : List UInt8) (hl : l.length ≤ 1000000) : FnV Tryz.prog 169 [.string (ba l), .int .u8 0] [] (.string (ba (trimF l))) := by
  refine Fn.enter Tryz.func169 rfl Tryz.ntmps169 (by simp) (fun I0 w0 => ?_)
  repeat (first | (refine sty ?_; try intro _) | (refine st ?_; try intro _) | (refine stz ?_; try intro _) | (refine stq ?_; try intro _))
  refine W.lp (S := List UInt8) (fun s => ([], [(0, .string (ba s)), (1, .int .u8 0)], [])) (fun s => trimF s = trimF l ∧ s.length ≤ l.length) (fun s => s.length) l ?_ (h0 := ⟨rfl, Nat.le_refl _⟩)
  rintro s ⟨hs, hsl⟩
  dsimp only
  cases s with
  | nil =>
    rw [← hs]
    repeat (first | (refine sty ?_; try intro _) | (refine st ?_; try intro _) | (refine stz ?_; try intro _) | (refine stq ?_; try intro _))
    refine G.retV ?_
    rfl
  | cons a s =>
    rw [List.length_cons] at hsl
    by_cases ha : a.toNat = 0
    · have ha0 : a = 0 := UInt8.toNat_inj.1 ha
      subst ha0
      have hs2 : trimF s = trimF l := by rw [← hs]; rfl
      have hpos : 0 < ((0 : UInt8) :: s).length := Nat.succ_pos _
      repeat (first | (refine sty ?_; try intro _) | (refine st ?_; try intro _) | (refine stz ?_; try intro _) | (refine stq ?_; try intro _))
      have e : (((0 : UInt8) :: s).take ((0 : UInt8) :: s).length).drop 1 = s := by rw [List.take_length]; rfl
      rw [e]
      exact G.ag (S := List UInt8) s (hμ := Nat.lt_succ_self _) (hpre := ⟨hs2, by omega⟩)
    · have hs2 : trimF l = a :: s := by
        rw [← hs]
        unfold trimF
        rw [List.dropWhile_cons_of_neg]
        intro h
        exact ha (by rw [eq_of_beq h]; rfl)
      rw [hs2]
      have hpos : 0 < (a :: s).length := Nat.succ_pos _
      repeat (first | (refine sty ?_; try intro _) | (refine st ?_; try intro _) | (refine stz ?_; try intro _) | (refine stq ?_; try intro _))
      refine G.retV ?_
      rfl
theorem mwithin_spec (x : Int) (m : Int) (hm : 0 ≤ m) : FnV Tryz.prog 197 [.int .i64 x, .int .i64 0, .int .i64 m] [] (.int .i64 (max 0 (min x m))) := by
  refine Fn.enter Tryz.func197 rfl Tryz.ntmps197 (by simp) (fun I0 w0 => ?_)
  repeat (first | (refine sty ?_; try intro _) | (refine st ?_; try intro _) | (refine stz ?_; try intro _) | (refine stq ?_; try intro _))
  refine G.retV ?_
  refine congrArg (Value.int .i64) ?_
  split <;> split <;> omega
theorem mcost_spec (n : Nat) : FnV Tryz.prog 195 [.int .i64 (n : Int)] [] (.int .i64 ((costF n : Nat) : Int)) := by
  have h := mwithin_spec (n : Int) 32768 (by decide)
  rw [show max 0 (min (n : Int) 32768) = ((min n 32768 : Nat) : Int) from by omega] at h
  unfold costF
  have hm : min n 32768 ≤ 32768 := by omega
  generalize min n 32768 = m at h hm
  have h2 : m * m ≤ 32768 * 32768 := Nat.mul_le_mul hm hm
  refine Fn.enter Tryz.func195 rfl Tryz.ntmps195 (by simp) (fun I0 w0 => ?_)
  repeat (first | (refine sty ?_; try intro _) | (refine st ?_; try intro _) | (refine stz ?_; try intro _) | (refine stq ?_; try intro _))
  refine o_callV rfl rfl rfl rfl h rfl ?_
  repeat (first | (refine sty ?_; try intro _) | (refine st ?_; try intro _) | (refine stz ?_; try intro _) | (refine stq ?_; try intro _))
  refine G.retV ?_
  rfl
theorem mmay_spec (l : List UInt8) (hl : l.length ≤ 1000000000) : FnV Tryz.prog 196 [.string (ba l)] [] (.bool (decide (l.length ≤ 1048576 ∧ l.length % 32 = 0))) := by
  refine Fn.enter Tryz.func196 rfl Tryz.ntmps196 (by simp) (fun I0 w0 => ?_)
  by_cases h1 : l.length ≤ 1048576
  · by_cases h2 : l.length % 32 = 0
    · rw [decide_eq_true ⟨h1, h2⟩]
      repeat (first | (refine sty ?_; try intro _) | (refine st ?_; try intro _) | (refine stz ?_; try intro _) | (refine stq ?_; try intro _))
      refine G.retV ?_
      rfl
    · rw [decide_eq_false (fun h => h2 h.2)]
      repeat (first | (refine sty ?_; try intro _) | (refine st ?_; try intro _) | (refine stz ?_; try intro _) | (refine stq ?_; try intro _))
      refine G.retV ?_
      rfl
  · rw [decide_eq_false (fun h => h1 h.1)]
    repeat (first | (refine sty ?_; try intro _) | (refine st ?_; try intro _) | (refine stz ?_; try intro _) | (refine stq ?_; try intro _))
    refine G.retV ?_
    rfl
end Go.Rail
