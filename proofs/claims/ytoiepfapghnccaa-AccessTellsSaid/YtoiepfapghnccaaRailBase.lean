/- The ground of all walks: what a walk knows of the memory and of the slots, and the rules by which a piece of code is walked. -/
import Derived.WalkKit
import Derived.RangeFuncRecord
import Derived.RangeFuncIn
import Derived.TacticsIn
set_option linter.unusedSimpArgs false
set_option linter.unusedVariables false
namespace Go.Rail
open Go

/-- What lies unchanging: by block. -/
abbrev Imm := Nat → Option Obj
/-- What the walk owns and may write: blocks, one by one. -/
abbrev Own := List (Nat × Obj)
def Le (I J : Imm) : Prop := ∀ b o, I b = some o → J b = some o
theorem Le.refl (I : Imm) : Le I I := fun _ _ h => h
theorem Le.trans {I J K : Imm} (h : Le I J) (k : Le J K) : Le I K := fun b o e => k b o (h b o e)

/-- The beginning of a walk: what lay unchanging, which blocks it was given to write, the world. -/
structure Ent where
  I0 : Imm
  D : List Nat
  w0 : World

structure Wd (E : Ent) (I : Imm) (M : Own) (w : World) : Prop where
  os : w.os = E.w0.os
  tape : w.tape = E.w0.tape
  drawn : E.w0.drawn ≤ w.drawn
  output : w.output = E.w0.output
  size : E.w0.heap.size ≤ w.heap.size
  blk : ∀ b, b < E.w0.heap.size → b ∉ E.D → w.heap[b]? = E.w0.heap[b]?
  up : Le E.I0 I
  new : ∀ b o, b < E.w0.heap.size → I b = some o → E.I0 b = some o ∨ b ∈ E.D
  imm : ∀ b o, I b = some o → w.heap[b]? = some o
  own : ∀ p ∈ M, w.heap[p.1]? = some p.2
  sep : ∀ p ∈ M, I p.1 = none
  nd : (M.map Prod.fst).Nodup
  low : ∀ p ∈ M, p.1 < E.w0.heap.size → p.1 ∈ E.D

abbrev doms (M : Own) : List Nat := M.map Prod.fst

theorem Wd.lt {E : Ent} {I : Imm} {M : Own} {w : World} (h : Wd E I M w) {p : Nat × Obj} (hp : p ∈ M) : p.1 < w.heap.size :=
  (Array.getElem?_eq_some_iff.1 (h.own p hp)).1
theorem Wd.ilt {E : Ent} {I : Imm} {M : Own} {w : World} (h : Wd E I M w) {b : Nat} {o : Obj} (hp : I b = some o) : b < w.heap.size :=
  (Array.getElem?_eq_some_iff.1 (h.imm b o hp)).1

/-- A walk begins anew where it stands, with some of what it owns. -/
theorem Wd.start {E : Ent} {I : Imm} {M M' : Own} {w : World} (h : Wd E I M w) (hs : M'.Sublist M) : Wd ⟨I, doms M', w⟩ I M' w where
  os := rfl
  tape := rfl
  drawn := Nat.le_refl _
  output := rfl
  size := Nat.le_refl _
  blk := fun _ _ _ => rfl
  up := Le.refl _
  new := fun _ _ _ e => .inl e
  imm := h.imm
  own := fun p hp => h.own p (hs.subset hp)
  sep := fun p hp => h.sep p (hs.subset hp)
  nd := h.nd.sublist (hs.map _)
  low := fun _ hp _ => List.mem_map_of_mem hp

/-- What is owned may be told in another order. -/
theorem Wd.perm {E : Ent} {I : Imm} {M M' : Own} {w : World} (h : Wd E I M w) (hs : M.Perm M') : Wd E I M' w :=
  { h with
    own := fun p hp => h.own p (hs.mem_iff.2 hp)
    sep := fun p hp => h.sep p (hs.mem_iff.2 hp)
    nd := (hs.map Prod.fst).nodup_iff.1 h.nd
    low := fun p hp => h.low p (hs.mem_iff.2 hp) }
/-- What is owned may be let go of. -/
theorem Wd.sub {E : Ent} {I : Imm} {M M' : Own} {w : World} (h : Wd E I M w) (hs : M'.Sublist M) : Wd E I M' w :=
  { h with
    own := fun p hp => h.own p (hs.subset hp)
    sep := fun p hp => h.sep p (hs.subset hp)
    nd := h.nd.sublist (hs.map _)
    low := fun p hp => h.low p (hs.subset hp) }

/-- Behind a call that was given 'Mc' of 'Mc ++ Mr'. -/
theorem Wd.back {E : Ent} {I I' : Imm} {Mc Mr Mc' : Own} {w w' : World} (h : Wd E I (Mc ++ Mr) w) (k : Wd ⟨I, doms Mc, w⟩ I' Mc' w') : Wd E I' (Mc' ++ Mr) w' := by
  have hnd : (doms Mc ++ doms Mr).Nodup := by have := h.nd; rwa [List.map_append] at this
  have hdis : ∀ p ∈ Mr, p.1 ∉ doms Mc := fun p hp hq => (List.nodup_append.1 hnd).2.2 _ hq _ (List.mem_map_of_mem hp) rfl
  refine ⟨k.os.trans h.os, k.tape.trans h.tape, Nat.le_trans h.drawn k.drawn, k.output.trans h.output, Nat.le_trans h.size k.size, ?_, h.up.trans k.up, ?_, k.imm, ?_, ?_, ?_, ?_⟩
  · intro b hb hD
    have h1 := h.size
    refine (k.blk b (by show b < w.heap.size; omega) ?_).trans (h.blk b hb hD)
    intro hc
    obtain ⟨p, hp, rfl⟩ := List.mem_map.1 hc
    exact hD (h.low p (List.mem_append_left _ hp) hb)
  · intro b o hb hi
    have h1 := h.size
    rcases k.new b o (by show b < w.heap.size; omega) hi with hi | hc
    · exact h.new b o hb hi
    · obtain ⟨p, hp, rfl⟩ := List.mem_map.1 hc
      exact .inr (h.low p (List.mem_append_left _ hp) hb)
  · intro p hp
    rcases List.mem_append.1 hp with hp | hp
    · exact k.own p hp
    · exact (k.blk p.1 (h.lt (List.mem_append_right _ hp)) (hdis p hp)).trans (h.own p (List.mem_append_right _ hp))
  · intro p hp
    rcases List.mem_append.1 hp with hp | hp
    · exact k.sep p hp
    · cases hi : I' p.1 with
      | none => rfl
      | some o =>
        rcases k.new p.1 o (h.lt (List.mem_append_right _ hp)) hi with hi | hc
        · have h2 := h.sep p (List.mem_append_right _ hp); dsimp only at hi; rw [hi] at h2; cases h2
        · exact absurd hc (hdis p hp)
  · rw [List.map_append]
    refine List.nodup_append.2 ⟨k.nd, (List.nodup_append.1 hnd).2.1, ?_⟩
    intro x hx y hy e
    subst e
    obtain ⟨q, hq, rfl⟩ := List.mem_map.1 hy
    obtain ⟨p, hp, e⟩ := List.mem_map.1 hx
    have hq' := h.lt (List.mem_append_right _ hq)
    exact hdis q hq (e ▸ k.low p hp (by show p.1 < w.heap.size; omega))
  · intro p hp hb
    rcases List.mem_append.1 hp with hp | hp
    · have h1 := h.size
      obtain ⟨q, hq, e⟩ := List.mem_map.1 (k.low p hp (by show p.1 < w.heap.size; omega))
      exact e ▸ h.low q (List.mem_append_left _ hq) (by rw [e]; exact hb)
    · exact h.low p (List.mem_append_right _ hp) hb

/-- A new block, owned. -/
theorem Wd.alloc {E : Ent} {I : Imm} {M : Own} {w : World} (h : Wd E I M w) (o : Obj) : Wd E I ((w.heap.size, o) :: M) (w.alloc o) := by
  have hold : ∀ k, k < w.heap.size → (w.alloc o).heap[k]? = w.heap[k]? := fun k hk => Go.RowKit.Below.heap_alloc w o k hk
  have hnew : (w.alloc o).heap[w.heap.size]? = some o := World.alloc_heap_new w o
  have hs : (w.alloc o).heap.size = w.heap.size + 1 := World.size_alloc w o
  refine ⟨h.os, h.tape, h.drawn, h.output, by have := h.size; omega, ?_, h.up, h.new, fun b o' hb => (hold b (h.ilt hb)).trans (h.imm b o' hb), ?_, ?_, ?_, ?_⟩
  · intro b hb hD; have := h.size; exact (hold b (by omega)).trans (h.blk b hb hD)
  · intro p hp
    rcases List.mem_cons.1 hp with rfl | hp
    · exact hnew
    · exact (hold _ (h.lt hp)).trans (h.own p hp)
  · intro p hp
    rcases List.mem_cons.1 hp with rfl | hp
    · cases hi : I w.heap.size with
      | none => rfl
      | some o' => exact absurd (h.ilt hi) (Nat.lt_irrefl _)
    · exact h.sep p hp
  · rw [List.map_cons]
    refine List.nodup_cons.2 ⟨fun hm => ?_, h.nd⟩
    obtain ⟨p, hp, e⟩ := List.mem_map.1 hm
    have := h.lt hp
    omega
  · intro p hp hb
    rcases List.mem_cons.1 hp with rfl | hp
    · have := h.size; dsimp only at hb; omega
    · exact h.low p hp hb

/-- An owned block turns. -/
theorem Wd.turn {E : Ent} {I : Imm} {M1 M2 : Own} {b : Nat} {o o' : Obj} {w w' : World} (h : Wd E I (M1 ++ (b, o) :: M2) w)
    (hos : w'.os = w.os) (htape : w'.tape = w.tape) (hout : w'.output = w.output) (hdr : w'.drawn = w.drawn) (hsz : w'.heap.size = w.heap.size)
    (hb : w'.heap[b]? = some o') (hoth : ∀ k, k ≠ b → w'.heap[k]? = w.heap[k]?) : Wd E I (M1 ++ (b, o') :: M2) w' := by
  have hmem : (b, o) ∈ M1 ++ (b, o) :: M2 := by simp
  have hin : ∀ p ∈ M1 ++ (b, o') :: M2, p = (b, o') ∨ (p ∈ M1 ++ (b, o) :: M2 ∧ p.1 ≠ b) := by
    intro p hp
    have hnd := h.nd
    rw [List.map_append, List.map_cons] at hnd
    obtain ⟨h1, h2, h3⟩ := List.nodup_append.1 hnd
    rw [List.nodup_cons] at h2
    rcases List.mem_append.1 hp with hp | hp
    · exact .inr ⟨by simp [hp], fun e => h3 _ (List.mem_map_of_mem hp) _ (by simp) e⟩
    · rcases List.mem_cons.1 hp with rfl | hp
      · exact .inl rfl
      · exact .inr ⟨by simp [hp], fun e => h2.1 (by have := List.mem_map_of_mem (f := Prod.fst) hp; rwa [e] at this)⟩
  have hmap : ((M1 ++ (b, o') :: M2).map Prod.fst) = ((M1 ++ (b, o) :: M2).map Prod.fst) := by simp
  refine ⟨hos.trans h.os, htape.trans h.tape, (by rw [hdr]; exact h.drawn), hout.trans h.output, by rw [hsz]; exact h.size, ?_, h.up, h.new, ?_, ?_, ?_, by rw [hmap]; exact h.nd, ?_⟩
  · intro k hk hD
    refine (hoth k (fun e => ?_)).trans (h.blk k hk hD)
    subst e
    exact hD (h.low _ hmem hk)
  · intro k ok hk
    refine (hoth k (fun e => ?_)).trans (h.imm k ok hk)
    subst e
    have := h.sep _ hmem
    dsimp only at this
    rw [this] at hk; cases hk
  · intro p hp
    rcases hin p hp with rfl | ⟨hp, hne⟩
    · exact hb
    · exact (hoth _ hne).trans (h.own p hp)
  · intro p hp
    rcases hin p hp with rfl | ⟨hp, hne⟩
    · exact h.sep (b, o) hmem
    · exact h.sep p hp
  · intro p hp hlt
    rcases hin p hp with rfl | ⟨hp, hne⟩
    · exact h.low (b, o) hmem hlt
    · exact h.low p hp hlt

/-- A block that is owned is given away: it lies unchanging from now on. -/
theorem Wd.give {E : Ent} {I : Imm} {b : Nat} {o : Obj} {M : Own} {w : World} (h : Wd E I ((b, o) :: M) w) : Wd E (fun k => if k = b then some o else I k) M w := by
  have hnd := h.nd
  rw [List.map_cons, List.nodup_cons] at hnd
  have hne : ∀ p ∈ M, p.1 ≠ b := fun p hp e => hnd.1 (by have := List.mem_map_of_mem (f := Prod.fst) hp; rwa [e] at this)
  have hbn : I b = none := h.sep (b, o) (by simp)
  refine ⟨h.os, h.tape, h.drawn, h.output, h.size, h.blk, ?_, ?_, ?_, fun p hp => h.own p (by simp [hp]), ?_, hnd.2, fun p hp => h.low p (by simp [hp])⟩
  · intro k ok hk
    have hk' := h.up k ok hk
    by_cases e : k = b
    · subst e; rw [hbn] at hk'; cases hk'
    · simp [e, hk']
  · intro k ok hk hi
    by_cases e : k = b
    · subst e; exact .inr (h.low (k, o) (by simp) hk)
    · simp only [e, if_false] at hi; exact h.new k ok hk hi
  · intro k ok hi
    by_cases e : k = b
    · subst e; simp only [if_true] at hi; cases hi; exact h.own (k, o) (by simp)
    · simp only [e, if_false] at hi; exact h.imm k ok hi
  · intro p hp
    simp only [hne p hp, if_false]
    exact h.sep p (by simp [hp])
theorem Le.give {I : Imm} {b : Nat} {o : Obj} (h : I b = none) : Le I (fun k => if k = b then some o else I k) := by
  intro k ok hk
  by_cases e : k = b
  · subst e; rw [h] at hk; cases hk
  · simp [e, hk]
theorem Wd.drew {E : Ent} {I : Imm} {M : Own} {w : World} (h : Wd E I M w) : Wd E I M w.drew := { h with drawn := Nat.le_trans h.drawn (Nat.le_succ _) }
theorem Wd.drewBy {E : Ent} {I : Imm} {M : Own} {w w' : World} (h : Wd E I M w) (ho : w'.os = w.os) (ht : w'.tape = w.tape) (hu : w'.output = w.output) (hd : w.drawn ≤ w'.drawn) (hh : w'.heap = w.heap) : Wd E I M w' where
  os := ho.trans h.os
  tape := ht.trans h.tape
  drawn := Nat.le_trans h.drawn hd
  output := hu.trans h.output
  size := by rw [hh]; exact h.size
  blk := by rw [hh]; exact h.blk
  up := h.up
  new := h.new
  imm := by rw [hh]; exact h.imm
  own := by rw [hh]; exact h.own
  sep := h.sep
  nd := h.nd
  low := h.low

end Go.Rail
