/- The judgement of a walk, and its first rules. -/
import Derived.WalkKit
import Derived.TacticsIn
import Derived.RangeFuncRecord
import Derived.RangeFuncIn
import Derived.OrdersIn
import Derived.Laws.Rows
import Derived.Laws.CopyRow
import Derived.RangeFuncLeaves
set_option linter.unusedVariables false
universe u
namespace Go.Rail
theorem oM {p:Prop} (h:p:=by omega):p:=h
theorem oE {p:Prop} (h:p:=by decide):p:=h
theorem oI {p:Prop} (h:p:=by simp):p:=h
theorem kR {p:Prop} (h:p:=by kernel_rfl):p:=h
theorem oX {p:Prop} (h:p:=by simp;omega):p:=h
theorem oF {p:Prop} (h:p:=by first|omega|decide):p:=h
theorem oG {p:Prop} (h:p:=by first|decide|omega):p:=h
set_option checkBinderAnnotations false in
abbrev oY {α:Sort u} [i:α]:α:=i
theorem oP {α:Type u} {l:List α}:l.Perm l:=List.Perm.refl l
theorem oN {α:Type u} {l:List α}:List.Sublist [] l:=List.nil_sublist l
theorem oZ {α:Type u} {l:List α}:List.Sublist l l:=List.Sublist.refl l
theorem oH {α:Type u} {l₁ l₂:List α}:List.Perm (l₁++l₂) (l₂++l₁):=List.perm_append_comm
theorem nA {p q:Prop} (hp:p) (s:q=p:=by
 (conv=>lhs;dsimp only [List.cons_append,List.nil_append])
 all_goals exact rfl):q:=s▸hp
theorem nB {p q:Prop} (hp:p) (s:q=p:=by
 (conv=>lhs;dsimp only [List.cons_append,List.nil_append,List.append_nil])
 all_goals exact rfl):q:=s▸hp
end Go.Rail
set_option linter.unusedSimpArgs false
set_option linter.unusedVariables false
namespace Go.Rail
open Go
abbrev Imm:=Nat→Option Obj
abbrev Own:=List (Nat × Obj)
def Le (I J:Imm):Prop:=∀ b o,I b=some o→J b=some o
theorem Le.refl (I:Imm):Le I I:=fun _ _ h=>h
theorem Le.trans {I J K:Imm} (h:Le I J) (k:Le J K):Le I K:=fun b o e=>k b o (h b o e)

structure Ent where
 I0:Imm
 D:List Nat
 w0:World

structure Wd (E:Ent) (I:Imm) (M:Own) (w:World):Prop where
 os:w.os=E.w0.os
 tape:w.tape=E.w0.tape
 drawn:E.w0.drawn≤w.drawn
 output:w.output=E.w0.output
 size:E.w0.heap.size≤w.heap.size
 blk : ∀ b,b<E.w0.heap.size→b∉E.D→w.heap[b]? = E.w0.heap[b]?
 up:Le E.I0 I
 new : ∀ b o,b<E.w0.heap.size→I b=some o→E.I0 b=some o∨b∈E.D
 imm : ∀ b o,I b=some o→w.heap[b]? = some o
 own : ∀ p∈M,w.heap[p.1]? = some p.2
 sep : ∀ p∈M,I p.1=none
 nd:(M.map Prod.fst).Nodup
 low : ∀ p∈M,p.1<E.w0.heap.size→p.1∈E.D

abbrev doms (M:Own):List Nat:=M.map Prod.fst

theorem Wd.lt {E:Ent} {I:Imm} {M:Own} {w:World} (h:Wd E I M w) {p:Nat × Obj} (hp:p∈M):p.1<w.heap.size :=
 (Array.getElem?_eq_some_iff.1 (h.own p hp)).1
theorem Wd.ilt {E:Ent} {I:Imm} {M:Own} {w:World} (h:Wd E I M w) {b:Nat} {o:Obj} (hp:I b=some o):b<w.heap.size :=
 (Array.getElem?_eq_some_iff.1 (h.imm b o hp)).1

theorem Wd.start {E:Ent} {I:Imm} {M M':Own} {w:World} (h:Wd E I M w) (hs:M'.Sublist M):Wd ⟨I,doms M',w⟩ I M' w where
 os:=rfl
 tape:=rfl
 drawn:=Nat.le_refl _
 output:=rfl
 size:=Nat.le_refl _
 blk:=fun _ _ _=>rfl
 up:=Le.refl _
 new:=fun _ _ _ e => .inl e
 imm:=h.imm
 own:=fun p hp=>h.own p (hs.subset hp)
 sep:=fun p hp=>h.sep p (hs.subset hp)
 nd:=h.nd.sublist (hs.map _)
 low:=fun _ hp _=>List.mem_map_of_mem hp

theorem Wd.perm {E:Ent} {I:Imm} {M M':Own} {w:World} (h:Wd E I M w) (hs:M.Perm M'):Wd E I M' w :=
 {h with
  own:=fun p hp=>h.own p (hs.mem_iff.2 hp)
  sep:=fun p hp=>h.sep p (hs.mem_iff.2 hp)
  nd:=(hs.map Prod.fst).nodup_iff.1 h.nd
  low:=fun p hp=>h.low p (hs.mem_iff.2 hp)}
theorem Wd.sub {E:Ent} {I:Imm} {M M':Own} {w:World} (h:Wd E I M w) (hs:M'.Sublist M):Wd E I M' w :=
 {h with
  own:=fun p hp=>h.own p (hs.subset hp)
  sep:=fun p hp=>h.sep p (hs.subset hp)
  nd:=h.nd.sublist (hs.map _)
  low:=fun p hp=>h.low p (hs.subset hp)}

theorem Wd.back {E:Ent} {I I':Imm} {Mc Mr Mc':Own} {w w':World} (h:Wd E I (Mc++Mr) w) (k:Wd ⟨I,doms Mc,w⟩ I' Mc' w'):Wd E I' (Mc'++Mr) w':=by
 have hnd:(doms Mc++doms Mr).Nodup:=by have:=h.nd;rwa [List.map_append] at this
 have hdis : ∀ p∈Mr,p.1∉doms Mc:=fun p hp hq=>(List.nodup_append.1 hnd).2.2 _ hq _ (List.mem_map_of_mem hp) rfl
 refine ⟨k.os.trans h.os,k.tape.trans h.tape,Nat.le_trans h.drawn k.drawn,k.output.trans h.output,Nat.le_trans h.size k.size,?_,h.up.trans k.up,?_,k.imm,?_,?_,?_,?_⟩
 ·intro b hb hD
  have h1:=h.size
  refine (k.blk b (by show b<w.heap.size;omega) ?_).trans (h.blk b hb hD)
  intro hc
  obtain ⟨p,hp,rfl⟩:=List.mem_map.1 hc
  exact hD (h.low p (List.mem_append_left _ hp) hb)
 ·intro b o hb hi
  have h1:=h.size
  rcases k.new b o (by show b<w.heap.size;omega) hi with hi|hc
  ·exact h.new b o hb hi
  ·obtain ⟨p,hp,rfl⟩:=List.mem_map.1 hc
   exact .inr (h.low p (List.mem_append_left _ hp) hb)
 ·intro p hp
  rcases List.mem_append.1 hp with hp|hp
  ·exact k.own p hp
  ·exact (k.blk p.1 (h.lt (List.mem_append_right _ hp)) (hdis p hp)).trans (h.own p (List.mem_append_right _ hp))
 ·intro p hp
  rcases List.mem_append.1 hp with hp|hp
  ·exact k.sep p hp
  ·cases hi:I' p.1 with
   | none=>rfl
   | some o =>
    rcases k.new p.1 o (h.lt (List.mem_append_right _ hp)) hi with hi|hc
    ·have h2:=h.sep p (List.mem_append_right _ hp);dsimp only at hi;rw [hi] at h2;cases h2
    ·exact absurd hc (hdis p hp)
 ·rw [List.map_append]
  refine List.nodup_append.2 ⟨k.nd,(List.nodup_append.1 hnd).2.1,?_⟩
  intro x hx y hy e
  subst e
  obtain ⟨q,hq,rfl⟩:=List.mem_map.1 hy
  obtain ⟨p,hp,e⟩:=List.mem_map.1 hx
  have hq':=h.lt (List.mem_append_right _ hq)
  exact hdis q hq (e▸k.low p hp (by show p.1<w.heap.size;omega))
 ·intro p hp hb
  rcases List.mem_append.1 hp with hp|hp
  ·have h1:=h.size
   obtain ⟨q,hq,e⟩:=List.mem_map.1 (k.low p hp (by show p.1<w.heap.size;omega))
   exact e▸h.low q (List.mem_append_left _ hq) (by rw [e];exact hb)
  ·exact h.low p (List.mem_append_right _ hp) hb

theorem Wd.alloc {E:Ent} {I:Imm} {M:Own} {w:World} (h:Wd E I M w) (o:Obj):Wd E I ((w.heap.size,o)::M) (w.alloc o):=by
 have hold : ∀ k,k<w.heap.size→(w.alloc o).heap[k]? = w.heap[k]? := fun k hk=>Go.RowKit.Below.heap_alloc w o k hk
 have hnew:(w.alloc o).heap[w.heap.size]? = some o:=World.alloc_heap_new w o
 have hs:(w.alloc o).heap.size=w.heap.size+1:=World.size_alloc w o
 refine ⟨h.os,h.tape,h.drawn,h.output,by have:=h.size;omega,?_,h.up,h.new,fun b o' hb=>(hold b (h.ilt hb)).trans (h.imm b o' hb),?_,?_,?_,?_⟩
 ·intro b hb hD;have:=h.size;exact (hold b oM).trans (h.blk b hb hD)
 ·intro p hp
  rcases List.mem_cons.1 hp with rfl|hp
  ·exact hnew
  ·exact (hold _ (h.lt hp)).trans (h.own p hp)
 ·intro p hp
  rcases List.mem_cons.1 hp with rfl|hp
  ·cases hi:I w.heap.size with
   | none=>rfl
   | some o'=>exact absurd (h.ilt hi) (Nat.lt_irrefl _)
  ·exact h.sep p hp
 ·rw [List.map_cons]
  refine List.nodup_cons.2 ⟨fun hm => ?_,h.nd⟩
  obtain ⟨p,hp,e⟩:=List.mem_map.1 hm
  have:=h.lt hp
  omega
 ·intro p hp hb
  rcases List.mem_cons.1 hp with rfl|hp
  ·have:=h.size;dsimp only at hb;omega
  ·exact h.low p hp hb

theorem Wd.turn {E:Ent} {I:Imm} {M1 M2:Own} {b:Nat} {o o':Obj} {w w':World} (h:Wd E I (M1++(b,o)::M2) w)
  (hos:w'.os=w.os) (htape:w'.tape=w.tape) (hout:w'.output=w.output) (hdr:w'.drawn=w.drawn) (hsz:w'.heap.size=w.heap.size)
  (hb:w'.heap[b]? = some o') (hoth : ∀ k,k≠b→w'.heap[k]? = w.heap[k]?):Wd E I (M1++(b,o')::M2) w':=by
 have hmem:(b,o)∈M1++(b,o)::M2:=by simp
 have hin : ∀ p∈M1++(b,o')::M2,p=(b,o')∨(p∈M1++(b,o)::M2∧p.1≠b):=by
  intro p hp
  have hnd:=h.nd
  rw [List.map_append,List.map_cons] at hnd
  obtain ⟨h1,h2,h3⟩:=List.nodup_append.1 hnd
  rw [List.nodup_cons] at h2
  rcases List.mem_append.1 hp with hp|hp
  ·exact .inr ⟨by simp [hp],fun e=>h3 _ (List.mem_map_of_mem hp) _ oI e⟩
  ·rcases List.mem_cons.1 hp with rfl|hp
   ·exact .inl rfl
   ·exact .inr ⟨by simp [hp],fun e=>h2.1 (by have:=List.mem_map_of_mem (f:=Prod.fst) hp;rwa [e] at this)⟩
 have hmap:((M1++(b,o')::M2).map Prod.fst)=((M1++(b,o)::M2).map Prod.fst):=by simp
 refine ⟨hos.trans h.os,htape.trans h.tape,(by rw [hdr];exact h.drawn),hout.trans h.output,by rw [hsz];exact h.size,?_,h.up,h.new,?_,?_,?_,by rw [hmap];exact h.nd,?_⟩
 ·intro k hk hD
  refine (hoth k (fun e => ?_)).trans (h.blk k hk hD)
  subst e
  exact hD (h.low _ hmem hk)
 ·intro k ok hk
  refine (hoth k (fun e => ?_)).trans (h.imm k ok hk)
  subst e
  have:=h.sep _ hmem
  dsimp only at this
  rw [this] at hk;cases hk
 ·intro p hp
  rcases hin p hp with rfl|⟨hp,hne⟩
  ·exact hb
  ·exact (hoth _ hne).trans (h.own p hp)
 ·intro p hp
  rcases hin p hp with rfl|⟨hp,hne⟩
  ·exact h.sep (b,o) hmem
  ·exact h.sep p hp
 ·intro p hp hlt
  rcases hin p hp with rfl|⟨hp,hne⟩
  ·exact h.low (b,o) hmem hlt
  ·exact h.low p hp hlt

theorem Wd.give {E:Ent} {I:Imm} {b:Nat} {o:Obj} {M:Own} {w:World} (h:Wd E I ((b,o)::M) w):Wd E (fun k=>if k=b then some o else I k) M w:=by
 have hnd:=h.nd
 rw [List.map_cons,List.nodup_cons] at hnd
 have hne : ∀ p∈M,p.1≠b:=fun p hp e=>hnd.1 (by have:=List.mem_map_of_mem (f:=Prod.fst) hp;rwa [e] at this)
 have hbn:I b=none:=h.sep (b,o) oI
 refine ⟨h.os,h.tape,h.drawn,h.output,h.size,h.blk,?_,?_,?_,fun p hp=>h.own p (by simp [hp]),?_,hnd.2,fun p hp=>h.low p (by simp [hp])⟩
 ·intro k ok hk
  have hk':=h.up k ok hk
  by_cases e:k=b
  ·subst e;rw [hbn] at hk';cases hk'
  ·simp [e,hk']
 ·intro k ok hk hi
  by_cases e:k=b
  ·subst e;exact .inr (h.low (k,o) oI hk)
  ·simp only [e,if_false] at hi;exact h.new k ok hk hi
 ·intro k ok hi
  by_cases e:k=b
  ·subst e;simp only [if_true] at hi;cases hi;exact h.own (k,o) oI
  ·simp only [e,if_false] at hi;exact h.imm k ok hi
 ·intro p hp
  simp only [hne p hp,if_false]
  exact h.sep p (by simp [hp])
theorem Le.give {I:Imm} {b:Nat} {o:Obj} (h:I b=none):Le I (fun k=>if k=b then some o else I k):=by
 intro k ok hk
 by_cases e:k=b
 ·subst e;rw [h] at hk;cases hk
 ·simp [e,hk]
theorem Wd.drew {E:Ent} {I:Imm} {M:Own} {w:World} (h:Wd E I M w):Wd E I M w.drew:={h with drawn:=Nat.le_trans h.drawn (Nat.le_succ _)}
end Go.Rail
set_option linter.unusedSimpArgs false
set_option linter.unusedVariables false
namespace Go.Rail
open Go
structure Fa where
 key:Value
 p:Imm→Prop
 mono : ∀ I J,Le I J→p I→p J

abbrev Env:=List (Nat × Value)
def look:Env→Nat→Option Value
 | [],_=>none
 | (k,v)::l,t=>bif Nat.beq k t then some v else look l t

def ev (L:Env):Operand→Option Value
 | .tmp t=>look L t
 | .const v=>some v
 | .global g=>some (.pointer (some ⟨g,0,none⟩))
 | .func f=>some (.func (.func f) #[] #[])

structure Kn (N:Nat) (L:Env) (ds:List Deferred) (a:Act):Prop where
 sz:a.tmps.size=N
 val : ∀ t v,look L t=some v→a.tmps[t]? = some v
 df:a.defers=ds

theorem Kn.eval {N:Nat} {L:Env} {ds:List Deferred} {a:Act} (h:Kn N L ds a) {x:Operand} {v:Value} (hx:ev L x=some v):a.eval x=v:=by
 cases x with
 | tmp t=>have:=h.val t v hx;simp [Act.eval,this]
 | const u=>simpa [ev,Act.eval] using hx
 | global g=>simpa [ev,Act.eval] using hx
 | func f=>simpa [ev,Act.eval] using hx

theorem nbeq_ne {a b:Nat} (h : ¬ a=b):Nat.beq a b=false:=by
 cases e:Nat.beq a b with
 | false=>rfl
 | true=>exact absurd (Nat.eq_of_beq_eq_true e) h
theorem nbeq_false {a b:Nat} (h:Nat.beq a b=false):a≠b:=by
 intro e;subst e;rw [Nat.beq_refl] at h;cases h
theorem Kn.put {N:Nat} {L:Env} {ds:List Deferred} {a:Act} (h:Kn N L ds a) {d:Nat} (v:Value) (hd:Nat.blt d N=true):Kn N ((d,v)::L) ds (a.put (some d) v):=by
 have hd:d<N:=by simpa using hd
 refine ⟨by simp [Act.put,h.sz],?_,h.df⟩
 intro t u hu
 simp only [look] at hu
 by_cases e:d=t
 ·subst e
  simp at hu
  subst hu
  simp [Act.put,h.sz,hd]
 ·rw [nbeq_ne e] at hu
  simp only [cond_false] at hu
  simp [Act.put,Array.getElem?_setIfInBounds_ne e,h.val t u hu]

theorem Kn.put_none {N:Nat} {L:Env} {ds:List Deferred} {a:Act} (h:Kn N L ds a) (v:Value):Kn N L ds (a.put none v):=h

structure Cx where
 P:Program
 r:Option Nat
 E:Ent
 N:Nat
 ds:List Deferred

def FR:Option Nat→Fence
 | none=>Fence.wide
 | some l=>Fence.wide.inRound l
theorem FR_fn (r:Option Nat) (f:FuncId):(FR r).fn f:=by cases r<;>trivial
theorem FR_depth (r:Option Nat):(FR r).depth=none:=by cases r<;>rfl
def G (x:Cx) (Φ:List Fa) (L:Env) (M:Own) (F:Act→World→Prop):Prop :=
 ∀ I a w,(∀ φ∈Φ,φ.p I)→Kn x.N L x.ds a→Wd x.E I M w→F a w

def W (x:Cx) (c:Code) (Q:Exit→Act→World→Prop) (Φ:List Fa) (L:Env) (M:Own):Prop :=
 G x Φ L M fun a w=>c.wpIn (FR x.r) 0 x.P Q a w

def opRun (x:Cx) (ops:Array Oper) (Q:Exit→Act→World→Prop) (o:Oper) (K:Act→World→Prop) (a:Act) (w:World):Prop :=
 if Region.wanted o (yielded ops a.tmps) then o.wpIn (FR x.r) 0 x.P a w K Q
 else (∀ f,o.about x.P w a.eval=some f→(FR x.r).fn f)∧K (a.put o.dst undef) w

def OpK (x:Cx) (ops:Array Oper) (Q:Exit→Act→World→Prop) (o:Oper) (Φ:List Fa) (L:Env) (M:Own) (K:Act→World→Prop):Prop :=
 G x Φ L M (opRun x ops Q o K)

def LW (x:Cx) (ops:Array Oper) (Q:Exit→Act→World→Prop) (rest:List Oper) (Φ:List Fa) (L:Env) (M:Own):Prop :=
 G x Φ L M (wpListIn (FR x.r) 0 x.P ops Q rest)

section
variable {x:Cx} {Q:Exit→Act→World→Prop} {Φ:List Fa} {L:Env} {M:Own}
theorem G.mono {F F':Act→World→Prop} (h:G x Φ L M F) (hf : ∀ a w,F a w→F' a w):G x Φ L M F':=fun I a w hp hk hw=>hf a w (h I a w hp hk hw)

theorem G.weaken {F:Act→World→Prop} {Φ':List Fa} {L':Env} {M':Own} (h:G x Φ' L' M' F) (hΦ : ∀ φ∈Φ',φ∈Φ) (hL : ∀ t v,look L' t=some v→look L t=some v) (hM:M'.Sublist M):G x Φ L M F :=
 fun I a w hp hk hw=>h I a w (fun φ hφ=>hp φ (hΦ φ hφ)) ⟨hk.sz,fun t v e=>hk.val t v (hL t v e),hk.df⟩ (hw.sub hM)
theorem G.perm {F:Act→World→Prop} {M':Own} (h:G x Φ L M' F) (hM:M.Perm M'):G x Φ L M F :=
 fun I a w hp hk hw=>h I a w hp hk (hw.perm hM)

theorem LW.nil {ops:Array Oper} (h:G x Φ L M (Q .normal)):LW x ops Q [] Φ L M:=h
theorem LW.cons {ops:Array Oper} {o:Oper} {rest:List Oper} (h:OpK x ops Q o Φ L M (wpListIn (FR x.r) 0 x.P ops Q rest)):LW x ops Q (o::rest) Φ L M:=h

theorem W.region {id:Nat} {l:List Oper} (h:LW x l.toArray Q l Φ L M):W x (.region id l.toArray false) Q Φ L M :=
 fun I a w hp hk hw=>wpIn_region_lit (h I a w hp hk hw)
theorem W.seq {c d:Code} (h:W x c (Exit.then (fun a w=>d.wpIn (FR x.r) 0 x.P Q a w) Q) Φ L M):W x (.seq c d) Q Φ L M :=
 fun I a w hp hk hw=>wpIn_seq (h I a w hp hk hw)
theorem W.skip (h:G x Φ L M (Q .normal)):W x .skip Q Φ L M:=fun I a w hp hk hw=>wpIn_skip (h I a w hp hk hw)
theorem W.ret (h:G x Φ L M (Q .ret)):W x .ret Q Φ L M:=fun I a w hp hk hw=>wpIn_ret (h I a w hp hk hw)
theorem W.exit {id:Nat} (h:G x Φ L M (Q (.exit id))):W x (.exit id) Q Φ L M:=fun I a w hp hk hw=>wpIn_exit (h I a w hp hk hw)
theorem W.goto {id:Nat} (h:G x Φ L M (Q (.goto id))):W x (.goto id) Q Φ L M:=fun I a w hp hk hw=>wpIn_goto (h I a w hp hk hw)
theorem W.label {id:Nat} (h:G x Φ L M (Q .normal)):W x (.label id) Q Φ L M:=fun I a w hp hk hw=>wpIn_label (h I a w hp hk hw)
theorem W.block {id:Nat} {c:Code} (h:W x c (Exit.inBlock id Q) Φ L M):W x (.block id c) Q Φ L M:=fun I a w hp hk hw=>wpIn_block (h I a w hp hk hw)
theorem W.cond_true {c:Operand} {p q:Code} (hc:ev L c=some (.bool true)) (h:W x p Q Φ L M):W x (.cond c p q) Q Φ L M :=
 fun I a w hp hk hw=>wpIn_cond_true (hk.eval hc) (h I a w hp hk hw)
theorem W.cond_false {c:Operand} {p q:Code} (hc:ev L c=some (.bool false)) (h:W x q Q Φ L M):W x (.cond c p q) Q Φ L M :=
 fun I a w hp hk hw=>wpIn_cond_false (hk.eval hc) (h I a w hp hk hw)
theorem W.cond {c:Operand} {p q:Code} {b:Bool} (hc:ev L c=some (.bool b)) (h:b=true→W x p Q Φ L M) (h':b=false→W x q Q Φ L M):W x (.cond c p q) Q Φ L M :=
 fun I a w hp hk hw=>wpIn_cond_split (hk.eval hc) (fun e=>h e I a w hp hk hw) (fun e=>h' e I a w hp hk hw)

theorem G.then_normal {d:Code} {Q':Exit→Act→World→Prop} (h:W x d Q' Φ L M):G x Φ L M (Exit.then (fun a w=>d.wpIn (FR x.r) 0 x.P Q' a w) Q .normal):=h
theorem G.then_normalG {F:Act→World→Prop} (h:G x Φ L M F):G x Φ L M (Exit.then F Q .normal):=h
theorem G.then_ret {n:Act→World→Prop} (h:G x Φ L M (Q .ret)):G x Φ L M (Exit.then n Q .ret):=h
theorem G.then_exit {n:Act→World→Prop} {id:Nat} (h:G x Φ L M (Q (.exit id))):G x Φ L M (Exit.then n Q (.exit id)):=h
theorem G.in_normal {id:Nat} (h:G x Φ L M (Q .normal)):G x Φ L M (Exit.inBlock id Q .normal):=h
theorem G.in_ret {id:Nat} (h:G x Φ L M (Q .ret)):G x Φ L M (Exit.inBlock id Q .ret):=h
theorem G.in_exit {id:Nat} (h:G x Φ L M (Q .normal)):G x Φ L M (Exit.inBlock id Q (.exit id)):=fun I a w hp hk hw=>by simpa [Exit.inBlock] using h I a w hp hk hw
theorem G.in_exit_ne {id id':Nat} (hne:Nat.beq id' id=false) (h:G x Φ L M (Q (.exit id'))):G x Φ L M (Exit.inBlock id Q (.exit id')):=fun I a w hp hk hw=>by
 have hne:id'≠id:=nbeq_false hne
 simpa [Exit.inBlock,hne] using h I a w hp hk hw

theorem W.mono {c:Code} {Q':Exit→Act→World→Prop} (h:W x c Q' Φ L M) (hq : ∀ e a w,Q' e a w→Q e a w):W x c Q Φ L M :=
 fun I a w hp hk hw=>wpIn_mono (h I a w hp hk hw) hq

noncomputable def least (P:Nat→Prop):Nat:=Classical.epsilon fun n=>P n ∧ ∀ m,P m→n≤m
theorem least_spec {P:Nat→Prop} (h : ∃ n,P n):P (least P) ∧ ∀ m,P m→least P≤m:=by
 refine Classical.epsilon_spec (p:=fun n=>P n ∧ ∀ m,P m→n≤m) ?_
 obtain ⟨n,hn⟩:=h
 induction n using Nat.strongRecOn with
 | _ n ih =>
  by_cases hc : ∃ m,m<n∧P m
  ·obtain ⟨m,hlt,hm⟩:=hc;exact ih m hlt hm
  ·exact ⟨n,hn,fun m hm=>by
    rcases Nat.lt_or_ge m n with h|h
    ·exact absurd ⟨m,h,hm⟩ hc
    ·exact h⟩

def Inv (x:Cx) {S:Type} (f:S→List Fa × Env × Own) (pre:S→Prop) (s:S) (a:Act) (w:World):Prop :=
 pre s ∧ ∃ I,(∀ φ∈(f s).1,φ.p I)∧Kn x.N (f s).2.1 x.ds a∧Wd x.E I (f s).2.2 w

theorem W.loop {c:Code} {S:Type} (f:S→List Fa × Env × Own) (pre:S→Prop) (μ:S→Nat) (s0:S) (h0:pre s0)
  (hst:G x Φ L M (Inv x f pre s0))
  (hround : ∀ s,pre s→W x c (Exit.then (fun a w => ∃ s',μ s'<μ s∧Inv x f pre s' a w) Q) (f s).1 (f s).2.1 (f s).2.2):W x (.loop c) Q Φ L M:=by
 intro I a w hp hk hw
 refine wpIn_loop (fun a w => ∃ s,Inv x f pre s a w) (fun a w=>least (fun n => ∃ s,μ s=n∧Inv x f pre s a w)) ⟨s0,hst I a w hp hk hw⟩ ?_
 rintro a w ⟨s,hs⟩
 obtain ⟨⟨s1,hm,hs1⟩,_⟩:=least_spec (P:=fun n => ∃ s,μ s=n∧Inv x f pre s a w) ⟨_,s,rfl,hs⟩
 obtain ⟨hps,I,hf,hka,hwa⟩:=hs1
 refine wpIn_mono (hround s1 hps I a w hf hka hwa) ?_
 intro e a' w' hq
 cases e with
 | normal =>
  obtain ⟨s',hlt,hi⟩:=hq
  refine ⟨⟨s',hi⟩,?_⟩
  have:=(least_spec (P:=fun n => ∃ s,μ s=n∧Inv x f pre s a' w') ⟨_,s',rfl,hi⟩).2 (μ s') ⟨s',rfl,hi⟩
  omega
 | exit id=>exact hq
 | goto l=>exact hq
 | ret=>exact hq
 | panic ch=>exact hq
 | outgrown=>exact hq
end
end Go.Rail
set_option linter.unusedSimpArgs false
set_option linter.unusedVariables false
namespace Go.Rail
open Go
class SlTy (P:Program) (t:TypeId) (e:outParam TypeId):Prop where h:P.underlying t=some (.slice e)
class ArTy (P:Program) (t:TypeId) (n:outParam Nat) (e:outParam TypeId):Prop where h:P.underlying t=some (.array n e)
class Siz (P:Program) (t:TypeId) (n:outParam Nat):Prop where h : ∀ w,(sizeOf t).run P w = .ok n w
class IsAg (P:Program) (t:TypeId) (b:outParam Bool):Prop where h : ∀ w,(isAgg t).run P w = .ok b w
class Fld (P:Program) (s:TypeId) (i:Nat) (off:outParam Nat) (ty:outParam TypeId):Prop where
 h : ∃ fs f,P.underlying s=some (.struct fs)∧fs[i]? = some f∧f.offset=off∧f.type=ty

def cellsL:Value→List Value
 | .agg cs=>cs.toList
 | v=>[v]
theorem cells_toList (v:Value):v.cells.toList=cellsL v:=by cases v<;>rfl
class Zer (P:Program) (t:TypeId) (zs:outParam (List Value)):Prop where h : ∀ w,∃ z,(zeroValue t).run P w = .ok z w∧cellsL z=zs

def Ob (cs:List Value) (t:TypeId):Obj := .cells cs.toArray t (0,0)
def ones (cs:List Value):Bool:=cs.all Value.oneCell'

def gd (ops:Array Oper) (L:Env):Option (Nat × Bool)→Option Bool
 | none=>some true
 | some (j,b)=>match (ops[j]?).bind (·.dst) with
  | some t=>match look L t with
   | some (.bool c)=>some (c==b)
   | some (.tuple _)=>some false
   | _=>none
  | none=>none

section
variable {x:Cx} {Q:Exit→Act→World→Prop} {Φ:List Fa} {L:Env} {M:Own} {ops:Array Oper} {K:Act→World→Prop}
theorem gd_wanted {o:Oper} {b:Bool} {N:Nat} {ds:List Deferred} {a:Act} (hk:Kn N L ds a) (h:gd ops L o.guard=some b):Region.wanted o (yielded ops a.tmps)=b:=by
 unfold Region.wanted
 unfold gd at h
 cases hg:o.guard with
 | none=>rw [hg] at h;simpa using h
 | some p =>
  obtain ⟨j,c⟩:=p
  rw [hg] at h
  simp only at h ⊢
  unfold yielded
  cases ht:(ops[j]?).bind (·.dst) with
  | none=>rw [ht] at h;cases h
  | some t =>
   rw [ht] at h
   simp only at h
   cases hl:look L t with
   | none=>rw [hl] at h;cases h
   | some u =>
    rw [hl] at h
    have:=hk.val t u hl
    simp only [Option.bind_some,this]
    cases u<;>simp only [Option.some.injEq] at h<;>first|(cases h;done)|skip
    ·subst h;simp
    ·subst h;simp

theorem OpK.val {o:Oper} {d:Nat} {v:Value} (hd:o.dst=some d) (hdN:Nat.blt d x.N=true) (hg:gd ops L o.guard=some true) (hnd : ∀ c,o.op ≠ .defer c)
  (hrun : ∀ I a w,(∀ φ∈Φ,φ.p I)→Kn x.N L x.ds a→Wd x.E I M w→(execOp a.eval o).run x.P w = .ok (.value v) w) (h:G x Φ ((d,v)::L) M K):OpK x ops Q o Φ L M K:=by
 intro I a w hp hk hw
 unfold opRun
 rw [if_pos (gd_wanted hk hg)]
 refine ⟨fun f _=>FR_fn _ f,?_⟩
 rw [Oper.semAt_eq _ _ _ hnd,hrun I a w hp hk hw]
 simp only [Oper.uponIn,hd]
 exact h I _ w hp (hk.put v hdN) hw

theorem OpK.pass {o:Oper} {d:Nat} (hd:o.dst=some d) (hdN:Nat.blt d x.N=true) (hg:gd ops L o.guard=some false) (h:G x Φ ((d,undef)::L) M K):OpK x ops Q o Φ L M K:=by
 intro I a w hp hk hw
 unfold opRun
 rw [gd_wanted hk hg]
 simp only [Bool.false_eq_true,if_false]
 refine ⟨fun f _=>FR_fn _ f,?_⟩
 rw [hd]
 exact h I _ w hp (hk.put undef hdN) hw
theorem OpK.mem {o:Oper} {d:Nat} (hd:o.dst=some d) (hdN:Nat.blt d x.N=true) (hg:gd ops L o.guard=some true) (hnd : ∀ c,o.op ≠ .defer c)
  (h : ∀ I a w,(∀ φ∈Φ,φ.p I)→Kn x.N L x.ds a→Wd x.E I M w → ∃ v w' Φ' M' I',(execOp a.eval o).run x.P w = .ok (.value v) w'∧(∀ φ∈Φ',φ.p I')∧Wd x.E I' M' w'∧G x Φ' ((d,v)::L) M' K):OpK x ops Q o Φ L M K:=by
 intro I a w hp hk hw
 unfold opRun
 rw [if_pos (gd_wanted hk hg)]
 refine ⟨fun f _=>FR_fn _ f,?_⟩
 obtain ⟨v,w',Φ',M',I',hr,hp',hw',hG⟩:=h I a w hp hk hw
 rw [Oper.semAt_eq _ _ _ hnd,hr]
 simp only [Oper.uponIn,hd]
 exact hG I' _ w' hp' (hk.put v hdN) hw'
theorem OpK.mem0 {o:Oper} (hd:o.dst=none) (hg:gd ops L o.guard=some true) (hnd : ∀ c,o.op ≠ .defer c)
  (h : ∀ I a w,(∀ φ∈Φ,φ.p I)→Kn x.N L x.ds a→Wd x.E I M w → ∃ w' Φ' M' I',(execOp a.eval o).run x.P w = .ok .skip w'∧(∀ φ∈Φ',φ.p I')∧Wd x.E I' M' w'∧G x Φ' L M' K):OpK x ops Q o Φ L M K:=by
 intro I a w hp hk hw
 unfold opRun
 rw [if_pos (gd_wanted hk hg)]
 refine ⟨fun f _=>FR_fn _ f,?_⟩
 obtain ⟨w',Φ',M',I',hr,hp',hw',hG⟩:=h I a w hp hk hw
 rw [Oper.semAt_eq _ _ _ hnd,hr]
 simp only [Oper.uponIn,hd]
 exact hG I' _ w' hp' (hk.put_none undef) hw'

variable {d:Nat} {ty:TypeId} {pos:String} {af:Array Edge} {g:Option (Nat × Bool)}
theorem o_move {y:Operand} {v:Value} (hdN:Nat.blt d x.N=true) (hg:gd ops L g=some true) (hy:ev L y=some v) (h:G x Φ ((d,v)::L) M K):OpK x ops Q ⟨some d,.move y,ty,pos,af,g⟩ Φ L M K :=
 OpK.val rfl hdN hg oI (fun I a w hp hk hw=>by simp [execOp,hk.eval hy,Sem.run_pure]) h
theorem o_assign {y:Operand} {v:Value} (hdN:Nat.blt d x.N=true) (hg:gd ops L g=some true) (hy:ev L y=some v) (h:G x Φ ((d,v)::L) M K):OpK x ops Q ⟨some d,.assign y,ty,pos,af,g⟩ Φ L M K :=
 OpK.val rfl hdN hg oI (fun I a w hp hk hw=>by simp [execOp,hk.eval hy,Sem.run_pure]) h
theorem o_pick {c y z:Operand} {b:Bool} {v:Value} (hdN:Nat.blt d x.N=true) (hg:gd ops L g=some true) (hc:ev L c=some (.bool b)) (hv:(bif b then ev L y else ev L z)=some v) (h:G x Φ ((d,v)::L) M K):OpK x ops Q ⟨some d,.pick c y z,ty,pos,af,g⟩ Φ L M K :=
 OpK.val rfl hdN hg oI (fun I a w hp hk hw=>by
  cases b
  ·simp only [cond_false] at hv
   simp [execOp,hk.eval hc,hk.eval hv,asBool,Sem.run_pure,Result.andThen]
  ·simp only [cond_true] at hv
   simp [execOp,hk.eval hc,hk.eval hv,asBool,Sem.run_pure,Result.andThen]) h

def intOp (op:BinOp) (k:IntKind) (a b:Int):Option Value :=
 match op with
 | .add=>some (.int k (k.wrap (a+b)))
 | .sub=>some (.int k (k.wrap (a-b)))
 | .mul=>some (.int k (k.wrap (a*b)))
 | .quo=>if b=0 then none else some (.int k (k.wrap (a.tdiv b)))
 | .rem=>if b=0 then none else some (.int k (a.tmod b))
 | .and=>some (.int k (k.wrap (BitVec.ofInt k.bits a&&&BitVec.ofInt k.bits b).toNat))
 | .or=>some (.int k (k.wrap (BitVec.ofInt k.bits a|||BitVec.ofInt k.bits b).toNat))
 | .xor=>some (.int k (k.wrap (BitVec.ofInt k.bits a^^^BitVec.ofInt k.bits b).toNat))
 | .eql=>some (.bool (a==b))
 | .neq=>some (.bool (a != b))
 | .lss=>some (.bool (decide (a<b)))
 | .leq=>some (.bool (decide (a≤b)))
 | .gtr=>some (.bool (decide (a>b)))
 | .geq=>some (.bool (decide (a≥b)))
 | _=>none
theorem run_intOp {P:Program} {op:BinOp} {k:IntKind} {a b:Int} {v:Value} (t:TypeId) (h:intOp op k a b=some v) (w:World):(binOp op t (.int k a) (.int k b)).run P w = .ok v w:=by
 cases op<;>simp only [intOp] at h<;>(try split at h)<;>(try cases h)<;>simp_all [binOp,Op.intArith,Op.intDiv,Op.intBits,Op.intCmp,Sem.run_pure]
theorem run_eqGuard_int {P:Program} {op:BinOp} {t:TypeId} {p q:Operand} {k k':IntKind} {a b:Int} (w:World):(eqGuard op t p q (.int k a) (.int k' b)).run P w = .ok () w:=by
 unfold eqGuard;split<;>simp [Sem.run_pure,Sem.run_bind,Result.andThen]
theorem run_eqGuard_bool {P:Program} {op:BinOp} {t:TypeId} {p q:Operand} {a b:Bool} (w:World):(eqGuard op t p q (.bool a) (.bool b)).run P w = .ok () w:=by
 unfold eqGuard;split<;>simp [Sem.run_pure,Sem.run_bind,Result.andThen]
theorem run_eqGuard_string {P:Program} {op:BinOp} {t:TypeId} {p q:Operand} {a b:ByteArray} (w:World):(eqGuard op t p q (.string a) (.string b)).run P w = .ok () w:=by
 unfold eqGuard;split<;>simp [Sem.run_pure,Sem.run_bind,Result.andThen]

theorem o_int {op:BinOp} {t t':TypeId} {y z:Operand} {k:IntKind} {p q:Int} {v:Value} (hdN:Nat.blt d x.N=true) (hg:gd ops L g=some true) (hy:ev L y=some (.int k p)) (hz:ev L z=some (.int k q)) (hv:intOp op k p q=some v)
  (h:G x Φ ((d,v)::L) M K):OpK x ops Q ⟨some d,.binOp op t y z t',ty,pos,af,g⟩ Φ L M K :=
 OpK.val rfl hdN hg oI (fun I a w hp hk hw=>by
  simp [execOp,hk.eval hy,hk.eval hz,run_eqGuard_int,run_intOp t hv,Sem.run_bind,Result.andThen,Sem.run_pure]) h
theorem o_shl {t t':TypeId} {y z:Operand} {k yk:IntKind} {p q:Int} {v:Value} (hdN:Nat.blt d x.N=true) (hg:gd ops L g=some true) (hy:ev L y=some (.int k p)) (hz:ev L z=some (.int yk q)) (h0:0≤q) (hv:Value.int k (k.wrap (p*2^(min q.toNat k.bits)))=v)
  (h:G x Φ ((d,v)::L) M K):OpK x ops Q ⟨some d,.binOp .shl t y z t',ty,pos,af,g⟩ Φ L M K :=
 OpK.val rfl hdN hg oI (fun I a w hp hk hw=>by
  subst hv
  simp [execOp,hk.eval hy,hk.eval hz,eqGuard,binOp,Op.shift,Int.not_lt.2 h0,Sem.run_bind,Result.andThen,Sem.run_pure]) h
theorem o_shr {t t':TypeId} {y z:Operand} {k yk:IntKind} {p q:Int} {v:Value} (hdN:Nat.blt d x.N=true) (hg:gd ops L g=some true) (hy:ev L y=some (.int k p)) (hz:ev L z=some (.int yk q)) (h0:0≤q) (hv:Value.int k (p.fdiv (2^(min q.toNat k.bits)))=v)
  (h:G x Φ ((d,v)::L) M K):OpK x ops Q ⟨some d,.binOp .shr t y z t',ty,pos,af,g⟩ Φ L M K :=
 OpK.val rfl hdN hg oI (fun I a w hp hk hw=>by
  subst hv
  simp [execOp,hk.eval hy,hk.eval hz,eqGuard,binOp,Op.shift,Int.not_lt.2 h0,Sem.run_bind,Result.andThen,Sem.run_pure]) h

class EqOn (P:Program) (t:TypeId) (u v:Value) (b:outParam Bool):Prop where
 eq : ∀ w,(binOp .eql t u v).run P w = .ok (.bool b) w
 ne : ∀ w,(binOp .neq t u v).run P w = .ok (.bool !b) w
 guard : ∀ op p q w,(eqGuard op t p q u v).run P w = .ok () w
theorem o_eql {t t':TypeId} {y z:Operand} {u v:Value} {b:Bool} [EqOn x.P t u v b] {r:Bool} (hdN:Nat.blt d x.N=true) (hg:gd ops L g=some true) (hy:ev L y=some u) (hz:ev L z=some v) (hr:b=r)
  (h:G x Φ ((d,.bool r)::L) M K):OpK x ops Q ⟨some d,.binOp .eql t y z t',ty,pos,af,g⟩ Φ L M K :=
 OpK.val rfl hdN hg oI (fun I a w hp hk hw=>by
  subst hr
  simp [execOp,hk.eval hy,hk.eval hz,EqOn.guard,EqOn.eq,Sem.run_bind,Result.andThen,Sem.run_pure]) h
theorem o_neq {t t':TypeId} {y z:Operand} {u v:Value} {b:Bool} [EqOn x.P t u v b] {r:Bool} (hdN:Nat.blt d x.N=true) (hg:gd ops L g=some true) (hy:ev L y=some u) (hz:ev L z=some v) (hr:(!b)=r)
  (h:G x Φ ((d,.bool r)::L) M K):OpK x ops Q ⟨some d,.binOp .neq t y z t',ty,pos,af,g⟩ Φ L M K :=
 OpK.val rfl hdN hg oI (fun I a w hp hk hw=>by
  subst hr
  simp [execOp,hk.eval hy,hk.eval hz,EqOn.guard,EqOn.ne,Sem.run_bind,Result.andThen,Sem.run_pure]) h

theorem o_not {t:TypeId} {y:Operand} {b r:Bool} (hdN:Nat.blt d x.N=true) (hg:gd ops L g=some true) (hy:ev L y=some (.bool b)) (hr:(!b)=r) (h:G x Φ ((d,.bool r)::L) M K):OpK x ops Q ⟨some d,.unOp .not t y,ty,pos,af,g⟩ Φ L M K :=
 OpK.val rfl hdN hg oI (fun I a w hp hk hw=>by subst hr;simp [execOp,hk.eval hy,Op.unary,Sem.run_bind,Result.andThen,Sem.run_pure]) h
theorem o_neg {t:TypeId} {y:Operand} {k:IntKind} {p:Int} {v:Value} (hdN:Nat.blt d x.N=true) (hg:gd ops L g=some true) (hy:ev L y=some (.int k p)) (hv:Value.int k (k.wrap (0-p))=v) (h:G x Φ ((d,v)::L) M K):OpK x ops Q ⟨some d,.unOp .neg t y,ty,pos,af,g⟩ Φ L M K :=
 OpK.val rfl hdN hg oI (fun I a w hp hk hw=>by subst hv;simp [execOp,hk.eval hy,Op.unary,Op.intArith,Sem.run_bind,Result.andThen,Sem.run_pure]) h
theorem o_extract {y:Operand} {i:Nat} {vs:List Value} {v:Value} (hdN:Nat.blt d x.N=true) (hg:gd ops L g=some true) (hy:ev L y=some (.tuple vs.toArray)) (hv:vs[i]? = some v) (h:G x Φ ((d,v)::L) M K):OpK x ops Q ⟨some d,.extract y i,ty,pos,af,g⟩ Φ L M K :=
 OpK.val rfl hdN hg oI (fun I a w hp hk hw=>by simp [execOp,hk.eval hy,Instr.extract,hv,Sem.run_bind,Result.andThen,Sem.run_pure]) h
theorem o_func {fn:Fn} {first cap:List Operand} {fs cs:List Value} (hdN:Nat.blt d x.N=true) (hg:gd ops L g=some true) (hf:first.mapM (ev L)=some fs) (hc:cap.mapM (ev L)=some cs) (h:G x Φ ((d,.func fn fs.toArray cs.toArray)::L) M K):OpK x ops Q ⟨some d,.makeFunc fn first.toArray cap.toArray,ty,pos,af,g⟩ Φ L M K :=
 OpK.val rfl hdN hg oI (fun I a w hp hk hw=>by
  have key : ∀ (l:List Operand) (vs:List Value),l.mapM (ev L)=some vs→l.map a.eval=vs:=by
   intro l
   induction l with
   | nil=>intro vs h;simp at h;simp [h]
   | cons o l ih =>
    intro vs h
    simp only [List.mapM_cons,Option.bind_eq_bind,Option.bind_eq_some_iff,Option.pure_def,Option.some.injEq] at h
    obtain ⟨v,hv,vs',hvs,rfl⟩:=h
    simp [hk.eval hv,ih vs' hvs]
  simp [execOp,Instr.makeFunc,key _ _ hf,key _ _ hc,Sem.run_bind,Result.andThen,Sem.run_pure]) h
end
end Go.Rail
set_option linter.unusedSimpArgs false
set_option linter.unusedVariables false
namespace Go.Rail
open Go
class MGet (M:Own) (b:Nat) (o:outParam Obj):Prop where h:(b,o)∈M
instance (priority:=high) MGet.head {M:Own} {b:Nat} {o:Obj}:MGet ((b,o)::M) b o:=⟨.head _⟩
instance MGet.tail {M:Own} {b b':Nat} {o o':Obj} [t:MGet M b o]:MGet ((b',o')::M) b o:=⟨.tail _ t.h⟩
class MSet (M:Own) (b:Nat) (o:outParam Obj) (o':Obj) (M':outParam Own):Prop where h : ∃ M1 M2,M=M1++(b,o)::M2∧M'=M1++(b,o')::M2
instance (priority:=high) MSet.head {M:Own} {b:Nat} {o o':Obj}:MSet ((b,o)::M) b o o' ((b,o')::M):=⟨[],M,rfl,rfl⟩
instance MSet.tail {M M':Own} {b b':Nat} {o o' p:Obj} [t:MSet M b o o' M']:MSet ((b',p)::M) b o o' ((b',p)::M'):=by
 obtain ⟨M1,M2,h1,h2⟩:=t.h
 exact ⟨(b',p)::M1,M2,by rw [h1];rfl,by rw [h2];rfl⟩
class MDel (M:Own) (b:Nat) (o:outParam Obj) (M':outParam Own):Prop where h:M.Perm ((b,o)::M')
instance (priority:=high) MDel.head {M:Own} {b:Nat} {o:Obj}:MDel ((b,o)::M) b o M:=⟨.refl _⟩
instance MDel.tail {M M':Own} {b b':Nat} {o p:Obj} [t:MDel M b o M']:MDel ((b',p)::M) b o ((b',p)::M'):=⟨(t.h.cons _).trans (.swap _ _ _)⟩

section world
variable {P:Program} {w:World}
theorem cell_Ob {b off:Nat} {cs:List Value} {t:TypeId} {v:Value} (h:w.heap[b]? = some (Ob cs t)) (hv:cs[off]? = some v):w.cell? ⟨b,off,none⟩=some v:=by
 simp [World.cell?,h,Ob,hv]
theorem add_mk (b off n:Nat):(⟨b,off,none⟩:Addr).add n=⟨b,off+n,none⟩:=by
 unfold Addr.add;split<;>simp_all
theorem loadCells_obj {b off n:Nat} {c:Array Value} {t:TypeId} {fr:Nat × Nat} (h:w.heap[b]? = some (.cells c t fr)) (hn:off+n≤c.size) :
  (loadCells ⟨b,off,none⟩ n).run P w = .ok ((c.toList.drop off).take n).toArray w:=by
 have hl:((c.toList.drop off).take n).length=n:=by simp;omega
 have:=run_loadCells_list (P:=P) w ⟨b,off,none⟩ ((c.toList.drop off).take n) (fun j v hj=>by
  have hjn:j<n:=by have:=(List.getElem?_eq_some_iff.1 hj).1;omega
  rw [add_mk]
  rw [List.getElem?_take,if_pos hjn,List.getElem?_drop] at hj
  simp only [World.cell?,h]
  simpa using hj)
 rwa [hl] at this
theorem storeCells_obj {b off:Nat} {cs vs:List Value} {t:TypeId} (h:w.heap[b]? = some (Ob cs t)) (hn:off+vs.length≤cs.length) (h1:ones vs=true) :
  (storeCells ⟨b,off,none⟩ vs).run P w = .ok () (w.setRow b (cs.take off++vs++cs.drop (off+vs.length)).toArray):=by
 have:=run_storeCells_at (P:=P) b off t vs 0 cs.toArray w h (by simpa using hn) (by simpa [ones] using h1)
 simpa using this
theorem setRow_heap {b:Nat} {c:Array Value} {t:TypeId} {fr:Nat × Nat} {c':Array Value} (h:w.heap[b]? = some (.cells c t fr)):(w.setRow b c').heap[b]? = some (.cells c' t fr):=by
 simp [World.setRow,Array.getElem?_modify,h]
theorem setRow_other {b k:Nat} {c':Array Value} (hk:k≠b):(w.setRow b c').heap[k]? = w.heap[k]? := by
 simp [World.setRow,Array.getElem?_modify,Ne.symm hk]
theorem setRow_size {b:Nat} {c':Array Value}:(w.setRow b c').heap.size=w.heap.size:=by simp [World.setRow]
end world
theorem Wd.setRow {E:Ent} {I:Imm} {M M':Own} {b:Nat} {cs cs':List Value} {t:TypeId} {w:World} (h:Wd E I M w) [m:MSet M b (Ob cs t) (Ob cs' t) M']:Wd E I M' (w.setRow b cs'.toArray):=by
 obtain ⟨M1,M2,rfl,rfl⟩:=m.h
 exact h.turn rfl rfl rfl rfl setRow_size (setRow_heap (h.own (b,Ob cs t) oI)) (fun k hk=>setRow_other hk)
theorem MSet.mem {M M':Own} {b:Nat} {o o':Obj} (m:MSet M b o o' M'):(b,o)∈M:=by
 obtain ⟨M1,M2,rfl,_⟩:=m.h;simp

section
variable {x:Cx} {Q:Exit→Act→World→Prop} {Φ:List Fa} {L:Env} {M:Own} {ops:Array Oper} {K:Act→World→Prop}
variable {d:Nat} {ty:TypeId} {pos:String} {af:Array Edge} {g:Option (Nat × Bool)}
theorem o_alloc {t:TypeId} {zs:List Value} [z:Zer x.P t zs] (hdN:Nat.blt d x.N=true) (hg:gd ops L g=some true)
  (h : ∀ b,G x Φ ((d,.pointer (some ⟨b,0,none⟩))::L) ((b,Ob zs t)::M) K):OpK x ops Q ⟨some d,.alloc t,ty,pos,af,g⟩ Φ L M K :=
 OpK.mem rfl hdN hg oI (fun I a w hp hk hw=>by
  obtain ⟨zv,hz,rfl⟩:=z.h w
  refine ⟨_,w.alloc (Ob (cellsL zv) t),Φ,_,I,?_,hp,hw.alloc _,h w.heap.size⟩
  simp [execOp,Instr.alloc,hz,newVar,newRow,Sem.run_bind,Result.andThen,Sem.run_pure,Ob,← cells_toList])
theorem o_box {t:TypeId} {y:Operand} {v:Value} {cs:List Value} (hdN:Nat.blt d x.N=true) (hg:gd ops L g=some true) (hy:ev L y=some v) (hc:cellsL v=cs)
  (h : ∀ b,G x Φ ((d,.pointer (some ⟨b,0,none⟩))::L) ((b,Ob cs t)::M) K):OpK x ops Q ⟨some d,.box t y,ty,pos,af,g⟩ Φ L M K :=
 OpK.mem rfl hdN hg oI (fun I a w hp hk hw=>by
  subst hc
  refine ⟨_,w.alloc (Ob (cellsL v) t),Φ,_,I,?_,hp,hw.alloc _,h w.heap.size⟩
  simp [execOp,Instr.box,hk.eval hy,newVar,newRow,Sem.run_bind,Result.andThen,Sem.run_pure,Ob,← cells_toList])

class Holds (Φ:List Fa) (M:Own) (b:Nat) (cs:outParam (List Value)) (t:outParam TypeId):Prop where
 h : ∀ E I w,(∀ φ∈Φ,φ.p I)→Wd E I M w→w.heap[b]? = some (Ob cs t)
instance (priority:=high) Holds.own {Φ:List Fa} {M:Own} {b:Nat} {cs:List Value} {t:TypeId} [m:MGet M b (Ob cs t)]:Holds Φ M b cs t:=⟨fun _ _ _ _ hw=>hw.own _ m.h⟩

theorem run_loadVar1 {P:Program} {t:TypeId} {a:Addr} {v:Value} {w:World} (ha : ∀ w,(isAgg t).run P w = .ok false w) (hc:w.cell? a=some v):(loadVar t a).run P w = .ok v w:=by
 simp [loadVar,ha,Sem.run_bind,Result.andThen,run_load,hc]
theorem run_loadVarA {P:Program} {t:TypeId} {b off n:Nat} {cs vs:List Value} {e:TypeId} {w:World} (ha : ∀ w,(isAgg t).run P w = .ok true w) (hs : ∀ w,(sizeOf t).run P w = .ok n w) (hb:w.heap[b]? = some (Ob cs e)) (hn:off+n≤cs.length) (hv:(cs.drop off).take n=vs) :
  (loadVar t ⟨b,off,none⟩).run P w = .ok (.agg vs.toArray) w:=by
 have:=loadCells_obj (P:=P) (w:=w) (off:=off) (n:=n) hb (by simpa using hn)
 simp [loadVar,ha,hs,Sem.run_bind,Result.andThen,this,Sem.run_pure,hv]

theorem o_load1 {t:TypeId} {y:Operand} {b off:Nat} {cs:List Value} {e:TypeId} {v:Value} [ha:IsAg x.P t false] [hh:Holds Φ M b cs e] (hdN:Nat.blt d x.N=true) (hg:gd ops L g=some true) (hy:ev L y=some (.pointer (some ⟨b,off,none⟩))) (hv:cs[off]? = some v)
  (h:G x Φ ((d,v)::L) M K):OpK x ops Q ⟨some d,.load t y,ty,pos,af,g⟩ Φ L M K :=
 OpK.val rfl hdN hg oI (fun I a w hp hk hw=>by
  have hb:=hh.h _ _ _ hp hw
  simp [execOp,Instr.loadAt,Instr.sureAddr,hk.eval hy,Sem.run_bind,Result.andThen,Sem.run_pure,run_loadVar1 ha.h (cell_Ob hb hv)]) h
theorem o_loadA {t:TypeId} {y:Operand} {b off n:Nat} {cs vs:List Value} {e:TypeId} [ha:IsAg x.P t true] [hs:Siz x.P t n] [hh:Holds Φ M b cs e] (hdN:Nat.blt d x.N=true) (hg:gd ops L g=some true) (hy:ev L y=some (.pointer (some ⟨b,off,none⟩))) (hn:off+n≤cs.length) (hv:(cs.drop off).take n=vs)
  (h:G x Φ ((d,.agg vs.toArray)::L) M K):OpK x ops Q ⟨some d,.load t y,ty,pos,af,g⟩ Φ L M K :=
 OpK.val rfl hdN hg oI (fun I a w hp hk hw=>by
  have hb:=hh.h _ _ _ hp hw
  simp [execOp,Instr.loadAt,Instr.sureAddr,hk.eval hy,Sem.run_bind,Result.andThen,Sem.run_pure,run_loadVarA ha.h hs.h hb hn hv]) h

inductive NormL {α:Type}:List α→List α→Prop
 | nil {l:List α} (h:l=[]):NormL l []
 | cons {l t t':List α} {a:α} (h:l=a::t) (k:NormL t t'):NormL l (a::t')
theorem NormL.eq {α:Type} {l l':List α} (h:NormL l l'):l=l':=by
 induction h with
 | nil h=>exact h
 | cons h _ ih=>rw [h,ih]
theorem o_loadN {t:TypeId} {y:Operand} {b off n:Nat} {cs vs:List Value} {e:TypeId} [ha:IsAg x.P t true] [hs:Siz x.P t n] [hh:Holds Φ M b cs e] (hdN:Nat.blt d x.N=true) (hg:gd ops L g=some true) (hy:ev L y=some (.pointer (some ⟨b,off,none⟩))) (hn:Nat.ble (off+n) cs.length=true) (hv:NormL ((cs.drop off).take n) vs)
  (h:G x Φ ((d,.agg vs.toArray)::L) M K):OpK x ops Q ⟨some d,.load t y,ty,pos,af,g⟩ Φ L M K :=
 o_loadA (ha:=ha) (hs:=hs) (hh:=hh) hdN hg hy (Nat.le_of_ble_eq_true hn) hv.eq h

theorem run_storeVar {P:Program} {t:TypeId} {b off n:Nat} {cs vs:List Value} {e:TypeId} {v:Value} {w:World} (hs : ∀ w,(sizeOf t).run P w = .ok n w) (hb:w.heap[b]? = some (Ob cs e)) (hc:cellsL v=vs) (hvn:vs.length=n) (hn:off+n≤cs.length) (h1:ones vs=true) :
  (storeVar t ⟨b,off,none⟩ v).run P w = .ok () (w.setRow b (cs.take off++vs++cs.drop (off+n)).toArray):=by
 have:=storeCells_obj (P:=P) (off:=off) hb (by rw [hvn];exact hn) h1
 rw [hvn] at this
 have hsz:v.cells.size=n:=by rw [← Array.length_toList,cells_toList,hc,hvn]
 simp [storeVar,hs,Sem.run_bind,Result.andThen,hsz,cells_toList,hc,this]
theorem o_store {t:TypeId} {y z:Operand} {b off n:Nat} {cs vs cs':List Value} {e:TypeId} {v:Value} {M':Own} [hs:Siz x.P t n] (hg:gd ops L g=some true) (hy:ev L y=some (.pointer (some ⟨b,off,none⟩))) (hz:ev L z=some v)
  [hm:MGet M b (Ob cs e)] (hc:cellsL v=vs) (hvn:vs.length=n) (hn:off+n≤cs.length) (h1:ones vs=true) (hcs:cs.take off++vs++cs.drop (off+n)=cs') [hm':MSet M b (Ob cs e) (Ob cs' e) M']
  (h:G x Φ L M' K):OpK x ops Q ⟨none,.store t y z,ty,pos,af,g⟩ Φ L M K :=
 OpK.mem0 rfl hg oI (fun I a w hp hk hw=>by
  have hb:=hw.own _ hm.h
  refine ⟨w.setRow b cs'.toArray,Φ,M',I,?_,hp,Wd.setRow (cs:=cs) (t:=e) hw,h⟩
  subst hcs
  simp [execOp,Instr.storeAt,Instr.sureAddr,hk.eval hy,hk.eval hz,Sem.run_bind,Result.andThen,Sem.run_pure,run_storeVar hs.h hb hc hvn hn h1])

theorem o_storeN {t:TypeId} {y z:Operand} {b off n:Nat} {cs vs cs':List Value} {e:TypeId} {v:Value} {M':Own} [hs:Siz x.P t n] (hg:gd ops L g=some true) (hy:ev L y=some (.pointer (some ⟨b,off,none⟩))) (hz:ev L z=some v)
  [hm:MGet M b (Ob cs e)] (hc:cellsL v=vs) (hvn:vs.length=n) (hn:Nat.ble (off+n) cs.length=true) (h1:ones vs=true) (hcs:NormL (cs.take off++vs++cs.drop (off+n)) cs') (hm':MSet M b (Ob cs e) (Ob cs' e) M')
  (h:G x Φ L M' K):OpK x ops Q ⟨none,.store t y z,ty,pos,af,g⟩ Φ L M K :=
 o_store (hs:=hs) (hm:=hm) (hm':=hm') hg hy hz hc hvn (Nat.le_of_ble_eq_true hn) h1 hcs.eq h

theorem o_field {s:TypeId} {y:Operand} {f b off fo:Nat} {ft:TypeId} {n:Nat} [hf:Fld x.P s f fo ft] [hs:Siz x.P ft (n+1)] (hdN:Nat.blt d x.N=true) (hg:gd ops L g=some true) (hy:ev L y=some (.pointer (some ⟨b,off,none⟩)))
  (h:G x Φ ((d,.pointer (some ⟨b,off+fo,none⟩))::L) M K):OpK x ops Q ⟨some d,.fieldAddr s y f,ty,pos,af,g⟩ Φ L M K :=
 OpK.val rfl hdN hg oI (fun I a w hp hk hw=>by
  obtain ⟨fs,fd,h1,h2,rfl,rfl⟩:=hf.h
  simp [execOp,Instr.fieldAt,Instr.sureAddr,hk.eval hy,Sem.run_bind,Result.andThen,Sem.run_pure,run_underlying h1,h2,fieldPlace,hs.h,add_mk]) h
theorem o_index {t e:TypeId} {y z:Operand} {k:IntKind} {b off n m:Nat} {i:Int} {o':Nat} [ht:ArTy x.P t n e] [hs:Siz x.P e m] (hdN:Nat.blt d x.N=true) (hg:gd ops L g=some true) (hy:ev L y=some (.pointer (some ⟨b,off,none⟩))) (hz:ev L z=some (.int k i)) (h0:0≤i) (hi:i<n) (ho:off+i.toNat*m=o')
  (h:G x Φ ((d,.pointer (some ⟨b,o',none⟩))::L) M K):OpK x ops Q ⟨some d,.indexAddr t y z,ty,pos,af,g⟩ Φ L M K :=
 OpK.val rfl hdN hg oI (fun I a w hp hk hw=>by
  subst ho
  simp [execOp,Instr.indexAt,Instr.sureAddr,asIntOf,hk.eval hy,hk.eval hz,Sem.run_bind,Result.andThen,Sem.run_pure,run_underlying ht.h,hs.h,add_mk,h0,hi]) h

end
end Go.Rail
set_option linter.unusedSimpArgs false
set_option linter.unusedVariables false
namespace Go.Rail
open Go
class GoTy (α:Type) where
 sz:Nat
 agg:Bool
 rep:Imm→List Value→α→Prop
 mono : ∀ {I J cs x},Le I J→rep I cs x→rep J cs x
 len : ∀ {I cs x},rep I cs x→cs.length=sz
 one : ∀ {I cs x},rep I cs x→ones cs=true
 agg1:agg=false→sz=1

def mkv (agg:Bool) (cs:List Value):Value:=bif agg then .agg cs.toArray else cs.headD undef
theorem cellsL_mkv_agg (cs:List Value):cellsL (mkv true cs)=cs:=by simp [mkv,cellsL]
theorem cellsL_mkv {agg:Bool} {cs:List Value} (h1:ones cs=true) (hl:agg=false→cs.length=1):cellsL (mkv agg cs)=cs:=by
 cases agg with
 | true=>exact cellsL_mkv_agg cs
 | false =>
  match cs,hl rfl with
  | [c],_=>cases c<;>simp_all [mkv,cellsL,ones,Value.oneCell']

def Rp {α:Type} [GoTy α] (I:Imm) (v:Value) (x:α):Prop:=∃ cs,v=mkv (GoTy.agg α) cs∧GoTy.rep I cs x
theorem Rp.mono {α:Type} [GoTy α] {I J:Imm} {v:Value} {x:α} (hl:Le I J) (h:Rp I v x):Rp J v x:=by
 obtain ⟨cs,h1,h2⟩:=h;exact ⟨cs,h1,GoTy.mono hl h2⟩
theorem Rp.cells {α:Type} [GoTy α] {I:Imm} {v:Value} {x:α} (h:Rp I v x):GoTy.rep I (cellsL v) x:=by
 obtain ⟨cs,rfl,h2⟩:=h
 rw [cellsL_mkv (GoTy.one h2) (fun e=>by rw [GoTy.len h2,GoTy.agg1 e])]
 exact h2

class GoFlat (α:Type) [GoTy α] where
 enc:α→List Value
 val:α→Value
 rep_iff : ∀ {I cs x},GoTy.rep I cs x↔cs=enc x
 val_eq : ∀ x,val x=mkv (GoTy.agg α) (enc x)

def fRp {α:Type} [GoTy α] (v:Value) (x:α):Fa:=⟨v,fun I=>Rp I v x,fun _ _ hl h=>h.mono hl⟩
def fBlk (b:Nat) (cs:List Value) (t:TypeId):Fa:=⟨.pointer (some ⟨b,0,none⟩),fun I=>I b=some (Ob cs t),fun _ _ hl h=>hl _ _ h⟩
def PtAt {α:Type} [GoTy α] (I:Imm) (p:Value) (x:α):Prop :=
 ∃ b off c t fr,p = .pointer (some ⟨b,off,none⟩)∧I b=some (.cells c t fr)∧off+GoTy.sz α≤c.size∧GoTy.rep I ((c.toList.drop off).take (GoTy.sz α)) x
def fPt {α:Type} [GoTy α] (p:Value) (x:α):Fa:=⟨p,fun I=>PtAt I p x,fun I J hl h=>by
 obtain ⟨b,off,c,t,fr,h1,h2,h3,h4⟩:=h;exact ⟨b,off,c,t,fr,h1,hl _ _ h2,h3,GoTy.mono hl h4⟩⟩

class KRp (Φ:List Fa) (v:Value) {α:outParam Type} [i:outParam (GoTy α)] (x:outParam α):Prop where h : @fRp α i v x∈Φ
instance (priority:=high) KRp.head {Φ:List Fa} {v:Value} {α:Type} [GoTy α] {x:α}:KRp (fRp v x::Φ) v x:=⟨.head _⟩
instance KRp.tail {Φ:List Fa} {φ:Fa} {v:Value} {α:Type} [GoTy α] {x:α} [t:KRp Φ v x]:KRp (φ::Φ) v x:=⟨.tail _ t.h⟩
class KPt (Φ:List Fa) (v:Value) {α:outParam Type} [i:outParam (GoTy α)] (x:outParam α):Prop where h : @fPt α i v x∈Φ
instance (priority:=high) KPt.head {Φ:List Fa} {v:Value} {α:Type} [GoTy α] {x:α}:KPt (fPt v x::Φ) v x:=⟨.head _⟩
instance KPt.tail {Φ:List Fa} {φ:Fa} {v:Value} {α:Type} [GoTy α] {x:α} [t:KPt Φ v x]:KPt (φ::Φ) v x:=⟨.tail _ t.h⟩
class KBlk (Φ:List Fa) (b:Nat) (cs:outParam (List Value)) (t:outParam TypeId):Prop where h:fBlk b cs t∈Φ
instance (priority:=high) KBlk.head {Φ:List Fa} {b:Nat} {cs:List Value} {t:TypeId}:KBlk (fBlk b cs t::Φ) b cs t:=⟨.head _⟩
instance KBlk.tail {Φ:List Fa} {φ:Fa} {b:Nat} {cs:List Value} {t:TypeId} [t':KBlk Φ b cs t]:KBlk (φ::Φ) b cs t:=⟨.tail _ t'.h⟩
instance (priority:=low) Holds.blk {Φ:List Fa} {M:Own} {b:Nat} {cs:List Value} {t:TypeId} [k:KBlk Φ b cs t]:Holds Φ M b cs t:=⟨fun _ I _ hp hw=>hw.imm b _ (hp _ k.h)⟩

class Ent' (Φ:List Fa) (φ:Fa):Prop where h : ∀ I,(∀ ψ∈Φ,ψ.p I)→φ.p I
instance Ent'.rp {Φ:List Fa} {v:Value} {α:Type} [GoTy α] {x:α} [k:KRp Φ v x]:Ent' Φ (fRp v x):=⟨fun _ hp=>hp _ k.h⟩
instance Ent'.pt {Φ:List Fa} {v:Value} {α:Type} [GoTy α] {x:α} [k:KPt Φ v x]:Ent' Φ (fPt v x):=⟨fun _ hp=>hp _ k.h⟩
instance Ent'.blk {Φ:List Fa} {b:Nat} {cs:List Value} {t:TypeId} [k:KBlk Φ b cs t]:Ent' Φ (fBlk b cs t):=⟨fun _ hp=>hp _ k.h⟩
class Ents (Φ:List Fa) (l:List Fa):Prop where h : ∀ I,(∀ ψ∈Φ,ψ.p I) → ∀ φ∈l,φ.p I
instance Ents.nil {Φ:List Fa}:Ents Φ []:=⟨fun _ _ _ h=>by cases h⟩
instance Ents.cons {Φ l:List Fa} {φ:Fa} [a:Ent' Φ φ] [b:Ents Φ l]:Ents Φ (φ::l):=⟨fun I hp ψ hψ=>by
 rcases List.mem_cons.1 hψ with rfl|h
 ·exact a.h I hp
 ·exact b.h I hp ψ h⟩

instance:GoTy Int where
 sz:=1
 agg:=false
 rep:=fun _ cs n=>cs=[.int .i64 n]
 mono:=fun _ h=>h
 len:=fun h=>by rw [h];rfl
 one:=fun h=>by rw [h];rfl
 agg1:=fun _=>rfl
instance:GoFlat Int where
 enc:=fun n=>[.int .i64 n]
 val:=fun n => .int .i64 n
 rep_iff:=Iff.rfl
 val_eq:=fun _=>rfl
instance:GoTy Bool where
 sz:=1
 agg:=false
 rep:=fun _ cs b=>cs=[.bool b]
 mono:=fun _ h=>h
 len:=fun h=>by rw [h];rfl
 one:=fun h=>by rw [h];rfl
 agg1:=fun _=>rfl
instance:GoFlat Bool where
 enc:=fun n=>[.bool n]
 val:=fun n => .bool n
 rep_iff:=Iff.rfl
 val_eq:=fun _=>rfl
instance:GoTy UInt8 where
 sz:=1
 agg:=false
 rep:=fun _ cs n=>cs=[.int .u8 n.toNat]
 mono:=fun _ h=>h
 len:=fun h=>by rw [h];rfl
 one:=fun h=>by rw [h];rfl
 agg1:=fun _=>rfl
instance:GoFlat UInt8 where
 enc:=fun n=>[.int .u8 n.toNat]
 val:=fun n => .int .u8 n.toNat
 rep_iff:=Iff.rfl
 val_eq:=fun _=>rfl
instance:GoTy UInt64 where
 sz:=1
 agg:=false
 rep:=fun _ cs n=>cs=[.int .u64 n.toNat]
 mono:=fun _ h=>h
 len:=fun h=>by rw [h];rfl
 one:=fun h=>by rw [h];rfl
 agg1:=fun _=>rfl
instance:GoFlat UInt64 where
 enc:=fun n=>[.int .u64 n.toNat]
 val:=fun n => .int .u64 n.toNat
 rep_iff:=Iff.rfl
 val_eq:=fun _=>rfl
instance:GoTy ByteArray where
 sz:=1
 agg:=false
 rep:=fun _ cs n=>cs=[.string n]
 mono:=fun _ h=>h
 len:=fun h=>by rw [h];rfl
 one:=fun h=>by rw [h];rfl
 agg1:=fun _=>rfl
instance:GoFlat ByteArray where
 enc:=fun n=>[.string n]
 val:=fun n => .string n
 rep_iff:=Iff.rfl
 val_eq:=fun _=>rfl

class ValOf {α:Type} [GoTy α] [GoFlat α] (z:α) (u:outParam Value):Prop where h:GoFlat.val z=u
instance (n:Int):ValOf n (.int .i64 n):=⟨rfl⟩
instance (n:Bool):ValOf n (.bool n):=⟨rfl⟩
instance (n:UInt8):ValOf n (.int .u8 n.toNat):=⟨rfl⟩
instance (n:UInt64):ValOf n (.int .u64 n.toNat):=⟨rfl⟩
instance (n:ByteArray):ValOf n (.string n):=⟨rfl⟩

def chunk (cs:List Value) (off sz k:Nat):List Value:=(cs.drop (off+k*sz)).take sz
def RowRep {α:Type} [GoTy α] (I:Imm) (cs:List Value) (off:Nat) (xs:List α):Prop :=
 off+xs.length*GoTy.sz α≤cs.length ∧ ∀ k (h:k<xs.length),GoTy.rep I (chunk cs off (GoTy.sz α) k) xs[k]
def SlRep {α:Type} [GoTy α] (I:Imm) (a:Option Addr) (cap:Nat) (xs:List α):Prop :=
 xs.length≤cap∧(xs≠[] → ∃ ad c t fr,a=some ad∧ad.spot=none∧I ad.block=some (.cells c t fr)∧RowRep I c.toList ad.off xs)
theorem RowRep.mono {α:Type} [GoTy α] {I J:Imm} {cs:List Value} {off:Nat} {xs:List α} (hl:Le I J) (h:RowRep I cs off xs):RowRep J cs off xs :=
 ⟨h.1,fun k hk=>GoTy.mono hl (h.2 k hk)⟩
instance {α:Type} [GoTy α]:GoTy (List α) where
 sz:=1
 agg:=false
 rep:=fun I cs xs => ∃ a cap,cs=[.slice a xs.length cap]∧SlRep I a cap xs
 mono:=fun hl h=>by
  obtain ⟨a,cap,h1,h2,h3⟩:=h
  refine ⟨a,cap,h1,h2,fun hne => ?_⟩
  obtain ⟨ad,c,t,fr,e1,e2,e3,e4⟩:=h3 hne
  exact ⟨ad,c,t,fr,e1,e2,hl _ _ e3,e4.mono hl⟩
 len:=fun h=>by obtain ⟨a,cap,h1,_⟩:=h;rw [h1];rfl
 one:=fun h=>by obtain ⟨a,cap,h1,_⟩:=h;rw [h1];rfl
 agg1:=fun _=>rfl
theorem Rp.slice {α:Type} [GoTy α] {I:Imm} {v:Value} {xs:List α} (h:Rp I v xs) : ∃ a cap,v = .slice a xs.length cap∧SlRep I a cap xs:=by
 obtain ⟨cs,rfl,a,cap,rfl,h2⟩:=h
 exact ⟨a,cap,rfl,h2⟩
theorem Rp.mkSlice {α:Type} [GoTy α] {I:Imm} {a:Option Addr} {cap n:Nat} {xs:List α} (h:SlRep I a cap xs) (hn:n=xs.length):Rp I (.slice a n cap) xs:=by
 subst hn;exact ⟨[.slice a xs.length cap],rfl,a,cap,rfl,h⟩
theorem Rp.nil {α:Type} [GoTy α] {I:Imm} (a:Option Addr) (cap:Nat):Rp I (.slice a 0 cap) ([]:List α) :=
 Rp.mkSlice ⟨Nat.zero_le _,fun h=>absurd rfl h⟩ rfl
instance Ent'.nil {Φ:List Fa} {α:Type} [GoTy α] {cap:Nat} {a:Option Addr}:Ent' Φ (fRp (.slice a 0 cap) ([]:List α)):=⟨fun _ _=>Rp.nil a cap⟩
theorem Rp.flat {α:Type} [GoTy α] [GoFlat α] {I:Imm} {v:Value} {x:α}:Rp I v x↔v=GoFlat.val x:=by
 constructor
 ·rintro ⟨cs,rfl,h⟩;rw [GoFlat.val_eq,← GoFlat.rep_iff.1 h]
 ·rintro rfl;exact ⟨GoFlat.enc x,GoFlat.val_eq x,GoFlat.rep_iff.2 rfl⟩

theorem RowRep.drop {α:Type} [GoTy α] {I:Imm} {cs:List Value} {off:Nat} {xs:List α} (h:RowRep I cs off xs) (n:Nat) (hn:n≤xs.length):RowRep I cs (off+n*GoTy.sz α) (xs.drop n):=by
 obtain ⟨h1,h2⟩:=h
 refine ⟨?_,fun k hk => ?_⟩
 ·rw [List.length_drop,Nat.sub_mul]
  have:n*GoTy.sz α≤xs.length*GoTy.sz α:=Nat.mul_le_mul_right _ hn
  omega
 ·have hk':n+k<xs.length:=by simp at hk;omega
  have:=h2 (n+k) hk'
  rw [List.getElem_drop]
  unfold chunk at *
  rwa [Nat.add_mul,← Nat.add_assoc] at this
theorem RowRep.take {α:Type} [GoTy α] {I:Imm} {cs:List Value} {off:Nat} {xs:List α} (h:RowRep I cs off xs) (n:Nat):RowRep I cs off (xs.take n):=by
 obtain ⟨h1,h2⟩:=h
 refine ⟨?_,fun k hk => ?_⟩
 ·have:(xs.take n).length*GoTy.sz α≤xs.length*GoTy.sz α:=Nat.mul_le_mul_right _ oX
  omega
 ·have hk':k<xs.length:=by simp at hk;omega
  simpa using h2 k hk'
end Go.Rail
set_option linter.unusedSimpArgs false
set_option linter.unusedVariables false
namespace Go.Rail
open Go
section
variable {x:Cx} {Q:Exit→Act→World→Prop} {Φ:List Fa} {L:Env} {M:Own} {ops:Array Oper} {K:Act→World→Prop}
variable {d:Nat} {ty:TypeId} {pos:String} {af:Array Edge} {g:Option (Nat × Bool)}
theorem G.learn {F:Act→World→Prop} (φ:Fa) [e:Ent' Φ φ] (h:G x (φ::Φ) L M F):G x Φ L M F:=by
 intro I a w hp hk hw
 refine h I a w (fun ψ hψ => ?_) hk hw
 rcases List.mem_cons.1 hψ with rfl|hψ
 ·exact e.h I hp
 ·exact hp ψ hψ
theorem G.use {F:Act→World→Prop} {p:Prop} (hΦ : ∀ I,(∀ ψ∈Φ,ψ.p I)→p) (h:p→G x Φ L M F):G x Φ L M F :=
 fun I a w hp hk hw=>h (hΦ I hp) I a w hp hk hw
theorem G.give {F:Act→World→Prop} {M':Own} (b:Nat) {cs:List Value} {t:TypeId} [m:MDel M b (Ob cs t) M'] (h:G x (fBlk b cs t::Φ) L M' F):G x Φ L M F:=by
 intro I a w hp hk hw
 have hw':=hw.perm m.h
 have hn:I b=none:=hw'.sep (b,Ob cs t) oI
 refine h _ a w ?_ hk hw'.give
 intro φ hφ
 rcases List.mem_cons.1 hφ with rfl|hφ
 ·show (if b=b then some (Ob cs t) else I b)=some (Ob cs t);simp
 ·exact φ.mono _ _ (Le.give hn) (hp φ hφ)
theorem G.drop {F:Act→World→Prop} {M':Own} (b:Nat) {o:Obj} [m:MDel M b o M'] (h:G x Φ L M' F):G x Φ L M F :=
 fun I a w hp hk hw=>h I a w hp hk ((hw.perm m.h).sub (List.sublist_cons_self _ _))
theorem G.slice {F:Act→World→Prop} {α:Type} [GoTy α] (v:Value) (xs:List α) [k:Ent' Φ (fRp v xs)] (h : ∀ a cap,v = .slice a xs.length cap→xs.length≤cap→G x Φ L M F):G x Φ L M F:=by
 intro I a w hp hk hw
 obtain ⟨ad,cap,e,h1⟩:=Rp.slice (k.h I hp)
 exact h ad cap e h1.1 I a w hp hk hw

theorem o_len {α:Type} [GoTy α] {t e:TypeId} {y:Operand} {v:Value} {xs:List α} [ht:SlTy x.P t e] [k:KRp Φ v xs] (hdN:Nat.blt d x.N=true) (hg:gd ops L g=some true) (hy:ev L y=some v)
  (h:G x Φ ((d,.int .i64 xs.length)::L) M K):OpK x ops Q ⟨some d,.call ⟨.builtin .len,#[y],#[t]⟩,ty,pos,af,g⟩ Φ L M K :=
 OpK.val rfl hdN hg oI (fun I a w hp hk hw=>by
  obtain ⟨ad,cap,rfl,_⟩:=Rp.slice (hp _ k.h)
  simp [execOp,resolve,hk.eval hy,invoke,builtin,Builtin.len_,run_underlying ht.h,goInt,Sem.run_bind,Result.andThen,Sem.run_pure]) h
theorem o_lenS {t e:TypeId} {y:Operand} {ad:Option Addr} {n cap:Nat} [ht:SlTy x.P t e] (hdN:Nat.blt d x.N=true) (hg:gd ops L g=some true) (hy:ev L y=some (.slice ad n cap))
  (h:G x Φ ((d,.int .i64 n)::L) M K):OpK x ops Q ⟨some d,.call ⟨.builtin .len,#[y],#[t]⟩,ty,pos,af,g⟩ Φ L M K :=
 OpK.val rfl hdN hg oI (fun I a w hp hk hw=>by
  simp [execOp,resolve,hk.eval hy,invoke,builtin,Builtin.len_,run_underlying ht.h,goInt,Sem.run_bind,Result.andThen,Sem.run_pure]) h

theorem o_idx {α:Type} [i:GoTy α] {t e:TypeId} {y z:Operand} {k:IntKind} {n:Int} {v:Value} {xs:List α} [ht:SlTy x.P t e] [hs:Siz x.P e (GoTy.sz α)] [kr:KRp Φ v xs] (hdN:Nat.blt d x.N=true) (hg:gd ops L g=some true) (hy:ev L y=some v) (hz:ev L z=some (.int k n)) (h0:0≤n) (hi:n.toNat<xs.length)
  (h : ∀ p,G x (fPt p xs[n.toNat]::Φ) ((d,p)::L) M K):OpK x ops Q ⟨some d,.indexAddr t y z,ty,pos,af,g⟩ Φ L M K :=
 OpK.mem rfl hdN hg oI (fun I a w hp hk hw=>by
  obtain ⟨ad,cap,rfl,h1,h2⟩:=Rp.slice (hp _ kr.h)
  obtain ⟨⟨b,off,sp⟩,c,t',fr,rfl,hsp,hb,hr1,hr2⟩:=h2 (by intro e;simp [e] at hi)
  simp only at hsp hb hr1 hr2
  subst hsp
  refine ⟨.pointer (some ⟨b,off+n.toNat*GoTy.sz α,none⟩),w,fPt (.pointer (some ⟨b,off+n.toNat*GoTy.sz α,none⟩)) xs[n.toNat]::Φ,M,I,?_,?_,hw,h _⟩
  ·have hlt:n<(xs.length:Int):=by omega
   simp [execOp,Instr.indexAt,asIntOf,hk.eval hy,hk.eval hz,Sem.run_bind,Result.andThen,Sem.run_pure,run_underlying ht.h,hs.h,add_mk,h0,hlt]
  ·intro φ hφ
   rcases List.mem_cons.1 hφ with rfl|hφ
   ·refine ⟨b,off+n.toNat*GoTy.sz α,c,t',fr,rfl,hb,?_,hr2 n.toNat hi⟩
    have:=Nat.mul_le_mul_right (GoTy.sz α) (Nat.succ_le_of_lt hi)
    rw [Nat.succ_mul] at this
    simp at hr1
    omega
   ·exact hp φ hφ)

theorem o_idxN {α:Type} [GoTy α] {t e:TypeId} {y z:Operand} {k:IntKind} {n:Int} {v:Value} {xs:List α} (i:Nat) [ht:SlTy x.P t e] [hs:Siz x.P e (GoTy.sz α)] [kr:KRp Φ v xs] (hdN:Nat.blt d x.N=true) (hg:gd ops L g=some true) (hy:ev L y=some v) (hz:ev L z=some (.int k n)) (hn:n=(i:Int)) (hi:i<xs.length)
  (h : ∀ p,G x (fPt p xs[i]::Φ) ((d,p)::L) M K):OpK x ops Q ⟨some d,.indexAddr t y z,ty,pos,af,g⟩ Φ L M K:=by
 subst hn
 exact o_idx (ht:=ht) (hs:=hs) (kr:=kr) hdN hg hy hz (Int.natCast_nonneg i) hi h

theorem o_loadT {α:Type} [GoTy α] [GoFlat α] (z:α) {t:TypeId} {y:Operand} {b off:Nat} {cs:List Value} {e:TypeId} {u:Value} [ha:IsAg x.P t true] [hs:Siz x.P t (GoTy.sz α)] [hh:Holds Φ M b cs e] [vo:ValOf z u] (hdN:Nat.blt d x.N=true) (hg:gd ops L g=some true) (hy:ev L y=some (.pointer (some ⟨b,off,none⟩))) (hag:GoTy.agg α=true) (hn:off+GoTy.sz α≤cs.length) (hv:(cs.drop off).take (GoTy.sz α)=GoFlat.enc z)
  (h:G x Φ ((d,u)::L) M K):OpK x ops Q ⟨some d,.load t y,ty,pos,af,g⟩ Φ L M K:=by
 have hu:=vo.h
 subst hu
 rw [GoFlat.val_eq,hag] at h
 exact o_loadA (ha:=ha) (hs:=hs) (hh:=hh) hdN hg hy hn hv h

theorem o_loadF {α:Type} [i:GoTy α] [f:GoFlat α] {t:TypeId} {y:Operand} {p:Value} {z:α} {ag:Bool} [ha:IsAg x.P t ag] [hs:Siz x.P t (GoTy.sz α)] [kp:KPt Φ p z] {u:Value} [vo:ValOf z u] (hdN:Nat.blt d x.N=true) (hg:gd ops L g=some true) (hy:ev L y=some p) (hag:GoTy.agg α=ag)
  (h:G x Φ ((d,u)::L) M K):OpK x ops Q ⟨some d,.load t y,ty,pos,af,g⟩ Φ L M K:=by
 have hu:=vo.h
 subst hu
 exact OpK.val rfl hdN hg oI (fun I a w hp hk hw=>by
  obtain ⟨b,off,c,t',fr,rfl,hb,hle,hr⟩:=hp _ kp.h
  have hb':=hw.imm _ _ hb
  have hc:=loadCells_obj (P:=x.P) (w:=w) (off:=off) (n:=GoTy.sz α) hb' hle
  rw [GoFlat.rep_iff.1 hr] at hc
  rw [GoFlat.val_eq,hag]
  cases ag with
  | true=>simp [execOp,Instr.loadAt,Instr.sureAddr,hk.eval hy,Sem.run_bind,Result.andThen,Sem.run_pure,loadVar,ha.h,hs.h,hc,mkv]
  | false =>
   have h1:GoTy.sz α=1:=GoTy.agg1 hag
   rw [h1] at hr hle
   have hv:w.cell? ⟨b,off,none⟩=some ((GoFlat.enc z).headD undef):=by
    rw [← GoFlat.rep_iff.1 hr]
    have hlt:off<c.size:=by omega
    simp only [World.cell?,hb']
    simp [List.take_one,List.head?_drop,hlt]
   simp [execOp,Instr.loadAt,Instr.sureAddr,hk.eval hy,Sem.run_bind,Result.andThen,Sem.run_pure,run_loadVar1 ha.h hv,mkv]) h
theorem o_loadR {α:Type} [i:GoTy α] {t:TypeId} {y:Operand} {p:Value} {z:α} {ag:Bool} [ha:IsAg x.P t ag] [hs:Siz x.P t (GoTy.sz α)] [kp:KPt Φ p z] (hdN:Nat.blt d x.N=true) (hg:gd ops L g=some true) (hy:ev L y=some p) (hag:GoTy.agg α=ag)
  (h : ∀ v,G x (fRp v z::Φ) ((d,v)::L) M K):OpK x ops Q ⟨some d,.load t y,ty,pos,af,g⟩ Φ L M K :=
 OpK.mem rfl hdN hg oI (fun I a w hp hk hw=>by
  obtain ⟨b,off,c,t',fr,rfl,hb,hle,hr⟩:=hp _ kp.h
  have hb':=hw.imm _ _ hb
  have hc:=loadCells_obj (P:=x.P) (w:=w) (off:=off) (n:=GoTy.sz α) hb' hle
  refine ⟨mkv ag ((c.toList.drop off).take (GoTy.sz α)),w,fRp (mkv ag ((c.toList.drop off).take (GoTy.sz α))) z::Φ,M,I,?_,?_,hw,h _⟩
  ·cases ag with
   | true=>simp [execOp,Instr.loadAt,Instr.sureAddr,hk.eval hy,Sem.run_bind,Result.andThen,Sem.run_pure,loadVar,ha.h,hs.h,hc,mkv]
   | false =>
    have h1:GoTy.sz α=1:=GoTy.agg1 hag
    rw [h1] at hle ⊢
    have hv:w.cell? ⟨b,off,none⟩=some (((c.toList.drop off).take 1).headD undef):=by
     have hlt:off<c.size:=by omega
     simp only [World.cell?,hb']
     simp [List.take_one,List.head?_drop,hlt]
    simp [execOp,Instr.loadAt,Instr.sureAddr,hk.eval hy,Sem.run_bind,Result.andThen,Sem.run_pure,run_loadVar1 ha.h hv,mkv]
  ·intro φ hφ
   rcases List.mem_cons.1 hφ with rfl|hφ
   ·exact ⟨_,by rw [hag],hr⟩
   ·exact hp φ hφ)
class PartOf {α β:Type} [GoTy α] [GoTy β] (off:Nat) (get:outParam (α→β)):Prop where
 le:off+GoTy.sz β≤GoTy.sz α
 h : ∀ I cs (z:α),GoTy.rep I cs z→GoTy.rep I ((cs.drop off).take (GoTy.sz β)) (get z)
def Fn (P:Program) (f:FuncId) (args:List Value) (Φ:List Fa) (Mc:Own) (R:Value→List Fa→Own→Prop):Prop :=
 ∀ I w,(∀ φ∈Φ,φ.p I)→Wd ⟨I,doms Mc,w⟩ I Mc w →
  Calls P f args.toArray w fun e w' => ∃ v Φ' Mc' I',e = .returned v∧R v Φ' Mc'∧(∀ φ∈Φ',φ.p I')∧Wd ⟨I,doms Mc,w⟩ I' Mc' w'
abbrev FnV (P:Program) (f:FuncId) (args:List Value) (Φ:List Fa) (v:Value):Prop:=Fn P f args Φ [] fun u Φ' Mc'=>u=v∧Φ'=[]∧Mc'=[]
abbrev FnD (P:Program) (f:FuncId) (args:List Value) (Φ:List Fa) (ψ:Value→List Fa):Prop:=Fn P f args Φ [] fun u Φ' Mc'=>Φ'=ψ u∧Mc'=[]

theorem Fn.weaken {P:Program} {f:FuncId} {args:List Value} {Φ Φ':List Fa} {Mc:Own} {R:Value→List Fa→Own→Prop} (h:Fn P f args Φ Mc R) [e:Ents Φ' Φ]:Fn P f args Φ' Mc R :=
 fun I w hp hw=>h I w (e.h I hp) hw

theorem evs_map {N:Nat} {ds:List Deferred} {a:Act} (hk:Kn N L ds a) : ∀ {l:List Operand} {vs:List Value},l.mapM (ev L)=some vs→l.map a.eval=vs:=by
 intro l
 induction l with
 | nil=>intro vs h;simp at h;simp [h]
 | cons o l ih =>
  intro vs h
  simp only [List.mapM_cons,Option.bind_eq_bind,Option.bind_eq_some_iff,Option.pure_def,Option.some.injEq] at h
  obtain ⟨v,hv,vs',hvs,rfl⟩:=h
  simp [hk.eval hv,ih hvs]

class HasFn (P:Program) (f:FuncId):Prop where h : ∀ args w,(callFunc f args).run P w = .ok (.enter f args) w

theorem callsIn_FR {r:Option Nat} {n:Nat} {P:Program} {f:FuncId} {args:Array Value} {w:World} {R:Ending→World→Prop} (h:Calls P f args w R):CallsIn (FR r) n P f args w R:=by
 have:=(callsIn_wide (n:=n)).2 h
 cases r with
 | none=>exact this
 | some l=>exact this

theorem OpK.call {y:Operand} {args:List Operand} {vs cap:List Value} {ts:Array TypeId} {f:FuncId} {R:Value→List Fa→Own→Prop} {Φc:List Fa} {Mc Mr:Own}
  (hdN:Nat.blt d x.N=true) (hg:gd ops L g=some true) (hy:ev L y=some (.func (.func f) #[] cap.toArray)) [hf:HasFn x.P f] (hargs:args.mapM (ev L)=some vs)
  (c:Fn x.P f (vs++cap) Φc Mc R) (hΦ:Ents Φ Φc) (hM:M.Perm (Mc++Mr))
  (h : ∀ v Φ' Mc',R v Φ' Mc'→G x (Φ'++Φ) ((d,v)::L) (Mc'++Mr) K):OpK x ops Q ⟨some d,.call ⟨.value y,args.toArray,ts⟩,ty,pos,af,g⟩ Φ L M K:=by
 intro I a w hp hk hw
 unfold opRun
 rw [if_pos (gd_wanted hk hg)]
 refine ⟨fun f _=>FR_fn _ f,?_⟩
 rw [Oper.semAt_eq _ _ _ oI]
 have hw':=hw.perm hM
 have hws:Wd ⟨I,doms Mc,w⟩ I Mc w:=hw'.start (List.sublist_append_left _ _)
 have hc:=c I w (hΦ.h I hp) hws
 have hrun:(execOp a.eval ⟨some d,.call ⟨.value y,args.toArray,ts⟩,ty,pos,af,g⟩).run x.P w = .ok (.enter f (vs++cap).toArray) w:=by
  simp [execOp,resolve,hk.eval hy,Deferred.ofValue,evs_map hk hargs,invoke,hf.h,Sem.run_bind,Result.andThen,Sem.run_pure]
 rw [hrun]
 simp only [Oper.uponIn]
 refine ⟨fun hd=>(by rw [FR_depth] at hd;cases hd),(callsIn_FR hc).mono ?_⟩
 rintro e w' ⟨v,Φ',Mc',I',rfl,hR,hf',hwd⟩
 refine h v Φ' Mc' hR I' _ w' ?_ (hk.put v hdN) (hw'.back hwd)
 intro φ hφ
 rcases List.mem_append.1 hφ with hφ|hφ
 ·exact hf' φ hφ
 ·exact φ.mono _ _ hwd.up (hp φ hφ)

theorem o_callV {y:Operand} {args:List Operand} {vs cap:List Value} {ts:Array TypeId} {f:FuncId} {Φc:List Fa} {v v':Value}
  (hdN:Nat.blt d x.N=true) (hg:gd ops L g=some true) (hy:ev L y=some (.func (.func f) #[] cap.toArray)) [hf:HasFn x.P f] (hargs:args.mapM (ev L)=some vs) (c:FnV x.P f (vs++cap) Φc v) (hv:v=v') [hΦ:Ents Φ Φc]
  (h:G x Φ ((d,v')::L) M K):OpK x ops Q ⟨some d,.call ⟨.value y,args.toArray,ts⟩,ty,pos,af,g⟩ Φ L M K :=
 OpK.call hdN hg hy hargs c hΦ (Mr:=M) oI (by rintro u Φ' Mc' ⟨rfl,rfl,rfl⟩;subst hv;exact h)
theorem o_callD {y:Operand} {args:List Operand} {vs cap:List Value} {ts:Array TypeId} {f:FuncId} {Φc:List Fa} {ψ:Value→Fa}
  (hdN:Nat.blt d x.N=true) (hg:gd ops L g=some true) (hy:ev L y=some (.func (.func f) #[] cap.toArray)) [hf:HasFn x.P f] (hargs:args.mapM (ev L)=some vs) (c:FnD x.P f (vs++cap) Φc (fun v=>[ψ v])) [hΦ:Ents Φ Φc]
  (h : ∀ v,G x (ψ v::Φ) ((d,v)::L) M K):OpK x ops Q ⟨some d,.call ⟨.value y,args.toArray,ts⟩,ty,pos,af,g⟩ Φ L M K :=
 OpK.call hdN hg hy hargs c hΦ (Mr:=M) oI (by rintro u Φ' Mc' ⟨rfl,rfl⟩;exact h u)

def envOf:Nat→List Value→Env
 | _,[]=>[]
 | i,v::l=>(i,v)::envOf (i+1) l
theorem look_envOf : ∀ (l:List Value) (i t:Nat) (v:Value),look (envOf i l) t=some v→i≤t∧l[t-i]? = some v
 | [],i,t,v,h=>by cases h
 | u::l,i,t,v,h=>by
  simp only [envOf,look] at h
  by_cases e:i=t
  ·subst e;simp at h;simp [h]
  ·rw [nbeq_ne e] at h
   simp only [cond_false] at h
   obtain ⟨h1,h2⟩:=look_envOf l (i+1) t v h
   refine ⟨by omega,?_⟩
   rw [show t-i=(t-(i+1))+1 from by omega]
   simpa using h2

def Post (P:Program) (fn:Func) (I:Imm) (Mc:Own) (w0:World) (R:Value→List Fa→Own→Prop):Exit→Act→World→Prop :=
 bodyPostM (FR none) 0 P fn fun e w' => ∃ v Φ' Mc' I',e = .returned v∧R v Φ' Mc'∧(∀ φ∈Φ',φ.p I')∧Wd ⟨I,doms Mc,w0⟩ I' Mc' w'

theorem Fn.enter {P:Program} {f:FuncId} {fn:Func} {c:Code} {args:List Value} {Φ:List Fa} {Mc:Own} {R:Value→List Fa→Own→Prop} {N:Nat}
  (hf:P.funcs[f]? = some fn) (hb:fn.body=some c) (hN:fn.ntmps=N) (hle:args.length≤N)
  (h : ∀ I0 w0,W ⟨P,none,⟨I0,doms Mc,w0⟩,N,[]⟩ c (Post P fn I0 Mc w0 R) Φ (envOf 0 args) Mc):Fn P f args Φ Mc R:=by
 intro I w hp hw
 refine (callsIn_wide (n:=0)).1 (callsIn_of_wp_marks hf hb trivial ?_)
 refine h I w I _ w hp ⟨?_,?_,rfl⟩ hw
 ·subst hN;simp;omega
 ·intro t v hv
  obtain ⟨_,hv⟩:=look_envOf _ _ _ _ hv
  simp only [Nat.sub_zero] at hv
  have hlt:=(List.getElem?_eq_some_iff.1 hv).1
  rw [Array.getElem?_append_left (by simpa using hlt)]
  simpa using hv

inductive Res (P:Program) (Φ:List Fa) (L:Env) (M:Own):ResultVar→Value→Prop
 | tmp {t:Nat} {v:Value} (h:look L t=some v):Res P Φ L M (.tmp t) v
 | cellA {t n b e:Nat} {T:TypeId} {cs:List Value} [ha:IsAg P T true] [hs:Siz P T n] [hh:Holds Φ M b cs e] (h:look L t=some (.pointer (some ⟨b,0,none⟩))) (hn:cs.length=n):Res P Φ L M (.cell t T) (.agg cs.toArray)
 | cell1 {t b e:Nat} {T:TypeId} {v:Value} [ha:IsAg P T false] [hh:Holds Φ M b [v] e] (h:look L t=some (.pointer (some ⟨b,0,none⟩))):Res P Φ L M (.cell t T) v

def resSem (a:Act):ResultVar→Sem Value
 | .tmp t=>pure (a.tmps.getD t undef)
 | .cell p t=>do loadVar t (← asAddr (a.tmps.getD p undef))
theorem Res.run {P:Program} {N:Nat} {ds:List Deferred} {I:Imm} {E:Ent} {a:Act} {w:World} (hk:Kn N L ds a) (hp : ∀ φ∈Φ,φ.p I) (hw:Wd E I M w) {rv:ResultVar} {v:Value} (h:Res P Φ L M rv v):(resSem a rv).run P w = .ok v w:=by
 cases h with
 | tmp h=>simp [resSem,hk.val _ _ h,Sem.run_pure]
 | @cellA t n b e T cs ha hs hh h hn =>
  have:=run_loadVarA (P:=P) (t:=T) (off:=0) ha.h hs.h (hh.h _ _ _ hp hw) oM rfl
  subst hn
  simp [resSem,hk.val _ _ h,Sem.run_bind,Result.andThen,asAddr,Sem.run_pure,this]
 | @cell1 t b e T v ha hh h =>
  have:=run_loadVar1 (P:=P) (t:=T) ha.h (cell_Ob (off:=0) (hh.h _ _ _ hp hw) rfl)
  simp [resSem,hk.val _ _ h,Sem.run_bind,Result.andThen,asAddr,Sem.run_pure,this]

inductive Ress (P:Program) (Φ:List Fa) (L:Env) (M:Own):List ResultVar→List Value→Prop
 | nil:Ress P Φ L M [] []
 | cons {r:ResultVar} {rs:List ResultVar} {v:Value} {vs:List Value} (h:Res P Φ L M r v) (t:Ress P Φ L M rs vs):Ress P Φ L M (r::rs) (v::vs)
def tup:List Value→Value
 | [v]=>v
 | vs => .tuple vs.toArray
theorem Ress.run {P:Program} {fn:Func} {N:Nat} {ds:List Deferred} {I:Imm} {E:Ent} {a:Act} {w:World} (hk:Kn N L ds a) (hp : ∀ φ∈Φ,φ.p I) (hw:Wd E I M w) {rs:List ResultVar} {vs:List Value} (hr:fn.results=rs.toArray) (h:Ress P Φ L M rs vs) :
  (results fn a.tmps).run P w = .ok (tup vs) w:=by
 have key : ∀ {rs:List ResultVar} {vs:List Value},Ress P Φ L M rs vs→(rs.mapM (resSem a)).run P w = .ok vs w:=by
  intro rs vs h
  induction h with
  | nil=>simp [Sem.run_pure]
  | cons h _ ih =>
   have:=h.run hk hp hw
   simp only [List.mapM_cons,Sem.run_bind,this,Result.andThen,ih,Sem.run_pure]
 have hres:results fn a.tmps=(do let vs ← fn.results.mapM (resSem a);pure (if h:vs.size=1 then vs[0] else .tuple vs)):=by
  unfold results
  congr 1
 rw [hres,hr]
 have hm:=key h
 simp only [List.mapM_toArray,Sem.run_bind,Sem.run_map]
 simp only [hm,Result.andThen,Sem.run_pure]
 match vs with
 | []=>simp [tup]
 | [v]=>simp [tup]
 | v::u::l=>simp [tup]

theorem G.ret {P:Program} {fn:Func} {I0:Imm} {Mc:Own} {w0:World} {N:Nat} {R:Value→List Fa→Own→Prop} {rs:List ResultVar} {vs:List Value} {Φ':List Fa} {M':Own}
  (hr:fn.results=rs.toArray) (h:Ress P Φ L M rs vs) (hΦ:Ents Φ Φ') (hM:M'.Sublist M) (hR:R (tup vs) Φ' M') :
  G ⟨P,none,⟨I0,doms Mc,w0⟩,N,[]⟩ Φ L M (Post P fn I0 Mc w0 R .ret):=by
 intro I a w hp hk hw
 change LeavesInM (FR none) 0 P fn a.tmps _ a.defers .returning w
 rw [hk.df]
 exact ⟨_,h.run hk hp hw hr,_,Φ',M',I,rfl,hR,hΦ.h I hp,hw.sub hM⟩
theorem G.fin {P:Program} {fn:Func} {I0:Imm} {Mc:Own} {w0:World} {N:Nat} {R:Value→List Fa→Own→Prop} {rs:List ResultVar} {vs:List Value} {Φ':List Fa} {M':Own}
  (hr:fn.results=rs.toArray) (h:Ress P Φ L M rs vs) (hΦ:Ents Φ Φ') (hM:M'.Sublist M) (hR:R (tup vs) Φ' M') :
  G ⟨P,none,⟨I0,doms Mc,w0⟩,N,[]⟩ Φ L M (Post P fn I0 Mc w0 R .normal):=G.ret (fn:=fn) hr h hΦ hM hR
end
end Go.Rail
set_option linter.unusedVariables false
namespace Go.Rail
open Go
section
variable {x:Cx} {Q:Exit→Act→World→Prop} {Φ:List Fa} {L:Env} {M:Own} {ops:Array Oper} {K:Act→World→Prop}
variable {d:Nat} {ty:TypeId} {pos:String} {af:Array Edge} {g:Option (Nat × Bool)}
theorem cV {y:Operand} {args:List Operand} {vs:List Value} {ts:Array TypeId} {f:FuncId} {Φc:List Fa} {v:Value}
  [hf:HasFn x.P f] (c:FnV x.P f vs Φc v) [hΦ:Ents Φ Φc] (h:G x Φ ((d,v)::L) M K)
  (hdN:Nat.blt d x.N=true:=by exact rfl) (hg:gd ops L g=some true:=by exact rfl) (hy:ev L y=some (.func (.func f) #[] #[]):=by exact rfl) (hargs:args.mapM (ev L)=some vs:=by exact rfl) :
  OpK x ops Q ⟨some d,.call ⟨.value y,args.toArray,ts⟩,ty,pos,af,g⟩ Φ L M K :=
 OpK.call (cap:=[]) hdN hg hy hargs (by rw [List.append_nil];exact c) hΦ (Mr:=M) oI (by rintro u Φ' Mc' ⟨rfl,rfl,rfl⟩;exact h)
end
end Go.Rail
set_option linter.unusedSimpArgs false
set_option linter.unusedVariables false
namespace Go.Rail
open Go
structure DOp where
 val:(Nat→Value)→Value→Value
 facts:(Nat→Value)→Value→List Fa
instance:Inhabited DOp:=⟨⟨fun _ _=>undef,fun _ _=>[]⟩⟩

theorem getD_z {α:Type} (a:α) (l:List α) (d:α):(a::l).getD 0 d=a:=rfl
theorem getD_s {α:Type} (a:α) (l:List α) (n:Nat) (d:α):(a::l).getD (n+1) d=l.getD n d:=rfl
def dstOf (l:List Oper) (j:Nat):Nat:=match l[j]? with
 | some o=>o.dst.getD 0
 | none=>0
def kval (ks:List DOp) (c:Nat→Value) (j:Nat):Value:=(ks.getD j default).val c (c j)
def kfac (ks:List DOp) (c:Nat→Value) (j:Nat):List Fa:=(ks.getD j default).facts c (c j)
def ancE (l:List Oper) (ks:List DOp) (c:Nat→Value):List Nat→Env→Env
 | [],L=>L
 | j::js,L=>(dstOf l j,kval ks c j)::ancE l ks c js L
def ancF (ks:List DOp) (c:Nat→Value):List Nat→List Fa→List Fa
 | [],Φ=>Φ
 | j::js,Φ=>kfac ks c j++ancF ks c js Φ

def chkDraw (l:List Oper) (s:Nat) (as:List (List Nat)) (keys:List Nat):Bool :=
 let b:=Region.before l.toArray
 (List.range l.length).all (fun i=>(l.getD i default).after.toList.all fun e => !Region.binds .any e||Nat.blt e.on i) &&
 (List.range l.length).all (fun i=>Nat.blt i s||(List.range i).all fun j=>(b.getD i 0).testBit j) &&
 (List.range s).all (fun i=>(match (l.getD i default).dst with
  | some d => !keys.contains d&&(List.range i).all (fun j=>(l.getD j default).dst != some d)
  | none=>false)&&(as.getD i []).all fun j=>(b.getD i 0).testBit j) &&
 Nat.ble s l.length

def Quiet (x:Cx) (Q:Exit→Act→World→Prop) (l:List Oper) (ks:List DOp) (as:List (List Nat)) (Φ:List Fa) (L:Env) (M:Own) (i:Nat):Prop :=
 ∀ (c:Nat→Value) (z0:Value) (Φr:List Fa) (Lr:Env) (K:Act→World→Prop),(∀ z,G x ((ks.getD i default).facts c z++ancF ks c (as.getD i []) (Φ++Φr)) ((dstOf l i,(ks.getD i default).val c z)::ancE l ks c (as.getD i []) (L++Lr)) M K) →
  OpK x l.toArray Q (l.getD i default) (ancF ks c (as.getD i []) (Φ++Φr)) (ancE l ks c (as.getD i []) (L++Lr)) M K

def AllQ (x:Cx) (Q:Exit→Act→World→Prop) (l:List Oper) (ks:List DOp) (as:List (List Nat)) (Φ:List Fa) (L:Env) (M:Own):Nat→Nat→Prop
 | _,0=>True
 | i,n+1=>Quiet x Q l ks as Φ L M i∧AllQ x Q l ks as Φ L M (i+1) n
theorem AllQ.at {x:Cx} {Q:Exit→Act→World→Prop} {l:List Oper} {ks:List DOp} {as:List (List Nat)} {Φ:List Fa} {L:Env} {M:Own} : ∀ {n i j:Nat},AllQ x Q l ks as Φ L M i n→i≤j→j<i+n→Quiet x Q l ks as Φ L M j
 | 0,i,j,_,h1,h2=>by omega
 | n+1,i,j,h,h1,h2=>by
  by_cases e:i=j
  ·subst e;exact h.1
  ·exact AllQ.at h.2 oM oM

def Local (l:List Oper) (ks:List DOp) (i:Nat):Prop :=
 ∀ c c' z,(∀ j,((Region.before l.toArray).getD i 0).testBit j=true→c j=c' j)→(ks.getD i default).val c z=(ks.getD i default).val c' z∧(ks.getD i default).facts c z=(ks.getD i default).facts c' z
def AllL (l:List Oper) (ks:List DOp):Nat→Nat→Prop
 | _,0=>True
 | i,n+1=>Local l ks i∧AllL l ks (i+1) n
theorem AllL.at {l:List Oper} {ks:List DOp} : ∀ {n i j:Nat},AllL l ks i n→i≤j→j<i+n→Local l ks j
 | 0,i,j,_,h1,h2=>by omega
 | n+1,i,j,h,h1,h2=>by
  by_cases e:i=j
  ·subst e;exact h.1
  ·exact AllL.at h.2 oM oM

theorem before_at (l:List Oper) (i:Nat) (o:Oper) (ho:l[i]? = some o) (hb : ∀ k p,l[k]? = some p → ∀ e∈p.after.toList,Region.binds .any e=true→e.on<k) (j:Nat) :
  ((Region.before l.toArray).getD i 0).testBit j=true ↔ ∃ e∈o.after.toList,Region.binds .any e=true∧(e.on=j∨((Region.before l.toArray).getD e.on 0).testBit j=true):=by
 let step:Array Nat→Oper→Array Nat:=fun acc o=>acc.push (o.after.foldl (fun s e=>if Region.binds .any e then s|||2^e.on|||acc.getD e.on 0 else s) 0)
 have hdef:Region.before l.toArray=l.foldl step #[]:=by
  unfold Region.before;rw [← Array.foldl_toList]
 -- what lies at k does not turn any more
 have keep : ∀ (l:List Oper) (acc:Array Nat) (k:Nat),k<acc.size→(l.foldl step acc).getD k 0=acc.getD k 0:=by
  intro l
  induction l with
  | nil=>intro acc k _;rfl
  | cons p l ih =>
   intro acc k hk
   rw [List.foldl_cons,ih _ _ (by simp [step];omega)]
   simp [step,Array.getD_eq_getD_getElem?,Array.getElem?_push,Nat.ne_of_lt hk]
 have size : ∀ (l:List Oper) (acc:Array Nat),(l.foldl step acc).size=acc.size+l.length:=by
  intro l
  induction l with
  | nil=>intro acc;rfl
  | cons o l ih=>intro acc;rw [List.foldl_cons,ih];simp [step];omega
 obtain ⟨l1,l2,rfl,hl1⟩ : ∃ l1 l2,l=l1++o::l2∧l1.length=i:=by
  obtain ⟨hlt,he⟩:=List.getElem?_eq_some_iff.1 ho
  exact ⟨l.take i,l.drop (i+1),by rw [← he,List.getElem_cons_drop,List.take_append_drop],by simp;omega⟩
 have hacc:(l1.foldl step #[]).size=i:=by rw [size];simp [hl1]
 have hall : ∀ k,k<i→(Region.before (l1++o::l2).toArray).getD k 0=(l1.foldl step #[]).getD k 0:=fun k hk=>by
  rw [hdef,List.foldl_append,keep _ _ _ (by rw [hacc];exact hk)]
 have hi:(Region.before (l1++o::l2).toArray).getD i 0=o.after.foldl (fun s e=>if Region.binds .any e then s|||2^e.on|||(l1.foldl step #[]).getD e.on 0 else s) 0:=by
  rw [hdef,List.foldl_append,List.foldl_cons,keep _ _ _ (by simp only [step,Array.size_push,hacc];omega)]
  have push_at : ∀ (acc:Array Nat) (v:Nat),acc.size=i→(acc.push v).getD i 0=v:=fun acc v h=>by subst h;simp [Array.getD_eq_getD_getElem?]
  exact push_at _ _ hacc
 rw [hi,← Array.foldl_toList]
 have key : ∀ (es:List Edge) (s:Nat),(es.foldl (fun s e=>if Region.binds .any e then s|||2^e.on|||(l1.foldl step #[]).getD e.on 0 else s) s).testBit j=true ↔
   s.testBit j=true ∨ ∃ e∈es,Region.binds .any e=true∧(e.on=j∨((l1.foldl step #[]).getD e.on 0).testBit j=true):=by
  intro es
  induction es with
  | nil=>intro s;simp
  | cons e es ih =>
   intro s
   rw [List.foldl_cons,ih]
   by_cases hbd:Region.binds .any e=true
   ·simp only [hbd,if_true,Nat.testBit_or,Bool.or_eq_true,List.mem_cons,exists_eq_or_imp,true_and,Nat.testBit_two_pow,decide_eq_true_eq]
    grind
   ·simp only [hbd,List.mem_cons,exists_eq_or_imp]
    simp
 rw [key]
 simp only [Nat.zero_testBit,Bool.false_eq_true,false_or]
 constructor
 ·rintro ⟨e,he,hbd,h⟩
  refine ⟨e,he,hbd,h.imp id (fun h => ?_)⟩
  rw [hall _ (hb _ _ ho e he hbd)];exact h
 ·rintro ⟨e,he,hbd,h⟩
  refine ⟨e,he,hbd,h.imp id (fun h => ?_)⟩
  rw [hall _ (hb _ _ ho e he hbd)] at h;exact h

theorem look_ancE {l:List Oper} {ks:List DOp} {c:Nat→Value} : ∀ {js:List Nat} {L:Env} {t:Nat} {v:Value},look (ancE l ks c js L) t=some v→(∃ j∈js,dstOf l j=t∧v=kval ks c j)∨look L t=some v
 | [],L,t,v,h => .inr h
 | j::js,L,t,v,h=>by
  simp only [ancE,look] at h
  by_cases e:dstOf l j=t
  ·rw [show Nat.beq (dstOf l j) t=true from by rw [e];exact Nat.beq_refl t] at h
   simp only [cond_true,Option.some.injEq] at h
   exact .inl ⟨j,by simp,e,h.symm⟩
  ·rw [nbeq_ne e] at h
   simp only [cond_false] at h
   rcases look_ancE h with ⟨k,hk,h1,h2⟩|h
   ·exact .inl ⟨k,by simp [hk],h1,h2⟩
   ·exact .inr h
theorem mem_ancF {ks:List DOp} {c:Nat→Value} : ∀ {js:List Nat} {Φ:List Fa} {φ:Fa},φ∈ancF ks c js Φ↔(∃ j∈js,φ∈kfac ks c j)∨φ∈Φ
 | [],Φ,φ=>by simp [ancF]
 | j::js,Φ,φ=>by simp only [ancF,List.mem_append,mem_ancF,List.mem_cons,exists_eq_or_imp,or_assoc]

theorem look_cons_ne {k t:Nat} {v:Value} {L:Env} (h:k≠t):look ((k,v)::L) t=look L t:=by
 show (bif Nat.beq k t then some v else look L t)=look L t;rw [nbeq_ne h];rfl
theorem look_cons_eq {k:Nat} {v:Value} {L:Env}:look ((k,v)::L) k=some v:=by
 show (bif Nat.beq k k then some v else look L k)=some v;rw [Nat.beq_refl];rfl
theorem look_keys : ∀ {L:Env} {t:Nat} {v:Value},look L t=some v→t∈L.map Prod.fst
 | [],_,_,h=>by cases h
 | (k,u)::L,t,v,h=>by
  simp only [look] at h
  by_cases e:k=t
  ·simp [e]
  ·rw [nbeq_ne e] at h
   have:=look_keys (L:=L) h
   simp [this]
theorem look_append : ∀ {L L':Env} {t:Nat} {v:Value},look (L++L') t=some v→look L t=some v∨look L' t=some v
 | [],_,_,_,h => .inr h
 | (k,u)::L,L',t,v,h=>by
  simp only [List.cons_append,look] at h ⊢
  cases e:Nat.beq k t with
  | true=>rw [e] at h;exact .inl h
  | false=>rw [e] at h;simp only [cond_false] at h ⊢;exact look_append h
theorem look_append_l : ∀ {L L':Env} {t:Nat} {v:Value},look L t=some v→look (L++L') t=some v
 | [],_,_,_,h=>by cases h
 | (k,u)::L,L',t,v,h=>by
  simp only [List.cons_append,look] at h ⊢
  cases e:Nat.beq k t with
  | true=>rw [e] at h;exact h
  | false=>rw [e] at h;simp only [cond_false] at h ⊢;exact look_append_l h
theorem look_append_r : ∀ {L L':Env} {t:Nat},t∉L.map Prod.fst→look (L++L') t=look L' t
 | [],_,_,_=>rfl
 | (k,u)::L,L',t,h=>by
  simp only [List.map_cons,List.mem_cons,not_or] at h
  simp only [List.cons_append,look]
  rw [nbeq_ne (Ne.symm h.1)]
  simp only [cond_false]
  exact look_append_r h.2
theorem look_ancE_not {l:List Oper} {ks:List DOp} {c:Nat→Value} {t:Nat} {L:Env} : ∀ {js:List Nat},(∀ j∈js,dstOf l j≠t)→look (ancE l ks c js L) t=look L t
 | [],_=>rfl
 | j::js,h=>by
  simp only [ancE,look]
  rw [nbeq_ne (h j oI)]
  simp only [cond_false]
  exact look_ancE_not fun k hk=>h k (by simp [hk])
theorem look_ancE_is {l:List Oper} {ks:List DOp} {c:Nat→Value} {j:Nat} {L:Env} : ∀ {js:List Nat},(∀ k∈js,dstOf l k=dstOf l j→k=j)→(j∈js∨look L (dstOf l j)=some (kval ks c j))→look (ancE l ks c js L) (dstOf l j)=some (kval ks c j)
 | [],_,h=>h.resolve_left oI
 | k::js,hu,h=>by
  simp only [ancE,look]
  by_cases e:dstOf l k=dstOf l j
  ·rw [show Nat.beq (dstOf l k) (dstOf l j)=true from by rw [e];exact Nat.beq_refl _]
   rw [hu k oI e];rfl
  ·rw [nbeq_ne e]
   simp only [cond_false]
   refine look_ancE_is (fun k hk=>hu k (by simp [hk])) (h.imp (fun h => ?_) id)
   rcases List.mem_cons.1 h with rfl|h
   ·exact absurd rfl e
   ·exact h
theorem filter_less : ∀ {l:List Nat} {p q:Nat→Bool} {i:Nat},l.Nodup→i∈l→p i=true→(∀ j,q j=(p j&&j != i))→(l.filter q).length+1=(l.filter p).length
 | [],_,_,_,_,h,_,_=>by cases h
 | k::l,p,q,i,hn,hi,hp,hq=>by
  have hn':=List.nodup_cons.1 hn
  by_cases e:k=i
  ·subst e
   have:l.filter q=l.filter p:=List.filter_congr fun j hj=>by
    rw [hq]
    have:j≠k:=fun e=>hn'.1 (e▸hj)
    simp [this]
   simp [List.filter_cons,hq,hp,this]
  ·have hil:i∈l:=by rcases List.mem_cons.1 hi with h|h;exact absurd h.symm e;exact h
   have ih:=filter_less hn'.2 hil hp hq
   have hqk:q k=p k:=by rw [hq];simp [e]
   simp only [List.filter_cons,hqk]
   split<;>(try simp only [List.length_cons])<;>omega

section
variable {x:Cx} {Q:Exit→Act→World→Prop} {Φ:List Fa} {L:Env} {M:Own}
theorem W.draw {id:Nat} {l:List Oper} (s:Nat) (ks:List DOp) (as:List (List Nat)) (live:List Nat) (hm:x.P.follows .mixedOrders=true)
  (hchk:chkDraw l s as (L.map Prod.fst)=true) (hdN:(List.range s).all (fun i=>Nat.blt (dstOf l i) x.N)=true) (hlive:live.all (fun j=>Nat.blt j s)=true)
  (hloc:AllL l ks 0 s) (hops:AllQ x Q l ks as Φ L M 0 s)
  (hrest : ∀ c,LW x l.toArray Q (l.drop s) (ancF ks c live Φ) (ancE l ks c live L) M):W x (.region id l.toArray true) Q Φ L M:=by
 -- the look, in words
 unfold chkDraw at hchk
 simp only [Bool.and_eq_true,List.all_eq_true,List.mem_range,Bool.or_eq_true,Bool.not_eq_true'] at hchk
 obtain ⟨⟨⟨h1,h2⟩,h3⟩,h4⟩:=hchk
 have hs:s≤l.length:=Nat.le_of_ble_eq_true h4
 have hbk : ∀ k p,l[k]? = some p → ∀ e∈p.after.toList,Region.binds .any e=true→e.on<k:=by
  intro k p hp e he hb
  have hk:=(List.getElem?_eq_some_iff.1 hp).1
  have:=h1 k hk e (by rw [List.getD_eq_getElem?_getD,hp];exact he)
  rcases this with h|h
  ·rw [hb] at h;cases h
  ·simpa using h
 have htail : ∀ i,i<l.length→s≤i → ∀ j,j<i→((Region.before l.toArray).getD i 0).testBit j=true:=by
  intro i hi hsi j hj
  rcases h2 i hi with h|h
  ·have:i<s:=by simpa using h
   omega
  ·exact h j hj
 have hdst : ∀ i,i<s → ∃ d o,l[i]? = some o∧o.dst=some d∧dstOf l i=d∧d∉L.map Prod.fst ∧ ∀ j,j<i→dstOf l j≠d:=by
  intro i hi
  have hil:i<l.length:=by omega
  have:=(h3 i hi).1
  rw [List.getD_eq_getElem?_getD,List.getElem?_eq_getElem hil,Option.getD_some] at this
  cases hd:l[i].dst with
  | none=>rw [hd] at this;cases this
  | some d =>
   rw [hd] at this
   simp only [Bool.and_eq_true,Bool.not_eq_true',List.all_eq_true,List.mem_range] at this
   refine ⟨d,l[i],List.getElem?_eq_getElem hil,hd,by simp [dstOf,List.getElem?_eq_getElem hil,hd],by simpa using this.1,fun j hj => ?_⟩
   have h5:=this.2 j hj
   have hjl:j<l.length:=by omega
   rw [List.getD_eq_getElem?_getD,List.getElem?_eq_getElem hjl,Option.getD_some] at h5
   intro e
   obtain ⟨d',hd'⟩ : ∃ d',l[j].dst=some d':=by
    have h6:=(h3 j oM).1
    rw [List.getD_eq_getElem?_getD,List.getElem?_eq_getElem hjl,Option.getD_some] at h6
    cases hd':l[j].dst with
    | none=>rw [hd'] at h6;cases h6
    | some d'=>exact ⟨d',rfl⟩
   simp [dstOf,List.getElem?_eq_getElem hjl,hd'] at e
   subst e
   simp [hd'] at h5
 have hdne : ∀ i j,i<s→j<s→i≠j→dstOf l i≠dstOf l j:=by
  intro i j hi hj hne e
  obtain ⟨d,o,_,_,e1,_,hu⟩:=hdst i hi
  obtain ⟨d',o',_,_,e2,_,hu'⟩:=hdst j hj
  rcases Nat.lt_or_gt_of_ne hne with h|h
  ·exact hu' i h (e.trans e2)
  ·exact hu j h (e.symm.trans e1)
 have has : ∀ i,i<s → ∀ j∈as.getD i [],((Region.before l.toArray).getD i 0).testBit j=true:=fun i hi j hj=>(h3 i hi).2 j hj
 have hanc_lt : ∀ i j,i<l.length→((Region.before l.toArray).getD i 0).testBit j=true→j<i:=by
  intro i
  induction i using Nat.strongRecOn with
  | _ i ih =>
   intro j hi hj
   obtain ⟨e,he,hb,h⟩:=(before_at l i l[i] (List.getElem?_eq_getElem hi) hbk j).1 hj
   have hlt:=hbk i l[i] (List.getElem?_eq_getElem hi) e he hb
   rcases h with h|h
   ·omega
   ·have:=ih e.on hlt j oM h;omega
 have hanc_trans : ∀ i j k,i<l.length→((Region.before l.toArray).getD i 0).testBit j=true→((Region.before l.toArray).getD j 0).testBit k=true→((Region.before l.toArray).getD i 0).testBit k=true:=by
  intro i
  induction i using Nat.strongRecOn with
  | _ i ih =>
   intro j k hi hj hk
   obtain ⟨e,he,hb,h⟩:=(before_at l i l[i] (List.getElem?_eq_getElem hi) hbk j).1 hj
   have hlt:=hbk i l[i] (List.getElem?_eq_getElem hi) e he hb
   refine (before_at l i l[i] (List.getElem?_eq_getElem hi) hbk k).2 ⟨e,he,hb,.inr ?_⟩
   rcases h with h|h
   ·rw [h];exact hk
   ·exact ih e.on hlt j k oM h hk
 -- the tail, in its order
 have tail : ∀ fuel k (listed:Array Bool) a w,listed.size=l.length→s≤k→k+fuel=l.length→(∀ j,j<l.length→listed.getD j true=decide (j<k)) →
   wpListIn (FR x.r) 0 x.P l.toArray Q (l.drop k) a w→wpAnyIn (FR x.r) 0 x.P .any l.toArray Q fuel listed a w:=by
  intro fuel
  induction fuel with
  | zero =>
   intro k listed a w hsz hk hkf hl hw
   have hk':k=l.length:=by omega
   subst hk'
   refine ⟨?_,by rw [List.drop_length] at hw;exact hw⟩
   unfold Region.ready
   rw [List.filter_eq_nil_iff]
   intro i hi
   simp only [List.size_toArray,List.mem_range] at hi
   simp [hl i hi,hi]
  | succ fuel ih =>
   intro k listed a w hsz hk hkf hl hw
   have hkl:k<l.length:=by omega
   have hready : ∀ i∈Region.ready .any l.toArray listed,i=k:=by
    intro i hi
    unfold Region.ready at hi
    simp only [List.mem_filter,List.size_toArray,List.mem_range,Bool.and_eq_true,Bool.not_eq_true'] at hi
    obtain ⟨hil,hnl,hed⟩:=hi
    rw [hl i hil] at hnl
    have hik:k≤i:=by simpa using hnl
    rcases Nat.lt_or_ge k i with hlt|hge
    ·exfalso
     have hb:=htail i hil oM k hlt
     obtain ⟨e,he,hbd,h⟩:=(before_at l i l[i] (List.getElem?_eq_getElem hil) hbk k).1 hb
     have hel:=hbk i l[i] (List.getElem?_eq_getElem hil) e he hbd
     rw [List.getElem?_toArray,List.getElem?_eq_getElem hil] at hed
     simp only [Option.map_some,Option.getD_some] at hed
     rw [← Array.all_toList,List.all_eq_true] at hed
     have h7:=hed e he
     rw [hbd] at h7
     have h8:e.on<k:=by
      have:listed.getD e.on false=true:=by simpa using h7
      have h9:listed.getD e.on true=true:=by
       rw [Array.getD_eq_getD_getElem?] at this ⊢
       cases hx:listed[e.on]? with
       | none=>rw [hx] at this;cases this
       | some b=>rw [hx] at this;simpa using this
      rw [hl e.on oM] at h9
      simpa using h9
     rcases h with h|h
     ·omega
     ·have:=hanc_lt e.on k oM h;omega
    ·omega
   refine ⟨fun hnil => ?_,fun i hi => ?_⟩
   ·exfalso
    have:k∈Region.ready .any l.toArray listed:=by
     unfold Region.ready
     simp only [List.mem_filter,List.size_toArray,List.mem_range,Bool.and_eq_true,Bool.not_eq_true']
     refine ⟨hkl,by rw [hl k hkl];simp,?_⟩
     rw [List.getElem?_toArray,List.getElem?_eq_getElem hkl]
     simp only [Option.map_some,Option.getD_some]
     rw [← Array.all_toList,List.all_eq_true]
     intro e he
     by_cases hbd:Region.binds .any e=true
     ·have:=hbk k l[k] (List.getElem?_eq_getElem hkl) e he hbd
      have h9:=hl e.on oM
      rw [hbd]
      simp only [Bool.not_true,Bool.false_or]
      rw [Array.getD_eq_getD_getElem?] at h9 ⊢
      have:e.on<listed.size:=by omega
      rw [Array.getElem?_eq_getElem this] at h9 ⊢
      simp only [Option.getD_some] at h9 ⊢
      rw [h9];simp;omega
     ·simp [hbd]
    rw [hnil] at this;cases this
   ·obtain rfl:=hready i hi
    unfold wpOpIn
    rw [List.getElem?_toArray,List.getElem?_eq_getElem hkl]
    simp only
    have hdrop:l.drop i=l[i]::l.drop (i+1):=by rw [List.drop_eq_getElem_cons hkl]
    rw [hdrop] at hw
    simp only [wpListIn] at hw
    have step : ∀ a w,wpListIn (FR x.r) 0 x.P l.toArray Q (l.drop (i+1)) a w→wpAnyIn (FR x.r) 0 x.P .any l.toArray Q fuel (listed.setIfInBounds i true) a w:=by
     intro a w h
     refine ih (i+1) _ a w (by simpa using hsz) oM oM ?_ h
     intro j hj
     rw [Array.getD_eq_getD_getElem?,Array.getElem?_setIfInBounds]
     by_cases e:i=j
     ·subst e;simp [hsz,hj]
     ·simp only [e,if_false]
      rw [← Array.getD_eq_getD_getElem?,hl j hj]
      simp;omega
    split
    ·rename_i hwt;rw [if_pos hwt] at hw;exact Oper.wpIn_mono step hw
    ·rename_i hwt;rw [if_neg hwt] at hw;exact ⟨hw.1,step _ _ hw.2⟩
 -- the quiet ones, in whatever order
 have main : ∀ fuel (listed:Array Bool) (c:Nat→Value) I a w,listed.size=l.length→(fuel=(l.length-s)+((List.range s).filter fun j => !listed.getD j true).length) →
   (∀ j,s≤j→j<l.length→listed.getD j true=false)→(∀ j,j<s→listed.getD j true=true → ∀ k,((Region.before l.toArray).getD j 0).testBit k=true→listed.getD k true=true) →
   (∀ φ∈Φ,φ.p I)→(∀ j,j<s→listed.getD j true=true → ∀ φ∈kfac ks c j,φ.p I)→a.tmps.size=x.N→a.defers=x.ds→(∀ t v,look L t=some v→a.tmps[t]? = some v) →
   (∀ j,j<s→listed.getD j true=true→a.tmps[dstOf l j]? = some (kval ks c j))→Wd x.E I M w→wpAnyIn (FR x.r) 0 x.P .any l.toArray Q fuel listed a w:=by
  intro fuel
  induction fuel with
  | zero =>
   intro listed c I a w hsz hf hnt hcl hpΦ hpf hN hds hL hv hw
   have hsl:l.length=s:=by omega
   have hlist : ∀ j,j<s→listed.getD j true=true:=by
    intro j hj
    cases hx:listed.getD j true with
    | true=>rfl
    | false =>
     have hm:j∈(List.range s).filter fun j => !listed.getD j true:=List.mem_filter.2 ⟨List.mem_range.2 hj,by rw [hx];rfl⟩
     have:=List.length_pos_of_mem hm
     omega
   refine tail 0 s listed a w hsz (Nat.le_refl _) oM (fun j hj => ?_) ?_
   ·rw [hlist j oM];simp;omega
   ·refine hrest c I a w ?_ ⟨hN,?_,hds⟩ hw
    ·intro φ hφ
     rcases mem_ancF.1 hφ with ⟨j,hj,hφ⟩|hφ
     ·have hjs:j<s:=by simpa using List.all_eq_true.1 hlive j hj
      exact hpf j hjs (hlist j hjs) φ hφ
     ·exact hpΦ φ hφ
    ·intro t v hlk
     rcases look_ancE hlk with ⟨j,hj,rfl,rfl⟩|hlk
     ·have hjs:j<s:=by simpa using List.all_eq_true.1 hlive j hj
      exact hv j hjs (hlist j hjs)
     ·exact hL t v hlk
  | succ fuel ih =>
   intro listed c I a w hsz hf hnt hcl hpΦ hpf hN hds hL hv hw
   by_cases hall : ∀ j,j<s→listed.getD j true=true
   ·-- all quiet ones have come: the tail
    have hz:((List.range s).filter fun j => !listed.getD j true).length=0:=by
     rw [List.length_eq_zero_iff,List.filter_eq_nil_iff]
     intro j hj
     simp [hall j (by simpa using hj)]
    refine tail (fuel+1) s listed a w hsz (Nat.le_refl _) oM (fun j hj => ?_) ?_
    ·rcases Nat.lt_or_ge j s with h|h
     ·rw [hall j h];simp [h]
     ·rw [hnt j h hj];simp;omega
    ·refine hrest c I a w ?_ ⟨hN,?_,hds⟩ hw
     ·intro φ hφ
      rcases mem_ancF.1 hφ with ⟨j,hj,hφ⟩|hφ
      ·have hjs:j<s:=by simpa using List.all_eq_true.1 hlive j hj
       exact hpf j hjs (hall j hjs) φ hφ
      ·exact hpΦ φ hφ
     ·intro t v hlk
      rcases look_ancE hlk with ⟨j,hj,rfl,rfl⟩|hlk
      ·have hjs:j<s:=by simpa using List.all_eq_true.1 hlive j hj
       exact hv j hjs (hall j hjs)
      ·exact hL t v hlk
   ·-- some quiet one is left
    obtain ⟨m,hm,hmin⟩ : ∃ m,(m<s∧listed.getD m true=false) ∧ ∀ j,j<m → ¬ (j<s∧listed.getD j true=false):=by
     have : ∃ m,m<s∧listed.getD m true=false:=by
      apply Classical.byContradiction
      intro hc
      refine hall fun j hj => ?_
      cases hx:listed.getD j true with
      | true=>rfl
      | false=>exact absurd ⟨j,hj,hx⟩ hc
     have:=least_spec this
     exact ⟨_,this.1,fun j hj hx=>(by have:=this.2 j hx;omega)⟩
    have getD_tf : ∀ k,k<l.length→listed.getD k false=listed.getD k true:=fun k hk=>by
     have:k<listed.size:=by omega
     simp [Array.getD_eq_getD_getElem?,Array.getElem?_eq_getElem this]
    have hmready:m∈Region.ready .any l.toArray listed:=by
     have hml:m<l.length:=by omega
     unfold Region.ready
     simp only [List.mem_filter,List.size_toArray,List.mem_range,Bool.and_eq_true,Bool.not_eq_true']
     refine ⟨hml,hm.2,?_⟩
     rw [List.getElem?_toArray,List.getElem?_eq_getElem hml]
     simp only [Option.map_some,Option.getD_some]
     rw [← Array.all_toList,List.all_eq_true]
     intro e he
     by_cases hbd:Region.binds .any e=true
     ·have hlt:=hbk m l[m] (List.getElem?_eq_getElem hml) e he hbd
      rw [hbd,getD_tf e.on oM]
      simp only [Bool.not_true,Bool.false_or]
      cases hx:listed.getD e.on true with
      | true=>rfl
      | false=>exact absurd ⟨by omega,hx⟩ (hmin e.on hlt)
     ·simp [hbd]
    refine ⟨fun hnil=>(by rw [hnil] at hmready;cases hmready),fun i hi => ?_⟩
    have hi0:=hi
    unfold Region.ready at hi
    simp only [List.mem_filter,List.size_toArray,List.mem_range,Bool.and_eq_true,Bool.not_eq_true'] at hi
    obtain ⟨hil,hni,hed⟩:=hi
    have hed' : ∀ e∈l[i].after.toList,Region.binds .any e=true→listed.getD e.on true=true:=by
     intro e he hbd
     rw [List.getElem?_toArray,List.getElem?_eq_getElem hil] at hed
     simp only [Option.map_some,Option.getD_some] at hed
     rw [← Array.all_toList,List.all_eq_true] at hed
     have h7:=hed e he
     rw [hbd] at h7
     have hlt:=hbk i l[i] (List.getElem?_eq_getElem hil) e he hbd
     rw [← getD_tf e.on oM]
     simpa using h7
    have hancl : ∀ k,((Region.before l.toArray).getD i 0).testBit k=true→listed.getD k true=true:=by
     intro k hk
     obtain ⟨e,he,hbd,h⟩:=(before_at l i l[i] (List.getElem?_eq_getElem hil) hbk k).1 hk
     have hlt:=hbk i l[i] (List.getElem?_eq_getElem hil) e he hbd
     have hel:=hed' e he hbd
     rcases h with h|h
     ·rw [← h];exact hel
     ·refine hcl e.on ?_ hel k h
      rcases Nat.lt_or_ge e.on s with h|h
      ·exact h
      ·rw [hnt e.on h oM] at hel;cases hel
    have his:i<s:=by
     rcases Nat.lt_or_ge i s with h|h
     ·exact h
     ·exfalso
      have:=hancl m (htail i hil h m oM)
      rw [hm.2] at this;cases this
    -- the operation itself
    let js:=(List.range s).filter fun j=>listed.getD j true
    have hjs : ∀ j,j∈js↔j<s∧listed.getD j true=true:=by intro j;simp [js]
    have hq:=hops.at (Nat.zero_le i) oM c undef (js.flatMap (kfac ks c)) (ancE l ks c js []) (wpAnyIn (FR x.r) 0 x.P .any l.toArray Q fuel (listed.setIfInBounds i true))
    have hmemΦr : ∀ φ,φ∈js.flatMap (kfac ks c) → ∃ j,j<s∧listed.getD j true=true∧φ∈kfac ks c j:=by
     intro φ hφ
     obtain ⟨j,hj,hφ⟩:=List.mem_flatMap.1 hφ
     exact ⟨j,((hjs j).1 hj).1,((hjs j).1 hj).2,hφ⟩
    have hasl : ∀ j∈as.getD i [],j<s∧listed.getD j true=true:=fun j hj=>by
     have h1:=has i his j hj
     exact ⟨(by have:=hanc_lt i j hil h1;omega),hancl j h1⟩
    have hdd:=hdst i his
    obtain ⟨d,o,ho,hod,hdo,hdk,_⟩:=hdd
    have hrun:wpOpIn (FR x.r) 0 x.P l.toArray Q i (wpAnyIn (FR x.r) 0 x.P .any l.toArray Q fuel (listed.setIfInBounds i true)) a w↔opRun x l.toArray Q (l.getD i default) (wpAnyIn (FR x.r) 0 x.P .any l.toArray Q fuel (listed.setIfInBounds i true)) a w:=by
     unfold wpOpIn opRun
     rw [List.getElem?_toArray,List.getElem?_eq_getElem hil,List.getD_eq_getElem?_getD,List.getElem?_eq_getElem hil]
     exact Iff.rfl
    rw [hrun]
    refine hq ?_ I a w ?_ ⟨hN,?_,hds⟩ hw
    ·intro z I' a' w' hp' hk' hw'
     have hloci:=hloc.at (Nat.zero_le i) oM
     let c':Nat→Value:=fun k=>if k=i then z else c k
     have hc'i:c' i=z:=by simp [c']
     have hc'j : ∀ j,j≠i→c' j=c j:=fun j hj=>by simp [c',hj]
     have hli:=hloci c c' z (fun j hj=>(hc'j j (fun e=>by subst e;have:=hanc_lt j j hil hj;omega)).symm)
     have hvi:kval ks c' i=(ks.getD i default).val c z:=by simp only [kval,hc'i];exact hli.1.symm
     have hfi:kfac ks c' i=(ks.getD i default).facts c z:=by simp only [kfac,hc'i];exact hli.2.symm
     have hoth : ∀ j,j<s→listed.getD j true=true→j≠i∧kval ks c' j=kval ks c j∧kfac ks c' j=kfac ks c j:=by
      intro j hj hjl
      have hne:j≠i:=fun e=>by subst e;rw [hni] at hjl;cases hjl
      have:=hloc.at (Nat.zero_le j) oM c c' (c j) (fun k hk=>(hc'j k (fun e=>by
       subst e
       have:=hcl j hj hjl k hk
       rw [hni] at this;cases this)).symm)
      refine ⟨hne,?_,?_⟩
      ·simp only [kval,hc'j j hne];exact this.1.symm
      ·simp only [kfac,hc'j j hne];exact this.2.symm
     have hl' : ∀ j,(listed.setIfInBounds i true).getD j true=true→j=i∨listed.getD j true=true:=by
      intro j h
      by_cases e:j=i
      ·exact .inl e
      ·rw [Array.getD_eq_getD_getElem?,Array.getElem?_setIfInBounds_ne (Ne.symm e),← Array.getD_eq_getD_getElem?] at h;exact .inr h
     have hl'' : ∀ j,listed.getD j true=true→(listed.setIfInBounds i true).getD j true=true:=by
      intro j h
      by_cases e:j=i
      ·subst e;simp [Array.getD_eq_getD_getElem?,Array.getElem?_setIfInBounds_self];split<;>rfl
      ·rw [Array.getD_eq_getD_getElem?,Array.getElem?_setIfInBounds_ne (Ne.symm e),← Array.getD_eq_getD_getElem?];exact h
     refine ih (listed.setIfInBounds i true) c' I' a' w' (by simpa using hsz) ?_ ?_ ?_ ?_ ?_ hk'.sz hk'.df ?_ ?_ hw'
     ·have:=filter_less (l:=List.range s) (p:=fun j => !listed.getD j true) (q:=fun j => !(listed.setIfInBounds i true).getD j true) (i:=i) List.nodup_range (by simp [his]) (by simp [hni]) (fun j=>by
       by_cases e:j=i
       ·subst e;simp [Array.getD_eq_getD_getElem?,Array.getElem?_setIfInBounds_self];split<;>rfl
       ·rw [Array.getD_eq_getD_getElem?,Array.getElem?_setIfInBounds_ne (Ne.symm e),← Array.getD_eq_getD_getElem?];simp [e])
      omega
     ·intro j hj hjl
      rw [Array.getD_eq_getD_getElem?,Array.getElem?_setIfInBounds_ne oM,← Array.getD_eq_getD_getElem?];exact hnt j hj hjl
     ·intro j hj hjl k hk
      rcases hl' j hjl with rfl|hjl
      ·exact hl'' k (hancl k hk)
      ·exact hl'' k (hcl j hj hjl k hk)
     ·intro φ hφ
      exact hp' φ (List.mem_append_right _ (mem_ancF.2 (.inr (List.mem_append_left _ hφ))))
     ·intro j hj hjl φ hφ
      rcases hl' j hjl with rfl|hjl
      ·rw [hfi] at hφ;exact hp' φ (List.mem_append_left _ hφ)
      ·rw [(hoth j hj hjl).2.2] at hφ
       exact hp' φ (List.mem_append_right _ (mem_ancF.2 (.inr (List.mem_append_right _ (List.mem_flatMap.2 ⟨j,(hjs j).2 ⟨hj,hjl⟩,hφ⟩)))))
     ·intro t v hlk
      refine hk'.val t v ?_
      have htk:=look_keys hlk
      have hnd : ∀ j,j<s→dstOf l j≠t:=fun j hj e=>by
       obtain ⟨d',o',_,_,e1,hk1,_⟩:=hdst j hj
       exact hk1 (by rw [← e1,e];exact htk)
      rw [look_cons_ne (hnd i his),look_ancE_not fun j hj=>hnd j (hasl j hj).1]
      exact look_append_l hlk
     ·intro j hj hjl
      rcases hl' j hjl with rfl|hjl
      ·rw [hvi];refine hk'.val _ _ ?_
       exact look_cons_eq
      ·rw [(hoth j hj hjl).2.1]
       refine hk'.val _ _ ?_
       rw [look_cons_ne (hdne i j his hj (Ne.symm (hoth j hj hjl).1))]
       refine look_ancE_is (fun k hk e => ?_) (.inr ?_)
       ·apply Classical.byContradiction
        intro hne
        exact hdne k j (hasl k hk).1 hj hne e
       ·obtain ⟨d',o',_,_,e1,hk1,_⟩:=hdst j hj
        rw [look_append_r (by rw [e1];exact hk1)]
        refine look_ancE_is (fun k hk e => ?_) (.inl ((hjs j).2 ⟨hj,hjl⟩))
        apply Classical.byContradiction
        intro hne
        exact hdne k j ((hjs k).1 hk).1 hj hne e
    ·intro φ hφ
     rcases mem_ancF.1 hφ with ⟨j,hj,hφ⟩|hφ
     ·exact hpf j (hasl j hj).1 (hasl j hj).2 φ hφ
     ·rcases List.mem_append.1 hφ with hφ|hφ
      ·exact hpΦ φ hφ
      ·obtain ⟨j,h1,h2,h3⟩:=hmemΦr φ hφ
       exact hpf j h1 h2 φ h3
    ·intro t v hlk
     rcases look_ancE hlk with ⟨j,hj,rfl,rfl⟩|hlk
     ·exact hv j (hasl j hj).1 (hasl j hj).2
     ·rcases look_append hlk with hlk|hlk
      ·exact hL t v hlk
      ·rcases look_ancE hlk with ⟨j,hj,rfl,rfl⟩|hlk
       ·exact hv j ((hjs j).1 hj).1 ((hjs j).1 hj).2
       ·cases hlk
 intro I a w hp hk hw
 refine wpIn_region_any hm ?_
 refine main l.toArray.size _ (fun _=>undef) I a _ oI ?_ ?_ ?_ hp ?_ hk.sz hk.df hk.val ?_ hw.drew
 ·have:((List.range s).filter fun j => !(Array.replicate l.toArray.size false).getD j true)=List.range s:=by
   rw [List.filter_eq_self]
   intro j hj
   have:j<l.length:=by have:=List.mem_range.1 hj;omega
   simp [this]
  rw [this];simp;omega
 ·intro j _ hj;simp [hj]
 ·intro j hj h;simp [show j<l.length from by omega] at h
 ·intro j hj h;simp [show j<l.length from by omega] at h
 ·intro j hj h;simp [show j<l.length from by omega] at h
end
end Go.Rail
