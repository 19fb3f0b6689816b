/- Frames: what a step leaves. -/
import Derived.Test.YtjhdodkagchhkaaGreatDoorRailA
import Derived.Test.YtjhdodkagchhkaaGreatDoorAF0BE
import Derived.Test.YtjhdodkagchhkaaGreatDoorABF
set_option linter.unusedSimpArgs false
set_option linter.unusedVariables false
namespace Go.Rail
open Go Go.Proofs
set_option maxHeartbeats 2000000
def Rt (f:Frm):Prop:=f.code.length≤49152∧f.input.length≤1048576∧f.ret.length≤1048576∧f.out.length≤1048576∧0≤f.pc∧f.pc≤9007199254740992∧0≤f.gas∧f.gas≤2000000 ∧
 f.stack.length≤1024∧f.mem.length≤1048576∧f.mem.length%32=0∧0≤f.status∧f.status≤4∧(f.errno≠0↔f.status=4)∧(f.out=[]∨f.status=2∨f.status=3)
theorem right_Rt {f:Frm}:rightF f=true↔Rt f:=by unfold rightF Rt;exact decide_eq_true_iff
theorem putF_len (m:List UInt8) (a:Nat) (s:List UInt8):(putF m a s).length=m.length:=by
 unfold putF
 split
 ·rfl
 ·split
  ·rw [List.length_append,List.length_append,List.length_take,List.length_drop];omega
  ·rfl
theorem pieceF_len (m:List UInt8) (a:Word) (n:Nat):(pieceF m a n).length≤m.length:=by
 unfold pieceF
 split
 ·exact Nat.zero_le _
 ·split
  ·rw [List.length_take,List.length_drop];omega
  ·exact Nat.zero_le _
theorem wrongL_le {s:List Word} {n:Nat}:(popL s n).1.length≤s.length:=by
 unfold popL
 split
 ·rw [List.length_take];omega
 ·exact Nat.le_refl _
theorem swF_len (s:List Word) (n:Nat):(swapS s n).length=s.length:=by simp [swapS]
theorem doC_len (n:Nat) (s:List Word) (h:s.length≤1024):(doC n s).1.length≤1024:=by
 unfold doC
 split
 ·exact h
 ·split
  ·exact h
  ·split
   ·unfold swapL
    dsimp only
    split
    ·rw [swF_len];exact h
    ·exact h
   ·split
    ·unfold dupL
     split
     ·unfold pushL
      split
      ·exact h
      ·split
       ·exact h
       ·dsimp only;rw [List.length_append];omega
     ·exact h
    ·split
     ·exact Nat.le_trans wrongL_le h
     ·unfold pushL
      split
      ·exact Nat.le_trans wrongL_le h
      ·split
       ·exact Nat.le_trans wrongL_le h
       ·dsimp only;rw [List.length_append];omega
def pushers:List Nat:=[32,53,54,56,61,81,88,89,90]
def enders:List Nat:=[0,243,253]
structure Paid (f:Frm) (op:Nat):Prop where
 code:f.code.length≤49152
 input:f.input.length≤1048576
 ret:f.ret.length≤1048576
 out:f.out=[]
 pc1:1≤f.pc
 pc2:f.pc≤f.code.length
 gas1:0≤f.gas
 gas2:f.gas≤2000000
 stack:f.stack.length≤1024
 room:isC op=false→(95≤op∧op≤127∨op∈pushers)→f.stack.length≤1023
 mem1:f.mem.length≤1048576
 mem2:f.mem.length%32=0
 status:f.status=0
 errno:f.errno=0
def Kept (op:Nat) (f g:Frm):Prop:=Rt g∧g.code=f.code∧g.gas=f.gas∧g.mem.length=f.mem.length
theorem Paid.kept {f:Frm} {op:Nat} (h:Paid f op):Kept op f f :=
 ⟨⟨h.code,h.input,h.ret,by rw [h.out];exact Nat.zero_le _,by have:=h.pc1;omega,by have:=h.pc2;have:=h.code;omega,h.gas1,h.gas2,h.stack,h.mem1,h.mem2,by rw [h.status];exact Int.le_refl _,by rw [h.status];decide,by rw [h.status,h.errno];decide,.inl h.out⟩,rfl,rfl,rfl⟩
theorem pushF_kept {f:Frm} {op:Nat} (h:Paid f op) (hr:f.stack.length≤1023) (w:Word):Kept op f (pushF f w).1:=by
 obtain ⟨⟨a1,a2,a3,a4,a5,a6,a7,a8,a9,a10⟩,b⟩:=h.kept
 exact ⟨⟨a1,a2,a3,a4,a5,a6,a7,a8,by show (f.stack++[w]).length≤1024;rw [List.length_append,List.length_cons,List.length_nil];omega,a10⟩,b⟩
theorem mem_kept {f:Frm} {op:Nat} (h:Paid f op) (m:List UInt8) (hm:m.length=f.mem.length):Kept op f {f with mem:=m}:=by
 obtain ⟨⟨a1,a2,a3,a4,a5,a6,a7,a8,a9,a10,a11,a12⟩,b1,b2,b3⟩:=h.kept
 exact ⟨⟨a1,a2,a3,a4,a5,a6,a7,a8,a9,by show m.length≤_;rw [hm];exact a10,by show m.length%32=0;rw [hm];exact a11,a12⟩,b1,b2,hm⟩
theorem endF_kept {f:Frm} {op:Nat} (h:Paid f op) (st:Int) (hs:st=2∨st=3) (l:List Word):Kept op f (endF f st l).1:=by
 have hp:=pieceF_len f.mem (l.getD 0 .zero) (numF (l.getD 1 .zero))
 have h1:=h.mem1
 have h2:=h.pc1
 have h3:=h.pc2
 have h4:=h.code
 have h5:=h.errno
 refine ⟨⟨h.code,h.input,h.ret,by show (pieceF _ _ _).length≤_;omega,by show 0≤f.pc-1;omega,by show f.pc-1≤_;omega,h.gas1,h.gas2,h.stack,h.mem1,h.mem2,?_,?_,?_,.inr hs⟩,rfl,rfl,rfl⟩
 ·show 0≤st;omega
 ·show st≤4;omega
 ·show f.errno≠0↔st=4;rw [h5];constructor
  ·intro h;exact absurd rfl h
  ·intro h;omega
theorem jumpF_kept {f:Frm} {op:Nat} (h:Paid f op) (to:Nat) (h0:(jumpF f to).2=0):Kept op f (jumpF f to).1:=by
 unfold jumpF at h0 ⊢
 split at h0
 ·rename_i hm
  rw [if_pos hm]
  obtain ⟨i,hi,b,h1,h2⟩:=jmS_at f.code 0 0 _ (by rw [← jmL_jmS];exact hm)
  have hlt:=(List.getElem?_eq_some_iff.1 h1).1
  have h4:=h.code
  obtain ⟨⟨a1,a2,a3,a4,a5,a6,a7⟩,b⟩:=h.kept
  exact ⟨⟨a1,a2,a3,a4,by show 0≤(to:Int);omega,by show (to:Int)≤_;omega,a7⟩,b⟩
 ·cases h0
theorem doF_kept (hash:List UInt8→List UInt8) {f:Frm} {op:Nat} (h:Paid f op) (l:List Word) (h0:(doF hash op f l).2=0):Kept op f (doF hash op f l).1:=by
 have hroom:=h.room
 obtain ⟨⟨a1,a2,a3,a4,a5,a6,a7,a8,a9,a10,a11,a12,a13,a14⟩,b⟩:=h.kept
 have h1:=h.pc1
 have h2:=h.pc2
 unfold doF at h0 ⊢
 by_cases hc:isC op=true
 ·rw [if_pos hc]
  exact ⟨⟨a1,a2,a3,a4,a5,a6,a7,a8,doC_len _ _ a9,a10,a11,a12,a13,a14⟩,b⟩
 rw [if_neg hc] at h0 ⊢
 have hroom:=hroom (by simpa using hc)
 by_cases c1:95≤op∧op≤127
 ·rw [if_pos c1]
  have hr:=hroom (.inl c1)
  refine ⟨⟨a1,a2,a3,a4,?_,?_,a7,a8,?_,a10,a11,a12,a13,a14⟩,b⟩
  ·show 0≤f.pc+_;omega
  ·show f.pc+((op-95:Nat):Int)≤_;omega
  ·show (f.stack++[_]).length≤1024;rw [List.length_append,List.length_cons,List.length_nil];omega
 rw [if_neg c1] at h0 ⊢
 by_cases e:op=0
 ·rw [if_pos e]
  have h5:=h.errno
  refine ⟨⟨a1,a2,a3,a4,by show 0≤f.pc-1;omega,by show f.pc-1≤_;omega,a7,a8,a9,a10,a11,by show 0≤(1:Int);omega,by show (1:Int)≤4;omega,?_,.inl h.out⟩,rfl,rfl,rfl⟩
  show f.errno≠0↔(1:Int)=4
  rw [h5];decide
 rw [if_neg e] at h0 ⊢
 have pk : ∀ w,op∈pushers→Kept op f (pushF f w).1:=fun w hp=>pushF_kept h (hroom (.inr hp)) w
 have ck : ∀ s,Kept op f (copyF f s l).1:=fun s=>mem_kept h _ (putF_len _ _ _)
 by_cases e:op=32
 ·rw [if_pos e];exact pk _ (by rw [e];decide)
 rw [if_neg e] at h0 ⊢
 by_cases e:op=53
 ·rw [if_pos e];exact pk _ (by rw [e];decide)
 rw [if_neg e] at h0 ⊢
 by_cases e:op=54
 ·rw [if_pos e];exact pk _ (by rw [e];decide)
 rw [if_neg e] at h0 ⊢
 by_cases e:op=55
 ·rw [if_pos e];exact ck _
 rw [if_neg e] at h0 ⊢
 by_cases e:op=56
 ·rw [if_pos e];exact pk _ (by rw [e];decide)
 rw [if_neg e] at h0 ⊢
 by_cases e:op=57
 ·rw [if_pos e];exact ck _
 rw [if_neg e] at h0 ⊢
 by_cases e:op=61
 ·rw [if_pos e];exact pk _ (by rw [e];decide)
 rw [if_neg e] at h0 ⊢
 by_cases e:op=62
 ·rw [if_pos e] at h0 ⊢
  split at h0
  ·cases h0
  ·rename_i hn;rw [if_neg hn];exact ck _
 rw [if_neg e] at h0 ⊢
 by_cases e:op=81
 ·rw [if_pos e];exact pk _ (by rw [e];decide)
 rw [if_neg e] at h0 ⊢
 by_cases e:op=82
 ·rw [if_pos e];exact mem_kept h _ (putF_len _ _ _)
 rw [if_neg e] at h0 ⊢
 by_cases e:op=83
 ·rw [if_pos e];exact mem_kept h _ (putF_len _ _ _)
 rw [if_neg e] at h0 ⊢
 by_cases e:op=86
 ·rw [if_pos e] at h0 ⊢;exact jumpF_kept h _ h0
 rw [if_neg e] at h0 ⊢
 by_cases e:op=87
 ·rw [if_pos e] at h0 ⊢
  split
  ·exact h.kept
  ·rename_i hn;rw [if_neg hn] at h0;exact jumpF_kept h _ h0
 rw [if_neg e] at h0 ⊢
 by_cases e:op=88
 ·rw [if_pos e];exact pk _ (by rw [e];decide)
 rw [if_neg e] at h0 ⊢
 by_cases e:op=89
 ·rw [if_pos e];exact pk _ (by rw [e];decide)
 rw [if_neg e] at h0 ⊢
 by_cases e:op=90
 ·rw [if_pos e];exact pk _ (by rw [e];decide)
 rw [if_neg e] at h0 ⊢
 by_cases e:op=243
 ·rw [if_pos e];exact endF_kept h 2 (.inl rfl) l
 rw [if_neg e] at h0 ⊢
 by_cases e:op=253
 ·rw [if_pos e];exact endF_kept h 3 (.inr rfl) l
 rw [if_neg e]
 exact h.kept
theorem doF_ends (hash:List UInt8→List UInt8) (f:Frm) (l:List Word) {op:Nat} (h:op∈enders):(doF hash op f l).1.status≠0:=by
 have hz:isC 0=false:=by kernel_rfl
 have hr:isC 243=false:=by kernel_rfl
 have hv:isC 253=false:=by kernel_rfl
 rcases List.mem_cons.1 h with rfl|h
 ·unfold doF;rw [hz];show (1:Int)≠0;decide
 ·rcases List.mem_cons.1 h with rfl|h
  ·unfold doF;rw [hr];show (2:Int)≠0;decide
  ·rw [List.mem_singleton.1 h]
   unfold doF;rw [hv];show (3:Int)≠0;decide
theorem fail_Rt {f:Frm} (h:Rt f) (ho:f.out=[]) (e:Int) (he:e≠0):Rt (failF f e):=by
 obtain ⟨a1,a2,a3,a4,a5,a6,a7,a8,a9,a10,a11,a12,a13,a14,a15⟩:=h
 exact ⟨a1,a2,a3,a4,a5,a6,Int.le_refl _,by show (0:Int)≤_;decide,a9,a10,a11,by show (0:Int)≤4;decide,Int.le_refl _,⟨fun _=>rfl,fun _=>he⟩,.inl ho⟩
theorem takeF_ok {s:List Word} {op:Nat} (h:(takeF s op).2=0):(infoN op).isSome=true∧op≠254∧popsN op≤s.length∧s.length+pushN' op≤1024+popsN op∧(takeF s op).1=(s.drop (s.length-popsN op)).reverse:=by
 unfold takeF at h ⊢
 split at h
 ·cases h
 ·rename_i h1
  rw [if_neg h1]
  split at h
  ·cases h
  ·rename_i h2
   rw [if_neg h2]
   obtain ⟨q1,q2,q3⟩:=popL_ok h
   refine ⟨?_,fun e=>h1 (.inr e),q3,by have:=fun h3=>h2 ⟨h,h3⟩;omega,q2⟩
   cases hi:infoN op with
   | none=>exact absurd (.inl hi) h1
   | some r=>rfl
theorem needF_le {a n:Word} {k:Nat} (h:needF a n=some k):k≤32768:=by
 unfold needF at h
 split at h
 ·cases h;exact Nat.zero_le _
 ·split at h
  ·rename_i h1;cases h;omega
  ·cases h
theorem reachF_le : ∀ (sp:List (Word × Word)) (had k:Nat),reachF had sp=some k→had≤k∧(had≤32768→k≤32768)
 | [],had,k,h=>by cases h;exact ⟨Nat.le_refl _,fun h=>h⟩
 | s::r,had,k,h=>by
  unfold reachF at h
  split at h
  ·cases h
  ·rename_i n hn
   obtain ⟨h1,h2⟩:=reachF_le r _ k h
   have:=needF_le hn
   exact ⟨by omega,fun h3=>h2 oM⟩
theorem costF_mono {a b:Nat} (h:a≤b):costF a≤costF b:=by
 unfold costF
 have h1:min a 32768≤min b 32768:=by omega
 have h2:=Nat.mul_le_mul h1 h1
 have h3:=Nat.div_le_div_right (c:=512) h2
 omega
def chkG (n:Nat):Bool := !(foundF n)||(infoN n).isNone ||
 ((enders.contains n||Nat.ble 1 (gasN n))&&(isC n || !(decide (95≤n∧n≤127)||pushers.contains n)||Nat.ble 1 (pushN' n)))
theorem chkG_all:((List.range 256).all chkG)=true:=by kernel_rfl
theorem chkG_at {n:Nat} (hn:n<256) (hf:foundF n=true) (hi:(infoN n).isSome=true):(n∈enders∨1≤gasN n)∧(isC n=false→(95≤n∧n≤127∨n∈pushers)→1≤pushN' n):=by
 have h:=List.all_eq_true.1 chkG_all n (List.mem_range.2 hn)
 unfold chkG at h
 rw [hf] at h
 have hin:(infoN n).isNone=false:=by cases hx:infoN n with
  | none=>rw [hx] at hi;cases hi
  | some r=>rfl
 rw [hin] at h
 simp only [Bool.not_true,Bool.false_or,Bool.and_eq_true,Bool.or_eq_true,Bool.not_eq_true',Bool.or_eq_false_iff,decide_eq_false_iff_not,Nat.ble_eq,List.contains_iff_mem] at h
 obtain ⟨h1,h2⟩:=h
 refine ⟨h1,fun hc hp => ?_⟩
 rcases h2 with (h2|⟨h2,h3⟩)|h2
 ·rw [h2] at hc;cases hc
 ·rcases hp with hp|hp
  ·exact absurd hp h2
  ·rw [List.contains_iff_mem.2 hp] at h3;cases h3
 ·exact h2
theorem growF_len (m:List UInt8) (w:Nat):(growF m w).length=max m.length (w*32):=by
 unfold growF;rw [List.length_append,List.length_replicate];omega
theorem stepF_law (hash:List UInt8→List UInt8) {f:Frm} {op:Nat} (hop:op<256) (h:Rt f) (hs:f.status=0) (hpc:f.pc<f.code.length) (hl:localF op=true) :
  Rt (stepF hash f op)∧(stepF hash f op).code=f.code∧f.mem.length≤(stepF hash f op).mem.length∧(stepF hash f op).gas≤f.gas∧((stepF hash f op).status=0→(stepF hash f op).gas<f.gas):=by
 have h':=h
 obtain ⟨a1,a2,a3,a4,a5,a6,a7,a8,a9,a10,a11,a12,a13,a14,a15⟩:=h'
 have ho:f.out=[]:=by rcases a15 with h|h|h<;>first|exact h|omega
 have he:f.errno=0:=by
  by_cases h0:f.errno=0
  ·exact h0
  ·have:=a14.1 h0;omega
 have failed : ∀ e,e≠0→Rt (failF f e)∧(failF f e).code=f.code∧f.mem.length≤(failF f e).mem.length∧(failF f e).gas≤f.gas∧((failF f e).status=0→(failF f e).gas<f.gas) :=
  fun e he=>⟨fail_Rt h ho e he,rfl,Nat.le_refl _,a7,fun h=>by cases h⟩
 unfold stepF
 by_cases ht:(takeF f.stack op).2≠0
 ·rw [if_pos ht];exact failed _ ht
 rw [if_neg ht]
 have ht0:(takeF f.stack op).2=0:=by omega
 obtain ⟨t1,t2,t3,t4,t5⟩:=takeF_ok ht0
 have hfo:foundF op=true:=by
  unfold localF at hl
  rw [Bool.or_eq_true,Bool.or_eq_true] at hl
  rcases hl with (hl|hl)|hl
  ·exact hl
  ·cases hx:infoN op with
   | none=>rw [hx] at t1;cases t1
   | some r=>rw [hx] at hl;cases hl
  ·exact absurd (of_decide_eq_true hl) t2
 obtain ⟨c1,c2⟩:=chkG_at hop hfo t1
 generalize (takeF f.stack op).1=l
 cases hp:payF f op (moreF op l) (spanF op l) with
 | none=>exact failed 43 oE
 | some p =>
  dsimp only
  unfold payF at hp
  split at hp
  ·cases hp
  ·rename_i words hw
   split at hp
   ·cases hp
   ·rename_i hg
    obtain ⟨r1,r2⟩:=reachF_le _ _ _ hw
    have r2:=r2 oM
    have hm:=costF_mono r1
    injection hp with hp
    have hpaid:Paid p op:=by
     subst hp
     have hgl:=growF_len f.mem words
     refine ⟨a1,a2,a3,ho,by show 1≤f.pc+1;omega,by show f.pc+1≤(f.code.length:Int);omega,by dsimp only;omega,by dsimp only;omega,?_,?_,by dsimp only;omega,by dsimp only;omega,hs,he⟩
     ·dsimp only
      split
      ·exact a9
      ·rw [List.length_take];omega
     ·intro hc hpu
      have:=c2 hc hpu
      dsimp only
      rw [if_neg (by rw [hc];decide),List.length_take]
      omega
    have hcode:p.code=f.code:=by subst hp;rfl
    have hgas:p.gas≤f.gas∧(op∉enders→p.gas<f.gas):=by
     subst hp
     dsimp only
     refine ⟨by omega,fun hn => ?_⟩
     rcases c1 with c1|c1
     ·exact absurd c1 hn
     ·omega
    have hmem:f.mem.length≤p.mem.length:=by subst hp;show _≤(growF _ _).length;rw [growF_len];omega
    by_cases hd:(doF hash op p l).2≠0
    ·rw [if_pos hd];exact failed _ hd
    ·rw [if_neg hd]
     obtain ⟨k1,k2,k3,k4⟩:=doF_kept hash hpaid l oM
     refine ⟨k1,by rw [k2,hcode],by omega,by omega,fun hst => ?_⟩
     by_cases hn:op∈enders
     ·exact absurd hst (doF_ends hash p l hn)
     ·have:=hgas.2 hn;omega
end Go.Rail
namespace Go.Rail
open Go Go.Proofs
set_option maxHeartbeats 2000000
theorem stepL_law (hash:List UInt8→List UInt8) {f:Frm} (h:Rt f) (h0:(stepL hash f).2=0) :
  f.status=0∧Rt (stepL hash f).1∧(stepL hash f).1.code=f.code∧f.mem.length≤(stepL hash f).1.mem.length∧(stepL hash f).1.gas≤f.gas∧((stepL hash f).1.status=0→(stepL hash f).1.gas<f.gas):=by
 unfold stepL at h0 ⊢
 rw [right_Rt.2 h,if_neg oE] at h0 ⊢
 by_cases hs:f.status≠0
 ·rw [if_pos hs] at h0;cases h0
 rw [if_neg hs] at h0 ⊢
 have hs0:f.status=0:=by omega
 by_cases hp:(f.code.length:Int)≤f.pc
 ·rw [if_pos hp]
  obtain ⟨a1,a2,a3,a4,a5,a6,a7,a8,a9,a10,a11,a12,a13,a14,a15⟩:=h
  refine ⟨hs0,⟨a1,a2,a3,a4,a5,a6,a7,a8,a9,a10,a11,by show (0:Int)≤1;decide,by show (1:Int)≤4;decide,?_,.inl ?_⟩,rfl,Nat.le_refl _,Int.le_refl _,fun h=>by cases h⟩
  ·show f.errno≠0↔(1:Int)=4
   constructor
   ·intro h;have:=a14.1 h;omega
   ·intro h;cases h
  ·rcases a15 with h|h|h<;>first|exact h|omega
 rw [if_neg hp] at h0 ⊢
 by_cases hl:localF (f.code.getD f.pc.toNat 0).toNat=false
 ·rw [if_pos hl] at h0;cases h0
 rw [if_neg hl]
 exact ⟨hs0,stepF_law hash (UInt8.toNat_lt _) h hs0 oM (by simpa using hl)⟩
end Go.Rail
namespace Go.Rail
open Go Go.Proofs
set_option maxHeartbeats 1000000
def chkU (n:Nat):Bool := !(decide (95≤n∧n≤127))||(!(isC n)&&foundF n&&(infoN n).isSome&&decide (popsN n=0)&&decide (pushN' n=1)&&decide (n≠254)&&decide (n≠10)&&decide (n≠32)&&decide (n≠55)&&decide (n≠57)&&decide (n≠62)&&decide (gasN n≤3)&&decide (1≤gasN n))
theorem chkU_all:((List.range 256).all chkU)=true:=by kernel_rfl
theorem chkU_at {n:Nat} (h1:95≤n) (h2:n≤127):isC n=false∧foundF n=true∧(infoN n).isSome=true∧popsN n=0∧pushN' n=1∧1≤gasN n∧gasN n≤3:=by
 have h:=List.all_eq_true.1 chkU_all n (List.mem_range.2 oM)
 unfold chkU at h
 rw [decide_eq_true (show 95≤n∧n≤127 from ⟨h1,h2⟩)] at h
 simp only [Bool.not_true,Bool.false_or,Bool.and_eq_true,Bool.not_eq_true',decide_eq_true_eq] at h
 obtain ⟨⟨⟨⟨⟨⟨⟨⟨⟨⟨⟨⟨a1,a2⟩,a3⟩,a4⟩,a5⟩,_⟩,_⟩,_⟩,_⟩,_⟩,_⟩,a6⟩,a7⟩:=h
 exact ⟨a1,a2,a3,a4,a5,a7,a6⟩
theorem popL_0 (s:List Word) (h:s.length≤1024):popL s 0=(s,[],0):=by
 have h0:wrongL s 0 0=0:=by
  unfold wrongL
  rw [if_neg oM,if_neg oM]
 unfold popL
 rw [show ((0:Nat):Int)=0 from rfl] at *
 rw [h0,if_pos rfl]
 simp
theorem growF_same (m:List UInt8) (h:m.length%32=0):growF m (m.length/32)=m:=by
 unfold growF
 rw [show m.length/32*32-m.length=0 from by omega]
 simp
theorem step_push (hash:List UInt8→List UInt8) (f:Frm) (h:Rt f) (hs:f.status=0) (op:UInt8) (hpc:f.pc<f.code.length) (hop:f.code.getD f.pc.toNat 0=op) (h1:95≤op.toNat) (h2:op.toNat≤127) (hst:f.stack.length<1024) :
  stepL hash f=if f.gas<gasN op.toNat then (failF f 43,0) else ({f with stack:=f.stack++[opushL f.code f.pc ((op.toNat-95:Nat):Int)],pc:=f.pc+1+((op.toNat-95:Nat):Int),gas:=f.gas-gasN op.toNat},0):=by
 obtain ⟨c1,c2,c3,c4,c5,c6,c7⟩:=chkU_at h1 h2
 have h':=h
 obtain ⟨a1,a2,a3,a4,a5,a6,a7,a8,a9,a10,a11,a12,a13,a14,a15⟩:=h'
 have hl:localF op.toNat=true:=by unfold localF;rw [c2];rfl
 have hta:takeF f.stack op.toNat=([],0):=by
  unfold takeF
  rw [if_neg (by rintro (h|h);(rw [h] at c3;cases c3);omega),c4,popL_0 _ a9,if_neg (by rw [c5];omega)]
 have hsp:spanF op.toNat []=[]:=by
  unfold spanF
  rw [if_neg oM,if_neg oM,if_neg oM,if_neg oM]
 have hmo:moreF op.toNat []=0:=by
  unfold moreF
  rw [if_neg oM,if_neg oM,if_neg oM]
 unfold stepL
 rw [right_Rt.2 h,if_neg oE,if_neg oM,if_neg oM,hop,if_neg (by rw [hl];decide)]
 unfold stepF
 rw [hta]
 dsimp only
 rw [if_neg oE,hsp,hmo]
 unfold payF reachF
 dsimp only
 rw [growF_same _ a11,c4,c1,Nat.sub_zero,List.take_length]
 by_cases hg:f.gas<gasN op.toNat
 ·rw [if_pos oM,if_pos hg]
 ·rw [if_neg oM,if_neg hg]
  dsimp only
  have hd : ∀ p:Frm,doF hash op.toNat p []=({p with stack:=p.stack++[opushL p.code (p.pc-1) ((op.toNat-95:Nat):Int)],pc:=p.pc+((op.toNat-95:Nat):Int)},0):=by
   intro p
   unfold doF
   rw [c1,if_neg oE,if_pos ⟨h1,h2⟩]
  rw [hd]
  dsimp only
  rw [if_neg oE]
  simp only [Bool.false_eq_true,if_false,ite_self]
  congr 2
  ·rw [show f.pc+1-1=f.pc from by omega]
  ·omega
theorem stepL_done (hash:List UInt8→List UInt8) (f:Frm) (hs:f.status≠0):(stepL hash f).2≠0:=by
 unfold stepL
 split
 ·exact (by decide:(1:Int)≠0)
 ·exact (by decide:(50:Int)≠0)
theorem runL_done (hash:List UInt8→List UInt8) (f:Frm) (hs:f.status≠0) : ∀ m,runL hash m f=(f,0)
 | 0=>rfl
 | m+1=>by rw [runL_s,if_pos (stepL_done hash f hs)]
end Go.Rail
