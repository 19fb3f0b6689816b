/- Frames: what a step leaves. -/
import Derived.Test.YtpbbjkbackiljaaGreatDoorRailA
import Derived.Test.YtpbbjkbackiljaaGreatDoorAC18BF
import Derived.Test.YtpbbjkbackiljaaGreatDoorRailI
import Derived.Test.YtpbbjkbackiljaaGreatDoorARevC3
import Derived.Test.YtpbbjkbackiljaaGreatDoorAC7C12
import Derived.Test.YtpbbjkbackiljaaGreatDoorAC9C14
set_option linter.unusedSimpArgs false
set_option linter.unusedVariables false
namespace Go.Rail
open Go Go.Proofs
set_option maxHeartbeats 2000000
def Rt (f:Frm):Prop:=f.code.length≤49152∧f.input.length≤1048576∧f.ret.length≤1048576∧f.out.length≤1048576∧0≤f.pc∧f.pc≤9007199254740992∧0≤f.gas∧f.gas≤2000000 ∧
 f.stack.length≤1024∧f.mem.length≤1048576∧f.mem.length%32=0∧0≤f.status∧f.status≤4∧(f.errno≠0↔f.status=4)∧(f.out=[]∨f.status=2∨f.status=3)
theorem right_Rt {f:Frm}:rightF f=true↔Rt f:=by unfold rightF Rt;exact decide_eq_true_iff
theorem putF_len (m:List UInt8) (a:Nat) (s:List UInt8):(putF m a s).length=m.length:=by
 unfold putF
 split
 ·rfl
 ·split
  ·rw [List.length_append,List.length_append,List.length_take,List.length_drop];omega
  ·rfl
theorem pieceF_len (m:List UInt8) (a:Word) (n:Nat):(pieceF m a n).length≤m.length:=by
 unfold pieceF
 split
 ·exact Nat.zero_le _
 ·split
  ·rw [List.length_take,List.length_drop];omega
  ·exact Nat.zero_le _
theorem wrongL_le {s:List Word} {n:Nat}:(popL s n).1.length≤s.length:=by
 unfold popL
 split
 ·rw [List.length_take];omega
 ·exact Nat.le_refl _
theorem swF_len (s:List Word) (n:Nat):(swapS s n).length=s.length:=by simp [swapS]
theorem doC_len (n:Nat) (s:List Word) (h:s.length≤1024):(doC n s).1.length≤1024:=by
 unfold doC
 split
 ·exact h
 ·split
  ·exact h
  ·split
   ·unfold swapL
    dsimp only
    split
    ·rw [swF_len];exact h
    ·exact h
   ·split
    ·unfold dupL
     split
     ·unfold pushL
      split
      ·exact h
      ·split
       ·exact h
       ·dsimp only;rw [List.length_append];omega
     ·exact h
    ·split
     ·exact Nat.le_trans wrongL_le h
     ·unfold pushL
      split
      ·exact Nat.le_trans wrongL_le h
      ·split
       ·exact Nat.le_trans wrongL_le h
       ·dsimp only;rw [List.length_append];omega
def pushers:List Nat:=[32,53,54,56,61,81,88,89,90]
def enders:List Nat:=[0,243,253]
structure Paid (f:Frm) (op:Nat):Prop where
 code:f.code.length≤49152
 input:f.input.length≤1048576
 ret:f.ret.length≤1048576
 out:f.out=[]
 pc1:1≤f.pc
 pc2:f.pc≤f.code.length
 gas1:0≤f.gas
 gas2:f.gas≤2000000
 stack:f.stack.length≤1024
 room:isC op=false→(95≤op∧op≤127∨op∈pushers)→f.stack.length≤1023
 mem1:f.mem.length≤1048576
 mem2:f.mem.length%32=0
 status:f.status=0
 errno:f.errno=0
def Kept (op:Nat) (f g:Frm):Prop:=Rt g∧g.code=f.code∧g.gas=f.gas∧g.mem.length=f.mem.length
theorem Paid.kept {f:Frm} {op:Nat} (h:Paid f op):Kept op f f :=
 ⟨⟨h.code,h.input,h.ret,by rw [h.out];exact Nat.zero_le _,by have:=h.pc1;omega,by have:=h.pc2;have:=h.code;omega,h.gas1,h.gas2,h.stack,h.mem1,h.mem2,by rw [h.status];exact Int.le_refl _,by rw [h.status];decide,by rw [h.status,h.errno];decide,.inl h.out⟩,rfl,rfl,rfl⟩
theorem pushF_kept {f:Frm} {op:Nat} (h:Paid f op) (hr:f.stack.length≤1023) (w:Word):Kept op f (pushF f w).1:=by
 obtain ⟨⟨a1,a2,a3,a4,a5,a6,a7,a8,a9,a10⟩,b⟩:=h.kept
 exact ⟨⟨a1,a2,a3,a4,a5,a6,a7,a8,by show (f.stack++[w]).length≤1024;rw [List.length_append,List.length_cons,List.length_nil];omega,a10⟩,b⟩
theorem mem_kept {f:Frm} {op:Nat} (h:Paid f op) (m:List UInt8) (hm:m.length=f.mem.length):Kept op f {f with mem:=m}:=by
 obtain ⟨⟨a1,a2,a3,a4,a5,a6,a7,a8,a9,a10,a11,a12⟩,b1,b2,b3⟩:=h.kept
 exact ⟨⟨a1,a2,a3,a4,a5,a6,a7,a8,a9,by show m.length≤_;rw [hm];exact a10,by show m.length%32=0;rw [hm];exact a11,a12⟩,b1,b2,hm⟩
theorem endF_kept {f:Frm} {op:Nat} (h:Paid f op) (st:Int) (hs:st=2∨st=3) (l:List Word):Kept op f (endF f st l).1:=by
 have hp:=pieceF_len f.mem (l.getD 0 .zero) (numF (l.getD 1 .zero))
 have h1:=h.mem1
 have h2:=h.pc1
 have h3:=h.pc2
 have h4:=h.code
 have h5:=h.errno
 refine ⟨⟨h.code,h.input,h.ret,by show (pieceF _ _ _).length≤_;omega,by show 0≤f.pc-1;omega,by show f.pc-1≤_;omega,h.gas1,h.gas2,h.stack,h.mem1,h.mem2,?_,?_,?_,.inr hs⟩,rfl,rfl,rfl⟩
 ·show 0≤st;omega
 ·show st≤4;omega
 ·show f.errno≠0↔st=4;rw [h5];constructor
  ·intro h;exact absurd rfl h
  ·intro h;omega
theorem jumpF_kept {f:Frm} {op:Nat} (h:Paid f op) (to:Nat) (h0:(jumpF f to).2=0):Kept op f (jumpF f to).1:=by
 unfold jumpF at h0 ⊢
 split at h0
 ·rename_i hm
  rw [if_pos hm]
  obtain ⟨i,hi,b,h1,h2⟩:=jmS_at f.code 0 0 _ (by rw [← jmL_jmS];exact hm)
  have hlt:=(List.getElem?_eq_some_iff.1 h1).1
  have h4:=h.code
  obtain ⟨⟨a1,a2,a3,a4,a5,a6,a7⟩,b⟩:=h.kept
  exact ⟨⟨a1,a2,a3,a4,by show 0≤(to:Int);omega,by show (to:Int)≤_;omega,a7⟩,b⟩
 ·cases h0
theorem doF_kept (hash:List UInt8→List UInt8) {f:Frm} {op:Nat} (h:Paid f op) (l:List Word) (h0:(doF hash op f l).2=0):Kept op f (doF hash op f l).1:=by
 have hroom:=h.room
 obtain ⟨⟨a1,a2,a3,a4,a5,a6,a7,a8,a9,a10,a11,a12,a13,a14⟩,b⟩:=h.kept
 have h1:=h.pc1
 have h2:=h.pc2
 unfold doF at h0 ⊢
 by_cases hc:isC op=true
 ·rw [if_pos hc]
  exact ⟨⟨a1,a2,a3,a4,a5,a6,a7,a8,doC_len _ _ a9,a10,a11,a12,a13,a14⟩,b⟩
 rw [if_neg hc] at h0 ⊢
 have hroom:=hroom (by simpa using hc)
 by_cases c1:95≤op∧op≤127
 ·rw [if_pos c1]
  have hr:=hroom (.inl c1)
  refine ⟨⟨a1,a2,a3,a4,?_,?_,a7,a8,?_,a10,a11,a12,a13,a14⟩,b⟩
  ·show 0≤f.pc+_;omega
  ·show f.pc+((op-95:Nat):Int)≤_;omega
  ·show (f.stack++[_]).length≤1024;rw [List.length_append,List.length_cons,List.length_nil];omega
 rw [if_neg c1] at h0 ⊢
 by_cases e:op=0
 ·rw [if_pos e]
  have h5:=h.errno
  refine ⟨⟨a1,a2,a3,a4,by show 0≤f.pc-1;omega,by show f.pc-1≤_;omega,a7,a8,a9,a10,a11,by show 0≤(1:Int);omega,by show (1:Int)≤4;omega,?_,.inl h.out⟩,rfl,rfl,rfl⟩
  show f.errno≠0↔(1:Int)=4
  rw [h5];decide
 rw [if_neg e] at h0 ⊢
 have pk : ∀ w,op∈pushers→Kept op f (pushF f w).1:=fun w hp=>pushF_kept h (hroom (.inr hp)) w
 have ck : ∀ s,Kept op f (copyF f s l).1:=fun s=>mem_kept h _ (putF_len _ _ _)
 by_cases e:op=32
 ·rw [if_pos e];exact pk _ (by rw [e];decide)
 rw [if_neg e] at h0 ⊢
 by_cases e:op=53
 ·rw [if_pos e];exact pk _ (by rw [e];decide)
 rw [if_neg e] at h0 ⊢
 by_cases e:op=54
 ·rw [if_pos e];exact pk _ (by rw [e];decide)
 rw [if_neg e] at h0 ⊢
 by_cases e:op=55
 ·rw [if_pos e];exact ck _
 rw [if_neg e] at h0 ⊢
 by_cases e:op=56
 ·rw [if_pos e];exact pk _ (by rw [e];decide)
 rw [if_neg e] at h0 ⊢
 by_cases e:op=57
 ·rw [if_pos e];exact ck _
 rw [if_neg e] at h0 ⊢
 by_cases e:op=61
 ·rw [if_pos e];exact pk _ (by rw [e];decide)
 rw [if_neg e] at h0 ⊢
 by_cases e:op=62
 ·rw [if_pos e] at h0 ⊢
  split at h0
  ·cases h0
  ·rename_i hn;rw [if_neg hn];exact ck _
 rw [if_neg e] at h0 ⊢
 by_cases e:op=81
 ·rw [if_pos e];exact pk _ (by rw [e];decide)
 rw [if_neg e] at h0 ⊢
 by_cases e:op=82
 ·rw [if_pos e];exact mem_kept h _ (putF_len _ _ _)
 rw [if_neg e] at h0 ⊢
 by_cases e:op=83
 ·rw [if_pos e];exact mem_kept h _ (putF_len _ _ _)
 rw [if_neg e] at h0 ⊢
 by_cases e:op=86
 ·rw [if_pos e] at h0 ⊢;exact jumpF_kept h _ h0
 rw [if_neg e] at h0 ⊢
 by_cases e:op=87
 ·rw [if_pos e] at h0 ⊢
  split
  ·exact h.kept
  ·rename_i hn;rw [if_neg hn] at h0;exact jumpF_kept h _ h0
 rw [if_neg e] at h0 ⊢
 by_cases e:op=88
 ·rw [if_pos e];exact pk _ (by rw [e];decide)
 rw [if_neg e] at h0 ⊢
 by_cases e:op=89
 ·rw [if_pos e];exact pk _ (by rw [e];decide)
 rw [if_neg e] at h0 ⊢
 by_cases e:op=90
 ·rw [if_pos e];exact pk _ (by rw [e];decide)
 rw [if_neg e] at h0 ⊢
 by_cases e:op=243
 ·rw [if_pos e];exact endF_kept h 2 (.inl rfl) l
 rw [if_neg e] at h0 ⊢
 by_cases e:op=253
 ·rw [if_pos e];exact endF_kept h 3 (.inr rfl) l
 rw [if_neg e]
 exact h.kept
theorem doF_ends (hash:List UInt8→List UInt8) (f:Frm) (l:List Word) {op:Nat} (h:op∈enders):(doF hash op f l).1.status≠0:=by
 have hz:isC 0=false:=by kernel_rfl
 have hr:isC 243=false:=by kernel_rfl
 have hv:isC 253=false:=by kernel_rfl
 rcases List.mem_cons.1 h with rfl|h
 ·unfold doF;rw [hz];show (1:Int)≠0;decide
 ·rcases List.mem_cons.1 h with rfl|h
  ·unfold doF;rw [hr];show (2:Int)≠0;decide
  ·rw [List.mem_singleton.1 h]
   unfold doF;rw [hv];show (3:Int)≠0;decide
theorem fail_Rt {f:Frm} (h:Rt f) (ho:f.out=[]) (e:Int) (he:e≠0):Rt (failF f e):=by
 obtain ⟨a1,a2,a3,a4,a5,a6,a7,a8,a9,a10,a11,a12,a13,a14,a15⟩:=h
 exact ⟨a1,a2,a3,a4,a5,a6,Int.le_refl _,by show (0:Int)≤_;decide,a9,a10,a11,by show (0:Int)≤4;decide,Int.le_refl _,⟨fun _=>rfl,fun _=>he⟩,.inl ho⟩
theorem takeF_ok {s:List Word} {op:Nat} (h:(takeF s op).2=0):(infoN op).isSome=true∧op≠254∧popsN op≤s.length∧s.length+pushN' op≤1024+popsN op∧(takeF s op).1=(s.drop (s.length-popsN op)).reverse:=by
 unfold takeF at h ⊢
 split at h
 ·cases h
 ·rename_i h1
  rw [if_neg h1]
  split at h
  ·cases h
  ·rename_i h2
   rw [if_neg h2]
   obtain ⟨q1,q2,q3⟩:=popL_ok h
   refine ⟨?_,fun e=>h1 (.inr e),q3,by have:=fun h3=>h2 ⟨h,h3⟩;omega,q2⟩
   cases hi:infoN op with
   | none=>exact absurd (.inl hi) h1
   | some r=>rfl
theorem needF_le {a n:Word} {k:Nat} (h:needF a n=some k):k≤32768:=by
 unfold needF at h
 split at h
 ·cases h;exact Nat.zero_le _
 ·split at h
  ·rename_i h1;cases h;omega
  ·cases h
theorem reachF_le : ∀ (sp:List (Word × Word)) (had k:Nat),reachF had sp=some k→had≤k∧(had≤32768→k≤32768)
 | [],had,k,h=>by cases h;exact ⟨Nat.le_refl _,fun h=>h⟩
 | s::r,had,k,h=>by
  unfold reachF at h
  split at h
  ·cases h
  ·rename_i n hn
   obtain ⟨h1,h2⟩:=reachF_le r _ k h
   have:=needF_le hn
   exact ⟨by omega,fun h3=>h2 oM⟩
theorem costF_mono {a b:Nat} (h:a≤b):costF a≤costF b:=by
 unfold costF
 have h1:min a 32768≤min b 32768:=by omega
 have h2:=Nat.mul_le_mul h1 h1
 have h3:=Nat.div_le_div_right (c:=512) h2
 omega
def chkG (n:Nat):Bool := !(foundF n)||(infoN n).isNone ||
 ((enders.contains n||Nat.ble 1 (gasN n))&&(isC n || !(decide (95≤n∧n≤127)||pushers.contains n)||Nat.ble 1 (pushN' n)))
theorem chkG_all:((List.range 256).all chkG)=true:=by kernel_rfl
theorem chkG_at {n:Nat} (hn:n<256) (hf:foundF n=true) (hi:(infoN n).isSome=true):(n∈enders∨1≤gasN n)∧(isC n=false→(95≤n∧n≤127∨n∈pushers)→1≤pushN' n):=by
 have h:=List.all_eq_true.1 chkG_all n (List.mem_range.2 hn)
 unfold chkG at h
 rw [hf] at h
 have hin:(infoN n).isNone=false:=by cases hx:infoN n with
  | none=>rw [hx] at hi;cases hi
  | some r=>rfl
 rw [hin] at h
 simp only [Bool.not_true,Bool.false_or,Bool.and_eq_true,Bool.or_eq_true,Bool.not_eq_true',Bool.or_eq_false_iff,decide_eq_false_iff_not,Nat.ble_eq,List.contains_iff_mem] at h
 obtain ⟨h1,h2⟩:=h
 refine ⟨h1,fun hc hp => ?_⟩
 rcases h2 with (h2|⟨h2,h3⟩)|h2
 ·rw [h2] at hc;cases hc
 ·rcases hp with hp|hp
  ·exact absurd hp h2
  ·rw [List.contains_iff_mem.2 hp] at h3;cases h3
 ·exact h2
theorem growF_len (m:List UInt8) (w:Nat):(growF m w).length=max m.length (w*32):=by
 unfold growF;rw [List.length_append,List.length_replicate];omega
theorem stepF_law (hash:List UInt8→List UInt8) {f:Frm} {op:Nat} (hop:op<256) (h:Rt f) (hs:f.status=0) (hpc:f.pc<f.code.length) (hl:localF op=true) :
  Rt (stepF hash f op)∧(stepF hash f op).code=f.code∧f.mem.length≤(stepF hash f op).mem.length∧(stepF hash f op).gas≤f.gas∧((stepF hash f op).status=0→(stepF hash f op).gas<f.gas):=by
 have h':=h
 obtain ⟨a1,a2,a3,a4,a5,a6,a7,a8,a9,a10,a11,a12,a13,a14,a15⟩:=h'
 have ho:f.out=[]:=by rcases a15 with h|h|h<;>first|exact h|omega
 have he:f.errno=0:=by
  by_cases h0:f.errno=0
  ·exact h0
  ·have:=a14.1 h0;omega
 have failed : ∀ e,e≠0→Rt (failF f e)∧(failF f e).code=f.code∧f.mem.length≤(failF f e).mem.length∧(failF f e).gas≤f.gas∧((failF f e).status=0→(failF f e).gas<f.gas) :=
  fun e he=>⟨fail_Rt h ho e he,rfl,Nat.le_refl _,a7,fun h=>by cases h⟩
 unfold stepF
 by_cases ht:(takeF f.stack op).2≠0
 ·rw [if_pos ht];exact failed _ ht
 rw [if_neg ht]
 have ht0:(takeF f.stack op).2=0:=by omega
 obtain ⟨t1,t2,t3,t4,t5⟩:=takeF_ok ht0
 have hfo:foundF op=true:=by
  unfold localF at hl
  rw [Bool.or_eq_true,Bool.or_eq_true] at hl
  rcases hl with (hl|hl)|hl
  ·exact hl
  ·cases hx:infoN op with
   | none=>rw [hx] at t1;cases t1
   | some r=>rw [hx] at hl;cases hl
  ·exact absurd (of_decide_eq_true hl) t2
 obtain ⟨c1,c2⟩:=chkG_at hop hfo t1
 generalize (takeF f.stack op).1=l
 cases hp:payF f op (moreF op l) (spanF op l) with
 | none=>exact failed 43 oE
 | some p =>
  dsimp only
  unfold payF at hp
  split at hp
  ·cases hp
  ·rename_i words hw
   split at hp
   ·cases hp
   ·rename_i hg
    obtain ⟨r1,r2⟩:=reachF_le _ _ _ hw
    have r2:=r2 oM
    have hm:=costF_mono r1
    injection hp with hp
    have hpaid:Paid p op:=by
     subst hp
     have hgl:=growF_len f.mem words
     refine ⟨a1,a2,a3,ho,by show 1≤f.pc+1;omega,by show f.pc+1≤(f.code.length:Int);omega,by dsimp only;omega,by dsimp only;omega,?_,?_,by dsimp only;omega,by dsimp only;omega,hs,he⟩
     ·dsimp only
      split
      ·exact a9
      ·rw [List.length_take];omega
     ·intro hc hpu
      have:=c2 hc hpu
      dsimp only
      rw [if_neg (by rw [hc];decide),List.length_take]
      omega
    have hcode:p.code=f.code:=by subst hp;rfl
    have hgas:p.gas≤f.gas∧(op∉enders→p.gas<f.gas):=by
     subst hp
     dsimp only
     refine ⟨by omega,fun hn => ?_⟩
     rcases c1 with c1|c1
     ·exact absurd c1 hn
     ·omega
    have hmem:f.mem.length≤p.mem.length:=by subst hp;show _≤(growF _ _).length;rw [growF_len];omega
    by_cases hd:(doF hash op p l).2≠0
    ·rw [if_pos hd];exact failed _ hd
    ·rw [if_neg hd]
     obtain ⟨k1,k2,k3,k4⟩:=doF_kept hash hpaid l oM
     refine ⟨k1,by rw [k2,hcode],by omega,by omega,fun hst => ?_⟩
     by_cases hn:op∈enders
     ·exact absurd hst (doF_ends hash p l hn)
     ·have:=hgas.2 hn;omega
end Go.Rail
namespace Go.Rail
open Go Go.Proofs Tryz
set_option maxHeartbeats 400000
set_option maxRecDepth 4000
attribute [local irreducible] OpK G W LW wpListIn Exit.then Exit.inBlock Post rounds opRun bodyPostM intOp
set_option maxHeartbeats 2000000
theorem gwithin_spec (x:Nat):FnV prog 318 [.int .i64 (x:Int),.int .i64 0,.int .i64 1048576] [] (.int .i64 ((min x 1048576:Nat):Int)):=by
 refine Fn.enter func318 rfl ntmps318 oI (fun I0 w0 => ?_)
 by_cases h:x≤1048576
 ·rw [Nat.min_eq_left h]
  repeat refine sq ?_;try intro
  refine G.retV ?_
  refine congrArg (Value.int .i64) ?_
  split<;>split<;>omega
 ·rw [Nat.min_eq_right oM]
  repeat refine sq ?_;try intro
  refine G.retV ?_
  refine congrArg (Value.int .i64) ?_
  split<;>split<;>omega
theorem gmany_spec (x:Nat):FnV prog 269 [.int .i64 (x:Int)] [] (.int .i64 ((manyF x:Nat):Int)):=by
 have h:=gwithin_spec x
 refine Fn.enter func269 rfl ntmps269 oI (fun I0 w0 => ?_)
 repeat refine sq ?_;try intro
 refine cV h ?_
 repeat refine sq ?_;try intro
 refine G.retV ?_
 rfl
theorem gwords_spec (x:Nat):FnV prog 186 [.int .i64 (x:Int)] [] (.int .i64 ((wordsF x:Nat):Int)):=by
 have h:=gmany_spec x
 have hm:manyF x≤1048576:=by unfold manyF;omega
 unfold wordsF
 generalize manyF x=m at h hm
 refine Fn.enter func186 rfl ntmps186 oI (fun I0 w0 => ?_)
 repeat refine sq ?_;try intro
 refine cV h ?_
 repeat refine sq ?_;try intro
 refine G.retV ?_
 refine congrArg (Value.int .i64) ?_
 omega
theorem gcopy_spec (x:Nat):FnV prog 104 [.int .i64 (x:Int)] [] (.int .i64 ((3*wordsF x:Nat):Int)):=by
 have h:=gwords_spec x
 have hm:wordsF x≤32768:=by unfold wordsF manyF;omega
 generalize wordsF x=m at h hm
 refine Fn.enter func104 rfl ntmps104 oI (fun I0 w0 => ?_)
 repeat refine sq ?_;try intro
 refine cV h ?_
 repeat refine sq ?_;try intro
 refine G.retV ?_
 rfl
theorem ghash_spec (x:Nat):FnV prog 97 [.int .i64 (x:Int)] [] (.int .i64 ((6*wordsF x:Nat):Int)):=by
 have h:=gwords_spec x
 have hm:wordsF x≤32768:=by unfold wordsF manyF;omega
 generalize wordsF x=m at h hm
 refine Fn.enter func97 rfl ntmps97 oI (fun I0 w0 => ?_)
 repeat refine sq ?_;try intro
 refine cV h ?_
 repeat refine sq ?_;try intro
 refine G.retV ?_
 rfl
theorem trimB_spec (l:List UInt8) (hl:l.length≤1000000):FnV prog 169 [.string (ba l),.int .u8 0] [] (.string (ba (trimF l))):=by
 refine Fn.enter func169 rfl ntmps169 oI (fun I0 w0 => ?_)
 repeat refine sq ?_;try intro
 refine W.lp (S:=List UInt8) (fun s=>([],[(0,.string (ba s)),(1,.int .u8 0)],[])) (fun s=>trimF s=trimF l∧s.length≤l.length) (fun s=>s.length) l ?_ (h0:=⟨rfl,Nat.le_refl _⟩)
 rintro s ⟨hs,hsl⟩
 dsimp only
 cases s with
 | nil =>
  rw [← hs]
  repeat refine sq ?_;try intro
  refine G.retV ?_
  rfl
 | cons a s =>
  rw [List.length_cons] at hsl
  by_cases ha:a.toNat=0
  ·have ha0:a=0:=UInt8.toNat_inj.1 ha
   subst ha0
   have hs2:trimF s=trimF l:=by rw [← hs];rfl
   have hpos:0<((0:UInt8)::s).length:=Nat.succ_pos _
   repeat refine sq ?_;try intro
   have e:(((0:UInt8)::s).take ((0:UInt8)::s).length).drop 1=s:=by rw [List.take_length];rfl
   rw [e]
   exact G.ag (S:=List UInt8) s (hμ:=Nat.lt_succ_self _) (hpre:=⟨hs2,by omega⟩)
  ·have hs2:trimF l=a::s:=by
    rw [← hs]
    unfold trimF
    rw [List.dropWhile_cons_of_neg]
    intro h
    exact ha (by rw [eq_of_beq h];rfl)
   rw [hs2]
   have hpos:0<(a::s).length:=Nat.succ_pos _
   repeat refine sq ?_;try intro
   refine G.retV ?_
   rfl
theorem mwithin_spec (x:Int) (m:Int) (hm:0≤m):FnV prog 197 [.int .i64 x,.int .i64 0,.int .i64 m] [] (.int .i64 (max 0 (min x m))):=by
 refine Fn.enter func197 rfl ntmps197 oI (fun I0 w0 => ?_)
 repeat refine sq ?_;try intro
 refine G.retV ?_
 refine congrArg (Value.int .i64) ?_
 split<;>split<;>omega
theorem mcost_spec (n:Nat):FnV prog 195 [.int .i64 (n:Int)] [] (.int .i64 ((costF n:Nat):Int)):=by
 have h:=mwithin_spec (n:Int) 32768 oE
 rw [show max 0 (min (n:Int) 32768)=((min n 32768:Nat):Int) from by omega] at h
 unfold costF
 have hm:min n 32768≤32768:=by omega
 generalize min n 32768=m at h hm
 have h2:m*m≤32768*32768:=Nat.mul_le_mul hm hm
 refine Fn.enter func195 rfl ntmps195 oI (fun I0 w0 => ?_)
 repeat refine sq ?_;try intro
 refine cV h ?_
 repeat refine sq ?_;try intro
 refine G.retV ?_
 rfl
theorem mmay_spec (l:List UInt8) (hl:l.length≤1000000000):FnV prog 196 [.string (ba l)] [] (.bool (decide (l.length≤1048576∧l.length%32=0))):=by
 refine Fn.enter func196 rfl ntmps196 oI (fun I0 w0 => ?_)
 by_cases h1:l.length≤1048576
 ·by_cases h2:l.length%32=0
  ·rw [decide_eq_true ⟨h1,h2⟩]
   repeat refine sq ?_;try intro
   refine G.retV ?_
   rfl
  ·rw [decide_eq_false (fun h=>h2 h.2)]
   repeat refine sq ?_;try intro
   refine G.retV ?_
   rfl
 ·rw [decide_eq_false (fun h=>h1 h.1)]
  repeat refine sq ?_;try intro
  refine G.retV ?_
  rfl
end Go.Rail
namespace Go.Rail
open Go Go.Proofs Tryz
set_option maxHeartbeats 400000
set_option maxRecDepth 4000
attribute [local irreducible] OpK G W LW wpListIn Exit.then Exit.inBlock Post rounds opRun bodyPostM intOp
set_option maxHeartbeats 2000000
attribute [local irreducible] addW cmpW Word.nat
theorem number_spec (w:Word):FnV prog 184 [w.v] [] (.int .i64 ((numF w:Nat):Int)):=by
 have h:=wint_spec w
 unfold numF
 by_cases h1:w.num≤4611686018427387903
 ·rw [if_pos h1,decide_eq_true h1] at h
  generalize w.num=n at h h1 ⊢
  refine Fn.enter func184 rfl ntmps184 oI (fun I0 w0 => ?_)
  repeat refine sq ?_;try intro
  refine cV h ?_
  repeat refine sq ?_;try intro
  refine G.retV ?_
  refine congrArg (Value.int .i64) ?_
  split<;>omega
 ·rw [if_neg h1,decide_eq_false h1] at h
  rw [Nat.min_eq_right oM]
  refine Fn.enter func184 rfl ntmps184 oI (fun I0 w0 => ?_)
  repeat refine sq ?_;try intro
  refine cV h ?_
  repeat refine sq ?_;try intro
  refine G.retV ?_
  rfl
theorem need_spec (a n:Word):FnV prog 275 [a.v,n.v] [] (.tuple #[.int .i64 (((needF a n).getD 0:Nat):Int),.bool (needF a n).isSome]):=by
 have h1:=wadd_spec a n
 have h2:=wint_spec (addW a n)
 unfold needF
 generalize addW a n=e at h1 h2 ⊢
 have h3:=cmpW_num e a
 by_cases hn:n = .zero
 ·rw [if_pos hn]
  subst hn
  refine Fn.enter func275 rfl ntmps275 oI (fun I0 w0 => ?_)
  repeat refine sq ?_;try intro
  refine cV h1 ?_
  repeat refine sq ?_;try intro
  refine cV h2 ?_
  repeat refine sq ?_;try intro
  refine G.retV ?_
  rfl
 rw [if_neg hn]
 by_cases hi:e.num≤4611686018427387903
 ·rw [if_pos hi,decide_eq_true hi] at h2
  by_cases hm:e.num≤1048576
  ·by_cases hc:e.num<a.num
   ·rw [if_pos hc] at h3
    rw [if_neg oM]
    refine Fn.enter func275 rfl ntmps275 oI (fun I0 w0 => ?_)
    repeat refine sq ?_;try intro
    refine cV h1 ?_
    repeat refine sq ?_;try intro
    refine cV h2 ?_
    repeat refine sq ?_;try intro
    refine G.retV ?_
    rfl
   ·rw [if_neg hc] at h3
    rw [if_pos ⟨hm,by omega⟩]
    have h3' : ∃ q:Int,0≤q∧(if a.num<e.num then (1:Int) else 0)=q:=⟨_,by split<;>decide,rfl⟩
    obtain ⟨q,hq,hq2⟩:=h3'
    rw [hq2] at h3
    refine Fn.enter func275 rfl ntmps275 oI (fun I0 w0 => ?_)
    repeat refine sq ?_;try intro
    refine cV h1 ?_
    repeat refine sq ?_;try intro
    refine cV h2 ?_
    repeat refine sq ?_;try intro
    refine G.retV ?_
    rfl
  ·rw [if_neg oM]
   refine Fn.enter func275 rfl ntmps275 oI (fun I0 w0 => ?_)
   repeat refine sq ?_;try intro
   refine cV h1 ?_
   repeat refine sq ?_;try intro
   refine cV h2 ?_
   repeat refine sq ?_;try intro
   refine G.retV ?_
   rfl
 ·rw [if_neg hi,decide_eq_false hi] at h2
  rw [if_neg oM]
  refine Fn.enter func275 rfl ntmps275 oI (fun I0 w0 => ?_)
  repeat refine sq ?_;try intro
  refine cV h1 ?_
  repeat refine sq ?_;try intro
  refine cV h2 ?_
  repeat refine sq ?_;try intro
  refine G.retV ?_
  rfl
theorem there_spec (m:List UInt8) (at_ n:Int) (hm:m.length≤1000000000):FnV prog 270 [.string (ba m),.int .i64 at_,.int .i64 n] [] (.bool (decide ((m.length≤1048576∧m.length%32=0)∧0≤n∧0≤at_∧at_≤m.length∧n≤m.length-at_))):=by
 have h:=mmay_spec m hm
 by_cases h0:m.length≤1048576∧m.length%32=0
 ·rw [decide_eq_true h0] at h
  by_cases h1:0≤n
  ·by_cases h2:0≤at_
   ·by_cases h3:at_≤m.length
    ·by_cases h4:n≤m.length-at_
     ·rw [decide_eq_true ⟨h0,h1,h2,h3,h4⟩]
      refine Fn.enter func270 rfl ntmps270 oI (fun I0 w0 => ?_)
      repeat refine sq ?_;try intro
      refine cV h ?_
      repeat refine sq ?_;try intro
      refine G.retV ?_
      rfl
     ·rw [decide_eq_false (fun q=>h4 q.2.2.2.2)]
      refine Fn.enter func270 rfl ntmps270 oI (fun I0 w0 => ?_)
      repeat refine sq ?_;try intro
      refine cV h ?_
      repeat refine sq ?_;try intro
      refine G.retV ?_
      rfl
    ·rw [decide_eq_false (fun q=>h3 q.2.2.2.1)]
     refine Fn.enter func270 rfl ntmps270 oI (fun I0 w0 => ?_)
     repeat refine sq ?_;try intro
     refine cV h ?_
     repeat refine sq ?_;try intro
     refine G.retV ?_
     rfl
   ·rw [decide_eq_false (fun q=>h2 q.2.2.1)]
    refine Fn.enter func270 rfl ntmps270 oI (fun I0 w0 => ?_)
    repeat refine sq ?_;try intro
    refine cV h ?_
    repeat refine sq ?_;try intro
    refine G.retV ?_
    rfl
  ·rw [decide_eq_false (fun q=>h1 q.2.1)]
   refine Fn.enter func270 rfl ntmps270 oI (fun I0 w0 => ?_)
   repeat refine sq ?_;try intro
   refine cV h ?_
   repeat refine sq ?_;try intro
   refine G.retV ?_
   rfl
 ·rw [decide_eq_false h0] at h
  rw [decide_eq_false (fun q=>h0 q.1)]
  refine Fn.enter func270 rfl ntmps270 oI (fun I0 w0 => ?_)
  repeat refine sq ?_;try intro
  refine cV h ?_
  repeat refine sq ?_;try intro
  refine G.retV ?_
  rfl
theorem noughts_spec (n:Int) (hn:n≤100000000):FnV prog 200 [.int .i64 n] [] (.string (ba (List.replicate n.toNat 0))):=by
 have h:=repeat_spec n.toNat oM
 rw [show ((n.toNat:Nat):Int)=(if n<0 then 0 else n) from by split<;>omega] at h
 refine Fn.enter func200 rfl ntmps200 oI (fun I0 w0 => ?_)
 repeat refine sq ?_;try intro
 refine cV h ?_
 repeat refine sq ?_;try intro
 refine G.retV ?_
 rfl
def txE1 (ts:List (List UInt8)):List (List Value):=ts.map fun t=>[.string (ba t)]
theorem txE1_len (ts:List (List UInt8)):(txE1 ts).length=ts.length:=by simp [txE1]
theorem txE1_one (ts:List (List UInt8)) : ∀ vs∈txE1 ts,vs.length=1:=by
 intro vs h
 obtain ⟨p,_,rfl⟩:=List.mem_map.1 h
 rfl
theorem txE1_at (ts:List (List UInt8)) (k:Nat) (h:k<(txE1 ts).length) (h2:k<ts.length):(txE1 ts)[k]=[.string (ba (ts[k]'h2))]:=by simp [txE1]
theorem flat_step (ts:List (List UInt8)) (k:Nat) (h:k<ts.length):(ts.take (k+1)).flatten=(ts.take k).flatten++ts[k]:=by
 rw [List.take_succ_eq_append_getElem h,List.flatten_append];simp
theorem flat_le (ts:List (List UInt8)) (k:Nat):(ts.take k).flatten.length≤ts.flatten.length:=by
 conv=>rhs;rw [← List.take_append_drop k ts,List.flatten_append,List.length_append]
 omega
theorem joined_spec (gf:FuncId) [HasFn prog gf] (lb:List Value) (ts:List (List UInt8)) (Φi:List Fa) (hit:IterR prog gf lb (txE1 ts) Φi) (hx:ts.flatten.length≤100000000) :
  FnV prog 198 [.func (.func gf) #[] lb.toArray] Φi (.string (ba ts.flatten)):=by
 refine Fn.enter func198 rfl ntmps198 oI (fun I0 w0 => ?_)
 repeat refine sq ?_;try intro
 rename_i B
 refine W.rangeFuncR (enc:=txE1 ts) (ps:=[6]) (Φi:=Φi) (Mr:=[]) (fun k s => ∃ a v o,(a=none∨a=some ⟨B,0,none⟩)∧IsBuf v (ts.take k).flatten o∧s=([],bldM B a v (ts.take k).flatten o)) (fun _ _=>False) rfl hit oE (txE1_one ts) ⟨fun I hp φ hφ=>hp φ hφ⟩ ([],bldM B none (.slice none 0 0) [] none) ⟨_,_,none,.inl rfl,⟨rfl,rfl⟩,rfl⟩ oY oP ?_ ?_ ?_
 ·rintro y rec I0' w0' k hk _ ⟨a,v,o,ha,hb,rfl⟩
  rw [txE1_len] at hk
  have hst:=flat_step ts k hk
  have hle:=flat_le ts (k+1)
  dsimp only
  rw [txE1_at ts k (by rw [txE1_len];exact hk) hk]
  generalize ts[k]'hk=t at hst ⊢
  rw [hst] at hle
  have hw:=writeString_spec B a ha v (ts.take k).flatten t o hb (by rw [List.length_append] at hle;omega)
  show W _ _ _ _ ((6,.string (ba t))::_) _
  repeat refine sq ?_;try intro
  refine G.begin (by rfl) ?_
  repeat refine sq ?_;try intro
  refine OpK.call rfl rfl rfl rfl hw oY (Mr:=[_]) (oH (l₁:=[_])) ?_
  rintro u Φ' Mc' ⟨v3,o3,hb3,rfl,rfl,rfl⟩
  refine G.perm ?_ oH
  rw [← hst] at hb3 ⊢
  refine nA ?_
  repeat refine sq ?_;try intro
  refine G.roundEnd oY (Φ':=[]) (M'':=bldM B (some ⟨B,0,none⟩) v3 (ts.take (k+1)).flatten o3) ?_ oY (by first|exact List.Sublist.refl _|exact .cons _ oZ)
  exact Or.inl ⟨rfl,([],bldM B (some ⟨B,0,none⟩) v3 (ts.take (k+1)).flatten o3),⟨_,v3,o3,.inr rfl,hb3,rfl⟩,rfl⟩
 ·rintro D _ ⟨a,v,o,ha,hb,rfl⟩
  rw [txE1_len,List.take_length] at hb ⊢
  have hs:=bString_spec B a v ts.flatten o hb oM
  refine G.perm ?_ oH
  refine nA ?_
  repeat refine sq ?_;try intro
  refine OpK.call rfl rfl rfl rfl hs oY (Mr:=[_]) (oH (l₁:=[_])) ?_
  rintro u Φ' Mc' ⟨o',hb',rfl,rfl,rfl⟩
  refine G.perm ?_ oH
  refine nA ?_
  repeat refine sq ?_;try intro
  refine G.unmark oY ?_
  refine G.retV ?_
  rfl
 ·intro D c s h
  exact h.elim
end Go.Rail
