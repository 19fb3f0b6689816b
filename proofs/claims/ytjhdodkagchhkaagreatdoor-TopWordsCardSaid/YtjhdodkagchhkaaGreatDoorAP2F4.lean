/- Frames: a loop that adds. -/
import Derived.Test.YtjhdodkagchhkaaGreatDoorRailA
import Derived.Test.YtjhdodkagchhkaaGreatDoorAF1P1
import Derived.Test.YtjhdodkagchhkaaGreatDoorRailI
import Derived.Test.YtjhdodkagchhkaaGreatDoorAF0BE
import Derived.Test.YtjhdodkagchhkaaGreatDoorAOrdRev
import Derived.Test.YtjhdodkagchhkaaGreatDoorAC7C11
import Derived.Test.YtjhdodkagchhkaaGreatDoorAC14C15
set_option linter.unusedSimpArgs false
set_option linter.unusedVariables false
namespace Go.Rail
open Go Go.Proofs
set_option maxHeartbeats 2000000
abbrev needG (f:Frm) (op words more:Nat):Int:=(costF words:Int)-(costF (f.mem.length/32):Int)+(gasN op:Int)+(more:Int)
abbrev pdF (f:Frm) (op words more:Nat):Frm:={f with gas:=f.gas-needG f op words more,mem:=growF f.mem words,stack:=if isC op then f.stack else f.stack.take (f.stack.length-popsN op),pc:=f.pc+1}
theorem step_gen (hash:List UInt8→List UInt8) {f:Frm} {op words:Nat} {l:List Word} (h:Rt f) (hs:f.status=0) (hpc:f.pc<f.code.length) (hop:(f.code.getD f.pc.toNat 0).toNat=op) (hl:localF op=true) (ht:takeF f.stack op=(l,0))
  (hw:reachF (f.mem.length/32) (spanF op l)=some words) :
  (f.gas<needG f op words (moreF op l)→stepL hash f=(failF f 43,0))∧(needG f op words (moreF op l)≤f.gas → ∀ g,doF hash op (pdF f op words (moreF op l)) l=(g,0)→stepL hash f=(g,0)):=by
 have e:stepL hash f=(stepF hash f op,0):=by
  unfold stepL
  rw [right_Rt.2 h,if_neg (show ¬ true=false by decide),if_neg (show ¬ f.status≠0 by omega),if_neg oM,hop,if_neg (by rw [hl];decide)]
 rw [e]
 unfold stepF
 rw [ht]
 dsimp only
 rw [if_neg (show ¬ (0:Int)≠0 by decide)]
 unfold payF
 rw [hw]
 dsimp only
 refine ⟨fun hg => ?_,fun hg g hd => ?_⟩
 ·rw [if_pos hg]
 ·rw [if_neg (show ¬ f.gas<needG f op words (moreF op l) by omega)]
  dsimp only
  rw [hd]
  rfl
def Goes (hash:List UInt8→List UInt8) (m:Nat) (f g:Frm):Prop:=∀ t,runL hash (m+t) f=((runL hash t g).1,(runL hash t g).2+m)
theorem Goes.refl (hash:List UInt8→List UInt8) (f:Frm):Goes hash 0 f f:=fun t=>by rw [Nat.zero_add];rfl
theorem Goes.step {hash:List UInt8→List UInt8} {f g:Frm} (h:stepL hash f=(g,0)):Goes hash 1 f g:=fun t=>by
 rw [Nat.add_comm,runL_s,h]
 rw [if_neg (show ¬ (0:Int)≠0 by decide)]
theorem Goes.trans {hash:List UInt8→List UInt8} {m n:Nat} {f g e:Frm} (h:Goes hash m f g) (k:Goes hash n g e):Goes hash (m+n) f e:=fun t=>by
 rw [Nat.add_assoc,h,k]
 dsimp only
 rw [Nat.add_assoc,Nat.add_comm n m]
def Short (hash:List UInt8→List UInt8) (m:Nat) (f:Frm):Prop:=∃ j h,j≤m∧Goes hash j f h∧h.status=4∧h.errno=43∧h.gas=0
def Way (hash:List UInt8→List UInt8) (m c:Nat) (f g:Int→Frm):Prop:=∀ x:Int,0≤x→x≤2000000→((c:Int)≤x→Goes hash m (f x) (g (x-c)))∧(x<c→Short hash m (f x))
theorem Way.refl (hash:List UInt8→List UInt8) (f:Int→Frm):Way hash 0 0 f f:=fun x h0 _=>⟨fun _=>by rw [show x-((0:Nat):Int)=x from by omega];exact Goes.refl hash _,fun h=>by omega⟩
theorem Way.trans {hash:List UInt8→List UInt8} {m n c d:Nat} {f g e:Int→Frm} (h:Way hash m c f g) (k:Way hash n d g e):Way hash (m+n) (c+d) f e:=fun x h0 h1=>by
 obtain ⟨a1,a2⟩:=h x h0 h1
 by_cases hc:(c:Int)≤x
 ·obtain ⟨b1,b2⟩:=k (x-c) oM oM
  refine ⟨fun hx => ?_,fun hx => ?_⟩
  ·rw [show x-((c+d:Nat):Int)=x-c-d from by omega]
   exact (a1 hc).trans (b1 oM)
  ·obtain ⟨j,z,hj,hz,r⟩:=b2 oM
   exact ⟨m+j,z,by omega,(a1 hc).trans hz,r⟩
 ·refine ⟨fun hx=>by omega,fun _ => ?_⟩
  obtain ⟨j,z,hj,hz,r⟩:=a2 oM
  exact ⟨j,z,by omega,hz,r⟩
theorem Way.one {hash:List UInt8→List UInt8} {c:Nat} {f g:Int→Frm} (h : ∀ x:Int,0≤x→x≤2000000→(x<c→stepL hash (f x)=(failF (f x) 43,0))∧((c:Int)≤x→stepL hash (f x)=(g (x-c),0))):Way hash 1 c f g:=fun x h0 h1=>by
 obtain ⟨a,b⟩:=h x h0 h1
 exact ⟨fun hx=>Goes.step (b hx),fun hx=>⟨1,_,Nat.le_refl _,Goes.step (a hx),rfl,rfl,rfl⟩⟩
theorem Way.stop {hash:List UInt8→List UInt8} {m c:Nat} {f g:Int→Frm} (h:Way hash m c f g) (hg : ∀ y,(g y).status≠0) (x:Int) (h0:0≤x) (h1:x≤2000000) (t:Nat) (ht:m≤t) :
  ((c:Int)≤x→runL hash t (f x)=(g (x-c),m))∧(x<c→(runL hash t (f x)).1.status=4∧(runL hash t (f x)).1.errno=43∧(runL hash t (f x)).1.gas=0):=by
 obtain ⟨a1,a2⟩:=h x h0 h1
 refine ⟨fun hx => ?_,fun hx => ?_⟩
 ·have:=a1 hx (t-m)
  rw [show m+(t-m)=t from by omega,runL_done hash _ (hg _)] at this
  rw [this]
  simp
 ·obtain ⟨j,z,hj,hz,r1,r2,r3⟩:=a2 hx
  have:=hz (t-j)
  rw [show j+(t-j)=t from by omega,runL_done hash _ (show z.status≠0 by omega)] at this
  rw [this]
  exact ⟨r1,r2,r3⟩
end Go.Rail
namespace Go.Rail
open Go Go.Proofs
set_option maxHeartbeats 1000000
theorem takeF_eq {s:List Word} {op p q:Nat} (hi:infoN op≠none) (h254:op≠254) (hp:popsN op=p) (hq:pushN' op=q) (hs:s.length≤1024) (hl:p≤s.length) (ho:s.length+q≤1024+p):takeF s op=((s.drop (s.length-p)).reverse,0):=by
 have hw:wrongL s (p:Int) 0=0:=by
  unfold wrongL
  rw [if_neg oM,if_neg oM]
 unfold takeF
 rw [if_neg (by rintro (h|h);exact hi h;exact h254 h),hp,hq]
 unfold popL
 rw [hw]
 rw [if_pos rfl]
 dsimp only
 rw [if_neg oM]
theorem doF_C (hash:List UInt8→List UInt8) {op:Nat} (h:isC op=true) (f:Frm) (l:List Word) {s:List Word} (hs:(doC op f.stack).1=s):doF hash op f l=({f with stack:=s},0):=by
 unfold doF
 rw [if_pos h,hs]
def opB (op p q g:Nat) (c:Bool):Bool:=(infoN op).isSome&&decide (op≠254)&&decide (popsN op=p)&&decide (pushN' op=q)&&decide (gasN op=g)&&(isC op==c)&&localF op
theorem opB_at {op p q g:Nat} {c:Bool} (h:opB op p q g c=true):infoN op≠none∧op≠254∧popsN op=p∧pushN' op=q∧gasN op=g∧isC op=c∧localF op=true:=by
 unfold opB at h
 simp only [Bool.and_eq_true,decide_eq_true_eq,beq_iff_eq] at h
 obtain ⟨⟨⟨⟨⟨⟨a1,a2⟩,a3⟩,a4⟩,a5⟩,a6⟩,a7⟩:=h
 exact ⟨fun h=>by (rw [h] at a1;exact absurd a1 oE),a2,a3,a4,a5,a6,a7⟩
theorem nat_num {k:Nat} (h:k<18446744073709551616):(Word.nat k).num=k:=by
 rw [Word.num_nat];unfold top256;omega
theorem o1:opB 0x01 2 1 3 true=true:=by kernel_rfl
theorem o3:opB 0x03 2 1 3 true=true:=by kernel_rfl
theorem o52:opB 0x52 2 0 3 false=true:=by kernel_rfl
theorem of3:opB 0xf3 2 0 0 false=true:=by kernel_rfl
theorem c1 (a b:Word):(doC 0x01 [a,b]).1=[addW b a]:=by kernel_rfl
end Go.Rail
namespace Go.Rail
open Go Go.Proofs
set_option maxHeartbeats 1000000
abbrev mF (code:List UInt8) (pc:Nat) (st:List Word) (mem:List UInt8) (g:Int):Frm:=⟨code,[],pc,st,mem,g,[],0,0,[]⟩
theorem m_Rt {code:List UInt8} {pc:Nat} {st:List Word} {mem:List UInt8} {g:Int} (hc:code.length≤1000) (hp:pc≤1000) (hs:st.length≤100) (hm:mem.length%32=0) (hml:mem.length≤1000) (h4:0≤g) (h5:g≤5000):Rt (mF code pc st mem g) :=
 ⟨by show code.length≤_;omega,Nat.zero_le _,Nat.zero_le _,Nat.zero_le _,by show (0:Int)≤(pc:Int);omega,by show (pc:Int)≤_;omega,h4,by show g≤_;omega,by show st.length≤_;omega,by show mem.length≤_;omega,hm,Int.le_refl _,(by decide:(0:Int)≤4),⟨fun h=>absurd rfl h,fun h=>absurd (show (0:Int)=4 from h) oE⟩,.inl rfl⟩
theorem wordB_byN (w:Word):wordB (byN w.num)=w:=by
 unfold wordB
 have e : ∀ k<32,byG (byN w.num) k=w.num/256^k%256:=by
  intro k hk
  unfold byG
  have hb:=byN_len w.num
  rw [List.getD_eq_getElem?_getD,List.getElem?_reverse oM,byN_at _ _ oM,hb,show 32-1-k=31-k from by omega,show 31-(31-k)=k from by omega]
  show (UInt8.ofNat _).toNat=_
  rw [UInt8.toNat_ofNat',show (256:Nat)^k=2^(8*k) from by rw [Nat.pow_mul]]
  omega
 rw [sumB_congr e,sumB_self 256 w.num oE 32]
 exact (Word.nat_mod w.num).trans (Word.nat_num w)
theorem opush_at {pre post b:List UInt8} {op:UInt8} {n:Nat} (h1:1≤n) (h2:n≤32) (hb:b.length=n):opushL (pre++(op::(b++post))) (pre.length:Int) (n:Int)=wordB b:=by
 unfold opushL
 rw [if_neg (by rw [List.length_append,List.length_cons];omega)]
 have e:(pre++(op::(b++post))).drop (((pre.length:Nat):Int).toNat+1)=b++post:=by
  rw [show ((pre.length:Nat):Int).toNat+1=pre.length+1 from by omega,List.drop_append,List.drop_of_length_le oM]
  simp
 rw [e,show ((n:Nat):Int).toNat=n from by omega,← hb,List.take_left]
 simp
theorem getD_at' {pre post:List UInt8} {op:UInt8}:(pre++(op::post)).getD pre.length 0=op:=by
 rw [List.getD_eq_getElem?_getD]
 simp
end Go.Rail
namespace Go.Rail
open Go Go.Proofs Tryz
set_option maxHeartbeats 400000
set_option maxRecDepth 4000
attribute [local irreducible] OpK G W LW wpListIn Exit.then Exit.inBlock Post rounds opRun bodyPostM intOp
set_option maxHeartbeats 2000000
theorem gwithin_spec (x:Nat):FnV prog 365 [.int .i64 (x:Int),.int .i64 0,.int .i64 1048576] [] (.int .i64 ((min x 1048576:Nat):Int)):=by
 refine Fn.enter func365 rfl ntmps365 oI (fun I0 w0 => ?_)
 by_cases h:x≤1048576
 ·rw [Nat.min_eq_left h]
  repeat refine sq ?_;try intro
  refine G.retV ?_
  refine congrArg (Value.int .i64) ?_
  split<;>split<;>omega
 ·rw [Nat.min_eq_right oM]
  repeat refine sq ?_;try intro
  refine G.retV ?_
  refine congrArg (Value.int .i64) ?_
  split<;>split<;>omega
theorem gmany_spec (x:Nat):FnV prog 322 [.int .i64 (x:Int)] [] (.int .i64 ((manyF x:Nat):Int)):=by
 have h:=gwithin_spec x
 refine Fn.enter func322 rfl ntmps322 oI (fun I0 w0 => ?_)
 repeat refine sq ?_;try intro
 refine cV h ?_
 repeat refine sq ?_;try intro
 refine G.retV ?_
 rfl
theorem gwords_spec (x:Nat):FnV prog 270 [.int .i64 (x:Int)] [] (.int .i64 ((wordsF x:Nat):Int)):=by
 have h:=gmany_spec x
 have hm:manyF x≤1048576:=by unfold manyF;omega
 unfold wordsF
 generalize manyF x=m at h hm
 refine Fn.enter func270 rfl ntmps270 oI (fun I0 w0 => ?_)
 repeat refine sq ?_;try intro
 refine cV h ?_
 repeat refine sq ?_;try intro
 refine G.retV ?_
 refine congrArg (Value.int .i64) ?_
 omega
theorem gcopy_spec (x:Nat):FnV prog 185 [.int .i64 (x:Int)] [] (.int .i64 ((3*wordsF x:Nat):Int)):=by
 have h:=gwords_spec x
 have hm:wordsF x≤32768:=by unfold wordsF manyF;omega
 generalize wordsF x=m at h hm
 refine Fn.enter func185 rfl ntmps185 oI (fun I0 w0 => ?_)
 repeat refine sq ?_;try intro
 refine cV h ?_
 repeat refine sq ?_;try intro
 refine G.retV ?_
 rfl
theorem ghash_spec (x:Nat):FnV prog 179 [.int .i64 (x:Int)] [] (.int .i64 ((6*wordsF x:Nat):Int)):=by
 have h:=gwords_spec x
 have hm:wordsF x≤32768:=by unfold wordsF manyF;omega
 generalize wordsF x=m at h hm
 refine Fn.enter func179 rfl ntmps179 oI (fun I0 w0 => ?_)
 repeat refine sq ?_;try intro
 refine cV h ?_
 repeat refine sq ?_;try intro
 refine G.retV ?_
 rfl
theorem trimB_spec (l:List UInt8) (hl:l.length≤1000000):FnV prog 91 [.string (ba l),.int .u8 0] [] (.string (ba (trimF l))):=by
 refine Fn.enter func91 rfl ntmps91 oI (fun I0 w0 => ?_)
 repeat refine sq ?_;try intro
 refine W.lp (S:=List UInt8) (fun s=>([],[(0,.string (ba s)),(1,.int .u8 0)],[])) (fun s=>trimF s=trimF l∧s.length≤l.length) (fun s=>s.length) l ?_ (h0:=⟨rfl,Nat.le_refl _⟩)
 rintro s ⟨hs,hsl⟩
 dsimp only
 cases s with
 | nil =>
  rw [← hs]
  repeat refine sq ?_;try intro
  refine G.retV ?_
  rfl
 | cons a s =>
  rw [List.length_cons] at hsl
  by_cases ha:a.toNat=0
  ·have ha0:a=0:=UInt8.toNat_inj.1 ha
   subst ha0
   have hs2:trimF s=trimF l:=by rw [← hs];rfl
   have hpos:0<((0:UInt8)::s).length:=Nat.succ_pos _
   repeat refine sq ?_;try intro
   have e:(((0:UInt8)::s).take ((0:UInt8)::s).length).drop 1=s:=by rw [List.take_length];rfl
   rw [e]
   exact G.ag (S:=List UInt8) s (hμ:=Nat.lt_succ_self _) (hpre:=⟨hs2,by omega⟩)
  ·have hs2:trimF l=a::s:=by
    rw [← hs]
    unfold trimF
    rw [List.dropWhile_cons_of_neg]
    intro h
    exact ha (by rw [eq_of_beq h];rfl)
   rw [hs2]
   have hpos:0<(a::s).length:=Nat.succ_pos _
   repeat refine sq ?_;try intro
   refine G.retV ?_
   rfl
theorem mwithin_spec (x:Int) (m:Int) (hm:0≤m):FnV prog 281 [.int .i64 x,.int .i64 0,.int .i64 m] [] (.int .i64 (max 0 (min x m))):=by
 refine Fn.enter func281 rfl ntmps281 oI (fun I0 w0 => ?_)
 repeat refine sq ?_;try intro
 refine G.retV ?_
 refine congrArg (Value.int .i64) ?_
 split<;>split<;>omega
theorem mcost_spec (n:Nat):FnV prog 279 [.int .i64 (n:Int)] [] (.int .i64 ((costF n:Nat):Int)):=by
 have h:=mwithin_spec (n:Int) 32768 oE
 rw [show max 0 (min (n:Int) 32768)=((min n 32768:Nat):Int) from by omega] at h
 unfold costF
 have hm:min n 32768≤32768:=by omega
 generalize min n 32768=m at h hm
 have h2:m*m≤32768*32768:=Nat.mul_le_mul hm hm
 refine Fn.enter func279 rfl ntmps279 oI (fun I0 w0 => ?_)
 repeat refine sq ?_;try intro
 refine cV h ?_
 repeat refine sq ?_;try intro
 refine G.retV ?_
 rfl
theorem mmay_spec (l:List UInt8) (hl:l.length≤1000000000):FnV prog 280 [.string (ba l)] [] (.bool (decide (l.length≤1048576∧l.length%32=0))):=by
 refine Fn.enter func280 rfl ntmps280 oI (fun I0 w0 => ?_)
 by_cases h1:l.length≤1048576
 ·by_cases h2:l.length%32=0
  ·rw [decide_eq_true ⟨h1,h2⟩]
   repeat refine sq ?_;try intro
   refine G.retV ?_
   rfl
  ·rw [decide_eq_false (fun h=>h2 h.2)]
   repeat refine sq ?_;try intro
   refine G.retV ?_
   rfl
 ·rw [decide_eq_false (fun h=>h1 h.1)]
  repeat refine sq ?_;try intro
  refine G.retV ?_
  rfl
end Go.Rail
namespace Go.Rail
open Go Go.Proofs Tryz
set_option maxHeartbeats 400000
set_option maxRecDepth 4000
attribute [local irreducible] OpK G W LW wpListIn Exit.then Exit.inBlock Post rounds opRun bodyPostM intOp
set_option maxHeartbeats 2000000
attribute [local irreducible] addW cmpW Word.nat
theorem number_spec (w:Word):FnV prog 268 [w.v] [] (.int .i64 ((numF w:Nat):Int)):=by
 have h:=wint_spec w
 unfold numF
 by_cases h1:w.num≤4611686018427387903
 ·rw [if_pos h1,decide_eq_true h1] at h
  generalize w.num=n at h h1 ⊢
  refine Fn.enter func268 rfl ntmps268 oI (fun I0 w0 => ?_)
  repeat refine sq ?_;try intro
  refine cV h ?_
  repeat refine sq ?_;try intro
  refine G.retV ?_
  refine congrArg (Value.int .i64) ?_
  split<;>omega
 ·rw [if_neg h1,decide_eq_false h1] at h
  rw [Nat.min_eq_right oM]
  refine Fn.enter func268 rfl ntmps268 oI (fun I0 w0 => ?_)
  repeat refine sq ?_;try intro
  refine cV h ?_
  repeat refine sq ?_;try intro
  refine G.retV ?_
  rfl
theorem need_spec (a n:Word):FnV prog 327 [a.v,n.v] [] (.tuple #[.int .i64 (((needF a n).getD 0:Nat):Int),.bool (needF a n).isSome]):=by
 have h1:=wadd_spec a n
 have h2:=wint_spec (addW a n)
 unfold needF
 generalize addW a n=e at h1 h2 ⊢
 have h3:=cmpW_num e a
 by_cases hn:n = .zero
 ·rw [if_pos hn]
  subst hn
  refine Fn.enter func327 rfl ntmps327 oI (fun I0 w0 => ?_)
  repeat refine sq ?_;try intro
  refine cV h1 ?_
  repeat refine sq ?_;try intro
  refine cV h2 ?_
  repeat refine sq ?_;try intro
  refine G.retV ?_
  rfl
 rw [if_neg hn]
 by_cases hi:e.num≤4611686018427387903
 ·rw [if_pos hi,decide_eq_true hi] at h2
  by_cases hm:e.num≤1048576
  ·by_cases hc:e.num<a.num
   ·rw [if_pos hc] at h3
    rw [if_neg oM]
    refine Fn.enter func327 rfl ntmps327 oI (fun I0 w0 => ?_)
    repeat refine sq ?_;try intro
    refine cV h1 ?_
    repeat refine sq ?_;try intro
    refine cV h2 ?_
    repeat refine sq ?_;try intro
    refine G.retV ?_
    rfl
   ·rw [if_neg hc] at h3
    rw [if_pos ⟨hm,by omega⟩]
    have h3' : ∃ q:Int,0≤q∧(if a.num<e.num then (1:Int) else 0)=q:=⟨_,by split<;>decide,rfl⟩
    obtain ⟨q,hq,hq2⟩:=h3'
    rw [hq2] at h3
    refine Fn.enter func327 rfl ntmps327 oI (fun I0 w0 => ?_)
    repeat refine sq ?_;try intro
    refine cV h1 ?_
    repeat refine sq ?_;try intro
    refine cV h2 ?_
    repeat refine sq ?_;try intro
    refine G.retV ?_
    rfl
  ·rw [if_neg oM]
   refine Fn.enter func327 rfl ntmps327 oI (fun I0 w0 => ?_)
   repeat refine sq ?_;try intro
   refine cV h1 ?_
   repeat refine sq ?_;try intro
   refine cV h2 ?_
   repeat refine sq ?_;try intro
   refine G.retV ?_
   rfl
 ·rw [if_neg hi,decide_eq_false hi] at h2
  rw [if_neg oM]
  refine Fn.enter func327 rfl ntmps327 oI (fun I0 w0 => ?_)
  repeat refine sq ?_;try intro
  refine cV h1 ?_
  repeat refine sq ?_;try intro
  refine cV h2 ?_
  repeat refine sq ?_;try intro
  refine G.retV ?_
  rfl
theorem there_spec (m:List UInt8) (at_ n:Int) (hm:m.length≤1000000000):FnV prog 323 [.string (ba m),.int .i64 at_,.int .i64 n] [] (.bool (decide ((m.length≤1048576∧m.length%32=0)∧0≤n∧0≤at_∧at_≤m.length∧n≤m.length-at_))):=by
 have h:=mmay_spec m hm
 by_cases h0:m.length≤1048576∧m.length%32=0
 ·rw [decide_eq_true h0] at h
  by_cases h1:0≤n
  ·by_cases h2:0≤at_
   ·by_cases h3:at_≤m.length
    ·by_cases h4:n≤m.length-at_
     ·rw [decide_eq_true ⟨h0,h1,h2,h3,h4⟩]
      refine Fn.enter func323 rfl ntmps323 oI (fun I0 w0 => ?_)
      repeat refine sq ?_;try intro
      refine cV h ?_
      repeat refine sq ?_;try intro
      refine G.retV ?_
      rfl
     ·rw [decide_eq_false (fun q=>h4 q.2.2.2.2)]
      refine Fn.enter func323 rfl ntmps323 oI (fun I0 w0 => ?_)
      repeat refine sq ?_;try intro
      refine cV h ?_
      repeat refine sq ?_;try intro
      refine G.retV ?_
      rfl
    ·rw [decide_eq_false (fun q=>h3 q.2.2.2.1)]
     refine Fn.enter func323 rfl ntmps323 oI (fun I0 w0 => ?_)
     repeat refine sq ?_;try intro
     refine cV h ?_
     repeat refine sq ?_;try intro
     refine G.retV ?_
     rfl
   ·rw [decide_eq_false (fun q=>h2 q.2.2.1)]
    refine Fn.enter func323 rfl ntmps323 oI (fun I0 w0 => ?_)
    repeat refine sq ?_;try intro
    refine cV h ?_
    repeat refine sq ?_;try intro
    refine G.retV ?_
    rfl
  ·rw [decide_eq_false (fun q=>h1 q.2.1)]
   refine Fn.enter func323 rfl ntmps323 oI (fun I0 w0 => ?_)
   repeat refine sq ?_;try intro
   refine cV h ?_
   repeat refine sq ?_;try intro
   refine G.retV ?_
   rfl
 ·rw [decide_eq_false h0] at h
  rw [decide_eq_false (fun q=>h0 q.1)]
  refine Fn.enter func323 rfl ntmps323 oI (fun I0 w0 => ?_)
  repeat refine sq ?_;try intro
  refine cV h ?_
  repeat refine sq ?_;try intro
  refine G.retV ?_
  rfl
theorem noughts_spec (n:Int) (hn:n≤100000000):FnV prog 284 [.int .i64 n] [] (.string (ba (List.replicate n.toNat 0))):=by
 have h:=repeat_spec n.toNat oM
 rw [show ((n.toNat:Nat):Int)=(if n<0 then 0 else n) from by split<;>omega] at h
 refine Fn.enter func284 rfl ntmps284 oI (fun I0 w0 => ?_)
 repeat refine sq ?_;try intro
 refine cV h ?_
 repeat refine sq ?_;try intro
 refine G.retV ?_
 rfl
def txE1 (ts:List (List UInt8)):List (List Value):=ts.map fun t=>[.string (ba t)]
theorem txE1_len (ts:List (List UInt8)):(txE1 ts).length=ts.length:=by simp [txE1]
theorem txE1_one (ts:List (List UInt8)) : ∀ vs∈txE1 ts,vs.length=1:=by
 intro vs h
 obtain ⟨p,_,rfl⟩:=List.mem_map.1 h
 rfl
theorem txE1_at (ts:List (List UInt8)) (k:Nat) (h:k<(txE1 ts).length) (h2:k<ts.length):(txE1 ts)[k]=[.string (ba (ts[k]'h2))]:=by simp [txE1]
theorem flat_step (ts:List (List UInt8)) (k:Nat) (h:k<ts.length):(ts.take (k+1)).flatten=(ts.take k).flatten++ts[k]:=by
 rw [List.take_succ_eq_append_getElem h,List.flatten_append];simp
theorem flat_le (ts:List (List UInt8)) (k:Nat):(ts.take k).flatten.length≤ts.flatten.length:=by
 conv=>rhs;rw [← List.take_append_drop k ts,List.flatten_append,List.length_append]
 omega
theorem joined_spec (gf:FuncId) [HasFn prog gf] (lb:List Value) (ts:List (List UInt8)) (Φi:List Fa) (hit:IterR prog gf lb (txE1 ts) Φi) (hx:ts.flatten.length≤100000000) :
  FnV prog 282 [.func (.func gf) #[] lb.toArray] Φi (.string (ba ts.flatten)):=by
 refine Fn.enter func282 rfl ntmps282 oI (fun I0 w0 => ?_)
 repeat refine sq ?_;try intro
 rename_i B
 refine W.rangeFuncR (enc:=txE1 ts) (ps:=[6]) (Φi:=Φi) (Mr:=[]) (fun k s => ∃ a v o,(a=none∨a=some ⟨B,0,none⟩)∧IsBuf v (ts.take k).flatten o∧s=([],bldM B a v (ts.take k).flatten o)) (fun _ _=>False) rfl hit oE (txE1_one ts) ⟨fun I hp φ hφ=>hp φ hφ⟩ ([],bldM B none (.slice none 0 0) [] none) ⟨_,_,none,.inl rfl,⟨rfl,rfl⟩,rfl⟩ oY oP ?_ ?_ ?_
 ·rintro y rec I0' w0' k hk _ ⟨a,v,o,ha,hb,rfl⟩
  rw [txE1_len] at hk
  have hst:=flat_step ts k hk
  have hle:=flat_le ts (k+1)
  dsimp only
  rw [txE1_at ts k (by rw [txE1_len];exact hk) hk]
  generalize ts[k]'hk=t at hst ⊢
  rw [hst] at hle
  have hw:=writeString_spec B a ha v (ts.take k).flatten t o hb (by rw [List.length_append] at hle;omega)
  show W _ _ _ _ ((6,.string (ba t))::_) _
  repeat refine sq ?_;try intro
  refine G.begin (by rfl) ?_
  repeat refine sq ?_;try intro
  refine OpK.call rfl rfl rfl rfl hw oY (Mr:=[_]) (oH (l₁:=[_])) ?_
  rintro u Φ' Mc' ⟨v3,o3,hb3,rfl,rfl,rfl⟩
  refine G.perm ?_ oH
  rw [← hst] at hb3 ⊢
  refine nA ?_
  repeat refine sq ?_;try intro
  refine G.roundEnd oY (Φ':=[]) (M'':=bldM B (some ⟨B,0,none⟩) v3 (ts.take (k+1)).flatten o3) ?_ oY (by first|exact List.Sublist.refl _|exact .cons _ oZ)
  exact Or.inl ⟨rfl,([],bldM B (some ⟨B,0,none⟩) v3 (ts.take (k+1)).flatten o3),⟨_,v3,o3,.inr rfl,hb3,rfl⟩,rfl⟩
 ·rintro D _ ⟨a,v,o,ha,hb,rfl⟩
  rw [txE1_len,List.take_length] at hb ⊢
  have hs:=bString_spec B a v ts.flatten o hb oM
  refine G.perm ?_ oH
  refine nA ?_
  repeat refine sq ?_;try intro
  refine OpK.call rfl rfl rfl rfl hs oY (Mr:=[_]) (oH (l₁:=[_])) ?_
  rintro u Φ' Mc' ⟨o',hb',rfl,rfl,rfl⟩
  refine G.perm ?_ oH
  refine nA ?_
  repeat refine sq ?_;try intro
  refine G.unmark oY ?_
  refine G.retV ?_
  rfl
 ·intro D c s h
  exact h.elim
end Go.Rail
