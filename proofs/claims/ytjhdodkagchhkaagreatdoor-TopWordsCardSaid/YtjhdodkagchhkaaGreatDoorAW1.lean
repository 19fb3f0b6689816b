/- A program that pushes three words, does an opcode that works on the stack alone, and tells the top: what it comes to. -/
import Derived.Test.YtjhdodkagchhkaaGreatDoorRailA
import Derived.Test.YtjhdodkagchhkaaGreatDoorAP2F4
import Derived.Test.YtjhdodkagchhkaaGreatDoorAF5F6
set_option linter.unusedSimpArgs false
set_option linter.unusedVariables false
namespace Go.Rail
open Go Go.Proofs
set_option maxHeartbeats 1000000
def opsT:List UInt8:=[0x01,0x02,0x03,0x04,0x05,0x06,0x07,0x08,0x09,0x0a,0x0b,0x10,0x11,0x12,0x13,0x14,0x15,0x16,0x17,0x18,0x19,0x1a,0x1b,0x1c,0x1d,0x50,0x80,0x81,0x90,0x91]
def endT:List UInt8:=[0x5f,0x52,0x60,0x20,0x5f,0xf3]
def preT (a b c:Word):List UInt8:=0x7f::(byN c.num++(0x7f::(byN b.num++(0x7f::byN a.num))))
def codeT (o:UInt8) (a b c:Word):List UInt8:=preT a b c++(o::endT)
theorem preT_len (a b c:Word):(preT a b c).length=99:=by simp [preT,byN_len]
theorem codeT_len (o:UInt8) (a b c:Word):(codeT o a b c).length=106:=by rw [codeT,List.length_append,preT_len];rfl
def chkT (n:Nat):Bool:=(infoN n).isSome&&decide (n≠254)&&decide (popsN n≤3)&&decide (pushN' n≤3)&&isC n&&localF n&&decide (gasN n≤10) && !(([32,55,57,62,81,82,83,243,253]:List Nat).contains n)
theorem chkT_all:(opsT.all fun o=>chkT o.toNat)=true:=by kernel_rfl
theorem doT_all (a b c:Word):(opsT.all fun o=>decide ((doC o.toNat [c,b,a]).2=0)&&(Nat.ble 1 (doC o.toNat [c,b,a]).1.length&&Nat.ble (doC o.toNat [c,b,a]).1.length 4))=true:=by kernel_rfl
theorem doT {o:UInt8} (ho:o∈opsT) (a b c:Word):(doC o.toNat [c,b,a]).2=0 ∧ ∃ D x,(doC o.toNat [c,b,a]).1=D++[x]∧D.length≤3:=by
 have h:=List.all_eq_true.1 (doT_all a b c) o ho
 simp only [Bool.and_eq_true,decide_eq_true_eq,Nat.ble_eq] at h
 obtain ⟨h1,h2,h3⟩:=h
 refine ⟨h1,(doC o.toNat [c,b,a]).1.dropLast,(doC o.toNat [c,b,a]).1.getLast (fun e=>by rw [e] at h2;exact absurd h2 oE),(List.dropLast_concat_getLast _).symm,?_⟩
 rw [List.length_dropLast];omega
theorem getD_add (pre t:List UInt8) (k:Nat):(pre++t).getD (pre.length+k) 0=t.getD k 0:=by
 rw [List.getD_eq_getElem?_getD,List.getElem?_append_right oM,Nat.add_sub_cancel_left,List.getD_eq_getElem?_getD]
theorem trimF_le (l:List UInt8):(trimF l).length≤l.length:=by
 unfold trimF
 exact (List.dropWhile_sublist _).length_le
theorem moreT {n:Nat} (h:(([32,55,57,62,81,82,83,243,253]:List Nat).contains n)=false) (l:List Word):spanF n l=[]∧moreF n l≤1600:=by
 have h' : ∀ m∈([32,55,57,62,81,82,83,243,253]:List Nat),n≠m:=by
  intro m hm e
  subst e
  have:=List.contains_iff_mem.2 hm
  rw [h] at this;cases this
 have a1:=h' 32 oE
 have a2:=h' 55 oE
 have a3:=h' 57 oE
 have a4:=h' 62 oE
 have a5:=h' 81 oE
 have a6:=h' 82 oE
 have a7:=h' 83 oE
 have a8:=h' 243 oE
 have a9:=h' 253 oE
 constructor
 ·unfold spanF
  rw [if_neg oM,if_neg oM,if_neg oM,if_neg oM]
 ·unfold moreF
  by_cases h10:n=10
  ·rw [if_pos h10]
   have:=trimF_le (byN (l.getD 1 .zero).num)
   rw [byN_len] at this
   omega
  ·rw [if_neg h10,if_neg oM,if_neg oM]
   omega
theorem opush_0 (s:List UInt8) (k:Nat):opushL s (k:Int) ((0:Nat):Int) = .nat 0:=by
 unfold opushL
 rw [if_pos (.inl oE)]
 kernel_rfl
abbrev tF (o:UInt8) (a b c:Word) (pc:Nat) (st:List Word) (mem:List UInt8) (g:Int):Frm:=mF (codeT o a b c) pc st mem g
theorem pushT (hash:List UInt8→List UInt8) {o:UInt8} {a b c:Word} {pc n:Nat} {st:List Word} {mem:List UInt8} {g:Int} {w:Word} {k:Nat} (hn:95+n≤127) (hop:(codeT o a b c).getD pc 0=UInt8.ofNat (95+n)) (hp:pc<106) (hs:st.length≤10) (hm:mem.length=0∨mem.length=32) (hu:opushL (codeT o a b c) (pc:Int) (n:Int)=w) (h0:3≤g) (h5:g≤5000) (hk:k=pc+1+n) (hgn:gasN (95+n)≤3) :
  stepL hash (tF o a b c pc st mem g)=(tF o a b c k (st++[w]) mem (g-gasN (95+n)),0):=by
 have hl:=codeT_len o a b c
 have hopn:(UInt8.ofNat (95+n)).toNat=95+n:=by rw [UInt8.toNat_ofNat'];omega
 have:=step_push hash (tF o a b c pc st mem g) (m_Rt oM oM oM oM oM oM h5) rfl (UInt8.ofNat (95+n)) (by show (pc:Int)<((codeT o a b c).length:Int);omega) (by show (codeT o a b c).getD ((pc:Nat):Int).toNat 0=_;rw [show ((pc:Nat):Int).toNat=pc from by omega,hop]) oM oM (by show st.length<1024;omega)
 rw [hopn,if_neg (by show ¬ g<((gasN (95+n):Nat):Int);omega)] at this
 rw [this,show 95+n-95=n from by omega]
 show ((⟨codeT o a b c,[],(pc:Int)+1+(n:Int),st++[opushL (codeT o a b c) (pc:Int) (n:Int)],mem,g-gasN (95+n),[],0,0,[]⟩:Frm),(0:Int))=_
 rw [hu,hk,show (pc:Int)+1+(n:Int)=((pc+1+n:Nat):Int) from by omega]
theorem n32:([]:List UInt8).length/32=0:=by kernel_rfl
theorem g5f:gasN 95=2:=by kernel_rfl
theorem g60:gasN 96=3:=by kernel_rfl
theorem g7f':gasN 127=3:=by kernel_rfl
theorem take_app2 {α:Type} (D:List α) (x y:α):(D++[x,y]).take ((D++[x,y]).length-2)=D∧((D++[x,y]).drop ((D++[x,y]).length-2)).reverse=[y,x]:=by
 have:(D++[x,y]).length-2=D.length:=by simp
 rw [this,List.take_left,List.drop_left]
 exact ⟨rfl,rfl⟩
theorem top_run (hash:List UInt8→List UInt8) {o:UInt8} (ho:o∈opsT) (a b c:Word) : ∃ D x,doC o.toNat [c,b,a]=(D++[x],0)∧D.length≤3∧(runL hash 100 (bgF (codeT o a b c) [] 5000)).1.status=2∧(runL hash 100 (bgF (codeT o a b c) [] 5000)).1.out=byN x.num:=by
 obtain ⟨h1,D,x,h2,h3⟩:=doT ho a b c
 refine ⟨D,x,Prod.ext h2 h1,h3,?_⟩
 have hl:=codeT_len o a b c
 have hpl:=preT_len a b c
 have hc:=List.all_eq_true.1 chkT_all o ho
 unfold chkT at hc
 simp only [Bool.and_eq_true,decide_eq_true_eq,Bool.not_eq_true'] at hc
 obtain ⟨⟨⟨⟨⟨⟨⟨k1,k2⟩,k3⟩,k4⟩,k5⟩,k6⟩,k7⟩,k8⟩:=hc
 have q1:preT a b c=[]++(0x7f::(byN c.num++(0x7f::(byN b.num++(0x7f::byN a.num))))):=rfl
 have q2:preT a b c=(0x7f::byN c.num)++(0x7f::(byN b.num++(0x7f::byN a.num))):=by simp [preT]
 have q3:preT a b c=(0x7f::(byN c.num++(0x7f::byN b.num)))++(0x7f::byN a.num):=by simp [preT]
 have e1:codeT o a b c=[]++(0x7f::(byN c.num++((0x7f::(byN b.num++(0x7f::byN a.num)))++(o::endT)))):=by rw [codeT,q1];simp
 have e2:codeT o a b c=(0x7f::byN c.num)++(0x7f::(byN b.num++((0x7f::byN a.num)++(o::endT)))):=by rw [codeT,q2];simp
 have e3:codeT o a b c=(0x7f::(byN c.num++(0x7f::byN b.num)))++(0x7f::(byN a.num++(o::endT))):=by rw [codeT,q3];simp
 have e4:codeT o a b c=(preT a b c++[o,0x5f,0x52])++(0x60::([0x20]++[0x5f,0xf3])):=by simp [codeT,endT]
 have l2:((0x7f:UInt8)::byN c.num).length=33:=by rw [List.length_cons,byN_len]
 have l3:((0x7f:UInt8)::(byN c.num++(0x7f::byN b.num))).length=66:=by rw [List.length_cons,List.length_append,List.length_cons,byN_len,byN_len]
 have l4:(preT a b c++[o,0x5f,0x52]).length=102:=by rw [List.length_append,hpl];rfl
 have d1:(codeT o a b c).getD 0 0=0x7f:=by rw [e1];rfl
 have d2:(codeT o a b c).getD 33 0=0x7f:=by rw [e2,← l2];exact getD_at'
 have d3:(codeT o a b c).getD 66 0=0x7f:=by rw [e3,← l3];exact getD_at'
 have dk : ∀ k,(codeT o a b c).getD (99+k) 0=(o::endT).getD k 0:=fun k=>by
  have:=getD_add (preT a b c) (o::endT) k
  rw [hpl] at this
  exact this
 have u1:opushL (codeT o a b c) ((0:Nat):Int) ((32:Nat):Int)=c:=by
  have:=opush_at (pre:=[]) (op:=0x7f) (b:=byN c.num) (post:=(0x7f::(byN b.num++(0x7f::byN a.num)))++(o::endT)) (n:=32) oE oE (byN_len _)
  rw [← e1,wordB_byN] at this
  exact this
 have u2:opushL (codeT o a b c) ((33:Nat):Int) ((32:Nat):Int)=b:=by
  have:=opush_at (pre:=0x7f::byN c.num) (op:=0x7f) (b:=byN b.num) (post:=(0x7f::byN a.num)++(o::endT)) (n:=32) oE oE (byN_len _)
  rw [← e2,wordB_byN,l2] at this
  exact this
 have u3:opushL (codeT o a b c) ((66:Nat):Int) ((32:Nat):Int)=a:=by
  have:=opush_at (pre:=0x7f::(byN c.num++(0x7f::byN b.num))) (op:=0x7f) (b:=byN a.num) (post:=o::endT) (n:=32) oE oE (byN_len _)
  rw [← e3,wordB_byN,l3] at this
  exact this
 have u4:opushL (codeT o a b c) ((102:Nat):Int) ((1:Nat):Int) = .nat 32:=by
  have:=opush_at (pre:=preT a b c++[o,0x5f,0x52]) (op:=0x60) (b:=[0x20]) (post:=[0x5f,0xf3]) (n:=1) oE oE rfl
  rw [← e4,l4] at this
  exact this.trans kR
 have w1:=pushT hash (o:=o) (a:=a) (b:=b) (c:=c) (pc:=0) (n:=32) (st:=[]) (mem:=[]) (g:=5000) (k:=33) oE d1 oE oE (.inl rfl) u1 oE oE rfl (by decide +kernel)
 have w2:=pushT hash (o:=o) (a:=a) (b:=b) (c:=c) (pc:=33) (n:=32) (st:=[c]) (mem:=[]) (g:=5000-gasN 127) (k:=66) oE d2 oE (show (1:Nat)≤10 by decide) (.inl rfl) u2 (by rw [g7f'];decide) (by rw [g7f'];decide) rfl (by decide +kernel)
 have w3:=pushT hash (o:=o) (a:=a) (b:=b) (c:=c) (pc:=66) (n:=32) (st:=[c,b]) (mem:=[]) (g:=5000-gasN 127-gasN 127) (k:=99) oE d3 oE (show (2:Nat)≤10 by decide) (.inl rfl) u3 (by rw [g7f'];decide) (by rw [g7f'];decide) rfl (by decide +kernel)
 have w4 : ∃ g4:Int,3000≤g4∧g4≤5000∧stepL hash (tF o a b c 99 [c,b,a] [] (5000-gasN 127-gasN 127-gasN 127))=(tF o a b c 100 (D++[x]) [] g4,0):=by
  have ht:=takeF_eq (s:=[c,b,a]) (op:=o.toNat) (fun e=>by rw [e] at k1;cases k1) k2 rfl rfl (show (3:Nat)≤1024 by decide) k3 (show 3+pushN' o.toNat≤1024+popsN o.toNat by omega)
  generalize (List.drop ([c,b,a].length-popsN o.toNat) [c,b,a]).reverse=l at ht
  obtain ⟨s1,s2⟩:=moreT k8 l
  obtain ⟨_,h⟩:=step_gen hash (f:=tF o a b c 99 [c,b,a] [] (5000-gasN 127-gasN 127-gasN 127)) (op:=o.toNat) (words:=0) (l:=l) (m_Rt oM oE (show (3:Nat)≤100 by decide) rfl oE (by rw [g7f'];decide) (by rw [g7f'];decide)) rfl (by show ((99:Nat):Int)<((codeT o a b c).length:Int);omega) (by show ((codeT o a b c).getD 99 0).toNat=_;rw [dk 0];rfl) k6 ht (by rw [s1];kernel_rfl)
  have e:needG (tF o a b c 99 [c,b,a] [] (5000-gasN 127-gasN 127-gasN 127)) o.toNat 0 (moreF o.toNat l)=(gasN o.toNat:Int)+((moreF o.toNat l:Nat):Int):=by
   show (costF 0:Int)-(costF (([]:List UInt8).length/32):Int)+(gasN o.toNat:Int)+((moreF o.toNat l:Nat):Int)=_
   rw [n32]
   omega
  rw [e] at h
  have hg7:(5000:Int)-gasN 127-gasN 127-gasN 127=4991:=by rw [g7f'];decide
  refine ⟨4991-((gasN o.toNat:Int)+((moreF o.toNat l:Nat):Int)),by omega,by omega,?_⟩
  rw [hg7] at h ⊢
  rw [hg7] at e
  refine h (by show _≤(4991:Int);omega) _ ?_
  rw [doF_C hash k5 (s:=D++[x])]
  ·unfold pdF
   rw [e]
   rfl
  ·unfold pdF
   dsimp only
   rw [if_pos k5]
   exact h2
 obtain ⟨g4,hg4,hg4',w4⟩:=w4
 have dl:(D++[x]).length≤4:=by rw [List.length_append];simp;omega
 have w5:=pushT hash (o:=o) (a:=a) (b:=b) (c:=c) (pc:=100) (n:=0) (st:=D++[x]) (mem:=[]) (g:=g4) (k:=101) oE (dk 1) oE oM (.inl rfl) (opush_0 _ 100) oM hg4' rfl (by decide +kernel)
 rw [List.append_assoc] at w5
 have w6:stepL hash (tF o a b c 101 (D++[x,.nat 0]) [] (g4-gasN 95))=(tF o a b c 102 D (byN x.num) (g4-gasN 95-6),0):=by
  obtain ⟨a1,a2,a3,a4,a5,a6,a7⟩:=opB_at o52
  obtain ⟨t1,t2⟩:=take_app2 D x (.nat 0)
  have hsl:(D++[x,Word.nat 0]).length≤10:=by rw [List.length_append];simp;omega
  have hsl2:2≤(D++[x,Word.nat 0]).length:=by rw [List.length_append];simp
  have ht:=takeF_eq a1 a2 a3 a4 (s:=D++[x,Word.nat 0]) oM hsl2 oM
  rw [t2] at ht
  have hr:reachF (([]:List UInt8).length/32) (spanF 0x52 [.nat 0,x])=some 1:=by kernel_rfl
  obtain ⟨_,h⟩:=step_gen hash (f:=tF o a b c 101 (D++[x,.nat 0]) [] (g4-gasN 95)) (op:=0x52) (words:=1) (l:=[.nat 0,x]) (m_Rt oM oE oM rfl oE (by rw [g5f];omega) (by rw [g5f];omega)) rfl (by show ((101:Nat):Int)<((codeT o a b c).length:Int);omega) (by show ((codeT o a b c).getD 101 0).toNat=_;rw [dk 2];rfl) a7 ht hr
  have e:needG (tF o a b c 101 (D++[x,.nat 0]) [] (g4-gasN 95)) 0x52 1 (moreF 0x52 [.nat 0,x])=6:=by
   show (costF 1:Int)-(costF (([]:List UInt8).length/32):Int)+(gasN 0x52:Int)+((0:Nat):Int)=_
   rw [n32,a5,show costF 1=3 from by kernel_rfl,show costF 0=0 from by kernel_rfl];rfl
  rw [e] at h
  refine h (by show (6:Int)≤g4-gasN 95;rw [g5f];omega) _ ?_
  have e' : ∀ f l,doF hash 0x52 f l=({f with mem:=putF f.mem (numF (l.getD 0 .zero)) (byN (l.getD 1 .zero).num)},0):=fun f l=>by kernel_rfl
  rw [e']
  unfold pdF
  rw [a6,if_neg oE,a3,t1,e]
  have hb:=byN_len x.num
  have hput:putF (growF [] 1) (numF (.nat 0)) (byN x.num)=byN x.num:=by
   have hn:numF (.nat 0)=0:=by kernel_rfl
   have hgl:(growF [] 1).length=32:=by kernel_rfl
   unfold putF
   rw [if_neg (fun e=>by rw [e] at hb;cases hb),hn,hb,hgl,if_pos oE,List.drop_of_length_le oM]
   simp
  show ((⟨codeT o a b c,[],((101:Nat):Int)+1,D,putF (growF [] 1) (numF (Word.nat 0)) (byN x.num),g4-gasN 95-6,[],0,0,[]⟩:Frm),(0:Int))=_
  rw [hput]
  rfl
 have hb:=byN_len x.num
 have w7:=pushT hash (o:=o) (a:=a) (b:=b) (c:=c) (pc:=102) (n:=1) (st:=D) (mem:=byN x.num) (g:=g4-gasN 95-6) (k:=104) oE (dk 3) oE oM (.inr hb) u4 (by rw [g5f];omega) (by rw [g5f];omega) rfl (by decide +kernel)
 have w8:=pushT hash (o:=o) (a:=a) (b:=b) (c:=c) (pc:=104) (n:=0) (st:=D++[.nat 32]) (mem:=byN x.num) (g:=g4-gasN 95-6-gasN 96) (k:=105) oE (dk 5) oE (by rw [List.length_append];simp;omega) (.inr hb) (opush_0 _ 104) (by rw [g5f,g60];omega) (by rw [g5f,g60];omega) rfl (by decide +kernel)
 rw [List.append_assoc] at w8
 have w9 : ∃ z:Frm,stepL hash (tF o a b c 105 (D++[.nat 32,.nat 0]) (byN x.num) (g4-gasN 95-6-gasN 96-gasN 95))=(z,0)∧z.status=2∧z.out=byN x.num:=by
  obtain ⟨a1,a2,a3,a4,a5,a6,a7⟩:=opB_at of3
  obtain ⟨t1,t2⟩:=take_app2 D (Word.nat 32) (.nat 0)
  have hsl:(D++[Word.nat 32,Word.nat 0]).length≤10:=by rw [List.length_append];simp;omega
  have hsl2:2≤(D++[Word.nat 32,Word.nat 0]).length:=by rw [List.length_append];simp
  have ht:=takeF_eq a1 a2 a3 a4 (s:=D++[Word.nat 32,Word.nat 0]) oM hsl2 oM
  rw [t2] at ht
  have hm1:(byN x.num).length/32=1:=by rw [hb]
  have hr:reachF ((byN x.num).length/32) (spanF 0xf3 [.nat 0,.nat 32])=some 1:=by rw [hm1];kernel_rfl
  obtain ⟨_,h⟩:=step_gen hash (f:=tF o a b c 105 (D++[.nat 32,.nat 0]) (byN x.num) (g4-gasN 95-6-gasN 96-gasN 95)) (op:=0xf3) (words:=1) (l:=[.nat 0,.nat 32]) (m_Rt oM oE oM oM oM (by rw [g5f,g60];omega) (by rw [g5f,g60];omega)) rfl (by show ((105:Nat):Int)<((codeT o a b c).length:Int);omega) (by show ((codeT o a b c).getD 105 0).toNat=_;rw [dk 6];rfl) a7 ht hr
  have e:needG (tF o a b c 105 (D++[.nat 32,.nat 0]) (byN x.num) (g4-gasN 95-6-gasN 96-gasN 95)) 0xf3 1 (moreF 0xf3 [.nat 0,.nat 32])=0:=by
   show (costF 1:Int)-(costF ((byN x.num).length/32):Int)+(gasN 0xf3:Int)+((0:Nat):Int)=_
   rw [a5,hm1]
   omega
  rw [e] at h
  have e' : ∀ f l,doF hash 0xf3 f l=({f with status:=2,out:=pieceF f.mem (l.getD 0 .zero) (numF (l.getD 1 .zero)),pc:=f.pc-1},0):=fun f l=>by kernel_rfl
  refine ⟨_,h (by show (0:Int)≤g4-gasN 95-6-gasN 96-gasN 95;rw [g5f,g60];omega) _ (e' _ _),rfl,?_⟩
  show pieceF (growF (byN x.num) 1) (.nat 0) (numF (.nat 32))=_
  have hgr:growF (byN x.num) 1=byN x.num:=by unfold growF;rw [hb];simp
  have hn:numF (.nat 0)=0:=by kernel_rfl
  have hn2:numF (.nat 32)=32:=by kernel_rfl
  rw [hgr,hn2]
  unfold pieceF
  rw [if_neg oE,hn,hb,if_pos oE,List.drop_zero,List.take_of_length_le oM]
 obtain ⟨z,w9,z1,z2⟩:=w9
 have goes:=(((((((((Goes.step w1).trans (Goes.step w2)).trans (Goes.step w3)).trans (Goes.step w4)).trans (Goes.step w5)).trans (Goes.step w6)).trans (Goes.step w7)).trans (Goes.step w8)).trans (Goes.step w9))
 have hr:=goes 91
 rw [runL_done hash z (by rw [z1];decide)] at hr
 have hb0:bgF (codeT o a b c) [] 5000=tF o a b c 0 [] [] 5000:=rfl
 rw [hb0]
 have hr':runL hash 100 (tF o a b c 0 [] [] 5000)=(z,0+(1+1+1+1+1+1+1+1+1)):=hr
 rw [hr']
 exact ⟨z1,z2⟩
end Go.Rail
