/- The document's frames: does. -/
import Derived.Test.YtpbbjkbackiljaaGreatDoorRailA
import Derived.Test.YtpbbjkbackiljaaGreatDoorRailI
import Derived.Test.YtpbbjkbackiljaaGreatDoorATL
import Derived.Test.YtpbbjkbackiljaaGreatDoorATJTK
set_option linter.unusedSimpArgs false
set_option linter.unusedVariables false
namespace Go.Rail
open Go Go.Proofs Tryz
set_option maxHeartbeats 400000
set_option maxRecDepth 4000
attribute [local irreducible] OpK G W LW wpListIn Exit.then Exit.inBlock Post rounds opRun bodyPostM intOp
set_option maxHeartbeats 4000000
attribute [local irreducible] Word.num Word.nat costF
theorem copF_len (f:Frm) (op:Nat) (l:List Word):(copF f op l).length=f.mem.length:=by
 have h : ∀ (a:Nat) (s:List UInt8),(putF f.mem a s).length=f.mem.length:=by
  intro a s
  unfold putF
  split
  ·rfl
  ·split
   ·rw [List.length_append,List.length_append,List.length_take,List.length_drop]
    omega
   ·rfl
 unfold copF
 split
 ·exact h _ _
 split
 ·exact h _ _
 split
 ·exact h _ _
 split
 ·exact h _ _
 split
 ·exact h _ _
 ·rfl
theorem jmL_lt17 {l:List UInt8} {x:Nat} (h:((x:Nat):Int)∈jmL l):x<l.length:=by
 unfold jmL at h
 obtain ⟨p,hp,e⟩:=List.mem_map.1 h
 have:=plcF_lt l l.length 0 p (List.mem_filter.1 hp).1
 omega
theorem does17_spec (f:Frm) (op:Nat) (sv v:Value) (l:List Word) (hop:op<256) (hfo:foundF op=true) (hl:l.length=popsN op) (hls:popsN op≤f.stack.length) (hs:f.stack.length≤1024) (hm:f.mem.length≤1048576) (h32:f.mem.length%32=0) (hr:Rch f.mem (spanP op l).1 (spanP op l).2) (hc:f.code.length≤49152) (hi:f.input.length≤1048576) (hrt:f.ret.length≤1048576) (hp:0≤f.pc) (hp2:f.pc<f.code.length) (hg:0≤f.gas) (hg2:f.gas≤2000000) (hbad:badF f.code f.ret op l=0) :
  Fn prog 43 [frmV f sv,.int .u8 (op:Int),v] [fRp sv f.stack,fRp v l] [] (RFd (doesL keccakL f op l)):=by
 have his:=is16_spec op hop
 by_cases hC:isC op=true
 ·rw [hC] at his
  have hdo:=fun w=>do16_spec op hop w f.stack oM
  have hd:doesL keccakL f op l={f with stack:=(doC op f.stack).1,pc:=f.pc+1}:=if_pos hC
  rw [hd]
  generalize (doC op f.stack).1=st1 at hdo ⊢
  generalize (doC op f.stack).2=e1 at hdo
  clear hl hls hr hbad hd
  refine Fn.enter func43 rfl ntmps43 oI (fun I0 w0 => ?_)
  refine W.bare (G.slice sv f.stack ?_)
  intro a1 c1 e1 k1
  subst e1
  repeat refine sq ?_;try intro
  refine cV his ?_
  repeat refine sq ?_;try intro
  refine OpK.call rfl rfl rfl rfl (hdo _) oY (Mr:=_) oP ?_
  rintro u Φ' Mc' ⟨w,rfl,rfl,rfl⟩
  refine nA ?_
  unfold tupD
  refine G.slice w st1 ?_
  intro a2 c2 e2 k2
  subst e2
  repeat refine sq ?_;try intro
  exact G.ret rfl (.cons (.cellA rfl rfl) .nil) (Φ':=[fRp (.slice a2 st1.length c2) st1]) (M':=[]) oY oN ⟨a2,c2,rfl,rfl,rfl⟩
 have hC0:isC op=false:=by simpa using hC
 rw [hC0] at his
 obtain ⟨b1,b2,_⟩:=row_le hop
 have hpo:=fun w=>pop13_spec w f.stack l.length oM oM
 obtain ⟨st0,hst0⟩ : ∃ st0,st0=f.stack.take (f.stack.length-popsN op):=⟨_,rfl⟩
 have hsl:st0.length=f.stack.length-popsN op:=by rw [hst0,List.length_take];omega
 have hq:popL f.stack l.length=(st0,(f.stack.drop (f.stack.length-l.length)).reverse,0):=by
  unfold popL
  rw [wrong_none f.stack (l.length:Int) 0 oM oM,if_pos rfl,hst0,hl]
 simp only [hq] at hpo
 generalize (f.stack.drop (f.stack.length-l.length)).reverse=p2 at hpo
 have hcl:=copF_len f op l
 have hcp:=fun a n c w=>cop17_spec {f with stack:=st0} op a n c w l hop hl hm h32 hr hc hi hrt
 have htl:=fun a n c w=>told17_spec {f with stack:=st0,mem:=copF f op l} op a n c w l hop hl (by dsimp only;omega) (by rcases hr with h|h;exact .inl h;exact .inr (by dsimp only;omega)) hc hi hrt hp hp2 hg hg2
 rw [show tolW keccakL {f with stack:=st0,mem:=copF f op l} op l=tolW keccakL {f with mem:=copF f op l,stack:=f.stack.take (f.stack.length-popsN op)} op l from by rw [hst0]] at htl
 have hcp : ∀ a n c w,FnV prog 76 [frmV {f with stack:=st0} (.slice a n c),.int .u8 (op:Int),w] [fRp w l] (.string (ba (copF f op l))):=hcp
 have hd:doesL keccakL f op l=(let f2:Frm:=if tolB op then {f with mem:=copF f op l,stack:=st0++[tolW keccakL {f with mem:=copF f op l,stack:=f.stack.take (f.stack.length-popsN op)} op l]} else {f with mem:=copF f op l,stack:=st0}
   if op=0 then {f2 with status:=1}
   else if op=243∨op=253 then {f2 with status:=if op=253 then 3 else 2,out:=pieceF (copF f op l) (l.getD 0 .zero) (numF (l.getD 1 .zero))}
   else if op=86∨op=87∧l.getD 1 .zero ≠ .zero then {f2 with pc:=(numF (l.getD 0 .zero):Nat)}
   else {f2 with pc:=f.pc+1+behN op}):=by
  rw [hst0]
  unfold doesL
  rw [if_neg hC]
 generalize tolW keccakL {f with mem:=copF f op l,stack:=f.stack.take (f.stack.length-popsN op)} op l=tw at htl hd
 obtain ⟨m,hmm⟩ : ∃ m,m=copF f op l:=⟨_,rfl⟩
 rw [← hmm] at hcl hcp htl hd
 have hbh:=rbehind_spec op hop
 have hb2:behN op≤32:=by unfold behN;split<;>omega
 rw [hd]
 by_cases htb:tolB op=true
 ·have hno:op≠0∧op≠243∧op≠253∧op≠86∧op≠87:=by
   have:=of_decide_eq_true htb
   omega
  dsimp only
  rw [if_pos htb,if_neg hno.1,if_neg oM,if_neg oM]
  rw [htb] at htl
  obtain ⟨n1,n2,n3,n4,n5⟩:=hno
  clear hd hr hbad hq hst0 hmm htb hfo
  refine Fn.enter func43 rfl ntmps43 oI (fun I0 w0 => ?_)
  refine W.bare (G.slice sv f.stack ?_)
  intro a1 c1 e1 k1
  subst e1
  refine G.slice v l ?_
  intro a0 c0 e0 k0
  subst e0
  refine G.code ?_
  repeat refine sq ?_;try intro
  refine cV his ?_
  repeat refine sq ?_;try intro
  refine OpK.call rfl rfl rfl rfl (hpo _) oY (Mr:=_) oP ?_
  rintro u Φ' Mc' ⟨v1,v2,o1,o2,rfl,hv1,hv2,rfl,rfl⟩
  refine nB ?_
  rw [List.append_assoc]
  refine G.perm ?_ oH
  rw [List.append_assoc]
  refine G.giveOwn2 (Mr:=_) v2 p2 o2 49 hv2 oY oH ?_
  have hv1':=hv1
  obtain ⟨a2,c2,rfl⟩:=own_open hv1'
  refine nB ?_
  repeat refine sq ?_;try intro
  refine cV (hcp _ _ _ _) ?_
  repeat refine sq ?_;try intro
  refine cV (htl _ _ _ _) ?_
  repeat refine sq ?_;try intro
  refine o_app2 (Mr:=[_,_,_]) o1 (xs:=st0) (ys:=[tw]) hv1 ⟨by simp;omega,by simp;omega,rfl⟩ rfl rfl rfl rfl oY oY oP ?_
  intro w3 o3 hv3
  refine G.giveOwn2 (Mr:=[_,_,_]) w3 (st0++[tw]) o3 49 hv3 oY oP ?_
  refine G.slice w3 (st0++[tw]) ?_
  intro a3 c3 e3 k3
  subst e3
  repeat refine sq ?_;try intro
  refine W.drawA 5 [dq _,dq _,dq _,dq _,dq _] [[],[0],[1],[],[3]] [2,4] (hrest:=fun c=>nrm ?_) (hops:=by
   iterate 4 refine AllQ.aq ?_
   refine AllQ.mk (by intro c z0 Φr Lr K;refine nrm ?_;intro hK;refine cV hbh ?_;exact hK z0) ?_
   exact AllQ.nil)
  repeat refine sq ?_;try intro
  exact G.ret rfl (.cons (.cellA rfl rfl) .nil) (Φ':=[fRp (.slice a3 _ c3) _]) (M':=[]) oY oN ⟨a3,c3,rfl,rfl,rfl⟩
 ·have htb0:tolB op=false:=by simpa using htb
  rw [htb0] at htl
  dsimp only
  rw [if_neg htb]
  by_cases h0:op=0
  ·rw [if_pos h0]
   subst h0
   clear hd hr hbad hq hst0 hmm htb hfo
   refine Fn.enter func43 rfl ntmps43 oI (fun I0 w0 => ?_)
   refine W.bare (G.slice sv f.stack ?_)
   intro a1 c1 e1 k1
   subst e1
   refine G.slice v l ?_
   intro a0 c0 e0 k0
   subst e0
   refine G.code ?_
   repeat refine sq ?_;try intro
   refine cV his ?_
   repeat refine sq ?_;try intro
   refine OpK.call rfl rfl rfl rfl (hpo _) oY (Mr:=_) oP ?_
   rintro u Φ' Mc' ⟨v1,v2,o1,o2,rfl,hv1,hv2,rfl,rfl⟩
   refine nB ?_
   rw [List.append_assoc]
   refine G.perm ?_ oH
   rw [List.append_assoc]
   refine G.giveOwn2 (Mr:=_) v2 p2 o2 49 hv2 oY oH ?_
   have hv1':=hv1
   obtain ⟨a2,c2,rfl⟩:=own_open hv1'
   refine nB ?_
   repeat refine sq ?_;try intro
   refine cV (hcp _ _ _ _) ?_
   repeat refine sq ?_;try intro
   refine cV (htl _ _ _ _) ?_
   repeat refine sq ?_;try intro
   refine G.giveOwn2 (Mr:=[_,_,_]) _ st0 o1 49 hv1 oY oP ?_
   exact G.ret rfl (.cons (.cellA rfl rfl) .nil) (Φ':=[fRp (.slice a2 _ c2) _]) (M':=[]) oY oN ⟨a2,c2,rfl,rfl,rfl⟩
  rw [if_neg h0]
  by_cases h1:op=243∨op=253
  ·rw [if_pos h1]
   have hl2:l.length=2:=by rw [hl];rcases h1 with rfl|rfl<;>rfl
   obtain ⟨a,b,rfl⟩:=two_of hl2
   have hr2:Rch m a b:=by
    have:Rch f.mem a b:=by rcases h1 with rfl|rfl<;>exact hr
    rcases this with h|h
    ·exact .inl h
    ·exact .inr oM
   have hpc:=piece17_spec m a b oM hr2
   clear hd hr hbad hq hst0 hmm htb hfo
   rcases h1 with rfl|rfl
   ·rw [if_neg oE]
    refine Fn.enter func43 rfl ntmps43 oI (fun I0 w0 => ?_)
    refine W.bare (G.slice sv f.stack ?_)
    intro a1 c1 e1 k1
    subst e1
    refine G.slice v [a,b] ?_
    intro a0 c0 e0 k0
    subst e0
    refine G.code ?_
    repeat refine sq ?_;try intro
    refine cV his ?_
    repeat refine sq ?_;try intro
    refine OpK.call rfl rfl rfl rfl (hpo _) oY (Mr:=_) oP ?_
    rintro u Φ' Mc' ⟨v1,v2,o1,o2,rfl,hv1,hv2,rfl,rfl⟩
    refine nB ?_
    rw [List.append_assoc]
    refine G.perm ?_ oH
    rw [List.append_assoc]
    refine G.giveOwn2 (Mr:=_) v2 p2 o2 49 hv2 oY oH ?_
    have hv1':=hv1
    obtain ⟨a2,c2,rfl⟩:=own_open hv1'
    refine nB ?_
    repeat refine sq ?_;try intro
    refine cV (hcp _ _ _ _) ?_
    repeat refine sq ?_;try intro
    refine cV (htl _ _ _ _) ?_
    repeat refine sq ?_;try intro
    refine W.drawA 8 [dq _,dq _,dq _,dk _,dq _,dq _,dk _,dq _] [[],[0],[],[2],[3],[],[5],[6]] [1,4,7] (hrest:=fun c=>nrm ?_) (hops:=by
     iterate 8 refine AllQ.aq ?_
     exact AllQ.nil)
    repeat refine sq ?_;try intro
    refine cV hpc ?_
    repeat refine sq ?_;try intro
    refine G.giveOwn2 (Mr:=[_,_,_]) _ st0 o1 49 hv1 oY oP ?_
    exact G.ret rfl (.cons (.cellA rfl rfl) .nil) (Φ':=[fRp (.slice a2 _ c2) _]) (M':=[]) oY oN ⟨a2,c2,rfl,rfl,rfl⟩
   ·rw [if_pos rfl]
    refine Fn.enter func43 rfl ntmps43 oI (fun I0 w0 => ?_)
    refine W.bare (G.slice sv f.stack ?_)
    intro a1 c1 e1 k1
    subst e1
    refine G.slice v [a,b] ?_
    intro a0 c0 e0 k0
    subst e0
    refine G.code ?_
    repeat refine sq ?_;try intro
    refine cV his ?_
    repeat refine sq ?_;try intro
    refine OpK.call rfl rfl rfl rfl (hpo _) oY (Mr:=_) oP ?_
    rintro u Φ' Mc' ⟨v1,v2,o1,o2,rfl,hv1,hv2,rfl,rfl⟩
    refine nB ?_
    rw [List.append_assoc]
    refine G.perm ?_ oH
    rw [List.append_assoc]
    refine G.giveOwn2 (Mr:=_) v2 p2 o2 49 hv2 oY oH ?_
    have hv1':=hv1
    obtain ⟨a2,c2,rfl⟩:=own_open hv1'
    refine nB ?_
    repeat refine sq ?_;try intro
    refine cV (hcp _ _ _ _) ?_
    repeat refine sq ?_;try intro
    refine cV (htl _ _ _ _) ?_
    repeat refine sq ?_;try intro
    refine W.drawA 8 [dq _,dq _,dq _,dk _,dq _,dq _,dk _,dq _] [[],[0],[],[2],[3],[],[5],[6]] [1,4,7] (hrest:=fun c=>nrm ?_) (hops:=by
     iterate 8 refine AllQ.aq ?_
     exact AllQ.nil)
    repeat refine sq ?_;try intro
    refine cV hpc ?_
    repeat refine sq ?_;try intro
    refine G.giveOwn2 (Mr:=[_,_,_]) _ st0 o1 49 hv1 oY oP ?_
    exact G.ret rfl (.cons (.cellA rfl rfl) .nil) (Φ':=[fRp (.slice a2 _ c2) _]) (M':=[]) oY oN ⟨a2,c2,rfl,rfl,rfl⟩
  rw [if_neg h1]
  by_cases h2:op=86∨op=87∧l.getD 1 .zero ≠ .zero
  ·rw [if_pos h2]
   have hj:((numF (l.getD 0 .zero):Nat):Int)∈jmL f.code:=by
    refine Decidable.byContradiction fun h => ?_
    unfold badF at hbad
    rw [if_pos ⟨h2,h⟩] at hbad
    cases hbad
   have hjl:=jmL_lt17 hj
   have hn:(l.getD 0 .zero).num≤4611686018427387903∧(l.getD 0 .zero).num=numF (l.getD 0 .zero):=by
    unfold numF at hjl ⊢
    omega
   have hnum:=num17_spec (l.getD 0 .zero) hn.1
   rw [hn.2] at hnum
   clear hd hr hbad hq hst0 hmm htb hfo hj hjl hn
   rcases h2 with rfl|⟨rfl,hz⟩
   ·obtain ⟨a,rfl⟩:=one_of hl
    refine Fn.enter func43 rfl ntmps43 oI (fun I0 w0 => ?_)
    refine W.bare (G.slice sv f.stack ?_)
    intro a1 c1 e1 k1
    subst e1
    refine G.slice v [a] ?_
    intro a0 c0 e0 k0
    subst e0
    refine G.code ?_
    repeat refine sq ?_;try intro
    refine cV his ?_
    repeat refine sq ?_;try intro
    refine OpK.call rfl rfl rfl rfl (hpo _) oY (Mr:=_) oP ?_
    rintro u Φ' Mc' ⟨v1,v2,o1,o2,rfl,hv1,hv2,rfl,rfl⟩
    refine nB ?_
    rw [List.append_assoc]
    refine G.perm ?_ oH
    rw [List.append_assoc]
    refine G.giveOwn2 (Mr:=_) v2 p2 o2 49 hv2 oY oH ?_
    have hv1':=hv1
    obtain ⟨a2,c2,rfl⟩:=own_open hv1'
    refine nB ?_
    repeat refine sq ?_;try intro
    refine cV (hcp _ _ _ _) ?_
    repeat refine sq ?_;try intro
    refine cV (htl _ _ _ _) ?_
    repeat refine sq ?_;try intro
    refine cV hnum ?_
    repeat refine sq ?_;try intro
    refine G.giveOwn2 (Mr:=[_,_,_]) _ st0 o1 49 hv1 oY oP ?_
    exact G.ret rfl (.cons (.cellA rfl rfl) .nil) (Φ':=[fRp (.slice a2 _ c2) _]) (M':=[]) oY oN ⟨a2,c2,rfl,rfl,rfl⟩
   ·obtain ⟨a,b,rfl⟩:=two_of hl
    have hz:b ≠ .zero:=hz
    refine Fn.enter func43 rfl ntmps43 oI (fun I0 w0 => ?_)
    refine W.bare (G.slice sv f.stack ?_)
    intro a1 c1 e1 k1
    subst e1
    refine G.slice v [a,b] ?_
    intro a0 c0 e0 k0
    subst e0
    refine G.code ?_
    repeat refine sq ?_;try intro
    refine cV his ?_
    repeat refine sq ?_;try intro
    refine OpK.call rfl rfl rfl rfl (hpo _) oY (Mr:=_) oP ?_
    rintro u Φ' Mc' ⟨v1,v2,o1,o2,rfl,hv1,hv2,rfl,rfl⟩
    refine nB ?_
    rw [List.append_assoc]
    refine G.perm ?_ oH
    rw [List.append_assoc]
    refine G.giveOwn2 (Mr:=_) v2 p2 o2 49 hv2 oY oH ?_
    have hv1':=hv1
    obtain ⟨a2,c2,rfl⟩:=own_open hv1'
    refine nB ?_
    repeat refine sq ?_;try intro
    refine cV (hcp _ _ _ _) ?_
    repeat refine sq ?_;try intro
    refine cV (htl _ _ _ _) ?_
    repeat refine sq ?_;try intro
    refine cV hnum ?_
    repeat refine sq ?_;try intro
    refine G.giveOwn2 (Mr:=[_,_,_]) _ st0 o1 49 hv1 oY oP ?_
    exact G.ret rfl (.cons (.cellA rfl rfl) .nil) (Φ':=[fRp (.slice a2 _ c2) _]) (M':=[]) oY oN ⟨a2,c2,rfl,rfl,rfl⟩
  rw [if_neg h2]
  by_cases h87:op=87
  ·subst h87
   obtain ⟨a,b,rfl⟩:=two_of hl
   have hz:b = .zero:=Decidable.byContradiction fun h=>h2 (.inr ⟨rfl,h⟩)
   clear hd hr hbad hq hst0 hmm htb hfo
   refine Fn.enter func43 rfl ntmps43 oI (fun I0 w0 => ?_)
   refine W.bare (G.slice sv f.stack ?_)
   intro a1 c1 e1 k1
   subst e1
   refine G.slice v [a,b] ?_
   intro a0 c0 e0 k0
   subst e0
   refine G.code ?_
   repeat refine sq ?_;try intro
   refine cV his ?_
   repeat refine sq ?_;try intro
   refine OpK.call rfl rfl rfl rfl (hpo _) oY (Mr:=_) oP ?_
   rintro u Φ' Mc' ⟨v1,v2,o1,o2,rfl,hv1,hv2,rfl,rfl⟩
   refine nB ?_
   rw [List.append_assoc]
   refine G.perm ?_ oH
   rw [List.append_assoc]
   refine G.giveOwn2 (Mr:=_) v2 p2 o2 49 hv2 oY oH ?_
   have hv1':=hv1
   obtain ⟨a2,c2,rfl⟩:=own_open hv1'
   refine nB ?_
   repeat refine sq ?_;try intro
   refine cV (hcp _ _ _ _) ?_
   repeat refine sq ?_;try intro
   refine cV (htl _ _ _ _) ?_
   repeat refine sq ?_;try intro
   refine W.drawA 5 [dq _,dq _,dq _,dq _,dq _] [[],[0],[1],[],[3]] [2,4] (hrest:=fun c=>nrm ?_) (hops:=by
    iterate 4 refine AllQ.aq ?_
    refine AllQ.mk (by intro c z0 Φr Lr K;refine nrm ?_;intro hK;refine cV hbh ?_;exact hK z0) ?_
    exact AllQ.nil)
   repeat refine sq ?_;try intro
   refine G.giveOwn2 (Mr:=[_,_,_]) _ st0 o1 49 hv1 oY oP ?_
   exact G.ret rfl (.cons (.cellA rfl rfl) .nil) (Φ':=[fRp (.slice a2 _ c2) _]) (M':=[]) oY oN ⟨a2,c2,rfl,rfl,rfl⟩
  have n1:op≠243:=fun h=>h1 (.inl h)
  have n2:op≠253:=fun h=>h1 (.inr h)
  have n3:op≠86:=fun h=>h2 (.inl h)
  clear hd hr hbad hq hst0 hmm htb hfo h1 h2
  refine Fn.enter func43 rfl ntmps43 oI (fun I0 w0 => ?_)
  refine W.bare (G.slice sv f.stack ?_)
  intro a1 c1 e1 k1
  subst e1
  refine G.slice v l ?_
  intro a0 c0 e0 k0
  subst e0
  refine G.code ?_
  repeat refine sq ?_;try intro
  refine cV his ?_
  repeat refine sq ?_;try intro
  refine OpK.call rfl rfl rfl rfl (hpo _) oY (Mr:=_) oP ?_
  rintro u Φ' Mc' ⟨v1,v2,o1,o2,rfl,hv1,hv2,rfl,rfl⟩
  refine nB ?_
  rw [List.append_assoc]
  refine G.perm ?_ oH
  rw [List.append_assoc]
  refine G.giveOwn2 (Mr:=_) v2 p2 o2 49 hv2 oY oH ?_
  have hv1':=hv1
  obtain ⟨a2,c2,rfl⟩:=own_open hv1'
  refine nB ?_
  repeat refine sq ?_;try intro
  refine cV (hcp _ _ _ _) ?_
  repeat refine sq ?_;try intro
  refine cV (htl _ _ _ _) ?_
  repeat refine sq ?_;try intro
  refine W.drawA 5 [dq _,dq _,dq _,dq _,dq _] [[],[0],[1],[],[3]] [2,4] (hrest:=fun c=>nrm ?_) (hops:=by
   iterate 4 refine AllQ.aq ?_
   refine AllQ.mk (by intro c z0 Φr Lr K;refine nrm ?_;intro hK;refine cV hbh ?_;exact hK z0) ?_
   exact AllQ.nil)
  repeat refine sq ?_;try intro
  refine G.giveOwn2 (Mr:=[_,_,_]) _ st0 o1 49 hv1 oY oP ?_
  exact G.ret rfl (.cons (.cellA rfl rfl) .nil) (Φ':=[fRp (.slice a2 _ c2) _]) (M':=[]) oY oN ⟨a2,c2,rfl,rfl,rfl⟩
end Go.Rail
namespace Go.Rail
open Go Go.Proofs Tryz
set_option maxHeartbeats 400000
set_option maxRecDepth 4000
attribute [local irreducible] OpK G W LW wpListIn Exit.then Exit.inBlock Post rounds opRun bodyPostM intOp
set_option maxHeartbeats 4000000
attribute [local irreducible] Word.num Word.nat costF
def locI (n:Nat):Bool:=(infoN n).isNone||isC n||decide (n=0∨n=32∨53≤n∧n≤57∨n=61∨n=62∨81≤n∧n≤83∨86≤n∧n≤91∨95≤n∧n≤127∨n=243∨n=253∨n=254)
theorem loc_eq (n:Nat) (hn:n<256):localF n=locI n:=by
 have h1:((List.range 256).all fun k=>localF k==locI k)=true:=by kernel_rfl
 have:=List.all_eq_true.1 h1 n (by simpa using hn)
 simpa using this
theorem Local17_spec (op:Nat) (hop:op<256):FnV prog 13 [.int .u8 (op:Int)] [] (.bool (localF op)):=by
 have h1:=rinfo_spec op hop
 have h2:=is16_spec op hop
 rw [loc_eq op hop]
 unfold infoV at h1
 unfold locI
 cases hi:infoN op with
 | none =>
  rw [hi] at h1
  refine Fn.enter func13 rfl ntmps13 oI (fun I0 w0 => ?_)
  repeat refine sq ?_;try intro
  refine cV h1 ?_
  repeat refine sq ?_;try intro
  refine G.retV ?_
  rfl
 | some r =>
  rw [hi] at h1
  dsimp only [Option.getD_some,Option.isSome_some] at h1
  by_cases hc:isC op=true
  ·rw [hc] at h2 ⊢
   refine Fn.enter func13 rfl ntmps13 oI (fun I0 w0 => ?_)
   repeat refine sq ?_;try intro
   refine cV h1 ?_
   repeat refine sq ?_;try intro
   refine cV h2 ?_
   repeat refine sq ?_;try intro
   refine G.retV ?_
   rfl
  ·have hc:isC op=false:=by simpa using hc
   rw [hc] at h2 ⊢
   clear hi
   obtain h|h|h|h|h|h|h|h|h|h|h|h|h|h|h|h|h|h|h|h:op=0∨op=32∨(53≤op∧op≤57)∨op=61∨op=62∨(81≤op∧op≤83)∨(86≤op∧op≤91)∨(95≤op∧op≤127)∨op=243∨op=253∨op=254∨(1≤op∧op≤31)∨(33≤op∧op≤52)∨(58≤op∧op≤60)∨(63≤op∧op≤80)∨(84≤op∧op≤85)∨(92≤op∧op≤94)∨(128≤op∧op≤242)∨(244≤op∧op≤252)∨op=255:=by omega
   all_goals
    first|rw [decide_eq_true oM]|rw [decide_eq_false oM]
    refine Fn.enter func13 rfl ntmps13 oI (fun I0 w0 => ?_)
    repeat refine sq ?_;try intro
    refine cV h1 ?_
    repeat refine sq ?_;try intro
    refine cV h2 ?_
    repeat refine sq ?_;try intro
    refine G.retV ?_
    rfl
end Go.Rail
