/- The document's frames: Sizes, bad. -/
import Derived.Test.YtpbbjkbackiljaaGreatDoorRailA
import Derived.Test.YtpbbjkbackiljaaGreatDoorRailI
import Derived.Test.YtpbbjkbackiljaaGreatDoorATJTK
set_option linter.unusedSimpArgs false
set_option linter.unusedVariables false
namespace Go.Rail
open Go Go.Proofs Tryz
set_option maxHeartbeats 400000
set_option maxRecDepth 4000
attribute [local irreducible] OpK G W LW wpListIn Exit.then Exit.inBlock Post rounds opRun bodyPostM intOp
set_option maxHeartbeats 4000000
attribute [local irreducible] Word.num Word.nat costF
theorem Sizes17_spec (f:Frm) (sv:Value) (op:Nat) (hop:op<256) (hs:f.stack.length≤100000) :
  Fn prog 37 [frmV f sv,.int .u8 (op:Int)] [fRp sv f.stack] [] (RTake (takeF f.stack op)):=by
 obtain ⟨b1,b2,_⟩:=row_le hop
 have h1:=rinfo_spec op hop
 unfold popsN at b1
 unfold pushN' at b2
 unfold infoV at h1
 cases hi:infoN op with
 | none =>
  have ht:takeF f.stack op=([],42):=by unfold takeF;rw [if_pos (.inl hi)]
  rw [ht]
  rw [hi] at h1
  refine Fn.enter func37 rfl ntmps37 oI (fun I0 w0 => ?_)
  refine W.bare (G.slice sv f.stack ?_)
  intro a1 c1 e1 k1
  subst e1
  repeat refine sq ?_;try intro
  refine cV h1 ?_
  repeat refine sq ?_;try intro
  exact G.ret rfl (.cons (.tmp rfl) (.cons (.tmp rfl) .nil)) (Φ':=[fRp (.slice none 0 0) ([]:List Word)]) (M':=[]) oY oN ⟨_,rfl,rfl,rfl⟩
 | some r =>
  rw [hi] at h1 b1 b2
  dsimp only [Option.getD_some] at h1 b1 b2
  by_cases h254:op=254
  ·have ht:takeF f.stack op=([],42):=by unfold takeF;rw [if_pos (.inr h254)]
   rw [ht]
   subst h254
   refine Fn.enter func37 rfl ntmps37 oI (fun I0 w0 => ?_)
   refine W.bare (G.slice sv f.stack ?_)
   intro a1 c1 e1 k1
   subst e1
   repeat refine sq ?_;try intro
   refine cV h1 ?_
   repeat refine sq ?_;try intro
   exact G.ret rfl (.cons (.tmp rfl) (.cons (.tmp rfl) .nil)) (Φ':=[fRp (.slice none 0 0) ([]:List Word)]) (M':=[]) oY oN ⟨_,rfl,rfl,rfl⟩
  ·have h2:=fun v=>pop13_spec v f.stack r.pops b1 hs
   have hno:(popL f.stack r.pops).2.2≠0→(popL f.stack r.pops).2.1=[]:=by
    unfold popL
    split
    ·intro h;exact absurd rfl h
    ·intro _;rfl
   obtain ⟨p1,p2,e,hq⟩ : ∃ p1 p2 e,popL f.stack r.pops=(p1,p2,e):=⟨_,_,_,rfl⟩
   have ht:takeF f.stack op=if e=0∧1024+r.pops<f.stack.length+r.pushes then ([],41) else (p2,e):=by
    unfold takeF popsN pushN'
    rw [if_neg (by rw [hi];rintro (h|h);cases h;exact h254 h),hi]
    simp only [Option.getD_some,hq]
   rw [ht]
   rw [hq] at hno
   simp only [hq] at h2
   dsimp only at hno
   refine Fn.enter func37 rfl ntmps37 oI (fun I0 w0 => ?_)
   refine W.bare (G.slice sv f.stack ?_)
   intro a1 c1 e1 k1
   subst e1
   repeat refine sq ?_;try intro
   refine cV h1 ?_
   repeat refine sq ?_;try intro
   refine OpK.call rfl rfl rfl rfl (h2 _) oY (Mr:=_) oP ?_
   rintro u Φ' Mc' ⟨v1,v2,o1,o2,rfl,hv1,hv2,rfl,rfl⟩
   refine nB ?_
   rw [List.append_assoc]
   refine G.giveOwn2 (Mr:=_) v1 p1 o1 49 hv1 oY oH ?_
   refine G.giveOwn2 (Mr:=_) v2 p2 o2 49 hv2 oY oH ?_
   by_cases he:e=0
   ·subst he
    by_cases hm:1024+r.pops<f.stack.length+r.pushes
    ·rw [if_pos ⟨rfl,hm⟩]
     repeat refine sq ?_;try intro
     exact G.ret rfl (.cons (.tmp rfl) (.cons (.tmp rfl) .nil)) (Φ':=[fRp (.slice none 0 0) ([]:List Word)]) (M':=[]) oY oN ⟨_,rfl,rfl,rfl⟩
    ·rw [if_neg (fun h=>hm h.2)]
     repeat refine sq ?_;try intro
     exact G.ret rfl (.cons (.tmp rfl) (.cons (.tmp rfl) .nil)) (Φ':=[fRp v2 p2]) (M':=[]) oY oN ⟨_,rfl,rfl,rfl⟩
   ·rw [if_neg (fun h=>he h.1),hno he]
    repeat refine sq ?_;try intro
    exact G.ret rfl (.cons (.tmp rfl) (.cons (.tmp rfl) .nil)) (Φ':=[fRp (.slice none 0 0) ([]:List Word)]) (M':=[]) oY oN ⟨_,rfl,rfl,rfl⟩
theorem bad17_spec (f:Frm) (op:Nat) (ad:Option Addr) (n c0:Nat) (v:Value) (l:List Word) (hop:op<256) (hl:l.length=popsN op) (hc:f.code.length≤49152) (hrt:f.ret.length≤1048576):FnV prog 41 [frmV f (.slice ad n c0),.int .u8 (op:Int),v] [fRp v l] (.int .i64 (badF f.code f.ret op l)):=by
 have hj:=Fn.given (jumps14_spec f.code oM)
 obtain ⟨m,J,hJ,hm⟩ : ∃ m J,jmL f.code=rowZ m J∧m≤1000000:=⟨(jmL f.code).length,fun i=>(jmL f.code).getD i 0,rowZ_ext rfl,by have:=jmT_len f.code (plc f.code).length;rw [jmT_all] at this;omega⟩
 have hin : ∀ (u:Value) (q:Int),FnV prog 72 [u,.int .i64 q] [fRp u (rowZ m J)] (.bool (decide (q∈jmL f.code))):=fun u q=>by
  have e:decide (q∈jmL f.code)=decide (q∈rowZ m J):=by rw [hJ]
  rw [e]
  exact in17_spec u m J q hm
 rw [hJ] at hj
 by_cases h86:op=86
 ·subst h86
  obtain ⟨a,rfl⟩:=one_of hl
  have c1:=Num17_spec a
  have hb:badF f.code f.ret 86 [a]=if ((numF a:Nat):Int)∈jmL f.code then 0 else 44:=by
   unfold badF
   by_cases h:((numF a:Nat):Int)∈jmL f.code
   ·rw [if_neg (fun q=>q.2 h),if_neg (fun q=>absurd q.1 oE),if_pos h]
   ·rw [if_pos ⟨.inl rfl,h⟩,if_neg h]
  rw [hb]
  have hin2:=fun u=>hin u ((numF a:Nat):Int)
  by_cases h:((numF a:Nat):Int)∈jmL f.code
  ·rw [if_pos h]
   rw [decide_eq_true h] at hin2
   refine Fn.enter func41 rfl ntmps41 oI (fun I0 w0 => ?_)
   repeat refine sq ?_;try intro
   refine W.drawA 8 [dq _,dq _,dq _,dq _,dk _,dq _,dk _,dq _] [[],[0],[1],[1,2],[1,3],[1],[1,5],[1,6]] [1,4,7] (hrest:=fun c=>nrm ?_) (hops:=by
    iterate 4 refine AllQ.aq ?_
    refine AllQ.mk (by intro c z0 Φr Lr K;refine nrm ?_;intro hK;refine o_callD rfl rfl rfl rfl hj ?_;exact hK) ?_
    iterate 3 refine AllQ.aq ?_
    exact AllQ.nil)
   repeat refine sq ?_;try intro
   refine cV c1 ?_
   repeat refine sq ?_;try intro
   refine cV (hin2 _) ?_
   repeat refine sq ?_;try intro
   refine W.drawA 15 [dq _,dq _,dq _,dq _,dq _,dq _,dq _,dq _,dq _,dq _,dq _,dq _,dq _,dq _,dq _] [[],[0],[1],[2],[2,3],[2,4],[2,5],[2],[2,7],[2,8],[2,9],[2,6,10],[2],[2,12],[2,13]] [2,11,14] (hrest:=fun c=>nrm ?_) (hops:=by
    iterate 15 refine AllQ.aq ?_
    exact AllQ.nil)
   repeat refine sq ?_;try intro
   refine G.retV ?_
   rfl
  ·rw [if_neg h]
   rw [decide_eq_false h] at hin2
   refine Fn.enter func41 rfl ntmps41 oI (fun I0 w0 => ?_)
   repeat refine sq ?_;try intro
   refine W.drawA 8 [dq _,dq _,dq _,dq _,dk _,dq _,dk _,dq _] [[],[0],[1],[1,2],[1,3],[1],[1,5],[1,6]] [1,4,7] (hrest:=fun c=>nrm ?_) (hops:=by
    iterate 4 refine AllQ.aq ?_
    refine AllQ.mk (by intro c z0 Φr Lr K;refine nrm ?_;intro hK;refine o_callD rfl rfl rfl rfl hj ?_;exact hK) ?_
    iterate 3 refine AllQ.aq ?_
    exact AllQ.nil)
   repeat refine sq ?_;try intro
   refine cV c1 ?_
   repeat refine sq ?_;try intro
   refine cV (hin2 _) ?_
   repeat refine sq ?_;try intro
   refine G.retV ?_
   rfl
 by_cases h87:op=87
 ·subst h87
  obtain ⟨a,b,rfl⟩:=two_of hl
  have c1:=Num17_spec a
  by_cases hz:b = .zero
  ·have hb:badF f.code f.ret 87 [a,b]=0:=by
    unfold badF
    rw [if_neg (fun q=>by rcases q.1 with h|h;cases h;exact h.2 hz),if_neg (fun q=>absurd q.1 oE)]
   rw [hb]
   refine Fn.enter func41 rfl ntmps41 oI (fun I0 w0 => ?_)
   repeat refine sq ?_;try intro
   refine W.drawA 8 [dq _,dq _,dq _,dq _,dq _,dq _,dq _,dq _] [[],[0],[1],[1,2],[1,3],[1],[1,5],[1,6]] [1,4,7] (hrest:=fun c=>nrm ?_) (hops:=by
    iterate 8 refine AllQ.aq ?_
    exact AllQ.nil)
   repeat refine sq ?_;try intro
   refine W.drawA 15 [dq _,dq _,dq _,dq _,dq _,dq _,dq _,dq _,dq _,dq _,dq _,dq _,dq _,dq _,dq _] [[],[0],[1],[2],[2,3],[2,4],[2,5],[2],[2,7],[2,8],[2,9],[2,6,10],[2],[2,12],[2,13]] [2,11,14] (hrest:=fun c=>nrm ?_) (hops:=by
    iterate 15 refine AllQ.aq ?_
    exact AllQ.nil)
   repeat refine sq ?_;try intro
   refine G.retV ?_
   rfl
  ·have hb:badF f.code f.ret 87 [a,b]=if ((numF a:Nat):Int)∈jmL f.code then 0 else 44:=by
    unfold badF
    by_cases h:((numF a:Nat):Int)∈jmL f.code
    ·rw [if_neg (fun q=>q.2 h),if_neg (fun q=>absurd q.1 oE),if_pos h]
    ·rw [if_pos ⟨.inr ⟨rfl,hz⟩,h⟩,if_neg h]
   rw [hb]
   have hin2:=fun u=>hin u ((numF a:Nat):Int)
   by_cases h:((numF a:Nat):Int)∈jmL f.code
   ·rw [if_pos h]
    rw [decide_eq_true h] at hin2
    refine Fn.enter func41 rfl ntmps41 oI (fun I0 w0 => ?_)
    repeat refine sq ?_;try intro
    refine W.drawA 8 [dq _,dq _,dq _,dq _,dk _,dq _,dk _,dq _] [[],[0],[1],[1,2],[1,3],[1],[1,5],[1,6]] [1,4,7] (hrest:=fun c=>nrm ?_) (hops:=by
     iterate 4 refine AllQ.aq ?_
     refine AllQ.mk (by intro c z0 Φr Lr K;refine nrm ?_;intro hK;refine o_callD rfl rfl rfl rfl hj ?_;exact hK) ?_
     iterate 3 refine AllQ.aq ?_
     exact AllQ.nil)
    repeat refine sq ?_;try intro
    refine cV c1 ?_
    repeat refine sq ?_;try intro
    refine cV (hin2 _) ?_
    repeat refine sq ?_;try intro
    refine W.drawA 15 [dq _,dq _,dq _,dq _,dq _,dq _,dq _,dq _,dq _,dq _,dq _,dq _,dq _,dq _,dq _] [[],[0],[1],[2],[2,3],[2,4],[2,5],[2],[2,7],[2,8],[2,9],[2,6,10],[2],[2,12],[2,13]] [2,11,14] (hrest:=fun c=>nrm ?_) (hops:=by
     iterate 15 refine AllQ.aq ?_
     exact AllQ.nil)
    repeat refine sq ?_;try intro
    refine G.retV ?_
    rfl
   ·rw [if_neg h]
    rw [decide_eq_false h] at hin2
    refine Fn.enter func41 rfl ntmps41 oI (fun I0 w0 => ?_)
    repeat refine sq ?_;try intro
    refine W.drawA 8 [dq _,dq _,dq _,dq _,dk _,dq _,dk _,dq _] [[],[0],[1],[1,2],[1,3],[1],[1,5],[1,6]] [1,4,7] (hrest:=fun c=>nrm ?_) (hops:=by
     iterate 4 refine AllQ.aq ?_
     refine AllQ.mk (by intro c z0 Φr Lr K;refine nrm ?_;intro hK;refine o_callD rfl rfl rfl rfl hj ?_;exact hK) ?_
     iterate 3 refine AllQ.aq ?_
     exact AllQ.nil)
    repeat refine sq ?_;try intro
    refine cV c1 ?_
    repeat refine sq ?_;try intro
    refine cV (hin2 _) ?_
    repeat refine sq ?_;try intro
    refine G.retV ?_
    rfl
 by_cases h62:op=62
 ·subst h62
  obtain ⟨a,b,c,rfl⟩:=three_of hl
  have c1:=Num17_spec b
  have c2:=Num17_spec c
  have m1:numF b≤1099511627776:=by unfold numF;omega
  have m2:numF c≤1099511627776:=by unfold numF;omega
  by_cases h:f.ret.length<numF b+numF c
  ·have hb:badF f.code f.ret 62 [a,b,c]=45:=by
    unfold badF
    rw [if_neg (fun q=>by rcases q.1 with h|h;cases h;cases h.1),if_pos ⟨rfl,h⟩]
   rw [hb]
   refine Fn.enter func41 rfl ntmps41 oI (fun I0 w0 => ?_)
   repeat refine sq ?_;try intro
   refine W.drawA 8 [dq _,dq _,dq _,dq _,dq _,dq _,dq _,dq _] [[],[0],[1],[1,2],[1,3],[1],[1,5],[1,6]] [1,4,7] (hrest:=fun c=>nrm ?_) (hops:=by
    iterate 8 refine AllQ.aq ?_
    exact AllQ.nil)
   repeat refine sq ?_;try intro
   refine W.drawA 15 [dq _,dq _,dq _,dq _,dk _,dq _,dq _,dq _,dk _,dq _,dq _,dq _,dq _,dq _,dq _] [[],[0],[1],[2],[2,3],[2,4],[2,5],[2],[2,7],[2,8],[2,9],[2,6,10],[2],[2,12],[2,13]] [2,11,14] (hrest:=fun c=>nrm ?_) (hops:=by
    iterate 6 refine AllQ.aq ?_
    refine AllQ.mk (by intro c z0 Φr Lr K;refine nrm ?_;intro hK;refine cV c1 ?_;exact hK z0) ?_
    iterate 3 refine AllQ.aq ?_
    refine AllQ.mk (by intro c z0 Φr Lr K;refine nrm ?_;intro hK;refine cV c2 ?_;exact hK z0) ?_
    iterate 4 refine AllQ.aq ?_
    exact AllQ.nil)
   repeat refine sq ?_;try intro
   refine G.retV ?_
   rfl
  ·have hb:badF f.code f.ret 62 [a,b,c]=0:=by
    unfold badF
    rw [if_neg (fun q=>by rcases q.1 with h|h;cases h;cases h.1),if_neg (fun q=>h q.2)]
   rw [hb]
   refine Fn.enter func41 rfl ntmps41 oI (fun I0 w0 => ?_)
   repeat refine sq ?_;try intro
   refine W.drawA 8 [dq _,dq _,dq _,dq _,dq _,dq _,dq _,dq _] [[],[0],[1],[1,2],[1,3],[1],[1,5],[1,6]] [1,4,7] (hrest:=fun c=>nrm ?_) (hops:=by
    iterate 8 refine AllQ.aq ?_
    exact AllQ.nil)
   repeat refine sq ?_;try intro
   refine W.drawA 15 [dq _,dq _,dq _,dq _,dk _,dq _,dq _,dq _,dk _,dq _,dq _,dq _,dq _,dq _,dq _] [[],[0],[1],[2],[2,3],[2,4],[2,5],[2],[2,7],[2,8],[2,9],[2,6,10],[2],[2,12],[2,13]] [2,11,14] (hrest:=fun c=>nrm ?_) (hops:=by
    iterate 6 refine AllQ.aq ?_
    refine AllQ.mk (by intro c z0 Φr Lr K;refine nrm ?_;intro hK;refine cV c1 ?_;exact hK z0) ?_
    iterate 3 refine AllQ.aq ?_
    refine AllQ.mk (by intro c z0 Φr Lr K;refine nrm ?_;intro hK;refine cV c2 ?_;exact hK z0) ?_
    iterate 4 refine AllQ.aq ?_
    exact AllQ.nil)
   repeat refine sq ?_;try intro
   refine G.retV ?_
   rfl
 have hb:badF f.code f.ret op l=0:=by
  unfold badF
  rw [if_neg (fun q=>by rcases q.1 with h|h;exact h86 h;exact h87 h.1),if_neg (fun q=>h62 q.1)]
 rw [hb]
 refine Fn.enter func41 rfl ntmps41 oI (fun I0 w0 => ?_)
 repeat refine sq ?_;try intro
 refine W.drawA 8 [dq _,dq _,dq _,dq _,dq _,dq _,dq _,dq _] [[],[0],[1],[1,2],[1,3],[1],[1,5],[1,6]] [1,4,7] (hrest:=fun c=>nrm ?_) (hops:=by
  iterate 8 refine AllQ.aq ?_
  exact AllQ.nil)
 repeat refine sq ?_;try intro
 refine W.drawA 15 [dq _,dq _,dq _,dq _,dq _,dq _,dq _,dq _,dq _,dq _,dq _,dq _,dq _,dq _,dq _] [[],[0],[1],[2],[2,3],[2,4],[2,5],[2],[2,7],[2,8],[2,9],[2,6,10],[2],[2,12],[2,13]] [2,11,14] (hrest:=fun c=>nrm ?_) (hops:=by
  iterate 15 refine AllQ.aq ?_
  exact AllQ.nil)
 repeat refine sq ?_;try intro
 refine G.retV ?_
 rfl
end Go.Rail
