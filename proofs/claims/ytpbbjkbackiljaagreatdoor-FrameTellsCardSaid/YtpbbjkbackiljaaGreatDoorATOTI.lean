/- The document's frames: Step. -/
import Derived.Test.YtpbbjkbackiljaaGreatDoorRailA
import Derived.Test.YtpbbjkbackiljaaGreatDoorRailI
import Derived.Test.YtpbbjkbackiljaaGreatDoorATNTM
import Derived.Test.YtpbbjkbackiljaaGreatDoorATH
import Derived.Test.YtpbbjkbackiljaaGreatDoorAFRTG
set_option linter.unusedSimpArgs false
set_option linter.unusedVariables false
namespace Go.Rail
open Go Go.Proofs Tryz
set_option maxHeartbeats 400000
set_option maxRecDepth 4000
attribute [local irreducible] OpK G W LW wpListIn Exit.then Exit.inBlock Post rounds opRun bodyPostM intOp
set_option maxHeartbeats 8000000
attribute [local irreducible] Word.num Word.nat costF
theorem take_ok {s:List Word} {op:Nat} {l:List Word} (h:takeF s op=(l,0)):infoN op≠none∧op≠254∧l.length=popsN op∧popsN op≤s.length:=by
 unfold takeF at h
 split at h
 ·cases h
 ·rename_i h1
  have hn:infoN op≠none:=fun q=>h1 (.inl q)
  have hx:op≠254:=fun q=>h1 (.inr q)
  split at h
  ·cases h
  ·have e1:(popL s (popsN op)).2.1=l:=congrArg Prod.fst h
   have e2:(popL s (popsN op)).2.2=0:=congrArg Prod.snd h
   unfold popL at e1 e2
   by_cases hw:wrongL s (popsN op) 0=0
   ·rw [if_pos hw] at e1
    have hle:popsN op≤s.length:=by
     unfold wrongL at hw
     split at hw
     ·cases hw
     ·split at hw
      ·cases hw
      ·omega
    refine ⟨hn,hx,?_,hle⟩
    rw [← e1]
    simp only [List.length_reverse,List.length_drop]
    omega
   ·rw [if_neg hw] at e2
    exact absurd e2 hw
theorem step17_spec (f:Frm) (sv:Value) (hs:f.stack.length≤100000):Fn prog 19 [frmV f sv] [fRp sv f.stack] [] (RStep (stepL keccakL f)):=by
 have h1:=fun v=>right17_spec f v
 have h2:=fun v=>own17_spec f v oM
 unfold stepL
 by_cases hr:rightF f=false
 ·rw [if_pos hr]
  rw [hr] at h1
  refine Fn.enter func19 rfl ntmps19 oI (fun I0 w0 => ?_)
  refine W.bare (G.slice sv f.stack ?_)
  intro a1 c1 e1 k1
  subst e1
  repeat refine sq ?_;try intro
  refine cV (h1 _) ?_
  repeat refine sq ?_;try intro
  refine OpK.call rfl rfl rfl rfl (h2 _) oY (Mr:=_) oP ?_
  rintro u Φ' Mc' ⟨v5,o,hv,rfl,rfl,rfl⟩
  obtain ⟨a2,c2,rfl⟩:=own_open hv
  refine nA ?_
  refine G.giveOwn _ _ o 49 (Mr:=_) hv oY oP ?_
  repeat refine sq ?_;try intro
  exact G.ret rfl (.cons (.cellA rfl rfl) (.cons (.tmp rfl) .nil)) (Φ':=[fRp (.slice a2 _ c2) _]) (M':=[]) oY oN ⟨a2,c2,rfl,rfl,rfl⟩
 have hr:rightF f=true:=by simpa using hr
 rw [hr,if_neg (show ¬ true=false by decide)]
 rw [hr] at h1
 obtain ⟨a1,a2,a3,a4,a5,a6,a7,a8,a9,a10,a11,a12,a13,a14,a15⟩:=right_Rt.1 hr
 by_cases hst:f.status≠0
 ·rw [if_pos hst]
  refine Fn.enter func19 rfl ntmps19 oI (fun I0 w0 => ?_)
  refine W.bare (G.slice sv f.stack ?_)
  intro a1 c1 e1 k1
  subst e1
  repeat refine sq ?_;try intro
  refine cV (h1 _) ?_
  repeat refine sq ?_;try intro
  refine OpK.call rfl rfl rfl rfl (h2 _) oY (Mr:=_) oP ?_
  rintro u Φ' Mc' ⟨v5,o,hv,rfl,rfl,rfl⟩
  obtain ⟨a2,c2,rfl⟩:=own_open hv
  refine nA ?_
  refine G.giveOwn _ _ o 49 (Mr:=_) hv oY oP ?_
  repeat refine sq ?_;try intro
  exact G.ret rfl (.cons (.cellA rfl rfl) (.cons (.tmp rfl) .nil)) (Φ':=[fRp (.slice a2 _ c2) _]) (M':=[]) oY oN ⟨a2,c2,rfl,rfl,rfl⟩
 rw [if_neg hst]
 have hs0:f.status=0:=by omega
 by_cases hp:(f.code.length:Int)≤f.pc
 ·rw [if_pos hp]
  refine Fn.enter func19 rfl ntmps19 oI (fun I0 w0 => ?_)
  refine W.bare (G.slice sv f.stack ?_)
  intro a1 c1 e1 k1
  subst e1
  repeat refine sq ?_;try intro
  refine cV (h1 _) ?_
  repeat refine sq ?_;try intro
  refine OpK.call rfl rfl rfl rfl (h2 _) oY (Mr:=_) oP ?_
  rintro u Φ' Mc' ⟨v5,o,hv,rfl,rfl,rfl⟩
  obtain ⟨a2,c2,rfl⟩:=own_open hv
  refine nA ?_
  refine G.giveOwn _ _ o 49 (Mr:=_) hv oY oP ?_
  repeat refine sq ?_;try intro
  exact G.ret rfl (.cons (.cellA rfl rfl) (.cons (.tmp rfl) .nil)) (Φ':=[fRp (.slice a2 _ c2) _]) (M':=[]) oY oN ⟨a2,c2,rfl,rfl,rfl⟩
 rw [if_neg hp]
 have hlt:f.pc.toNat<f.code.length:=by omega
 have hix:f.code[f.pc.toNat]? = some (f.code.getD f.pc.toNat 0):=by
  rw [List.getD_eq_getElem?_getD,List.getElem?_eq_getElem hlt];rfl
 generalize f.code.getD f.pc.toNat 0=ch at hix ⊢
 have hch:ch.toNat<256:=UInt8.toNat_lt _
 obtain ⟨op,hop⟩ : ∃ op,op=ch.toNat:=⟨_,rfl⟩
 rw [← hop] at hch ⊢
 have h4:=Local17_spec op hch
 by_cases hl:localF op=false
 ·rw [if_pos hl]
  rw [hl] at h4
  refine Fn.enter func19 rfl ntmps19 oI (fun I0 w0 => ?_)
  refine W.bare (G.slice sv f.stack ?_)
  intro a1 c1 e1 k1
  subst e1
  repeat refine sq ?_;try intro
  refine cV (h1 _) ?_
  repeat refine sq ?_;try intro
  refine OpK.call rfl rfl rfl rfl (h2 _) oY (Mr:=_) oP ?_
  rintro u Φ' Mc' ⟨v5,o,hv,rfl,rfl,rfl⟩
  obtain ⟨a2,c2,rfl⟩:=own_open hv
  refine nA ?_
  refine G.giveOwn _ _ o 49 (Mr:=_) hv oY oP ?_
  repeat refine sq ?_;try intro
  refine o_ixG f.pc.toNat ch rfl rfl rfl rfl oM hix ?_
  rw [← hop]
  repeat refine sq ?_;try intro
  refine cV h4 ?_
  repeat refine sq ?_;try intro
  exact G.ret rfl (.cons (.cellA rfl rfl) (.cons (.tmp rfl) .nil)) (Φ':=[fRp (.slice a2 _ c2) _]) (M':=[]) oY oN ⟨a2,c2,rfl,rfl,rfl⟩
 rw [if_neg hl]
 have hl:localF op=true:=by simpa using hl
 rw [hl] at h4
 have h5:=fun v=>Sizes17_spec f v op hch hs
 obtain ⟨l,e,htk⟩ : ∃ l e,takeF f.stack op=(l,e):=⟨_,_,rfl⟩
 rw [htk] at h5
 by_cases he:e≠0
 ·have hsf:stepF keccakL f op=failF f e:=by unfold stepF;rw [htk];exact if_pos he
  rw [hsf]
  have h6:=fun a n c=>Fail17_spec f e a n c
  refine Fn.enter func19 rfl ntmps19 oI (fun I0 w0 => ?_)
  refine W.bare (G.slice sv f.stack ?_)
  intro a1 c1 e1 k1
  subst e1
  repeat refine sq ?_;try intro
  refine cV (h1 _) ?_
  repeat refine sq ?_;try intro
  refine OpK.call rfl rfl rfl rfl (h2 _) oY (Mr:=_) oP ?_
  rintro u Φ' Mc' ⟨v5,o,hv,rfl,rfl,rfl⟩
  obtain ⟨a2,c2,rfl⟩:=own_open hv
  refine nA ?_
  refine G.giveOwn _ _ o 49 (Mr:=_) hv oY oP ?_
  repeat refine sq ?_;try intro
  refine o_ixG f.pc.toNat ch rfl rfl rfl rfl oM hix ?_
  rw [← hop]
  repeat refine sq ?_;try intro
  refine cV h4 ?_
  repeat refine sq ?_;try intro
  refine OpK.call rfl rfl rfl rfl (h5 _) oY (Mr:=_) oP ?_
  rintro u Φ' Mc' ⟨v,rfl,rfl,rfl⟩
  refine nA ?_
  refine G.slice v l ?_
  intro a3 c3 e3 k3
  subst e3
  repeat refine sq ?_;try intro
  refine cV (h6 _ _ _) ?_
  repeat refine sq ?_;try intro
  exact G.ret rfl (.cons (.cellA rfl rfl) (.cons (.tmp rfl) .nil)) (Φ':=[fRp (.slice a2 f.stack.length c2) f.stack]) (M':=[]) oY oN ⟨a2,c2,rfl,rfl,rfl⟩
 obtain rfl:e=0:=by omega
 obtain ⟨t1,t2,t3,t4⟩:=take_ok htk
 have hfo:foundF op=true:=by
  unfold localF at hl
  rw [show (infoN op).isNone=false from by cases h:infoN op;exact absurd h t1;rfl,decide_eq_false t2] at hl
  simpa using hl
 rw [stepF_doc keccakL f op l hfo htk]
 obtain ⟨_,_,g3⟩:=row_le hch
 have h7:=rinfo_spec op hch
 have hmo:=moreF_le op l
 have h8:=fun v=>asks17_spec op v l hch t3
 have h9:=Reach17_spec f.mem (spanP op l).1 (spanP op l).2 a10
 have h6:=fun e a n c=>Fail17_spec f e a n c
 unfold infoV at h7
 unfold gasN at g3
 have hgn:gasN op=((infoN op).getD noRow).gas:=rfl
 generalize (infoN op).getD noRow=r at h7 g3 hgn
 generalize (infoN op).isSome=is at h7
 cases hq:reachD (f.mem.length/32) (spanP op l) with
 | none =>
  rw [show reachD (f.mem.length/32) ((spanP op l).1,(spanP op l).2)=none from hq] at h9
  unfold reachV17 at h9
  dsimp only at h9 ⊢
  generalize spanP op l=sp at h8 h9
  generalize moreF op l=mo at h8 hmo
  obtain ⟨sp1,sp2⟩:=sp
  clear hq htk t1 t2 t3 t4 hl hfo
  refine Fn.enter func19 rfl ntmps19 oI (fun I0 w0 => ?_)
  refine W.bare (G.slice sv f.stack ?_)
  intro a1 c1 e1 k1
  subst e1
  repeat refine sq ?_;try intro
  refine cV (h1 _) ?_
  repeat refine sq ?_;try intro
  refine OpK.call rfl rfl rfl rfl (h2 _) oY (Mr:=_) oP ?_
  rintro u Φ' Mc' ⟨v5,o,hv,rfl,rfl,rfl⟩
  obtain ⟨a2,c2,rfl⟩:=own_open hv
  refine nA ?_
  refine G.giveOwn _ _ o 49 (Mr:=_) hv oY oP ?_
  repeat refine sq ?_;try intro
  refine o_ixG f.pc.toNat ch rfl rfl rfl rfl oM hix ?_
  rw [← hop]
  repeat refine sq ?_;try intro
  refine cV h4 ?_
  repeat refine sq ?_;try intro
  refine OpK.call rfl rfl rfl rfl (h5 _) oY (Mr:=_) oP ?_
  rintro u Φ' Mc' ⟨v,rfl,rfl,rfl⟩
  refine nA ?_
  refine G.slice v l ?_
  intro a3 c3 e3 k3
  subst e3
  repeat refine sq ?_;try intro
  refine cV h7 ?_
  repeat refine sq ?_;try intro
  refine cV (h8 _) ?_
  repeat refine sq ?_;try intro
  refine cV h9 ?_
  repeat refine sq ?_;try intro
  refine cV (h6 43 _ _ _) ?_
  repeat refine sq ?_;try intro
  exact G.ret rfl (.cons (.cellA rfl rfl) (.cons (.tmp rfl) .nil)) (Φ':=[fRp (.slice a2 f.stack.length c2) f.stack]) (M':=[]) oY oN ⟨a2,c2,rfl,rfl,rfl⟩
 | some words =>
  rw [show reachD (f.mem.length/32) ((spanP op l).1,(spanP op l).2)=some words from hq] at h9
  unfold reachV17 at h9
  dsimp only at h9 ⊢
  obtain ⟨k,hk,hkw⟩ : ∃ k,needF (spanP op l).1 (spanP op l).2=some k∧max (f.mem.length/32) k=words:=by
   unfold reachD at hq
   cases hn:needF (spanP op l).1 (spanP op l).2 with
   | none=>rw [hn] at hq;cases hq
   | some k=>rw [hn] at hq;exact ⟨k,rfl,Option.some.inj hq⟩
  have hk1:=needF_max hk
  have hmono:=costF_mono (a:=f.mem.length/32) (b:=words) oM
  have hmx:=costF_max words
  have hgl:=growF_len f.mem words
  have hrch:Rch (growF f.mem words) (spanP op l).1 (spanP op l).2:=by
   rw [needF_sum] at hk
   unfold Rch
   rw [hgl]
   split at hk
   ·exact .inl ‹_›
   ·split at hk
    ·have:=Option.some.inj hk
     exact .inr oM
    ·cases hk
  obtain ⟨cost,hcost⟩ : ∃ c,c=costD f op words l:=⟨_,rfl⟩
  have hcost2:cost=(costF words:Int)-(costF (f.mem.length/32):Int)+(r.gas:Int)+(moreF op l:Int):=by rw [hcost,← hgn];rfl
  have hbd:=fun w a n c=>bad17_spec f op a n c w l hch t3 a1 a3
  have hgr:=grow12_spec f.mem words a10 a11 oM
  have hdo:=fun q w (hb:badF f.code f.ret op l=0) (hg : ¬ f.gas<cost)=>does17_spec {f with gas:=f.gas-cost,mem:=growF f.mem words} op q w l hch hfo t3 t4 a9 (by dsimp only;omega) (by dsimp only;omega) hrch a1 a2 a3 a5 (by dsimp only;omega) (by dsimp only;omega) (by dsimp only;omega) hb
  rw [← hcost]
  generalize growF f.mem words=gm at hgr hdo
  generalize badF f.code f.ret op l=bd at hbd hdo ⊢
  generalize moreF op l=mo at h8 hmo hcost2
  clear hq htk t1 t2 t3 t4 hl hfo hk hkw hrch hgl
  by_cases hg:f.gas<cost
  ·rw [if_pos hg]
   generalize spanP op l=sp at h8 h9
   obtain ⟨sp1,sp2⟩:=sp
   refine Fn.enter func19 rfl ntmps19 oI (fun I0 w0 => ?_)
   refine W.bare (G.slice sv f.stack ?_)
   intro a1 c1 e1 k1
   subst e1
   repeat refine sq ?_;try intro
   refine cV (h1 _) ?_
   repeat refine sq ?_;try intro
   refine OpK.call rfl rfl rfl rfl (h2 _) oY (Mr:=_) oP ?_
   rintro u Φ' Mc' ⟨v5,o,hv,rfl,rfl,rfl⟩
   obtain ⟨a2,c2,rfl⟩:=own_open hv
   refine nA ?_
   refine G.giveOwn _ _ o 49 (Mr:=_) hv oY oP ?_
   repeat refine sq ?_;try intro
   refine o_ixG f.pc.toNat ch rfl rfl rfl rfl oM hix ?_
   rw [← hop]
   repeat refine sq ?_;try intro
   refine cV h4 ?_
   repeat refine sq ?_;try intro
   refine OpK.call rfl rfl rfl rfl (h5 _) oY (Mr:=_) oP ?_
   rintro u Φ' Mc' ⟨v,rfl,rfl,rfl⟩
   refine nA ?_
   refine G.slice v l ?_
   intro a3 c3 e3 k3
   subst e3
   repeat refine sq ?_;try intro
   refine cV h7 ?_
   repeat refine sq ?_;try intro
   refine cV (h8 _) ?_
   repeat refine sq ?_;try intro
   refine cV h9 ?_
   repeat refine sq ?_;try intro
   refine cV (h6 43 _ _ _) ?_
   repeat refine sq ?_;try intro
   exact G.ret rfl (.cons (.cellA rfl rfl) (.cons (.tmp rfl) .nil)) (Φ':=[fRp (.slice a2 f.stack.length c2) f.stack]) (M':=[]) oY oN ⟨a2,c2,rfl,rfl,rfl⟩
  ·rw [if_neg hg]
   by_cases hb:bd=0
   ·rw [if_neg (fun h=>h hb)]
    have hdo:=fun q w=>hdo q w hb hg
    clear hcost
    subst hcost2
    generalize doesL keccakL {f with gas:=f.gas-((costF words:Int)-(costF (f.mem.length/32):Int)+(r.gas:Int)+(mo:Int)),mem:=gm} op l=F at hdo ⊢
    have hdo : ∀ q w,Fn prog 43 [frmV {f with gas:=f.gas-((costF words:Int)-(costF (f.mem.length/32):Int)+(r.gas:Int)+(mo:Int)),mem:=gm} q,.int .u8 (op:Int),w] [fRp q f.stack,fRp w l] [] (RFd F):=hdo
    generalize spanP op l=sp at h8 h9
    obtain ⟨sp1,sp2⟩:=sp
    refine Fn.enter func19 rfl ntmps19 oI (fun I0 w0 => ?_)
    refine W.bare (G.slice sv f.stack ?_)
    intro a1 c1 e1 k1
    subst e1
    repeat refine sq ?_;try intro
    refine cV (h1 _) ?_
    repeat refine sq ?_;try intro
    refine OpK.call rfl rfl rfl rfl (h2 _) oY (Mr:=_) oP ?_
    rintro u Φ' Mc' ⟨v5,o,hv,rfl,rfl,rfl⟩
    obtain ⟨a2,c2,rfl⟩:=own_open hv
    refine nA ?_
    refine G.giveOwn _ _ o 49 (Mr:=_) hv oY oP ?_
    repeat refine sq ?_;try intro
    refine o_ixG f.pc.toNat ch rfl rfl rfl rfl oM hix ?_
    rw [← hop]
    repeat refine sq ?_;try intro
    refine cV h4 ?_
    repeat refine sq ?_;try intro
    refine OpK.call rfl rfl rfl rfl (h5 _) oY (Mr:=_) oP ?_
    rintro u Φ' Mc' ⟨v,rfl,rfl,rfl⟩
    refine nA ?_
    refine G.slice v l ?_
    intro a3 c3 e3 k3
    subst e3
    repeat refine sq ?_;try intro
    refine cV h7 ?_
    repeat refine sq ?_;try intro
    refine cV (h8 _) ?_
    repeat refine sq ?_;try intro
    refine cV h9 ?_
    repeat refine sq ?_;try intro
    refine cV (hbd _ _ _ _) ?_
    repeat refine sq ?_;try intro
    refine cV hgr ?_
    repeat refine sq ?_;try intro
    refine OpK.call rfl rfl rfl rfl (hdo _ _) oY (Mr:=_) oP ?_
    rintro u Φ' Mc' ⟨a4,c4,rfl,rfl,rfl⟩
    refine nA ?_
    repeat refine sq ?_;try intro
    exact G.ret rfl (.cons (.cellA rfl rfl) (.cons (.tmp rfl) .nil)) (Φ':=[fRp (.slice a4 F.stack.length c4) F.stack]) (M':=[]) oY oN ⟨a4,c4,rfl,rfl,rfl⟩
   ·rw [if_pos hb]
    generalize spanP op l=sp at h8 h9
    obtain ⟨sp1,sp2⟩:=sp
    refine Fn.enter func19 rfl ntmps19 oI (fun I0 w0 => ?_)
    refine W.bare (G.slice sv f.stack ?_)
    intro a1 c1 e1 k1
    subst e1
    repeat refine sq ?_;try intro
    refine cV (h1 _) ?_
    repeat refine sq ?_;try intro
    refine OpK.call rfl rfl rfl rfl (h2 _) oY (Mr:=_) oP ?_
    rintro u Φ' Mc' ⟨v5,o,hv,rfl,rfl,rfl⟩
    obtain ⟨a2,c2,rfl⟩:=own_open hv
    refine nA ?_
    refine G.giveOwn _ _ o 49 (Mr:=_) hv oY oP ?_
    repeat refine sq ?_;try intro
    refine o_ixG f.pc.toNat ch rfl rfl rfl rfl oM hix ?_
    rw [← hop]
    repeat refine sq ?_;try intro
    refine cV h4 ?_
    repeat refine sq ?_;try intro
    refine OpK.call rfl rfl rfl rfl (h5 _) oY (Mr:=_) oP ?_
    rintro u Φ' Mc' ⟨v,rfl,rfl,rfl⟩
    refine nA ?_
    refine G.slice v l ?_
    intro a3 c3 e3 k3
    subst e3
    repeat refine sq ?_;try intro
    refine cV h7 ?_
    repeat refine sq ?_;try intro
    refine cV (h8 _) ?_
    repeat refine sq ?_;try intro
    refine cV h9 ?_
    repeat refine sq ?_;try intro
    refine cV (hbd _ _ _ _) ?_
    repeat refine sq ?_;try intro
    refine cV (h6 _ _ _ _) ?_
    repeat refine sq ?_;try intro
    exact G.ret rfl (.cons (.cellA rfl rfl) (.cons (.tmp rfl) .nil)) (Φ':=[fRp (.slice a2 f.stack.length c2) f.stack]) (M':=[]) oY oN ⟨a2,c2,rfl,rfl,rfl⟩
end Go.Rail
namespace Go.Rail
open Go Go.Proofs Tryz
set_option maxHeartbeats 400000
set_option maxRecDepth 4000
attribute [local irreducible] OpK G W LW wpListIn Exit.then Exit.inBlock Post rounds opRun bodyPostM intOp
set_option maxHeartbeats 8000000
theorem frt_0 (f:Frm) (sv:Value) (t:f.status=2∨f.status=3∨(f.status≠2∧f.status≠3)) (hd:(49152<f.code.length)∨(f.code.length≤49152∧1048576<f.input.length)∨(f.code.length≤49152∧f.input.length≤1048576∧1048576<f.ret.length)∨(f.code.length≤49152∧f.input.length≤1048576∧f.ret.length≤1048576∧1048576<f.out.length)∨(f.code.length≤49152∧f.input.length≤1048576∧f.ret.length≤1048576∧f.out.length≤1048576∧f.pc<0)):FnV prog 20 [frmV f sv] [fRp sv f.stack] (.bool false):=by
 rcases hd with h|⟨g1,h⟩|⟨g1,g2,h⟩|⟨g1,g2,g3,h⟩|⟨g1,g2,g3,g4,h⟩
 all_goals rcases t with t|t|⟨t,t2⟩
 all_goals try (exfalso;omega)
 all_goals
  refine Fn.enter func20 rfl ntmps20 oI (fun I0 w0 => ?_)
  refine W.bare (G.slice sv f.stack ?_)
  intro a1 c1 e1 k1
  subst e1
  clear k1
  repeat refine sq ?_;try intro
  try (refine o_max3 rfl rfl rfl rfl rfl rfl ?_)
  repeat refine sq ?_;try intro
  refine G.retV ?_
  rfl
theorem frt_1 (f:Frm) (sv:Value) (t:f.status=2∨f.status=3∨(f.status≠2∧f.status≠3)) (hd:(f.code.length≤49152∧f.input.length≤1048576∧f.ret.length≤1048576∧f.out.length≤1048576∧0≤f.pc∧9007199254740992<f.pc)∨(f.code.length≤49152∧f.input.length≤1048576∧f.ret.length≤1048576∧f.out.length≤1048576∧0≤f.pc∧f.pc≤9007199254740992∧f.gas<0)∨(f.code.length≤49152∧f.input.length≤1048576∧f.ret.length≤1048576∧f.out.length≤1048576∧0≤f.pc∧f.pc≤9007199254740992∧0≤f.gas∧2000000<f.gas)∨(f.code.length≤49152∧f.input.length≤1048576∧f.ret.length≤1048576∧f.out.length≤1048576∧0≤f.pc∧f.pc≤9007199254740992∧0≤f.gas∧f.gas≤2000000∧1024<f.stack.length)):FnV prog 20 [frmV f sv] [fRp sv f.stack] (.bool false):=by
 rcases hd with ⟨g1,g2,g3,g4,g5,h⟩|⟨g1,g2,g3,g4,g5,g6,h⟩|⟨g1,g2,g3,g4,g5,g6,g7,h⟩|⟨g1,g2,g3,g4,g5,g6,g7,g8,h⟩
 all_goals rcases t with t|t|⟨t,t2⟩
 all_goals try (exfalso;omega)
 all_goals
  refine Fn.enter func20 rfl ntmps20 oI (fun I0 w0 => ?_)
  refine W.bare (G.slice sv f.stack ?_)
  intro a1 c1 e1 k1
  subst e1
  clear k1
  repeat refine sq ?_;try intro
  try (refine o_max3 rfl rfl rfl rfl rfl rfl ?_)
  repeat refine sq ?_;try intro
  refine G.retV ?_
  rfl
theorem frt_2 (f:Frm) (sv:Value) (t:f.status=2∨f.status=3∨(f.status≠2∧f.status≠3)) (hd:(f.code.length≤49152∧f.input.length≤1048576∧f.ret.length≤1048576∧f.out.length≤1048576∧0≤f.pc∧f.pc≤9007199254740992∧0≤f.gas∧f.gas≤2000000∧f.stack.length≤1024∧1048576<f.mem.length)∨(f.code.length≤49152∧f.input.length≤1048576∧f.ret.length≤1048576∧f.out.length≤1048576∧0≤f.pc∧f.pc≤9007199254740992∧0≤f.gas∧f.gas≤2000000∧f.stack.length≤1024∧f.mem.length≤1048576∧f.mem.length%32≠0)∨(f.code.length≤49152∧f.input.length≤1048576∧f.ret.length≤1048576∧f.out.length≤1048576∧0≤f.pc∧f.pc≤9007199254740992∧0≤f.gas∧f.gas≤2000000∧f.stack.length≤1024∧f.mem.length≤1048576∧f.mem.length%32=0∧f.status<0)∨(f.code.length≤49152∧f.input.length≤1048576∧f.ret.length≤1048576∧f.out.length≤1048576∧0≤f.pc∧f.pc≤9007199254740992∧0≤f.gas∧f.gas≤2000000∧f.stack.length≤1024∧f.mem.length≤1048576∧f.mem.length%32=0∧0≤f.status∧4<f.status)):FnV prog 20 [frmV f sv] [fRp sv f.stack] (.bool false):=by
 rcases hd with ⟨g1,g2,g3,g4,g5,g6,g7,g8,g9,h⟩|⟨g1,g2,g3,g4,g5,g6,g7,g8,g9,g10,h⟩|⟨g1,g2,g3,g4,g5,g6,g7,g8,g9,g10,g11,h⟩|⟨g1,g2,g3,g4,g5,g6,g7,g8,g9,g10,g11,g12,h⟩
 all_goals rcases t with t|t|⟨t,t2⟩
 all_goals try (exfalso;omega)
 all_goals
  refine Fn.enter func20 rfl ntmps20 oI (fun I0 w0 => ?_)
  refine W.bare (G.slice sv f.stack ?_)
  intro a1 c1 e1 k1
  subst e1
  clear k1
  repeat refine sq ?_;try intro
  try (refine o_max3 rfl rfl rfl rfl rfl rfl ?_)
  repeat refine sq ?_;try intro
  refine G.retV ?_
  rfl
theorem frt_d (f:Frm) (sv:Value) (g1:f.code.length≤49152) (g2:f.input.length≤1048576) (g3:f.ret.length≤1048576) (g4:f.out.length≤1048576) (g5:0≤f.pc) (g6:f.pc≤9007199254740992) (g7:0≤f.gas) (g8:f.gas≤2000000) (g9:f.stack.length≤1024) (g10:f.mem.length≤1048576) (g11:f.mem.length%32=0) (g12:0≤f.status) (g13:f.status≤4) (e1:f.status=4) (e2:f.errno=0):FnV prog 20 [frmV f sv] [fRp sv f.stack] (.bool false):=by
 refine Fn.enter func20 rfl ntmps20 oI (fun I0 w0 => ?_)
 refine W.bare (G.slice sv f.stack ?_)
 intro a1 c1 e1 k1
 subst e1
 clear k1
 repeat refine sq ?_;try intro
 try (refine o_max3 rfl rfl rfl rfl rfl rfl ?_)
 repeat refine sq ?_;try intro
 refine G.retV ?_
 rfl
theorem frt_e (f:Frm) (sv:Value) (t:f.status=2∨f.status=3∨(f.status≠2∧f.status≠3)) (g1:f.code.length≤49152) (g2:f.input.length≤1048576) (g3:f.ret.length≤1048576) (g4:f.out.length≤1048576) (g5:0≤f.pc) (g6:f.pc≤9007199254740992) (g7:0≤f.gas) (g8:f.gas≤2000000) (g9:f.stack.length≤1024) (g10:f.mem.length≤1048576) (g11:f.mem.length%32=0) (g12:0≤f.status) (g13:f.status≤4) (e1:f.status≠4) (e2:f.errno≠0):FnV prog 20 [frmV f sv] [fRp sv f.stack] (.bool false):=by
 rcases t with t|t|⟨t,t2⟩
 all_goals
  refine Fn.enter func20 rfl ntmps20 oI (fun I0 w0 => ?_)
  refine W.bare (G.slice sv f.stack ?_)
  intro a1 c1 e1 k1
  subst e1
  clear k1
  repeat refine sq ?_;try intro
  try (refine o_max3 rfl rfl rfl rfl rfl rfl ?_)
  repeat refine sq ?_;try intro
  refine G.retV ?_
  rfl
theorem frt_j (f:Frm) (sv:Value) (g1:f.code.length≤49152) (g2:f.input.length≤1048576) (g3:f.ret.length≤1048576) (g4:f.out.length≤1048576) (g5:0≤f.pc) (g6:f.pc≤9007199254740992) (g7:0≤f.gas) (g8:f.gas≤2000000) (g9:f.stack.length≤1024) (g10:f.mem.length≤1048576) (g11:f.mem.length%32=0) (g12:0≤f.status) (g13:f.status≤4) (e1:f.status=4) (e2:f.errno≠0) (ho:f.out≠[]):FnV prog 20 [frmV f sv] [fRp sv f.stack] (.bool false):=by
 refine Fn.enter func20 rfl ntmps20 oI (fun I0 w0 => ?_)
 refine W.bare (G.slice sv f.stack ?_)
 intro a1 c1 e1 k1
 subst e1
 clear k1
 repeat refine sq ?_;try intro
 try (refine o_max3 rfl rfl rfl rfl rfl rfl ?_)
 repeat refine sq ?_;try intro
 refine G.retV ?_
 rfl
theorem frt_k (f:Frm) (sv:Value) (g1:f.code.length≤49152) (g2:f.input.length≤1048576) (g3:f.ret.length≤1048576) (g4:f.out.length≤1048576) (g5:0≤f.pc) (g6:f.pc≤9007199254740992) (g7:0≤f.gas) (g8:f.gas≤2000000) (g9:f.stack.length≤1024) (g10:f.mem.length≤1048576) (g11:f.mem.length%32=0) (g12:0≤f.status) (g13:f.status≤4) (e1:f.status≠4) (e2:f.errno=0) (ho:f.out≠[]) (e3:f.status≠2) (e4:f.status≠3):FnV prog 20 [frmV f sv] [fRp sv f.stack] (.bool false):=by
 refine Fn.enter func20 rfl ntmps20 oI (fun I0 w0 => ?_)
 refine W.bare (G.slice sv f.stack ?_)
 intro a1 c1 e1 k1
 subst e1
 clear k1
 repeat refine sq ?_;try intro
 try (refine o_max3 rfl rfl rfl rfl rfl rfl ?_)
 repeat refine sq ?_;try intro
 refine G.retV ?_
 rfl
theorem fright_all (f:Frm) (sv:Value):FnV prog 20 [frmV f sv] [fRp sv f.stack] (.bool (rightF f)):=by
 by_cases hr:rightF f=true
 ·rw [hr]
  exact fright_spec f sv hr
 have t:f.status=2∨f.status=3∨(f.status≠2∧f.status≠3):=by omega
 by_cases h:49152<f.code.length
 ·rw [show rightF f=false from decide_eq_false (fun q=>by obtain ⟨q1,q2,q3,q4,q5,q6,q7,q8,q9,q10,q11,q12,q13,q14,q15⟩:=q;omega)]
  exact frt_0 f sv t (.inl h)
 have g1:f.code.length≤49152:=by omega
 clear h
 by_cases h:1048576<f.input.length
 ·rw [show rightF f=false from decide_eq_false (fun q=>by obtain ⟨q1,q2,q3,q4,q5,q6,q7,q8,q9,q10,q11,q12,q13,q14,q15⟩:=q;omega)]
  exact frt_0 f sv t (.inr (.inl ⟨g1,h⟩))
 have g2:f.input.length≤1048576:=by omega
 clear h
 by_cases h:1048576<f.ret.length
 ·rw [show rightF f=false from decide_eq_false (fun q=>by obtain ⟨q1,q2,q3,q4,q5,q6,q7,q8,q9,q10,q11,q12,q13,q14,q15⟩:=q;omega)]
  exact frt_0 f sv t (.inr (.inr (.inl ⟨g1,g2,h⟩)))
 have g3:f.ret.length≤1048576:=by omega
 clear h
 by_cases h:1048576<f.out.length
 ·rw [show rightF f=false from decide_eq_false (fun q=>by obtain ⟨q1,q2,q3,q4,q5,q6,q7,q8,q9,q10,q11,q12,q13,q14,q15⟩:=q;omega)]
  exact frt_0 f sv t (.inr (.inr (.inr (.inl ⟨g1,g2,g3,h⟩))))
 have g4:f.out.length≤1048576:=by omega
 clear h
 by_cases h:f.pc<0
 ·rw [show rightF f=false from decide_eq_false (fun q=>by obtain ⟨q1,q2,q3,q4,q5,q6,q7,q8,q9,q10,q11,q12,q13,q14,q15⟩:=q;omega)]
  exact frt_0 f sv t (.inr (.inr (.inr (.inr (⟨g1,g2,g3,g4,h⟩)))))
 have g5:0≤f.pc:=by omega
 clear h
 by_cases h:9007199254740992<f.pc
 ·rw [show rightF f=false from decide_eq_false (fun q=>by obtain ⟨q1,q2,q3,q4,q5,q6,q7,q8,q9,q10,q11,q12,q13,q14,q15⟩:=q;omega)]
  exact frt_1 f sv t (.inl ⟨g1,g2,g3,g4,g5,h⟩)
 have g6:f.pc≤9007199254740992:=by omega
 clear h
 by_cases h:f.gas<0
 ·rw [show rightF f=false from decide_eq_false (fun q=>by obtain ⟨q1,q2,q3,q4,q5,q6,q7,q8,q9,q10,q11,q12,q13,q14,q15⟩:=q;omega)]
  exact frt_1 f sv t (.inr (.inl ⟨g1,g2,g3,g4,g5,g6,h⟩))
 have g7:0≤f.gas:=by omega
 clear h
 by_cases h:2000000<f.gas
 ·rw [show rightF f=false from decide_eq_false (fun q=>by obtain ⟨q1,q2,q3,q4,q5,q6,q7,q8,q9,q10,q11,q12,q13,q14,q15⟩:=q;omega)]
  exact frt_1 f sv t (.inr (.inr (.inl ⟨g1,g2,g3,g4,g5,g6,g7,h⟩)))
 have g8:f.gas≤2000000:=by omega
 clear h
 by_cases h:1024<f.stack.length
 ·rw [show rightF f=false from decide_eq_false (fun q=>by obtain ⟨q1,q2,q3,q4,q5,q6,q7,q8,q9,q10,q11,q12,q13,q14,q15⟩:=q;omega)]
  exact frt_1 f sv t (.inr (.inr (.inr (⟨g1,g2,g3,g4,g5,g6,g7,g8,h⟩))))
 have g9:f.stack.length≤1024:=by omega
 clear h
 by_cases h:1048576<f.mem.length
 ·rw [show rightF f=false from decide_eq_false (fun q=>by obtain ⟨q1,q2,q3,q4,q5,q6,q7,q8,q9,q10,q11,q12,q13,q14,q15⟩:=q;omega)]
  exact frt_2 f sv t (.inl ⟨g1,g2,g3,g4,g5,g6,g7,g8,g9,h⟩)
 have g10:f.mem.length≤1048576:=by omega
 clear h
 by_cases h:f.mem.length%32≠0
 ·rw [show rightF f=false from decide_eq_false (fun q=>by obtain ⟨q1,q2,q3,q4,q5,q6,q7,q8,q9,q10,q11,q12,q13,q14,q15⟩:=q;omega)]
  exact frt_2 f sv t (.inr (.inl ⟨g1,g2,g3,g4,g5,g6,g7,g8,g9,g10,h⟩))
 have g11:f.mem.length%32=0:=by omega
 clear h
 by_cases h:f.status<0
 ·rw [show rightF f=false from decide_eq_false (fun q=>by obtain ⟨q1,q2,q3,q4,q5,q6,q7,q8,q9,q10,q11,q12,q13,q14,q15⟩:=q;omega)]
  exact frt_2 f sv t (.inr (.inr (.inl ⟨g1,g2,g3,g4,g5,g6,g7,g8,g9,g10,g11,h⟩)))
 have g12:0≤f.status:=by omega
 clear h
 by_cases h:4<f.status
 ·rw [show rightF f=false from decide_eq_false (fun q=>by obtain ⟨q1,q2,q3,q4,q5,q6,q7,q8,q9,q10,q11,q12,q13,q14,q15⟩:=q;omega)]
  exact frt_2 f sv t (.inr (.inr (.inr (⟨g1,g2,g3,g4,g5,g6,g7,g8,g9,g10,g11,g12,h⟩))))
 have g13:f.status≤4:=by omega
 clear h
 by_cases he:f.errno=0↔f.status=4
 ·rw [show rightF f=false from decide_eq_false (fun q=>by obtain ⟨q1,q2,q3,q4,q5,q6,q7,q8,q9,q10,q11,q12,q13,q14,q15⟩:=q;omega)]
  by_cases e1:f.status=4
  ·exact frt_d f sv g1 g2 g3 g4 g5 g6 g7 g8 g9 g10 g11 g12 g13 e1 oM
  ·exact frt_e f sv t g1 g2 g3 g4 g5 g6 g7 g8 g9 g10 g11 g12 g13 e1 oM
 by_cases ho:f.out=[]
 ·exact absurd (decide_eq_true ⟨by omega,by omega,by omega,by omega,by omega,by omega,by omega,by omega,by omega,by omega,by omega,by omega,by omega,by omega,.inl ho⟩) hr
 have e3:f.status≠2:=fun h=>hr (decide_eq_true ⟨by omega,by omega,by omega,by omega,by omega,by omega,by omega,by omega,by omega,by omega,by omega,by omega,by omega,by omega,.inr (.inl h)⟩)
 have e4:f.status≠3:=fun h=>hr (decide_eq_true ⟨by omega,by omega,by omega,by omega,by omega,by omega,by omega,by omega,by omega,by omega,by omega,by omega,by omega,by omega,.inr (.inr h)⟩)
 rw [show rightF f=false by simpa using hr]
 by_cases e1:f.status=4
 ·exact frt_j f sv g1 g2 g3 g4 g5 g6 g7 g8 g9 g10 g11 g12 g13 e1 oM ho
 ·exact frt_k f sv g1 g2 g3 g4 g5 g6 g7 g8 g9 g10 g11 g12 g13 e1 oM ho e3 e4
end Go.Rail
