/- The document's frames: Run, Begin; runs of less than no steps; a step of any frame. -/
import Derived.Test.YtpbbjkbackiljaaGreatDoorRailA
import Derived.Test.YtpbbjkbackiljaaGreatDoorRailI
import Derived.Test.YtpbbjkbackiljaaGreatDoorATOTI
import Derived.Test.YtpbbjkbackiljaaGreatDoorAFRTG
import Derived.Test.YtpbbjkbackiljaaGreatDoorAD3One
import Derived.Test.YtpbbjkbackiljaaGreatDoorRailD
set_option linter.unusedSimpArgs false
set_option linter.unusedVariables false
namespace Go.Rail
open Go Go.Proofs Tryz
set_option maxHeartbeats 400000
set_option maxRecDepth 4000
attribute [local irreducible] OpK G W LW wpListIn Exit.then Exit.inBlock Post rounds opRun bodyPostM intOp
set_option maxHeartbeats 4000000
theorem run17_spec (f:Frm) (sv:Value) (m:Nat) (hm:m≤100000) (hr:Rt f):Fn prog 23 [frmV f sv,.int .i64 (m:Int)] [fRp sv f.stack] [] (RRuns (runL keccakL m f)):=by
 have h1:=fun v=>right17_spec f v
 rw [right_Rt.2 hr] at h1
 have h2:=fun v=>own17_spec f v (by have:=hr.2.2.2.2.2.2.2.2.1;omega)
 refine Fn.enter func23 rfl ntmps23 oI (fun I0 w0 => ?_)
 refine W.bare (G.slice sv f.stack ?_)
 intro a1 c1 e1 k1
 subst e1
 repeat refine sq ?_;try intro
 rename_i b2 b4
 refine cV (h1 _) ?_
 repeat refine sq ?_;try intro
 refine OpK.call rfl rfl rfl rfl (h2 _) oY (Mr:=_) oP ?_
 rintro u Φ' Mc' ⟨v5,o,hv,rfl,rfl,rfl⟩
 obtain ⟨a2,c2,rfl⟩:=own_open hv
 refine nA ?_
 refine G.giveOwn _ _ o 49 (Mr:=_) hv oY oP ?_
 repeat refine sq ?_;try intro
 rename_i b7
 refine W.lp (S:=RnSt) (fun s=>([fRp (.slice s.a s.g.stack.length s.c) s.g.stack],[(8,.int .i64 (s.i:Int)),(1,.int .i64 (m:Int)),(7,.pointer (some ⟨b7,0,none⟩)),(4,.pointer (some ⟨b4,0,none⟩))],[(b7,Ob (frmC s.g (.slice s.a s.g.stack.length s.c)) 26),(b4,Ob (frmC (bgF [] [] 0) (.slice none 0 0)) 26)])) (fun s=>s.i≤m∧Rt s.g∧runL keccakL m f=((runL keccakL (m-s.i) s.g).1,(runL keccakL (m-s.i) s.g).2+s.i)) (fun s=>m-s.i) ⟨0,f,a2,c2⟩ ?_ (h0:=⟨Nat.zero_le _,hr,rfl⟩) (hM := .cons_cons _ (.cons_cons _ (.cons _ (.refl _))))
 rintro ⟨i,g,ag,cg⟩ ⟨hi,hrg,hrun⟩
 dsimp only at hi hrg hrun ⊢
 rw [hrun]
 by_cases he:i=m
 ·subst he
  rw [Nat.sub_self,show runL keccakL 0 g=(g,0) from rfl,Nat.zero_add]
  repeat refine sq ?_;try intro
  exact G.ret rfl (.cons (.cellA rfl rfl) (.cons (.tmp rfl) (.cons (.tmp rfl) .nil))) (Φ':=[fRp (.slice ag _ cg) _]) (M':=[]) oY oN ⟨ag,cg,rfl,rfl,rfl⟩
 ·have h3:=fun v=>step17_spec g v (by have:=hrg.2.2.2.2.2.2.2.2.1;omega)
  obtain ⟨k,hk⟩ : ∃ k,m-i=k+1:=⟨m-i-1,by omega⟩
  have hk2:m-(i+1)=k:=by omega
  have hlaw:=stepL_law keccakL hrg
  rw [hk,runL_s]
  rw [hk,runL_s] at hrun
  generalize hq:stepL keccakL g=q at h3 hrun hlaw ⊢
  obtain ⟨g2,e⟩:=q
  dsimp only at hlaw hrun ⊢
  by_cases hz:e≠0
  ·rw [if_pos hz,Nat.zero_add]
   repeat refine sq ?_;try intro
   refine OpK.call rfl rfl rfl rfl (h3 _) oY (Mr:=_) oP ?_
   rintro u Φ' Mc' ⟨a3,c3,rfl,rfl,rfl⟩
   refine nA ?_
   repeat refine sq ?_;try intro
   exact G.ret rfl (.cons (.cellA rfl rfl) (.cons (.tmp rfl) (.cons (.tmp rfl) .nil))) (Φ':=[fRp (.slice ag _ cg) _]) (M':=[]) oY oN ⟨ag,cg,rfl,rfl,rfl⟩
  ·obtain rfl:e=0:=by omega
   rw [if_neg hz] at hrun ⊢
   obtain ⟨_,hrt,_⟩:=hlaw rfl
   repeat refine sq ?_;try intro
   refine OpK.call rfl rfl rfl rfl (h3 _) oY (Mr:=_) oP ?_
   rintro u Φ' Mc' ⟨a3,c3,rfl,rfl,rfl⟩
   refine nA ?_
   repeat refine sq ?_;try intro
   refine G.ag (S:=RnSt) ⟨i+1,g2,a3,c3⟩ (hpre:=⟨by dsimp only;omega,hrt,?_⟩) (hM := .cons _ oZ)
   dsimp only
   rw [hk2,Nat.add_assoc,Nat.add_comm 1 i]
def RNeg (f:Frm):Value→List Fa→Own→Prop:=fun u Φ' M' => ∃ a c,u = .tuple #[frmV f (.slice a f.stack.length c),.int .i64 0,.int .i64 1]∧Φ'=[fRp (.slice a f.stack.length c) f.stack]∧M'=[]
theorem run17_neg (f:Frm) (sv:Value) (m:Int) (hm:m<0) (hr:Rt f):Fn prog 23 [frmV f sv,.int .i64 m] [fRp sv f.stack] [] (RNeg f):=by
 have h1:=fun v=>right17_spec f v
 rw [right_Rt.2 hr] at h1
 have h2:=fun v=>own17_spec f v (by have:=hr.2.2.2.2.2.2.2.2.1;omega)
 refine Fn.enter func23 rfl ntmps23 oI (fun I0 w0 => ?_)
 refine W.bare (G.slice sv f.stack ?_)
 intro a1 c1 e1 k1
 subst e1
 repeat refine sq ?_;try intro
 refine cV (h1 _) ?_
 repeat refine sq ?_;try intro
 refine OpK.call rfl rfl rfl rfl (h2 _) oY (Mr:=_) oP ?_
 rintro u Φ' Mc' ⟨v5,o,hv,rfl,rfl,rfl⟩
 obtain ⟨a2,c2,rfl⟩:=own_open hv
 refine nA ?_
 refine G.giveOwn _ _ o 49 (Mr:=_) hv oY oP ?_
 repeat refine sq ?_;try intro
 exact G.ret rfl (.cons (.cellA rfl rfl) (.cons (.tmp rfl) (.cons (.tmp rfl) .nil))) (Φ':=[fRp (.slice a2 _ c2) _]) (M':=[]) oY oN ⟨a2,c2,rfl,rfl,rfl⟩
theorem fRun_neg (f:Frm) (sv:Value) (m:Int) (hm:m<0) (hr:Rt f):Fn prog 22 [frmV f sv,.int .i64 m] [fRp sv f.stack] [] (RNeg f):=by
 have h1:=fun v=>fright_spec f v (right_Rt.2 hr)
 have h2:=fun v=>own_spec f v (by have:=hr.2.2.2.2.2.2.2.2.1;omega)
 refine Fn.enter func22 rfl ntmps22 oI (fun I0 w0 => ?_)
 refine W.bare (G.slice sv f.stack ?_)
 intro a1 c1 e1 k1
 subst e1
 repeat refine sq ?_;try intro
 refine OpK.call rfl rfl rfl rfl (h2 _) oY (Mr:=_) oP ?_
 rintro u Φ' Mc' ⟨v5,o,hv,rfl,rfl,rfl⟩
 obtain ⟨a2,c2,rfl⟩:=own_open hv
 refine nA ?_
 refine G.giveOwn _ _ o 49 (Mr:=_) hv oY oP ?_
 repeat refine sq ?_;try intro
 refine cV (h1 _) ?_
 repeat refine sq ?_;try intro
 exact G.ret rfl (.cons (.cellA rfl rfl) (.cons (.tmp rfl) (.cons (.tmp rfl) .nil))) (Φ':=[fRp (.slice a2 _ c2) _]) (M':=[]) oY oN ⟨a2,c2,rfl,rfl,rfl⟩
theorem fStep_all (f:Frm) (sv:Value) (hs:f.stack.length≤100000):Fn prog 18 [frmV f sv] [fRp sv f.stack,fKc] [] (RStep (stepL keccakL f)):=by
 by_cases hr:rightF f=true
 ·exact fStep_spec f sv (right_Rt.1 hr)
 have hr:rightF f=false:=by simpa using hr
 have h1:=fun v=>fright_all f v
 rw [hr] at h1
 have h2:=fun v=>own_spec f v oM
 rw [show stepL keccakL f=(f,1) from if_pos hr]
 refine Fn.enter func18 rfl ntmps18 oI (fun I0 w0 => ?_)
 refine W.bare (G.slice sv f.stack ?_)
 intro a1 c1 e1 k1
 subst e1
 repeat refine sq ?_;try intro
 refine cV (h1 _) ?_
 repeat refine sq ?_;try intro
 refine OpK.call rfl rfl rfl rfl (h2 _) oY (Mr:=_) oP ?_
 rintro u Φ' Mc' ⟨v5,o,hv,rfl,rfl,rfl⟩
 obtain ⟨a2,c2,rfl⟩:=own_open hv
 refine nA ?_
 refine G.giveOwn _ _ o 49 (Mr:=_) hv oY oP ?_
 repeat refine sq ?_;try intro
 exact G.ret rfl (.cons (.cellA rfl rfl) (.cons (.tmp rfl) .nil)) (Φ':=[fRp (.slice a2 _ c2) _]) (M':=[]) oY oN ⟨a2,c2,rfl,rfl,rfl⟩
theorem begin17_spec (code input:List UInt8) (gas:Int) (hr:rightF (bgF code input gas)=true):FnV prog 16 [.string (ba code),.string (ba input),.int .i64 gas] [] (.tuple #[frmV (bgF code input gas) (.slice none 0 0),.int .i64 0]):=by
 have h0:=right17_spec (bgF code input gas) (.slice none 0 0)
 rw [hr] at h0
 have h:FnV prog 21 [frmV (bgF code input gas) (.slice none 0 0)] [fRp (.slice none 0 0) ([]:List Word)] (.bool true):=h0
 refine Fn.enter func16 rfl ntmps16 oI (fun I0 w0 => ?_)
 repeat refine sq ?_;try intro
 refine cV h ?_
 repeat refine sq ?_;try intro
 exact G.ret rfl (.cons (.cellA rfl rfl) (.cons (.tmp rfl) .nil)) (Φ':=[]) (M':=[]) oY oN ⟨rfl,rfl,rfl⟩
end Go.Rail
namespace Go.Rail
open Go Go.Proofs Tryz
set_option maxHeartbeats 400000
set_option maxRecDepth 4000
attribute [local irreducible] OpK G W LW wpListIn Exit.then Exit.inBlock Post rounds opRun bodyPostM intOp
set_option maxHeartbeats 8000000
def awC:List UInt8:=[96,5,96,3,3,0]
def awG:Frm:=⟨awC,[],5,[Word.of (-2)],[],91,[],1,0,[]⟩
theorem aw_right:rightF (bgF awC [] 100)=true:=by kernel_rfl
theorem aw_run:runL keccakL 50 (bgF awC [] 100)=(awG,4):=by kernel_rfl
theorem aw_step:stepL keccakL awG=(awG,50):=by kernel_rfl
def awK:Frm:=⟨[84],[],0,[],[],5,[],0,0,[]⟩
def awM:Frm:=⟨[1],[],0,[],[],5,[],0,0,[]⟩
theorem aw_stepK:stepL keccakL awK=(awK,51):=by kernel_rfl
theorem aw_stepM:stepL keccakL awM=(failF awM 40,0):=by kernel_rfl
theorem aw_loc1:localF 95=true:=by kernel_rfl
theorem aw_loc2:localF 84=false:=by kernel_rfl
theorem aw_Rt1:Rt (bgF awC [] 100):=right_Rt.1 aw_right
theorem aw_Rt2:Rt awG:=right_Rt.1 kR
theorem aw_Rt3:Rt awK:=right_Rt.1 kR
theorem aw_Rt4:Rt awM:=right_Rt.1 kR
theorem awake17_spec:FnV prog 10 [] [fKc] (.bool true):=by
 have c1:=begin_spec awC [] 100 aw_right
 have c2:=fRun_spec (bgF awC [] 100) (.slice none 0 0) 50 oE aw_Rt1
 rw [aw_run] at c2
 have c3:=fun v=>fStep_spec awG v aw_Rt2
 rw [aw_step] at c3
 have c4:=fStep_spec awK (.slice none 0 0) aw_Rt3
 rw [aw_stepK] at c4
 have c5:=fStep_spec awM (.slice none 0 0) aw_Rt4
 rw [aw_stepM] at c5
 have c6:=begin_none [] [] (-1) oE oE oE
 have c7:=of_spec (-2)
 have c8:=fun v u=>samew_spec v u awG.stack [Word.of (-2)] oE
 rw [decide_eq_true (show awG.stack=[Word.of (-2)] from rfl)] at c8
 have c9:=fun v u=>rsame_spec awG v u oE
 have c10:=local_spec 95 oE
 have c11:=local_spec 84 oE
 rw [aw_loc1] at c10
 rw [aw_loc2] at c11
 have c12:=fun v=>fright_spec awG v (right_Rt.2 aw_Rt2)
 refine Fn.enter func10 rfl ntmps10 oI (fun I0 w0 => ?_)
 repeat refine sq ?_;try intro
 refine cV c1 ?_
 repeat refine sq ?_;try intro
 refine OpK.call rfl rfl rfl rfl c2 ⟨fun I hp φ hφ=>by
  rcases List.mem_cons.1 hφ with rfl|hφ
  ·exact Rp.nil none 0
  ·exact hp φ hφ⟩ (Mr:=_) oP ?_
 rintro u Φ' Mc' ⟨a2,k2,rfl,rfl,rfl⟩
 refine nA ?_
 repeat refine sq ?_;try intro
 refine OpK.call rfl rfl rfl rfl (c3 _) oY (Mr:=_) oP ?_
 rintro u Φ' Mc' ⟨a3,k3,rfl,rfl,rfl⟩
 refine nA ?_
 repeat refine sq ?_;try intro
 refine OpK.call rfl rfl rfl rfl c4 ⟨fun I hp φ hφ=>by
  rcases List.mem_cons.1 hφ with rfl|hφ
  ·exact Rp.nil none 0
  ·exact hp φ (.tail _ (.tail _ hφ))⟩ (Mr:=_) oP ?_
 rintro u Φ' Mc' ⟨a4,k4,rfl,rfl,rfl⟩
 refine nA ?_
 repeat refine sq ?_;try intro
 refine OpK.call rfl rfl rfl rfl c5 ⟨fun I hp φ hφ=>by
  rcases List.mem_cons.1 hφ with rfl|hφ
  ·exact Rp.nil none 0
  ·exact hp φ (.tail _ (.tail _ (.tail _ hφ)))⟩ (Mr:=_) oP ?_
 rintro u Φ' Mc' ⟨a5,k5,rfl,rfl,rfl⟩
 refine nA ?_
 repeat refine sq ?_;try intro
 refine cV c6 ?_
 repeat refine sq ?_;try intro
 refine W.drawA 39 (dq _::dq _::dq _::dq _::dq _::dq _::dq _::dq _::dq _::dq _::dq _::dq _::dq _::dq _::(dk fun _ z=>fRp z [Word.of (-2)])::dq _::dq _::dq _::dq _::dq _::dq _::dq _::dq _::dq _::dq _::dq _::dq _::dq _::dq _::dq _::dq _::dq _::dq _::dq _::dq _::dq _::dq _::dq _::dq _::[]) ([]::[0]::[1]::[2]::[2,3]::[2,4]::[5]::[6]::[6,7]::[6,8]::[9]::[10]::[10,11]::[10]::[10,13]::[10,12,14]::[10,15]::[16]::[17]::[17,18]::[17,19]::[17,20]::[21]::[22]::[22,23]::[22,24]::[22,25]::[26]::[27]::[27,28]::[27,29]::[27,30]::[31]::[32]::[32,33]::[32,34]::[35]::[36]::[36]::[]) [36,37,38] (hrest:=fun c=>nrm ?_) (hops:=by
  iterate 13 refine AllQ.aq ?_
  refine AllQ.mk (by intro c z0 Φr Lr K;refine nrm ?_;intro hK;refine cV c7 ?_;exact hK z0) ?_
  refine AllQ.mk (by intro c z0 Φr Lr K;refine nrm ?_;intro hK;refine o_litV (xs:=[Word.of (-2)]) rfl rfl rfl (.cons rfl .nil) oY oY rfl rfl ?_;intro v;exact hK v) ?_
  refine AllQ.mk (by intro c z0 Φr Lr K;refine nrm ?_;intro hK;refine cV (c8 _ _) ?_;exact hK z0) ?_
  iterate 23 refine AllQ.aq ?_
  exact AllQ.nil)
 repeat refine sq ?_;try intro
 refine cV (c9 _ _) ?_
 repeat refine sq ?_;try intro
 refine cV c10 ?_
 repeat refine sq ?_;try intro
 refine cV c11 ?_
 repeat refine sq ?_;try intro
 refine cV (c12 _) ?_
 repeat refine sq ?_;try intro
 refine G.retV ?_
 rfl
end Go.Rail
namespace Go.Rail
open Go Go.Proofs
instance frmTy:GoTy Frm where
 sz:=10
 agg:=true
 rep:=fun I cs f => ∃ sv,cs=frmC f sv∧Rp I sv f.stack
 mono:=fun hl ⟨sv,e,h⟩=>⟨sv,e,h.mono hl⟩
 len:=fun ⟨sv,e,h⟩=>by rw [e];rfl
 one:=fun ⟨sv,e,h⟩=>by
  obtain ⟨_,_,rfl,_⟩:=h.slice
  rw [e];rfl
 agg1:=fun h=>by cases h
theorem Rp.frm {I:Imm} {f:Frm} {sv:Value} (h:Rp I sv f.stack):Rp I (frmV f sv) f:=⟨frmC f sv,rfl,sv,rfl,h⟩
theorem Rp.frm_inv {I:Imm} {f:Frm} {v:Value} (h:Rp I v f) : ∃ sv,v=frmV f sv∧Rp I sv f.stack:=by
 obtain ⟨cs,hv,sv,rfl,hs⟩:=h
 exact ⟨sv,hv,hs⟩
theorem G.frm {x:Cx} {Φ:List Fa} {L:Env} {M:Own} {F:Act→World→Prop} (v:Value) (f:Frm) [k:Ent' Φ (fRp v f)] (h : ∀ a c,v=frmV f (.slice a f.stack.length c)→G x (fRp (.slice a f.stack.length c) f.stack::Φ) L M F):G x Φ L M F:=by
 intro I a w hp hk hw
 obtain ⟨sv,e,hs⟩:=Rp.frm_inv (k.h I hp)
 obtain ⟨ad,cap,rfl,_⟩:=hs.slice
 refine h ad cap e I a w (fun ψ hψ => ?_) hk hw
 rcases List.mem_cons.1 hψ with rfl|hψ
 ·exact hs
 ·exact hp ψ hψ
end Go.Rail
namespace Go.Rail
open Go Go.Proofs Tryz
set_option maxHeartbeats 400000
set_option maxRecDepth 4000
attribute [local irreducible] OpK G W LW wpListIn Exit.then Exit.inBlock Post rounds opRun bodyPostM intOp
def okS (l:List UInt8):Prop:=l.length≤reachBytes
def okN (n:Int):Prop := -9223372036854775808≤n∧n≤9223372036854775807
def okF (f:Frm):Prop:=okS f.code∧okS f.input∧okN f.pc∧f.stack.length≤reachBytes∧okS f.mem∧okN f.gas∧okS f.ret∧okN f.status∧okN f.errno∧okS f.out
theorem rdS:RdH prog 9 ByteArray (fun s=>okS s.data.toList):=RdH.str underlying9
theorem rdI:RdH prog 3 Int okN:=RdH.int underlying3
theorem rdE:RdH prog 24 Int okN:=RdH.int underlying24
theorem rdWd:RdH prog 49 Word (fun _=>True):=RdH.word (e:=47) underlying49 underlying47 kR kR
theorem rdWs:RdH prog 23 (List Word) (fun xs=>xs.length≤reachBytes ∧ ∀ x∈xs,True):=RdH.slice (e:=49) underlying23 kR oE (of_decide_eq_true kR) rdWd
theorem rdFrm:RdH prog 26 Frm okF:=by
 intro H enc W fuel cs d ps h hw
 have hl:=trod_len underlying26 h
 have hc:(prog).cellsOf 26=10:=by kernel_rfl
 obtain ⟨x0,r0,o0⟩:=trod_field underlying26 h hw 0 rfl rdS
 obtain ⟨x1,r1,o1⟩:=trod_field underlying26 h hw 1 rfl rdS
 obtain ⟨x2,r2,o2⟩:=trod_field underlying26 h hw 2 rfl rdI
 obtain ⟨x3,r3,o3⟩:=trod_field underlying26 h hw 3 rfl rdWs
 obtain ⟨x4,r4,o4⟩:=trod_field underlying26 h hw 4 rfl rdS
 obtain ⟨x5,r5,o5⟩:=trod_field underlying26 h hw 5 rfl rdI
 obtain ⟨x6,r6,o6⟩:=trod_field underlying26 h hw 6 rfl rdS
 obtain ⟨x7,r7,o7⟩:=trod_field underlying26 h hw 7 rfl rdI
 obtain ⟨x8,r8,o8⟩:=trod_field underlying26 h hw 8 rfl rdE
 obtain ⟨x9,r9,o9⟩:=trod_field underlying26 h hw 9 rfl rdS
 match cs,(hl.trans hc) with
 | [v0,v1,v2,v3,v4,v5,v6,v7,v8,v9],_ =>
  have e0:[v0]=[Value.string x0]:=r0
  obtain rfl:=(List.cons.inj e0).1
  have e1:[v1]=[Value.string x1]:=r1
  obtain rfl:=(List.cons.inj e1).1
  have e2:[v2]=[Value.int .i64 x2]:=r2
  obtain rfl:=(List.cons.inj e2).1
  have e3:Rp (fun b=>W.heap[b]?) v3 x3:=by
   obtain ⟨x,y,hx,hy⟩:=r3
   have hx:[v3]=_:=hx
   obtain rfl:=(List.cons.inj hx).1
   exact Rp.mkSlice hy rfl
  have e4:[v4]=[Value.string x4]:=r4
  obtain rfl:=(List.cons.inj e4).1
  have e5:[v5]=[Value.int .i64 x5]:=r5
  obtain rfl:=(List.cons.inj e5).1
  have e6:[v6]=[Value.string x6]:=r6
  obtain rfl:=(List.cons.inj e6).1
  have e7:[v7]=[Value.int .i64 x7]:=r7
  obtain rfl:=(List.cons.inj e7).1
  have e8:[v8]=[Value.int .i64 x8]:=r8
  obtain rfl:=(List.cons.inj e8).1
  have e9:[v9]=[Value.string x9]:=r9
  obtain rfl:=(List.cons.inj e9).1
  refine ⟨⟨x0.data.toList,x1.data.toList,x2,x3,x4.data.toList,x5,x6.data.toList,x7,x8,x9.data.toList⟩,⟨v3,rfl,e3⟩,o0,o1,o2,o3.1,o4,o5,o6,o7,o8,o9⟩
end Go.Rail
