/- frame.Local, frame.step. -/
import Derived.Test.YtjhdodkagchhkaaGreatDoorRailA
import Derived.Test.YtjhdodkagchhkaaGreatDoorRailI
import Derived.Test.YtjhdodkagchhkaaGreatDoorAFP
import Derived.Test.YtjhdodkagchhkaaGreatDoorRailJ
import Derived.Test.YtjhdodkagchhkaaGreatDoorAF1P1
set_option linter.unusedSimpArgs false
set_option linter.unusedVariables false
namespace Go.Rail
open Go Go.Proofs Tryz
set_option maxHeartbeats 400000
set_option maxRecDepth 4000
attribute [local irreducible] OpK G W LW wpListIn Exit.then Exit.inBlock Post rounds opRun bodyPostM intOp
set_option maxHeartbeats 2000000
instance:FnTy prog 120:=⟨by kernel_rfl,by kernel_rfl⟩
instance:FnTy prog 121:=⟨by kernel_rfl,by kernel_rfl⟩
theorem local_spec (op:Nat) (hop:op<256):FnV prog 59 [.int .u8 (op:Int)] [] (.bool (localF op)):=by
 have h1:=info_spec op hop
 have h2:=find_spec op hop
 have e:localF op=(foundF op || !(infoN op).isSome||decide (op=254)):=by
  unfold localF
  cases infoN op<;>rfl
 unfold infoV at h1
 rw [e]
 generalize (infoN op).getD noRow=r at h1
 generalize (infoN op).isSome=is at h1 ⊢
 refine Fn.enter func59 rfl ntmps59 oI (fun I0 w0 => ?_)
 repeat refine sq ?_;try intro
 refine cV h1 ?_
 repeat refine sq ?_;try intro
 refine OpK.call rfl rfl rfl rfl h2 oY (Mr:=_) oP ?_
 rintro u Φ' Mc' ⟨v1,v2,v3,rfl,ho,rfl,ha⟩
 haveI:Whole (.agg #[v1,v2,v3]) 3:=⟨⟨[v1,v2,v3],rfl,rfl,ho⟩⟩
 rw [List.append_nil,List.nil_append]
 refine G.weaken (Φ':=[]) ?_ (fun φ hφ=>(List.not_mem_nil hφ).elim) (fun _ _ h=>h) oZ
 clear ha h2
 generalize foundF op=fo
 cases fo
 ·cases is
  ·repeat refine sq ?_;try intro
   refine G.retV ?_
   simp [tup]
  ·by_cases h254:op=254
   ·rw [decide_eq_true h254]
    repeat refine sq ?_;try intro
    refine G.retV ?_
    simp [tup]
   ·rw [decide_eq_false h254]
    repeat refine sq ?_;try intro
    refine G.retV ?_
    simp [tup]
 ·repeat refine sq ?_;try intro
  refine G.retV ?_
  simp [tup]
def RFd (f:Frm):Value→List Fa→Own→Prop:=fun u Φ' M' => ∃ a c,u=frmV f (.slice a f.stack.length c)∧Φ'=[fRp (.slice a f.stack.length c) f.stack]∧M'=[]
abbrev frmC (f:Frm) (sv:Value):List Value:=[.string (ba f.code),.string (ba f.input),.int .i64 f.pc,sv,.string (ba f.mem),.int .i64 f.gas,.string (ba f.ret),.int .i64 f.status,.int .i64 f.errno,.string (ba f.out)]
theorem trimF_le (l:List UInt8):(trimF l).length≤l.length:=(List.dropWhile_sublist _).length_le
theorem wordsF_le (n:Nat):wordsF n≤40000:=by unfold wordsF manyF;omega
theorem moreF_le (op:Nat) (l:List Word):moreF op l≤1000000000:=by
 unfold moreF
 have h1:=trimF_le (byN (l.getD 1 .zero).num)
 rw [byN_len] at h1
 have h2:=wordsF_le (numF (l.getD 1 .zero))
 have h3:=wordsF_le (numF (l.getD 2 .zero))
 split
 ·omega
 ·split
  ·omega
  ·split<;>omega
theorem hs2 {φ1 φ2 φ3 φ4:Fa} (Φx:List Fa) (φ:Fa) (h:φ∈[φ3,φ1]):φ∈φ1::φ2::φ3::φ4::Φx:=by
 rcases List.mem_cons.1 h with rfl|h
 ·exact .tail _ (.tail _ (.head _))
 ·rcases List.mem_cons.1 h with rfl|h
  ·exact .head _
  ·exact (List.not_mem_nil h).elim
theorem payF_paid {f p:Frm} {op more:Nat} {sp:List (Word × Word)} (hop:op<256) (hfo:foundF op=true) (t1:(infoN op).isSome=true) (h:Rt f) (hs:f.status=0) (hpc:f.pc<f.code.length) (t3:popsN op≤f.stack.length) (t4:f.stack.length+pushN' op≤1024+popsN op) (hp:payF f op more sp=some p):Paid p op:=by
 obtain ⟨a1,a2,a3,a4,a5,a6,a7,a8,a9,a10,a11,a12,a13,a14,a15⟩:=h
 have ho:f.out=[]:=by rcases a15 with h|h|h<;>first|exact h|omega
 have he:f.errno=0:=by
  by_cases h0:f.errno=0
  ·exact h0
  ·have:=a14.1 h0;omega
 obtain ⟨c1,c2⟩:=chkG_at hop hfo t1
 unfold payF at hp
 split at hp
 ·cases hp
 ·rename_i words hw
  split at hp
  ·cases hp
  ·rename_i hg
   obtain ⟨r1,r2⟩:=reachF_le _ _ _ hw
   have r2:=r2 oM
   have hm:=costF_mono r1
   injection hp with hp
   subst hp
   have hgl:=growF_len f.mem words
   refine ⟨a1,a2,a3,ho,by show 1≤f.pc+1;omega,by show f.pc+1≤(f.code.length:Int);omega,by dsimp only;omega,by dsimp only;omega,?_,?_,by dsimp only;omega,by dsimp only;omega,hs,he⟩
   ·dsimp only
    split
    ·exact a9
    ·rw [List.length_take];omega
   ·intro hc hpu
    have:=c2 hc hpu
    dsimp only
    rw [if_neg (by rw [hc];decide),List.length_take]
    omega
theorem hs3 {φ1 φ2 φ3 φ4 φ5:Fa} {Φx:List Fa} (φ:Fa) (h:φ∈φ1::φ3::φ5::Φx):φ∈φ1::φ2::φ3::φ4::φ5::Φx:=by
 rcases List.mem_cons.1 h with rfl|h
 ·exact .head _
 ·rcases List.mem_cons.1 h with rfl|h
  ·exact .tail _ (.tail _ (.head _))
  ·exact .tail _ (.tail _ (.tail _ (.tail _ h)))
theorem step_spec (f:Frm) (sv:Value) (op:Nat) (v1 v2 v3:Value) (Φx:List Fa) (hop:op<256) (hr:Rt f) (hst:f.status=0) (hpc:f.pc<f.code.length) (hl:localF op=true) (ho:ones [v1,v2,v3]=true) (ha:foundF op=true→ActOK op (.agg #[v1,v2,v3]) Φx) :
  Fn prog 60 [frmV f sv,.int .u8 (op:Int),.agg #[v1,v2,v3]] (fRp sv f.stack::fKc::Φx) [] (RFd (stepF keccakL f op)):=by
 have hr0:=hr
 obtain ⟨a1,a2,a3,a4,a5,a6,a7,a8,a9,a10,a11,a12,a13,a14,a15⟩:=hr
 have h1:=fun v=>take_spec f v op hop oM
 unfold stepF
 by_cases he:(takeF f.stack op).2≠0
 ·rw [if_pos he]
  have hf:=fun v e=>fail_spec f e v oM
  generalize takeF f.stack op=q at h1 he ⊢
  obtain ⟨l,e⟩:=q
  dsimp only at he ⊢
  refine Fn.enter func60 rfl ntmps60 oI (fun I0 w0 => ?_)
  refine W.bare (G.slice sv f.stack ?_)
  intro a1 c1 e1 k1
  subst e1
  haveI:Whole (.agg #[v1,v2,v3]) 3:=⟨⟨[v1,v2,v3],rfl,rfl,ho⟩⟩
  repeat refine sq ?_;try intro
  refine OpK.call rfl rfl rfl rfl (h1 _) oY (Mr:=_) oP ?_
  rintro u Φ' Mc' ⟨v,rfl,rfl,rfl⟩
  refine nB ?_
  repeat refine sq ?_;try intro
  refine OpK.call rfl rfl rfl rfl (hf _ _) oY (Mr:=_) oP ?_
  rintro u Φ' Mc' ⟨v5,o,hv,rfl,rfl,rfl⟩
  obtain ⟨a2,c2,rfl⟩:=own_open hv
  refine nA ?_
  refine G.giveOwn _ _ o 24 (Mr:=_) hv oY oP ?_
  repeat refine sq ?_;try intro
  exact G.ret rfl (.cons (.cellA rfl rfl) .nil) (Φ':=[fRp (.slice a2 _ c2) _]) (M':=[]) oY oN ⟨a2,c2,rfl,rfl,rfl⟩
 ·have ht0:(takeF f.stack op).2=0:=by omega
  rw [if_neg he]
  obtain ⟨t1,t2,t3,t4,t5⟩:=takeF_ok ht0
  have hfo:foundF op=true:=by
   unfold localF at hl
   rw [Bool.or_eq_true,Bool.or_eq_true] at hl
   rcases hl with (hl|hl)|hl
   ·exact hl
   ·cases hx:infoN op with
    | none=>rw [hx] at t1;cases t1
    | some r=>rw [hx] at hl;cases hl
   ·exact absurd (of_decide_eq_true hl) t2
  obtain ⟨fd,cd,more,reach,e0,hfn,hdo,hmo,hre⟩:=ha hfo
  obtain ⟨e1,e2,e3⟩:v1 = .func (.func fd) #[] cd.toArray∧v2=more∧v3=reach:=by simpa using e0
  subst e1;subst e2;subst e3
  have hll:(takeF f.stack op).1.length=popsN op:=by rw [t5,List.length_reverse,List.length_drop];omega
  generalize hl2:(takeF f.stack op).1=l at h1 hll ⊢
  have hq:takeF f.stack op=(l,0):=by rw [← hl2,← ht0]
  rw [hq] at h1
  refine Fn.enter func60 rfl ntmps60 oI (fun I0 w0 => ?_)
  refine W.bare (G.slice sv f.stack ?_)
  intro a1 c1 e1 k1
  subst e1
  haveI:Whole (.agg #[.func (.func fd) #[] cd.toArray,v2,v3]) 3:=⟨⟨[_,v2,v3],rfl,rfl,ho⟩⟩
  repeat refine sq ?_;try intro
  rename_i b3 b5 b6
  refine OpK.call rfl rfl rfl rfl (h1 _) oY (Mr:=_) oP ?_
  rintro u Φ' Mc' ⟨v,rfl,rfl,rfl⟩
  refine nB ?_
  refine G.slice v l ?_
  intro ad7 c7 e7 k7
  subst e7
  repeat refine sq ?_;try intro
  have hk2:fnOk v2=true:=by rcases hmo with ⟨rfl,_⟩|⟨g,cg,rfl,_⟩<;>rfl
  have hk3:fnOk v3=true:=by rcases hre with ⟨rfl,_⟩|⟨g,cg,rfl,_⟩<;>rfl
  refine o_neFn rfl rfl rfl rfl hk2 rfl ?_
  repeat refine sq ?_;try intro
  have hsub : ∀ φ∈fRp (.slice ad7 l.length c7) l::Φx,φ∈fRp (.slice ad7 l.length c7) l::fRp (.slice a1 f.stack.length c1) f.stack::fKc::Φx:=by
   intro φ hφ
   rcases List.mem_cons.1 hφ with rfl|hφ
   ·exact .head _
   ·exact .tail _ (.tail _ (.tail _ hφ))
  refine W.cutThen (fRp (.slice ad7 l.length c7) l::fRp (.slice a1 f.stack.length c1) f.stack::fKc::Φx) [(9,.int .i64 ((moreF op l:Nat):Int)),(10,.slice none 0 0),(7,.slice ad7 l.length c7),(1,.int .u8 (op:Int)),(3,.pointer (some ⟨b3,0,none⟩)),(5,.pointer (some ⟨b5,0,none⟩)),(6,.pointer (some ⟨b6,0,none⟩))] [(b6,Ob (frmC (bgF [] [] 0) (.slice none 0 0)) 32),(b5,Ob [.func (.func fd) #[] cd.toArray,v2,v3] 123),(b3,Ob (frmC f (.slice a1 f.stack.length c1)) 32)] ?_ ?_
  ·rcases hmo with ⟨rfl,hm⟩|⟨g,cg,rfl,hg,hm⟩
   ·rw [hm l]
    repeat refine sq ?_;try intro
    exact G.kpA (hΦ:=⟨fun I hp=>hp⟩)
   ·repeat refine sq ?_;try intro
    refine o_callV (cap:=cg) rfl rfl rfl rfl (hm (.slice ad7 l.length c7) l hll) rfl (hΦ := .mem hsub) ?_
    repeat refine sq ?_;try intro
    exact G.kpA (hΦ:=⟨fun I hp=>hp⟩)
  repeat refine sq ?_;try intro
  refine o_neFn rfl rfl rfl rfl hk3 rfl ?_
  repeat refine sq ?_;try intro
  refine W.cutE (S:=Value × List Spn) (fun s=>(fRp s.1 s.2::fRp (.slice ad7 l.length c7) l::fRp (.slice a1 f.stack.length c1) f.stack::fKc::Φx,[(9,.int .i64 ((moreF op l:Nat):Int)),(10,s.1),(7,.slice ad7 l.length c7),(1,.int .u8 (op:Int)),(3,.pointer (some ⟨b3,0,none⟩)),(5,.pointer (some ⟨b5,0,none⟩)),(6,.pointer (some ⟨b6,0,none⟩))],[(b6,Ob (frmC (bgF [] [] 0) (.slice none 0 0)) 32),(b5,Ob [.func (.func fd) #[] cd.toArray,v2,v3] 123),(b3,Ob (frmC f (.slice a1 f.stack.length c1)) 32)])) (fun s=>prs s.2=spanF op l∧s.2.length≤1) ?_ ?_
  ·rcases hre with ⟨rfl,hm⟩|⟨g,cg,rfl,hg,hm⟩
   ·repeat refine sq ?_;try intro
    exact G.kpE (.slice none 0 0,[]) ⟨(hm l).symm,Nat.zero_le _⟩ ⟨fun I hp φ hφ=>by
     rcases List.mem_cons.1 hφ with rfl|hφ
     ·exact Rp.nil none 0
     ·exact hp φ hφ⟩ (by (repeat (first|exact lN|refine lC rfl ?_))) oZ
   ·obtain ⟨s,hs,hc⟩:=hm (.slice ad7 l.length c7) l hll
    repeat refine sq ?_;try intro
    refine o_callV (cap:=cg) rfl rfl rfl rfl hc rfl (hΦ := .mem hsub) ?_
    repeat refine sq ?_;try intro
    refine o_litV (xs:=[s]) rfl rfl rfl (.cons rfl .nil) oY oY rfl rfl ?_
    intro u1
    repeat refine sq ?_;try intro
    refine o_app2 (α:=Spn) (bytes:=64) none (xs:=[]) (ys:=[s]) (Mr:=_) ⟨rfl,rfl⟩ ⟨by simp,by simp,rfl⟩ rfl rfl rfl rfl ⟨fun _ _=>⟨by simp,fun k hk=>by cases hk⟩⟩ ⟨fun I hp=>hp _ (.head _)⟩ (by rw [show ownM 198 none=[] from rfl,List.append_nil]) ?_
    intro v' o' hv'
    dsimp only [List.nil_append] at hv' ⊢
    refine G.giveOwn2 v' [s] o' 198 (Mr:=_) hv' oY oP ?_
    repeat refine sq ?_;try intro
    exact G.kpE (v',[s]) ⟨hs.symm,Nat.le_refl _⟩ (.mem fun φ hφ=>by
     rcases List.mem_cons.1 hφ with rfl|hφ
     ·exact .head _
     ·exact .tail _ (.tail _ (.tail _ hφ))) (by (repeat (first|exact lN|refine lC rfl ?_))) oZ
  rintro ⟨v9,xs⟩ ⟨hxs,hx1⟩
  dsimp only at hxs hx1 ⊢
  have hmb:moreF op l≤1000000000:=moreF_le op l
  cases hpf:payF f op (moreF op l) (spanF op l) with
  | none =>
   have hpay:=fun w=>pay_none f w v9 op (moreF op l) xs hop (by rw [hxs];exact hpf) a10 hmb a7 oM oM
   have hf:=fun v=>fail_spec f 43 v oM
   dsimp only
   repeat refine sq ?_;try intro
   refine OpK.call rfl rfl rfl rfl (hpay _) (.mem (hs2 _)) (Mr:=_) oP ?_
   rintro u Φ' Mc' ⟨a5,c5,rfl,rfl,rfl⟩
   refine nB ?_
   repeat refine sq ?_;try intro
   refine OpK.call rfl rfl rfl rfl (hf _) oY (Mr:=_) oP ?_
   rintro u Φ' Mc' ⟨v5,o,hv,rfl,rfl,rfl⟩
   obtain ⟨a2,c2,rfl⟩:=own_open hv
   refine nA ?_
   refine G.giveOwn _ _ o 24 (Mr:=_) hv oY oP ?_
   repeat refine sq ?_;try intro
   exact G.ret rfl (.cons (.cellA rfl rfl) .nil) (Φ':=[fRp (.slice a2 _ c2) _]) (M':=[]) oY oN ⟨a2,c2,rfl,rfl,rfl⟩
  | some p =>
   have hpay:=fun w=>pay_some f w v9 op (moreF op l) xs p hop (by rw [hxs];exact hpf) a10 a11 oM t3 hmb a7 oM a5 oM oM
   have hpaid:=payF_paid hop hfo t1 hr0 hst hpc t3 t4 hpf
   have hf:=fun v e=>fail_spec f e v oM
   have hdd:=hdo
   dsimp only
   repeat refine sq ?_;try intro
   refine OpK.call rfl rfl rfl rfl (hpay _) (.mem (hs2 _)) (Mr:=_) oP ?_
   rintro u Φ' Mc' ⟨v5,o,hv,rfl,rfl,rfl⟩
   obtain ⟨a2,c2,rfl⟩:=own_open hv
   refine nA ?_
   refine G.perm ?_ oH
   refine nA ?_
   repeat refine sq ?_;try intro
   rename_i b11 b13
   refine OpK.call (cap:=cd) rfl rfl rfl rfl (hdo b13 p (.slice a2 p.stack.length c2) (.slice ad7 l.length c7) l o hpaid hll (fun _=>Option.isSome_iff_exists.1 t1) hv) (.mem hs3) (Mr:=[_,_,_,_]) (.cons _ (oH (l₁:=[_,_,_,_]))) ?_
   rintro u Φ' Mc' ⟨a9,c9,rfl,rfl,rfl⟩
   refine nA ?_
   generalize doF keccakL op p l=q
   obtain ⟨q1,q2⟩:=q
   dsimp only
   by_cases hw:q2≠0
   ·rw [if_pos hw]
    repeat refine sq ?_;try intro
    refine W.drawA 5 [dq _,dq _,dq _,dq _,dq _] [[],[],[1],[2],[3]] [0,4] (hrest:=fun c=>nrm ?_) (hops:=by
     iterate 5 refine AllQ.aq ?_
     exact AllQ.nil)
    repeat refine sq ?_;try intro
    refine OpK.call rfl rfl rfl rfl (hf _ _) oY (Mr:=_) oP ?_
    rintro u Φ' Mc' ⟨v5,o,hv,rfl,rfl,rfl⟩
    obtain ⟨a2,c2,rfl⟩:=own_open hv
    refine nA ?_
    refine G.giveOwn _ _ o 24 (Mr:=_) hv oY oP ?_
    repeat refine sq ?_;try intro
    exact G.ret rfl (.cons (.cellA rfl rfl) .nil) (Φ':=[fRp (.slice a2 _ c2) _]) (M':=[]) oY oN ⟨a2,c2,rfl,rfl,rfl⟩
   ·rw [if_neg hw]
    obtain rfl:q2=0:=by omega
    repeat refine sq ?_;try intro
    exact G.ret rfl (.cons (.cellA rfl rfl) .nil) (Φ':=[fRp (.slice a9 _ c9) _]) (M':=[]) oY oN ⟨a9,c9,rfl,rfl,rfl⟩
end Go.Rail
namespace Go.Rail
open Go Go.Proofs Tryz
set_option maxHeartbeats 400000
set_option maxRecDepth 4000
attribute [local irreducible] OpK G W LW wpListIn Exit.then Exit.inBlock Post rounds opRun bodyPostM intOp
set_option maxHeartbeats 2000000
def RStep (p:Frm × Int):Value→List Fa→Own→Prop:=fun u Φ' M' => ∃ a c,u = .tuple #[frmV p.1 (.slice a p.1.stack.length c),.int .i64 p.2]∧Φ'=[fRp (.slice a p.1.stack.length c) p.1.stack]∧M'=[]
theorem fStep_spec (f:Frm) (sv:Value) (hr:Rt f):Fn prog 22 [frmV f sv] [fRp sv f.stack,fKc] [] (RStep (stepL keccakL f)):=by
 have hrr:=right_Rt.2 hr
 have hr0:=hr
 obtain ⟨a1,a2,a3,a4,a5,a6,a7,a8,a9,a10,a11,a12,a13,a14,a15⟩:=hr
 have h1:=fun v=>fright_spec f v hrr
 have h2:=fun v=>own_spec f v oM
 unfold stepL
 rw [hrr,if_neg (show ¬ true=false by decide)]
 by_cases hs:f.status≠0
 ·rw [if_pos hs]
  refine Fn.enter func22 rfl ntmps22 oI (fun I0 w0 => ?_)
  refine W.bare (G.slice sv f.stack ?_)
  intro a1 c1 e1 k1
  subst e1
  repeat refine sq ?_;try intro
  refine cV (h1 _) ?_
  repeat refine sq ?_;try intro
  refine OpK.call rfl rfl rfl rfl (h2 _) oY (Mr:=_) oP ?_
  rintro u Φ' Mc' ⟨v5,o,hv,rfl,rfl,rfl⟩
  obtain ⟨a2,c2,rfl⟩:=own_open hv
  refine nA ?_
  refine G.giveOwn _ _ o 24 (Mr:=_) hv oY oP ?_
  repeat refine sq ?_;try intro
  exact G.ret rfl (.cons (.cellA rfl rfl) (.cons (.tmp rfl) .nil)) (Φ':=[fRp (.slice a2 _ c2) _]) (M':=[]) oY oN ⟨a2,c2,rfl,rfl,rfl⟩
 rw [if_neg hs]
 have hs0:f.status=0:=by omega
 by_cases hp:(f.code.length:Int)≤f.pc
 ·rw [if_pos hp]
  refine Fn.enter func22 rfl ntmps22 oI (fun I0 w0 => ?_)
  refine W.bare (G.slice sv f.stack ?_)
  intro a1 c1 e1 k1
  subst e1
  repeat refine sq ?_;try intro
  refine cV (h1 _) ?_
  repeat refine sq ?_;try intro
  refine OpK.call rfl rfl rfl rfl (h2 _) oY (Mr:=_) oP ?_
  rintro u Φ' Mc' ⟨v5,o,hv,rfl,rfl,rfl⟩
  obtain ⟨a2,c2,rfl⟩:=own_open hv
  refine nA ?_
  refine G.giveOwn _ _ o 24 (Mr:=_) hv oY oP ?_
  repeat refine sq ?_;try intro
  exact G.ret rfl (.cons (.cellA rfl rfl) (.cons (.tmp rfl) .nil)) (Φ':=[fRp (.slice a2 _ c2) _]) (M':=[]) oY oN ⟨a2,c2,rfl,rfl,rfl⟩
 rw [if_neg hp]
 have hlt:f.pc.toNat<f.code.length:=by omega
 have hix:f.code[f.pc.toNat]? = some (f.code.getD f.pc.toNat 0):=by
  rw [List.getD_eq_getElem?_getD,List.getElem?_eq_getElem hlt];rfl
 generalize f.code.getD f.pc.toNat 0=ch at hix ⊢
 have hch:ch.toNat<256:=UInt8.toNat_lt _
 have h3:=find_spec ch.toNat hch
 have h4:=local_spec ch.toNat hch
 by_cases hl:localF ch.toNat=false
 ·rw [if_pos hl]
  rw [hl] at h4
  refine Fn.enter func22 rfl ntmps22 oI (fun I0 w0 => ?_)
  refine W.bare (G.slice sv f.stack ?_)
  intro a1 c1 e1 k1
  subst e1
  repeat refine sq ?_;try intro
  refine cV (h1 _) ?_
  repeat refine sq ?_;try intro
  refine o_ixG f.pc.toNat ch rfl rfl rfl rfl oM hix ?_
  repeat refine sq ?_;try intro
  refine OpK.call rfl rfl rfl rfl h3 oY (Mr:=_) oP ?_
  rintro u Φ' Mc' ⟨v1,v2,v3,rfl,ho,rfl,ha⟩
  haveI:Whole (.agg #[v1,v2,v3]) 3:=⟨⟨[v1,v2,v3],rfl,rfl,ho⟩⟩
  rw [List.nil_append]
  refine G.weaken (Φ':=[fRp (.slice a1 f.stack.length c1) f.stack,fKc]) ?_ (fun φ hφ=>List.mem_append_right _ hφ) (fun _ _ h=>h) oZ
  repeat refine sq ?_;try intro
  refine cV h4 ?_
  repeat refine sq ?_;try intro
  refine OpK.call rfl rfl rfl rfl (h2 _) oY (Mr:=_) oP ?_
  rintro u Φ' Mc' ⟨v5,o,hv,rfl,rfl,rfl⟩
  obtain ⟨a2,c2,rfl⟩:=own_open hv
  refine nA ?_
  refine G.giveOwn _ _ o 24 (Mr:=_) hv oY oP ?_
  repeat refine sq ?_;try intro
  exact G.ret rfl (.cons (.cellA rfl rfl) (.cons (.tmp rfl) .nil)) (Φ':=[fRp (.slice a2 _ c2) _]) (M':=[]) oY oN ⟨a2,c2,rfl,rfl,rfl⟩
 ·rw [if_neg hl]
  have hl:localF ch.toNat=true:=by simpa using hl
  rw [hl] at h4
  refine Fn.enter func22 rfl ntmps22 oI (fun I0 w0 => ?_)
  refine W.bare (G.slice sv f.stack ?_)
  intro a1 c1 e1 k1
  subst e1
  repeat refine sq ?_;try intro
  refine cV (h1 _) ?_
  repeat refine sq ?_;try intro
  refine o_ixG f.pc.toNat ch rfl rfl rfl rfl oM hix ?_
  repeat refine sq ?_;try intro
  refine OpK.call rfl rfl rfl rfl h3 oY (Mr:=_) oP ?_
  rintro u Φ' Mc' ⟨v1,v2,v3,rfl,ho,rfl,ha⟩
  haveI:Whole (.agg #[v1,v2,v3]) 3:=⟨⟨[v1,v2,v3],rfl,rfl,ho⟩⟩
  have h5:=fun w=>step_spec f w ch.toNat v1 v2 v3 Φ' hch hr0 hs0 oM hl ho ha
  rw [List.nil_append]
  refine G.weaken (Φ':=fRp (.slice a1 f.stack.length c1) f.stack::fKc::Φ') ?_ (fun φ hφ => ?_) (fun _ _ h=>h) oZ
  ·repeat refine sq ?_;try intro
   refine o_callV rfl rfl rfl rfl h4 rfl (hΦ:=⟨fun I hp φ hφ=>(List.not_mem_nil hφ).elim⟩) ?_
   repeat refine sq ?_;try intro
   refine OpK.call rfl rfl rfl rfl (h5 _) ⟨fun I hp=>hp⟩ (Mr:=_) oP ?_
   rintro u Φ2 Mc' ⟨a2,c2,rfl,rfl,rfl⟩
   refine nA ?_
   repeat refine sq ?_;try intro
   exact G.ret rfl (.cons (.cellA rfl rfl) (.cons (.tmp rfl) .nil)) (Φ':=[fRp (.slice a2 _ c2) _]) (M':=[]) oY oN ⟨a2,c2,rfl,rfl,rfl⟩
  ·rcases List.mem_cons.1 hφ with rfl|hφ
   ·exact List.mem_append_right _ (.head _)
   ·rcases List.mem_cons.1 hφ with rfl|hφ
    ·exact List.mem_append_right _ (.tail _ (.head _))
    ·exact List.mem_append_left _ hφ
end Go.Rail
