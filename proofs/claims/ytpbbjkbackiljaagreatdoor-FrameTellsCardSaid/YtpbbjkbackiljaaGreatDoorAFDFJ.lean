/- frame.Reach. -/
import Derived.Test.YtpbbjkbackiljaaGreatDoorRailA
import Derived.Test.YtpbbjkbackiljaaGreatDoorRailI
import Derived.Test.YtpbbjkbackiljaaGreatDoorRailJ
import Derived.Test.YtpbbjkbackiljaaGreatDoorAF9FC
set_option linter.unusedSimpArgs false
set_option linter.unusedVariables false
namespace Go.Rail
open Go Go.Proofs Tryz
set_option maxHeartbeats 400000
set_option maxRecDepth 4000
attribute [local irreducible] OpK G W LW wpListIn Exit.then Exit.inBlock Post rounds opRun bodyPostM intOp
set_option maxHeartbeats 1000000
theorem costF_max (n:Nat):costF n≤3000000:=by
 unfold costF
 have h1:min n 32768≤32768:=Nat.min_le_right _ _
 have h2:min n 32768*min n 32768≤32768*32768:=Nat.mul_le_mul h1 h1
 omega
attribute [local irreducible] costF
theorem reachF_app : ∀ (a b:List (Word × Word)) (h:Nat),reachF h (a++b)=(reachF h a).bind fun w=>reachF w b
 | [],b,h=>rfl
 | s::r,b,h=>by
  simp only [List.cons_append,reachF]
  cases needF s.1 s.2 with
  | none=>rfl
  | some n=>exact reachF_app r b (max h n)
theorem needF_max {a n:Word} {k:Nat} (h:needF a n=some k):k≤32768:=by
 unfold needF at h
 split at h
 ·cases h;decide
 ·split at h
  ·next h2=>cases h;have:=h2.1;omega
  ·cases h
def prs (xs:List Spn):List (Word × Word):=xs.map fun s=>(s.at_,s.n)
theorem reachF_step (xs:List Spn) (h k w:Nat) (hk:k<xs.length) (hw:reachF h (prs (xs.take k))=some w):reachF h (prs (xs.take (k+1)))=(match needF xs[k].at_ xs[k].n with|some n=>some (max w n)|none=>none):=by
 rw [List.take_succ_eq_append_getElem hk]
 unfold prs at hw ⊢
 rw [List.map_append,reachF_app,hw]
 show reachF w [(xs[k].at_,xs[k].n)]=_
 simp only [reachF]
 cases needF xs[k].at_ xs[k].n<;>rfl
theorem reachF_none (xs:List Spn) (h k:Nat) (hk:reachF h (prs (xs.take k))=none):reachF h (prs xs)=none:=by
 conv=>lhs;rw [← List.take_append_drop k xs]
 unfold prs at hk ⊢
 rw [List.map_append,reachF_app,hk];rfl
def reachV (had:Nat):Option Nat→Value
 | none => .tuple #[.int .i64 0,.int .i64 (had:Int),.bool false]
 | some w => .tuple #[.int .i64 ((costF w:Int)-(costF had:Int)),.int .i64 (w:Int),.bool true]
theorem reach_spec (m:List UInt8) (v:Value) (xs:List Spn) (hm:m.length≤1048576) (h1:xs.length≤1000000):FnV prog 124 [.string (ba m),v] [fRp v xs] (reachV (m.length/32) (reachF (m.length/32) (prs xs))):=by
 have hhad:m.length/32≤32768:=by omega
 refine Fn.enter func124 rfl ntmps124 oI (fun I0 w0 => ?_)
 repeat refine sq ?_;try intro
 refine OpK.call rfl rfl rfl rfl (reached_spec v xs) oY (Mr:=_) oP ?_
 rintro u Φ' Mc' ⟨b,rfl,rfl,rfl⟩
 refine nB ?_
 repeat refine sq ?_;try intro
 rename_i b4 b5 b6 b7
 generalize hh:m.length/32=had at hhad ⊢
 refine W.rangeFuncR (enc:=xs.map fun s=>[.int .i64 (needI s)]) (ps:=[15]) (Φi:=[fBlk b [v] 100,fRp v xs]) (Mr:=[]) (fun k s => ∃ w:Nat,reachF had (prs (xs.take k))=some w∧w≤32768∧s=([],[(b7,Ob [.int .i64 (had:Int)] 3),(b6,Ob [.bool false] 4),(b5,Ob [.int .i64 (w:Int)] 3),(b4,Ob [.int .i64 0] 3)])) (fun c s=>c = .ret∧reachF had (prs xs)=none∧s=([],[(b7,Ob [.int .i64 (had:Int)] 3),(b6,Ob [.bool false] 4),(b5,Ob [.int .i64 (had:Int)] 3),(b4,Ob [.int .i64 0] 3)])) rfl (reached1_spec b v xs h1) oE (by intro vs h;obtain ⟨p,_,rfl⟩:=List.mem_map.1 h;rfl) oY ([],[(b7,Ob [.int .i64 (had:Int)] 3),(b6,Ob [.bool false] 4),(b5,Ob [.int .i64 (had:Int)] 3),(b4,Ob [.int .i64 0] 3)]) ⟨had,rfl,hhad,rfl⟩ oY oP ?_ ?_ ?_
 ·rintro y rec I0' w0' k hk _ ⟨w,hw,hw2,rfl⟩
  rw [List.length_map] at hk
  have hst:=reachF_step xs had k w hk hw
  have he:(xs.map fun s=>[Value.int .i64 (needI s)])[k]'(by rw [List.length_map];exact hk)=[.int .i64 (needI xs[k])]:=by simp
  dsimp only
  rw [he]
  unfold needI
  cases hq:needF xs[k].at_ xs[k].n with
  | none =>
   rw [hq] at hst
   have hno:=reachF_none xs had (k+1) hst
   show W _ _ _ _ ((15,.int .i64 (-1))::_) _
   repeat refine sq ?_;try intro
   refine G.begin (by rfl) ?_
   repeat refine sq ?_;try intro
   refine W.drawSt 2 1 b4 (Ob [.int .i64 0] 3) [dq _,(dq fun _ _ => .bool false)] [[],[]] [0] (hrest:=fun c=>nrmX ?_) (hops:=by
    iterate 2 refine AllX.au ?_
    exact AllX.end)
   repeat refine sq ?_;try intro
   exact G.roundRet oY (Φ':=[]) (M'':=[(b7,Ob [.int .i64 (had:Int)] 3),(b6,Ob [.bool false] 4),(b5,Ob [.int .i64 (had:Int)] 3),(b4,Ob [.int .i64 0] 3)]) (.inr ⟨rfl,.ret,([],[(b7,Ob [.int .i64 (had:Int)] 3),(b6,Ob [.bool false] 4),(b5,Ob [.int .i64 (had:Int)] 3),(b4,Ob [.int .i64 0] 3)]),⟨rfl,hno,rfl⟩,rfl⟩) ⟨fun I hp φ hφ=>hp φ (by simp at hφ)⟩ oZ
  | some n =>
   rw [hq] at hst
   have hn:=needF_max hq
   show W _ _ _ _ ((15,.int .i64 (n:Int))::_) _
   repeat refine sq ?_;try intro
   refine G.begin (by rfl) ?_
   repeat refine sq ?_;try intro
   rw [show (if (w:Int)<(n:Int) then (n:Int) else (w:Int))=((max w n:Nat):Int) from by split<;>omega]
   exact G.roundEnd oY (Φ':=[]) (M'':=[(b7,Ob [.int .i64 (had:Int)] 3),(b6,Ob [.bool false] 4),(b5,Ob [.int .i64 ((max w n:Nat):Int)] 3),(b4,Ob [.int .i64 0] 3)]) (.inl ⟨rfl,([],[(b7,Ob [.int .i64 (had:Int)] 3),(b6,Ob [.bool false] 4),(b5,Ob [.int .i64 ((max w n:Nat):Int)] 3),(b4,Ob [.int .i64 0] 3)]),⟨max w n,hst,by omega,rfl⟩,rfl⟩) ⟨fun I hp φ hφ=>hp φ (by simp at hφ)⟩ oZ
 ·rintro D _ ⟨w,hw,hw2,rfl⟩
  rw [List.length_map,List.take_length] at hw
  rw [hw]
  have c1:=mcost_spec w
  have c2:=mcost_spec had
  refine G.perm ?_ oH
  refine nA ?_
  have m1:=costF_max w
  have m2:=costF_max had
  repeat refine sq ?_;try intro
  refine W.drawSt 7 6 b4 (Ob [.int .i64 ((costF w:Int)-(costF had:Int))] 3) [dq _,dq _,dq _,dq _,dq _,dq _,(dq fun _ _ => .bool false)] [[],[0],[],[2],[1,3],[],[4]] [5] (hrest:=fun c=>nrmX ?_) (hops:=by
   iterate 1 refine AllX.au ?_
   refine AllX.a0 ?_ rfl kR (by intro c z0 Φr Lr K;refine nrmX ?_;intro hK;refine cV c1 ?_;exact hK z0)
   iterate 1 refine AllX.au ?_
   refine AllX.a0 ?_ rfl kR (by intro c z0 Φr Lr K;refine nrmX ?_;intro hK;refine cV c2 ?_;exact hK z0)
   iterate 3 refine AllX.au ?_
   exact AllX.end)
  repeat refine sq ?_;try intro
  refine G.unmark oY ?_
  exact G.ret rfl (.cons (.cell1 rfl) (.cons (.cell1 rfl) (.cons (.cell1 rfl) .nil))) (Φ':=[]) (M':=[]) oY oN ⟨rfl,rfl,rfl⟩
 ·rintro D c' s ⟨rfl,hno,rfl⟩
  rw [hno]
  refine W.bare (G.perm ?_ oH)
  refine nA ?_
  refine G.code ?_
  repeat refine sq ?_;try intro
  refine G.unmark oY ?_
  exact G.ret rfl (.cons (.cell1 rfl) (.cons (.cell1 rfl) (.cons (.cell1 rfl) .nil))) (Φ':=[]) (M':=[]) oY oN ⟨rfl,rfl,rfl⟩
end Go.Rail
namespace Go.Rail
open Go Go.Proofs Tryz
set_option maxHeartbeats 400000
set_option maxRecDepth 4000
attribute [local irreducible] OpK G W LW wpListIn Exit.then Exit.inBlock Post rounds opRun bodyPostM intOp
set_option maxHeartbeats 1000000
attribute [local irreducible] costF growF
theorem reachF_max : ∀ (l:List (Word × Word)) (h w:Nat),h≤32768→reachF h l=some w→w≤32768
 | [],h,w,hh,hw=>by cases hw;exact hh
 | s::r,h,w,hh,hw=>by
  simp only [reachF] at hw
  cases hn:needF s.1 s.2 with
  | none=>rw [hn] at hw;cases hw
  | some n =>
   rw [hn] at hw
   have:=needF_max hn
   exact reachF_max r (max h n) w oM hw
def RPay (p:Frm):Value→List Fa→Own→Prop:=fun u Φ' M' => ∃ v o,IsOwn (GoTy.sz Word) v p.stack.length o∧u = .tuple #[frmV p v,.bool true]∧Φ'=[fRow (ocells o) p.stack]∧M'=ownM 49 o
theorem pay_some (f:Frm) (sv v:Value) (op more:Nat) (xs:List Spn) (p:Frm) (hop:op<256) (hp:payF f op more (prs xs)=some p) (hm:f.mem.length≤1048576) (h32:f.mem.length%32=0) (hs:f.stack.length≤100000) (hpop:popsN op≤f.stack.length)
  (hmore:more≤1000000000) (hg1:0≤f.gas) (hg2:f.gas≤1000000000000) (hpc1:0≤f.pc) (hpc2:f.pc≤1000000000000000000) (h1:xs.length≤1000000) :
  Fn prog 64 [frmV f sv,.int .u8 (op:Int),.int .i64 (more:Int),v] [fRp sv f.stack,fRp v xs] [] (RPay p):=by
 have hhad:f.mem.length/32≤32768:=by omega
 have hi:=info_spec op hop
 unfold infoV at hi
 have hre:=reach_spec f.mem v xs hm h1
 have his:=is_spec op hop
 have hown:=fun sv=>own_spec f sv oM
 obtain ⟨_,_,hgm⟩:=row_le hop
 unfold payF at hp
 unfold gasN at hp hgm
 unfold popsN at hp hpop
 generalize (infoN op).getD noRow=r at hi hp hgm hpop
 cases hr:reachF (f.mem.length/32) (prs xs) with
 | none=>rw [hr] at hp;cases hp
 | some w =>
 rw [hr] at hp hre
 dsimp only at hp
 unfold reachV at hre
 dsimp only at hre
 have hw:=reachF_max _ _ _ hhad hr
 have hgr:=grow_spec f.mem (w:Int) hm h32 oM oM
 rw [Int.toNat_natCast] at hgr
 have m1:=costF_max w
 have m2:=costF_max (f.mem.length/32)
 generalize costF w=cw at hp hre m1
 generalize costF (f.mem.length/32)=ch at hp hre m2
 by_cases hg:f.gas<(cw:Int)-(ch:Int)+(r.gas:Int)+(more:Int)
 ·rw [if_pos hg] at hp;cases hp
 rw [if_neg hg,show (cw:Int)-(ch:Int)+(r.gas:Int)+(more:Int)=(cw:Int)-(ch:Int)+((r.gas+more:Nat):Int) from by omega] at hp
 generalize (infoN op).isSome=is at hi
 cases hC:isC op with
 | true =>
  rw [hC] at his hp
  cases hp
  refine Fn.enter func64 rfl ntmps64 oI (fun I0 w0 => ?_)
  refine W.bare (G.slice sv f.stack ?_)
  intro a1 c1 e1 k1
  subst e1
  repeat refine sq ?_;try intro
  refine cV hi ?_
  repeat refine sq ?_;try intro
  refine cV hre ?_
  repeat refine sq ?_;try intro
  refine OpK.call rfl rfl rfl rfl (hown _) oY oP ?_
  rintro u Φ' Mc' ⟨v2,o,hv,rfl,rfl,rfl⟩
  refine G.perm ?_ oH
  obtain ⟨a2,c2,rfl⟩:=own_open hv
  refine nA ?_
  repeat refine sq ?_;try intro
  refine cV hgr ?_
  repeat refine sq ?_;try intro
  refine cV his ?_
  repeat refine sq ?_;try intro
  exact G.ret rfl (.cons (.cellA rfl rfl) (.cons (.tmp rfl) .nil)) (Φ':=[fRow (ocells o) f.stack]) (M':=ownM 49 o) oY (.cons _ (.cons _ (.cons _ oZ))) ⟨_,o,hv,rfl,rfl,rfl⟩
 | false =>
  rw [hC] at his hp
  rw [if_neg Bool.false_ne_true] at hp
  cases hp
  refine Fn.enter func64 rfl ntmps64 oI (fun I0 w0 => ?_)
  refine W.bare (G.slice sv f.stack ?_)
  intro a1 c1 e1 k1
  subst e1
  repeat refine sq ?_;try intro
  refine cV hi ?_
  repeat refine sq ?_;try intro
  refine cV hre ?_
  repeat refine sq ?_;try intro
  refine OpK.call rfl rfl rfl rfl (hown _) oY oP ?_
  rintro u Φ' Mc' ⟨v2,o,hv,rfl,rfl,rfl⟩
  refine G.perm ?_ oH
  cases o with
  | none =>
   obtain ⟨rfl,hn0⟩:=hv
   dsimp only [List.cons_append,List.nil_append,ownM,ocells]
   have hp0:r.pops=0:=by omega
   repeat refine sq ?_;try intro
   refine cV hgr ?_
   repeat refine sq ?_;try intro
   refine cV his ?_
   repeat refine sq ?_;try intro
   refine o_cutNil rfl rfl rfl rfl oM ?_
   repeat refine sq ?_;try intro
   refine G.learn (fRow [] (f.stack.take (f.stack.length-r.pops))) (e:=⟨fun I hp=>RowRep.take (hp (fRow [] f.stack) oI) _⟩) ?_
   exact G.ret rfl (.cons (.cellA rfl rfl) (.cons (.tmp rfl) .nil)) (Φ':=[fRow [] (f.stack.take (f.stack.length-r.pops))]) (M':=[]) oY oN ⟨_,none,⟨rfl,by show (f.stack.take (f.stack.length-r.pops)).length=0;rw [List.length_take];omega⟩,rfl,rfl,rfl⟩
  | some q =>
   obtain ⟨b,cs⟩:=q
   obtain ⟨c2,rfl,hc1,hc2⟩:=hv
   dsimp only [List.cons_append,List.nil_append,ownM,ocells]
   repeat refine sq ?_;try intro
   refine cV hgr ?_
   repeat refine sq ?_;try intro
   refine cV his ?_
   repeat refine sq ?_;try intro
   refine o_cutO (f.stack.length-r.pops) rfl rfl rfl ⟨_,_,rfl,by omega⟩ oM ?_
   repeat refine sq ?_;try intro
   refine G.learn (fRow cs (f.stack.take (f.stack.length-r.pops))) (e:=⟨fun I hp=>RowRep.take (hp (fRow cs f.stack) oI) _⟩) ?_
   exact G.ret rfl (.cons (.cellA rfl rfl) (.cons (.tmp rfl) .nil)) (Φ':=[fRow cs (f.stack.take (f.stack.length-r.pops))]) (M':=[(b,Ob cs 49)]) oY (.cons _ (.cons _ (.cons _ oZ))) ⟨_,some (b,cs),⟨c2,by show _=Value.slice (some ⟨b,0,none⟩) (f.stack.take (f.stack.length-r.pops)).length c2;rw [List.length_take,Nat.min_eq_left (Nat.sub_le _ _)],hc1,by show (f.stack.take (f.stack.length-r.pops)).length≤c2;rw [List.length_take];omega⟩,rfl,rfl,rfl⟩
def RNo (f:Frm):Value→List Fa→Own→Prop:=fun u Φ' M' => ∃ a c,u = .tuple #[frmV f (.slice a f.stack.length c),.bool false]∧Φ'=[fRp (.slice a f.stack.length c) f.stack]∧M'=[]
theorem pay_none (f:Frm) (sv v:Value) (op more:Nat) (xs:List Spn) (hop:op<256) (hp:payF f op more (prs xs)=none) (hm:f.mem.length≤1048576) (hmore:more≤1000000000) (hg1:0≤f.gas) (hg2:f.gas≤1000000000000) (h1:xs.length≤1000000) :
  Fn prog 64 [frmV f sv,.int .u8 (op:Int),.int .i64 (more:Int),v] [fRp sv f.stack,fRp v xs] [] (RNo f):=by
 have hhad:f.mem.length/32≤32768:=by omega
 have hi:=info_spec op hop
 unfold infoV at hi
 have hre:=reach_spec f.mem v xs hm h1
 obtain ⟨_,_,hgm⟩:=row_le hop
 unfold payF at hp
 unfold gasN at hp hgm
 unfold popsN at hp
 generalize (infoN op).getD noRow=r at hi hp hgm
 generalize (infoN op).isSome=is at hi
 cases hr:reachF (f.mem.length/32) (prs xs) with
 | none =>
  rw [hr] at hre
  unfold reachV at hre
  dsimp only at hre
  generalize f.mem.length/32=had at hre hhad
  refine Fn.enter func64 rfl ntmps64 oI (fun I0 w0 => ?_)
  refine W.bare (G.slice sv f.stack ?_)
  intro a1 c1 e1 k1
  subst e1
  repeat refine sq ?_;try intro
  refine cV hi ?_
  repeat refine sq ?_;try intro
  refine cV hre ?_
  repeat refine sq ?_;try intro
  exact G.ret rfl (.cons (.cellA rfl rfl) (.cons (.tmp rfl) .nil)) (Φ':=[fRp (.slice a1 f.stack.length c1) f.stack]) (M':=[]) oY oN ⟨a1,c1,rfl,rfl,rfl⟩
 | some w =>
  rw [hr] at hp hre
  dsimp only at hp
  unfold reachV at hre
  dsimp only at hre
  have m1:=costF_max w
  have m2:=costF_max (f.mem.length/32)
  generalize costF w=cw at hp hre m1
  generalize costF (f.mem.length/32)=ch at hp hre m2
  by_cases hg:f.gas<(cw:Int)-(ch:Int)+(r.gas:Int)+(more:Int)
  ·refine Fn.enter func64 rfl ntmps64 oI (fun I0 w0 => ?_)
   refine W.bare (G.slice sv f.stack ?_)
   intro a1 c1 e1 k1
   subst e1
   repeat refine sq ?_;try intro
   refine cV hi ?_
   repeat refine sq ?_;try intro
   refine cV hre ?_
   repeat refine sq ?_;try intro
   exact G.ret rfl (.cons (.cellA rfl rfl) (.cons (.tmp rfl) .nil)) (Φ':=[fRp (.slice a1 f.stack.length c1) f.stack]) (M':=[]) oY oN ⟨a1,c1,rfl,rfl,rfl⟩
  ·rw [if_neg hg] at hp
   cases hp
end Go.Rail
namespace Go.Rail
open Go Go.Proofs Tryz
set_option maxHeartbeats 400000
set_option maxRecDepth 4000
attribute [local irreducible] OpK G W LW wpListIn Exit.then Exit.inBlock Post rounds opRun bodyPostM intOp
set_option maxHeartbeats 1000000
theorem piece1_spec (b1 b2:Nat) (i j:Nat) (av:Value) (l:List Word) (hi:i<l.length) (hj:j<l.length) (hl:l.length≤1000) :
  FnV prog 187 [av,.pointer (some ⟨b1,0,none⟩),.pointer (some ⟨b2,0,none⟩)] [fRp av l,fBlk b1 [.int .i64 (i:Int)] 3,fBlk b2 [.int .i64 (j:Int)] 3] (Spn.mk l[i] l[j]).v:=by
 refine Fn.enter func187 rfl ntmps187 oI (fun I0 w0 => ?_)
 repeat refine sq ?_;try intro
 rename_i b4
 refine W.drawA 8 [dq _,dq _,dk _,dq _,dq _,dq _,dk _,dq _] [[],[],[0,1],[2],[],[],[4,5],[6]] [3,7] (hrest:=fun c=>nrm ?_) (hops:=by
  iterate 8 refine AllQ.aq ?_
  exact AllQ.nil)
 repeat refine sq ?_;try intro
 exact G.ret rfl (.cons (.cellA rfl rfl) .nil) (Φ':=[]) (M':=[]) oY oN ⟨rfl,rfl,rfl⟩
theorem fixed1_spec (b1:Nat) (n:Nat) (av:Value) (l:List Word) (hi:0<l.length) (hn:n≤1000) :
  FnV prog 190 [av,.pointer (some ⟨b1,0,none⟩)] [fRp av l,fBlk b1 [.int .i64 (n:Int)] 3] (Spn.mk l[0] (.nat n)).v:=by
 have hof:=wof_spec n oM
 refine Fn.enter func190 rfl ntmps190 oI (fun I0 w0 => ?_)
 repeat refine sq ?_;try intro
 rename_i b4
 refine W.drawA 5 [dq _,dk _,dq _,dq _,dq _] [[],[0],[1],[],[3]] [2,4] (hrest:=fun c=>nrm ?_) (hops:=by
  iterate 4 refine AllQ.aq ?_
  refine AllQ.mk (by intro c z0 Φr Lr K;refine nrm ?_;intro hK;refine cV hof ?_;exact hK z0) ?_
  exact AllQ.nil)
 repeat refine sq ?_;try intro
 exact G.ret rfl (.cons (.cellA rfl rfl) .nil) (Φ':=[]) (M':=[]) oY oN ⟨rfl,rfl,rfl⟩
theorem of1_hash (b1 b2:Nat) (i:Nat) (av:Value) (l:List Word) (hi:i<l.length) (hl:l.length≤1000) :
  FnV prog 185 [av,.pointer (some ⟨b1,0,none⟩),.pointer (some ⟨b2,0,none⟩)] [fRp av l,fBlk b1 [.func (.func 97) #[] #[]] 107,fBlk b2 [.int .i64 (i:Int)] 3] (.int .i64 ((6*wordsF (numF l[i]):Nat):Int)):=by
 have h1:=number_spec l[i]
 have h2:=ghash_spec (numF l[i])
 refine Fn.enter func185 rfl ntmps185 oI (fun I0 w0 => ?_)
 repeat refine sq ?_;try intro
 refine W.drawA 6 [dq _,dq _,dq _,dk _,dq _,dq _] [[],[],[],[1,2],[3],[4]] [0,5] (hrest:=fun c=>nrm ?_) (hops:=by
  iterate 5 refine AllQ.aq ?_
  refine AllQ.mk (by intro c z0 Φr Lr K;refine nrm ?_;intro hK;refine cV h1 ?_;exact hK z0) ?_
  exact AllQ.nil)
 repeat refine sq ?_;try intro
 refine o_callV (cap:=[]) rfl rfl rfl rfl h2 rfl ?_
 repeat refine sq ?_;try intro
 refine G.retV ?_
 rfl
theorem of1_copy (b1 b2:Nat) (i:Nat) (av:Value) (l:List Word) (hi:i<l.length) (hl:l.length≤1000) :
  FnV prog 185 [av,.pointer (some ⟨b1,0,none⟩),.pointer (some ⟨b2,0,none⟩)] [fRp av l,fBlk b1 [.func (.func 104) #[] #[]] 107,fBlk b2 [.int .i64 (i:Int)] 3] (.int .i64 ((3*wordsF (numF l[i]):Nat):Int)):=by
 have h1:=number_spec l[i]
 have h2:=gcopy_spec (numF l[i])
 refine Fn.enter func185 rfl ntmps185 oI (fun I0 w0 => ?_)
 repeat refine sq ?_;try intro
 refine W.drawA 6 [dq _,dq _,dq _,dk _,dq _,dq _] [[],[],[],[1,2],[3],[4]] [0,5] (hrest:=fun c=>nrm ?_) (hops:=by
  iterate 5 refine AllQ.aq ?_
  refine AllQ.mk (by intro c z0 Φr Lr K;refine nrm ?_;intro hK;refine cV h1 ?_;exact hK z0) ?_
  exact AllQ.nil)
 repeat refine sq ?_;try intro
 refine o_callV (cap:=[]) rfl rfl rfl rfl h2 rfl ?_
 repeat refine sq ?_;try intro
 refine G.retV ?_
 rfl
theorem ffixed_spec (n:Int):Fn prog 111 [.int .i64 n] [] [] (fun u Φ' M' => ∃ b,u = .func (.func 190) #[] #[.pointer (some ⟨b,0,none⟩)]∧Φ'=[fBlk b [.int .i64 n] 3]∧M'=[]):=by
 refine Fn.enter func111 rfl ntmps111 oI (fun I0 w0 => ?_)
 repeat refine sq ?_;try intro
 rename_i b
 refine o_func rfl rfl rfl rfl ?_
 repeat refine sq ?_;try intro
 refine G.give b (cs:=[.int .i64 n]) (t:=3) ?_
 exact G.ret rfl (.cons (.tmp rfl) .nil) (Φ':=[fBlk b [.int .i64 n] 3]) (M':=[]) oY oN ⟨b,rfl,rfl,rfl⟩
theorem fpiece_spec (i j:Int):Fn prog 98 [.int .i64 i,.int .i64 j] [] [] (fun u Φ' M' => ∃ b1 b2,u = .func (.func 187) #[] #[.pointer (some ⟨b1,0,none⟩),.pointer (some ⟨b2,0,none⟩)]∧Φ'=[fBlk b1 [.int .i64 i] 3,fBlk b2 [.int .i64 j] 3]∧M'=[]):=by
 refine Fn.enter func98 rfl ntmps98 oI (fun I0 w0 => ?_)
 repeat refine sq ?_;try intro
 rename_i b1 b2
 refine o_func rfl rfl rfl rfl ?_
 repeat refine sq ?_;try intro
 refine G.give b2 (cs:=[.int .i64 j]) (t:=3) ?_
 refine G.give b1 (cs:=[.int .i64 i]) (t:=3) ?_
 exact G.ret rfl (.cons (.tmp rfl) .nil) (Φ':=[fBlk b1 [.int .i64 i] 3,fBlk b2 [.int .i64 j] 3]) (M':=[]) oY oN ⟨b1,b2,rfl,rfl,rfl⟩
theorem fof_spec (i:Int) (g:Nat):Fn prog 96 [.int .i64 i,.func (.func g) #[] #[]] [] [] (fun u Φ' M' => ∃ b1 b2,u = .func (.func 185) #[] #[.pointer (some ⟨b1,0,none⟩),.pointer (some ⟨b2,0,none⟩)]∧Φ'=[fBlk b1 [.func (.func g) #[] #[]] 107,fBlk b2 [.int .i64 i] 3]∧M'=[]):=by
 refine Fn.enter func96 rfl ntmps96 oI (fun I0 w0 => ?_)
 repeat refine sq ?_;try intro
 rename_i b2 b1
 refine o_func rfl rfl rfl rfl ?_
 repeat refine sq ?_;try intro
 refine G.give b1 (cs:=[.func (.func g) #[] #[]]) (t:=107) ?_
 refine G.give b2 (cs:=[.int .i64 i]) (t:=3) ?_
 exact G.ret rfl (.cons (.tmp rfl) .nil) (Φ':=[fBlk b1 [.func (.func g) #[] #[]] 107,fBlk b2 [.int .i64 i] 3]) (M':=[]) oY oN ⟨b1,b2,rfl,rfl,rfl⟩
end Go.Rail
namespace Go.Rail
open Go Go.Proofs Tryz
set_option maxHeartbeats 400000
set_option maxRecDepth 4000
attribute [local irreducible] OpK G W LW wpListIn Exit.then Exit.inBlock Post rounds opRun bodyPostM intOp
set_option maxHeartbeats 1000000
theorem find2_spec (av:Value) (l:List Word) (hi:1<l.length):FnV prog 55 [av] [fRp av l] (.int .i64 ((50*(trimF (byN l[1].num)).length:Nat):Int)):=by
 have h:=gexp_spec l[1]
 refine Fn.enter func55 rfl ntmps55 oI (fun I0 w0 => ?_)
 repeat refine sq ?_;try intro
 refine cV h ?_
 repeat refine sq ?_;try intro
 refine G.retV ?_
 rfl
abbrev pcF (f:Frm) (s:List Word) (pc:Int):Frm:={f with stack:=s,pc:=pc}
theorem find3_spec (B b1:Nat) (f:Frm) (sv av:Value) (wrong:Int) (n:Nat) (o:OR) (hs:f.stack.length≤1000000) (ho:IsOwn (GoTy.sz Word) sv f.stack.length o) (hx:f.code.length≤1000000) (hp1:0≤f.pc) (hp2:f.pc≤1000000000000000000) (hn:n≤1000) :
  Fn prog 57 [.pointer (some ⟨B,0,none⟩),.pointer (some ⟨b1,0,none⟩)] [fRow (ocells o) f.stack,fBlk b1 [.int .i64 (n:Int)] 3] ((B,Ob (runC f sv av wrong) 94)::ownM 49 o) (RRun B (pcF f (f.stack++[opushL f.code (f.pc-1) (n:Int)]) (f.pc+(n:Int))) av wrong):=by
 have h1:=opush_spec f.code (f.pc-1) (n:Int) hx
 generalize opushL f.code (f.pc-1) (n:Int)=w at h1 ⊢
 refine Fn.enter func57 rfl ntmps57 oI (fun I0 w0 => ?_)
 repeat refine sq ?_;try intro
 refine W.drawA 14 [dq _,dq _,dq _,dq _,dq _,dq _,dq _,dq _,dq _,dq _,dq _,dq _,dq _,dq _] [[],[],[1],[2],[3],[4],[],[6],[7],[8],[9],[10],[],[5,11,12]] [0,13] (hrest:=fun c=>nrm ?_) (hops:=by
  iterate 13 refine AllQ.aq ?_
  refine AllQ.mk (by intro c z0 Φr Lr K;refine nrm ?_;intro hK;refine cV h1 ?_;exact hK z0) ?_
  exact AllQ.nil)
 repeat refine sq ?_;try intro
 refine OpK.call rfl rfl rfl rfl (rpush_spec B f sv av wrong o w hs ho) oY (Mr:=[]) (by rw [List.append_nil]) ?_
 rintro u Φ' Mc' ⟨a,cp,rfl,rfl,rfl⟩
 refine nB ?_
 repeat refine sq ?_;try intro
 refine W.drawA 6 [dq _,dq _,dq _,dq _,dq _,dq _] [[],[0],[1],[2],[3],[]] [0,4,5] (hrest:=fun c=>nrm ?_) (hops:=by
  iterate 6 refine AllQ.aq ?_
  exact AllQ.nil)
 repeat refine sq ?_;try intro
 exact G.fin rfl .nil (Φ':=[fRp (.slice a _ cp) _]) (M':=[_]) oY oZ ⟨a,cp,rfl,rfl,rfl⟩
end Go.Rail
namespace Go.Rail
open Go Go.Proofs Tryz
set_option maxHeartbeats 400000
set_option maxRecDepth 4000
attribute [local irreducible] OpK G W LW wpListIn Exit.then Exit.inBlock Post rounds opRun bodyPostM intOp
set_option maxHeartbeats 600000
attribute [local irreducible] doC
theorem find1_spec (B b1:Nat) (f:Frm) (a0:Option Addr) (c0:Nat) (av:Value) (wrong:Int) (op:Nat) (hop:op<256) (hs:f.stack.length≤100000) :
  Fn prog 53 [.pointer (some ⟨B,0,none⟩),.pointer (some ⟨b1,0,none⟩)] [fRp (.slice a0 f.stack.length c0) f.stack,fBlk b1 [.int .u8 (op:Int)] 5] [(B,Ob (runC f (.slice a0 f.stack.length c0) av wrong) 94)] (RRun B (stkF f (doC op f.stack).1) av wrong):=by
 have h1:=do_spec op hop (.slice a0 f.stack.length c0) f.stack hs
 generalize (doC op f.stack).1=ys at h1 ⊢
 generalize (doC op f.stack).2=e at h1
 refine Fn.enter func53 rfl ntmps53 oI (fun I0 w0 => ?_)
 repeat refine sq ?_;try intro
 refine W.drawMx 15 14 (fun z=>[(B,Ob (runC f z av wrong) 94)]) [dq _,dq _,dq _,dq _,dq _,dq _,dq _,⟨fun _ z => .tuple #[z,.int .i64 e],fun _ z=>[fRp z ys]⟩,dq _,dq _,dq _,dq _,dq _,dq _,⟨fun _ _ => .bool false,fun _ z=>[fRp z ys]⟩] [[],[],[],[2],[3],[4],[5],[1,6],[7],[8],[8],[0],[11],[12],[7,9,13]] [14] (hloc:=by (repeat (first|exact AllL.nil|refine AllL.au ?_|refine AllL.au ?_ (by intro c c2 z h;refine nrm ?_;constructor<;>first|rfl|(rw [h 7 kR]))))) (hrest:=fun c=>nrmX ?_) (hops:=by
  iterate 7 refine AllX.au ?_
  refine AllX.a0 ?_ rfl kR (by intro c z0 Φr Lr K;refine nrmX ?_;intro hK;refine OpK.call rfl rfl rfl rfl h1 oY (Mr:=_) oP ?_;rintro u Φ' Mc' ⟨v,rfl,rfl,rfl⟩;exact hK v)
  iterate 6 refine AllX.au ?_
  refine AllX.ai ?_ (by intro c z0 Φr Lr K;refine nrmX ?_;intro hK;refine OpK.bare (G.slice (c 7) ys ?_);intro a9 c9 e9 k9;refine OpK.back ?_;have hk:=hK (c 7);rw [e9] at hk ⊢;(first|refine sty ?_|refine st ?_|refine stz ?_|refine stq ?_);refine G.learn (fRp (.slice a9 ys.length c9) ys) ?_;exact hk)
  exact AllX.end)
 generalize c 14=v
 refine LW.bare (G.slice v ys ?_)
 intro a2 c2 e2 k2
 subst e2
 refine LW.back ?_
 repeat refine sq ?_;try intro
 exact G.fin rfl .nil (Φ':=[fRp (.slice a2 ys.length c2) ys]) (M':=[_]) oY oZ ⟨a2,c2,rfl,rfl,rfl⟩
end Go.Rail
namespace Go.Rail
open Go Go.Proofs Tryz
set_option maxHeartbeats 400000
set_option maxRecDepth 4000
attribute [local irreducible] OpK G W LW wpListIn Exit.then Exit.inBlock Post rounds opRun bodyPostM intOp
set_option maxHeartbeats 600000
instance:PartOf (α:=Word) (β:=UInt64) 0 Word.a where
 le:=by decide
 h:=fun I cs z h=>by rw [h];rfl
theorem num_low (w:Word):w.num%256=w.a.toNat%256:=by
 have:=w.a.toNat_lt;have:=w.b.toNat_lt;have:=w.c.toNat_lt;have:=w.d.toNat_lt
 simp only [Word.num];omega
theorem u8v (n:Nat) (h:n<256):Value.int .u8 ((n:Nat):Int)=GoFlat.val (UInt8.ofNat n):=by
 have e:(UInt8.ofNat n).toNat=n:=by rw [UInt8.toNat_ofNat'];omega
 show Value.int .u8 ((n:Nat):Int)=Value.int .u8 (((UInt8.ofNat n).toNat:Nat):Int)
 rw [e]
theorem ract8_spec (B:Nat) (f:Frm) (sv av:Value) (wrong:Int) (l:List Word) (hm:f.mem.length≤1048576) (h32:f.mem.length%32=0) (hl:1<l.length) :
  Fn prog 114 [.pointer (some ⟨B,0,none⟩)] [fRp av l] [(B,Ob (runC f sv av wrong) 94)] (RKeep B (runC (memF f (putF f.mem (numF (l.getD 0 .zero)) [UInt8.ofNat ((l.getD 1 .zero).num%256)])) sv av wrong)):=by
 have h3:=fun av=>rput_spec B f sv av wrong l [UInt8.ofNat (l[1].num%256)] hm h32 oI oM
 rw [getD_at l 1 hl]
 rw [num_low] at h3 ⊢
 refine Fn.enter func114 rfl ntmps114 oI (fun I0 w0 => ?_)
 refine W.bare (G.slice av l ?_)
 intro a1 c1 e1 k1
 subst e1
 repeat refine sq ?_;try intro
 refine o_indexP (off:=0) Word.a rfl rfl rfl rfl oE oE rfl ?_
 intro p'
 repeat refine sq ?_;try intro
 refine o_litV (xs:=[UInt8.ofNat (l[1].a.toNat%256)]) rfl rfl rfl (.cons (u8v _ (Nat.mod_lt _ oE)) .nil) oY oY rfl rfl ?_
 intro v
 repeat refine sq ?_;try intro
 refine OpK.call rfl rfl rfl rfl (h3 _) oY (Mr:=[]) (by rw [List.append_nil]) ?_
 rintro u Φ' Mc' ⟨rfl,rfl,rfl⟩
 refine nB ?_
 repeat refine sq ?_;try intro
 exact G.fin rfl .nil (Φ':=[]) (M':=[_]) oY oZ ⟨rfl,rfl,rfl⟩
end Go.Rail
