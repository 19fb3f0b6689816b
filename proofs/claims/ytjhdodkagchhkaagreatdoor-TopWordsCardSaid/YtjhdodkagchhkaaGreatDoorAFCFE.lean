/- frame.reached: how many words there have to be for pieces. -/
import Derived.Test.YtjhdodkagchhkaaGreatDoorRailA
import Derived.Test.YtjhdodkagchhkaaGreatDoorRailI
import Derived.Test.YtjhdodkagchhkaaGreatDoorAF9FB
import Derived.Test.YtjhdodkagchhkaaGreatDoorRailJ
set_option linter.unusedSimpArgs false
set_option linter.unusedVariables false
namespace Go.Rail
open Go Go.Proofs Tryz
set_option maxHeartbeats 400000
set_option maxRecDepth 4000
attribute [local irreducible] OpK G W LW wpListIn Exit.then Exit.inBlock Post rounds opRun bodyPostM intOp
set_option maxHeartbeats 1000000
structure Spn where
 at_:Word
 n:Word
def Spn.cells (s:Spn):List Value:=[.int .u64 s.at_.a.toNat,.int .u64 s.at_.b.toNat,.int .u64 s.at_.c.toNat,.int .u64 s.at_.d.toNat,.int .u64 s.n.a.toNat,.int .u64 s.n.b.toNat,.int .u64 s.n.c.toNat,.int .u64 s.n.d.toNat]
def Spn.v (s:Spn):Value := .agg s.cells.toArray
instance:GoTy Spn where
 sz:=8
 agg:=true
 rep:=fun _ cs w=>cs=w.cells
 mono:=fun _ h=>h
 len:=fun h=>by rw [h];rfl
 one:=fun h=>by rw [h];rfl
 agg1:=fun h=>by cases h
instance:GoFlat Spn where
 enc:=Spn.cells
 val:=Spn.v
 rep_iff:=Iff.rfl
 val_eq:=fun _=>rfl
instance (s:Spn):ValOf s (.agg s.cells.toArray):=⟨rfl⟩
def needI (s:Spn):Int:=match needF s.at_ s.n with
 | some n=>n
 | none => -1
theorem reached1_spec (b:Nat) (v:Value) (xs:List Spn) (h1:xs.length≤1000000):IterR prog 326 [.pointer (some ⟨b,0,none⟩)] (xs.map fun s=>[.int .i64 (needI s)]) [fBlk b [v] 196,fRp v xs]:=by
 intro l T Z hy s0 hs0
 have hy' : ∀ k (h:k<xs.length) s,T k s→FnY prog l [.int .i64 (needI xs[k])] s.1 s.2 (YRr (T (k+1)) Z):=fun k h s hs=>by
  have:=hy k (by simpa using h) s hs
  simpa using this
 rw [List.length_map]
 show Fn _ _ _ (fBlk b [v] 196::fRp v xs::s0.1) _ _
 refine Fn.enter func326 rfl ntmps326 oI (fun I0 w0 => ?_)
 repeat refine sq ?_;try intro
 refine W.loopI (fun (s:Nat × St)=>(fBlk b [v] 196::fRp v xs::s.2.1,[(0,.func (.yield l) #[] #[]),(7,v),(8,.int .i64 xs.length),(9,.int .i64 s.1)],s.2.2)) (fun s=>s.1≤xs.length∧T s.1 s.2) (fun s=>xs.length-s.1) (0,s0) ⟨Nat.zero_le _,hs0⟩ ⟨fun I hp=>hp⟩ (lC rfl (lC rfl (lC rfl (lC rfl lN)))) oZ ?_
 rintro ⟨i,s1⟩ ⟨hi,hst⟩
 dsimp only at hi hst ⊢
 by_cases hi0:i=xs.length
 ·subst hi0
  repeat refine sq ?_;try intro
  exact G.fin rfl .nil (Φ':=s1.1) (M':=s1.2) ⟨fun I hp φ hφ=>hp φ (.tail _ (.tail _ hφ))⟩ oZ (.inl hst)
 ·have hi1:i<xs.length:=by omega
  have hyi:=hy' i hi1 s1 hst
  have hn:=need_spec xs[i].at_ xs[i].n
  unfold needI at hyi
  cases hq:needF xs[i].at_ xs[i].n with
  | some n =>
   rw [hq] at hyi hn
   dsimp only [Option.getD_some,Option.isSome_some] at hyi hn
   repeat refine sq ?_;try intro
   refine cV hn ?_
   repeat refine sq ?_;try intro
   refine o_yieldR (Mr:=[_]) rfl rfl rfl rfl hyi (fun I hp φ hφ=>hp φ (by simp [hφ])) (oH (l₁:=[_])) ?_ ?_
   ·intro st2 hst2
    repeat refine sq ?_;try intro
    refine G.again (S:=Nat × St) (i+1,st2) (by dsimp only;omega) ⟨by dsimp only;omega,hst2⟩ ⟨fun I hp φ hφ => ?_⟩ (lC rfl (lC rfl (lC rfl (lC rfl lN)))) oI
    rcases List.mem_cons.1 hφ with rfl|hφ
    ·exact hp _ oI
    ·rcases List.mem_cons.1 hφ with rfl|hφ
     ·exact hp _ oI
     ·exact hp _ (by simp [hφ])
   ·intro s hs
    repeat refine sq ?_;try intro
    exact G.ret rfl .nil (Φ':=s.1) (M':=s.2) ⟨fun I hp φ hφ=>hp φ (List.mem_append_left _ hφ)⟩ oI (.inr hs)
  | none =>
   rw [hq] at hyi hn
   dsimp only [Option.getD_none,Option.isSome_none] at hyi hn
   repeat refine sq ?_;try intro
   refine cV hn ?_
   repeat refine sq ?_;try intro
   refine o_yieldR (Mr:=[_]) rfl rfl rfl rfl hyi (fun I hp φ hφ=>hp φ (by simp [hφ])) (oH (l₁:=[_])) ?_ ?_
   ·intro st2 hst2
    repeat refine sq ?_;try intro
    refine G.again (S:=Nat × St) (i+1,st2) (by dsimp only;omega) ⟨by dsimp only;omega,hst2⟩ ⟨fun I hp φ hφ => ?_⟩ (lC rfl (lC rfl (lC rfl (lC rfl lN)))) oI
    rcases List.mem_cons.1 hφ with rfl|hφ
    ·exact hp _ oI
    ·rcases List.mem_cons.1 hφ with rfl|hφ
     ·exact hp _ oI
     ·exact hp _ (by simp [hφ])
   ·intro s hs
    repeat refine sq ?_;try intro
    exact G.ret rfl .nil (Φ':=s.1) (M':=s.2) ⟨fun I hp φ hφ=>hp φ (List.mem_append_left _ hφ)⟩ oI (.inr hs)
theorem reached_spec (v:Value) (xs:List Spn):Fn prog 278 [v] [fRp v xs] [] (fun u Φ' M' => ∃ b,u = .func (.func 326) #[] #[.pointer (some ⟨b,0,none⟩)]∧Φ'=[fBlk b [v] 196]∧M'=[]):=by
 refine Fn.enter func278 rfl ntmps278 oI (fun I0 w0 => ?_)
 refine W.bare (G.slice v xs ?_)
 intro a1 c1 e1 k1
 subst e1
 repeat refine sq ?_;try intro
 rename_i b
 refine o_func rfl rfl rfl rfl ?_
 repeat refine sq ?_;try intro
 refine G.give b (cs:=[.slice a1 xs.length c1]) (t:=196) ?_
 exact G.ret rfl (.cons (.tmp rfl) .nil) (Φ':=[fBlk b [.slice a1 xs.length c1] 196]) (M':=[]) oY oN ⟨b,rfl,rfl,rfl⟩
end Go.Rail
namespace Go.Rail
open Go Go.Proofs Tryz
set_option maxHeartbeats 400000
set_option maxRecDepth 4000
attribute [local irreducible] OpK G W LW wpListIn Exit.then Exit.inBlock Post rounds opRun bodyPostM intOp
set_option maxHeartbeats 1000000
theorem costF_max (n:Nat):costF n≤3000000:=by
 unfold costF
 have h1:min n 32768≤32768:=Nat.min_le_right _ _
 have h2:min n 32768*min n 32768≤32768*32768:=Nat.mul_le_mul h1 h1
 omega
attribute [local irreducible] costF
theorem reachF_app : ∀ (a b:List (Word × Word)) (h:Nat),reachF h (a++b)=(reachF h a).bind fun w=>reachF w b
 | [],b,h=>rfl
 | s::r,b,h=>by
  simp only [List.cons_append,reachF]
  cases needF s.1 s.2 with
  | none=>rfl
  | some n=>exact reachF_app r b (max h n)
theorem needF_max {a n:Word} {k:Nat} (h:needF a n=some k):k≤32768:=by
 unfold needF at h
 split at h
 ·cases h;decide
 ·split at h
  ·next h2=>cases h;have:=h2.1;omega
  ·cases h
def prs (xs:List Spn):List (Word × Word):=xs.map fun s=>(s.at_,s.n)
theorem reachF_step (xs:List Spn) (h k w:Nat) (hk:k<xs.length) (hw:reachF h (prs (xs.take k))=some w):reachF h (prs (xs.take (k+1)))=(match needF xs[k].at_ xs[k].n with|some n=>some (max w n)|none=>none):=by
 rw [List.take_succ_eq_append_getElem hk]
 unfold prs at hw ⊢
 rw [List.map_append,reachF_app,hw]
 show reachF w [(xs[k].at_,xs[k].n)]=_
 simp only [reachF]
 cases needF xs[k].at_ xs[k].n<;>rfl
theorem reachF_none (xs:List Spn) (h k:Nat) (hk:reachF h (prs (xs.take k))=none):reachF h (prs xs)=none:=by
 conv=>lhs;rw [← List.take_append_drop k xs]
 unfold prs at hk ⊢
 rw [List.map_append,reachF_app,hk];rfl
def reachV (had:Nat):Option Nat→Value
 | none => .tuple #[.int .i64 0,.int .i64 (had:Int),.bool false]
 | some w => .tuple #[.int .i64 ((costF w:Int)-(costF had:Int)),.int .i64 (w:Int),.bool true]
theorem reach_spec (m:List UInt8) (v:Value) (xs:List Spn) (hm:m.length≤1048576) (h1:xs.length≤1000000):FnV prog 205 [.string (ba m),v] [fRp v xs] (reachV (m.length/32) (reachF (m.length/32) (prs xs))):=by
 have hhad:m.length/32≤32768:=by omega
 refine Fn.enter func205 rfl ntmps205 oI (fun I0 w0 => ?_)
 repeat refine sq ?_;try intro
 refine OpK.call rfl rfl rfl rfl (reached_spec v xs) oY (Mr:=_) oP ?_
 rintro u Φ' Mc' ⟨b,rfl,rfl,rfl⟩
 refine nB ?_
 repeat refine sq ?_;try intro
 rename_i b4 b5 b6 b7
 generalize hh:m.length/32=had at hhad ⊢
 refine W.rangeFuncR (enc:=xs.map fun s=>[.int .i64 (needI s)]) (ps:=[15]) (Φi:=[fBlk b [v] 196,fRp v xs]) (Mr:=[]) (fun k s => ∃ w:Nat,reachF had (prs (xs.take k))=some w∧w≤32768∧s=([],[(b7,Ob [.int .i64 (had:Int)] 3),(b6,Ob [.bool false] 4),(b5,Ob [.int .i64 (w:Int)] 3),(b4,Ob [.int .i64 0] 3)])) (fun c s=>c = .ret∧reachF had (prs xs)=none∧s=([],[(b7,Ob [.int .i64 (had:Int)] 3),(b6,Ob [.bool false] 4),(b5,Ob [.int .i64 (had:Int)] 3),(b4,Ob [.int .i64 0] 3)])) rfl (reached1_spec b v xs h1) oE (by intro vs h;obtain ⟨p,_,rfl⟩:=List.mem_map.1 h;rfl) oY ([],[(b7,Ob [.int .i64 (had:Int)] 3),(b6,Ob [.bool false] 4),(b5,Ob [.int .i64 (had:Int)] 3),(b4,Ob [.int .i64 0] 3)]) ⟨had,rfl,hhad,rfl⟩ oY oP ?_ ?_ ?_
 ·rintro y rec I0' w0' k hk _ ⟨w,hw,hw2,rfl⟩
  rw [List.length_map] at hk
  have hst:=reachF_step xs had k w hk hw
  have he:(xs.map fun s=>[Value.int .i64 (needI s)])[k]'(by rw [List.length_map];exact hk)=[.int .i64 (needI xs[k])]:=by simp
  dsimp only
  rw [he]
  unfold needI
  cases hq:needF xs[k].at_ xs[k].n with
  | none =>
   rw [hq] at hst
   have hno:=reachF_none xs had (k+1) hst
   show W _ _ _ _ ((15,.int .i64 (-1))::_) _
   repeat refine sq ?_;try intro
   refine G.begin (by rfl) ?_
   repeat refine sq ?_;try intro
   refine W.drawSt 2 1 b4 (Ob [.int .i64 0] 3) [dq _,(dq fun _ _ => .bool false)] [[],[]] [0] (hrest:=fun c=>nrmX ?_) (hops:=by
    iterate 2 refine AllX.au ?_
    exact AllX.end)
   repeat refine sq ?_;try intro
   exact G.roundRet oY (Φ':=[]) (M'':=[(b7,Ob [.int .i64 (had:Int)] 3),(b6,Ob [.bool false] 4),(b5,Ob [.int .i64 (had:Int)] 3),(b4,Ob [.int .i64 0] 3)]) (.inr ⟨rfl,.ret,([],[(b7,Ob [.int .i64 (had:Int)] 3),(b6,Ob [.bool false] 4),(b5,Ob [.int .i64 (had:Int)] 3),(b4,Ob [.int .i64 0] 3)]),⟨rfl,hno,rfl⟩,rfl⟩) ⟨fun I hp φ hφ=>hp φ (by simp at hφ)⟩ oZ
  | some n =>
   rw [hq] at hst
   have hn:=needF_max hq
   show W _ _ _ _ ((15,.int .i64 (n:Int))::_) _
   repeat refine sq ?_;try intro
   refine G.begin (by rfl) ?_
   repeat refine sq ?_;try intro
   rw [show (if (w:Int)<(n:Int) then (n:Int) else (w:Int))=((max w n:Nat):Int) from by split<;>omega]
   exact G.roundEnd oY (Φ':=[]) (M'':=[(b7,Ob [.int .i64 (had:Int)] 3),(b6,Ob [.bool false] 4),(b5,Ob [.int .i64 ((max w n:Nat):Int)] 3),(b4,Ob [.int .i64 0] 3)]) (.inl ⟨rfl,([],[(b7,Ob [.int .i64 (had:Int)] 3),(b6,Ob [.bool false] 4),(b5,Ob [.int .i64 ((max w n:Nat):Int)] 3),(b4,Ob [.int .i64 0] 3)]),⟨max w n,hst,by omega,rfl⟩,rfl⟩) ⟨fun I hp φ hφ=>hp φ (by simp at hφ)⟩ oZ
 ·rintro D _ ⟨w,hw,hw2,rfl⟩
  rw [List.length_map,List.take_length] at hw
  rw [hw]
  have c1:=mcost_spec w
  have c2:=mcost_spec had
  refine G.perm ?_ oH
  refine nA ?_
  have m1:=costF_max w
  have m2:=costF_max had
  repeat refine sq ?_;try intro
  refine W.drawSt 7 6 b4 (Ob [.int .i64 ((costF w:Int)-(costF had:Int))] 3) [dq _,dq _,dq _,dq _,dq _,dq _,(dq fun _ _ => .bool false)] [[],[0],[],[2],[1,3],[],[4]] [5] (hrest:=fun c=>nrmX ?_) (hops:=by
   iterate 1 refine AllX.au ?_
   refine AllX.a0 ?_ rfl kR (by intro c z0 Φr Lr K;refine nrmX ?_;intro hK;refine cV c1 ?_;exact hK z0)
   iterate 1 refine AllX.au ?_
   refine AllX.a0 ?_ rfl kR (by intro c z0 Φr Lr K;refine nrmX ?_;intro hK;refine cV c2 ?_;exact hK z0)
   iterate 3 refine AllX.au ?_
   exact AllX.end)
  repeat refine sq ?_;try intro
  refine G.unmark oY ?_
  exact G.ret rfl (.cons (.cell1 rfl) (.cons (.cell1 rfl) (.cons (.cell1 rfl) .nil))) (Φ':=[]) (M':=[]) oY oN ⟨rfl,rfl,rfl⟩
 ·rintro D c' s ⟨rfl,hno,rfl⟩
  rw [hno]
  refine W.bare (G.perm ?_ oH)
  refine nA ?_
  refine G.code ?_
  repeat refine sq ?_;try intro
  refine G.unmark oY ?_
  exact G.ret rfl (.cons (.cell1 rfl) (.cons (.cell1 rfl) (.cons (.cell1 rfl) .nil))) (Φ':=[]) (M':=[]) oY oN ⟨rfl,rfl,rfl⟩
end Go.Rail
namespace Go.Rail
open Go Go.Proofs Tryz
set_option maxHeartbeats 400000
set_option maxRecDepth 4000
attribute [local irreducible] OpK G W LW wpListIn Exit.then Exit.inBlock Post rounds opRun bodyPostM intOp
set_option maxHeartbeats 1000000
attribute [local irreducible] costF growF
theorem reachF_max : ∀ (l:List (Word × Word)) (h w:Nat),h≤32768→reachF h l=some w→w≤32768
 | [],h,w,hh,hw=>by cases hw;exact hh
 | s::r,h,w,hh,hw=>by
  simp only [reachF] at hw
  cases hn:needF s.1 s.2 with
  | none=>rw [hn] at hw;cases hw
  | some n =>
   rw [hn] at hw
   have:=needF_max hn
   exact reachF_max r (max h n) w oM hw
def RPay (p:Frm):Value→List Fa→Own→Prop:=fun u Φ' M' => ∃ v o,IsOwn (GoTy.sz Word) v p.stack.length o∧u = .tuple #[frmV p v,.bool true]∧Φ'=[fRow (ocells o) p.stack]∧M'=ownM 24 o
theorem pay_some (f:Frm) (sv v:Value) (op more:Nat) (xs:List Spn) (p:Frm) (hop:op<256) (hp:payF f op more (prs xs)=some p) (hm:f.mem.length≤1048576) (h32:f.mem.length%32=0) (hs:f.stack.length≤100000) (hpop:popsN op≤f.stack.length)
  (hmore:more≤1000000000) (hg1:0≤f.gas) (hg2:f.gas≤1000000000000) (hpc1:0≤f.pc) (hpc2:f.pc≤1000000000000000000) (h1:xs.length≤1000000) :
  Fn prog 104 [frmV f sv,.int .u8 (op:Int),.int .i64 (more:Int),v] [fRp sv f.stack,fRp v xs] [] (RPay p):=by
 have hhad:f.mem.length/32≤32768:=by omega
 have hi:=info_spec op hop
 unfold infoV at hi
 have hre:=reach_spec f.mem v xs hm h1
 have his:=is_spec op hop
 have hown:=fun sv=>own_spec f sv oM
 obtain ⟨_,_,hgm⟩:=row_le hop
 unfold payF at hp
 unfold gasN at hp hgm
 unfold popsN at hp hpop
 generalize (infoN op).getD noRow=r at hi hp hgm hpop
 cases hr:reachF (f.mem.length/32) (prs xs) with
 | none=>rw [hr] at hp;cases hp
 | some w =>
 rw [hr] at hp hre
 dsimp only at hp
 unfold reachV at hre
 dsimp only at hre
 have hw:=reachF_max _ _ _ hhad hr
 have hgr:=grow_spec f.mem (w:Int) hm h32 oM oM
 rw [Int.toNat_natCast] at hgr
 have m1:=costF_max w
 have m2:=costF_max (f.mem.length/32)
 generalize costF w=cw at hp hre m1
 generalize costF (f.mem.length/32)=ch at hp hre m2
 by_cases hg:f.gas<(cw:Int)-(ch:Int)+(r.gas:Int)+(more:Int)
 ·rw [if_pos hg] at hp;cases hp
 rw [if_neg hg,show (cw:Int)-(ch:Int)+(r.gas:Int)+(more:Int)=(cw:Int)-(ch:Int)+((r.gas+more:Nat):Int) from by omega] at hp
 generalize (infoN op).isSome=is at hi
 cases hC:isC op with
 | true =>
  rw [hC] at his hp
  cases hp
  refine Fn.enter func104 rfl ntmps104 oI (fun I0 w0 => ?_)
  refine W.bare (G.slice sv f.stack ?_)
  intro a1 c1 e1 k1
  subst e1
  repeat refine sq ?_;try intro
  refine cV hi ?_
  repeat refine sq ?_;try intro
  refine cV hre ?_
  repeat refine sq ?_;try intro
  refine OpK.call rfl rfl rfl rfl (hown _) oY oP ?_
  rintro u Φ' Mc' ⟨v2,o,hv,rfl,rfl,rfl⟩
  refine G.perm ?_ oH
  obtain ⟨a2,c2,rfl⟩:=own_open hv
  refine nA ?_
  repeat refine sq ?_;try intro
  refine cV hgr ?_
  repeat refine sq ?_;try intro
  refine cV his ?_
  repeat refine sq ?_;try intro
  exact G.ret rfl (.cons (.cellA rfl rfl) (.cons (.tmp rfl) .nil)) (Φ':=[fRow (ocells o) f.stack]) (M':=ownM 24 o) oY (.cons _ (.cons _ (.cons _ oZ))) ⟨_,o,hv,rfl,rfl,rfl⟩
 | false =>
  rw [hC] at his hp
  rw [if_neg Bool.false_ne_true] at hp
  cases hp
  refine Fn.enter func104 rfl ntmps104 oI (fun I0 w0 => ?_)
  refine W.bare (G.slice sv f.stack ?_)
  intro a1 c1 e1 k1
  subst e1
  repeat refine sq ?_;try intro
  refine cV hi ?_
  repeat refine sq ?_;try intro
  refine cV hre ?_
  repeat refine sq ?_;try intro
  refine OpK.call rfl rfl rfl rfl (hown _) oY oP ?_
  rintro u Φ' Mc' ⟨v2,o,hv,rfl,rfl,rfl⟩
  refine G.perm ?_ oH
  cases o with
  | none =>
   obtain ⟨rfl,hn0⟩:=hv
   dsimp only [List.cons_append,List.nil_append,ownM,ocells]
   have hp0:r.pops=0:=by omega
   repeat refine sq ?_;try intro
   refine cV hgr ?_
   repeat refine sq ?_;try intro
   refine cV his ?_
   repeat refine sq ?_;try intro
   refine o_cutNil rfl rfl rfl rfl oM ?_
   repeat refine sq ?_;try intro
   refine G.learn (fRow [] (f.stack.take (f.stack.length-r.pops))) (e:=⟨fun I hp=>RowRep.take (hp (fRow [] f.stack) oI) _⟩) ?_
   exact G.ret rfl (.cons (.cellA rfl rfl) (.cons (.tmp rfl) .nil)) (Φ':=[fRow [] (f.stack.take (f.stack.length-r.pops))]) (M':=[]) oY oN ⟨_,none,⟨rfl,by show (f.stack.take (f.stack.length-r.pops)).length=0;rw [List.length_take];omega⟩,rfl,rfl,rfl⟩
  | some q =>
   obtain ⟨b,cs⟩:=q
   obtain ⟨c2,rfl,hc1,hc2⟩:=hv
   dsimp only [List.cons_append,List.nil_append,ownM,ocells]
   repeat refine sq ?_;try intro
   refine cV hgr ?_
   repeat refine sq ?_;try intro
   refine cV his ?_
   repeat refine sq ?_;try intro
   refine o_cutO (f.stack.length-r.pops) rfl rfl rfl ⟨_,_,rfl,by omega⟩ oM ?_
   repeat refine sq ?_;try intro
   refine G.learn (fRow cs (f.stack.take (f.stack.length-r.pops))) (e:=⟨fun I hp=>RowRep.take (hp (fRow cs f.stack) oI) _⟩) ?_
   exact G.ret rfl (.cons (.cellA rfl rfl) (.cons (.tmp rfl) .nil)) (Φ':=[fRow cs (f.stack.take (f.stack.length-r.pops))]) (M':=[(b,Ob cs 24)]) oY (.cons _ (.cons _ (.cons _ oZ))) ⟨_,some (b,cs),⟨c2,by show _=Value.slice (some ⟨b,0,none⟩) (f.stack.take (f.stack.length-r.pops)).length c2;rw [List.length_take,Nat.min_eq_left (Nat.sub_le _ _)],hc1,by show (f.stack.take (f.stack.length-r.pops)).length≤c2;rw [List.length_take];omega⟩,rfl,rfl,rfl⟩
def RNo (f:Frm):Value→List Fa→Own→Prop:=fun u Φ' M' => ∃ a c,u = .tuple #[frmV f (.slice a f.stack.length c),.bool false]∧Φ'=[fRp (.slice a f.stack.length c) f.stack]∧M'=[]
theorem pay_none (f:Frm) (sv v:Value) (op more:Nat) (xs:List Spn) (hop:op<256) (hp:payF f op more (prs xs)=none) (hm:f.mem.length≤1048576) (hmore:more≤1000000000) (hg1:0≤f.gas) (hg2:f.gas≤1000000000000) (h1:xs.length≤1000000) :
  Fn prog 104 [frmV f sv,.int .u8 (op:Int),.int .i64 (more:Int),v] [fRp sv f.stack,fRp v xs] [] (RNo f):=by
 have hhad:f.mem.length/32≤32768:=by omega
 have hi:=info_spec op hop
 unfold infoV at hi
 have hre:=reach_spec f.mem v xs hm h1
 obtain ⟨_,_,hgm⟩:=row_le hop
 unfold payF at hp
 unfold gasN at hp hgm
 unfold popsN at hp
 generalize (infoN op).getD noRow=r at hi hp hgm
 generalize (infoN op).isSome=is at hi
 cases hr:reachF (f.mem.length/32) (prs xs) with
 | none =>
  rw [hr] at hre
  unfold reachV at hre
  dsimp only at hre
  generalize f.mem.length/32=had at hre hhad
  refine Fn.enter func104 rfl ntmps104 oI (fun I0 w0 => ?_)
  refine W.bare (G.slice sv f.stack ?_)
  intro a1 c1 e1 k1
  subst e1
  repeat refine sq ?_;try intro
  refine cV hi ?_
  repeat refine sq ?_;try intro
  refine cV hre ?_
  repeat refine sq ?_;try intro
  exact G.ret rfl (.cons (.cellA rfl rfl) (.cons (.tmp rfl) .nil)) (Φ':=[fRp (.slice a1 f.stack.length c1) f.stack]) (M':=[]) oY oN ⟨a1,c1,rfl,rfl,rfl⟩
 | some w =>
  rw [hr] at hp hre
  dsimp only at hp
  unfold reachV at hre
  dsimp only at hre
  have m1:=costF_max w
  have m2:=costF_max (f.mem.length/32)
  generalize costF w=cw at hp hre m1
  generalize costF (f.mem.length/32)=ch at hp hre m2
  by_cases hg:f.gas<(cw:Int)-(ch:Int)+(r.gas:Int)+(more:Int)
  ·refine Fn.enter func104 rfl ntmps104 oI (fun I0 w0 => ?_)
   refine W.bare (G.slice sv f.stack ?_)
   intro a1 c1 e1 k1
   subst e1
   repeat refine sq ?_;try intro
   refine cV hi ?_
   repeat refine sq ?_;try intro
   refine cV hre ?_
   repeat refine sq ?_;try intro
   exact G.ret rfl (.cons (.cellA rfl rfl) (.cons (.tmp rfl) .nil)) (Φ':=[fRp (.slice a1 f.stack.length c1) f.stack]) (M':=[]) oY oN ⟨a1,c1,rfl,rfl,rfl⟩
  ·rw [if_neg hg] at hp
   cases hp
end Go.Rail
