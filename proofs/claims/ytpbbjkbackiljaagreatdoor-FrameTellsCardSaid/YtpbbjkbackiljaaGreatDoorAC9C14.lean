/- stack: what is taken from the top, and what changes places. -/
import Derived.Test.YtpbbjkbackiljaaGreatDoorRailA
import Derived.Test.YtpbbjkbackiljaaGreatDoorRailC
import Derived.Test.YtpbbjkbackiljaaGreatDoorAC13C8
import Derived.Test.YtpbbjkbackiljaaGreatDoorRailB
import Derived.Test.YtpbbjkbackiljaaGreatDoorRailD
set_option linter.unusedSimpArgs false
set_option linter.unusedVariables false
namespace Go.Rail
open Go Go.Proofs Tryz
set_option maxHeartbeats 400000
set_option maxRecDepth 4000
attribute [local irreducible] OpK G W LW wpListIn Exit.then Exit.inBlock Post rounds opRun bodyPostM intOp
set_option maxHeartbeats 4000000
def backE (xs:List Word):List (List Value):=(List.range xs.length).map fun k=>[.int .i64 ((xs.length-1-k:Nat):Int),(xs.getD (xs.length-1-k) .zero).v]
theorem backE_len (xs:List Word):(backE xs).length=xs.length:=by simp [backE]
theorem backE_two (xs:List Word) : ∀ vs∈backE xs,vs.length=2:=by
 intro vs h
 obtain ⟨p,_,rfl⟩:=List.mem_map.1 h
 rfl
theorem backE_at (xs:List Word) (k:Nat) (h:k<(backE xs).length):(backE xs)[k]=[.int .i64 ((xs.length-1-k:Nat):Int),(xs.getD (xs.length-1-k) .zero).v]:=by simp [backE]
theorem back1_spec (b:Nat) (v:Value) (xs:List Word) (hx:xs.length≤100000):IterR prog 309 [.pointer (some ⟨b,0,none⟩)] (backE xs) [fBlk b [v] 159,fRp v xs]:=by
 intro l T Z hy s0 hs0
 have hy' : ∀ k,k<xs.length → ∀ s,T k s→FnY prog l [.int .i64 ((xs.length-1-k:Nat):Int),(xs.getD (xs.length-1-k) .zero).v] s.1 s.2 (YRr (T (k+1)) Z):=fun k h s hs=>by
  have:=hy k (by rw [backE_len];exact h) s hs
  rwa [backE_at] at this
 rw [backE_len]
 clear hy
 show Fn _ _ _ (fBlk b [v] 159::fRp v xs::s0.1) _ _
 refine Fn.enter func309 rfl ntmps309 oI (fun I0 w0 => ?_)
 repeat refine s5 ?_;try intro
 refine W.loopI (fun (i:Nat × St)=>(fBlk b [v] 159::fRp v xs::i.2.1,[(0,.func (.yield l) #[] #[]),(1,.pointer (some ⟨b,0,none⟩)),(3,.int .i64 ((i.1:Int)-1))],i.2.2)) (fun i=>i.1≤xs.length∧T (xs.length-i.1) i.2) (fun i=>i.1) (xs.length,s0) ⟨Nat.le_refl _,by rw [Nat.sub_self];exact hs0⟩ ⟨fun I hp φ hφ=>hp φ hφ⟩ (lC rfl (lC rfl (lC rfl lN))) oZ ?_
 rintro ⟨i,st⟩ ⟨hi,hst⟩
 dsimp only at hi hst ⊢
 by_cases hi0:i=0
 ·subst hi0
  repeat refine s5 ?_;try intro
  exact G.fin rfl .nil (Φ':=st.1) (M':=st.2) ⟨fun I hp φ hφ=>hp φ (.tail _ (.tail _ hφ))⟩ oZ (.inl hst)
 obtain ⟨j,rfl⟩ : ∃ j,i=j+1:=⟨i-1,by omega⟩
 rw [show (((j+1:Nat):Int)-1)=(j:Int) from by omega]
 have hj:j<xs.length:=by omega
 have hg:xs.getD j .zero=xs[j]:=by simp [List.getD,List.getElem?_eq_getElem hj]
 have hyk:=hy' (xs.length-(j+1)) oM st hst
 rw [show xs.length-1-(xs.length-(j+1))=j from by omega,show xs.length-(j+1)+1=xs.length-j from by omega,hg] at hyk
 repeat refine s5 ?_;try intro
 refine o_yieldR (Mr:=[]) rfl rfl rfl rfl hyk (fun I hp φ hφ=>hp φ (by simp [hφ])) oI ?_ ?_
 ·intro st2 hst2
  repeat refine s5 ?_;try intro
  refine G.again (S:=Nat × St) (j,st2) (by dsimp only;omega) ⟨by dsimp only;omega,hst2⟩ ⟨fun I hp φ hφ => ?_⟩ (lC rfl (lC rfl (lC rfl lN))) oI
  rcases List.mem_cons.1 hφ with rfl|hφ
  ·exact hp _ oI
  ·rcases List.mem_cons.1 hφ with rfl|hφ
   ·exact hp _ oI
   ·exact hp _ (by simp [hφ])
 ·intro s hs
  repeat refine s5 ?_;try intro
  exact G.ret rfl .nil (Φ':=s.1) (M':=s.2) ⟨fun I hp φ hφ=>hp φ (by simp [hφ])⟩ oI (.inr hs)
theorem back_spec (v:Value) (xs:List Word):Fn prog 251 [v] [fRp v xs] [] (fun u Φ' M' => ∃ b,u = .func (.func 309) #[] #[.pointer (some ⟨b,0,none⟩)]∧Φ'=[fBlk b [v] 159]∧M'=[]):=by
 refine Fn.enter func251 rfl ntmps251 oI (fun I0 w0 => ?_)
 refine W.bare (G.slice v xs ?_)
 intro a c e _
 subst e
 repeat refine s5 ?_;try intro
 rename_i b
 refine o_func rfl rfl rfl rfl ?_
 repeat refine s5 ?_;try intro
 refine G.give b (cs:=[.slice a xs.length c]) (t:=159) ?_
 exact G.ret rfl (.cons (.tmp rfl) .nil) (Φ':=[fBlk b [.slice a xs.length c] 159]) (M':=[]) oY oN ⟨b,rfl,rfl,rfl⟩
theorem top_spec (v:Value) (xs:List Word):Fn prog 167 [v] [fRp v xs] [] (fun u Φ' M' => ∃ b,u = .func (.func 250) #[] #[.pointer (some ⟨b,0,none⟩)]∧Φ'=[fBlk b [v] 159]∧M'=[]):=by
 refine Fn.enter func167 rfl ntmps167 oI (fun I0 w0 => ?_)
 refine W.bare (G.slice v xs ?_)
 intro a c e _
 subst e
 repeat refine s5 ?_;try intro
 rename_i b
 refine o_func rfl rfl rfl rfl ?_
 repeat refine s5 ?_;try intro
 refine G.give b (cs:=[.slice a xs.length c]) (t:=159) ?_
 exact G.ret rfl (.cons (.tmp rfl) .nil) (Φ':=[fBlk b [.slice a xs.length c] 159]) (M':=[]) oY oN ⟨b,rfl,rfl,rfl⟩
def topE (xs:List Word):List (List Value):=xs.reverse.map fun w=>[w.v]
theorem topE_len (xs:List Word):(topE xs).length=xs.length:=by simp [topE]
theorem topE_one (xs:List Word) : ∀ vs∈topE xs,vs.length=1:=by
 intro vs h
 obtain ⟨p,_,rfl⟩:=List.mem_map.1 h
 rfl
theorem topE_at (xs:List Word) (k:Nat) (h:k<(topE xs).length):(topE xs)[k]=[(xs.getD (xs.length-1-k) .zero).v]:=by
 rw [topE_len] at h
 have h2:xs.length-1-k<xs.length:=by omega
 simp [topE,List.getD,List.getElem?_eq_getElem h2]
theorem top1_spec (b:Nat) (v:Value) (xs:List Word) (hx:xs.length≤100000):IterR prog 250 [.pointer (some ⟨b,0,none⟩)] (topE xs) [fBlk b [v] 159,fRp v xs]:=by
 intro l T Z hy s0 hs0
 have hy' : ∀ k,k<xs.length → ∀ s,T k s→FnY prog l [(xs.getD (xs.length-1-k) .zero).v] s.1 s.2 (YRr (T (k+1)) Z):=fun k h s hs=>by
  have:=hy k (by rw [topE_len];exact h) s hs
  rwa [topE_at] at this
 rw [topE_len]
 clear hy
 show Fn _ _ _ (fBlk b [v] 159::fRp v xs::s0.1) _ _
 refine Fn.enter func250 rfl ntmps250 oI (fun I0 w0 => ?_)
 repeat refine s5 ?_;try intro
 rename_i b2
 refine OpK.call rfl rfl rfl rfl (back_spec v xs) oY (Mr:=_) oP ?_
 rintro u Φ' Mc' ⟨b6,rfl,rfl,rfl⟩
 refine nA ?_
 repeat refine s5 ?_;try intro
 refine W.rangeFuncR (enc:=backE xs) (ps:=[7,8]) (Φi:=[fBlk b6 [v] 159,fRp v xs]) (Mr:=[]) (fun k s => ∃ t,T k t∧s=(t.1,(b2,Ob [.func (.yield l) #[] #[]] 224)::t.2)) (fun c s=>c = .ret ∧ ∃ z,Z z∧s=(z.1,(b2,Ob [.func (.yield l) #[] #[]] 224)::z.2)) rfl (back1_spec b6 _ xs hx) oE (backE_two xs) oY (s0.1,(b2,Ob [.func (.yield l) #[] #[]] 224)::s0.2) ⟨s0,hs0,rfl⟩ ⟨fun I hp φ hφ=>hp φ (by simp [hφ])⟩ (by dsimp only;rw [List.append_nil];exact List.Perm.refl _) ?_ ?_ ?_
 ·rintro l' rec I0' w0' k hk _ ⟨st,hst,rfl⟩
  rw [backE_len] at hk
  rw [backE_at]
  dsimp only
  have hyk:=hy' k hk st hst
  generalize xs.getD (xs.length-1-k) .zero=w at hyk ⊢
  repeat refine s5 ?_;try intro
  refine G.begin (by rfl) ?_
  repeat refine s5 ?_;try intro
  refine o_yieldR (Mr:=[_,_,_]) rfl rfl rfl rfl hyk (fun I hp φ hφ=>hp φ (by simp [hφ])) (oH (l₁:=[_,_,_])) ?_ ?_
  ·intro st2 hst2
   refine G.perm ?_ oH
   refine nA ?_
   repeat refine s5 ?_;try intro
   exact G.roundEnd oY (Φ':=st2.1) (M'':=(b2,Ob [.func (.yield l) #[] #[]] 224)::st2.2) (.inl ⟨rfl,(st2.1,(b2,Ob [.func (.yield l) #[] #[]] 224)::st2.2),⟨st2,hst2,rfl⟩,rfl⟩) ⟨fun I hp φ hφ=>hp φ (by simp [hφ])⟩ (.cons _ oZ)
  ·intro s hs
   refine G.perm ?_ oH
   refine nA ?_
   repeat refine s5 ?_;try intro
   exact G.roundRet oY (Φ':=s.1) (M'':=(b2,Ob [.func (.yield l) #[] #[]] 224)::s.2) (.inr ⟨rfl,.ret,(s.1,(b2,Ob [.func (.yield l) #[] #[]] 224)::s.2),⟨rfl,s,hs,rfl⟩,rfl⟩) ⟨fun I hp φ hφ=>hp φ (by simp [hφ])⟩ (.cons _ oZ)
 ·rintro D _ ⟨st,hst,rfl⟩
  rw [backE_len] at hst
  refine G.perm ?_ oH
  refine nA ?_
  repeat refine s5 ?_;try intro
  refine G.unmarkN oY ?_
  exact G.ret rfl .nil (Φ':=st.1) (M':=st.2) ⟨fun I hp φ hφ=>hp φ (by simp [hφ])⟩ (.cons _ oZ) (.inl hst)
 ·rintro D c' s ⟨rfl,z,hz,rfl⟩
  refine W.bare (G.perm ?_ oH)
  refine nA ?_
  refine G.code ?_
  repeat refine s5 ?_;try intro
  refine G.unmark oY ?_
  exact G.ret rfl .nil (Φ':=z.1) (M':=z.2) ⟨fun I hp φ hφ=>hp φ (by simp [hφ])⟩ (.cons _ oZ) (.inr hz)
theorem appW_spec (b:Nat) (v:Value) (xs:List Word) (hx:xs.length≤100000):Fn prog 249 [.slice none 0 0,.func (.func 250) #[] #[.pointer (some ⟨b,0,none⟩)]] [fBlk b [v] 159,fRp v xs] [] (ROwn 49 xs.reverse):=by
 refine Fn.enter func249 rfl ntmps249 oI (fun I0 w0 => ?_)
 repeat refine s5 ?_;try intro
 rename_i b2
 refine W.rangeFuncR (enc:=topE xs) (ps:=[7]) (Φi:=[fBlk b [v] 159,fRp v xs]) (Mr:=[]) (fun k s => ∃ w o,IsOwn 4 w (xs.reverse.take k).length o∧s=([fRow (ocells o) (xs.reverse.take k)],(b2,Ob [w] 23)::ownM 49 o)) (fun _ _=>False) rfl (top1_spec b v xs hx) oE (topE_one xs) oY ([fRow ([]:List Value) ([]:List Word)],[(b2,Ob [.slice none 0 0] 23)]) ⟨_,none,⟨rfl,rfl⟩,rfl⟩ oY oP ?_ ?_ ?_
 ·rintro l rec I0' w0' k hk _ ⟨w,o,hown,rfl⟩
  rw [topE_len] at hk
  have hk2:k<xs.reverse.length:=by simpa using hk
  have htk:xs.reverse.take k++[xs.reverse[k]]=xs.reverse.take (k+1):=by rw [List.take_succ_eq_append_getElem hk2]
  have htl:(xs.reverse.take k).length=k:=by rw [List.length_take];omega
  have he:(topE xs)[k]'(by rw [topE_len];exact hk)=[(xs.reverse[k]).v]:=by simp [topE]
  dsimp only
  rw [he]
  generalize xs.reverse[k]=e at htk ⊢
  show W _ _ _ _ ((7,e.v)::_) _
  repeat refine s5 ?_;try intro
  refine G.begin (by rfl) ?_
  repeat refine s5 ?_;try intro
  refine o_lit (xs:=[e]) ⟨by decide,rfl,by decide⟩ rfl rfl rfl ⟨fun _ _=>Rp.flat.2 rfl,trivial⟩ rfl ?_
  intro p1
  repeat refine s5 ?_;try intro
  refine o_app2 (Mr:=[_,_,_]) o (xs:=xs.reverse.take k) (ys:=[e]) hown ⟨by simp;omega,by simp;omega,rfl⟩ rfl rfl rfl rfl oY oY oP ?_
  intro w' o' hown'
  rw [htk] at hown' ⊢
  refine nA ?_
  repeat refine s5 ?_;try intro
  refine o_store (vs:=[w']) (cs':=[w']) rfl rfl rfl (own_cell hown').1 rfl (Nat.le_of_ble_eq_true rfl) (own_cell hown').2 rfl ?_
  repeat refine s5 ?_;try intro
  refine G.roundEnd oY (Φ':=[fRow (ocells o') (xs.reverse.take (k+1))]) (M'':=(b2,Ob [w'] 23)::ownM 49 o') ?_ oY (by first|exact List.Sublist.refl _|exact .cons _ oZ)
  exact Or.inl ⟨rfl,([fRow (ocells o') (xs.reverse.take (k+1))],(b2,Ob [w'] 23)::ownM 49 o'),⟨w',o',hown',rfl⟩,rfl⟩
 ·rintro D _ ⟨w,o,hown,rfl⟩
  rw [topE_len,show xs.reverse.take xs.length=xs.reverse from List.take_of_length_le oI] at hown ⊢
  refine G.perm ?_ oH
  refine nA ?_
  repeat refine s5 ?_;try intro
  refine G.unmark oY ?_
  exact G.ret rfl (.cons (.tmp rfl) .nil) (Φ':=[fRow (ocells o) xs.reverse]) (M':=ownM 49 o) oY (List.sublist_cons_self _ _) ⟨o,hown,rfl,rfl⟩
 ·intro D c s h
  exact h.elim
theorem collW_spec (b:Nat) (v:Value) (xs:List Word) (hx:xs.length≤100000):Fn prog 166 [.func (.func 250) #[] #[.pointer (some ⟨b,0,none⟩)]] [fBlk b [v] 159,fRp v xs] [] (ROwn 49 xs.reverse):=by
 refine Fn.enter func166 rfl ntmps166 oI (fun I0 w0 => ?_)
 repeat refine s5 ?_;try intro
 refine o_callO rfl rfl rfl rfl (appW_spec b v xs hx) ?_
 intro v' o hown
 repeat refine s5 ?_;try intro
 refine G.ret rfl (.cons (.tmp rfl) .nil) (Φ':=[fRow (ocells o) xs.reverse]) (M':=ownM 49 o) oY oZ ⟨o,hown,rfl,rfl⟩
def RP3 (e:Int) (ys zs:List Word):Value→List Fa→Own→Prop:=fun u Φ' M' => ∃ v1 v2,u = .tuple #[v1,v2,.int .i64 e]∧Φ'=[fRp v1 ys,fRp v2 zs]∧M'=[]
def popL (s:List Word) (n:Nat):List Word × List Word × Int:=if wrongL s n 0=0 then (s.take (s.length-n),(s.drop (s.length-n)).reverse,0) else (s,[],wrongL s n 0)
theorem pop_spec (v:Value) (s:List Word) (n:Nat) (hn:n≤1000) (hs:s.length≤100000):Fn prog 87 [v,.int .i64 n] [fRp v s] [] (RP3 (popL s n).2.2 (popL s n).1 (popL s n).2.1):=by
 have hw:=fun w=>wrong_spec w s n 0 hs
 refine Fn.enter func87 rfl ntmps87 oI (fun I0 w0 => ?_)
 unfold popL
 by_cases h:wrongL s n 0=0
 ·have hl:n≤s.length:=by
   unfold wrongL at h
   by_cases h1:1024<s.length∨(n:Int)<0
   ·rw [if_pos h1] at h;cases h
   ·rw [if_neg h1] at h
    by_cases h2:(s.length:Int)<n
    ·rw [if_pos h2] at h;cases h
    ·omega
  have hcl:=fun w=>Fn.given (cloneW_spec w (s.take (s.length-n)) (by rw [List.length_take];omega))
  rw [if_pos h]
  rw [h] at hw
  repeat refine s5 ?_;try intro
  refine cV (hw v) ?_
  repeat refine s5 ?_;try intro
  rw [show (s.length:Int)-(n:Int)=((s.length-n:Nat):Int) from by omega]
  refine W.draw 9 [⟨?v0_1,fun _ z=>[]⟩,⟨?v1_1,fun _ z=>[]⟩,⟨fun _ z=>z,fun _ z=>[fRp z (s.take (s.length-n))]⟩,⟨fun _ z=>z,fun _ z=>[fRp z (s.take (s.length-n))]⟩,⟨?v4_1,fun _ z=>[]⟩,⟨?v5_1,fun _ z=>[]⟩,⟨fun _ z=>z,fun _ z=>[fRp z (s.drop (s.length-n))]⟩,⟨fun c z => .func (.func 250) #[] #[.pointer (some ⟨pb z,0,none⟩)],fun c z=>[fBlk (pb z) [(c 6)] 159]⟩,⟨fun _ z=>z,fun _ z=>[fRp z (s.drop (s.length-n)).reverse]⟩] [[],[],[0,1],[2],[],[],[4,5],[6],[6,7]] [3,8] kR kR kR kR ?loc_1 ?ops_1 ?rest_1
  case ops_1 =>
   simp only [AllQ,Nat.reduceAdd,and_true]
   refine ⟨?_,?_,?_,?_,?_,?_,?_,?_,?_⟩
   all_goals (intro c z0 Φr Lr K hK;dsimp only [dstOf,kval,kfac,ancE,ancF,getD_z,getD_s,List.getElem?_cons_zero,List.getElem?_cons_succ,List.getElem?_nil,Option.getD_some,Option.getD_none,List.nil_append,List.cons_append,Option.getD] at hK ⊢)
   ·refine stp ?_;exact hK z0
   ·refine stp ?_;exact hK z0
   ·refine o_slice (xs:=s) 0 (s.length-n) rfl rfl rfl rfl ⟨_,_,rfl,rfl⟩ (Nat.zero_le _) oM ?_;intro z;rw [List.drop_zero];exact hK _
   ·refine o_callD rfl rfl rfl rfl (hcl _) ?_;intro z;exact hK _
   ·refine stp ?_;exact hK z0
   ·refine stp ?_;exact hK z0
   ·refine o_slice (xs:=s) (s.length-n) s.length rfl rfl rfl ⟨_,_,rfl,rfl⟩ rfl oM (Nat.le_refl _) ?_;intro z;rw [List.take_length];exact hK _
   ·refine OpK.call rfl rfl rfl rfl (top_spec _ (s.drop (s.length-n))) oY (Mr:=_) oP ?_;rintro u Φ' Mc' ⟨b,rfl,rfl,rfl⟩;exact hK (.pointer (some ⟨b,0,none⟩))
   ·refine o_callD rfl rfl rfl rfl (Fn.given (collW_spec (pb (c 7)) (c 6) (s.drop (s.length-n)) (by rw [List.length_drop];omega))) ?_;intro z;exact hK _
  case loc_1 =>
   simp only [AllL,Nat.reduceAdd,and_true]
   refine ⟨?_,?_,?_,?_,?_,?_,?_,?_,?_⟩
   ·exact fun _ _ _ _=>⟨rfl,rfl⟩
   ·exact fun _ _ _ _=>⟨rfl,rfl⟩
   ·exact fun _ _ _ _=>⟨rfl,rfl⟩
   ·exact fun _ _ _ _=>⟨rfl,rfl⟩
   ·exact fun _ _ _ _=>⟨rfl,rfl⟩
   ·exact fun _ _ _ _=>⟨rfl,rfl⟩
   ·exact fun _ _ _ _=>⟨rfl,rfl⟩
   ·intro c c' z h;simp only [getD_s,getD_z,h 6 kR,and_self]
   ·exact fun _ _ _ _=>⟨rfl,rfl⟩
  intro c
  dsimp only [dstOf,kval,kfac,ancE,ancF,getD_z,getD_s,List.getElem?_cons_zero,List.getElem?_cons_succ,List.getElem?_nil,Option.getD_some,Option.getD_none,List.nil_append,List.cons_append,List.drop_succ_cons,List.drop_zero,Option.getD]
  repeat refine s5 ?_;try intro
  exact G.ret rfl (.cons (.tmp rfl) (.cons (.tmp rfl) (.cons (.tmp rfl) .nil))) (Φ':=[fRp _ (s.take (s.length-n)),fRp _ (s.drop (s.length-n)).reverse]) (M':=[]) oY oN ⟨_,_,rfl,rfl,rfl⟩
 ·rw [if_neg h]
  have hcl:=fun w=>Fn.given (cloneW_spec w s oM)
  repeat refine s5 ?_;try intro
  refine cV (hw v) ?_
  repeat refine s5 ?_;try intro
  refine o_callD rfl rfl rfl rfl (hcl v) ?_
  intro r
  repeat refine s5 ?_;try intro
  refine G.learn (fRp (.slice none 0 0) ([]:List Word)) (e:=⟨fun I hp=>Rp.nil none 0⟩) ?_
  exact G.ret rfl (.cons (.tmp rfl) (.cons (.tmp rfl) (.cons (.tmp rfl) .nil))) (Φ':=[fRp r s,fRp _ ([]:List Word)]) (M':=[]) oY oN ⟨_,_,rfl,rfl,rfl⟩
end Go.Rail
namespace Go.Rail
open Go Go.Proofs Tryz
set_option maxHeartbeats 400000
set_option maxRecDepth 4000
attribute [local irreducible] OpK G W LW wpListIn Exit.then Exit.inBlock Post rounds opRun bodyPostM intOp
set_option maxHeartbeats 4000000
attribute [local irreducible] lexN cmpW Word.nat subW mulW
def byN (n:Nat):List UInt8:=(List.range 32).map fun k=>UInt8.ofNat (n/2^(8*(31-k))%256)
theorem byN_len (n:Nat):(byN n).length=32:=by simp [byN]
def u8E (xs:List UInt8):List (List Value):=xs.map fun (x:UInt8)=>[.int .u8 ((x.toNat:Nat):Int)]
theorem u8E_len (xs:List UInt8):(u8E xs).length=xs.length:=by simp [u8E]
theorem u8E_at (xs:List UInt8) (k:Nat) (h:k<(u8E xs).length) (h':k<xs.length):(u8E xs)[k]=[.int .u8 ((xs[k].toNat:Nat):Int)]:=by simp [u8E]
theorem u8E_one (xs:List UInt8) : ∀ vs∈u8E xs,vs.length=1:=by
 intro vs h
 obtain ⟨p,_,rfl⟩:=List.mem_map.1 h
 rfl
theorem byN_at (n k:Nat) (h:k<32):(byN n)[k]? = some (UInt8.ofNat (n/2^(8*(31-k))%256)):=by simp [byN,h]
theorem oct1_spec (b n:Nat):IterR prog 257 [.pointer (some ⟨b,0,none⟩)] (u8E (byN n)) [fBlk b (numC 4 n) 49]:=by
 intro l T Z hy s0 hs0
 have hy' : ∀ k,k<32 → ∀ s,T (31-k) s→FnY prog l [.int .u8 ((n/2^(8*k)%256:Nat):Int)] s.1 s.2 (YRr (T (32-k)) Z):=fun k h s hs=>by
  have:=hy (31-k) (by rw [u8E_len,byN_len];omega) s hs
  have e:=byN_at n (31-k) oM
  obtain ⟨_,e⟩:=List.getElem?_eq_some_iff.1 e
  rw [u8E_at _ _ _ (by rw [byN_len];omega),e,show 31-(31-k)=k from by omega,show 31-k+1=32-k from by omega,UInt8.toNat_ofNat'] at this
  rwa [Nat.mod_mod] at this
 rw [u8E_len,byN_len]
 clear hy
 show Fn _ _ _ (fBlk b (numC 4 n) 49::s0.1) _ _
 refine Fn.enter func257 rfl ntmps257 oI (fun I0 w0 => ?_)
 repeat refine st ?_;try intro
 refine W.lp (fun (i:Nat × St)=>(fBlk b (numC 4 n) 49::i.2.1,[(0,.func (.yield l) #[] #[]),(1,.pointer (some ⟨b,0,none⟩)),(3,.int .i64 ((i.1:Int)-1))],i.2.2)) (fun i=>i.1≤32∧T (32-i.1) i.2) (fun i=>i.1) (32,s0) ?_ (h0:=⟨Nat.le_refl _,by rw [Nat.sub_self];exact hs0⟩) (hΦ:=⟨fun I hp φ hφ=>hp φ hφ⟩)
 rintro ⟨i,sa⟩ ⟨hi,hsa⟩
 dsimp only at hi hsa ⊢
 by_cases hi0:i=0
 ·subst hi0
  repeat refine st ?_;try intro
  exact G.fin rfl .nil (Φ':=sa.1) (M':=sa.2) ⟨fun I hp φ hφ=>hp φ (.tail _ hφ)⟩ oZ (.inl hsa)
 obtain ⟨j,rfl⟩ : ∃ j,i=j+1:=⟨i-1,by omega⟩
 rw [show (((j+1:Nat):Int)-1)=(j:Int) from by omega]
 have hyk:=hy' j oM sa (by rw [show 31-j=32-(j+1) from by omega];exact hsa)
 repeat refine st ?_;try intro
 have e:n/2^(64*(j/8))%18446744073709551616/2^(j%8*8)%256=n/2^(8*j)%256:=by
  have e1:n/2^(64*(j/8))%18446744073709551616/2^(j%8*8)=n/2^(64*(j/8))/2^(j%8*8)%2^(64-j%8*8):=by
   rw [show (18446744073709551616:Nat)=2^(j%8*8)*2^(64-j%8*8) from by rw [← Nat.pow_add,show j%8*8+(64-j%8*8)=64 from by omega],Nat.mod_mul_right_div_self]
  have e2:(2:Nat)^(64-j%8*8)=256*2^(56-j%8*8):=by
   rw [show (256:Nat)=2^8 from rfl,← Nat.pow_add,show 8+(56-j%8*8)=64-j%8*8 from by omega]
  rw [e1,e2,Nat.mod_mul_right_mod,Nat.div_div_eq_div_mul,← Nat.pow_add,show 64*(j/8)+j%8*8=8*j from by omega]
 rw [e]
 repeat refine st ?_;try intro
 refine o_yieldR (Mr:=[]) rfl rfl rfl rfl hyk (fun I hp φ hφ=>hp φ (by simp [hφ])) oI ?_ ?_
 ·intro st2 hst2
  repeat refine st ?_;try intro
  refine G.ag (S:=Nat × St) (j,st2) (hpre:=⟨by dsimp only;omega,hst2⟩) (hΦ:=⟨fun I hp φ hφ => ?_⟩) (hM:=by simp)
  rcases List.mem_cons.1 hφ with rfl|hφ
  ·exact hp _ oI
  ·exact hp _ (by simp [hφ])
 ·intro s hs
  repeat refine st ?_;try intro
  exact G.ret rfl .nil (Φ':=s.1) (M':=s.2) ⟨fun I hp φ hφ=>hp φ (by simp [hφ])⟩ oI (.inr hs)
theorem appB_spec (gf:FuncId) [HasFn prog gf] (lb:List Value) (xs:List UInt8) (Φi:List Fa) (hit:IterR prog gf lb (u8E xs) Φi) (hx:xs.length≤100000):Fn prog 256 [.slice none 0 0,.func (.func gf) #[] lb.toArray] Φi [] (ROwn 5 xs):=by
 refine Fn.enter func256 rfl ntmps256 oI (fun I0 w0 => ?_)
 repeat refine st ?_;try intro
 rename_i b2
 refine W.rangeFuncR (enc:=u8E xs) (ps:=[7]) (Φi:=Φi) (Mr:=[]) (fun k s => ∃ w o,IsOwn 1 w (xs.take k).length o∧s=([fRow (ocells o) (xs.take k)],(b2,Ob [w] 34)::ownM 5 o)) (fun _ _=>False) rfl hit oE (u8E_one xs) ⟨fun I hp=>hp⟩ ([fRow ([]:List Value) ([]:List UInt8)],[(b2,Ob [.slice none 0 0] 34)]) ⟨_,none,⟨rfl,rfl⟩,rfl⟩ oY oP ?_ ?_ ?_
 ·rintro l rec I0' w0' k hk _ ⟨w,o,hown,rfl⟩
  rw [u8E_len] at hk
  have htk:xs.take k++[xs[k]]=xs.take (k+1):=by rw [List.take_succ_eq_append_getElem hk]
  have htl:(xs.take k).length=k:=by rw [List.length_take];omega
  dsimp only
  rw [u8E_at xs k (by rw [u8E_len];exact hk) hk]
  generalize xs[k]=e at htk ⊢
  show W _ _ _ _ ((7,.int .u8 ((e.toNat:Nat):Int))::_) _
  repeat refine st ?_;try intro
  refine G.begin (by rfl) ?_
  repeat refine st ?_;try intro
  refine o_app2 (Mr:=[_,_]) o (xs:=xs.take k) (ys:=[e]) hown ⟨by simp;omega,by simp;omega,rfl⟩ rfl rfl rfl rfl oY oY oP ?_
  intro w' o' hown'
  rw [htk] at hown' ⊢
  refine nA ?_
  repeat refine st ?_;try intro
  refine o_store (vs:=[w']) (cs':=[w']) rfl rfl rfl (own_cell hown').1 rfl (Nat.le_of_ble_eq_true rfl) (own_cell hown').2 rfl ?_
  repeat refine st ?_;try intro
  refine G.roundEnd oY (Φ':=[fRow (ocells o') (xs.take (k+1))]) (M'':=(b2,Ob [w'] 34)::ownM 5 o') ?_ oY (by first|exact List.Sublist.refl _|exact .cons _ oZ)
  exact Or.inl ⟨rfl,([fRow (ocells o') (xs.take (k+1))],(b2,Ob [w'] 34)::ownM 5 o'),⟨w',o',hown',rfl⟩,rfl⟩
 ·rintro D _ ⟨w,o,hown,rfl⟩
  rw [u8E_len,List.take_length] at hown ⊢
  refine G.perm ?_ oH
  refine nA ?_
  repeat refine st ?_;try intro
  refine G.unmark oY ?_
  exact G.ret rfl (.cons (.tmp rfl) .nil) (Φ':=[fRow (ocells o) xs]) (M':=ownM 5 o) oY (List.sublist_cons_self _ _) ⟨o,hown,rfl,rfl⟩
 ·intro D c s h
  exact h.elim
theorem collB_spec (gf:FuncId) [HasFn prog gf] (lb:List Value) (xs:List UInt8) (Φi:List Fa) (hit:IterR prog gf lb (u8E xs) Φi) (hx:xs.length≤100000):FnD prog 173 [.func (.func gf) #[] lb.toArray] Φi (fun v=>[fRp v xs]):=by
 refine Fn.given (e:=5) ?_
 refine Fn.enter func173 rfl ntmps173 oI (fun I0 w0 => ?_)
 repeat refine st ?_;try intro
 refine o_callO (Φc:=Φi) rfl rfl rfl rfl (appB_spec gf lb xs Φi hit hx) (hΦ:=⟨fun I hp=>hp⟩) ?_
 intro v' o hown
 repeat refine st ?_;try intro
 refine G.ret rfl (.cons (.tmp rfl) .nil) (Φ':=[fRow (ocells o) xs]) (M':=ownM 5 o) oY oZ ⟨o,hown,rfl,rfl⟩
theorem octs_spec (n:Nat):Fn prog 174 [.agg (numC 4 n).toArray] [] [] (fun u Φ' M' => ∃ b,u = .func (.func 257) #[] #[.pointer (some ⟨b,0,none⟩)]∧Φ'=[fBlk b (numC 4 n) 49]∧M'=[]):=by
 refine Fn.enter func174 rfl ntmps174 oI (fun I0 w0 => ?_)
 repeat refine st ?_;try intro
 rename_i b
 refine o_func rfl rfl rfl rfl ?_
 repeat refine st ?_;try intro
 refine G.give b (cs:=numC 4 n) (t:=49) ?_
 exact G.ret rfl (.cons (.tmp rfl) .nil) (Φ':=[fBlk b (numC 4 n) 49]) (M':=[]) oY oN ⟨b,rfl,rfl,rfl⟩
theorem wbytes_spec (a:Word):FnV prog 91 [a.v] [] (.string (ba (byN a.num))):=by
 rw [v_num]
 refine Fn.enter func91 rfl ntmps91 oI (fun I0 w0 => ?_)
 repeat refine st ?_;try intro
 refine OpK.call rfl rfl rfl rfl (octs_spec a.num) oY (Mr:=_) oP ?_
 rintro u Φ' Mc' ⟨b,rfl,rfl,rfl⟩
 refine nA ?_
 repeat refine st ?_;try intro
 refine o_callD rfl rfl rfl rfl (collB_spec _ [.pointer (some ⟨b,0,none⟩)] (byN a.num) _ (oct1_spec b a.num) (by rw [byN_len];decide)) ?_
 intro v
 repeat refine st ?_;try intro
 refine G.retV ?_
 rfl
def byteW (i a:Word):Word:=if 32≤i.num then .zero else .nat (a.num/2^(8*(31-i.num))%256)
theorem bbyte_spec (a b:Word):FnV prog 159 [a.v,b.v] [] (byteW a b).v:=by
 have hl:=limit_spec a 32 oE
 have hb:=wbytes_spec b
 refine Fn.enter func159 rfl ntmps159 oI (fun I0 w0 => ?_)
 by_cases h:32≤a.num
 ·rw [show min a.num 32=32 from by omega] at hl
  repeat refine st ?_;try intro
  refine cV hl ?_
  repeat refine st ?_;try intro
  repeat refine st ?_;try intro
  refine G.retV ?_
  rw [byteW,if_pos h];rfl
 ·rw [show min a.num 32=a.num from by omega] at hl
  obtain ⟨hlt,he⟩:=List.getElem?_eq_some_iff.1 (byN_at b.num a.num oM)
  have hof:=wof_spec (b.num/2^(8*(31-a.num))%256) oM
  have e1:(UInt8.ofNat (b.num/2^(8*(31-a.num))%256)).toNat=b.num/2^(8*(31-a.num))%256:=by
   rw [UInt8.toNat_ofNat',Nat.mod_mod]
  repeat refine st ?_;try intro
  refine cV hl ?_
  repeat refine st ?_;try intro
  refine cV hb ?_
  repeat refine st ?_;try intro
  rw [he,e1]
  repeat refine st ?_;try intro
  refine cV hof ?_
  repeat refine st ?_;try intro
  refine G.retV ?_
  rw [byteW,if_neg h];rfl
def sarW (by_ a:Word):Word:=if negW a then notW (shrW by_ (notW a)) else shrW by_ a
instance (a b:Word) {Φ:List Fa}:CV prog 160 [a.v,b.v] Φ (shlW a b).v:=⟨Fn.weaken (bshl_spec a b)⟩
instance (a b:Word) {Φ:List Fa}:CV prog 161 [a.v,b.v] Φ (shrW a b).v:=⟨Fn.weaken (bshr_spec a b)⟩
theorem bsar_spec (a b:Word):FnV prog 162 [a.v,b.v] [] (sarW a b).v:=by
 refine Fn.enter func162 rfl ntmps162 oI (fun I0 w0 => ?_)
 unfold sarW
 cases h:negW b with
 | false =>
  repeat refine st ?_;try intro
  rw [h]
  repeat refine st ?_;try intro
  refine G.retV ?_
  rfl
 | true =>
  repeat refine st ?_;try intro
  rw [h]
  repeat refine st ?_;try intro
  refine W.drawA 3 [dq _,dq _,dq _] [[],[],[1]] [0,2] (hrest:=fun c=>nrm ?_)
  repeat refine st ?_;try intro
  refine G.retV ?_
  rfl
def signW (i a:Word):Word:=sarW (.nat (248-8*min i.num 31)) (shlW (.nat (248-8*min i.num 31)) a)
instance (a b:Word) {Φ:List Fa}:CV prog 162 [a.v,b.v] Φ (sarW a b).v:=⟨Fn.weaken (bsar_spec a b)⟩
theorem bsign_spec (a b:Word):FnV prog 148 [a.v,b.v] [] (signW a b).v:=by
 have hl:=limit_spec a 31 oE
 obtain ⟨n,hn⟩ : ∃ n,n=min a.num 31:=⟨_,rfl⟩
 have hof:=wof_spec (256-8*(n+1)) oM
 unfold signW
 rw [← hn] at hl ⊢
 rw [show 248-8*n=256-8*(n+1) from by omega]
 refine Fn.enter func148 rfl ntmps148 oI (fun I0 w0 => ?_)
 repeat refine st ?_;try intro
 refine cV hl ?_
 repeat refine st ?_;try intro
 refine cV hof ?_
 repeat refine st ?_;try intro
 refine W.drawA 4 [dq _,dq _,dq _,dq _] [[],[],[],[1,2]] [0,3] (hrest:=fun c=>nrm ?_)
 repeat refine st ?_;try intro
 refine G.retV ?_
 rfl
end Go.Rail
