/- stack: what is taken from the top, and what changes places. -/
import Derived.Test.YtjhdodkagchhkaaGreatDoorRailA
import Derived.Test.YtjhdodkagchhkaaGreatDoorRailC
import Derived.Test.YtjhdodkagchhkaaGreatDoorAC8
import Derived.Test.YtjhdodkagchhkaaGreatDoorRailB
import Derived.Test.YtjhdodkagchhkaaGreatDoorRailD
set_option linter.unusedSimpArgs false
set_option linter.unusedVariables false
namespace Go.Rail
open Go Go.Proofs Tryz
set_option maxHeartbeats 400000
set_option maxRecDepth 4000
attribute [local irreducible] OpK G W LW wpListIn Exit.then Exit.inBlock Post rounds opRun bodyPostM intOp
set_option maxHeartbeats 4000000
def backE (xs:List Word):List (List Value):=(List.range xs.length).map fun k=>[.int .i64 ((xs.length-1-k:Nat):Int),(xs.getD (xs.length-1-k) .zero).v]
theorem backE_len (xs:List Word):(backE xs).length=xs.length:=by simp [backE]
theorem backE_two (xs:List Word) : ∀ vs∈backE xs,vs.length=2:=by
 intro vs h
 obtain ⟨p,_,rfl⟩:=List.mem_map.1 h
 rfl
theorem backE_at (xs:List Word) (k:Nat) (h:k<(backE xs).length):(backE xs)[k]=[.int .i64 ((xs.length-1-k:Nat):Int),(xs.getD (xs.length-1-k) .zero).v]:=by simp [backE]
theorem back1_spec (b:Nat) (v:Value) (xs:List Word) (hx:xs.length≤100000):IterR prog 228 [.pointer (some ⟨b,0,none⟩)] (backE xs) [fBlk b [v] 153,fRp v xs]:=by
 intro l T Z hy s0 hs0
 have hy' : ∀ k,k<xs.length → ∀ s,T k s→FnY prog l [.int .i64 ((xs.length-1-k:Nat):Int),(xs.getD (xs.length-1-k) .zero).v] s.1 s.2 (YRr (T (k+1)) Z):=fun k h s hs=>by
  have:=hy k (by rw [backE_len];exact h) s hs
  rwa [backE_at] at this
 rw [backE_len]
 clear hy
 show Fn _ _ _ (fBlk b [v] 153::fRp v xs::s0.1) _ _
 refine Fn.enter func228 rfl ntmps228 oI (fun I0 w0 => ?_)
 repeat refine s5 ?_;try intro
 refine W.loopI (fun (i:Nat × St)=>(fBlk b [v] 153::fRp v xs::i.2.1,[(0,.func (.yield l) #[] #[]),(1,.pointer (some ⟨b,0,none⟩)),(3,.int .i64 ((i.1:Int)-1))],i.2.2)) (fun i=>i.1≤xs.length∧T (xs.length-i.1) i.2) (fun i=>i.1) (xs.length,s0) ⟨Nat.le_refl _,by rw [Nat.sub_self];exact hs0⟩ ⟨fun I hp φ hφ=>hp φ hφ⟩ (lC rfl (lC rfl (lC rfl lN))) oZ ?_
 rintro ⟨i,st⟩ ⟨hi,hst⟩
 dsimp only at hi hst ⊢
 by_cases hi0:i=0
 ·subst hi0
  repeat refine s5 ?_;try intro
  exact G.fin rfl .nil (Φ':=st.1) (M':=st.2) ⟨fun I hp φ hφ=>hp φ (.tail _ (.tail _ hφ))⟩ oZ (.inl hst)
 obtain ⟨j,rfl⟩ : ∃ j,i=j+1:=⟨i-1,by omega⟩
 rw [show (((j+1:Nat):Int)-1)=(j:Int) from by omega]
 have hj:j<xs.length:=by omega
 have hg:xs.getD j .zero=xs[j]:=by simp [List.getD,List.getElem?_eq_getElem hj]
 have hyk:=hy' (xs.length-(j+1)) oM st hst
 rw [show xs.length-1-(xs.length-(j+1))=j from by omega,show xs.length-(j+1)+1=xs.length-j from by omega,hg] at hyk
 repeat refine s5 ?_;try intro
 refine o_yieldR (Mr:=[]) rfl rfl rfl rfl hyk (fun I hp φ hφ=>hp φ (by simp [hφ])) oI ?_ ?_
 ·intro st2 hst2
  repeat refine s5 ?_;try intro
  refine G.again (S:=Nat × St) (j,st2) (by dsimp only;omega) ⟨by dsimp only;omega,hst2⟩ ⟨fun I hp φ hφ => ?_⟩ (lC rfl (lC rfl (lC rfl lN))) oI
  rcases List.mem_cons.1 hφ with rfl|hφ
  ·exact hp _ oI
  ·rcases List.mem_cons.1 hφ with rfl|hφ
   ·exact hp _ oI
   ·exact hp _ (by simp [hφ])
 ·intro s hs
  repeat refine s5 ?_;try intro
  exact G.ret rfl .nil (Φ':=s.1) (M':=s.2) ⟨fun I hp φ hφ=>hp φ (by simp [hφ])⟩ oI (.inr hs)
theorem back_spec (v:Value) (xs:List Word):Fn prog 136 [v] [fRp v xs] [] (fun u Φ' M' => ∃ b,u = .func (.func 228) #[] #[.pointer (some ⟨b,0,none⟩)]∧Φ'=[fBlk b [v] 153]∧M'=[]):=by
 refine Fn.enter func136 rfl ntmps136 oI (fun I0 w0 => ?_)
 refine W.bare (G.slice v xs ?_)
 intro a c e _
 subst e
 repeat refine s5 ?_;try intro
 rename_i b
 refine o_func rfl rfl rfl rfl ?_
 repeat refine s5 ?_;try intro
 refine G.give b (cs:=[.slice a xs.length c]) (t:=153) ?_
 exact G.ret rfl (.cons (.tmp rfl) .nil) (Φ':=[fBlk b [.slice a xs.length c] 153]) (M':=[]) oY oN ⟨b,rfl,rfl,rfl⟩
theorem top_spec (v:Value) (xs:List Word):Fn prog 70 [v] [fRp v xs] [] (fun u Φ' M' => ∃ b,u = .func (.func 135) #[] #[.pointer (some ⟨b,0,none⟩)]∧Φ'=[fBlk b [v] 153]∧M'=[]):=by
 refine Fn.enter func70 rfl ntmps70 oI (fun I0 w0 => ?_)
 refine W.bare (G.slice v xs ?_)
 intro a c e _
 subst e
 repeat refine s5 ?_;try intro
 rename_i b
 refine o_func rfl rfl rfl rfl ?_
 repeat refine s5 ?_;try intro
 refine G.give b (cs:=[.slice a xs.length c]) (t:=153) ?_
 exact G.ret rfl (.cons (.tmp rfl) .nil) (Φ':=[fBlk b [.slice a xs.length c] 153]) (M':=[]) oY oN ⟨b,rfl,rfl,rfl⟩
def topE (xs:List Word):List (List Value):=xs.reverse.map fun w=>[w.v]
theorem topE_len (xs:List Word):(topE xs).length=xs.length:=by simp [topE]
theorem topE_one (xs:List Word) : ∀ vs∈topE xs,vs.length=1:=by
 intro vs h
 obtain ⟨p,_,rfl⟩:=List.mem_map.1 h
 rfl
theorem topE_at (xs:List Word) (k:Nat) (h:k<(topE xs).length):(topE xs)[k]=[(xs.getD (xs.length-1-k) .zero).v]:=by
 rw [topE_len] at h
 have h2:xs.length-1-k<xs.length:=by omega
 simp [topE,List.getD,List.getElem?_eq_getElem h2]
theorem top1_spec (b:Nat) (v:Value) (xs:List Word) (hx:xs.length≤100000):IterR prog 135 [.pointer (some ⟨b,0,none⟩)] (topE xs) [fBlk b [v] 153,fRp v xs]:=by
 intro l T Z hy s0 hs0
 have hy' : ∀ k,k<xs.length → ∀ s,T k s→FnY prog l [(xs.getD (xs.length-1-k) .zero).v] s.1 s.2 (YRr (T (k+1)) Z):=fun k h s hs=>by
  have:=hy k (by rw [topE_len];exact h) s hs
  rwa [topE_at] at this
 rw [topE_len]
 clear hy
 show Fn _ _ _ (fBlk b [v] 153::fRp v xs::s0.1) _ _
 refine Fn.enter func135 rfl ntmps135 oI (fun I0 w0 => ?_)
 repeat refine s5 ?_;try intro
 rename_i b2
 refine OpK.call rfl rfl rfl rfl (back_spec v xs) oY (Mr:=_) oP ?_
 rintro u Φ' Mc' ⟨b6,rfl,rfl,rfl⟩
 refine nA ?_
 repeat refine s5 ?_;try intro
 refine W.rangeFuncR (enc:=backE xs) (ps:=[7,8]) (Φi:=[fBlk b6 [v] 153,fRp v xs]) (Mr:=[]) (fun k s => ∃ t,T k t∧s=(t.1,(b2,Ob [.func (.yield l) #[] #[]] 207)::t.2)) (fun c s=>c = .ret ∧ ∃ z,Z z∧s=(z.1,(b2,Ob [.func (.yield l) #[] #[]] 207)::z.2)) rfl (back1_spec b6 _ xs hx) oE (backE_two xs) oY (s0.1,(b2,Ob [.func (.yield l) #[] #[]] 207)::s0.2) ⟨s0,hs0,rfl⟩ ⟨fun I hp φ hφ=>hp φ (by simp [hφ])⟩ (by dsimp only;rw [List.append_nil];exact List.Perm.refl _) ?_ ?_ ?_
 ·rintro l' rec I0' w0' k hk _ ⟨st,hst,rfl⟩
  rw [backE_len] at hk
  rw [backE_at]
  dsimp only
  have hyk:=hy' k hk st hst
  generalize xs.getD (xs.length-1-k) .zero=w at hyk ⊢
  repeat refine s5 ?_;try intro
  refine G.begin (by rfl) ?_
  repeat refine s5 ?_;try intro
  refine o_yieldR (Mr:=[_,_,_]) rfl rfl rfl rfl hyk (fun I hp φ hφ=>hp φ (by simp [hφ])) (oH (l₁:=[_,_,_])) ?_ ?_
  ·intro st2 hst2
   refine G.perm ?_ oH
   refine nA ?_
   repeat refine s5 ?_;try intro
   exact G.roundEnd oY (Φ':=st2.1) (M'':=(b2,Ob [.func (.yield l) #[] #[]] 207)::st2.2) (.inl ⟨rfl,(st2.1,(b2,Ob [.func (.yield l) #[] #[]] 207)::st2.2),⟨st2,hst2,rfl⟩,rfl⟩) ⟨fun I hp φ hφ=>hp φ (by simp [hφ])⟩ (.cons _ oZ)
  ·intro s hs
   refine G.perm ?_ oH
   refine nA ?_
   repeat refine s5 ?_;try intro
   exact G.roundRet oY (Φ':=s.1) (M'':=(b2,Ob [.func (.yield l) #[] #[]] 207)::s.2) (.inr ⟨rfl,.ret,(s.1,(b2,Ob [.func (.yield l) #[] #[]] 207)::s.2),⟨rfl,s,hs,rfl⟩,rfl⟩) ⟨fun I hp φ hφ=>hp φ (by simp [hφ])⟩ (.cons _ oZ)
 ·rintro D _ ⟨st,hst,rfl⟩
  rw [backE_len] at hst
  refine G.perm ?_ oH
  refine nA ?_
  repeat refine s5 ?_;try intro
  refine G.unmarkN oY ?_
  exact G.ret rfl .nil (Φ':=st.1) (M':=st.2) ⟨fun I hp φ hφ=>hp φ (by simp [hφ])⟩ (.cons _ oZ) (.inl hst)
 ·rintro D c' s ⟨rfl,z,hz,rfl⟩
  refine W.bare (G.perm ?_ oH)
  refine nA ?_
  refine G.code ?_
  repeat refine s5 ?_;try intro
  refine G.unmark oY ?_
  exact G.ret rfl .nil (Φ':=z.1) (M':=z.2) ⟨fun I hp φ hφ=>hp φ (by simp [hφ])⟩ (.cons _ oZ) (.inr hz)
theorem appW_spec (b:Nat) (v:Value) (xs:List Word) (hx:xs.length≤100000):Fn prog 134 [.slice none 0 0,.func (.func 135) #[] #[.pointer (some ⟨b,0,none⟩)]] [fBlk b [v] 153,fRp v xs] [] (ROwn 24 xs.reverse):=by
 refine Fn.enter func134 rfl ntmps134 oI (fun I0 w0 => ?_)
 repeat refine s5 ?_;try intro
 rename_i b2
 refine W.rangeFuncR (enc:=topE xs) (ps:=[7]) (Φi:=[fBlk b [v] 153,fRp v xs]) (Mr:=[]) (fun k s => ∃ w o,IsOwn 4 w (xs.reverse.take k).length o∧s=([fRow (ocells o) (xs.reverse.take k)],(b2,Ob [w] 29)::ownM 24 o)) (fun _ _=>False) rfl (top1_spec b v xs hx) oE (topE_one xs) oY ([fRow ([]:List Value) ([]:List Word)],[(b2,Ob [.slice none 0 0] 29)]) ⟨_,none,⟨rfl,rfl⟩,rfl⟩ oY oP ?_ ?_ ?_
 ·rintro l rec I0' w0' k hk _ ⟨w,o,hown,rfl⟩
  rw [topE_len] at hk
  have hk2:k<xs.reverse.length:=by simpa using hk
  have htk:xs.reverse.take k++[xs.reverse[k]]=xs.reverse.take (k+1):=by rw [List.take_succ_eq_append_getElem hk2]
  have htl:(xs.reverse.take k).length=k:=by rw [List.length_take];omega
  have he:(topE xs)[k]'(by rw [topE_len];exact hk)=[(xs.reverse[k]).v]:=by simp [topE]
  dsimp only
  rw [he]
  generalize xs.reverse[k]=e at htk ⊢
  show W _ _ _ _ ((7,e.v)::_) _
  repeat refine s5 ?_;try intro
  refine G.begin (by rfl) ?_
  repeat refine s5 ?_;try intro
  refine o_lit (xs:=[e]) ⟨by decide,rfl,by decide⟩ rfl rfl rfl ⟨fun _ _=>Rp.flat.2 rfl,trivial⟩ rfl ?_
  intro p1
  repeat refine s5 ?_;try intro
  refine o_app2 (Mr:=[_,_,_]) o (xs:=xs.reverse.take k) (ys:=[e]) hown ⟨by simp;omega,by simp;omega,rfl⟩ rfl rfl rfl rfl oY oY oP ?_
  intro w' o' hown'
  rw [htk] at hown' ⊢
  refine nA ?_
  repeat refine s5 ?_;try intro
  refine o_store (vs:=[w']) (cs':=[w']) rfl rfl rfl (own_cell hown').1 rfl (Nat.le_of_ble_eq_true rfl) (own_cell hown').2 rfl ?_
  repeat refine s5 ?_;try intro
  refine G.roundEnd oY (Φ':=[fRow (ocells o') (xs.reverse.take (k+1))]) (M'':=(b2,Ob [w'] 29)::ownM 24 o') ?_ oY (by first|exact List.Sublist.refl _|exact .cons _ oZ)
  exact Or.inl ⟨rfl,([fRow (ocells o') (xs.reverse.take (k+1))],(b2,Ob [w'] 29)::ownM 24 o'),⟨w',o',hown',rfl⟩,rfl⟩
 ·rintro D _ ⟨w,o,hown,rfl⟩
  rw [topE_len,show xs.reverse.take xs.length=xs.reverse from List.take_of_length_le oI] at hown ⊢
  refine G.perm ?_ oH
  refine nA ?_
  repeat refine s5 ?_;try intro
  refine G.unmark oY ?_
  exact G.ret rfl (.cons (.tmp rfl) .nil) (Φ':=[fRow (ocells o) xs.reverse]) (M':=ownM 24 o) oY (List.sublist_cons_self _ _) ⟨o,hown,rfl,rfl⟩
 ·intro D c s h
  exact h.elim
theorem collW_spec (b:Nat) (v:Value) (xs:List Word) (hx:xs.length≤100000):Fn prog 69 [.func (.func 135) #[] #[.pointer (some ⟨b,0,none⟩)]] [fBlk b [v] 153,fRp v xs] [] (ROwn 24 xs.reverse):=by
 refine Fn.enter func69 rfl ntmps69 oI (fun I0 w0 => ?_)
 repeat refine s5 ?_;try intro
 refine o_callO rfl rfl rfl rfl (appW_spec b v xs hx) ?_
 intro v' o hown
 repeat refine s5 ?_;try intro
 refine G.ret rfl (.cons (.tmp rfl) .nil) (Φ':=[fRow (ocells o) xs.reverse]) (M':=ownM 24 o) oY oZ ⟨o,hown,rfl,rfl⟩
def RP3 (e:Int) (ys zs:List Word):Value→List Fa→Own→Prop:=fun u Φ' M' => ∃ v1 v2,u = .tuple #[v1,v2,.int .i64 e]∧Φ'=[fRp v1 ys,fRp v2 zs]∧M'=[]
def popL (s:List Word) (n:Nat):List Word × List Word × Int:=if wrongL s n 0=0 then (s.take (s.length-n),(s.drop (s.length-n)).reverse,0) else (s,[],wrongL s n 0)
theorem pop_spec (v:Value) (s:List Word) (n:Nat) (hn:n≤1000) (hs:s.length≤100000):Fn prog 28 [v,.int .i64 n] [fRp v s] [] (RP3 (popL s n).2.2 (popL s n).1 (popL s n).2.1):=by
 have hw:=fun w=>wrong_spec w s n 0 hs
 refine Fn.enter func28 rfl ntmps28 oI (fun I0 w0 => ?_)
 unfold popL
 by_cases h:wrongL s n 0=0
 ·have hl:n≤s.length:=by
   unfold wrongL at h
   by_cases h1:1024<s.length∨(n:Int)<0
   ·rw [if_pos h1] at h;cases h
   ·rw [if_neg h1] at h
    by_cases h2:(s.length:Int)<n
    ·rw [if_pos h2] at h;cases h
    ·omega
  have hcl:=fun w=>Fn.given (cloneW_spec w (s.take (s.length-n)) (by rw [List.length_take];omega))
  rw [if_pos h]
  rw [h] at hw
  repeat refine s5 ?_;try intro
  refine cV (hw v) ?_
  repeat refine s5 ?_;try intro
  rw [show (s.length:Int)-(n:Int)=((s.length-n:Nat):Int) from by omega]
  refine W.draw 9 [⟨?v0_1,fun _ z=>[]⟩,⟨?v1_1,fun _ z=>[]⟩,⟨fun _ z=>z,fun _ z=>[fRp z (s.take (s.length-n))]⟩,⟨fun _ z=>z,fun _ z=>[fRp z (s.take (s.length-n))]⟩,⟨?v4_1,fun _ z=>[]⟩,⟨?v5_1,fun _ z=>[]⟩,⟨fun _ z=>z,fun _ z=>[fRp z (s.drop (s.length-n))]⟩,⟨fun c z => .func (.func 135) #[] #[.pointer (some ⟨pb z,0,none⟩)],fun c z=>[fBlk (pb z) [(c 6)] 153]⟩,⟨fun _ z=>z,fun _ z=>[fRp z (s.drop (s.length-n)).reverse]⟩] [[],[],[0,1],[2],[],[],[4,5],[6],[6,7]] [3,8] kR kR kR kR ?loc_1 ?ops_1 ?rest_1
  case ops_1 =>
   simp only [AllQ,Nat.reduceAdd,and_true]
   refine ⟨?_,?_,?_,?_,?_,?_,?_,?_,?_⟩
   all_goals (intro c z0 Φr Lr K hK;dsimp only [dstOf,kval,kfac,ancE,ancF,getD_z,getD_s,List.getElem?_cons_zero,List.getElem?_cons_succ,List.getElem?_nil,Option.getD_some,Option.getD_none,List.nil_append,List.cons_append,Option.getD] at hK ⊢)
   ·refine stp ?_;exact hK z0
   ·refine stp ?_;exact hK z0
   ·refine o_slice (xs:=s) 0 (s.length-n) rfl rfl rfl rfl ⟨_,_,rfl,rfl⟩ (Nat.zero_le _) oM ?_;intro z;rw [List.drop_zero];exact hK _
   ·refine o_callD rfl rfl rfl rfl (hcl _) ?_;intro z;exact hK _
   ·refine stp ?_;exact hK z0
   ·refine stp ?_;exact hK z0
   ·refine o_slice (xs:=s) (s.length-n) s.length rfl rfl rfl ⟨_,_,rfl,rfl⟩ rfl oM (Nat.le_refl _) ?_;intro z;rw [List.take_length];exact hK _
   ·refine OpK.call rfl rfl rfl rfl (top_spec _ (s.drop (s.length-n))) oY (Mr:=_) oP ?_;rintro u Φ' Mc' ⟨b,rfl,rfl,rfl⟩;exact hK (.pointer (some ⟨b,0,none⟩))
   ·refine o_callD rfl rfl rfl rfl (Fn.given (collW_spec (pb (c 7)) (c 6) (s.drop (s.length-n)) (by rw [List.length_drop];omega))) ?_;intro z;exact hK _
  case loc_1 =>
   simp only [AllL,Nat.reduceAdd,and_true]
   refine ⟨?_,?_,?_,?_,?_,?_,?_,?_,?_⟩
   ·exact fun _ _ _ _=>⟨rfl,rfl⟩
   ·exact fun _ _ _ _=>⟨rfl,rfl⟩
   ·exact fun _ _ _ _=>⟨rfl,rfl⟩
   ·exact fun _ _ _ _=>⟨rfl,rfl⟩
   ·exact fun _ _ _ _=>⟨rfl,rfl⟩
   ·exact fun _ _ _ _=>⟨rfl,rfl⟩
   ·exact fun _ _ _ _=>⟨rfl,rfl⟩
   ·intro c c' z h;simp only [getD_s,getD_z,h 6 kR,and_self]
   ·exact fun _ _ _ _=>⟨rfl,rfl⟩
  intro c
  dsimp only [dstOf,kval,kfac,ancE,ancF,getD_z,getD_s,List.getElem?_cons_zero,List.getElem?_cons_succ,List.getElem?_nil,Option.getD_some,Option.getD_none,List.nil_append,List.cons_append,List.drop_succ_cons,List.drop_zero,Option.getD]
  repeat refine s5 ?_;try intro
  exact G.ret rfl (.cons (.tmp rfl) (.cons (.tmp rfl) (.cons (.tmp rfl) .nil))) (Φ':=[fRp _ (s.take (s.length-n)),fRp _ (s.drop (s.length-n)).reverse]) (M':=[]) oY oN ⟨_,_,rfl,rfl,rfl⟩
 ·rw [if_neg h]
  have hcl:=fun w=>Fn.given (cloneW_spec w s oM)
  repeat refine s5 ?_;try intro
  refine cV (hw v) ?_
  repeat refine s5 ?_;try intro
  refine o_callD rfl rfl rfl rfl (hcl v) ?_
  intro r
  repeat refine s5 ?_;try intro
  refine G.learn (fRp (.slice none 0 0) ([]:List Word)) (e:=⟨fun I hp=>Rp.nil none 0⟩) ?_
  exact G.ret rfl (.cons (.tmp rfl) (.cons (.tmp rfl) (.cons (.tmp rfl) .nil))) (Φ':=[fRp r s,fRp _ ([]:List Word)]) (M':=[]) oY oN ⟨_,_,rfl,rfl,rfl⟩
end Go.Rail
