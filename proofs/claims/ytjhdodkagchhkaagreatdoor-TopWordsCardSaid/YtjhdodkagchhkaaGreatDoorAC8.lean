/- stack: what is laid on top, and what is doubled. -/
import Derived.Test.YtjhdodkagchhkaaGreatDoorRailA
import Derived.Test.YtjhdodkagchhkaaGreatDoorRailC
import Derived.Test.YtjhdodkagchhkaaGreatDoorRailD
import Derived.Test.YtjhdodkagchhkaaGreatDoorRailF
import Derived.Test.YtjhdodkagchhkaaGreatDoorAEq
set_option linter.unusedSimpArgs false
set_option linter.unusedVariables false
namespace Go.Rail
open Go Go.Proofs Tryz
set_option maxHeartbeats 400000
set_option maxRecDepth 4000
attribute [local irreducible] OpK G W LW wpListIn Exit.then Exit.inBlock Post rounds opRun bodyPostM intOp
set_option maxHeartbeats 4000000
theorem cloneW_spec (v:Value) (xs:List Word) (hx:xs.length≤1000000):Fn prog 24 [v] [fRp v xs] [] (ROwn 24 xs):=by
 refine Fn.enter func24 rfl ntmps24 oI (fun I0 w0 => ?_)
 refine W.bare (G.sliceN v xs ?_)
 intro a cap hv hc hnil
 subst hv
 cases a with
 | none =>
  have hx0:=hnil rfl
  subst hx0
  repeat refine s5 ?_;try intro
  refine o_eqNil rfl rfl rfl rfl rfl ?_
  repeat refine s5 ?_;try intro
  exact G.ret rfl (.cons (.tmp rfl) .nil) oY oN ⟨none,⟨rfl,rfl⟩,rfl,rfl⟩
 | some ad =>
  repeat refine s5 ?_;try intro
  refine o_eqNil rfl rfl rfl rfl rfl ?_
  repeat refine s5 ?_;try intro
  refine o_litM (xs:=xs.take 0) ⟨by simp,rfl,by decide⟩ rfl rfl rfl RpL.nil rfl ?_
  intro b cs hcs
  repeat refine s5 ?_;try intro
  refine o_app2 (Mr:=[]) (some (b,cs)) (xs:=xs.take 0) (ys:=xs) ⟨0,rfl,by simpa using hcs,by simp⟩ ⟨by simp;omega,by simp;omega,rfl⟩ rfl rfl rfl rfl (show Ent' _ (fRow cs (xs.take 0)) from oY) oY oP ?_
  intro v' o' hown'
  rw [show xs.take 0++xs=xs from rfl] at hown' ⊢
  repeat refine s5 ?_;try intro
  exact G.ret rfl (.cons (.tmp rfl) .nil) oY oZ ⟨o',hown',rfl,rfl⟩
theorem growW_spec (n:Nat) (hn:n≤1000000):Fn prog 137 [.slice none 0 0,.int .i64 n] [] [] (ROwn 24 ([]:List Word)):=by
 refine Fn.enter func137 rfl ntmps137 oI (fun I0 w0 => ?_)
 by_cases h0:n=0
 ·subst h0
  repeat refine s5 ?_;try intro
  refine o_cap rfl rfl rfl ?_
  repeat refine s5 ?_;try intro
  exact G.ret rfl (.cons (.tmp rfl) .nil) (Φ':=[fRow [] ([]:List Word)]) oY oN ⟨none,⟨rfl,rfl⟩,rfl,rfl⟩
 ·repeat refine s5 ?_;try intro
  refine o_cap rfl rfl rfl ?_
  repeat refine s5 ?_;try intro
  refine o_cap rfl rfl rfl ?_
  repeat refine s5 ?_;try intro
  refine o_cutNil rfl rfl rfl rfl rfl ?_
  repeat refine s5 ?_;try intro
  refine o_growNil n rfl rfl rfl rfl oM ⟨by omega,by decide,rfl⟩ oM ?_
  intro b cs nc hcs hnc
  repeat refine s5 ?_;try intro
  refine o_cutO 0 rfl rfl rfl ⟨_,_,rfl,rfl⟩ oM ?_
  repeat refine s5 ?_;try intro
  exact G.ret rfl (.cons (.tmp rfl) .nil) (Φ':=[fRow cs ([]:List Word)]) (M':=[(b,Ob cs 24)]) oY oZ ⟨some (b,cs),⟨nc,rfl,hcs,by simp⟩,rfl,rfl⟩

structure CwSt where
 i:Nat
 v:Value
 o:OR
theorem flatW_succ {ls:List (List Word)} {i:Nat} (h:i<ls.length):(ls.take (i+1)).flatten=(ls.take i).flatten++ls[i]:=by
 rw [List.take_succ_eq_append_getElem h,List.flatten_append];simp
theorem flatW_le (ls:List (List Word)) (i:Nat):(ls.take i).flatten.length≤ls.flatten.length:=by
 conv=>rhs;rw [← List.take_append_drop i ls,List.flatten_append,List.length_append]
 omega
theorem concatW_spec (v:Value) (ls:List (List Word)) (hl:ls.length≤1000000) (hx:ls.flatten.length≤1000000):Fn prog 71 [v] [fRp v ls] [] (ROwn 24 ls.flatten):=by
 refine Fn.enter func71 rfl ntmps71 oI (fun I0 w0 => ?_)
 repeat refine s5 ?_;try intro
 refine W.loopI (fun (i:Nat)=>([fRp v ls],[(0,v),(3,.int .i64 (ls.take i).flatten.length),(9,v),(10,.int .i64 ls.length),(11,.int .i64 i)],[])) (fun i=>i≤ls.length) (fun i=>ls.length-i) 0 oM oY (lC rfl (lC rfl (lC rfl (lC rfl (lC rfl lN))))) oZ ?_
 intro i hi
 dsimp only
 have hfl:=flatW_le ls i
 by_cases hi0:i=ls.length
 ·have he:(ls.take i).flatten=ls.flatten:=by rw [hi0,List.take_length]
  repeat refine s5 ?_;try intro
  refine o_callO rfl rfl rfl rfl (growW_spec _ oM) ?_
  intro v0 o0 ho0
  repeat refine s5 ?_;try intro
  refine W.loopI (fun (s:CwSt)=>([fRow (ocells s.o) (ls.take s.i).flatten,fRp v ls],[(0,v),(6,s.v),(25,v),(26,.int .i64 ls.length),(27,.int .i64 s.i)],ownM 24 s.o)) (fun s=>s.i≤ls.length∧IsOwn 4 s.v (ls.take s.i).flatten.length s.o) (fun s=>ls.length-s.i) ⟨0,v0,o0⟩ ⟨by dsimp only;omega,ho0⟩ (by show Ents _ [fRow (ocells o0) ([]:List Word),fRp v ls];infer_instance) (lC rfl (lC rfl (lC rfl (lC rfl (lC rfl lN))))) oZ ?_
  rintro ⟨j,v1,o1⟩ ⟨hj,hown⟩
  dsimp only at hj hown ⊢
  by_cases hj0:j=ls.length
  ·have he:(ls.take j).flatten=ls.flatten:=by rw [hj0,List.take_length]
   rw [he] at hown ⊢
   repeat refine s5 ?_;try intro
   exact G.ret rfl (.cons (.tmp rfl) .nil) (Φ':=[fRow (ocells o1) ls.flatten]) (M':=ownM 24 o1) oY oZ ⟨o1,hown,rfl,rfl⟩
  ·have hj1:j<ls.length:=by omega
   have hf1:=flatW_le ls (j+1)
   rw [flatW_succ hj1,List.length_append] at hf1
   repeat refine s5 ?_;try intro
   refine o_app2 (Mr:=[]) o1 (xs:=(ls.take j).flatten) (ys:=ls[j]) hown ⟨by omega,by omega,rfl⟩ rfl rfl rfl rfl oY oY oP ?_
   intro v' o' hown'
   repeat refine s5 ?_;try intro
   refine G.again (S:=CwSt) ⟨j+1,v',o'⟩ (by dsimp only;omega) ⟨by dsimp only;omega,by dsimp only;rw [flatW_succ hj1];exact hown'⟩ ?_ (lC rfl (lC rfl (lC rfl (lC rfl (lC rfl lN))))) oZ
   dsimp only
   rw [flatW_succ hj1]
   infer_instance
 ·have hi1:i<ls.length:=by omega
  have hf1:=flatW_le ls (i+1)
  rw [flatW_succ hi1,List.length_append] at hf1
  repeat refine s5 ?_;try intro
  refine G.again (i+1) oM oM oY (lC rfl (lC ?_ (lC rfl (lC rfl (lC rfl lN))))) oZ
  rw [flatW_succ hi1,List.length_append]
  rfl
def tupD (e:Int) (sv:Value):Value := .tuple #[sv,.int .i64 e]
def RD (e:Int) (ys:List Word):Value→List Fa→Own→Prop:=fun u Φ' M' => ∃ sv,u=tupD e sv∧Φ'=[fRp sv ys]∧M'=[]
def pushL (s l:List Word):List Word × Int:=if 1024<s.length then (s,1) else if 1024<s.length+l.length then (s,41) else (s++l,0)
theorem push_spec (v u:Value) (s l:List Word) (hs:s.length≤100000) (hl:l.length≤100000):Fn prog 29 [v,u] [fRp v s,fRp u l] [] (RD (pushL s l).2 (pushL s l).1):=by
 have hcl:=fun w=>Fn.given (cloneW_spec w s oM)
 have hcc:=fun w=>Fn.given (concatW_spec w [s,l] oI oX)
 refine Fn.enter func29 rfl ntmps29 oI (fun I0 w0 => ?_)
 unfold pushL
 by_cases h1:1024<s.length
 ·rw [if_pos h1]
  repeat refine s5 ?_;try intro
  refine o_callD rfl rfl rfl rfl (hcl v) ?_
  intro r
  repeat refine s5 ?_;try intro
  exact G.ret rfl (.cons (.tmp rfl) (.cons (.tmp rfl) .nil)) (Φ':=[fRp r s]) (M':=[]) oY oN ⟨_,rfl,rfl,rfl⟩
 ·rw [if_neg h1]
  by_cases h2:1024<s.length+l.length
  ·rw [if_pos h2]
   repeat refine s5 ?_;try intro
   refine o_callD rfl rfl rfl rfl (hcl v) ?_
   intro r
   repeat refine s5 ?_;try intro
   exact G.ret rfl (.cons (.tmp rfl) (.cons (.tmp rfl) .nil)) (Φ':=[fRp r s]) (M':=[]) oY oN ⟨_,rfl,rfl,rfl⟩
  ·rw [if_neg h2]
   repeat refine s5 ?_;try intro
   refine o_lit (xs:=[s,l]) ⟨by decide,rfl,by decide⟩ rfl rfl rfl ⟨fun I hp=>hp (fRp v s) oI,fun I hp=>hp (fRp u l) oI,trivial⟩ rfl ?_
   intro p
   repeat refine s5 ?_;try intro
   refine o_callD rfl rfl rfl rfl (hcc p) ?_
   intro r
   rw [show [s,l].flatten=s++l from by simp]
   repeat refine s5 ?_;try intro
   exact G.ret rfl (.cons (.tmp rfl) (.cons (.tmp rfl) .nil)) (Φ':=[fRp r (s++l)]) (M':=[]) oY oN ⟨_,rfl,rfl,rfl⟩
def wrongL (s:List Word) (n least:Int):Int:=if 1024<s.length∨n<least then 1 else if (s.length:Int)<n then 40 else 0
theorem wrong_spec (v:Value) (s:List Word) (n least:Int) (hs:s.length≤100000):FnV prog 64 [v,.int .i64 n,.int .i64 least] [fRp v s] (.int .i64 (wrongL s n least)):=by
 refine Fn.enter func64 rfl ntmps64 oI (fun I0 w0 => ?_)
 unfold wrongL
 by_cases h1:1024<s.length
 ·rw [if_pos (.inl h1)]
  repeat refine s5 ?_;try intro
  refine G.ret rfl (.cons (.tmp rfl) .nil) (Φ':=[]) (M':=[]) oY oN ⟨?_,rfl,rfl⟩
  rfl
 by_cases h2:n<least
 ·rw [if_pos (.inr h2)]
  repeat refine s5 ?_;try intro
  refine G.ret rfl (.cons (.tmp rfl) .nil) (Φ':=[]) (M':=[]) oY oN ⟨?_,rfl,rfl⟩
  rfl
 rw [if_neg oM]
 by_cases h3:(s.length:Int)<n
 ·rw [if_pos h3]
  repeat refine s5 ?_;try intro
  refine G.ret rfl (.cons (.tmp rfl) .nil) (Φ':=[]) (M':=[]) oY oN ⟨?_,rfl,rfl⟩
  rfl
 ·rw [if_neg h3]
  repeat refine s5 ?_;try intro
  refine G.ret rfl (.cons (.tmp rfl) .nil) (Φ':=[]) (M':=[]) oY oN ⟨?_,rfl,rfl⟩
  rfl
def dupL (s:List Word) (n:Nat):List Word × Int:=if wrongL s n 1=0 then pushL s [s.getD (s.length-n) .zero] else (s,wrongL s n 1)
theorem dup_spec (v:Value) (s:List Word) (n:Nat) (hn:n≤1000) (hs:s.length≤100000):Fn prog 26 [v,.int .i64 n] [fRp v s] [] (RD (dupL s n).2 (dupL s n).1):=by
 have hcl:=fun w=>Fn.given (cloneW_spec w s oM)
 have hw:=fun w=>wrong_spec w s n 1 hs
 refine Fn.enter func26 rfl ntmps26 oI (fun I0 w0 => ?_)
 unfold dupL
 by_cases h:wrongL s n 1=0
 ·have hl:1≤n∧n≤s.length:=by
   unfold wrongL at h
   by_cases h1:1024<s.length∨(n:Int)<1
   ·rw [if_pos h1] at h;cases h
   ·rw [if_neg h1] at h
    by_cases h2:(s.length:Int)<n
    ·rw [if_pos h2] at h;cases h
    ·omega
  have hg:s.getD (s.length-n) .zero=s[s.length-n]'(by omega):=by simp [List.getD,List.getElem?_eq_getElem (show s.length-n<s.length by omega)]
  rw [if_pos h,hg]
  rw [h] at hw
  repeat refine s5 ?_;try intro
  refine cV (hw v) ?_
  repeat refine s5 ?_;try intro
  simp only [show ((s.length:Int)-(n:Int)).toNat=s.length-n from by omega]
  refine o_lit (xs:=[s[s.length-n]]) ⟨by decide,rfl,by decide⟩ rfl rfl rfl ⟨fun _ _=>Rp.flat.2 rfl,trivial⟩ rfl ?_
  intro q
  repeat refine s5 ?_;try intro
  refine OpK.call rfl rfl rfl rfl (push_spec v q s [s[s.length-n]] hs oI) oY (Mr:=_) oP ?_
  rintro u Φ' Mc' ⟨sv,rfl,rfl,rfl⟩
  refine nA ?_
  unfold tupD
  repeat refine s5 ?_;try intro
  exact G.ret rfl (.cons (.tmp rfl) (.cons (.tmp rfl) .nil)) (Φ':=[fRp sv _]) (M':=[]) oY oN ⟨_,rfl,rfl,rfl⟩
 ·rw [if_neg h]
  repeat refine s5 ?_;try intro
  refine cV (hw v) ?_
  repeat refine s5 ?_;try intro
  refine o_callD rfl rfl rfl rfl (hcl v) ?_
  intro r
  repeat refine s5 ?_;try intro
  exact G.ret rfl (.cons (.tmp rfl) (.cons (.tmp rfl) .nil)) (Φ':=[fRp r s]) (M':=[]) oY oN ⟨_,rfl,rfl,rfl⟩
end Go.Rail
