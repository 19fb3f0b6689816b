/- The document's stacks. -/
import Derived.Test.YtpbbjkbackiljaaGreatDoorRailA
import Derived.Test.YtpbbjkbackiljaaGreatDoorRailI
import Derived.Test.YtpbbjkbackiljaaGreatDoorAT1C20
import Derived.Test.YtpbbjkbackiljaaGreatDoorAEqBC
import Derived.Test.YtpbbjkbackiljaaGreatDoorRailG
import Derived.Test.YtpbbjkbackiljaaGreatDoorAC18BF
set_option linter.unusedSimpArgs false
set_option linter.unusedVariables false
namespace Go.Rail
open Go Go.Proofs Tryz
set_option maxHeartbeats 400000
set_option maxRecDepth 4000
attribute [local irreducible] OpK G W LW wpListIn Exit.then Exit.inBlock Post rounds opRun bodyPostM intOp
set_option maxHeartbeats 4000000
attribute [local irreducible] Word.num Word.nat
theorem own13_spec (v:Value) (s:List Word) (hs:s.length≤1000000):Fn prog 126 [v] [fRp v s] [] (ROwn 49 s):=by
 refine Fn.enter func126 rfl ntmps126 oI (fun I0 w0 => ?_)
 repeat refine sq ?_;try intro
 refine o_app2 (α:=Word) (Mr:=[]) none (xs:=[]) (ys:=s) ⟨rfl,rfl⟩ ⟨by simp;omega,by simp;omega,rfl⟩ rfl rfl rfl rfl (show Ent' _ (fRow [] ([]:List Word)) from oY) oY oP ?_
 intro w o ho
 rw [List.nil_append] at ho ⊢
 repeat refine sq ?_;try intro
 exact G.ret rfl (.cons (.tmp rfl) .nil) oY oZ ⟨o,ho,rfl,rfl⟩
theorem push13_spec (v u:Value) (s l:List Word) (hs:s.length≤100000) (hl:l.length≤100000):Fn prog 202 [v,u] [fRp v s,fRp u l] [] (RD (pushL s l).2 (pushL s l).1):=by
 have ho:=fun w=>Fn.given (own13_spec w s oM)
 unfold pushL
 refine Fn.enter func202 rfl ntmps202 oI (fun I0 w0 => ?_)
 refine W.bare (G.slice v s ?_);intro a1 c1 e1 k1;subst e1
 refine G.slice u l ?_;intro a2 c2 e2 k2;subst e2
 refine G.code ?_
 by_cases h1:1024<s.length
 ·rw [if_pos h1]
  repeat refine sq ?_;try intro
  refine o_callD rfl rfl rfl rfl (ho _) ?_
  intro r
  repeat refine sq ?_;try intro
  exact G.ret rfl (.cons (.tmp rfl) (.cons (.tmp rfl) .nil)) (Φ':=[fRp r s]) (M':=[]) oY oN ⟨_,rfl,rfl,rfl⟩
 rw [if_neg h1]
 by_cases h2:1024<s.length+l.length
 ·rw [if_pos h2]
  repeat refine sq ?_;try intro
  refine o_callD rfl rfl rfl rfl (ho _) ?_
  intro r
  repeat refine sq ?_;try intro
  exact G.ret rfl (.cons (.tmp rfl) (.cons (.tmp rfl) .nil)) (Φ':=[fRp r s]) (M':=[]) oY oN ⟨_,rfl,rfl,rfl⟩
 ·rw [if_neg h2]
  repeat refine sq ?_;try intro
  refine o_callO rfl rfl rfl rfl (own13_spec _ s oM) ?_
  intro w o ho
  repeat refine sq ?_;try intro
  refine o_app2 (α:=Word) (Mr:=[]) o (xs:=s) (ys:=l) ho ⟨by omega,by omega,rfl⟩ rfl rfl rfl rfl oY oY oP ?_
  intro w' o' ho'
  refine G.giveOwn2 (Mr:=[]) w' (s++l) o' 49 ho' oY oP ?_
  repeat refine sq ?_;try intro
  exact G.ret rfl (.cons (.tmp rfl) (.cons (.tmp rfl) .nil)) (Φ':=[fRp w' (s++l)]) (M':=[]) oY oN ⟨_,rfl,rfl,rfl⟩
theorem wrong_one (s:List Word) (n least:Int) (h:1024<s.length∨n<least):wrongL s n least=1:=by unfold wrongL;rw [if_pos h]
theorem wrong_two (s:List Word) (n least:Int) (h : ¬(1024<s.length∨n<least)) (h2:(s.length:Int)<n):wrongL s n least=40:=by unfold wrongL;rw [if_neg h,if_pos h2]
theorem wrong_none (s:List Word) (n least:Int) (h : ¬(1024<s.length∨n<least)) (h2 : ¬(s.length:Int)<n):wrongL s n least=0:=by unfold wrongL;rw [if_neg h,if_neg h2]
theorem dup13_spec (v:Value) (s:List Word) (n:Nat) (hn:n≤1000) (hs:s.length≤100000):Fn prog 130 [v,.int .i64 n] [fRp v s] [] (RD (dupL s n).2 (dupL s n).1):=by
 have ho:=fun w=>Fn.given (own13_spec w s oM)
 unfold dupL
 refine Fn.enter func130 rfl ntmps130 oI (fun I0 w0 => ?_)
 refine W.bare (G.slice v s ?_);intro a1 c1 e1 k1;subst e1
 refine G.code ?_
 by_cases h1:1024<s.length∨(n:Int)<1
 ·rw [wrong_one s n 1 h1,if_neg oE]
  by_cases h0:1024<s.length
  ·repeat refine sq ?_;try intro
   refine o_callD rfl rfl rfl rfl (ho _) ?_
   intro r
   repeat refine sq ?_;try intro
   exact G.ret rfl (.cons (.tmp rfl) (.cons (.tmp rfl) .nil)) (Φ':=[fRp r s]) (M':=[]) oY oN ⟨_,rfl,rfl,rfl⟩
  ·repeat refine sq ?_;try intro
   refine o_callD rfl rfl rfl rfl (ho _) ?_
   intro r
   repeat refine sq ?_;try intro
   exact G.ret rfl (.cons (.tmp rfl) (.cons (.tmp rfl) .nil)) (Φ':=[fRp r s]) (M':=[]) oY oN ⟨_,rfl,rfl,rfl⟩
 by_cases h2:(s.length:Int)<n
 ·rw [wrong_two s n 1 h1 h2,if_neg oE]
  repeat refine sq ?_;try intro
  refine o_callD rfl rfl rfl rfl (ho _) ?_
  intro r
  repeat refine sq ?_;try intro
  exact G.ret rfl (.cons (.tmp rfl) (.cons (.tmp rfl) .nil)) (Φ':=[fRp r s]) (M':=[]) oY oN ⟨_,rfl,rfl,rfl⟩
 ·rw [wrong_none s n 1 h1 h2,if_pos rfl]
  have hi:s.length-n<s.length:=by omega
  have he:s.getD (s.length-n) .zero=s[s.length-n]:=by rw [List.getD_eq_getElem?_getD,List.getElem?_eq_getElem hi];rfl
  rw [he]
  have hp:=fun u=>push13_spec (.slice a1 s.length c1) u s [s[s.length-n]] hs oI
  generalize (pushL s [s[s.length-n]]).1=r at hp ⊢
  generalize (pushL s [s[s.length-n]]).2=e at hp ⊢
  repeat refine sq ?_;try intro
  refine OpK.call rfl rfl rfl rfl (hp _) oY (Mr:=_) oP ?_
  rintro w Φ' Mc' ⟨sv,rfl,rfl,rfl⟩
  refine nA ?_
  unfold tupD
  repeat refine sq ?_;try intro
  exact G.ret rfl (.cons (.tmp rfl) (.cons (.tmp rfl) .nil)) (Φ':=[fRp sv _]) (M':=[]) oY oN ⟨_,rfl,rfl,rfl⟩
theorem swap13_spec (v:Value) (s:List Word) (n:Nat) (hn:n≤1000) (hs:s.length≤100000):Fn prog 129 [v,.int .i64 n] [fRp v s] [] (RD (swapL s n).2 (swapL s n).1):=by
 have ho:=fun w=>Fn.given (own13_spec w s oM)
 unfold swapL swapE
 refine Fn.enter func129 rfl ntmps129 oI (fun I0 w0 => ?_)
 refine W.bare (G.slice v s ?_);intro a1 c1 e1 k1;subst e1
 refine G.code ?_
 by_cases h1:1024<s.length∨(n:Int)<1
 ·rw [wrong_one s n 1 h1,if_neg (c:=_∧_) (fun h=>absurd h.1 oE),if_neg oE]
  by_cases h0:1024<s.length
  ·repeat refine sq ?_;try intro
   refine o_callD rfl rfl rfl rfl (ho _) ?_
   intro r
   repeat refine sq ?_;try intro
   exact G.ret rfl (.cons (.tmp rfl) (.cons (.tmp rfl) .nil)) (Φ':=[fRp r s]) (M':=[]) oY oN ⟨_,rfl,rfl,rfl⟩
  ·repeat refine sq ?_;try intro
   refine o_callD rfl rfl rfl rfl (ho _) ?_
   intro r
   repeat refine sq ?_;try intro
   exact G.ret rfl (.cons (.tmp rfl) (.cons (.tmp rfl) .nil)) (Φ':=[fRp r s]) (M':=[]) oY oN ⟨_,rfl,rfl,rfl⟩
 by_cases h2:s.length≤n
 ·have e:(if wrongL s n 1=0∧n=s.length then (40:Int) else wrongL s n 1)=40:=by
   by_cases h3:(s.length:Int)<n
   ·rw [wrong_two s n 1 h1 h3,if_neg oM]
   ·rw [wrong_none s n 1 h1 h3,if_pos ⟨rfl,by omega⟩]
  rw [e,if_neg oE]
  repeat refine sq ?_;try intro
  refine o_callD rfl rfl rfl rfl (ho _) ?_
  intro r
  repeat refine sq ?_;try intro
  exact G.ret rfl (.cons (.tmp rfl) (.cons (.tmp rfl) .nil)) (Φ':=[fRp r s]) (M':=[]) oY oN ⟨_,rfl,rfl,rfl⟩
 ·rw [wrong_none s n 1 h1 oM,if_neg (c:=_∧_) oM,if_pos rfl]
  have i1:s.length-1<s.length:=by omega
  have i2:s.length-1-n<s.length:=by omega
  have he:swapS s n=(s.set (s.length-1) s[s.length-1-n]).set (s.length-1-n) s[s.length-1]:=by
   unfold swapS
   simp only [List.getD,List.getElem?_eq_getElem i1,List.getElem?_eq_getElem i2,Option.getD_some]
  rw [he]
  repeat refine sq ?_;try intro
  refine o_callO rfl rfl rfl rfl (own13_spec _ s oM) ?_
  intro v' o ho'
  cases o with
  | none=>obtain ⟨_,h0⟩:=ho';omega
  | some q =>
   obtain ⟨b,cs⟩:=q
   obtain ⟨cap,rfl,hcs,hcap⟩:=ho'
   dsimp only [List.cons_append,List.nil_append,ocells,ownM]
   repeat refine sq ?_;try intro
   refine o_idxO rfl rfl rfl rfl oM oM (o':=(s.length-1)*4) oM ?_
   repeat refine sq ?_;try intro
   refine o_storeO (α:=Word) (xs:=s) s[s.length-1-n] (s.length-1) i1 rfl rfl rfl ⟨fun _ _=>Rp.flat.2 rfl⟩ rfl ?_
   intro cs1 hc1
   repeat refine sq ?_;try intro
   refine o_idxO rfl rfl rfl rfl oM oM (o':=(s.length-1-n)*4) oM ?_
   repeat refine sq ?_;try intro
   refine o_storeO (α:=Word) (xs:=s.set (s.length-1) s[s.length-1-n]) s[s.length-1] (s.length-1-n) oX rfl rfl rfl ⟨fun _ _=>Rp.flat.2 rfl⟩ rfl ?_
   intro cs2 hc2
   refine G.giveOwn2 (Mr:=[]) (.slice (some ⟨b,0,none⟩) s.length cap) ((s.set (s.length-1) s[s.length-1-n]).set (s.length-1-n) s[s.length-1]) (some (b,cs2)) 49 ⟨cap,by simp,by rw [hc2,hc1];exact hcs,by simpa using hcap⟩ (show Ent' _ (fRow cs2 _) from oY) oP ?_
   repeat refine sq ?_;try intro
   exact G.ret rfl (.cons (.tmp rfl) (.cons (.tmp rfl) .nil)) (Φ':=[fRp _ ((s.set (s.length-1) s[s.length-1-n]).set (s.length-1-n) s[s.length-1])]) (M':=[]) oY oN ⟨_,rfl,rfl,rfl⟩
def RPO (e:Int) (ys zs:List Word):Value→List Fa→Own→Prop:=fun u Φ' M' => ∃ v1 v2 o1 o2,u = .tuple #[v1,v2,.int .i64 e]∧IsOwn 4 v1 ys.length o1∧IsOwn 4 v2 zs.length o2∧Φ'=[fRow (ocells o1) ys,fRow (ocells o2) zs]∧M'=ownM 49 o1++ownM 49 o2
theorem rev_take (s:List Word) (i:Nat) (hi:i<s.length):s.reverse.take (i+1)=s.reverse.take i++[s[s.length-1-i]]:=by
 rw [List.take_succ_eq_append_getElem (by simpa using hi),List.getElem_reverse]
theorem drop_rev (s:List Word) (n:Nat):(s.drop (s.length-n)).reverse=s.reverse.take n:=by
 rw [List.reverse_drop]
 by_cases h:n≤s.length
 ·rw [show s.length-(s.length-n)=n from by omega]
 ·rw [List.take_of_length_le oX,List.take_of_length_le oX]
theorem pop13_spec (v:Value) (s:List Word) (n:Nat) (hn:n≤1000) (hs:s.length≤100000):Fn prog 65 [v,.int .i64 n] [fRp v s] [] (RPO (popL s n).2.2 (popL s n).1 (popL s n).2.1):=by
 unfold popL
 refine Fn.enter func65 rfl ntmps65 oI (fun I0 w0 => ?_)
 refine W.bare (G.slice v s ?_);intro a1 c1 e1 k1;subst e1
 refine G.code ?_
 by_cases h1:1024<s.length∨(n:Int)<0
 ·rw [wrong_one s n 0 h1,if_neg oE]
  repeat refine sq ?_;try intro
  refine o_callO rfl rfl rfl rfl (own13_spec _ s oM) ?_
  intro w o ho
  repeat refine sq ?_;try intro
  exact G.ret rfl (.cons (.tmp rfl) (.cons (.tmp rfl) (.cons (.tmp rfl) .nil))) (Φ':=[fRow (ocells o) s,fRow [] ([]:List Word)]) (M':=ownM 49 o++[]) oY (by rw [List.append_nil];exact List.Sublist.refl _) ⟨_,_,o,none,rfl,ho,⟨rfl,rfl⟩,rfl,rfl⟩
 by_cases h2:(s.length:Int)<n
 ·rw [wrong_two s n 0 h1 h2,if_neg oE]
  repeat refine sq ?_;try intro
  refine o_callO rfl rfl rfl rfl (own13_spec _ s oM) ?_
  intro w o ho
  repeat refine sq ?_;try intro
  exact G.ret rfl (.cons (.tmp rfl) (.cons (.tmp rfl) (.cons (.tmp rfl) .nil))) (Φ':=[fRow (ocells o) s,fRow [] ([]:List Word)]) (M':=ownM 49 o++[]) oY (by rw [List.append_nil];exact List.Sublist.refl _) ⟨_,_,o,none,rfl,ho,⟨rfl,rfl⟩,rfl,rfl⟩
 rw [wrong_none s n 0 h1 h2,if_pos rfl]
 dsimp only
 rw [drop_rev]
 repeat refine sq ?_;try intro
 refine W.lp (S:=Nat × Value × OR) (fun q=>([fRow (ocells q.2.2) (s.reverse.take q.1),fRp (.slice a1 s.length c1) s],[(8,.int .i64 (q.1:Int)),(7,q.2.1),(1,.int .i64 (n:Int)),(0,.slice a1 s.length c1)],ownM 49 q.2.2)) (fun q=>q.1≤n∧IsOwn 4 q.2.1 (s.reverse.take q.1).length q.2.2) (fun q=>n-q.1) (0,.slice none 0 0,none) ?_ (h0:=⟨Nat.zero_le _,rfl,rfl⟩) (hΦ:=by show Ents _ [fRow [] ([]:List Word),fRp (.slice a1 s.length c1) s];infer_instance)
 rintro ⟨i,w,o⟩ ⟨hi,hown⟩
 dsimp only at hi hown ⊢
 by_cases hin:i=n
 ·subst hin
  repeat refine sq ?_;try intro
  refine o_slice (xs:=s) 0 (s.length-i) rfl rfl rfl rfl ⟨_,_,rfl,rfl⟩ (Nat.zero_le _) oM ?_
  intro z
  rw [List.drop_zero]
  repeat refine sq ?_;try intro
  refine o_callO rfl rfl rfl rfl (own13_spec z (s.take (s.length-i)) (by rw [List.length_take];omega)) ?_
  intro w2 o2 ho2
  refine G.perm ?_ oH
  repeat refine sq ?_;try intro
  exact G.ret rfl (.cons (.tmp rfl) (.cons (.tmp rfl) (.cons (.tmp rfl) .nil))) (Φ':=[fRow (ocells o2) (s.take (s.length-i)),fRow (ocells o) (s.reverse.take i)]) (M':=ownM 49 o2++ownM 49 o) oY oZ ⟨_,_,o2,o,rfl,ho2,hown,rfl,rfl⟩
 ·have hr:=rev_take s i oM
  have hlen:(s.reverse.take i).length=i:=by simp;omega
  repeat refine sq ?_;try intro
  refine o_app2 (Mr:=[]) o (xs:=s.reverse.take i) (ys:=[s[s.length-1-i]]) hown ⟨by simp [hlen];omega,by simp [hlen];omega,rfl⟩ rfl rfl rfl rfl oY oY oP ?_
  intro w' o' hown'
  rw [← hr] at hown' ⊢
  dsimp only [List.nil_append]
  repeat refine sq ?_;try intro
  exact G.ag (S:=Nat × Value × OR) (i+1,w',o') (hpre:=⟨by dsimp only;omega,hown'⟩)
end Go.Rail
namespace Go.Rail
open Go Go.Proofs Tryz
set_option maxHeartbeats 400000
set_option maxRecDepth 4000
attribute [local irreducible] OpK G W LW wpListIn Exit.then Exit.inBlock Post rounds opRun bodyPostM intOp
set_option maxHeartbeats 16000000
set_option maxRecDepth 20000
theorem rsmall1_spec (n:Nat) (hn:n<10):FnV prog 45 [.int .i64 (n:Int)] [] (.string (ba (decN n))):=by
 refine Fn.enter func45 rfl ntmps45 oI (fun I0 w0 => ?_)
 unfold decN
 rw [if_pos hn]
 repeat refine st ?_;try intro
 refine G.retV ?_
 refine congrArg (fun l=>Value.string (ba l)) ?_
 clear I0 w0
 revert n
 exact of_decide_eq_true kR
theorem rsmall_spec (n:Nat) (hn:n<100):FnV prog 45 [.int .i64 (n:Int)] [] (.string (ba (decN n))):=by
 by_cases h:n<10
 ·exact rsmall1_spec n h
 have h1:=rsmall1_spec (n/10) oM
 have h2:=rsmall1_spec (n%10) oM
 have e1:(decN (n/10)).length=1:=by unfold decN;rw [if_pos oM];rfl
 have e2:(decN (n%10)).length=1:=by unfold decN;rw [if_pos oM];rfl
 refine Fn.enter func45 rfl ntmps45 oI (fun I0 w0 => ?_)
 repeat refine st ?_;try intro
 refine cV h1 ?_
 repeat refine st ?_;try intro
 refine cV h2 ?_
 repeat refine st ?_;try intro
 refine G.retV ?_
 refine congrArg (fun l=>Value.string (ba l)) ?_
 unfold decN
 rw [if_pos oM,if_pos oM,if_neg h];rfl
theorem named_spec (n:Nat) (hn:n<256):FnV prog 46 [.int .u8 (n:Int)] [] (.tuple #[rowV ((tabN n).getD noRow),.bool (tabN n).isSome]):=by
 refine Fn.enter func46 rfl ntmps46 oI (fun I0 w0 => ?_)
 iterate 75
  repeat refine st ?_;try intro
  refine W.cond rfl (fun h => ?_) (fun h => ?_)
  ·obtain rfl:=natk h
   repeat refine st ?_;try intro
   refine G.ret rfl (.cons (.cellA rfl rfl) (.cons (.tmp rfl) .nil)) (Φ':=[]) (M':=[]) oY oN ⟨?_,rfl,rfl⟩
   rfl
 repeat refine st ?_;try intro
 simp only [decide_eq_false_iff_not] at *
 rw [tab_none n hn (by simp only [tabK,rowsLow,rowsHigh,List.map_cons,List.map_nil,List.cons_append,List.nil_append,List.mem_cons,List.not_mem_nil,or_false,not_or];omega)]
 refine G.ret rfl (.cons (.cellA rfl rfl) (.cons (.tmp rfl) .nil)) (Φ':=[]) (M':=[]) oY oN ⟨?_,rfl,rfl⟩
 rfl
theorem rinfo_spec (n:Nat) (hn:n<256):FnV prog 26 [.int .u8 (n:Int)] [] (infoV n):=by
 refine Fn.enter func26 rfl ntmps26 oI (fun I0 w0 => ?_)
 unfold infoV infoN
 by_cases h1:96≤n∧n≤127
 ·rw [if_pos h1]
  have hs:=rsmall_spec (n-95) oM
  have hl:(decN (n-95)).length≤2:=by unfold decN;split<;>simp
  repeat refine st ?_;try intro
  refine cV hs ?_
  repeat refine st ?_;try intro
  refine G.retV ?_
  rfl
 rw [if_neg h1]
 by_cases h2:128≤n∧n≤143
 ·rw [if_pos h2]
  have hs:=rsmall_spec (n-127) oM
  have hl:(decN (n-127)).length≤2:=by unfold decN;split<;>simp
  repeat refine st ?_;try intro
  refine cV hs ?_
  repeat refine st ?_;try intro
  refine G.retV ?_
  rfl
 rw [if_neg h2]
 by_cases h3:144≤n∧n≤159
 ·rw [if_pos h3]
  have hs:=rsmall_spec (n-143) oM
  have hl:(decN (n-143)).length≤2:=by unfold decN;split<;>simp
  repeat refine st ?_;try intro
  refine cV hs ?_
  repeat refine st ?_;try intro
  refine G.retV ?_
  rfl
 rw [if_neg h3]
 by_cases h4:160≤n∧n≤164
 ·rw [if_pos h4]
  have hs:=rsmall_spec (n-160) oM
  have hl:(decN (n-160)).length≤2:=by unfold decN;split<;>simp
  repeat refine st ?_;try intro
  refine cV hs ?_
  repeat refine st ?_;try intro
  refine G.retV ?_
  rfl
 rw [if_neg h4]
 have hs:=named_spec n hn
 have h5:n<96∨164<n:=by omega
 rcases h5 with h5|h5
 ·repeat refine st ?_;try intro
  refine cV hs ?_
  repeat refine st ?_;try intro
  refine G.retV ?_
  rfl
 ·repeat refine st ?_;try intro
  refine cV hs ?_
  repeat refine st ?_;try intro
  refine G.retV ?_
  rfl
end Go.Rail
namespace Go.Rail
open Go Go.Proofs Tryz
set_option maxHeartbeats 400000
set_option maxRecDepth 4000
attribute [local irreducible] OpK G W LW wpListIn Exit.then Exit.inBlock Post rounds opRun bodyPostM intOp
set_option maxHeartbeats 4000000
attribute [local irreducible] lexN cmpW Word.nat subW mulW addW divW modW sdivW smodW addmodW mulmodW expW andW orW xorW notW shlW shrW sarW byteW signW lessW Word.num
instance cvDD_1 (a b:Word) {Φ:List Fa}:CV prog 207 [a.v,b.v] Φ (sdivW a b).v:=⟨Fn.weaken (rsdiv_spec a b)⟩
instance cvDD_2 (a b:Word) {Φ:List Fa}:CV prog 209 [a.v,b.v] Φ (smodW a b).v:=⟨Fn.weaken (rsmod_spec a b)⟩
instance cvDD_3 (a b c:Word) {Φ:List Fa}:CV prog 210 [a.v,b.v,c.v] Φ (addmodW a b c).v:=⟨Fn.weaken (raddmod_spec a b c)⟩
instance cvDD_4 (a b c:Word) {Φ:List Fa}:CV prog 211 [a.v,b.v,c.v] Φ (mulmodW a b c).v:=⟨Fn.weaken (rmulmod_spec a b c)⟩
instance cvDD_5 (a b:Word) {Φ:List Fa}:CV prog 212 [a.v,b.v] Φ (expW a b).v:=⟨Fn.weaken (rexp_spec a b)⟩
instance cvDD_6 (a b:Word) {Φ:List Fa}:CV prog 213 [a.v,b.v] Φ (signW a b).v:=⟨Fn.weaken (rsign_spec a b)⟩
instance cvDD_7 (a b:Word) {Φ:List Fa}:CV prog 216 [a.v,b.v] Φ (.bool (lessW a b)):=⟨Fn.weaken (rless3_spec a b)⟩
instance cvDD_8 (a b:Word) {Φ:List Fa}:CV prog 217 [a.v,b.v] Φ (andW a b).v:=⟨Fn.weaken (rand_spec a b)⟩
instance cvDD_9 (a b:Word) {Φ:List Fa}:CV prog 218 [a.v,b.v] Φ (orW a b).v:=⟨Fn.weaken (ror_spec a b)⟩
instance cvDD_10 (a b:Word) {Φ:List Fa}:CV prog 219 [a.v,b.v] Φ (xorW a b).v:=⟨Fn.weaken (rxor_spec a b)⟩
instance cvDD_11 (a:Word) {Φ:List Fa}:CV prog 220 [a.v] Φ (notW a).v:=⟨Fn.weaken (rnot_spec a)⟩
instance cvDD_12 (a b:Word) {Φ:List Fa}:CV prog 221 [a.v,b.v] Φ (byteW a b).v:=⟨Fn.weaken (rbyte_spec a b)⟩
instance cvDD_13 (a b:Word) {Φ:List Fa}:CV prog 222 [a.v,b.v] Φ (shlW a b).v:=⟨Fn.weaken (rshl_spec a b)⟩
instance cvDD_14 (a b:Word) {Φ:List Fa}:CV prog 223 [a.v,b.v] Φ (shrW a b).v:=⟨Fn.weaken (rshr_spec a b)⟩
instance cvDD_15 (a b:Word) {Φ:List Fa}:CV prog 224 [a.v,b.v] Φ (sarW a b).v:=⟨Fn.weaken (rsar_spec a b)⟩
theorem rflag_spec (b:Bool):FnV prog 214 [.bool b] [] (flagW b).v:=by
 cases b
 ·refine Fn.enter func214 rfl ntmps214 oI (fun I0 w0 => ?_)
  repeat refine sq ?_;try intro
  refine G.retV ?_
  rfl
 ·refine Fn.enter func214 rfl ntmps214 oI (fun I0 w0 => ?_)
  repeat refine sq ?_;try intro
  refine G.retV ?_
  rfl
instance cvDD_16 (b:Bool) {Φ:List Fa}:CV prog 214 [.bool b] Φ (flagW b).v:=⟨Fn.weaken (rflag_spec b)⟩
def sumsL:List (Nat × (Word→Word→Word→Word)):=[(1,fun a b _=>addW a b),(2,fun a b _=>mulW a b),(3,fun a b _=>subW a b),(4,fun a b _=>divW a b),(5,fun a b _=>sdivW a b),(6,fun a b _=>modW a b),(7,fun a b _=>smodW a b),(8,addmodW),(9,mulmodW),(10,fun a b _=>expW a b),(11,fun a b _=>signW a b)]
def bitsL:List (Nat × (Word→Word→Word)):=[(16,fun a b=>flagW (decide (cmpW a b<0))),(17,fun a b=>flagW (decide (0<cmpW a b))),(18,fun a b=>flagW (lessW a b)),(19,fun a b=>flagW (lessW b a)),(20,fun a b=>flagW (decide (a=b))),(21,fun a _=>flagW (decide (a = .zero))),
 (22,andW),(23,orW),(24,xorW),(25,fun a _=>notW a),(26,byteW),(27,shlW),(28,shrW),(29,sarW)]
theorem sums_spec : ∀ e∈sumsL,∀ a b c:Word,FnV prog 131 [.int .u8 (e.1:Int),a.v,b.v,c.v] [] (e.2 a b c).v:=by
 simp only [sumsL,List.forall_mem_cons]
 refine ⟨?_,?_,?_,?_,?_,?_,?_,?_,?_,?_,?_,fun _ h=>by cases h⟩
 all_goals
  intro a b c
  refine Fn.enter func131 rfl ntmps131 oI (fun I0 w0 => ?_)
  repeat refine sq ?_;try intro
  refine G.retV ?_
  rfl
theorem bits16_spec : ∀ e∈bitsL,∀ a b:Word,FnV prog 132 [.int .u8 (e.1:Int),a.v,b.v] [] (e.2 a b).v:=by
 simp only [bitsL,List.forall_mem_cons]
 refine ⟨?_,?_,?_,?_,?_,?_,?_,?_,?_,?_,?_,?_,?_,?_,fun _ h=>by cases h⟩
 all_goals
  intro a b
  refine Fn.enter func132 rfl ntmps132 oI (fun I0 w0 => ?_)
  repeat refine sq ?_;try intro
  refine G.retV ?_
  rfl
end Go.Rail
