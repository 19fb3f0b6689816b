/- compute: which opcodes there are, and what they make of a stack. -/
import Derived.Test.YtpbbjkbackiljaaGreatDoorRailA
import Derived.Test.YtpbbjkbackiljaaGreatDoorAC10D9
import Derived.Test.YtpbbjkbackiljaaGreatDoorAC9C14
import Derived.Test.YtpbbjkbackiljaaGreatDoorAD2K1
import Derived.Test.YtpbbjkbackiljaaGreatDoorAEqBC
import Derived.Test.YtpbbjkbackiljaaGreatDoorRailD
set_option linter.unusedSimpArgs false
set_option linter.unusedVariables false
namespace Go.Rail
open Go Go.Proofs Tryz
set_option maxHeartbeats 400000
set_option maxRecDepth 4000
attribute [local irreducible] OpK G W LW wpListIn Exit.then Exit.inBlock Post rounds opRun bodyPostM intOp
set_option maxHeartbeats 16000000
set_option maxRecDepth 20000
attribute [local irreducible] lexN cmpW Word.nat subW mulW addW divW modW sdivW smodW addmodW mulmodW expW andW orW xorW notW shlW shrW sarW byteW signW lessW
def find2 {α:Type}:List (Nat × α)→Nat→Option α
 | [],_=>none
 | (k,r)::l,n=>if n=k then some r else find2 l n
theorem find2_mem {α:Type} {l:List (Nat × α)} {n:Nat} {x:α} (h:find2 l n=some x):(n,x)∈l:=by
 induction l with
 | nil=>cases h
 | cons e l ih =>
  obtain ⟨k,r⟩:=e
  simp only [find2] at h
  by_cases hk:n=k
  ·rw [if_pos hk] at h;cases h;subst hk;exact .head _
  ·rw [if_neg hk] at h;exact .tail _ (ih h)
theorem find2_map {α β:Type} (f:α→β) (l:List (Nat × α)) (n:Nat):find2 (l.map fun e=>(e.1,f e.2)) n=(find2 l n).map f:=by
 induction l with
 | nil=>rfl
 | cons e l ih =>
  obtain ⟨k,r⟩:=e
  simp only [List.map_cons,find2,ih]
  by_cases hk:n=k<;>simp [hk]
theorem getV_find {α:Type} (f:α→Value) (l:List (Nat × α)) (n:Nat):getV (l.map fun e=>((e.1:Int),f e.2)) (n:Int)=(find2 l n).map f:=by
 induction l with
 | nil=>rfl
 | cons e l ih =>
  obtain ⟨k,r⟩:=e
  simp only [List.map_cons,getV,find2,ih]
  by_cases hk:n=k
  ·subst hk;simp
  ·rw [if_neg hk,if_neg oM]
def ops1:List (Nat × (Word→Word)):=[(21,fun a=>flagW (decide (a = .zero))),(25,notW)]
def ops2:List (Nat × (Word→Word→Word)):=[(1,addW),(2,mulW),(3,subW),(4,divW),(5,sdivW),(6,modW),(7,smodW),(10,expW),(11,signW),
 (16,fun a b=>flagW (decide (cmpW a b<0))),(17,fun a b=>flagW (decide (0<cmpW a b))),(18,fun a b=>flagW (lessW a b)),(19,fun a b=>flagW (lessW b a)),(20,fun a b=>flagW (decide (a=b))),
 (22,andW),(23,orW),(24,xorW),(26,byteW),(27,shlW),(28,shrW),(29,sarW)]
def ops3:List (Nat × (Word→Word→Word→Word)):=[(8,addmodW),(9,mulmodW)]
def isC (n:Nat):Bool:=decide (n=80∨128≤n∧n≤159)||(find2 ops1 n).isSome||(find2 ops2 n).isSome||(find2 ops3 n).isSome
def madeL (n:Nat) (l:List Word):List Word :=
 match find2 ops1 n with
 | some f=>[f (l.getD 0 .zero)]
 | none=>match find2 ops2 n with
  | some f=>[f (l.getD 0 .zero) (l.getD 1 .zero)]
  | none=>match find2 ops3 n with
   | some f=>[f (l.getD 0 .zero) (l.getD 1 .zero) (l.getD 2 .zero)]
   | none=>[]
def fv (f:FuncId):Value := .func (.func f) #[] #[]
def K1:List (Nat × FuncId × (Word→Word)):=[(21,137,fun a=>flagW (decide (a = .zero))),(25,139,notW)]
def K2:List (Nat × FuncId × (Word→Word→Word)):=[(1,140,addW),(2,141,mulW),(3,142,subW),(4,143,divW),(5,144,sdivW),(6,145,modW),(7,146,smodW),(10,147,expW),(11,148,signW),
 (16,149,fun a b=>flagW (decide (cmpW a b<0))),(17,151,fun a b=>flagW (decide (0<cmpW a b))),(18,152,fun a b=>flagW (lessW a b)),(19,154,fun a b=>flagW (lessW b a)),(20,155,fun a b=>flagW (decide (a=b))),
 (22,156,andW),(23,157,orW),(24,158,xorW),(26,159,byteW),(27,160,shlW),(28,161,shrW),(29,162,sarW)]
def K3:List (Nat × FuncId × (Word→Word→Word→Word)):=[(8,163,addmodW),(9,164,mulmodW)]
theorem K1_ok : ∀ e∈K1,HasFn prog e.2.1 ∧ ∀ a:Word,FnV prog e.2.1 [a.v] [] (e.2.2 a).v:=by
 simp only [K1,List.forall_mem_cons]
 exact ⟨⟨oY,isz_spec⟩,⟨oY,bnot_spec⟩,by simp⟩
theorem K2_ok : ∀ e∈K2,HasFn prog e.2.1 ∧ ∀ a b:Word,FnV prog e.2.1 [a.v,b.v] [] (e.2.2 a b).v:=by
 simp only [K2,List.forall_mem_cons]
 exact ⟨⟨oY,wadd_spec⟩,⟨oY,wmul_spec⟩,⟨oY,wsub_spec⟩,⟨oY,div_spec⟩,⟨oY,sdiv_spec⟩,⟨oY,mod_spec⟩,⟨oY,smod_spec⟩,⟨oY,exp_spec⟩,⟨oY,bsign_spec⟩,
  ⟨oY,lt_spec⟩,⟨oY,gt_spec⟩,⟨oY,slt_spec⟩,⟨oY,sgt_spec⟩,⟨oY,eqq_spec⟩,⟨oY,band_spec⟩,⟨oY,bor_spec⟩,⟨oY,bxor_spec⟩,⟨oY,bbyte_spec⟩,⟨oY,bshl_spec⟩,⟨oY,bshr_spec⟩,⟨oY,bsar_spec⟩,by simp⟩
theorem K3_ok : ∀ e∈K3,HasFn prog e.2.1 ∧ ∀ a b c:Word,FnV prog e.2.1 [a.v,b.v,c.v] [] (e.2.2 a b c).v:=by
 simp only [K3,List.forall_mem_cons]
 exact ⟨⟨oY,addmod_spec⟩,⟨oY,mulmod_spec⟩,by simp⟩
theorem K1_find (n:Nat):find2 ops1 n=(find2 K1 n).map Prod.snd:=find2_map Prod.snd K1 n
theorem K2_find (n:Nat):find2 ops2 n=(find2 K2 n).map Prod.snd:=find2_map Prod.snd K2 n
theorem K3_find (n:Nat):find2 ops3 n=(find2 K3 n).map Prod.snd:=find2_map Prod.snd K3 n
def L1:List (Int × Value):=K1.map fun e=>((e.1:Int),fv e.2.1)
def L2:List (Int × Value):=K2.map fun e=>((e.1:Int),fv e.2.1)
def L3:List (Int × Value):=K3.map fun e=>((e.1:Int),fv e.2.1)
theorem one_spec:Fn prog 82 [] [] [] (RMapV L1):=by
 refine Fn.enter func82 rfl ntmps82 oI (fun I0 w0 => ?_)
 repeat refine st ?_;try intro
 refine o_makeMapV rfl rfl ?_
 intro b
 repeat (first|refine st ?_|refine o_insV rfl rfl rfl rfl kR ?_)
 exact G.ret rfl (.cons (.tmp rfl) .nil) (Φ':=[]) (M':=[(b,MapV L1)]) oY oZ ⟨b,rfl,rfl,rfl⟩
theorem two_spec:Fn prog 83 [] [] [] (RMapV L2):=by
 refine Fn.enter func83 rfl ntmps83 oI (fun I0 w0 => ?_)
 repeat refine st ?_;try intro
 refine o_makeMapV rfl rfl ?_
 intro b
 repeat (first|refine st ?_|refine o_insV rfl rfl rfl rfl kR ?_)
 exact G.ret rfl (.cons (.tmp rfl) .nil) (Φ':=[]) (M':=[(b,MapV L2)]) oY oZ ⟨b,rfl,rfl,rfl⟩
theorem three_spec:Fn prog 84 [] [] [] (RMapV L3):=by
 refine Fn.enter func84 rfl ntmps84 oI (fun I0 w0 => ?_)
 repeat refine st ?_;try intro
 refine o_makeMapV rfl rfl ?_
 intro b
 repeat (first|refine st ?_|refine o_insV rfl rfl rfl rfl kR ?_)
 exact G.ret rfl (.cons (.tmp rfl) .nil) (Φ':=[]) (M':=[(b,MapV L3)]) oY oZ ⟨b,rfl,rfl,rfl⟩
theorem L1_get (n:Nat):getV L1 n=(find2 K1 n).map fun e=>fv e.1:=getV_find (fun e:FuncId × (Word→Word)=>fv e.1) K1 n
theorem L2_get (n:Nat):getV L2 n=(find2 K2 n).map fun e=>fv e.1:=getV_find (fun e:FuncId × (Word→Word→Word)=>fv e.1) K2 n
theorem L3_get (n:Nat):getV L3 n=(find2 K3 n).map fun e=>fv e.1:=getV_find (fun e:FuncId × (Word→Word→Word→Word)=>fv e.1) K3 n
theorem is_spec (n:Nat) (hn:n<256):FnV prog 52 [.int .u8 (n:Int)] [] (.bool (isC n)):=by
 unfold isC
 rw [K1_find,K2_find,K3_find]
 refine Fn.enter func52 rfl ntmps52 oI (fun I0 w0 => ?_)
 by_cases h0:n=80
 ·repeat refine st ?_;try intro
  refine G.retV ?_
  rw [decide_eq_true oM];rfl
 by_cases h1:128≤n∧n≤159
 ·repeat refine st ?_;try intro
  refine G.retV ?_
  rw [decide_eq_true oM];rfl
 rw [decide_eq_false oM]
 have h2:n<128∨159<n:=by omega
 have g1:=L1_get n
 have g2:=L2_get n
 have g3:=L3_get n
 generalize find2 K1 n=R1 at g1 ⊢
 generalize find2 K2 n=R2 at g2 ⊢
 generalize find2 K3 n=R3 at g3 ⊢
 rcases h2 with h2|h2<;>cases R1<;>cases R2<;>cases R3
 all_goals
  repeat refine st ?_;try intro
  refine o_callM rfl rfl rfl rfl one_spec ?_
  intro b1
  repeat refine st ?_;try intro
  refine o_lookV (l:=L1) rfl rfl rfl rfl oI (by rw [g1]) (by rw [g1]) ?_
  repeat refine st ?_;try intro
  refine o_callM rfl rfl rfl rfl two_spec ?_
  intro b2
  repeat refine st ?_;try intro
  refine o_lookV (l:=L2) rfl rfl rfl rfl oI (by rw [g2]) (by rw [g2]) ?_
  repeat refine st ?_;try intro
  refine o_callM rfl rfl rfl rfl three_spec ?_
  intro b3
  repeat refine st ?_;try intro
  refine o_lookV (l:=L3) rfl rfl rfl rfl oI (by rw [g3]) (by rw [g3]) ?_
  repeat refine st ?_;try intro
  refine G.retV ?_
  rfl
theorem made_spec (n:Nat) (hn:n<256) (v:Value) (xs:List Word) (h1:(find2 ops1 n).isSome→1≤xs.length) (h2:(find2 ops2 n).isSome→2≤xs.length) (h3:(find2 ops3 n).isSome→3≤xs.length) :
  FnD prog 89 [.int .u8 (n:Int),v] [fRp v xs] (fun u=>[fRp u (madeL n xs)]):=by
 unfold madeL
 rw [K1_find] at h1 ⊢
 rw [K2_find] at h2 ⊢
 rw [K3_find] at h3 ⊢
 have g1:=L1_get n
 have g2:=L2_get n
 have g3:=L3_get n
 refine Fn.enter func89 rfl ntmps89 oI (fun I0 w0 => ?_)
 cases e1:find2 K1 n with
 | some e =>
  obtain ⟨hf,hc⟩:=K1_ok _ (find2_mem e1)
  rw [e1] at g1 h1
  have hx:=h1 rfl
  obtain ⟨x,xs,rfl⟩ : ∃ x ys,xs=x::ys:=by cases xs with|nil=>simp at hx|cons x ys=>exact ⟨_,_,rfl⟩
  have hc:=hc x
  show W _ _ (Post _ _ _ _ _ (fun u Φ' Mc'=>Φ'=[fRp u [e.2 x]]∧Mc'=[])) _ _ _
  dsimp only at hf hc g1
  repeat refine st ?_;try intro
  refine o_callM rfl rfl rfl rfl one_spec ?_
  intro b1
  repeat refine st ?_;try intro
  refine o_lookV (l:=L1) rfl rfl rfl rfl oI (by rw [g1]) (by rw [g1]) ?_
  repeat refine st ?_;try intro
  refine cV hc ?_
  repeat refine st ?_;try intro
  exact G.retD rfl rfl
 | none =>
 rw [e1] at g1
 cases e2:find2 K2 n with
 | some e =>
  obtain ⟨hf,hc⟩:=K2_ok _ (find2_mem e2)
  rw [e2] at g2 h2
  have hx:=h2 rfl
  obtain ⟨x,y,xs,rfl⟩ : ∃ x y ys,xs=x::y::ys:=by match xs,hx with|x::y::ys,_=>exact ⟨_,_,_,rfl⟩
  have hc:=hc x y
  show W _ _ (Post _ _ _ _ _ (fun u Φ' Mc'=>Φ'=[fRp u [e.2 x y]]∧Mc'=[])) _ _ _
  dsimp only at hf hc g2
  have i0:0<(x::y::xs).length:=Nat.zero_lt_succ _
  have i1:1<(x::y::xs).length:=Nat.succ_lt_succ (Nat.zero_lt_succ _)
  repeat refine st ?_;try intro
  refine o_callM rfl rfl rfl rfl one_spec ?_
  intro b1
  repeat refine st ?_;try intro
  refine o_lookV (l:=L1) rfl rfl rfl rfl oI (by rw [g1]) (by rw [g1]) ?_
  repeat refine st ?_;try intro
  refine o_callM rfl rfl rfl rfl two_spec ?_
  intro b2
  repeat refine st ?_;try intro
  refine o_lookV (l:=L2) rfl rfl rfl rfl oI (by rw [g2]) (by rw [g2]) ?_
  repeat refine st ?_;try intro
  refine W.drawA 7 [dq _,dq _,dk _,dq _,dq _,dk _,dq _] [[],[],[1],[2],[],[4],[5]] [0,3,6] (hrest:=fun c=>nrm ?_)
  repeat refine st ?_;try intro
  refine cV hc ?_
  repeat refine st ?_;try intro
  exact G.retD rfl rfl
 | none =>
 rw [e2] at g2
 cases e3:find2 K3 n with
 | some e =>
  obtain ⟨hf,hc⟩:=K3_ok _ (find2_mem e3)
  rw [e3] at g3 h3
  have hx:=h3 rfl
  obtain ⟨x,y,z,xs,rfl⟩ : ∃ x y z ys,xs=x::y::z::ys:=by match xs,hx with|x::y::z::ys,_=>exact ⟨_,_,_,_,rfl⟩
  have hc:=hc x y z
  show W _ _ (Post _ _ _ _ _ (fun u Φ' Mc'=>Φ'=[fRp u [e.2 x y z]]∧Mc'=[])) _ _ _
  dsimp only at hf hc g3
  repeat refine st ?_;try intro
  refine o_callM rfl rfl rfl rfl one_spec ?_
  intro b1
  repeat refine st ?_;try intro
  refine o_lookV (l:=L1) rfl rfl rfl rfl oI (by rw [g1]) (by rw [g1]) ?_
  repeat refine st ?_;try intro
  refine o_callM rfl rfl rfl rfl two_spec ?_
  intro b2
  repeat refine st ?_;try intro
  refine o_lookV (l:=L2) rfl rfl rfl rfl oI (by rw [g2]) (by rw [g2]) ?_
  repeat refine st ?_;try intro
  refine o_callM rfl rfl rfl rfl three_spec ?_
  intro b3
  repeat refine st ?_;try intro
  refine o_lookV (l:=L3) rfl rfl rfl rfl oI (by rw [g3]) (by rw [g3]) ?_
  repeat refine st ?_;try intro
  refine W.drawA 10 [dq _,dq _,dk _,dq _,dq _,dk _,dq _,dq _,dk _,dq _] [[],[],[1],[2],[],[4],[5],[],[7],[8]] [0,3,6,9] (hrest:=fun c=>nrm ?_)
  repeat refine st ?_;try intro
  refine cV hc ?_
  repeat refine st ?_;try intro
  exact G.retD rfl rfl
 | none =>
  rw [e3] at g3
  show W _ _ (Post _ _ _ _ _ (fun u Φ' Mc'=>Φ'=[fRp u ([]:List Word)]∧Mc'=[])) _ _ _
  repeat refine st ?_;try intro
  refine o_callM rfl rfl rfl rfl one_spec ?_
  intro b1
  repeat refine st ?_;try intro
  refine o_lookV (l:=L1) rfl rfl rfl rfl oI (by rw [g1]) (by rw [g1]) ?_
  repeat refine st ?_;try intro
  refine o_callM rfl rfl rfl rfl two_spec ?_
  intro b2
  repeat refine st ?_;try intro
  refine o_lookV (l:=L2) rfl rfl rfl rfl oI (by rw [g2]) (by rw [g2]) ?_
  repeat refine st ?_;try intro
  refine o_callM rfl rfl rfl rfl three_spec ?_
  intro b3
  repeat refine st ?_;try intro
  refine o_lookV (l:=L3) rfl rfl rfl rfl oI (by rw [g3]) (by rw [g3]) ?_
  repeat refine st ?_;try intro
  exact G.retD rfl rfl
end Go.Rail
namespace Go.Rail
open Go Go.Proofs Tryz
set_option maxHeartbeats 400000
set_option maxRecDepth 4000
attribute [local irreducible] OpK G W LW wpListIn Exit.then Exit.inBlock Post rounds opRun bodyPostM intOp
set_option maxHeartbeats 16000000
set_option maxRecDepth 20000
attribute [local irreducible] lexN cmpW Word.nat subW mulW addW divW modW sdivW smodW addmodW mulmodW expW andW orW xorW notW shlW shrW sarW byteW signW lessW
def popsN (n:Nat):Nat:=((infoN n).getD noRow).pops
def doC (n:Nat) (s:List Word):List Word × Int :=
 if isC n=false then (s,42) else if 1024<s.length then (s,1)
 else if 144≤n then swapL s (n-143) else if 128≤n then dupL s (n-127)
 else if (popL s (popsN n)).2.2≠0 then ((popL s (popsN n)).1,(popL s (popsN n)).2.2)
 else pushL (popL s (popsN n)).1 (madeL n (popL s (popsN n)).2.1)
def chkP (n:Nat):Bool := !(isC n)||(Nat.ble (popsN n) 7&&(!(find2 ops1 n).isSome||Nat.ble 1 (popsN n))&&(!(find2 ops2 n).isSome||Nat.ble 2 (popsN n))&&(!(find2 ops3 n).isSome||Nat.ble 3 (popsN n))&&(infoN n).isSome)
theorem chkP_all:((List.range 128).all chkP)=true:=by kernel_rfl
theorem pops_ok (n:Nat) (hn:n<128) (h:isC n=true):popsN n≤7∧((find2 ops1 n).isSome→1≤popsN n)∧((find2 ops2 n).isSome→2≤popsN n)∧((find2 ops3 n).isSome→3≤popsN n):=by
 have:=List.all_eq_true.1 chkP_all n (by simpa using hn)
 simp only [chkP,h,Bool.not_true,Bool.false_or,Bool.and_eq_true,Bool.or_eq_true,Bool.not_eq_true',Nat.ble_eq] at this
 obtain ⟨⟨⟨⟨h1,h2⟩,h3⟩,h4⟩,_⟩:=this
 refine ⟨h1,fun h=>h2.resolve_left (by rw [h];decide),fun h=>h3.resolve_left (by rw [h];decide),fun h=>h4.resolve_left (by rw [h];decide)⟩
theorem popL_ok {s:List Word} {n:Nat} (h:(popL s n).2.2=0):(popL s n).1=s.take (s.length-n)∧(popL s n).2.1=(s.drop (s.length-n)).reverse∧n≤s.length:=by
 unfold popL at h ⊢
 by_cases hw:wrongL s n 0=0
 ·rw [if_pos hw]
  refine ⟨rfl,rfl,?_⟩
  unfold wrongL at hw
  by_cases h1:1024<s.length∨(n:Int)<0
  ·rw [if_pos h1] at hw;cases hw
  ·rw [if_neg h1] at hw
   by_cases h2:(s.length:Int)<n
   ·rw [if_pos h2] at hw;cases hw
   ·omega
 ·rw [if_neg hw] at h;exact absurd h hw
theorem do_spec (n:Nat) (hn:n<256) (v:Value) (s:List Word) (hs:s.length≤100000):Fn prog 54 [.int .u8 (n:Int),v] [fRp v s] [] (RD (doC n s).2 (doC n s).1):=by
 have hi:=is_spec n hn
 have hcl:=fun w=>Fn.given (cloneW_spec w s oM)
 unfold doC
 refine Fn.enter func54 rfl ntmps54 oI (fun I0 w0 => ?_)
 cases hc:isC n with
 | false =>
  rw [hc] at hi
  rw [if_pos rfl]
  repeat refine st ?_;try intro
  refine cV hi ?_
  repeat refine st ?_;try intro
  refine o_callD rfl rfl rfl rfl (hcl v) ?_
  intro r
  repeat refine st ?_;try intro
  exact G.ret rfl (.cons (.tmp rfl) (.cons (.tmp rfl) .nil)) (Φ':=[fRp r s]) (M':=[]) oY oN ⟨_,rfl,rfl,rfl⟩
 | true =>
 rw [hc] at hi
 rw [if_neg oE]
 by_cases h1:1024<s.length
 ·rw [if_pos h1]
  repeat refine st ?_;try intro
  refine cV hi ?_
  repeat refine st ?_;try intro
  refine o_callD rfl rfl rfl rfl (hcl v) ?_
  intro r
  repeat refine st ?_;try intro
  exact G.ret rfl (.cons (.tmp rfl) (.cons (.tmp rfl) .nil)) (Φ':=[fRp r s]) (M':=[]) oY oN ⟨_,rfl,rfl,rfl⟩
 rw [if_neg h1]
 by_cases h2:144≤n
 ·rw [if_pos h2]
  have hsw:=swap_spec v s (n-144+1) oM hs
  rw [show n-143=n-144+1 from by omega]
  repeat refine st ?_;try intro
  refine cV hi ?_
  repeat refine st ?_;try intro
  refine OpK.call rfl rfl rfl rfl hsw oY (Mr:=_) oP ?_
  rintro u Φ' Mc' ⟨sv,rfl,rfl,rfl⟩
  refine nA ?_
  unfold tupD
  repeat refine st ?_;try intro
  exact G.ret rfl (.cons (.tmp rfl) (.cons (.tmp rfl) .nil)) (Φ':=[fRp sv _]) (M':=[]) oY oN ⟨_,rfl,rfl,rfl⟩
 rw [if_neg h2]
 by_cases h3:128≤n
 ·rw [if_pos h3]
  have hsw:=dup_spec v s (n-128+1) oM hs
  rw [show n-127=n-128+1 from by omega]
  repeat refine st ?_;try intro
  refine cV hi ?_
  repeat refine st ?_;try intro
  refine OpK.call rfl rfl rfl rfl hsw oY (Mr:=_) oP ?_
  rintro u Φ' Mc' ⟨sv,rfl,rfl,rfl⟩
  refine nA ?_
  unfold tupD
  repeat refine st ?_;try intro
  exact G.ret rfl (.cons (.tmp rfl) (.cons (.tmp rfl) .nil)) (Φ':=[fRp sv _]) (M':=[]) oY oN ⟨_,rfl,rfl,rfl⟩
 rw [if_neg h3]
 obtain ⟨p1,p2,p3,p4⟩:=pops_ok n oM hc
 have hin:=info_spec n hn
 have hpop:=pop_spec v s (popsN n) oM hs
 unfold infoV rowV at hin
 rw [show ((infoN n).getD noRow).pops=popsN n from rfl] at hin
 by_cases h4:(popL s (popsN n)).2.2=0
 ·rw [if_neg (by simpa using h4)]
  obtain ⟨q1,q2,q3⟩:=popL_ok h4
  have hlen:(popL s (popsN n)).2.1.length=popsN n:=by rw [q2];simp;omega
  have hlen1:(popL s (popsN n)).1.length≤100000:=by rw [q1,List.length_take];omega
  rw [h4] at hpop
  generalize (popL s (popsN n)).1=rest at hpop hlen1 ⊢
  generalize (popL s (popsN n)).2.1=l at hpop hlen ⊢
  have hmd:=fun w=>made_spec n hn w l (fun h=>by rw [hlen];exact p2 h) (fun h=>by rw [hlen];exact p3 h) (fun h=>by rw [hlen];exact p4 h)
  have hml:(madeL n l).length≤100000:=by
   unfold madeL
   split
   ·simp
   ·split
    ·simp
    ·split<;>simp
  generalize popsN n=p at hin hpop
  repeat refine st ?_;try intro
  refine cV hi ?_
  repeat refine st ?_;try intro
  refine cV hin ?_
  repeat refine st ?_;try intro
  refine OpK.call rfl rfl rfl rfl hpop oY (Mr:=_) oP ?_
  rintro u Φ' Mc' ⟨v1,v2,rfl,rfl,rfl⟩
  refine nA ?_
  repeat refine st ?_;try intro
  refine o_callD rfl rfl rfl rfl (hmd v2) ?_
  intro u
  repeat refine st ?_;try intro
  refine OpK.call rfl rfl rfl rfl (push_spec v1 u rest (madeL n l) hlen1 hml) oY (Mr:=_) oP ?_
  rintro w Φ' Mc' ⟨sv,rfl,rfl,rfl⟩
  refine nA ?_
  unfold tupD
  repeat refine st ?_;try intro
  exact G.ret rfl (.cons (.tmp rfl) (.cons (.tmp rfl) .nil)) (Φ':=[fRp sv _]) (M':=[]) oY oN ⟨_,rfl,rfl,rfl⟩
 ·rw [if_pos h4]
  generalize (popL s (popsN n)).1=rest at hpop ⊢
  generalize (popL s (popsN n)).2.1=l at hpop
  generalize (popL s (popsN n)).2.2=e at h4 hpop ⊢
  generalize popsN n=p at hin hpop
  repeat refine st ?_;try intro
  refine cV hi ?_
  repeat refine st ?_;try intro
  refine cV hin ?_
  repeat refine st ?_;try intro
  refine OpK.call rfl rfl rfl rfl hpop oY (Mr:=_) oP ?_
  rintro u Φ' Mc' ⟨v1,v2,rfl,rfl,rfl⟩
  refine nA ?_
  repeat refine st ?_;try intro
  exact G.ret rfl (.cons (.tmp rfl) (.cons (.tmp rfl) .nil)) (Φ':=[fRp v1 _]) (M':=[]) oY oN ⟨_,rfl,rfl,rfl⟩
end Go.Rail
namespace Go.Rail
open Go Go.Proofs
structure Frm where
 code:List UInt8
 input:List UInt8
 pc:Int
 stack:List Word
 mem:List UInt8
 gas:Int
 ret:List UInt8
 status:Int
 errno:Int
 out:List UInt8
abbrev frmV (f:Frm) (sv:Value):Value := .agg [.string (ba f.code),.string (ba f.input),.int .i64 f.pc,sv,.string (ba f.mem),.int .i64 f.gas,.string (ba f.ret),.int .i64 f.status,.int .i64 f.errno,.string (ba f.out)].toArray
def rightF (f:Frm):Bool:=decide (f.code.length≤49152∧f.input.length≤1048576∧f.ret.length≤1048576∧f.out.length≤1048576∧0≤f.pc∧f.pc≤9007199254740992∧0≤f.gas∧f.gas≤2000000 ∧
 f.stack.length≤1024∧f.mem.length≤1048576∧f.mem.length%32=0∧0≤f.status∧f.status≤4∧(f.errno≠0↔f.status=4)∧(f.out=[]∨f.status=2∨f.status=3))
def numF (w:Word):Nat:=min w.num 1099511627776
def costF (n:Nat):Nat:=3*min n 32768+min n 32768*min n 32768/512
def needF (a n:Word):Option Nat:=if n = .zero then some 0 else if (addW a n).num≤1048576∧a.num≤(addW a n).num then some (((addW a n).num+31)/32) else none
def manyF (n:Nat):Nat:=min n 1048576
def wordsF (n:Nat):Nat:=(manyF n+31)/32
def trimF (l:List UInt8):List UInt8:=l.dropWhile (· == 0)
def moreF (op:Nat) (l:List Word):Nat :=
 if op=10 then 50*(trimF (byN (l.getD 1 .zero).num)).length
 else if op=32 then 6*wordsF (numF (l.getD 1 .zero))
 else if op=55∨op=57∨op=62 then 3*wordsF (numF (l.getD 2 .zero)) else 0
def spanF (op:Nat) (l:List Word):List (Word × Word) :=
 if op=32∨op=243∨op=253 then [(l.getD 0 .zero,l.getD 1 .zero)]
 else if op=55∨op=57∨op=62 then [(l.getD 0 .zero,l.getD 2 .zero)]
 else if op=81∨op=82 then [(l.getD 0 .zero,.nat 32)]
 else if op=83 then [(l.getD 0 .zero,.nat 1)] else []
def tabF (op:Nat):Bool:=[0,32,53,54,55,56,57,61,62,81,82,83,86,87,88,89,90,91,243,253].contains op
def foundF (op:Nat):Bool:=isC op||decide (95≤op∧op≤127)||tabF op
def localF (op:Nat):Bool:=foundF op||(infoN op).isNone||decide (op=254)
def reachF (had:Nat):List (Word × Word)→Option Nat
 | []=>some had
 | s::r=>match needF s.1 s.2 with
  | none=>none
  | some n=>reachF (max had n) r
def gasN (n:Nat):Nat:=((infoN n).getD noRow).gas
def pushN' (n:Nat):Nat:=((infoN n).getD noRow).pushes
def takeF (s:List Word) (op:Nat):List Word × Int :=
 if infoN op=none∨op=254 then ([],42)
 else if (popL s (popsN op)).2.2=0∧1024+popsN op<s.length+pushN' op then ([],41)
 else ((popL s (popsN op)).2.1,(popL s (popsN op)).2.2)
def failF (f:Frm) (e:Int):Frm:={f with status:=4,errno:=e,gas:=0}
def growF (m:List UInt8) (words:Nat):List UInt8:=m++List.replicate (words*32-m.length) 0
def payF (f:Frm) (op:Nat) (more:Nat) (sp:List (Word × Word)):Option Frm :=
  match reachF (f.mem.length/32) sp with
  | none=>none
  | some words =>
    if f.gas<(costF words:Int)-(costF (f.mem.length/32):Int)+(gasN op:Int)+(more:Int) then none
    else some {f with gas:=f.gas-((costF words:Int)-(costF (f.mem.length/32):Int)+(gasN op:Int)+(more:Int)),mem:=growF f.mem words,
                       stack:=if isC op then f.stack else f.stack.take (f.stack.length-popsN op),pc:=f.pc+1}
def pieceF (m:List UInt8) (a:Word) (n:Nat):List UInt8:=if n=0 then [] else if numF a+n≤m.length then (m.drop (numF a)).take n else []
def partF (s:List UInt8) (a:Word) (n:Nat):List UInt8 :=
 if 1048576<n then [] else
  let t:=if a.num<s.length then (s.drop a.num).take n else []
  t++List.replicate (n-t.length) 0
def putF (m:List UInt8) (at_:Nat) (s:List UInt8):List UInt8:=if s=[] then m else if at_+s.length≤m.length then m.take at_++s++m.drop (at_+s.length) else m
def jumpF (f:Frm) (to:Nat):Frm × Int:=if (to:Int)∈jmL f.code then ({f with pc:=to},0) else (f,44)
def pushF (f:Frm) (w:Word):Frm × Int:=({f with stack:=f.stack++[w]},0)
def copyF (f:Frm) (s:List UInt8) (l:List Word):Frm × Int:=({f with mem:=putF f.mem (numF (l.getD 0 .zero)) (partF s (l.getD 1 .zero) (numF (l.getD 2 .zero)))},0)
def endF (f:Frm) (status:Int) (l:List Word):Frm × Int:=({f with status:=status,out:=pieceF f.mem (l.getD 0 .zero) (numF (l.getD 1 .zero)),pc:=f.pc-1},0)
def doF (hash:List UInt8→List UInt8) (op:Nat) (f:Frm) (l:List Word):Frm × Int :=
 if isC op then ({f with stack:=(doC op f.stack).1},0)
 else if 95≤op∧op≤127 then ({f with stack:=f.stack++[opushL f.code (f.pc-1) ((op-95:Nat):Int)],pc:=f.pc+((op-95:Nat):Int)},0)
 else if op=0 then ({f with status:=1,pc:=f.pc-1},0)
 else if op=32 then pushF f (wordB (hash (pieceF f.mem (l.getD 0 .zero) (numF (l.getD 1 .zero)))))
 else if op=53 then pushF f (wordB (partF f.input (l.getD 0 .zero) 32))
 else if op=54 then pushF f (.nat f.input.length)
 else if op=55 then copyF f f.input l
 else if op=56 then pushF f (.nat f.code.length)
 else if op=57 then copyF f f.code l
 else if op=61 then pushF f (.nat f.ret.length)
 else if op=62 then (if f.ret.length<numF (l.getD 1 .zero)+numF (l.getD 2 .zero) then (f,45) else copyF f f.ret l)
 else if op=81 then pushF f (wordB (pieceF f.mem (l.getD 0 .zero) 32))
 else if op=82 then ({f with mem:=putF f.mem (numF (l.getD 0 .zero)) (byN (l.getD 1 .zero).num)},0)
 else if op=83 then ({f with mem:=putF f.mem (numF (l.getD 0 .zero)) [UInt8.ofNat ((l.getD 1 .zero).num%256)]},0)
 else if op=86 then jumpF f (numF (l.getD 0 .zero))
 else if op=87 then (if l.getD 1 .zero = .zero then (f,0) else jumpF f (numF (l.getD 0 .zero)))
 else if op=88 then pushF f (.nat (f.pc-1).toNat)
 else if op=89 then pushF f (.nat f.mem.length)
 else if op=90 then pushF f (.nat f.gas.toNat)
 else if op=243 then endF f 2 l
 else if op=253 then endF f 3 l
 else (f,0)
def stepF (hash:List UInt8→List UInt8) (f:Frm) (op:Nat):Frm :=
 if (takeF f.stack op).2≠0 then failF f (takeF f.stack op).2
 else match payF f op (moreF op (takeF f.stack op).1) (spanF op (takeF f.stack op).1) with
  | none=>failF f 43
  | some p=>if (doF hash op p (takeF f.stack op).1).2≠0 then failF f (doF hash op p (takeF f.stack op).1).2 else (doF hash op p (takeF f.stack op).1).1
def stepL (hash:List UInt8→List UInt8) (f:Frm):Frm × Int :=
 if rightF f=false then (f,1) else if f.status≠0 then (f,50) else if (f.code.length:Int)≤f.pc then ({f with status:=1},0)
 else if localF (f.code.getD f.pc.toNat 0).toNat=false then (f,51) else (stepF hash f (f.code.getD f.pc.toNat 0).toNat,0)
def runL (hash:List UInt8→List UInt8):Nat→Frm→Frm × Nat
 | 0,f=>(f,0)
 | m+1,f=>if (stepL hash f).2≠0 then (f,0) else ((runL hash m (stepL hash f).1).1,(runL hash m (stepL hash f).1).2+1)
theorem runL_s (hash:List UInt8→List UInt8) (m:Nat) (f:Frm):runL hash (m+1) f=if (stepL hash f).2≠0 then (f,0) else ((runL hash m (stepL hash f).1).1,(runL hash m (stepL hash f).1).2+1):=rfl
theorem stepL_stay (hash:List UInt8→List UInt8) (f:Frm) (h:(stepL hash f).2≠0):(stepL hash f).1=f:=by
 unfold stepL at h ⊢
 split
 ·rfl
 ·split
  ·rfl
  ·split
   ·rename_i h1 h2 h3
    rw [if_neg h1,if_neg h2,if_pos h3] at h
    exact absurd rfl h
   ·split
    ·rfl
    ·rename_i h1 h2 h3 h4
     rw [if_neg h1,if_neg h2,if_neg h3,if_neg h4] at h
     exact absurd rfl h
end Go.Rail
namespace Go.Rail
open Go Go.Proofs
set_option maxHeartbeats 4000000
def jmS:Nat→Nat→List UInt8→List Int
 | _,_,[]=>[]
 | p,0,b::r=>if b.toNat=91 then (p:Int)::jmS (p+1) 0 r else jmS (p+1) (behN b.toNat) r
 | p,k+1,_::r=>jmS (p+1) k r
theorem jmS_z (p:Nat) (b:UInt8) (r:List UInt8):jmS p 0 (b::r)=if b.toNat=91 then (p:Int)::jmS (p+1) 0 r else jmS (p+1) (behN b.toNat) r:=rfl
theorem jmS_s (p k:Nat) (b:UInt8) (r:List UInt8):jmS p (k+1) (b::r)=jmS (p+1) k r:=rfl
theorem jmS_skip : ∀ (k p:Nat) (l:List UInt8),jmS p k l=jmS (p+k) 0 (l.drop k)
 | 0,p,l=>rfl
 | k+1,p,[]=>by simp [jmS]
 | k+1,p,b::r=>by
  rw [jmS_s,jmS_skip k (p+1) r,List.drop_succ_cons,show p+1+k=p+(k+1) from by omega]
theorem plcF_jmS (l:List UInt8) : ∀ f p,l.length≤f+p→((plcF l f p).filter fun (q:Nat)=>decide ((l.getD q 0).toNat=91)).map (fun (q:Nat)=>(q:Int))=jmS p 0 (l.drop p)
 | 0,p,h=>by rw [List.drop_eq_nil_of_le oM];rfl
 | f+1,p,h=>by
  by_cases hp:p<l.length
  ·have e:l.drop p=l.getD p 0::l.drop (p+1):=by
    rw [List.drop_eq_getElem_cons hp,List.getD_eq_getElem?_getD,List.getElem?_eq_getElem hp];rfl
   unfold plcF
   rw [if_pos hp,e,jmS_z]
   have ih:=plcF_jmS l f (p+1+behN (l.getD p 0).toNat) oM
   by_cases h91:(l.getD p 0).toNat=91
   ·rw [List.filter_cons_of_pos (by simpa using h91),List.map_cons,ih,if_pos h91,h91]
    simp [behN]
   ·rw [List.filter_cons_of_neg (by simpa using h91),ih,if_neg h91,jmS_skip (behN (l.getD p 0).toNat) (p+1),List.drop_drop]
  ·rw [plcF_done oM,List.drop_eq_nil_of_le oM];rfl
theorem jmL_jmS (l:List UInt8):jmL l=jmS 0 0 l:=plcF_jmS l l.length 0 oM
theorem jmS_at : ∀ (l:List UInt8) (p k:Nat),∀ q∈jmS p k l,∃ i:Nat,q=((p+i:Nat):Int) ∧ ∃ b,l[i]? = some b∧b.toNat=91
 | [],p,k,q,h=>by simp [jmS] at h
 | b::r,p,0,q,h=>by
  unfold jmS at h
  split at h
  ·rename_i hb
   rcases List.mem_cons.1 h with rfl|h
   ·exact ⟨0,rfl,b,rfl,hb⟩
   ·obtain ⟨i,hi,b',h1,h2⟩:=jmS_at r (p+1) 0 q h
    exact ⟨i+1,by rw [hi];congr 1;omega,b',by simpa using h1,h2⟩
  ·obtain ⟨i,hi,b',h1,h2⟩:=jmS_at r (p+1) _ q h
   exact ⟨i+1,by rw [hi];congr 1;omega,b',by simpa using h1,h2⟩
 | b::r,p,k+1,q,h=>by
  unfold jmS at h
  obtain ⟨i,hi,b',h1,h2⟩:=jmS_at r (p+1) k q h
  exact ⟨i+1,by rw [hi];congr 1;omega,b',by simpa using h1,h2⟩
end Go.Rail
