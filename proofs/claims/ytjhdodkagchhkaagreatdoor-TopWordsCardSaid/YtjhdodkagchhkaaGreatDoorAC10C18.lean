/- stack: Swap. -/
import Derived.Test.YtjhdodkagchhkaaGreatDoorRailA
import Derived.Test.YtjhdodkagchhkaaGreatDoorRailC
import Derived.Test.YtjhdodkagchhkaaGreatDoorAC9
import Derived.Test.YtjhdodkagchhkaaGreatDoorAC14C15
set_option linter.unusedSimpArgs false
set_option linter.unusedVariables false
namespace Go.Rail
open Go Go.Proofs Tryz
set_option maxHeartbeats 400000
set_option maxRecDepth 4000
attribute [local irreducible] OpK G W LW wpListIn Exit.then Exit.inBlock Post rounds opRun bodyPostM intOp
set_option maxHeartbeats 4000000
def swapE (s:List Word) (n:Nat):Int:=if wrongL s n 1=0∧n=s.length then 40 else wrongL s n 1
def swapS (s:List Word) (n:Nat):List Word:=(s.set (s.length-1) (s.getD (s.length-1-n) .zero)).set (s.length-1-n) (s.getD (s.length-1) .zero)
def swapL (s:List Word) (n:Nat):List Word × Int:=(if swapE s n=0 then swapS s n else s,swapE s n)
theorem wrong_zero {s:List Word} {n:Nat} (h:wrongL s n 1=0):1≤n∧n≤s.length:=by
 unfold wrongL at h
 by_cases h1:1024<s.length∨(n:Int)<1
 ·rw [if_pos h1] at h;cases h
 ·rw [if_neg h1] at h
  by_cases h2:(s.length:Int)<n
  ·rw [if_pos h2] at h;cases h
  ·omega
theorem swap_spec (v:Value) (s:List Word) (n:Nat) (hn:n≤1000) (hs:s.length≤100000):Fn prog 25 [v,.int .i64 n] [fRp v s] [] (RD (swapL s n).2 (swapL s n).1):=by
 have hw:=fun w=>wrong_spec w s n 1 hs
 have hcl:=fun w=>Fn.given (cloneW_spec w s oM)
 refine Fn.enter func25 rfl ntmps25 oI (fun I0 w0 => ?_)
 by_cases h:wrongL s n 1=0
 case neg =>
  have e1:swapL s n=(s,wrongL s n 1):=by
   unfold swapL swapE
   rw [if_neg (c:=_∧_) (fun h'=>h h'.1),if_neg h]
  rw [e1]
  repeat refine s4 ?_;try intro
  refine cV (hw v) ?_
  repeat refine s4 ?_;try intro
  refine o_callD rfl rfl rfl rfl (hcl v) ?_
  intro r
  repeat refine s4 ?_;try intro
  exact G.ret rfl (.cons (.tmp rfl) (.cons (.tmp rfl) .nil)) (Φ':=[fRp r s]) (M':=[]) oY oN ⟨_,rfl,rfl,rfl⟩
 have hl:=wrong_zero h
 rw [h] at hw
 by_cases hnl:n=s.length
 ·have e1:swapL s n=(s,40):=by
   unfold swapL swapE
   rw [if_pos (c:=_∧_) ⟨h,hnl⟩];rfl
  rw [e1]
  repeat refine s4 ?_;try intro
  refine cV (hw v) ?_
  repeat refine s4 ?_;try intro
  refine o_callD rfl rfl rfl rfl (hcl v) ?_
  intro r
  repeat refine s4 ?_;try intro
  exact G.ret rfl (.cons (.tmp rfl) (.cons (.tmp rfl) .nil)) (Φ':=[fRp r s]) (M':=[]) oY oN ⟨_,rfl,rfl,rfl⟩
 have i1:s.length-1<s.length:=by omega
 have i2:s.length-1-n<s.length:=by omega
 have e1:swapL s n=((s.set (s.length-1) s[s.length-1-n]).set (s.length-1-n) s[s.length-1],0):=by
  unfold swapL swapE swapS
  rw [if_neg (c:=_∧_) (fun h'=>hnl h'.2),h,if_pos rfl]
  simp only [List.getD,List.getElem?_eq_getElem i1,List.getElem?_eq_getElem i2,Option.getD_some]
 rw [e1]
 repeat refine s4 ?_;try intro
 refine cV (hw v) ?_
 repeat refine s4 ?_;try intro
 refine o_callO rfl rfl rfl rfl (cloneW_spec v s oM) ?_
 intro v' o ho
 cases o with
 | none=>obtain ⟨_,h0⟩:=ho;omega
 | some q =>
  obtain ⟨b,cs⟩:=q
  obtain ⟨cap,rfl,hcs,hcap⟩:=ho
  dsimp only [List.cons_append,List.nil_append,ocells,ownM]
  repeat refine s4 ?_;try intro
  refine W.drawX 18 (fun D c=>[(b,Ob (bif D 17 then cellsL (c 17) else cs) 24)]) [⟨?v0_1,fun _ z=>[]⟩,⟨?v1_1,fun _ z=>[]⟩,⟨?v2_1,fun _ z=>[]⟩,⟨?v3_1,fun _ z=>[]⟩,⟨?v4_1,fun _ z=>[]⟩,⟨?v5_1,fun _ z=>[]⟩,⟨?v6_1,fun _ z=>[]⟩,⟨?v7_1,fun _ z=>[]⟩,⟨?v8_1,fun _ z=>[]⟩,⟨?v9_1,fun _ z=>[]⟩,⟨?v10_1,fun _ z=>[]⟩,⟨?v11_1,fun _ z=>[]⟩,⟨?v12_1,fun _ z=>[]⟩,⟨?v13_1,fun _ z=>[]⟩,⟨?v14_1,fun _ z=>[]⟩,⟨?v15_1,fun _ z=>[]⟩,⟨?v16_1,fun _ z=>[]⟩,⟨fun _ z=>z,fun _ z=>[fPure ((cellsL z).length=cs.length),fRow (cellsL z) (s.set (s.length-1) s[s.length-1-n])]⟩] [[],[],[],[],[],[3,4],[],[],[],[7,8],[6,9],[10],[],[],[12,13],[14],[0,1],[11,16]] [17,2,5,15] kR kR kR kR ?loc_1 ?hz_1 ?ops_1 ?rest_1
  case ops_1 =>
   simp only [AllX,Nat.reduceAdd,and_true]
   refine ⟨?_,?_,?_,?_,?_,?_,?_,?_,?_,?_,?_,?_,?_,?_,?_,?_,?_,?_⟩
   all_goals (intro D c z0 Φr Lr K hDi hAnc hDn hK;dsimp only [dstOf,dstX,putX,kval,kfac,ancE,ancX,ancF,getD_z,getD_s,List.getElem?_cons_zero,List.getElem?_cons_succ,List.getElem?_nil,Option.getD_some,Option.getD_none,List.nil_append,List.cons_append,Option.getD] at hK ⊢)
   iterate 10 (refine stp ?_;exact hK z0)
   ·refine o_idxO rfl rfl rfl rfl oM oM (o':=(s.length-1-n)*4) oM ?_;exact hK z0
   ·have h17:D 17=false:=dnF hDn hDi kR;simp only [updD,h17,Nat.reduceEqDiff,↓reduceIte,cond_false] at hK ⊢;refine o_loadO (α:=Word) (xs:=s) (s.length-1-n) i2 rfl rfl rfl rfl rfl ?_;exact hK z0
   ·refine stp ?_;exact hK z0
   ·refine stp ?_;exact hK z0
   ·refine o_idxO rfl rfl rfl rfl oM oM (o':=(s.length-1)*4) oM ?_;exact hK z0
   ·have h17:D 17=false:=dnF hDn hDi kR;simp only [updD,h17,Nat.reduceEqDiff,↓reduceIte,cond_false] at hK ⊢;refine o_loadO (α:=Word) (xs:=s) (s.length-1) i1 rfl rfl rfl rfl rfl ?_;exact hK z0
   ·refine o_idxO rfl rfl rfl rfl oM oM (o':=(s.length-1)*4) oM ?_;exact hK z0
   ·simp only [updD,updC,hDi,Nat.reduceEqDiff,↓reduceIte,cond_false,cond_true] at hK ⊢;refine o_storeO (α:=Word) s[s.length-1-n] (s.length-1) i1 rfl rfl rfl ⟨fun _ _=>Rp.flat.2 rfl⟩ rfl ?_;intro cs1 hc1;refine G.learn (fPure ((cellsL (.agg cs1.toArray)).length=cs.length)) (e:=⟨fun _ _=>hc1⟩) ?_;exact hK (.agg cs1.toArray)
  case hz_1=>intro c;rfl
  case loc_1 =>
   simp only [AllL,Nat.reduceAdd,and_true]
   refine ⟨?_,?_,?_,?_,?_,?_,?_,?_,?_,?_,?_,?_,?_,?_,?_,?_,?_,?_⟩
   all_goals (intro c c' z h;first|exact ⟨rfl,rfl⟩|(skip))
  intro c
  dsimp only [dstOf,dstX,putX,kval,kfac,ancE,ancX,ancF,getD_z,getD_s,List.getElem?_cons_zero,List.getElem?_cons_succ,List.getElem?_nil,Option.getD_some,Option.getD_none,List.nil_append,List.cons_append,List.drop_succ_cons,List.drop_zero,Option.getD]
  refine LW.bare (G.use (p:=(cellsL (c 17)).length=cs.length) (fun I hp=>hp (fPure _) (.head _)) ?_)
  intro hc17
  refine LW.back ?_
  show LW _ _ _ _ _ _ [(b,Ob (cellsL (c 17)) 24)]
  refine LW.cons ?_
  refine o_idxO rfl rfl rfl rfl oM oM (o':=(s.length-1-n)*4) oM ?_
  repeat refine s4 ?_;try intro
  refine o_storeO (α:=Word) (xs:=s.set (s.length-1) s[s.length-1-n]) s[s.length-1] (s.length-1-n) oX rfl rfl rfl ⟨fun _ _=>Rp.flat.2 rfl⟩ rfl ?_
  intro cs2 hc2
  repeat refine s4 ?_;try intro
  refine G.giveOwn2 (Mr:=[]) (.slice (some ⟨b,0,none⟩) s.length cap) ((s.set (s.length-1) s[s.length-1-n]).set (s.length-1-n) s[s.length-1]) (some (b,cs2)) 24 ⟨cap,by simp,by rw [hc2,hc17];exact hcs,by simpa using hcap⟩ (show Ent' _ (fRow cs2 _) from oY) oP ?_
  exact G.ret rfl (.cons (.tmp rfl) (.cons (.tmp rfl) .nil)) (Φ':=[fRp _ ((s.set (s.length-1) s[s.length-1-n]).set (s.length-1-n) s[s.length-1])]) (M':=[]) oY oN ⟨_,rfl,rfl,rfl⟩
end Go.Rail
namespace Go.Rail
open Go Go.Proofs Tryz
set_option maxHeartbeats 400000
set_option maxRecDepth 4000
attribute [local irreducible] OpK G W LW wpListIn Exit.then Exit.inBlock Post rounds opRun bodyPostM intOp
set_option maxHeartbeats 16000000
attribute [local irreducible] lexN cmpW Word.nat subW mulW addW divW modW sdivW smodW addmodW mulmodW expW andW orW xorW notW shlW shrW sarW byteW signW
def flipW (a:Word):Word:=⟨a.a,a.b,a.c,UInt64.ofNat (a.d.toNat^^^9223372036854775808)⟩
theorem flipW_v (a:Word):Value.agg [.int .u64 (a.a.toNat:Int),.int .u64 (a.b.toNat:Int),.int .u64 (a.c.toNat:Int),.int .u64 ((a.d.toNat^^^9223372036854775808:Nat):Int)].toArray=(flipW a).v:=by
 have h:a.d.toNat^^^9223372036854775808<2^64:=xor_lt64 a.d.toNat_lt oE
 simp only [Word.v,Word.cells,flipW,UInt64.toNat_ofNat',Nat.mod_eq_of_lt h]
def lessW (a b:Word):Bool:=decide (cmpW (flipW a) (flipW b)<0)
theorem less_spec (a b:Word):FnV prog 121 [a.v,b.v] [] (.bool (lessW a b)):=by
 have hc:=wcmp_spec (flipW a) (flipW b)
 refine Fn.enter func121 rfl ntmps121 oI (fun I0 w0 => ?_)
 repeat refine st ?_;try intro
 rw [flipW_v a,flipW_v b]
 refine cV hc ?_
 repeat refine st ?_;try intro
 refine G.retV ?_
 rfl
theorem cflag_spec (b:Bool):FnV prog 106 [.bool b] [] (flagW b).v:=by
 cases b
 ·refine Fn.enter func106 rfl ntmps106 oI (fun I0 w0 => ?_)
  repeat refine st ?_;try intro
  refine G.retV ?_
  rfl
 ·refine Fn.enter func106 rfl ntmps106 oI (fun I0 w0 => ?_)
  repeat refine st ?_;try intro
  refine G.retV ?_
  rfl
instance (b:Bool) {Φ:List Fa}:CV prog 106 [.bool b] Φ (flagW b).v:=⟨Fn.weaken (cflag_spec b)⟩
instance (a b:Word) {Φ:List Fa}:CV prog 121 [a.v,b.v] Φ (.bool (lessW a b)):=⟨Fn.weaken (less_spec a b)⟩
instance (a b:Word) {Φ:List Fa}:CV prog 118 [a.v,b.v] Φ (.int .i64 (cmpW a b)):=⟨Fn.weaken (wcmp_spec a b)⟩
theorem isz_spec (a:Word):FnV prog 105 [a.v] [] (flagW (decide (a = .zero))).v:=by
 refine Fn.enter func105 rfl ntmps105 oI (fun I0 w0 => ?_)
 repeat refine st ?_;try intro
 refine G.retV ?_
 rfl
theorem lt_spec (a b:Word):FnV prog 117 [a.v,b.v] [] (flagW (decide (cmpW a b<0))).v:=by
 refine Fn.enter func117 rfl ntmps117 oI (fun I0 w0 => ?_)
 repeat refine st ?_;try intro
 refine G.retV ?_
 rfl
theorem gt_spec (a b:Word):FnV prog 119 [a.v,b.v] [] (flagW (decide (0<cmpW a b))).v:=by
 refine Fn.enter func119 rfl ntmps119 oI (fun I0 w0 => ?_)
 repeat refine st ?_;try intro
 refine G.retV ?_
 rfl
theorem slt_spec (a b:Word):FnV prog 120 [a.v,b.v] [] (flagW (lessW a b)).v:=by
 refine Fn.enter func120 rfl ntmps120 oI (fun I0 w0 => ?_)
 repeat refine st ?_;try intro
 refine G.retV ?_
 rfl
theorem sgt_spec (a b:Word):FnV prog 122 [a.v,b.v] [] (flagW (lessW b a)).v:=by
 refine Fn.enter func122 rfl ntmps122 oI (fun I0 w0 => ?_)
 repeat refine st ?_;try intro
 refine G.retV ?_
 rfl
theorem eqq_spec (a b:Word):FnV prog 123 [a.v,b.v] [] (flagW (decide (a=b))).v:=by
 refine Fn.enter func123 rfl ntmps123 oI (fun I0 w0 => ?_)
 repeat refine st ?_;try intro
 refine G.retV ?_
 rfl
end Go.Rail
namespace Go.Rail
open Go Go.Proofs Tryz
set_option maxHeartbeats 400000
set_option maxRecDepth 4000
attribute [local irreducible] OpK G W LW wpListIn Exit.then Exit.inBlock Post rounds opRun bodyPostM intOp
set_option maxHeartbeats 16000000
set_option maxRecDepth 20000
attribute [local irreducible] lexN cmpW Word.nat subW mulW addW divW modW sdivW smodW addmodW mulmodW expW andW orW xorW notW shlW shrW sarW byteW signW lessW
def find2 {α:Type}:List (Nat × α)→Nat→Option α
 | [],_=>none
 | (k,r)::l,n=>if n=k then some r else find2 l n
theorem find2_mem {α:Type} {l:List (Nat × α)} {n:Nat} {x:α} (h:find2 l n=some x):(n,x)∈l:=by
 induction l with
 | nil=>cases h
 | cons e l ih =>
  obtain ⟨k,r⟩:=e
  simp only [find2] at h
  by_cases hk:n=k
  ·rw [if_pos hk] at h;cases h;subst hk;exact .head _
  ·rw [if_neg hk] at h;exact .tail _ (ih h)
theorem find2_map {α β:Type} (f:α→β) (l:List (Nat × α)) (n:Nat):find2 (l.map fun e=>(e.1,f e.2)) n=(find2 l n).map f:=by
 induction l with
 | nil=>rfl
 | cons e l ih =>
  obtain ⟨k,r⟩:=e
  simp only [List.map_cons,find2,ih]
  by_cases hk:n=k<;>simp [hk]
theorem getV_find {α:Type} (f:α→Value) (l:List (Nat × α)) (n:Nat):getV (l.map fun e=>((e.1:Int),f e.2)) (n:Int)=(find2 l n).map f:=by
 induction l with
 | nil=>rfl
 | cons e l ih =>
  obtain ⟨k,r⟩:=e
  simp only [List.map_cons,getV,find2,ih]
  by_cases hk:n=k
  ·subst hk;simp
  ·rw [if_neg hk,if_neg oM]
def ops1:List (Nat × (Word→Word)):=[(21,fun a=>flagW (decide (a = .zero))),(25,notW)]
def ops2:List (Nat × (Word→Word→Word)):=[(1,addW),(2,mulW),(3,subW),(4,divW),(5,sdivW),(6,modW),(7,smodW),(10,expW),(11,signW),
 (16,fun a b=>flagW (decide (cmpW a b<0))),(17,fun a b=>flagW (decide (0<cmpW a b))),(18,fun a b=>flagW (lessW a b)),(19,fun a b=>flagW (lessW b a)),(20,fun a b=>flagW (decide (a=b))),
 (22,andW),(23,orW),(24,xorW),(26,byteW),(27,shlW),(28,shrW),(29,sarW)]
def ops3:List (Nat × (Word→Word→Word→Word)):=[(8,addmodW),(9,mulmodW)]
def isC (n:Nat):Bool:=decide (n=80∨128≤n∧n≤159)||(find2 ops1 n).isSome||(find2 ops2 n).isSome||(find2 ops3 n).isSome
def madeL (n:Nat) (l:List Word):List Word :=
 match find2 ops1 n with
 | some f=>[f (l.getD 0 .zero)]
 | none=>match find2 ops2 n with
  | some f=>[f (l.getD 0 .zero) (l.getD 1 .zero)]
  | none=>match find2 ops3 n with
   | some f=>[f (l.getD 0 .zero) (l.getD 1 .zero) (l.getD 2 .zero)]
   | none=>[]
def fv (f:FuncId):Value := .func (.func f) #[] #[]
def K1:List (Nat × FuncId × (Word→Word)):=[(21,105,fun a=>flagW (decide (a = .zero))),(25,107,notW)]
def K2:List (Nat × FuncId × (Word→Word→Word)):=[(1,108,addW),(2,109,mulW),(3,110,subW),(4,111,divW),(5,112,sdivW),(6,113,modW),(7,114,smodW),(10,115,expW),(11,116,signW),
 (16,117,fun a b=>flagW (decide (cmpW a b<0))),(17,119,fun a b=>flagW (decide (0<cmpW a b))),(18,120,fun a b=>flagW (lessW a b)),(19,122,fun a b=>flagW (lessW b a)),(20,123,fun a b=>flagW (decide (a=b))),
 (22,124,andW),(23,125,orW),(24,126,xorW),(26,127,byteW),(27,128,shlW),(28,129,shrW),(29,130,sarW)]
def K3:List (Nat × FuncId × (Word→Word→Word→Word)):=[(8,131,addmodW),(9,132,mulmodW)]
theorem K1_ok : ∀ e∈K1,HasFn prog e.2.1 ∧ ∀ a:Word,FnV prog e.2.1 [a.v] [] (e.2.2 a).v:=by
 simp only [K1,List.forall_mem_cons]
 exact ⟨⟨oY,isz_spec⟩,⟨oY,bnot_spec⟩,by simp⟩
theorem K2_ok : ∀ e∈K2,HasFn prog e.2.1 ∧ ∀ a b:Word,FnV prog e.2.1 [a.v,b.v] [] (e.2.2 a b).v:=by
 simp only [K2,List.forall_mem_cons]
 exact ⟨⟨oY,wadd_spec⟩,⟨oY,wmul_spec⟩,⟨oY,wsub_spec⟩,⟨oY,div_spec⟩,⟨oY,sdiv_spec⟩,⟨oY,mod_spec⟩,⟨oY,smod_spec⟩,⟨oY,exp_spec⟩,⟨oY,bsign_spec⟩,
  ⟨oY,lt_spec⟩,⟨oY,gt_spec⟩,⟨oY,slt_spec⟩,⟨oY,sgt_spec⟩,⟨oY,eqq_spec⟩,⟨oY,band_spec⟩,⟨oY,bor_spec⟩,⟨oY,bxor_spec⟩,⟨oY,bbyte_spec⟩,⟨oY,bshl_spec⟩,⟨oY,bshr_spec⟩,⟨oY,bsar_spec⟩,by simp⟩
theorem K3_ok : ∀ e∈K3,HasFn prog e.2.1 ∧ ∀ a b c:Word,FnV prog e.2.1 [a.v,b.v,c.v] [] (e.2.2 a b c).v:=by
 simp only [K3,List.forall_mem_cons]
 exact ⟨⟨oY,addmod_spec⟩,⟨oY,mulmod_spec⟩,by simp⟩
theorem K1_find (n:Nat):find2 ops1 n=(find2 K1 n).map Prod.snd:=find2_map Prod.snd K1 n
theorem K2_find (n:Nat):find2 ops2 n=(find2 K2 n).map Prod.snd:=find2_map Prod.snd K2 n
theorem K3_find (n:Nat):find2 ops3 n=(find2 K3 n).map Prod.snd:=find2_map Prod.snd K3 n
def L1:List (Int × Value):=K1.map fun e=>((e.1:Int),fv e.2.1)
def L2:List (Int × Value):=K2.map fun e=>((e.1:Int),fv e.2.1)
def L3:List (Int × Value):=K3.map fun e=>((e.1:Int),fv e.2.1)
theorem one_spec:Fn prog 61 [] [] [] (RMapV L1):=by
 refine Fn.enter func61 rfl ntmps61 oI (fun I0 w0 => ?_)
 repeat refine st ?_;try intro
 refine o_makeMapV rfl rfl ?_
 intro b
 repeat (first|refine st ?_|refine o_insV rfl rfl rfl rfl kR ?_)
 exact G.ret rfl (.cons (.tmp rfl) .nil) (Φ':=[]) (M':=[(b,MapV L1)]) oY oZ ⟨b,rfl,rfl,rfl⟩
theorem two_spec:Fn prog 62 [] [] [] (RMapV L2):=by
 refine Fn.enter func62 rfl ntmps62 oI (fun I0 w0 => ?_)
 repeat refine st ?_;try intro
 refine o_makeMapV rfl rfl ?_
 intro b
 repeat (first|refine st ?_|refine o_insV rfl rfl rfl rfl kR ?_)
 exact G.ret rfl (.cons (.tmp rfl) .nil) (Φ':=[]) (M':=[(b,MapV L2)]) oY oZ ⟨b,rfl,rfl,rfl⟩
theorem three_spec:Fn prog 63 [] [] [] (RMapV L3):=by
 refine Fn.enter func63 rfl ntmps63 oI (fun I0 w0 => ?_)
 repeat refine st ?_;try intro
 refine o_makeMapV rfl rfl ?_
 intro b
 repeat (first|refine st ?_|refine o_insV rfl rfl rfl rfl kR ?_)
 exact G.ret rfl (.cons (.tmp rfl) .nil) (Φ':=[]) (M':=[(b,MapV L3)]) oY oZ ⟨b,rfl,rfl,rfl⟩
theorem L1_get (n:Nat):getV L1 n=(find2 K1 n).map fun e=>fv e.1:=getV_find (fun e:FuncId × (Word→Word)=>fv e.1) K1 n
theorem L2_get (n:Nat):getV L2 n=(find2 K2 n).map fun e=>fv e.1:=getV_find (fun e:FuncId × (Word→Word→Word)=>fv e.1) K2 n
theorem L3_get (n:Nat):getV L3 n=(find2 K3 n).map fun e=>fv e.1:=getV_find (fun e:FuncId × (Word→Word→Word→Word)=>fv e.1) K3 n
theorem is_spec (n:Nat) (hn:n<256):FnV prog 23 [.int .u8 (n:Int)] [] (.bool (isC n)):=by
 unfold isC
 rw [K1_find,K2_find,K3_find]
 refine Fn.enter func23 rfl ntmps23 oI (fun I0 w0 => ?_)
 by_cases h0:n=80
 ·repeat refine st ?_;try intro
  refine G.retV ?_
  rw [decide_eq_true oM];rfl
 by_cases h1:128≤n∧n≤159
 ·repeat refine st ?_;try intro
  refine G.retV ?_
  rw [decide_eq_true oM];rfl
 rw [decide_eq_false oM]
 have h2:n<128∨159<n:=by omega
 have g1:=L1_get n
 have g2:=L2_get n
 have g3:=L3_get n
 generalize find2 K1 n=R1 at g1 ⊢
 generalize find2 K2 n=R2 at g2 ⊢
 generalize find2 K3 n=R3 at g3 ⊢
 rcases h2 with h2|h2<;>cases R1<;>cases R2<;>cases R3
 all_goals
  repeat refine st ?_;try intro
  refine o_callM rfl rfl rfl rfl one_spec ?_
  intro b1
  repeat refine st ?_;try intro
  refine o_lookV (l:=L1) rfl rfl rfl rfl oI (by rw [g1]) (by rw [g1]) ?_
  repeat refine st ?_;try intro
  refine o_callM rfl rfl rfl rfl two_spec ?_
  intro b2
  repeat refine st ?_;try intro
  refine o_lookV (l:=L2) rfl rfl rfl rfl oI (by rw [g2]) (by rw [g2]) ?_
  repeat refine st ?_;try intro
  refine o_callM rfl rfl rfl rfl three_spec ?_
  intro b3
  repeat refine st ?_;try intro
  refine o_lookV (l:=L3) rfl rfl rfl rfl oI (by rw [g3]) (by rw [g3]) ?_
  repeat refine st ?_;try intro
  refine G.retV ?_
  rfl
theorem made_spec (n:Nat) (hn:n<256) (v:Value) (xs:List Word) (h1:(find2 ops1 n).isSome→1≤xs.length) (h2:(find2 ops2 n).isSome→2≤xs.length) (h3:(find2 ops3 n).isSome→3≤xs.length) :
  FnD prog 30 [.int .u8 (n:Int),v] [fRp v xs] (fun u=>[fRp u (madeL n xs)]):=by
 unfold madeL
 rw [K1_find] at h1 ⊢
 rw [K2_find] at h2 ⊢
 rw [K3_find] at h3 ⊢
 have g1:=L1_get n
 have g2:=L2_get n
 have g3:=L3_get n
 refine Fn.enter func30 rfl ntmps30 oI (fun I0 w0 => ?_)
 cases e1:find2 K1 n with
 | some e =>
  obtain ⟨hf,hc⟩:=K1_ok _ (find2_mem e1)
  rw [e1] at g1 h1
  have hx:=h1 rfl
  obtain ⟨x,xs,rfl⟩ : ∃ x ys,xs=x::ys:=by cases xs with|nil=>simp at hx|cons x ys=>exact ⟨_,_,rfl⟩
  have hc:=hc x
  show W _ _ (Post _ _ _ _ _ (fun u Φ' Mc'=>Φ'=[fRp u [e.2 x]]∧Mc'=[])) _ _ _
  dsimp only at hf hc g1
  repeat refine st ?_;try intro
  refine o_callM rfl rfl rfl rfl one_spec ?_
  intro b1
  repeat refine st ?_;try intro
  refine o_lookV (l:=L1) rfl rfl rfl rfl oI (by rw [g1]) (by rw [g1]) ?_
  repeat refine st ?_;try intro
  refine cV hc ?_
  repeat refine st ?_;try intro
  exact G.retD rfl rfl
 | none =>
 rw [e1] at g1
 cases e2:find2 K2 n with
 | some e =>
  obtain ⟨hf,hc⟩:=K2_ok _ (find2_mem e2)
  rw [e2] at g2 h2
  have hx:=h2 rfl
  obtain ⟨x,y,xs,rfl⟩ : ∃ x y ys,xs=x::y::ys:=by match xs,hx with|x::y::ys,_=>exact ⟨_,_,_,rfl⟩
  have hc:=hc x y
  show W _ _ (Post _ _ _ _ _ (fun u Φ' Mc'=>Φ'=[fRp u [e.2 x y]]∧Mc'=[])) _ _ _
  dsimp only at hf hc g2
  have i0:0<(x::y::xs).length:=Nat.zero_lt_succ _
  have i1:1<(x::y::xs).length:=Nat.succ_lt_succ (Nat.zero_lt_succ _)
  repeat refine st ?_;try intro
  refine o_callM rfl rfl rfl rfl one_spec ?_
  intro b1
  repeat refine st ?_;try intro
  refine o_lookV (l:=L1) rfl rfl rfl rfl oI (by rw [g1]) (by rw [g1]) ?_
  repeat refine st ?_;try intro
  refine o_callM rfl rfl rfl rfl two_spec ?_
  intro b2
  repeat refine st ?_;try intro
  refine o_lookV (l:=L2) rfl rfl rfl rfl oI (by rw [g2]) (by rw [g2]) ?_
  repeat refine st ?_;try intro
  refine W.drawA 7 [dq _,dq _,dk _,dq _,dq _,dk _,dq _] [[],[],[1],[2],[],[4],[5]] [0,3,6] (hrest:=fun c=>nrm ?_)
  repeat refine st ?_;try intro
  refine cV hc ?_
  repeat refine st ?_;try intro
  exact G.retD rfl rfl
 | none =>
 rw [e2] at g2
 cases e3:find2 K3 n with
 | some e =>
  obtain ⟨hf,hc⟩:=K3_ok _ (find2_mem e3)
  rw [e3] at g3 h3
  have hx:=h3 rfl
  obtain ⟨x,y,z,xs,rfl⟩ : ∃ x y z ys,xs=x::y::z::ys:=by match xs,hx with|x::y::z::ys,_=>exact ⟨_,_,_,_,rfl⟩
  have hc:=hc x y z
  show W _ _ (Post _ _ _ _ _ (fun u Φ' Mc'=>Φ'=[fRp u [e.2 x y z]]∧Mc'=[])) _ _ _
  dsimp only at hf hc g3
  repeat refine st ?_;try intro
  refine o_callM rfl rfl rfl rfl one_spec ?_
  intro b1
  repeat refine st ?_;try intro
  refine o_lookV (l:=L1) rfl rfl rfl rfl oI (by rw [g1]) (by rw [g1]) ?_
  repeat refine st ?_;try intro
  refine o_callM rfl rfl rfl rfl two_spec ?_
  intro b2
  repeat refine st ?_;try intro
  refine o_lookV (l:=L2) rfl rfl rfl rfl oI (by rw [g2]) (by rw [g2]) ?_
  repeat refine st ?_;try intro
  refine o_callM rfl rfl rfl rfl three_spec ?_
  intro b3
  repeat refine st ?_;try intro
  refine o_lookV (l:=L3) rfl rfl rfl rfl oI (by rw [g3]) (by rw [g3]) ?_
  repeat refine st ?_;try intro
  refine W.drawA 10 [dq _,dq _,dk _,dq _,dq _,dk _,dq _,dq _,dk _,dq _] [[],[],[1],[2],[],[4],[5],[],[7],[8]] [0,3,6,9] (hrest:=fun c=>nrm ?_)
  repeat refine st ?_;try intro
  refine cV hc ?_
  repeat refine st ?_;try intro
  exact G.retD rfl rfl
 | none =>
  rw [e3] at g3
  show W _ _ (Post _ _ _ _ _ (fun u Φ' Mc'=>Φ'=[fRp u ([]:List Word)]∧Mc'=[])) _ _ _
  repeat refine st ?_;try intro
  refine o_callM rfl rfl rfl rfl one_spec ?_
  intro b1
  repeat refine st ?_;try intro
  refine o_lookV (l:=L1) rfl rfl rfl rfl oI (by rw [g1]) (by rw [g1]) ?_
  repeat refine st ?_;try intro
  refine o_callM rfl rfl rfl rfl two_spec ?_
  intro b2
  repeat refine st ?_;try intro
  refine o_lookV (l:=L2) rfl rfl rfl rfl oI (by rw [g2]) (by rw [g2]) ?_
  repeat refine st ?_;try intro
  refine o_callM rfl rfl rfl rfl three_spec ?_
  intro b3
  repeat refine st ?_;try intro
  refine o_lookV (l:=L3) rfl rfl rfl rfl oI (by rw [g3]) (by rw [g3]) ?_
  repeat refine st ?_;try intro
  exact G.retD rfl rfl
end Go.Rail
