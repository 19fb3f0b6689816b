/- stack: Swap. -/
import Derived.Test.YtpbbjkbackiljaaGreatDoorRailA
import Derived.Test.YtpbbjkbackiljaaGreatDoorRailC
import Derived.Test.YtpbbjkbackiljaaGreatDoorAC9C14
import Derived.Test.YtpbbjkbackiljaaGreatDoorAEqBC
import Derived.Test.YtpbbjkbackiljaaGreatDoorRailI
import Derived.Test.YtpbbjkbackiljaaGreatDoorAD5D7
set_option linter.unusedSimpArgs false
set_option linter.unusedVariables false
namespace Go.Rail
open Go Go.Proofs Tryz
set_option maxHeartbeats 400000
set_option maxRecDepth 4000
attribute [local irreducible] OpK G W LW wpListIn Exit.then Exit.inBlock Post rounds opRun bodyPostM intOp
set_option maxHeartbeats 4000000
def swapE (s:List Word) (n:Nat):Int:=if wrongL s n 1=0∧n=s.length then 40 else wrongL s n 1
def swapS (s:List Word) (n:Nat):List Word:=(s.set (s.length-1) (s.getD (s.length-1-n) .zero)).set (s.length-1-n) (s.getD (s.length-1) .zero)
def swapL (s:List Word) (n:Nat):List Word × Int:=(if swapE s n=0 then swapS s n else s,swapE s n)
theorem wrong_zero {s:List Word} {n:Nat} (h:wrongL s n 1=0):1≤n∧n≤s.length:=by
 unfold wrongL at h
 by_cases h1:1024<s.length∨(n:Int)<1
 ·rw [if_pos h1] at h;cases h
 ·rw [if_neg h1] at h
  by_cases h2:(s.length:Int)<n
  ·rw [if_pos h2] at h;cases h
  ·omega
theorem swap_spec (v:Value) (s:List Word) (n:Nat) (hn:n≤1000) (hs:s.length≤100000):Fn prog 85 [v,.int .i64 n] [fRp v s] [] (RD (swapL s n).2 (swapL s n).1):=by
 have hw:=fun w=>wrong_spec w s n 1 hs
 have hcl:=fun w=>Fn.given (cloneW_spec w s oM)
 refine Fn.enter func85 rfl ntmps85 oI (fun I0 w0 => ?_)
 by_cases h:wrongL s n 1=0
 case neg =>
  have e1:swapL s n=(s,wrongL s n 1):=by
   unfold swapL swapE
   rw [if_neg (c:=_∧_) (fun h'=>h h'.1),if_neg h]
  rw [e1]
  repeat refine s4 ?_;try intro
  refine cV (hw v) ?_
  repeat refine s4 ?_;try intro
  refine o_callD rfl rfl rfl rfl (hcl v) ?_
  intro r
  repeat refine s4 ?_;try intro
  exact G.ret rfl (.cons (.tmp rfl) (.cons (.tmp rfl) .nil)) (Φ':=[fRp r s]) (M':=[]) oY oN ⟨_,rfl,rfl,rfl⟩
 have hl:=wrong_zero h
 rw [h] at hw
 by_cases hnl:n=s.length
 ·have e1:swapL s n=(s,40):=by
   unfold swapL swapE
   rw [if_pos (c:=_∧_) ⟨h,hnl⟩];rfl
  rw [e1]
  repeat refine s4 ?_;try intro
  refine cV (hw v) ?_
  repeat refine s4 ?_;try intro
  refine o_callD rfl rfl rfl rfl (hcl v) ?_
  intro r
  repeat refine s4 ?_;try intro
  exact G.ret rfl (.cons (.tmp rfl) (.cons (.tmp rfl) .nil)) (Φ':=[fRp r s]) (M':=[]) oY oN ⟨_,rfl,rfl,rfl⟩
 have i1:s.length-1<s.length:=by omega
 have i2:s.length-1-n<s.length:=by omega
 have e1:swapL s n=((s.set (s.length-1) s[s.length-1-n]).set (s.length-1-n) s[s.length-1],0):=by
  unfold swapL swapE swapS
  rw [if_neg (c:=_∧_) (fun h'=>hnl h'.2),h,if_pos rfl]
  simp only [List.getD,List.getElem?_eq_getElem i1,List.getElem?_eq_getElem i2,Option.getD_some]
 rw [e1]
 repeat refine s4 ?_;try intro
 refine cV (hw v) ?_
 repeat refine s4 ?_;try intro
 refine o_callO rfl rfl rfl rfl (cloneW_spec v s oM) ?_
 intro v' o ho
 cases o with
 | none=>obtain ⟨_,h0⟩:=ho;omega
 | some q =>
  obtain ⟨b,cs⟩:=q
  obtain ⟨cap,rfl,hcs,hcap⟩:=ho
  dsimp only [List.cons_append,List.nil_append,ocells,ownM]
  repeat refine s4 ?_;try intro
  refine W.drawX 18 (fun D c=>[(b,Ob (bif D 17 then cellsL (c 17) else cs) 49)]) [⟨?v0_1,fun _ z=>[]⟩,⟨?v1_1,fun _ z=>[]⟩,⟨?v2_1,fun _ z=>[]⟩,⟨?v3_1,fun _ z=>[]⟩,⟨?v4_1,fun _ z=>[]⟩,⟨?v5_1,fun _ z=>[]⟩,⟨?v6_1,fun _ z=>[]⟩,⟨?v7_1,fun _ z=>[]⟩,⟨?v8_1,fun _ z=>[]⟩,⟨?v9_1,fun _ z=>[]⟩,⟨?v10_1,fun _ z=>[]⟩,⟨?v11_1,fun _ z=>[]⟩,⟨?v12_1,fun _ z=>[]⟩,⟨?v13_1,fun _ z=>[]⟩,⟨?v14_1,fun _ z=>[]⟩,⟨?v15_1,fun _ z=>[]⟩,⟨?v16_1,fun _ z=>[]⟩,⟨fun _ z=>z,fun _ z=>[fPure ((cellsL z).length=cs.length),fRow (cellsL z) (s.set (s.length-1) s[s.length-1-n])]⟩] [[],[],[],[],[],[3,4],[],[],[],[7,8],[6,9],[10],[],[],[12,13],[14],[0,1],[11,16]] [17,2,5,15] kR kR kR kR ?loc_1 ?hz_1 ?ops_1 ?rest_1
  case ops_1 =>
   simp only [AllX,Nat.reduceAdd,and_true]
   refine ⟨?_,?_,?_,?_,?_,?_,?_,?_,?_,?_,?_,?_,?_,?_,?_,?_,?_,?_⟩
   all_goals (intro D c z0 Φr Lr K hDi hAnc hDn hK;dsimp only [dstOf,dstX,putX,kval,kfac,ancE,ancX,ancF,getD_z,getD_s,List.getElem?_cons_zero,List.getElem?_cons_succ,List.getElem?_nil,Option.getD_some,Option.getD_none,List.nil_append,List.cons_append,Option.getD] at hK ⊢)
   iterate 10 (refine stp ?_;exact hK z0)
   ·refine o_idxO rfl rfl rfl rfl oM oM (o':=(s.length-1-n)*4) oM ?_;exact hK z0
   ·have h17:D 17=false:=dnF hDn hDi kR;simp only [updD,h17,Nat.reduceEqDiff,↓reduceIte,cond_false] at hK ⊢;refine o_loadO (α:=Word) (xs:=s) (s.length-1-n) i2 rfl rfl rfl rfl rfl ?_;exact hK z0
   ·refine stp ?_;exact hK z0
   ·refine stp ?_;exact hK z0
   ·refine o_idxO rfl rfl rfl rfl oM oM (o':=(s.length-1)*4) oM ?_;exact hK z0
   ·have h17:D 17=false:=dnF hDn hDi kR;simp only [updD,h17,Nat.reduceEqDiff,↓reduceIte,cond_false] at hK ⊢;refine o_loadO (α:=Word) (xs:=s) (s.length-1) i1 rfl rfl rfl rfl rfl ?_;exact hK z0
   ·refine o_idxO rfl rfl rfl rfl oM oM (o':=(s.length-1)*4) oM ?_;exact hK z0
   ·simp only [updD,updC,hDi,Nat.reduceEqDiff,↓reduceIte,cond_false,cond_true] at hK ⊢;refine o_storeO (α:=Word) s[s.length-1-n] (s.length-1) i1 rfl rfl rfl ⟨fun _ _=>Rp.flat.2 rfl⟩ rfl ?_;intro cs1 hc1;refine G.learn (fPure ((cellsL (.agg cs1.toArray)).length=cs.length)) (e:=⟨fun _ _=>hc1⟩) ?_;exact hK (.agg cs1.toArray)
  case hz_1=>intro c;rfl
  case loc_1 =>
   simp only [AllL,Nat.reduceAdd,and_true]
   refine ⟨?_,?_,?_,?_,?_,?_,?_,?_,?_,?_,?_,?_,?_,?_,?_,?_,?_,?_⟩
   all_goals (intro c c' z h;first|exact ⟨rfl,rfl⟩|(skip))
  intro c
  dsimp only [dstOf,dstX,putX,kval,kfac,ancE,ancX,ancF,getD_z,getD_s,List.getElem?_cons_zero,List.getElem?_cons_succ,List.getElem?_nil,Option.getD_some,Option.getD_none,List.nil_append,List.cons_append,List.drop_succ_cons,List.drop_zero,Option.getD]
  refine LW.bare (G.use (p:=(cellsL (c 17)).length=cs.length) (fun I hp=>hp (fPure _) (.head _)) ?_)
  intro hc17
  refine LW.back ?_
  show LW _ _ _ _ _ _ [(b,Ob (cellsL (c 17)) 49)]
  refine LW.cons ?_
  refine o_idxO rfl rfl rfl rfl oM oM (o':=(s.length-1-n)*4) oM ?_
  repeat refine s4 ?_;try intro
  refine o_storeO (α:=Word) (xs:=s.set (s.length-1) s[s.length-1-n]) s[s.length-1] (s.length-1-n) oX rfl rfl rfl ⟨fun _ _=>Rp.flat.2 rfl⟩ rfl ?_
  intro cs2 hc2
  repeat refine s4 ?_;try intro
  refine G.giveOwn2 (Mr:=[]) (.slice (some ⟨b,0,none⟩) s.length cap) ((s.set (s.length-1) s[s.length-1-n]).set (s.length-1-n) s[s.length-1]) (some (b,cs2)) 49 ⟨cap,by simp,by rw [hc2,hc17];exact hcs,by simpa using hcap⟩ (show Ent' _ (fRow cs2 _) from oY) oP ?_
  exact G.ret rfl (.cons (.tmp rfl) (.cons (.tmp rfl) .nil)) (Φ':=[fRp _ ((s.set (s.length-1) s[s.length-1-n]).set (s.length-1-n) s[s.length-1])]) (M':=[]) oY oN ⟨_,rfl,rfl,rfl⟩
end Go.Rail
namespace Go.Rail
open Go Go.Proofs Tryz
set_option maxHeartbeats 400000
set_option maxRecDepth 4000
attribute [local irreducible] OpK G W LW wpListIn Exit.then Exit.inBlock Post rounds opRun bodyPostM intOp
set_option maxHeartbeats 16000000
attribute [local irreducible] lexN cmpW Word.nat subW mulW addW divW modW sdivW smodW addmodW mulmodW expW andW orW xorW notW shlW shrW sarW byteW signW
def flipW (a:Word):Word:=⟨a.a,a.b,a.c,UInt64.ofNat (a.d.toNat^^^9223372036854775808)⟩
theorem flipW_v (a:Word):Value.agg [.int .u64 (a.a.toNat:Int),.int .u64 (a.b.toNat:Int),.int .u64 (a.c.toNat:Int),.int .u64 ((a.d.toNat^^^9223372036854775808:Nat):Int)].toArray=(flipW a).v:=by
 have h:a.d.toNat^^^9223372036854775808<2^64:=xor_lt64 a.d.toNat_lt oE
 simp only [Word.v,Word.cells,flipW,UInt64.toNat_ofNat',Nat.mod_eq_of_lt h]
def lessW (a b:Word):Bool:=decide (cmpW (flipW a) (flipW b)<0)
theorem less_spec (a b:Word):FnV prog 153 [a.v,b.v] [] (.bool (lessW a b)):=by
 have hc:=wcmp_spec (flipW a) (flipW b)
 refine Fn.enter func153 rfl ntmps153 oI (fun I0 w0 => ?_)
 repeat refine st ?_;try intro
 rw [flipW_v a,flipW_v b]
 refine cV hc ?_
 repeat refine st ?_;try intro
 refine G.retV ?_
 rfl
theorem cflag_spec (b:Bool):FnV prog 138 [.bool b] [] (flagW b).v:=by
 cases b
 ·refine Fn.enter func138 rfl ntmps138 oI (fun I0 w0 => ?_)
  repeat refine st ?_;try intro
  refine G.retV ?_
  rfl
 ·refine Fn.enter func138 rfl ntmps138 oI (fun I0 w0 => ?_)
  repeat refine st ?_;try intro
  refine G.retV ?_
  rfl
instance (b:Bool) {Φ:List Fa}:CV prog 138 [.bool b] Φ (flagW b).v:=⟨Fn.weaken (cflag_spec b)⟩
instance (a b:Word) {Φ:List Fa}:CV prog 153 [a.v,b.v] Φ (.bool (lessW a b)):=⟨Fn.weaken (less_spec a b)⟩
instance (a b:Word) {Φ:List Fa}:CV prog 150 [a.v,b.v] Φ (.int .i64 (cmpW a b)):=⟨Fn.weaken (wcmp_spec a b)⟩
theorem isz_spec (a:Word):FnV prog 137 [a.v] [] (flagW (decide (a = .zero))).v:=by
 refine Fn.enter func137 rfl ntmps137 oI (fun I0 w0 => ?_)
 repeat refine st ?_;try intro
 refine G.retV ?_
 rfl
theorem lt_spec (a b:Word):FnV prog 149 [a.v,b.v] [] (flagW (decide (cmpW a b<0))).v:=by
 refine Fn.enter func149 rfl ntmps149 oI (fun I0 w0 => ?_)
 repeat refine st ?_;try intro
 refine G.retV ?_
 rfl
theorem gt_spec (a b:Word):FnV prog 151 [a.v,b.v] [] (flagW (decide (0<cmpW a b))).v:=by
 refine Fn.enter func151 rfl ntmps151 oI (fun I0 w0 => ?_)
 repeat refine st ?_;try intro
 refine G.retV ?_
 rfl
theorem slt_spec (a b:Word):FnV prog 152 [a.v,b.v] [] (flagW (lessW a b)).v:=by
 refine Fn.enter func152 rfl ntmps152 oI (fun I0 w0 => ?_)
 repeat refine st ?_;try intro
 refine G.retV ?_
 rfl
theorem sgt_spec (a b:Word):FnV prog 154 [a.v,b.v] [] (flagW (lessW b a)).v:=by
 refine Fn.enter func154 rfl ntmps154 oI (fun I0 w0 => ?_)
 repeat refine st ?_;try intro
 refine G.retV ?_
 rfl
theorem eqq_spec (a b:Word):FnV prog 155 [a.v,b.v] [] (flagW (decide (a=b))).v:=by
 refine Fn.enter func155 rfl ntmps155 oI (fun I0 w0 => ?_)
 repeat refine st ?_;try intro
 refine G.retV ?_
 rfl
end Go.Rail
namespace Go.Rail
open Go Go.Proofs Tryz
set_option maxHeartbeats 400000
set_option maxRecDepth 4000
attribute [local irreducible] OpK G W LW wpListIn Exit.then Exit.inBlock Post rounds opRun bodyPostM intOp
set_option maxHeartbeats 4000000
attribute [local irreducible] Word.num Word.nat
theorem bt_lt (x i:Nat):bt x i<2:=Nat.mod_lt _ oE
theorem bt_test (x i:Nat):bt x i=(x.testBit i).toNat:=by
 rw [Nat.testBit_eq_decide_div_mod_eq]
 show x/2^i%2=_
 have:x/2^i%2<2:=Nat.mod_lt _ oE
 generalize x/2^i%2=t at *
 by_cases h:t=1
 ·subst h;rfl
 ·rw [decide_eq_false h];show t=0;omega
theorem nat_bits {x y:Nat} (h : ∀ i<256,bt x i=bt y i):Word.nat x=Word.nat y:=by
 refine Word.nat_eq ?_
 have e:top256=2^256:=by kernel_rfl
 rw [e]
 refine dig_ext (b:=2) (n:=256) oE (Nat.mod_lt _ (Nat.pow_pos oE)) (Nat.mod_lt _ (Nat.pow_pos oE)) (fun i hi => ?_)
 rw [dig_mod oE hi,dig_mod oE hi]
 exact h i hi
theorem bt_sum {g:Nat→Nat} (hg : ∀ i<256,g i<2) {i:Nat} (hi:i<256):bt (sumB 2 g 256) i=g i:=sumB_dig oE hi hg
theorem sum_bits {g:Nat→Nat} {y:Nat} (h : ∀ i<256,bt y i=g i):Word.nat (sumB 2 g 256)=Word.nat y :=
 nat_bits (fun i hi=>by rw [bt_sum (fun j hj=>by rw [← h j hj];exact bt_lt _ _) hi,h i hi])
theorem bt_top {x i:Nat} (hx:x<top256) (hi:256≤i):bt x i=0:=by
 show x/2^i%2=0
 rw [Nat.div_eq_of_lt (Nat.lt_of_lt_of_le (Nat.lt_of_lt_of_eq hx (show top256=2^256 by kernel_rfl)) (Nat.pow_le_pow_right oE hi))]
theorem rint_spec (w:Word):FnV prog 128 [w.v] [] (.tuple #[.int .i64 ((if w.num≤4611686018427387903 then w.num else 0:Nat):Int),.bool (decide (w.num≤4611686018427387903))]):=by
 have:=w.a.toNat_lt
 have hnum:w.num=w.a.toNat+18446744073709551616*w.b.toNat+340282366920938463463374607431768211456*w.c.toNat+6277101735386680763835789423207666416102355444464034512896*w.d.toNat:=by unfold Word.num;rfl
 refine Fn.enter func128 rfl ntmps128 oI (fun I0 w0 => ?_)
 by_cases h1:0<w.b.toNat
 ·repeat refine sq ?_;try intro
  refine G.retV ?_
  rw [if_neg oM,decide_eq_false oM];rfl
 by_cases h2:0<w.c.toNat
 ·repeat refine sq ?_;try intro
  refine G.retV ?_
  rw [if_neg oM,decide_eq_false oM];rfl
 by_cases h3:0<w.d.toNat
 ·repeat refine sq ?_;try intro
  refine G.retV ?_
  rw [if_neg oM,decide_eq_false oM];rfl
 by_cases h4:4611686018427387903<w.a.toNat
 ·repeat refine sq ?_;try intro
  refine G.retV ?_
  rw [if_neg oM,decide_eq_false oM];rfl
 ·repeat refine sq ?_;try intro
  refine G.retV ?_
  rw [if_pos oM,decide_eq_true oM,show w.num=w.a.toNat from by omega];rfl
theorem small_spec (w:Word) (m:Nat) (hm:m≤4611686018427387903):FnV prog 286 [w.v,.int .i64 (m:Int)] [] (.int .i64 ((min w.num m:Nat):Int)):=by
 have hi:=rint_spec w
 refine Fn.enter func286 rfl ntmps286 oI (fun I0 w0 => ?_)
 by_cases h:w.num≤4611686018427387903
 ·rw [if_pos h,decide_eq_true h] at hi
  by_cases h2:m<w.num
  ·rw [Nat.min_eq_right oM]
   repeat refine sq ?_;try intro
   refine cV hi ?_
   repeat refine sq ?_;try intro
   refine G.retV ?_
   rfl
  ·rw [Nat.min_eq_left oM]
   repeat refine sq ?_;try intro
   refine cV hi ?_
   repeat refine sq ?_;try intro
   refine G.retV ?_
   rfl
 ·rw [if_neg h,decide_eq_false h] at hi
  rw [Nat.min_eq_right oM]
  repeat refine sq ?_;try intro
  refine cV hi ?_
  repeat refine sq ?_;try intro
  refine G.retV ?_
  rfl
def bF (T:Nat→Nat) (x y i k:Nat):Nat:=if k<i then T (2*bt x k+bt y k) else bt x k
theorem bF_at (T:Nat→Nat) (x y i:Nat):bF T x y i i=bt x i:=by unfold bF;rw [if_neg oM]
theorem bF_step (T:Nat→Nat) (x y i:Nat):(fun k=>if k=i then ((T (2*bt x i+bt y i):Nat):Int) else ((bF T x y i k:Nat):Int))=fun k=>((bF T x y (i+1) k:Nat):Int):=by
 funext k
 unfold bF
 by_cases h:k=i
 ·subst h;rw [if_pos rfl,if_pos oM]
 ·rw [if_neg h]
  by_cases h2:k<i
  ·rw [if_pos h2,if_pos oM]
  ·rw [if_neg h2,if_neg oM]
theorem both_spec (a b:Word) (T:Nat→Nat) (hT : ∀ i<4,T i<2):FnV prog 288 [a.v,b.v,.agg (cI (rowN 4 T)).toArray] [] (Word.nat (sumB 2 (fun i=>T (2*bt a.num i+bt b.num i)) 256)).v:=by
 refine Fn.enter func288 rfl ntmps288 oI (fun I0 w0 => ?_)
 repeat refine sq ?_;try intro
 rename_i b3 b4 b5 b6
 refine o_callO rfl rfl rfl rfl (bits_spec a) ?_
 intro vx ox hox
 rw [rowZ_length] at hox
 refine G.ownZ (f:=fun k=>((bt a.num k:Nat):Int)) oE hox ?_
 intro bx ex cx e1 e2 hcx
 subst e1 e2
 dsimp only [ownM,List.cons_append,List.nil_append]
 repeat refine sq ?_;try intro
 refine o_callO rfl rfl rfl rfl (bits_spec b) ?_
 intro vy oy hoy
 refine G.giveOwn2 vy (rowN 256 (bt b.num)) oy 3 hoy oY oP ?_
 repeat refine sq ?_;try intro
 refine W.lp (fun (i:Nat)=>([fRp vy (rowN 256 (bt b.num))],[(9,.int .i64 (i:Int)),(8,vy),(7,.slice (some ⟨bx,0,none⟩) 256 cx),(6,.pointer (some ⟨b6,0,none⟩)),(5,.pointer (some ⟨b5,0,none⟩))],[(b6,Ob Word.zero.cells 49),(b5,Ob (cIx (rowN 4 T) []) 256),(bx,Ob (cIx (rowN 256 (bF T a.num b.num i)) ex) 3)])) (fun i=>i≤256) (fun i=>256-i) 0 ?_ (hM := .cons_cons _ (.cons_cons _ (.cons _ (.cons _ (.refl _)))))
 intro i hi
 dsimp only
 by_cases hi32:i=256
 ·subst hi32
  refine W.bare (G.giveZ bx cx hcx ?_)
  refine G.code ?_
  have e:rowZ 256 (fun k=>((bF T a.num b.num 256 k:Nat):Int))=rowN 256 (fun i=>T (2*bt a.num i+bt b.num i)):=rowZ_congr (fun k hk=>by unfold bF;rw [if_pos hk])
  rw [e]
  have ht : ∀ i,T (2*bt a.num i+bt b.num i)<2:=fun i=>hT _ (by have:=bt_lt a.num i;have:=bt_lt b.num i;omega)
  repeat refine sq ?_;try intro
  refine cV (fromBits_spec _ (fun i=>T (2*bt a.num i+bt b.num i)) (fun i _=>ht i)) ?_
  repeat refine sq ?_;try intro
  refine G.retV ?_
  rfl
 ·have h0:=bF_at T a.num b.num i
  have h1:=bt_lt a.num i
  have h2:=bt_lt b.num i
  have h3:=hT (2*bt a.num i+bt b.num i) oM
  repeat refine sq ?_;try intro
  refine W.drawA 14 [dq _,dq _,dq _,dq _,dq _,dq _,dq _,dq _,dq _,dk _,dq _,dq _,dq _,dq _] [[],[],[],[],[2,3],[4],[5],[],[],[7,8],[9],[6,10],[11],[12]] [0,1,13] (hrest:=fun c=>nrm ?_) (hops:=by
   iterate 5 refine AllQ.az ?_
   refine AllQ.mk (by intro c z0 Φr Lr K;refine nrm ?_;intro hK;refine stz ?_;rw [h0];exact hK z0) ?_
   iterate 8 refine AllQ.az ?_
   exact AllQ.nil)
  repeat refine sq ?_;try intro
  rw [bF_step]
  exact G.ag (i+1)
end Go.Rail
namespace Go.Rail
open Go Go.Proofs Tryz
set_option maxHeartbeats 400000
set_option maxRecDepth 4000
attribute [local irreducible] OpK G W LW wpListIn Exit.then Exit.inBlock Post rounds opRun bodyPostM intOp
set_option maxHeartbeats 4000000
attribute [local irreducible] Word.num Word.nat
def tab4 (p q r s:Nat) (k:Nat):Nat:=[p,q,r,s].getD k 0
theorem tab_lt {p q r s:Nat} (hp:p<2) (hq:q<2) (hr:r<2) (hs:s<2) : ∀ i<4,tab4 p q r s i<2
 | 0,_=>hp
 | 1,_=>hq
 | 2,_=>hr
 | 3,_=>hs
theorem rand_spec (a b:Word):FnV prog 217 [a.v,b.v] [] (andW a b).v:=by
 have h:=both_spec a b (tab4 0 0 0 1) (tab_lt oE oE oE oE)
 rw [sum_bits (y:=a.num&&&b.num) (fun i hi=>by rw [bt_test,bt_test,bt_test,Nat.testBit_and];cases a.num.testBit i<;>cases b.num.testBit i<;>rfl)] at h
 refine Fn.enter func217 rfl ntmps217 oI (fun I0 w0 => ?_)
 repeat refine sq ?_;try intro
 refine cV h ?_
 repeat refine sq ?_;try intro
 refine G.retV ?_
 rfl
theorem ror_spec (a b:Word):FnV prog 218 [a.v,b.v] [] (orW a b).v:=by
 have h:=both_spec a b (tab4 0 1 1 1) (tab_lt oE oE oE oE)
 rw [sum_bits (y:=a.num|||b.num) (fun i hi=>by rw [bt_test,bt_test,bt_test,Nat.testBit_or];cases a.num.testBit i<;>cases b.num.testBit i<;>rfl)] at h
 refine Fn.enter func218 rfl ntmps218 oI (fun I0 w0 => ?_)
 repeat refine sq ?_;try intro
 refine cV h ?_
 repeat refine sq ?_;try intro
 refine G.retV ?_
 rfl
theorem rxor_spec (a b:Word):FnV prog 219 [a.v,b.v] [] (xorW a b).v:=by
 have h:=both_spec a b (tab4 0 1 1 0) (tab_lt oE oE oE oE)
 rw [sum_bits (y:=a.num^^^b.num) (fun i hi=>by rw [bt_test,bt_test,bt_test,Nat.testBit_xor];cases a.num.testBit i<;>cases b.num.testBit i<;>rfl)] at h
 refine Fn.enter func219 rfl ntmps219 oI (fun I0 w0 => ?_)
 repeat refine sq ?_;try intro
 refine cV h ?_
 repeat refine sq ?_;try intro
 refine G.retV ?_
 rfl
theorem not_test {x i:Nat} (hx:x<top256) (hi:i<256):(top256-1-x).testBit i = !x.testBit i:=by
 have e:top256=2^256:=by kernel_rfl
 rw [e] at hx ⊢
 rw [Nat.sub_sub,Nat.add_comm 1 x,Nat.testBit_two_pow_sub_succ hx,decide_eq_true hi,Bool.true_and]
theorem rnot_spec (a:Word):FnV prog 220 [a.v] [] (notW a).v:=by
 have h:=both_spec a a (tab4 1 1 0 0) (tab_lt oE oE oE oE)
 rw [sum_bits (y:=top256-1-a.num) (fun i hi=>by rw [bt_test,bt_test,not_test a.num_lt hi];cases a.num.testBit i<;>rfl)] at h
 refine Fn.enter func220 rfl ntmps220 oI (fun I0 w0 => ?_)
 repeat refine sq ?_;try intro
 refine cV h ?_
 repeat refine sq ?_;try intro
 refine G.retV ?_
 rfl
def mvF (x:Nat) (k:Int) (t i:Nat):Nat:=if 0≤(i:Int)-k∧(i:Int)-k<256 then bt x ((i:Int)-k).toNat else t
theorem mvF_lt {x:Nat} {k:Int} {t i:Nat} (ht:t<2):mvF x k t i<2:=by unfold mvF;split;exact bt_lt _ _;exact ht
theorem moved_spec (a:Word) (k:Int) (t:Nat) (hk : -256≤k∧k≤256) (ht:t<2):FnV prog 289 [a.v,.int .i64 k,.int .i64 (t:Int)] [] (Word.nat (sumB 2 (mvF a.num k t) 256)).v:=by
 refine Fn.enter func289 rfl ntmps289 oI (fun I0 w0 => ?_)
 repeat refine sq ?_;try intro
 rename_i b3 b6
 refine o_callO rfl rfl rfl rfl (bits_spec a) ?_
 intro vx ox hox
 refine G.giveOwn2 vx (rowN 256 (bt a.num)) ox 3 hox oY oP ?_
 repeat refine sq ?_;try intro
 refine W.lp (S:=Nat × Value × OR) (fun s=>([fRow (ocells s.2.2) (rowN s.1 (mvF a.num k t)),fRp vx (rowN 256 (bt a.num))],[(9,.int .i64 (s.1:Int)),(8,s.2.1),(7,vx),(6,.pointer (some ⟨b6,0,none⟩)),(2,.int .i64 (t:Int)),(1,.int .i64 k)],(b6,Ob Word.zero.cells 49)::ownM 3 s.2.2)) (fun s=>s.1≤256∧IsOwn 1 s.2.1 s.1 s.2.2) (fun s=>256-s.1) (0,.slice none 0 0,none) ?_ (h0:=⟨Nat.zero_le _,rfl,rfl⟩) (hM := .cons_cons _ oN)
 rintro ⟨i,w,o⟩ ⟨hi,hown⟩
 dsimp only at hi hown ⊢
 by_cases hi32:i=256
 ·subst hi32
  refine W.bare (G.giveOwn2 (Mr:=[(b6,Ob Word.zero.cells 49)]) w (rowN 256 (mvF a.num k t)) o 3 (by rw [rowZ_length];exact hown) oY oP ?_)
  refine G.code ?_
  repeat refine sq ?_;try intro
  refine cV (fromBits_spec w (mvF a.num k t) (fun i _=>mvF_lt ht)) ?_
  repeat refine sq ?_;try intro
  refine G.retV ?_
  rfl
 ·have hd2:=rowZ_succ i (fun i=>((mvF a.num k t i:Nat):Int))
  by_cases h0:0≤(i:Int)-k∧(i:Int)-k<256
  ·obtain ⟨j,hj⟩ : ∃ j:Nat,(i:Int)-k=(j:Int):=⟨((i:Int)-k).toNat,by omega⟩
   have hNL:NL ((i:Int)-k) j:=⟨hj⟩
   have hv:mvF a.num k t i=bt a.num j:=by unfold mvF;rw [if_pos h0,hj];rfl
   rw [hv] at hd2
   repeat refine sq ?_;try intro
   refine o_app2 (Mr:=[(b6,Ob Word.zero.cells 49)]) o (xs:=rowN i (mvF a.num k t)) (ys:=[((bt a.num j:Nat):Int)]) (by rw [rowZ_length];exact hown) ⟨by simp [rowZ_length];omega,by simp [rowZ_length];omega,rfl⟩ rfl rfl rfl rfl oY oY oP ?_
   intro w' o' hown'
   rw [← hd2] at hown' ⊢
   rw [rowZ_length] at hown'
   refine nA ?_
   repeat refine sq ?_;try intro
   exact G.ag (S:=Nat × Value × OR) (i+1,w',o') (hpre:=⟨by dsimp only;omega,hown'⟩)
  ·have hv:mvF a.num k t i=t:=by unfold mvF;rw [if_neg h0]
   rw [hv] at hd2
   by_cases h1:0≤(i:Int)-k
   ·repeat refine sq ?_;try intro
    refine o_app2 (Mr:=[(b6,Ob Word.zero.cells 49)]) o (xs:=rowN i (mvF a.num k t)) (ys:=[((t:Nat):Int)]) (by rw [rowZ_length];exact hown) ⟨by simp [rowZ_length];omega,by simp [rowZ_length];omega,rfl⟩ rfl rfl rfl rfl oY oY oP ?_
    intro w' o' hown'
    rw [← hd2] at hown' ⊢
    rw [rowZ_length] at hown'
    refine nA ?_
    repeat refine sq ?_;try intro
    exact G.ag (S:=Nat × Value × OR) (i+1,w',o') (hpre:=⟨by dsimp only;omega,hown'⟩)
   ·repeat refine sq ?_;try intro
    refine o_app2 (Mr:=[(b6,Ob Word.zero.cells 49)]) o (xs:=rowN i (mvF a.num k t)) (ys:=[((t:Nat):Int)]) (by rw [rowZ_length];exact hown) ⟨by simp [rowZ_length];omega,by simp [rowZ_length];omega,rfl⟩ rfl rfl rfl rfl oY oY oP ?_
    intro w' o' hown'
    rw [← hd2] at hown' ⊢
    rw [rowZ_length] at hown'
    refine nA ?_
    repeat refine sq ?_;try intro
    exact G.ag (S:=Nat × Value × OR) (i+1,w',o') (hpre:=⟨by dsimp only;omega,hown'⟩)
end Go.Rail
