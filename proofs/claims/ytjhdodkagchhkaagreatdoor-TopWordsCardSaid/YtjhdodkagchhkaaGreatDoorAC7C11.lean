/- divide: sums and powers, and what is left of them. -/
import Derived.Test.YtjhdodkagchhkaaGreatDoorRailA
import Derived.Test.YtjhdodkagchhkaaGreatDoorRailC
import Derived.Test.YtjhdodkagchhkaaGreatDoorAC6
import Derived.Test.YtjhdodkagchhkaaGreatDoorRailG
import Derived.Test.YtjhdodkagchhkaaGreatDoorRailD
set_option linter.unusedSimpArgs false
set_option linter.unusedVariables false
namespace Go.Rail
open Go Go.Proofs Tryz
set_option maxHeartbeats 400000
set_option maxRecDepth 4000
attribute [local irreducible] OpK G W LW wpListIn Exit.then Exit.inBlock Post rounds opRun bodyPostM intOp
set_option maxHeartbeats 16000000
attribute [local irreducible] lexN cmpW Word.nat subW mulW
theorem addmod_spec (a b n:Word):FnV prog 131 [a.v,b.v,n.v] [] (addmodW a b n).v:=by
 have ha:=a.num_lt;have hb:=b.num_lt
 have:=a.a.toNat_lt;have:=a.b.toNat_lt;have:=a.c.toNat_lt;have:=a.d.toNat_lt
 have:=b.a.toNat_lt;have:=b.b.toNat_lt;have:=b.c.toNat_lt;have:=b.d.toNat_lt
 refine Fn.enter func131 rfl ntmps131 oI (fun I0 w0 => ?_)
 by_cases hn:n=Word.zero
 ·repeat refine s4 ?_;try intro
  refine o_eql (u:=n.v) (v:=Word.zero.v) rfl rfl rfl rfl (r:=true) (by simp [hn]) ?_
  repeat refine s4 ?_;try intro
  refine G.ret rfl (.cons (.cellA rfl rfl) .nil) (Φ':=[]) (M':=[]) oY oN ⟨?_,rfl,rfl⟩
  rw [addmodW,if_pos hn];rfl
 ·have hd:=dividedX_spec (a.num+b.num) n (lt512 (Nat.lt_trans (Nat.add_lt_add ha hb) oE)) hn
  rw [← numX (n:=a.num+b.num) (p0:=(a.a.toNat+b.a.toNat+0)%18446744073709551616) (p1:=(a.b.toNat+b.b.toNat+(a.a.toNat+b.a.toNat+0)/18446744073709551616)%18446744073709551616) (p2:=(a.c.toNat+b.c.toNat+(a.b.toNat+b.b.toNat+(a.a.toNat+b.a.toNat+0)/18446744073709551616)/18446744073709551616)%18446744073709551616) (p3:=(a.d.toNat+b.d.toNat+(a.c.toNat+b.c.toNat+(a.b.toNat+b.b.toNat+(a.a.toNat+b.a.toNat+0)/18446744073709551616)/18446744073709551616)/18446744073709551616)%18446744073709551616) (p4:=(a.d.toNat+b.d.toNat+(a.c.toNat+b.c.toNat+(a.b.toNat+b.b.toNat+(a.a.toNat+b.a.toNat+0)/18446744073709551616)/18446744073709551616)/18446744073709551616)/18446744073709551616) (p5:=0) (p6:=0) (p7:=0) (by simp only [Word.num];omega) oM oM oM oM oM oM oM oM] at hd
  repeat refine s4 ?_;try intro
  refine o_eql (u:=n.v) (v:=Word.zero.v) rfl rfl rfl rfl (r:=false) (by simp [hn]) ?_
  repeat refine s4 ?_;try intro
  refine W.loopN 5 ?_
  repeat refine s4 ?_;try intro
  refine W.keep (lC (k:=3) rfl (lC (k:=4) rfl (lC (k:=5) rfl (lC (k:=6) rfl (lC (k:=7) rfl (lC (k:=8) rfl (lC (k:=9) rfl (lC (k:=14) rfl (lN))))))))) ?_
  refine W.drawX 14 (fun D c=>(?bW_1,Ob (bif D 13 then ?cN_1 else ?cO_1) ?tW_1) :: ?rM_1) [⟨?v0_1,fun _ z=>[]⟩,⟨?v1_1,fun _ z=>[]⟩,⟨?v2_1,fun _ z=>[]⟩,⟨?v3_1,fun _ z=>[]⟩,⟨?v4_1,fun _ z=>[]⟩,⟨?v5_1,fun _ z=>[]⟩,⟨?v6_1,fun _ z=>[]⟩,⟨?v7_1,fun _ z=>[]⟩,⟨?v8_1,fun _ z=>[]⟩,⟨?v9_1,fun _ z=>[]⟩,⟨?v10_1,fun _ z=>[]⟩,⟨?v11_1,fun _ z=>[]⟩,⟨?v12_1,fun _ z=>[]⟩,⟨fun _ _=>Value.bool false,fun _ z=>[]⟩] [[],[],[1],[2],[],[4],[5],[],[3,6,7],[8],[9],[9],[0],[10,12]] [11] kR kR kR kR ?loc_1 ?hz_1 ?ops_1 ?rest_1
  case hz_1=>intro c;rfl
  case ops_1 =>
   simp only [AllX,Nat.reduceAdd,and_true]
   refine ⟨?_,?_,?_,?_,?_,?_,?_,?_,?_,?_,?_,?_,?_,?_⟩
   all_goals (intro D c z0 Φr Lr K hDi hAnc hDn hK;dsimp only [dstOf,dstX,putX,kval,kfac,ancE,ancX,ancF,getD_z,getD_s,List.getElem?_cons_zero,List.getElem?_cons_succ,List.getElem?_nil,Option.getD_some,Option.getD_none,List.nil_append,List.cons_append,Option.getD] at hK ⊢)
   iterate 8 ((first|refine stp ?_|refine stf ?_);exact hK z0)
   ·(first|refine o_add64 rfl rfl rfl rfl rfl rfl oM ?_|refine o_add64 (c:=0) rfl rfl rfl rfl rfl rfl oM ?_);exact hK z0
   iterate 4 (refine stp ?_;exact hK z0)
   ·simp only [updD,hDi,Nat.reduceEqDiff,↓reduceIte,cond_false,cond_true] at hK ⊢;refine stp ?_;exact hK z0
  case loc_1 =>
   simp only [AllL,Nat.reduceAdd,and_true]
   refine ⟨?_,?_,?_,?_,?_,?_,?_,?_,?_,?_,?_,?_,?_,?_⟩
   all_goals exact fun _ _ _ _=>⟨rfl,rfl⟩
  intro c
  dsimp only [dstOf,dstX,putX,kval,kfac,ancE,ancX,ancF,getD_z,getD_s,List.getElem?_cons_zero,List.getElem?_cons_succ,List.getElem?_nil,Option.getD_some,Option.getD_none,List.nil_append,List.cons_append,List.drop_succ_cons,List.drop_zero,Option.getD]
  repeat refine s4 ?_;try intro
  refine W.keep (lC (k:=3) rfl (lC (k:=4) rfl (lC (k:=5) rfl (lC (k:=6) rfl (lC (k:=7) rfl (lC (k:=8) rfl (lC (k:=9) rfl (lC (k:=14) rfl (lN))))))))) ?_
  refine W.drawX 14 (fun D c=>(?bW_2,Ob (bif D 13 then ?cN_2 else ?cO_2) ?tW_2) :: ?rM_2) [⟨?v0_2,fun _ z=>[]⟩,⟨?v1_2,fun _ z=>[]⟩,⟨?v2_2,fun _ z=>[]⟩,⟨?v3_2,fun _ z=>[]⟩,⟨?v4_2,fun _ z=>[]⟩,⟨?v5_2,fun _ z=>[]⟩,⟨?v6_2,fun _ z=>[]⟩,⟨?v7_2,fun _ z=>[]⟩,⟨?v8_2,fun _ z=>[]⟩,⟨?v9_2,fun _ z=>[]⟩,⟨?v10_2,fun _ z=>[]⟩,⟨?v11_2,fun _ z=>[]⟩,⟨?v12_2,fun _ z=>[]⟩,⟨fun _ _=>Value.bool false,fun _ z=>[]⟩] [[],[],[1],[2],[],[4],[5],[],[3,6,7],[8],[9],[9],[0],[10,12]] [11] kR kR kR kR ?loc_2 ?hz_2 ?ops_2 ?rest_2
  case hz_2=>intro c;rfl
  case ops_2 =>
   simp only [AllX,Nat.reduceAdd,and_true]
   refine ⟨?_,?_,?_,?_,?_,?_,?_,?_,?_,?_,?_,?_,?_,?_⟩
   all_goals (intro D c z0 Φr Lr K hDi hAnc hDn hK;dsimp only [dstOf,dstX,putX,kval,kfac,ancE,ancX,ancF,getD_z,getD_s,List.getElem?_cons_zero,List.getElem?_cons_succ,List.getElem?_nil,Option.getD_some,Option.getD_none,List.nil_append,List.cons_append,Option.getD] at hK ⊢)
   iterate 8 ((first|refine stp ?_|refine stf ?_);exact hK z0)
   ·(first|refine o_add64 rfl rfl rfl rfl rfl rfl oM ?_|refine o_add64 (c:=0) rfl rfl rfl rfl rfl rfl oM ?_);exact hK z0
   iterate 4 (refine stp ?_;exact hK z0)
   ·simp only [updD,hDi,Nat.reduceEqDiff,↓reduceIte,cond_false,cond_true] at hK ⊢;refine stp ?_;exact hK z0
  case loc_2 =>
   simp only [AllL,Nat.reduceAdd,and_true]
   refine ⟨?_,?_,?_,?_,?_,?_,?_,?_,?_,?_,?_,?_,?_,?_⟩
   all_goals exact fun _ _ _ _=>⟨rfl,rfl⟩
  intro c
  dsimp only [dstOf,dstX,putX,kval,kfac,ancE,ancX,ancF,getD_z,getD_s,List.getElem?_cons_zero,List.getElem?_cons_succ,List.getElem?_nil,Option.getD_some,Option.getD_none,List.nil_append,List.cons_append,List.drop_succ_cons,List.drop_zero,Option.getD]
  repeat refine s4 ?_;try intro
  refine W.keep (lC (k:=3) rfl (lC (k:=4) rfl (lC (k:=5) rfl (lC (k:=6) rfl (lC (k:=7) rfl (lC (k:=8) rfl (lC (k:=9) rfl (lC (k:=14) rfl (lN))))))))) ?_
  refine W.drawX 14 (fun D c=>(?bW_3,Ob (bif D 13 then ?cN_3 else ?cO_3) ?tW_3) :: ?rM_3) [⟨?v0_3,fun _ z=>[]⟩,⟨?v1_3,fun _ z=>[]⟩,⟨?v2_3,fun _ z=>[]⟩,⟨?v3_3,fun _ z=>[]⟩,⟨?v4_3,fun _ z=>[]⟩,⟨?v5_3,fun _ z=>[]⟩,⟨?v6_3,fun _ z=>[]⟩,⟨?v7_3,fun _ z=>[]⟩,⟨?v8_3,fun _ z=>[]⟩,⟨?v9_3,fun _ z=>[]⟩,⟨?v10_3,fun _ z=>[]⟩,⟨?v11_3,fun _ z=>[]⟩,⟨?v12_3,fun _ z=>[]⟩,⟨fun _ _=>Value.bool false,fun _ z=>[]⟩] [[],[],[1],[2],[],[4],[5],[],[3,6,7],[8],[9],[9],[0],[10,12]] [11] kR kR kR kR ?loc_3 ?hz_3 ?ops_3 ?rest_3
  case hz_3=>intro c;rfl
  case ops_3 =>
   simp only [AllX,Nat.reduceAdd,and_true]
   refine ⟨?_,?_,?_,?_,?_,?_,?_,?_,?_,?_,?_,?_,?_,?_⟩
   all_goals (intro D c z0 Φr Lr K hDi hAnc hDn hK;dsimp only [dstOf,dstX,putX,kval,kfac,ancE,ancX,ancF,getD_z,getD_s,List.getElem?_cons_zero,List.getElem?_cons_succ,List.getElem?_nil,Option.getD_some,Option.getD_none,List.nil_append,List.cons_append,Option.getD] at hK ⊢)
   iterate 8 ((first|refine stp ?_|refine stf ?_);exact hK z0)
   ·(first|refine o_add64 rfl rfl rfl rfl rfl rfl oM ?_|refine o_add64 (c:=0) rfl rfl rfl rfl rfl rfl oM ?_);exact hK z0
   iterate 4 (refine stp ?_;exact hK z0)
   ·simp only [updD,hDi,Nat.reduceEqDiff,↓reduceIte,cond_false,cond_true] at hK ⊢;refine stp ?_;exact hK z0
  case loc_3 =>
   simp only [AllL,Nat.reduceAdd,and_true]
   refine ⟨?_,?_,?_,?_,?_,?_,?_,?_,?_,?_,?_,?_,?_,?_⟩
   all_goals exact fun _ _ _ _=>⟨rfl,rfl⟩
  intro c
  dsimp only [dstOf,dstX,putX,kval,kfac,ancE,ancX,ancF,getD_z,getD_s,List.getElem?_cons_zero,List.getElem?_cons_succ,List.getElem?_nil,Option.getD_some,Option.getD_none,List.nil_append,List.cons_append,List.drop_succ_cons,List.drop_zero,Option.getD]
  repeat refine s4 ?_;try intro
  refine W.keep (lC (k:=3) rfl (lC (k:=4) rfl (lC (k:=5) rfl (lC (k:=6) rfl (lC (k:=7) rfl (lC (k:=8) rfl (lC (k:=9) rfl (lC (k:=14) rfl (lN))))))))) ?_
  refine W.drawX 14 (fun D c=>(?bW_4,Ob (bif D 13 then ?cN_4 else ?cO_4) ?tW_4) :: ?rM_4) [⟨?v0_4,fun _ z=>[]⟩,⟨?v1_4,fun _ z=>[]⟩,⟨?v2_4,fun _ z=>[]⟩,⟨?v3_4,fun _ z=>[]⟩,⟨?v4_4,fun _ z=>[]⟩,⟨?v5_4,fun _ z=>[]⟩,⟨?v6_4,fun _ z=>[]⟩,⟨?v7_4,fun _ z=>[]⟩,⟨?v8_4,fun _ z=>[]⟩,⟨?v9_4,fun _ z=>[]⟩,⟨?v10_4,fun _ z=>[]⟩,⟨?v11_4,fun _ z=>[]⟩,⟨?v12_4,fun _ z=>[]⟩,⟨fun _ _=>Value.bool false,fun _ z=>[]⟩] [[],[],[1],[2],[],[4],[5],[],[3,6,7],[8],[9],[9],[0],[10,12]] [11] kR kR kR kR ?loc_4 ?hz_4 ?ops_4 ?rest_4
  case hz_4=>intro c;rfl
  case ops_4 =>
   simp only [AllX,Nat.reduceAdd,and_true]
   refine ⟨?_,?_,?_,?_,?_,?_,?_,?_,?_,?_,?_,?_,?_,?_⟩
   all_goals (intro D c z0 Φr Lr K hDi hAnc hDn hK;dsimp only [dstOf,dstX,putX,kval,kfac,ancE,ancX,ancF,getD_z,getD_s,List.getElem?_cons_zero,List.getElem?_cons_succ,List.getElem?_nil,Option.getD_some,Option.getD_none,List.nil_append,List.cons_append,Option.getD] at hK ⊢)
   iterate 8 ((first|refine stp ?_|refine stf ?_);exact hK z0)
   ·(first|refine o_add64 rfl rfl rfl rfl rfl rfl oM ?_|refine o_add64 (c:=0) rfl rfl rfl rfl rfl rfl oM ?_);exact hK z0
   iterate 4 (refine stp ?_;exact hK z0)
   ·simp only [updD,hDi,Nat.reduceEqDiff,↓reduceIte,cond_false,cond_true] at hK ⊢;refine stp ?_;exact hK z0
  case loc_4 =>
   simp only [AllL,Nat.reduceAdd,and_true]
   refine ⟨?_,?_,?_,?_,?_,?_,?_,?_,?_,?_,?_,?_,?_,?_⟩
   all_goals exact fun _ _ _ _=>⟨rfl,rfl⟩
  intro c
  dsimp only [dstOf,dstX,putX,kval,kfac,ancE,ancX,ancF,getD_z,getD_s,List.getElem?_cons_zero,List.getElem?_cons_succ,List.getElem?_nil,Option.getD_some,Option.getD_none,List.nil_append,List.cons_append,List.drop_succ_cons,List.drop_zero,Option.getD]
  repeat refine s4 ?_;try intro
  refine cV hd ?_
  repeat refine s4 ?_;try intro
  refine G.ret rfl (.cons (.cellA rfl rfl) .nil) (Φ':=[]) (M':=[]) oY oN ⟨?_,rfl,rfl⟩
  rw [addmodW,if_neg hn];rfl
theorem mulW_nat (x y:Nat):mulW (Word.nat x) (Word.nat y)=Word.nat (x*y):=by
 rw [show mulW (Word.nat x) (Word.nat y)=Word.nat ((Word.nat x).num*(Word.nat y).num) from by with_unfolding_all rfl]
 apply Word.nat_eq
 rw [Word.num_nat,Word.num_nat,← Nat.mul_mod]
theorem exp_spec (a b:Word):FnV prog 115 [a.v,b.v] [] (expW a b).v:=by
 have hb:=b.num_lt
 have h00:b.num/2^256=0:=Nat.div_eq_of_lt (by simpa [top256] using hb)
 have hon:=onesW_spec b.num
 rw [← Word.cells_num] at hon
 refine Fn.enter func115 rfl ntmps115 oI (fun I0 w0 => ?_)
 repeat refine s4 ?_;try intro
 refine cV (wof_spec 1 oE) ?_
 repeat refine s4 ?_;try intro
 rename_i b2 b3 b4 b5
 refine OpK.call rfl rfl rfl rfl hon oY (Mr:=_) oP ?_
 rintro u Φ' Mc' ⟨b9,rfl,rfl,rfl⟩
 refine nA ?_
 repeat refine s4 ?_;try intro
 refine W.rangeFunc (enc:=bitsE 256 b.num) (ps:=[10]) (Φi:=[fBlk b9 b.cells 24]) (Mr:=[(b4,_),(b3,_)]) (fun k=>([],[(b5,Ob (Word.nat (a.num^(b.num/2^(256-k)))).cells 24),(b2,Ob a.cells 24)])) (fun _ _=>False) rfl (by rw [Word.cells_num];exact onesW1_spec b9 b.num) oE (bitsE_one _ _) oY oY (by dsimp only;rw [Nat.sub_zero,h00,Nat.pow_zero];exact (List.Perm.cons _ (oH (l₁:=[_,_]) (l₂:=[_])))) ?_ ?_ ?_
 ·intro l rec I0' w0' k hk
  rw [bitsE_len] at hk
  rw [bitsE_at]
  dsimp only
  have hc:b.num/2^(256-1-k)%2=0∨b.num/2^(256-1-k)%2=1:=by omega
  rw [bit_step 256 b.num k hk]
  generalize b.num/2^(256-1-k)%2=c at hc ⊢
  generalize b.num/2^(256-k)=m
  have h2:a.num^m*a.num^m=a.num^(2*m):=by rw [← Nat.pow_add];congr 1;omega
  have h3:mulW (Word.nat (a.num^m)) (Word.nat (a.num^m))=Word.nat (a.num^(2*m)):=by rw [mulW_nat,h2]
  have h4:mulW (Word.nat (a.num^(2*m))) a=Word.nat (a.num^(2*m+1)):=by
   rw [← Word.nat_num a,mulW_nat,Word.nat_num,Nat.pow_succ]
  rcases hc with rfl|rfl
  ·repeat refine s4 ?_;try intro
   refine G.begin (by rfl) ?_
   repeat refine s4 ?_;try intro
   refine o_callV rfl rfl rfl rfl (wmul_spec (Word.nat (a.num^m)) (Word.nat (a.num^m))) (congrArg Word.v h3) ?_
   repeat refine s4 ?_;try intro
   exact G.roundEnd oY (Φ':=[]) (M'':=[_,_]) (.inl ⟨rfl,rfl,rfl⟩) oY oZ
  ·repeat refine s4 ?_;try intro
   refine G.begin (by rfl) ?_
   repeat refine s4 ?_;try intro
   refine o_callV rfl rfl rfl rfl (wmul_spec (Word.nat (a.num^m)) (Word.nat (a.num^m))) (congrArg Word.v h3) ?_
   repeat refine s4 ?_;try intro
   refine o_callV rfl rfl rfl rfl (wmul_spec (Word.nat (a.num^(2*m))) a) (congrArg Word.v h4) ?_
   repeat refine s4 ?_;try intro
   exact G.roundEnd oY (Φ':=[]) (M'':=[_,_]) (.inl ⟨rfl,rfl,rfl⟩) oY oZ
 ·intro D
  refine nA ?_
  rw [bitsE_len,Nat.sub_self,Nat.pow_zero,Nat.div_one]
  repeat refine s4 ?_;try intro
  refine G.unmark oY ?_
  refine G.ret rfl (.cons (.cellA rfl rfl) .nil) (Φ':=[]) (M':=[]) oY oN ⟨?_,rfl,rfl⟩
  rfl
 ·intro D c s h
  cases h
end Go.Rail
namespace Go.Rail
open Go Go.Proofs Tryz
set_option maxHeartbeats 400000
set_option maxRecDepth 4000
attribute [local irreducible] OpK G W LW wpListIn Exit.then Exit.inBlock Post rounds opRun bodyPostM intOp
set_option maxHeartbeats 4000000
attribute [local irreducible] lexN cmpW Word.nat subW mulW
instance (a b:Word) {Φ:List Fa}:CV prog 109 [a.v,b.v] Φ (mulW a b).v:=⟨Fn.weaken (wmul_spec a b)⟩
theorem v_num (w:Word):w.v = .agg (numC 4 w.num).toArray:=by rw [Word.v,Word.cells_num]
theorem numC4 (n:Nat):numC 4 n=[.int .u64 ((n/18446744073709551616^0%18446744073709551616:Nat):Int),.int .u64 ((n/18446744073709551616^1%18446744073709551616:Nat):Int),.int .u64 ((n/18446744073709551616^2%18446744073709551616:Nat):Int),.int .u64 ((n/18446744073709551616^3%18446744073709551616:Nat):Int)]:=rfl
theorem v_nat (n:Nat):(Word.nat n).v = .agg (numC 4 n).toArray:=by
 rw [v_num,Word.num_nat,numC4,numC4]
 simp only [top256]
 have e0:n%115792089237316195423570985008687907853269984665640564039457584007913129639936/18446744073709551616^0%18446744073709551616=n/18446744073709551616^0%18446744073709551616:=by omega
 have e1:n%115792089237316195423570985008687907853269984665640564039457584007913129639936/18446744073709551616^1%18446744073709551616=n/18446744073709551616^1%18446744073709551616:=by omega
 have e2:n%115792089237316195423570985008687907853269984665640564039457584007913129639936/18446744073709551616^2%18446744073709551616=n/18446744073709551616^2%18446744073709551616:=by omega
 have e3:n%115792089237316195423570985008687907853269984665640564039457584007913129639936/18446744073709551616^3%18446744073709551616=n/18446744073709551616^3%18446744073709551616:=by omega
 rw [e0,e1,e2,e3]
theorem atN_spec (n i:Nat) (hi:i<256):FnV prog 292 [.agg (numC 4 n).toArray,.int .i64 (i:Int)] [] (.bool (decide (n/2^i%2=1))):=by
 refine Fn.enter func292 rfl ntmps292 oI (fun I0 w0 => ?_)
 repeat refine st ?_;try intro
 refine G.retV ?_
 refine congrArg Value.bool (decide_eq_decide.2 ?_)
 have e:2^(64*(i/64))*2^(i%64)=2^i:=by rw [← Nat.pow_add,Nat.div_add_mod]
 rw [nat_mask1,bit_mod _ _ (Nat.mod_lt _ oE),Nat.div_div_eq_div_mul,e]
 omega
theorem at_spec (w:Word) (i:Nat) (hi:i<256):FnV prog 292 [w.v,.int .i64 (i:Int)] [] (.bool (decide (w.num/2^i%2=1))):=by
 rw [v_num];exact atN_spec _ i hi
theorem wint_spec (w:Word):FnV prog 287 [w.v] [] (.tuple #[.int .i64 ((if w.num≤4611686018427387903 then w.num else 0:Nat):Int),.bool (decide (w.num≤4611686018427387903))]):=by
 have:=w.a.toNat_lt
 refine Fn.enter func287 rfl ntmps287 oI (fun I0 w0 => ?_)
 by_cases h:w.b.toNat|||w.c.toNat|||w.d.toNat=0
 ·have hn:w.num=w.a.toNat:=by
   have h1:=Nat.or_eq_zero_iff.1 h
   have h2:=Nat.or_eq_zero_iff.1 h1.1
   rw [Word.num,h1.2,h2.1,h2.2];rfl
  rw [hn]
  by_cases h2:w.a.toNat≤4611686018427387903
  ·repeat refine st ?_;try intro
   refine G.retV ?_
   rw [if_pos h2,decide_eq_true h2];rfl
  ·repeat refine st ?_;try intro
   refine G.retV ?_
   rw [if_neg h2,decide_eq_false h2];rfl
 ·have hb : ¬ w.num≤4611686018427387903:=fun hn=>h (by
   have h1:w.b.toNat=0:=by simp only [Word.num] at hn;omega
   have h2:w.c.toNat=0:=by simp only [Word.num] at hn;omega
   have h3:w.d.toNat=0:=by simp only [Word.num] at hn;omega
   rw [h1,h2,h3];rfl)
  repeat refine st ?_;try intro
  refine G.retV ?_
  rw [if_neg hb,decide_eq_false hb];rfl
theorem limit_spec (w:Word) (m:Nat) (hm:m≤4611686018427387903):FnV prog 216 [w.v,.int .i64 (m:Int)] [] (.int .i64 ((min w.num m:Nat):Int)):=by
 have hi:=wint_spec w
 refine Fn.enter func216 rfl ntmps216 oI (fun I0 w0 => ?_)
 repeat refine st ?_;try intro
 refine cV hi ?_
 by_cases h:w.num≤4611686018427387903
 ·rw [if_pos h,decide_eq_true h]
  repeat refine st ?_;try intro
  refine G.retV ?_
  refine congrArg (Value.int .i64) ?_
  split<;>omega
 ·rw [if_neg h,decide_eq_false h]
  repeat refine st ?_;try intro
  refine G.retV ?_
  refine congrArg (Value.int .i64) ?_
  omega
theorem below_spec (w:Word):FnV prog 224 [w.v] [] (.bool (negW w)):=by
 have hi:=at_spec w 255 oE
 refine Fn.enter func224 rfl ntmps224 oI (fun I0 w0 => ?_)
 repeat refine st ?_;try intro
 refine cV hi ?_
 repeat refine st ?_;try intro
 refine G.retV ?_
 have:=w.a.toNat_lt;have:=w.b.toNat_lt;have:=w.c.toNat_lt;have:=w.d.toNat_lt
 refine congrArg Value.bool (decide_eq_decide.2 ?_)
 simp only [Word.num]
 omega
end Go.Rail
