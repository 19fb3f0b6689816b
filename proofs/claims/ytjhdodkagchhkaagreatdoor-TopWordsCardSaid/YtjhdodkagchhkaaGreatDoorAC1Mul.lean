/- word: sums and differences. -/
import Derived.Test.YtjhdodkagchhkaaGreatDoorRailA
import Derived.Test.YtjhdodkagchhkaaGreatDoorRailC
import Derived.Test.YtjhdodkagchhkaaGreatDoorAEq
import Derived.Test.YtjhdodkagchhkaaGreatDoorRailF
import Derived.Test.YtjhdodkagchhkaaGreatDoorRailB
import Derived.Lib.Mul64
import Derived.Laws.Bits64b
set_option linter.unusedSimpArgs false
set_option linter.unusedVariables false
namespace Go.Rail
open Go Go.Proofs Tryz
set_option maxHeartbeats 400000
set_option maxRecDepth 4000
attribute [local irreducible] OpK G W LW wpListIn Exit.then Exit.inBlock Post rounds opRun bodyPostM intOp
instance:ExtF prog 209 add64Entry:=⟨fun args w=>run_callFunc_extern func209 kR kR kR kR args w⟩
instance:ExtF prog 211 sub64E:=⟨fun args w=>run_callFunc_extern func211 kR kR kR kR args w⟩
theorem wadd_spec (a b:Word):FnV prog 108 [a.v,b.v] [] (addW a b).v:=by
 have:=a.a.toNat_lt;have:=a.b.toNat_lt;have:=a.c.toNat_lt;have:=a.d.toNat_lt
 have:=b.a.toNat_lt;have:=b.b.toNat_lt;have:=b.c.toNat_lt;have:=b.d.toNat_lt
 refine Fn.enter func108 rfl ntmps108 oI (fun I0 w0 => ?_)
 repeat refine s4 ?_;try intro
 refine W.loopN 5 ?_
 repeat refine s4 ?_;try intro
 refine W.keep (lC (k:=2) rfl (lC (k:=3) rfl (lC (k:=4) rfl (lC (k:=5) rfl (lC (k:=6) rfl (lC (k:=7) rfl lN)))))) ?_
 refine W.drawX 14 (fun D c=>(?bW_1,Ob (bif D 13 then ?cN_1 else ?cO_1) ?tW_1) :: ?rM_1) [⟨?v0_1,fun _ z=>[]⟩,⟨?v1_1,fun _ z=>[]⟩,⟨?v2_1,fun _ z=>[]⟩,⟨?v3_1,fun _ z=>[]⟩,⟨?v4_1,fun _ z=>[]⟩,⟨?v5_1,fun _ z=>[]⟩,⟨?v6_1,fun _ z=>[]⟩,⟨?v7_1,fun _ z=>[]⟩,⟨?v8_1,fun _ z=>[]⟩,⟨?v9_1,fun _ z=>[]⟩,⟨?v10_1,fun _ z=>[]⟩,⟨?v11_1,fun _ z=>[]⟩,⟨?v12_1,fun _ z=>[]⟩,⟨fun _ _=>Value.bool false,fun _ z=>[]⟩] [[],[],[1],[2],[],[4],[5],[],[3,6,7],[8],[9],[9],[0],[10,12]] [11] kR kR kR kR ?loc_1 ?hz_1 ?ops_1 ?rest_1
 case hz_1=>intro c;rfl
 case ops_1 =>
  simp only [AllX,Nat.reduceAdd,and_true]
  refine ⟨?_,?_,?_,?_,?_,?_,?_,?_,?_,?_,?_,?_,?_,?_⟩
  all_goals (intro D c z0 Φr Lr K hDi hAnc hDn hK;dsimp only [dstOf,dstX,putX,kval,kfac,ancE,ancX,ancF,getD_z,getD_s,List.getElem?_cons_zero,List.getElem?_cons_succ,List.getElem?_nil,Option.getD_some,Option.getD_none,List.nil_append,List.cons_append,Option.getD] at hK ⊢)
  iterate 8 ((first|refine stp ?_|refine stf ?_);exact hK z0)
  ·(first|refine o_add64 rfl rfl rfl rfl rfl rfl oM ?_|refine o_add64 (c:=0) rfl rfl rfl rfl rfl rfl oM ?_);exact hK z0
  iterate 4 (refine stp ?_;exact hK z0)
  ·simp only [updD,hDi,Nat.reduceEqDiff,↓reduceIte,cond_false,cond_true] at hK ⊢;refine stp ?_;exact hK z0
 case loc_1 =>
  simp only [AllL,Nat.reduceAdd,and_true]
  refine ⟨?_,?_,?_,?_,?_,?_,?_,?_,?_,?_,?_,?_,?_,?_⟩
  all_goals exact fun _ _ _ _=>⟨rfl,rfl⟩
 intro c
 dsimp only [dstOf,dstX,putX,kval,kfac,ancE,ancX,ancF,getD_z,getD_s,List.getElem?_cons_zero,List.getElem?_cons_succ,List.getElem?_nil,Option.getD_some,Option.getD_none,List.nil_append,List.cons_append,List.drop_succ_cons,List.drop_zero,Option.getD]
 repeat refine s4 ?_;try intro
 refine W.keep (lC (k:=2) rfl (lC (k:=3) rfl (lC (k:=4) rfl (lC (k:=5) rfl (lC (k:=6) rfl (lC (k:=7) rfl lN)))))) ?_
 refine W.drawX 14 (fun D c=>(?bW_2,Ob (bif D 13 then ?cN_2 else ?cO_2) ?tW_2) :: ?rM_2) [⟨?v0_2,fun _ z=>[]⟩,⟨?v1_2,fun _ z=>[]⟩,⟨?v2_2,fun _ z=>[]⟩,⟨?v3_2,fun _ z=>[]⟩,⟨?v4_2,fun _ z=>[]⟩,⟨?v5_2,fun _ z=>[]⟩,⟨?v6_2,fun _ z=>[]⟩,⟨?v7_2,fun _ z=>[]⟩,⟨?v8_2,fun _ z=>[]⟩,⟨?v9_2,fun _ z=>[]⟩,⟨?v10_2,fun _ z=>[]⟩,⟨?v11_2,fun _ z=>[]⟩,⟨?v12_2,fun _ z=>[]⟩,⟨fun _ _=>Value.bool false,fun _ z=>[]⟩] [[],[],[1],[2],[],[4],[5],[],[3,6,7],[8],[9],[9],[0],[10,12]] [11] kR kR kR kR ?loc_2 ?hz_2 ?ops_2 ?rest_2
 case hz_2=>intro c;rfl
 case ops_2 =>
  simp only [AllX,Nat.reduceAdd,and_true]
  refine ⟨?_,?_,?_,?_,?_,?_,?_,?_,?_,?_,?_,?_,?_,?_⟩
  all_goals (intro D c z0 Φr Lr K hDi hAnc hDn hK;dsimp only [dstOf,dstX,putX,kval,kfac,ancE,ancX,ancF,getD_z,getD_s,List.getElem?_cons_zero,List.getElem?_cons_succ,List.getElem?_nil,Option.getD_some,Option.getD_none,List.nil_append,List.cons_append,Option.getD] at hK ⊢)
  iterate 8 ((first|refine stp ?_|refine stf ?_);exact hK z0)
  ·(first|refine o_add64 rfl rfl rfl rfl rfl rfl oM ?_|refine o_add64 (c:=0) rfl rfl rfl rfl rfl rfl oM ?_);exact hK z0
  iterate 4 (refine stp ?_;exact hK z0)
  ·simp only [updD,hDi,Nat.reduceEqDiff,↓reduceIte,cond_false,cond_true] at hK ⊢;refine stp ?_;exact hK z0
 case loc_2 =>
  simp only [AllL,Nat.reduceAdd,and_true]
  refine ⟨?_,?_,?_,?_,?_,?_,?_,?_,?_,?_,?_,?_,?_,?_⟩
  all_goals exact fun _ _ _ _=>⟨rfl,rfl⟩
 intro c
 dsimp only [dstOf,dstX,putX,kval,kfac,ancE,ancX,ancF,getD_z,getD_s,List.getElem?_cons_zero,List.getElem?_cons_succ,List.getElem?_nil,Option.getD_some,Option.getD_none,List.nil_append,List.cons_append,List.drop_succ_cons,List.drop_zero,Option.getD]
 repeat refine s4 ?_;try intro
 refine W.keep (lC (k:=2) rfl (lC (k:=3) rfl (lC (k:=4) rfl (lC (k:=5) rfl (lC (k:=6) rfl (lC (k:=7) rfl lN)))))) ?_
 refine W.drawX 14 (fun D c=>(?bW_3,Ob (bif D 13 then ?cN_3 else ?cO_3) ?tW_3) :: ?rM_3) [⟨?v0_3,fun _ z=>[]⟩,⟨?v1_3,fun _ z=>[]⟩,⟨?v2_3,fun _ z=>[]⟩,⟨?v3_3,fun _ z=>[]⟩,⟨?v4_3,fun _ z=>[]⟩,⟨?v5_3,fun _ z=>[]⟩,⟨?v6_3,fun _ z=>[]⟩,⟨?v7_3,fun _ z=>[]⟩,⟨?v8_3,fun _ z=>[]⟩,⟨?v9_3,fun _ z=>[]⟩,⟨?v10_3,fun _ z=>[]⟩,⟨?v11_3,fun _ z=>[]⟩,⟨?v12_3,fun _ z=>[]⟩,⟨fun _ _=>Value.bool false,fun _ z=>[]⟩] [[],[],[1],[2],[],[4],[5],[],[3,6,7],[8],[9],[9],[0],[10,12]] [11] kR kR kR kR ?loc_3 ?hz_3 ?ops_3 ?rest_3
 case hz_3=>intro c;rfl
 case ops_3 =>
  simp only [AllX,Nat.reduceAdd,and_true]
  refine ⟨?_,?_,?_,?_,?_,?_,?_,?_,?_,?_,?_,?_,?_,?_⟩
  all_goals (intro D c z0 Φr Lr K hDi hAnc hDn hK;dsimp only [dstOf,dstX,putX,kval,kfac,ancE,ancX,ancF,getD_z,getD_s,List.getElem?_cons_zero,List.getElem?_cons_succ,List.getElem?_nil,Option.getD_some,Option.getD_none,List.nil_append,List.cons_append,Option.getD] at hK ⊢)
  iterate 8 ((first|refine stp ?_|refine stf ?_);exact hK z0)
  ·(first|refine o_add64 rfl rfl rfl rfl rfl rfl oM ?_|refine o_add64 (c:=0) rfl rfl rfl rfl rfl rfl oM ?_);exact hK z0
  iterate 4 (refine stp ?_;exact hK z0)
  ·simp only [updD,hDi,Nat.reduceEqDiff,↓reduceIte,cond_false,cond_true] at hK ⊢;refine stp ?_;exact hK z0
 case loc_3 =>
  simp only [AllL,Nat.reduceAdd,and_true]
  refine ⟨?_,?_,?_,?_,?_,?_,?_,?_,?_,?_,?_,?_,?_,?_⟩
  all_goals exact fun _ _ _ _=>⟨rfl,rfl⟩
 intro c
 dsimp only [dstOf,dstX,putX,kval,kfac,ancE,ancX,ancF,getD_z,getD_s,List.getElem?_cons_zero,List.getElem?_cons_succ,List.getElem?_nil,Option.getD_some,Option.getD_none,List.nil_append,List.cons_append,List.drop_succ_cons,List.drop_zero,Option.getD]
 repeat refine s4 ?_;try intro
 refine W.keep (lC (k:=2) rfl (lC (k:=3) rfl (lC (k:=4) rfl (lC (k:=5) rfl (lC (k:=6) rfl (lC (k:=7) rfl lN)))))) ?_
 refine W.drawX 14 (fun D c=>(?bW_4,Ob (bif D 13 then ?cN_4 else ?cO_4) ?tW_4) :: ?rM_4) [⟨?v0_4,fun _ z=>[]⟩,⟨?v1_4,fun _ z=>[]⟩,⟨?v2_4,fun _ z=>[]⟩,⟨?v3_4,fun _ z=>[]⟩,⟨?v4_4,fun _ z=>[]⟩,⟨?v5_4,fun _ z=>[]⟩,⟨?v6_4,fun _ z=>[]⟩,⟨?v7_4,fun _ z=>[]⟩,⟨?v8_4,fun _ z=>[]⟩,⟨?v9_4,fun _ z=>[]⟩,⟨?v10_4,fun _ z=>[]⟩,⟨?v11_4,fun _ z=>[]⟩,⟨?v12_4,fun _ z=>[]⟩,⟨fun _ _=>Value.bool false,fun _ z=>[]⟩] [[],[],[1],[2],[],[4],[5],[],[3,6,7],[8],[9],[9],[0],[10,12]] [11] kR kR kR kR ?loc_4 ?hz_4 ?ops_4 ?rest_4
 case hz_4=>intro c;rfl
 case ops_4 =>
  simp only [AllX,Nat.reduceAdd,and_true]
  refine ⟨?_,?_,?_,?_,?_,?_,?_,?_,?_,?_,?_,?_,?_,?_⟩
  all_goals (intro D c z0 Φr Lr K hDi hAnc hDn hK;dsimp only [dstOf,dstX,putX,kval,kfac,ancE,ancX,ancF,getD_z,getD_s,List.getElem?_cons_zero,List.getElem?_cons_succ,List.getElem?_nil,Option.getD_some,Option.getD_none,List.nil_append,List.cons_append,Option.getD] at hK ⊢)
  iterate 8 ((first|refine stp ?_|refine stf ?_);exact hK z0)
  ·(first|refine o_add64 rfl rfl rfl rfl rfl rfl oM ?_|refine o_add64 (c:=0) rfl rfl rfl rfl rfl rfl oM ?_);exact hK z0
  iterate 4 (refine stp ?_;exact hK z0)
  ·simp only [updD,hDi,Nat.reduceEqDiff,↓reduceIte,cond_false,cond_true] at hK ⊢;refine stp ?_;exact hK z0
 case loc_4 =>
  simp only [AllL,Nat.reduceAdd,and_true]
  refine ⟨?_,?_,?_,?_,?_,?_,?_,?_,?_,?_,?_,?_,?_,?_⟩
  all_goals exact fun _ _ _ _=>⟨rfl,rfl⟩
 intro c
 dsimp only [dstOf,dstX,putX,kval,kfac,ancE,ancX,ancF,getD_z,getD_s,List.getElem?_cons_zero,List.getElem?_cons_succ,List.getElem?_nil,Option.getD_some,Option.getD_none,List.nil_append,List.cons_append,List.drop_succ_cons,List.drop_zero,Option.getD]
 repeat refine s4 ?_;try intro
 refine G.ret rfl (.cons (.cellA rfl rfl) .nil) (Φ':=[]) (M':=[]) oY oN ⟨?_,rfl,rfl⟩
 exact Word.v_nat (n:=a.num+b.num) (by simp only [Word.num,top256];omega) oM oM oM oM
theorem wsub_spec (a b:Word):FnV prog 110 [a.v,b.v] [] (subW a b).v:=by
 have:=a.a.toNat_lt;have:=a.b.toNat_lt;have:=a.c.toNat_lt;have:=a.d.toNat_lt
 have:=b.a.toNat_lt;have:=b.b.toNat_lt;have:=b.c.toNat_lt;have:=b.d.toNat_lt
 refine Fn.enter func110 rfl ntmps110 oI (fun I0 w0 => ?_)
 repeat refine s4 ?_;try intro
 refine W.loopN 5 ?_
 repeat refine s4 ?_;try intro
 refine W.keep (lC (k:=2) rfl (lC (k:=3) rfl (lC (k:=4) rfl (lC (k:=5) rfl (lC (k:=6) rfl (lC (k:=7) rfl lN)))))) ?_
 refine W.drawX 14 (fun D c=>(?bW_5,Ob (bif D 13 then ?cN_5 else ?cO_5) ?tW_5) :: ?rM_5) [⟨?v0_5,fun _ z=>[]⟩,⟨?v1_5,fun _ z=>[]⟩,⟨?v2_5,fun _ z=>[]⟩,⟨?v3_5,fun _ z=>[]⟩,⟨?v4_5,fun _ z=>[]⟩,⟨?v5_5,fun _ z=>[]⟩,⟨?v6_5,fun _ z=>[]⟩,⟨?v7_5,fun _ z=>[]⟩,⟨?v8_5,fun _ z=>[]⟩,⟨?v9_5,fun _ z=>[]⟩,⟨?v10_5,fun _ z=>[]⟩,⟨?v11_5,fun _ z=>[]⟩,⟨?v12_5,fun _ z=>[]⟩,⟨fun _ _=>Value.bool false,fun _ z=>[]⟩] [[],[],[1],[2],[],[4],[5],[],[3,6,7],[8],[9],[9],[0],[10,12]] [11] kR kR kR kR ?loc_5 ?hz_5 ?ops_5 ?rest_5
 case hz_5=>intro c;rfl
 case ops_5 =>
  simp only [AllX,Nat.reduceAdd,and_true]
  refine ⟨?_,?_,?_,?_,?_,?_,?_,?_,?_,?_,?_,?_,?_,?_⟩
  all_goals (intro D c z0 Φr Lr K hDi hAnc hDn hK;dsimp only [dstOf,dstX,putX,kval,kfac,ancE,ancX,ancF,getD_z,getD_s,List.getElem?_cons_zero,List.getElem?_cons_succ,List.getElem?_nil,Option.getD_some,Option.getD_none,List.nil_append,List.cons_append,Option.getD] at hK ⊢)
  iterate 8 ((first|refine stp ?_|refine stf ?_);exact hK z0)
  ·(first|refine o_sub64 rfl rfl rfl rfl rfl rfl oM oM oM ?_|refine o_sub64 (c:=0) rfl rfl rfl rfl rfl rfl oM oM oM ?_);exact hK z0
  iterate 4 (refine stp ?_;exact hK z0)
  ·simp only [updD,hDi,Nat.reduceEqDiff,↓reduceIte,cond_false,cond_true] at hK ⊢;refine stp ?_;exact hK z0
 case loc_5 =>
  simp only [AllL,Nat.reduceAdd,and_true]
  refine ⟨?_,?_,?_,?_,?_,?_,?_,?_,?_,?_,?_,?_,?_,?_⟩
  all_goals exact fun _ _ _ _=>⟨rfl,rfl⟩
 intro c
 dsimp only [dstOf,dstX,putX,kval,kfac,ancE,ancX,ancF,getD_z,getD_s,List.getElem?_cons_zero,List.getElem?_cons_succ,List.getElem?_nil,Option.getD_some,Option.getD_none,List.nil_append,List.cons_append,List.drop_succ_cons,List.drop_zero,Option.getD]
 repeat refine s4 ?_;try intro
 refine W.keep (lC (k:=2) rfl (lC (k:=3) rfl (lC (k:=4) rfl (lC (k:=5) rfl (lC (k:=6) rfl (lC (k:=7) rfl lN)))))) ?_
 refine W.drawX 14 (fun D c=>(?bW_6,Ob (bif D 13 then ?cN_6 else ?cO_6) ?tW_6) :: ?rM_6) [⟨?v0_6,fun _ z=>[]⟩,⟨?v1_6,fun _ z=>[]⟩,⟨?v2_6,fun _ z=>[]⟩,⟨?v3_6,fun _ z=>[]⟩,⟨?v4_6,fun _ z=>[]⟩,⟨?v5_6,fun _ z=>[]⟩,⟨?v6_6,fun _ z=>[]⟩,⟨?v7_6,fun _ z=>[]⟩,⟨?v8_6,fun _ z=>[]⟩,⟨?v9_6,fun _ z=>[]⟩,⟨?v10_6,fun _ z=>[]⟩,⟨?v11_6,fun _ z=>[]⟩,⟨?v12_6,fun _ z=>[]⟩,⟨fun _ _=>Value.bool false,fun _ z=>[]⟩] [[],[],[1],[2],[],[4],[5],[],[3,6,7],[8],[9],[9],[0],[10,12]] [11] kR kR kR kR ?loc_6 ?hz_6 ?ops_6 ?rest_6
 case hz_6=>intro c;rfl
 case ops_6 =>
  simp only [AllX,Nat.reduceAdd,and_true]
  refine ⟨?_,?_,?_,?_,?_,?_,?_,?_,?_,?_,?_,?_,?_,?_⟩
  all_goals (intro D c z0 Φr Lr K hDi hAnc hDn hK;dsimp only [dstOf,dstX,putX,kval,kfac,ancE,ancX,ancF,getD_z,getD_s,List.getElem?_cons_zero,List.getElem?_cons_succ,List.getElem?_nil,Option.getD_some,Option.getD_none,List.nil_append,List.cons_append,Option.getD] at hK ⊢)
  iterate 8 ((first|refine stp ?_|refine stf ?_);exact hK z0)
  ·(first|refine o_sub64 rfl rfl rfl rfl rfl rfl oM oM oM ?_|refine o_sub64 (c:=0) rfl rfl rfl rfl rfl rfl oM oM oM ?_);exact hK z0
  iterate 4 (refine stp ?_;exact hK z0)
  ·simp only [updD,hDi,Nat.reduceEqDiff,↓reduceIte,cond_false,cond_true] at hK ⊢;refine stp ?_;exact hK z0
 case loc_6 =>
  simp only [AllL,Nat.reduceAdd,and_true]
  refine ⟨?_,?_,?_,?_,?_,?_,?_,?_,?_,?_,?_,?_,?_,?_⟩
  all_goals exact fun _ _ _ _=>⟨rfl,rfl⟩
 intro c
 dsimp only [dstOf,dstX,putX,kval,kfac,ancE,ancX,ancF,getD_z,getD_s,List.getElem?_cons_zero,List.getElem?_cons_succ,List.getElem?_nil,Option.getD_some,Option.getD_none,List.nil_append,List.cons_append,List.drop_succ_cons,List.drop_zero,Option.getD]
 repeat refine s4 ?_;try intro
 refine W.keep (lC (k:=2) rfl (lC (k:=3) rfl (lC (k:=4) rfl (lC (k:=5) rfl (lC (k:=6) rfl (lC (k:=7) rfl lN)))))) ?_
 refine W.drawX 14 (fun D c=>(?bW_7,Ob (bif D 13 then ?cN_7 else ?cO_7) ?tW_7) :: ?rM_7) [⟨?v0_7,fun _ z=>[]⟩,⟨?v1_7,fun _ z=>[]⟩,⟨?v2_7,fun _ z=>[]⟩,⟨?v3_7,fun _ z=>[]⟩,⟨?v4_7,fun _ z=>[]⟩,⟨?v5_7,fun _ z=>[]⟩,⟨?v6_7,fun _ z=>[]⟩,⟨?v7_7,fun _ z=>[]⟩,⟨?v8_7,fun _ z=>[]⟩,⟨?v9_7,fun _ z=>[]⟩,⟨?v10_7,fun _ z=>[]⟩,⟨?v11_7,fun _ z=>[]⟩,⟨?v12_7,fun _ z=>[]⟩,⟨fun _ _=>Value.bool false,fun _ z=>[]⟩] [[],[],[1],[2],[],[4],[5],[],[3,6,7],[8],[9],[9],[0],[10,12]] [11] kR kR kR kR ?loc_7 ?hz_7 ?ops_7 ?rest_7
 case hz_7=>intro c;rfl
 case ops_7 =>
  simp only [AllX,Nat.reduceAdd,and_true]
  refine ⟨?_,?_,?_,?_,?_,?_,?_,?_,?_,?_,?_,?_,?_,?_⟩
  all_goals (intro D c z0 Φr Lr K hDi hAnc hDn hK;dsimp only [dstOf,dstX,putX,kval,kfac,ancE,ancX,ancF,getD_z,getD_s,List.getElem?_cons_zero,List.getElem?_cons_succ,List.getElem?_nil,Option.getD_some,Option.getD_none,List.nil_append,List.cons_append,Option.getD] at hK ⊢)
  iterate 8 ((first|refine stp ?_|refine stf ?_);exact hK z0)
  ·(first|refine o_sub64 rfl rfl rfl rfl rfl rfl oM oM oM ?_|refine o_sub64 (c:=0) rfl rfl rfl rfl rfl rfl oM oM oM ?_);exact hK z0
  iterate 4 (refine stp ?_;exact hK z0)
  ·simp only [updD,hDi,Nat.reduceEqDiff,↓reduceIte,cond_false,cond_true] at hK ⊢;refine stp ?_;exact hK z0
 case loc_7 =>
  simp only [AllL,Nat.reduceAdd,and_true]
  refine ⟨?_,?_,?_,?_,?_,?_,?_,?_,?_,?_,?_,?_,?_,?_⟩
  all_goals exact fun _ _ _ _=>⟨rfl,rfl⟩
 intro c
 dsimp only [dstOf,dstX,putX,kval,kfac,ancE,ancX,ancF,getD_z,getD_s,List.getElem?_cons_zero,List.getElem?_cons_succ,List.getElem?_nil,Option.getD_some,Option.getD_none,List.nil_append,List.cons_append,List.drop_succ_cons,List.drop_zero,Option.getD]
 repeat refine s4 ?_;try intro
 refine W.keep (lC (k:=2) rfl (lC (k:=3) rfl (lC (k:=4) rfl (lC (k:=5) rfl (lC (k:=6) rfl (lC (k:=7) rfl lN)))))) ?_
 refine W.drawX 14 (fun D c=>(?bW_8,Ob (bif D 13 then ?cN_8 else ?cO_8) ?tW_8) :: ?rM_8) [⟨?v0_8,fun _ z=>[]⟩,⟨?v1_8,fun _ z=>[]⟩,⟨?v2_8,fun _ z=>[]⟩,⟨?v3_8,fun _ z=>[]⟩,⟨?v4_8,fun _ z=>[]⟩,⟨?v5_8,fun _ z=>[]⟩,⟨?v6_8,fun _ z=>[]⟩,⟨?v7_8,fun _ z=>[]⟩,⟨?v8_8,fun _ z=>[]⟩,⟨?v9_8,fun _ z=>[]⟩,⟨?v10_8,fun _ z=>[]⟩,⟨?v11_8,fun _ z=>[]⟩,⟨?v12_8,fun _ z=>[]⟩,⟨fun _ _=>Value.bool false,fun _ z=>[]⟩] [[],[],[1],[2],[],[4],[5],[],[3,6,7],[8],[9],[9],[0],[10,12]] [11] kR kR kR kR ?loc_8 ?hz_8 ?ops_8 ?rest_8
 case hz_8=>intro c;rfl
 case ops_8 =>
  simp only [AllX,Nat.reduceAdd,and_true]
  refine ⟨?_,?_,?_,?_,?_,?_,?_,?_,?_,?_,?_,?_,?_,?_⟩
  all_goals (intro D c z0 Φr Lr K hDi hAnc hDn hK;dsimp only [dstOf,dstX,putX,kval,kfac,ancE,ancX,ancF,getD_z,getD_s,List.getElem?_cons_zero,List.getElem?_cons_succ,List.getElem?_nil,Option.getD_some,Option.getD_none,List.nil_append,List.cons_append,Option.getD] at hK ⊢)
  iterate 8 ((first|refine stp ?_|refine stf ?_);exact hK z0)
  ·(first|refine o_sub64 rfl rfl rfl rfl rfl rfl oM oM oM ?_|refine o_sub64 (c:=0) rfl rfl rfl rfl rfl rfl oM oM oM ?_);exact hK z0
  iterate 4 (refine stp ?_;exact hK z0)
  ·simp only [updD,hDi,Nat.reduceEqDiff,↓reduceIte,cond_false,cond_true] at hK ⊢;refine stp ?_;exact hK z0
 case loc_8 =>
  simp only [AllL,Nat.reduceAdd,and_true]
  refine ⟨?_,?_,?_,?_,?_,?_,?_,?_,?_,?_,?_,?_,?_,?_⟩
  all_goals exact fun _ _ _ _=>⟨rfl,rfl⟩
 intro c
 dsimp only [dstOf,dstX,putX,kval,kfac,ancE,ancX,ancF,getD_z,getD_s,List.getElem?_cons_zero,List.getElem?_cons_succ,List.getElem?_nil,Option.getD_some,Option.getD_none,List.nil_append,List.cons_append,List.drop_succ_cons,List.drop_zero,Option.getD]
 repeat refine s4 ?_;try intro
 refine G.ret rfl (.cons (.cellA rfl rfl) .nil) (Φ':=[]) (M':=[]) oY oN ⟨?_,rfl,rfl⟩
 exact Word.v_nat (n:=a.num+(top256-b.num)) (by simp only [Word.num,top256];omega) oM oM oM oM
end Go.Rail
namespace Go.Rail
open Go Go.Proofs Tryz
set_option maxHeartbeats 400000
set_option maxRecDepth 4000
attribute [local irreducible] OpK G W LW wpListIn Exit.then Exit.inBlock Post rounds opRun bodyPostM intOp
theorem u_mask (a:Nat) (ha:a<18446744073709551616):intOp .and .u64 (a:Int) 4294967295=some (.int .u64 ((a%4294967296:Nat):Int)):=by
 have h:=bits_and_u64_nat a 4294967295 ha oM
 have e:a&&&4294967295=a%4294967296:=Nat.and_two_pow_sub_one_eq_mod a 32
 rw [e] at h
 unfold intOp
 exact congrArg (fun v=>some (Value.int .u64 v)) h
theorem u_mul (a b:Nat) (h:a*b<18446744073709551616):intOp .mul .u64 (a:Int) (b:Int)=some (.int .u64 ((a*b:Nat):Int)):=by
 unfold intOp
 refine congrArg (fun v=>some (Value.int .u64 v)) ?_
 rw [← Int.natCast_mul,IntKind.wrap_u64]
 omega
theorem u_mulw (a b:Nat):intOp .mul .u64 (a:Int) (b:Int)=some (.int .u64 ((a*b%18446744073709551616:Nat):Int)):=by
 unfold intOp
 refine congrArg (fun v=>some (Value.int .u64 v)) ?_
 rw [← Int.natCast_mul,IntKind.wrap_u64]
 omega
theorem u_add (a b:Nat) (h:a+b<18446744073709551616):intOp .add .u64 (a:Int) (b:Int)=some (.int .u64 ((a+b:Nat):Int)):=by
 unfold intOp
 refine congrArg (fun v=>some (Value.int .u64 v)) ?_
 rw [← Int.natCast_add,IntKind.wrap_u64]
 omega
theorem u_half (a:Nat):Value.int .u64 ((a:Int).fdiv (2^(min (32:Int).toNat IntKind.u64.bits))) = .int .u64 ((a/4294967296:Nat):Int):=by
 refine congrArg (Value.int .u64) ?_
 have e:(2:Int)^(min (32:Int).toNat IntKind.u64.bits)=4294967296:=by decide
 rw [e,Int.fdiv_eq_ediv_of_nonneg _ oM]
 omega
theorem mul64_spec (x y:Nat) (hx:x<18446744073709551616) (hy:y<18446744073709551616):FnV prog 210 [.int .u64 x,.int .u64 y] [] (.tuple #[.int .u64 ((x*y/18446744073709551616:Nat):Int),.int .u64 ((x*y%18446744073709551616:Nat):Int)]):=by
 obtain ⟨bd,bt,bw,hhi⟩:=Lib.mul64_hi x y hx hy
 have ba:=Lib.half_mul_le (a:=x/4294967296) (b:=y/4294967296) oM oM
 have bb:=Lib.half_mul_le (a:=x/4294967296) (b:=y%4294967296) oM oM
 have bc:=Lib.half_mul_le (a:=x%4294967296) (b:=y/4294967296) oM oM
 refine Fn.enter func210 rfl ntmps210 oI (fun I0 w0 => ?_)
 repeat refine s4 ?_;try intro
 refine o_int rfl rfl rfl rfl (u_mask x hx) ?_
 repeat refine s4 ?_;try intro
 refine o_shr rfl rfl rfl rfl oE (u_half x) ?_
 repeat refine s4 ?_;try intro
 refine o_int rfl rfl rfl rfl (u_mask y hy) ?_
 repeat refine s4 ?_;try intro
 refine o_shr rfl rfl rfl rfl oE (u_half y) ?_
 repeat refine s4 ?_;try intro
 refine o_int rfl rfl rfl rfl (u_mul _ _ oM) ?_
 repeat refine s4 ?_;try intro
 refine o_int rfl rfl rfl rfl (u_mul _ _ oM) ?_
 repeat refine s4 ?_;try intro
 refine o_shr rfl rfl rfl rfl oE (u_half _) ?_
 repeat refine s4 ?_;try intro
 refine o_int rfl rfl rfl rfl (u_add _ _ oM) ?_
 repeat refine s4 ?_;try intro
 refine o_int rfl rfl rfl rfl (u_mask _ oM) ?_
 repeat refine s4 ?_;try intro
 refine o_shr rfl rfl rfl rfl oE (u_half _) ?_
 repeat refine s4 ?_;try intro
 refine o_int rfl rfl rfl rfl (u_mul _ _ oM) ?_
 repeat refine s4 ?_;try intro
 refine o_int rfl rfl rfl rfl (u_add _ _ oM) ?_
 repeat refine s4 ?_;try intro
 refine o_int rfl rfl rfl rfl (u_mul _ _ oM) ?_
 repeat refine s4 ?_;try intro
 refine o_int rfl rfl rfl rfl (u_add _ _ oM) ?_
 repeat refine s4 ?_;try intro
 refine o_shr rfl rfl rfl rfl oE (u_half _) ?_
 repeat refine s4 ?_;try intro
 refine o_int rfl rfl rfl rfl (u_add _ _ oM) ?_
 repeat refine s4 ?_;try intro
 refine o_int rfl rfl rfl rfl (u_mulw x y) ?_
 repeat refine s4 ?_;try intro
 refine G.ret rfl (.cons (.tmp rfl) (.cons (.tmp rfl) .nil)) (Φ':=[]) (M':=[]) oY oN ⟨?_,rfl,rfl⟩
 rw [hhi];rfl
end Go.Rail
