/- The program's order of keys. -/
import Derived.Test.YtjhdodkagchhkaaGreatDoorRailA
import Derived.Test.YtjhdodkagchhkaaGreatDoorRailC
import Derived.Test.YtjhdodkagchhkaaGreatDoorAC2Acc
set_option linter.unusedSimpArgs false
set_option linter.unusedVariables false
namespace Go.Rail
open Go Go.Proofs Tryz
set_option maxHeartbeats 400000
set_option maxRecDepth 4000
attribute [local irreducible] OpK G W LW wpListIn Exit.then Exit.inBlock Post rounds opRun bodyPostM intOp
attribute [local irreducible] lexN cmpW cmpK cmpI
instance:ExtF prog 415 Extern.BytealgCompare.compare:=⟨fun args w=>run_callFunc_extern func415 kR kR kR kR args w⟩
theorem clone64_spec (v:Value) (xs:List UInt64) (hx:xs.length≤1000000):Fn prog 288 [v] [fRp v xs] [] (ROwn 22 xs):=by
 refine Fn.enter func288 rfl ntmps288 oI (fun I0 w0 => ?_)
 refine W.bare (G.sliceN v xs ?_)
 intro a cap hv hc hnil
 subst hv
 cases a with
 | none =>
  have hx0:=hnil rfl
  subst hx0
  repeat refine s4 ?_;try intro
  refine o_eqNil rfl rfl rfl rfl rfl ?_
  repeat refine s4 ?_;try intro
  exact G.ret rfl (.cons (.tmp rfl) .nil) oY oN ⟨none,⟨rfl,rfl⟩,rfl,rfl⟩
 | some ad =>
  repeat refine s4 ?_;try intro
  refine o_eqNil rfl rfl rfl rfl rfl ?_
  repeat refine s4 ?_;try intro
  refine o_litM (xs:=xs.take 0) ⟨by simp,rfl,by decide⟩ rfl rfl rfl RpL.nil rfl ?_
  intro b cs hcs
  repeat refine s4 ?_;try intro
  refine o_app2 (Mr:=[]) (some (b,cs)) (xs:=xs.take 0) (ys:=xs) ⟨0,rfl,by simpa using hcs,by simp⟩ ⟨by simp;omega,by simp;omega,rfl⟩ rfl rfl rfl rfl (show Ent' _ (fRow cs (xs.take 0)) from oY) oY oP ?_
  intro v' o' hown'
  rw [show xs.take 0++xs=xs from rfl] at hown' ⊢
  repeat refine s4 ?_;try intro
  exact G.ret rfl (.cons (.tmp rfl) .nil) oY oZ ⟨o',hown',rfl,rfl⟩
end Go.Rail
namespace Go.Rail
open Go Go.Proofs Tryz
set_option maxHeartbeats 400000
set_option maxRecDepth 4000
attribute [local irreducible] OpK G W LW wpListIn Exit.then Exit.inBlock Post rounds opRun bodyPostM intOp
attribute [local irreducible] lexN cmpW cmpK cmpI
structure RevSt where
 i:Nat
 cs:List Value
 ys:List UInt64
def RevAt (xs ys:List UInt64) (i:Nat):Prop:=ys.length=xs.length ∧ ∀ k,k<xs.length→ys[k]? = if k<i∨xs.length-i≤k then xs[xs.length-1-k]? else xs[k]?
theorem RevAt.step {xs ys:List UInt64} {i:Nat} (h:RevAt xs ys i) (hi:2*i+1<xs.length) (h1:i<ys.length) (h2:xs.length-1-i<ys.length):RevAt xs ((ys.set i ys[xs.length-1-i]).set (xs.length-1-i) ys[i]) (i+1):=by
 obtain ⟨hl,h⟩:=h
 refine ⟨by simp [hl],fun k hk => ?_⟩
 have e1:=h i oM
 have e2:=h (xs.length-1-i) oM
 rw [if_neg oM,List.getElem?_eq_getElem h1] at e1
 rw [if_neg oM,List.getElem?_eq_getElem h2] at e2
 by_cases a:k=xs.length-1-i
 ·subst a
  rw [List.getElem?_set_self oX,if_pos oM,e1]
  congr 1;omega
 ·rw [List.getElem?_set_ne (Ne.symm a)]
  by_cases c:k=i
  ·subst c
   rw [List.getElem?_set_self h1,if_pos oM,e2]
  ·rw [List.getElem?_set_ne (Ne.symm c),h k hk]
   by_cases q:k<i∨xs.length-i≤k
   ·rw [if_pos q,if_pos oM]
   ·rw [if_neg q,if_neg oM]
theorem RevAt.done {xs ys:List UInt64} {i:Nat} (h:RevAt xs ys i) (hi:xs.length≤2*i+1) (hi2:i≤xs.length):ys=xs.reverse:=by
 obtain ⟨hl,h⟩:=h
 apply List.ext_getElem?
 intro k
 by_cases hk:k<xs.length
 ·rw [h k hk,List.getElem?_reverse hk]
  by_cases q:k<i∨xs.length-i≤k
  ·rw [if_pos q]
  ·rw [if_neg q];congr 1;omega
 ·rw [List.getElem?_eq_none oM,List.getElem?_eq_none oX]
theorem reverse_spec (v:Value) (xs:List UInt64) (o:OR) (hx:xs.length≤1000000) (ho:IsOwn 1 v xs.length o):Fn prog 289 [v] [fRow (ocells o) xs] (ownM 22 o) (RIn 22 v xs.reverse):=by
 cases o with
 | none =>
  obtain ⟨rfl,hx0⟩:=ho
  have hxs:xs=[]:=List.length_eq_zero_iff.1 hx0
  subst hxs
  refine Fn.enter func289 rfl ntmps289 oI (fun I0 w0 => ?_)
  repeat refine s4 ?_;try intro
  refine W.loopN 1 ?_
  repeat refine s4 ?_;try intro
  exact G.fin rfl .nil (Φ':=[fRow [] ([]:List UInt64)]) oY oN ⟨none,⟨rfl,rfl⟩,rfl,rfl⟩
 | some q =>
  obtain ⟨b,cs0⟩:=q
  obtain ⟨cap,rfl,hcs0,hcap⟩:=ho
  refine Fn.enter func289 rfl ntmps289 oI (fun I0 w0 => ?_)
  repeat refine s4 ?_;try intro
  refine W.loopI (fun (s:RevSt)=>([fRow s.cs s.ys],[(0,.slice (some ⟨b,0,none⟩) xs.length cap),(2,.int .i64 s.i),(3,.int .i64 ((xs.length:Int)-1-s.i))],[(b,Ob s.cs 22)])) (fun s=>s.i≤xs.length∧s.cs.length=cs0.length∧RevAt xs s.ys s.i) (fun s=>xs.length-s.i) ⟨0,cs0,xs⟩ ⟨by simp,rfl,rfl,fun k hk=>by rw [if_neg (by dsimp only;omega)]⟩ ⟨fun I hp φ hφ => ?_⟩ (lC rfl (lC rfl (lC ?_ lN))) oZ ?_
  ·rcases List.mem_cons.1 hφ with rfl|h
   ·exact hp _ (.head _)
   ·cases h
  ·exact congrArg (fun n=>some (Value.int .i64 n)) (by dsimp only;omega)
  rintro ⟨i,cs,ys⟩ ⟨hi,hcs,hr⟩
  dsimp only at hi hcs hr ⊢
  have hl:=hr.1
  by_cases hd:xs.length≤2*i+1
  ·repeat refine s4 ?_;try intro
   have e:=hr.done hd hi
   subst e
   exact G.fin rfl .nil (Φ':=[fRow cs xs.reverse]) oY oZ ⟨some (b,cs),⟨cap,by simp,by rw [hcs];exact hcs0,by simpa using hcap⟩,rfl,rfl⟩
  ·have h1:i<ys.length:=by omega
   have h2:xs.length-1-i<ys.length:=by omega
   repeat refine s4 ?_;try intro
   refine W.drawX 16 (fun D c=>[(b,Ob (bif D 15 then cellsL (c 15) else bif D 13 then cellsL (c 13) else cs) 22)]) [⟨?v0_1,fun _ z=>[]⟩,⟨?v1_1,fun _ z=>[]⟩,⟨?v2_1,fun _ z=>[]⟩,⟨?v3_1,fun _ z=>[]⟩,⟨?v4_1,fun _ z=>[]⟩,⟨?v5_1,fun _ z=>[]⟩,⟨?v6_1,fun _ z=>[]⟩,⟨?v7_1,fun _ z=>[]⟩,⟨?v8_1,fun _ z=>[]⟩,⟨?v9_1,fun _ z=>[]⟩,⟨?v10_1,fun _ z=>[]⟩,⟨?v11_1,fun _ z=>[]⟩,⟨?v12_1,fun _ z=>[]⟩,⟨fun _ z=>z,fun _ z=>[fPure ((cellsL z).length=cs.length),fRow (cellsL z) (ys.set i ys[xs.length-1-i])]⟩,⟨?v14_1,fun _ z=>[]⟩,⟨fun _ z=>z,fun _ z=>[fPure ((cellsL z).length=cs.length),fRow (cellsL z) ((ys.set i ys[xs.length-1-i]).set (xs.length-1-i) ys[i])]⟩] [[],[],[],[],[],[],[4,5],[6],[],[],[8,9],[10],[0,1],[7,12],[2,3],[11,13,14]] [15] kR kR kR kR ?loc_1 ?hz_1 ?ops_1 ?rest_1
   case ops_1 =>
    simp only [AllX,Nat.reduceAdd,and_true]
    refine ⟨?_,?_,?_,?_,?_,?_,?_,?_,?_,?_,?_,?_,?_,?_,?_,?_⟩
    all_goals (intro D c z0 Φr Lr K hDi hAnc hDn hK;dsimp only [dstOf,dstX,putX,kval,kfac,ancE,ancX,ancF,getD_z,getD_s,List.getElem?_cons_zero,List.getElem?_cons_succ,List.getElem?_nil,Option.getD_some,Option.getD_none,List.nil_append,List.cons_append,Option.getD] at hK ⊢)
    iterate 6 (refine stp ?_;exact hK z0)
    ·refine o_idxO rfl rfl rfl rfl oM oM (o':=xs.length-1-i) oM ?_;exact hK z0
    ·have h13:D 13=false:=dnF hDn hDi kR;have h15:D 15=false:=dnF hDn hDi kR;simp only [updD,h13,h15,Nat.reduceEqDiff,↓reduceIte,cond_false] at hK ⊢;refine o_loadO (α:=UInt64) (xs:=ys) (xs.length-1-i) h2 rfl rfl rfl rfl (Nat.mul_one _).symm ?_;exact hK z0
    ·refine stp ?_;exact hK z0
    ·refine stp ?_;exact hK z0
    ·refine o_idxO rfl rfl rfl rfl oM oM (o':=i) oM ?_;exact hK z0
    ·have h13:D 13=false:=dnF hDn hDi kR;have h15:D 15=false:=dnF hDn hDi kR;simp only [updD,h13,h15,Nat.reduceEqDiff,↓reduceIte,cond_false] at hK ⊢;refine o_loadO (α:=UInt64) (xs:=ys) i h1 rfl rfl rfl rfl (Nat.mul_one _).symm ?_;exact hK z0
    ·refine o_idxO rfl rfl rfl rfl oM oM (o':=i) oM ?_;exact hK z0
    ·have h15:D 15=false:=dnF hDn hDi kR;simp only [updD,updC,hDi,h15,Nat.reduceEqDiff,↓reduceIte,cond_false,cond_true] at hK ⊢;refine o_storeO (α:=UInt64) ys[xs.length-1-i] i h1 rfl rfl rfl ⟨fun _ _=>Rp.flat.2 rfl⟩ (Nat.mul_one _).symm ?_;intro cs1 hc1;refine G.learn (fPure ((cellsL (.agg cs1.toArray)).length=cs.length)) (e:=⟨fun _ _=>hc1⟩) ?_;exact hK (.agg cs1.toArray)
    ·refine o_idxO rfl rfl rfl rfl oM oM (o':=xs.length-1-i) oM ?_;exact hK z0
    ·have h13:D 13=true:=hAnc 13 kR;simp only [updD,updC,hDi,h13,Nat.reduceEqDiff,↓reduceIte,cond_false,cond_true] at hK ⊢;refine OpK.bare (G.use (p:=(cellsL (c 13)).length=cs.length) (fun I hp=>hp (fPure _) (by first|exact .head _|exact .tail _ (.head _)|exact .tail _ (.tail _ (.head _)))) ?_);intro hc13;refine OpK.back ?_;refine o_storeO (α:=UInt64) (xs:=ys.set i ys[xs.length-1-i]) ys[i] (xs.length-1-i) oX rfl rfl rfl ⟨fun _ _=>Rp.flat.2 rfl⟩ (Nat.mul_one _).symm ?_;intro cs1 hc1;refine G.learn (fPure ((cellsL (.agg cs1.toArray)).length=cs.length)) (e:=⟨fun _ _=>hc1.trans hc13⟩) ?_;exact hK (.agg cs1.toArray)
   case hz_1=>intro c;rfl
   case loc_1 =>
    simp only [AllL,Nat.reduceAdd,and_true]
    refine ⟨?_,?_,?_,?_,?_,?_,?_,?_,?_,?_,?_,?_,?_,?_,?_,?_⟩
    all_goals (intro c c' z h;first|exact ⟨rfl,rfl⟩|(skip))
   intro c
   dsimp only [dstOf,dstX,putX,kval,kfac,ancE,ancX,ancF,getD_z,getD_s,List.getElem?_cons_zero,List.getElem?_cons_succ,List.getElem?_nil,Option.getD_some,Option.getD_none,List.nil_append,List.cons_append,List.drop_succ_cons,List.drop_zero,Option.getD]
   refine LW.bare (G.use (p:=(cellsL (c 15)).length=cs.length) (fun I hp=>hp (fPure _) (.head _)) ?_)
   intro hc15
   repeat refine s4 ?_;try intro
   refine G.again (S:=RevSt) ⟨i+1,cellsL (c 15),(ys.set i ys[xs.length-1-i]).set (xs.length-1-i) ys[i]⟩ (by dsimp only;omega) ⟨by dsimp only;omega,by dsimp only;omega,hr.step oM h1 h2⟩ oY (lC rfl (lC rfl (lC ?_ lN))) oZ
   exact congrArg (fun n=>some (Value.int .i64 n)) (by dsimp only;omega)

theorem reversed_spec (v:Value) (xs:List UInt64) (hx:xs.length≤1000000):FnD prog 218 [v] [fRp v xs] (fun u=>[fRp u xs.reverse]):=by
 refine Fn.enter func218 rfl ntmps218 oI (fun I0 w0 => ?_)
 repeat refine s4 ?_;try intro
 refine o_callO rfl rfl rfl rfl (clone64_spec v xs hx) ?_
 intro u o ho
 repeat refine s4 ?_;try intro
 refine o_callI (Mr:=[]) o rfl rfl rfl rfl (reverse_spec u xs o hx ho) oP ?_
 intro r o' ho'
 repeat refine s4 ?_;try intro
 refine G.giveOwn2 (Mr:=[]) u xs.reverse o' 22 ho' oY oP ?_
 exact G.ret rfl (.cons (.tmp rfl) .nil) (Φ':=[fRp u xs.reverse]) (M':=[]) oY oN ⟨rfl,rfl⟩
theorem lexN_drop {xs ys:List UInt64} {i:Nat} (h1:i<xs.length) (h2:i<ys.length):lexN ((xs.drop i).map UInt64.toNat) ((ys.drop i).map UInt64.toNat)=if cmpI (xs[i].toNat:Int) (ys[i].toNat:Int)=0 then lexN ((xs.drop (i+1)).map UInt64.toNat) ((ys.drop (i+1)).map UInt64.toNat) else cmpI (xs[i].toNat:Int) (ys[i].toNat:Int):=by
 rw [List.drop_eq_getElem_cons h1,List.drop_eq_getElem_cons h2,List.map_cons,List.map_cons,lexN]
 unfold cmpI
 by_cases a:xs[i].toNat<ys[i].toNat
 ·have a':(xs[i].toNat:Int)<ys[i].toNat:=by omega
  rw [if_pos a,if_pos a'];simp
 ·have a' : ¬ (xs[i].toNat:Int)<ys[i].toNat:=by omega
  rw [if_neg a,if_neg a']
  by_cases b:ys[i].toNat<xs[i].toNat
  ·have b':(ys[i].toNat:Int)<xs[i].toNat:=by omega
   rw [if_pos b,if_pos b'];simp
  ·have b' : ¬ (ys[i].toNat:Int)<xs[i].toNat:=by omega
   rw [if_neg b,if_neg b'];simp
theorem compareFunc_spec (v u:Value) (xs ys:List UInt64) (hx:xs.length≤1000000) (hl:xs.length=ys.length):FnV prog 217 [v,u,.func (.func 219) #[] #[]] [fRp v xs,fRp u ys] (.int .i64 (lexN (xs.map UInt64.toNat) (ys.map UInt64.toNat))):=by
 refine Fn.enter func217 rfl ntmps217 oI (fun I0 w0 => ?_)
 repeat refine s4 ?_;try intro
 refine W.loopI (fun (i:Nat)=>([fRp v xs,fRp u ys],[(0,v),(1,u),(2,.func (.func 219) #[] #[]),(11,v),(12,.int .i64 xs.length),(13,.int .i64 i)],[])) (fun i=>i≤xs.length∧lexN ((xs.drop i).map UInt64.toNat) ((ys.drop i).map UInt64.toNat)=lexN (xs.map UInt64.toNat) (ys.map UInt64.toNat)) (fun i=>xs.length-i) 0 ⟨by omega,by simp⟩ oY (lC rfl (lC rfl (lC rfl (lC rfl (lC rfl (lC rfl lN)))))) oZ ?_
 intro i ⟨hi,hm⟩
 dsimp only
 by_cases hi0:i=xs.length
 ·subst hi0
  rw [List.drop_length,hl,List.drop_length] at hm
  repeat refine s4 ?_;try intro
  refine G.ret rfl (.cons (.tmp rfl) .nil) (Φ':=[]) (M':=[]) oY oN ⟨?_,rfl,rfl⟩
  rw [← hm];unfold lexN;rfl
 ·have hi1:i<xs.length:=by omega
  have hi2:i<ys.length:=by omega
  rw [lexN_drop hi1 hi2] at hm
  repeat refine s4 ?_;try intro
  refine cV (compare64_spec _ _) ?_
  by_cases h0:cmpI (xs[i].toNat:Int) (ys[i].toNat:Int)=0
  ·rw [if_pos h0] at hm
   repeat refine s4 ?_;try intro
   refine G.again (i+1) oM ⟨by omega,hm⟩ oY (lC rfl (lC rfl (lC rfl (lC rfl (lC rfl (lC rfl lN)))))) oZ
  ·rw [if_neg h0] at hm
   repeat refine s4 ?_;try intro
   refine G.ret rfl (.cons (.tmp rfl) .nil) (Φ':=[]) (M':=[]) oY oN ⟨?_,rfl,rfl⟩
   rw [← hm];rfl

theorem wcmp_spec (x y:Word):FnV prog 118 [x.v,y.v] [] (.int .i64 (cmpW x y)):=by
 refine Fn.enter func118 rfl ntmps118 oI (fun I0 w0 => ?_)
 repeat refine s4 ?_;try intro
 rename_i b2 b3
 refine W.bare (G.give b2 (G.give b3 ?_))
 refine G.row b2 0 4 4 x.parts rfl oM rfl (Nat.le_of_ble_eq_true rfl) (fun _=>rfl) ?_
 refine G.row b3 0 4 4 y.parts rfl oM rfl (Nat.le_of_ble_eq_true rfl) (fun _=>rfl) ?_
 refine G.code ?_
 refine W.draw 5 [⟨?v0_2,fun _ z=>[]⟩,⟨fun _ z=>z,fun _ z=>[fRp z x.parts.reverse]⟩,⟨?v2_2,fun _ z=>[]⟩,⟨fun _ z=>z,fun _ z=>[fRp z y.parts.reverse]⟩,⟨?v4_2,fun _ z=>[]⟩] [[],[0],[],[2],[1,3]] [4] kR kR kR kR ?loc_2 ?ops_2 ?rest_2
 case ops_2 =>
  simp only [AllQ,Nat.reduceAdd,and_true]
  refine ⟨?_,?_,?_,?_,?_⟩
  all_goals (intro c z0 Φr Lr K hK;dsimp only [dstOf,kval,kfac,ancE,ancF,getD_z,getD_s,List.getElem?_cons_zero,List.getElem?_cons_succ,List.getElem?_nil,Option.getD_some,Option.getD_none,List.nil_append,List.cons_append,Option.getD] at hK ⊢)
  ·refine o_sliceA rfl rfl rfl ?_;exact hK z0
  ·refine o_callD rfl rfl rfl rfl (reversed_spec _ x.parts (by simp [Word.parts])) ?_;intro p;exact hK _
  ·refine o_sliceA rfl rfl rfl ?_;exact hK z0
  ·refine o_callD rfl rfl rfl rfl (reversed_spec _ y.parts (by simp [Word.parts])) ?_;intro p;exact hK _
  ·refine cV (compareFunc_spec _ _ x.parts.reverse y.parts.reverse (by simp [Word.parts]) (by simp [Word.parts])) ?_;exact hK z0
 case loc_2 =>
  simp only [AllL,Nat.reduceAdd,and_true]
  refine ⟨?_,?_,?_,?_,?_⟩
  all_goals (intro c c' z h;first|exact ⟨rfl,rfl⟩|(skip))
 intro c
 dsimp only [dstOf,kval,kfac,ancE,ancF,getD_z,getD_s,List.getElem?_cons_zero,List.getElem?_cons_succ,List.getElem?_nil,Option.getD_some,Option.getD_none,List.nil_append,List.cons_append,List.drop_succ_cons,List.drop_zero,Option.getD]
 repeat refine s4 ?_;try intro
 refine G.ret rfl (.cons (.tmp rfl) .nil) (Φ':=[]) (M':=[]) oY oN ⟨?_,rfl,rfl⟩
 unfold cmpW
 rfl
end Go.Rail
