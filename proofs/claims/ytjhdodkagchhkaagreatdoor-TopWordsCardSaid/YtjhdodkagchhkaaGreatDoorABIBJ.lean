/- Bytes turned about; words out of bytes, as the program has them. -/
import Derived.Test.YtjhdodkagchhkaaGreatDoorRailA
import Derived.Test.YtjhdodkagchhkaaGreatDoorRailI
import Derived.Test.YtjhdodkagchhkaaGreatDoorABDBH
import Derived.Test.YtjhdodkagchhkaaGreatDoorAEq
import Derived.Test.YtjhdodkagchhkaaGreatDoorRailH
set_option linter.unusedSimpArgs false
set_option linter.unusedVariables false
namespace Go.Rail
open Go Go.Proofs Tryz
set_option maxHeartbeats 400000
set_option maxRecDepth 4000
attribute [local irreducible] OpK G W LW wpListIn Exit.then Exit.inBlock Post rounds opRun bodyPostM intOp
set_option maxHeartbeats 4000000
theorem clone8_spec (v:Value) (xs:List UInt8) (hx:xs.length≤1000000):Fn prog 318 [v] [fRp v xs] [] (ROwn 5 xs):=by
 refine Fn.enter func318 rfl ntmps318 oI (fun I0 w0 => ?_)
 refine W.bare (G.sliceN v xs ?_)
 intro a cap hv hc hnil
 subst hv
 cases a with
 | none =>
  have hx0:=hnil rfl
  subst hx0
  repeat refine sq ?_;try intro
  refine o_eqNil rfl rfl rfl rfl rfl ?_
  repeat refine sq ?_;try intro
  exact G.ret rfl (.cons (.tmp rfl) .nil) oY oN ⟨none,⟨rfl,rfl⟩,rfl,rfl⟩
 | some ad =>
  repeat refine sq ?_;try intro
  refine o_eqNil rfl rfl rfl rfl rfl ?_
  repeat refine sq ?_;try intro
  refine o_litM (xs:=xs.take 0) ⟨by simp,rfl,by decide⟩ rfl rfl rfl RpL.nil rfl ?_
  intro b cs hcs
  repeat refine sq ?_;try intro
  refine o_app2 (Mr:=[]) (some (b,cs)) (xs:=xs.take 0) (ys:=xs) ⟨0,rfl,by simpa using hcs,by simp⟩ ⟨by simp;omega,by simp;omega,rfl⟩ rfl rfl rfl rfl (show Ent' _ (fRow cs (xs.take 0)) from oY) oY oP ?_
  intro v' o' hown'
  rw [show xs.take 0++xs=xs from rfl] at hown' ⊢
  repeat refine sq ?_;try intro
  exact G.ret rfl (.cons (.tmp rfl) .nil) oY oZ ⟨o',hown',rfl,rfl⟩
structure RevSt8 where
 i:Nat
 cs:List Value
 ys:List UInt8
def RevAt8 (xs ys:List UInt8) (i:Nat):Prop:=ys.length=xs.length ∧ ∀ k,k<xs.length→ys[k]? = if k<i∨xs.length-i≤k then xs[xs.length-1-k]? else xs[k]?
theorem RevAt8.step {xs ys:List UInt8} {i:Nat} (h:RevAt8 xs ys i) (hi:2*i+1<xs.length) (h1:i<ys.length) (h2:xs.length-1-i<ys.length):RevAt8 xs ((ys.set i ys[xs.length-1-i]).set (xs.length-1-i) ys[i]) (i+1):=by
 obtain ⟨hl,h⟩:=h
 refine ⟨by simp [hl],fun k hk => ?_⟩
 have e1:=h i oM
 have e2:=h (xs.length-1-i) oM
 rw [if_neg oM,List.getElem?_eq_getElem h1] at e1
 rw [if_neg oM,List.getElem?_eq_getElem h2] at e2
 by_cases a:k=xs.length-1-i
 ·subst a
  rw [List.getElem?_set_self oX,if_pos oM,e1]
  congr 1;omega
 ·rw [List.getElem?_set_ne (Ne.symm a)]
  by_cases c:k=i
  ·subst c
   rw [List.getElem?_set_self h1,if_pos oM,e2]
  ·rw [List.getElem?_set_ne (Ne.symm c),h k hk]
   by_cases q:k<i∨xs.length-i≤k
   ·rw [if_pos q,if_pos oM]
   ·rw [if_neg q,if_neg oM]
theorem RevAt8.done {xs ys:List UInt8} {i:Nat} (h:RevAt8 xs ys i) (hi:xs.length≤2*i+1) (hi2:i≤xs.length):ys=xs.reverse:=by
 obtain ⟨hl,h⟩:=h
 apply List.ext_getElem?
 intro k
 by_cases hk:k<xs.length
 ·rw [h k hk,List.getElem?_reverse hk]
  by_cases q:k<i∨xs.length-i≤k
  ·rw [if_pos q]
  ·rw [if_neg q];congr 1;omega
 ·rw [List.getElem?_eq_none oM,List.getElem?_eq_none oX]
theorem reverse8_spec (v:Value) (xs:List UInt8) (o:OR) (hx:xs.length≤1000000) (ho:IsOwn 1 v xs.length o):Fn prog 319 [v] [fRow (ocells o) xs] (ownM 5 o) (RIn 5 v xs.reverse):=by
 cases o with
 | none =>
  obtain ⟨rfl,hx0⟩:=ho
  have hxs:xs=[]:=List.length_eq_zero_iff.1 hx0
  subst hxs
  refine Fn.enter func319 rfl ntmps319 oI (fun I0 w0 => ?_)
  repeat refine sq ?_;try intro
  refine W.loopN 1 ?_
  repeat refine sq ?_;try intro
  exact G.fin rfl .nil (Φ':=[fRow [] ([]:List UInt8)]) oY oN ⟨none,⟨rfl,rfl⟩,rfl,rfl⟩
 | some q =>
  obtain ⟨b,cs0⟩:=q
  obtain ⟨cap,rfl,hcs0,hcap⟩:=ho
  refine Fn.enter func319 rfl ntmps319 oI (fun I0 w0 => ?_)
  repeat refine sq ?_;try intro
  refine W.loopI (fun (s:RevSt8)=>([fRow s.cs s.ys],[(0,.slice (some ⟨b,0,none⟩) xs.length cap),(2,.int .i64 s.i),(3,.int .i64 ((xs.length:Int)-1-s.i))],[(b,Ob s.cs 5)])) (fun s=>s.i≤xs.length∧s.cs.length=cs0.length∧RevAt8 xs s.ys s.i) (fun s=>xs.length-s.i) ⟨0,cs0,xs⟩ ⟨by simp,rfl,rfl,fun k hk=>by rw [if_neg (by dsimp only;omega)]⟩ ⟨fun I hp φ hφ => ?_⟩ (lC rfl (lC rfl (lC ?_ lN))) oZ ?_
  ·rcases List.mem_cons.1 hφ with rfl|h
   ·exact hp _ (.head _)
   ·cases h
  ·exact congrArg (fun n=>some (Value.int .i64 n)) (by dsimp only;omega)
  rintro ⟨i,cs,ys⟩ ⟨hi,hcs,hr⟩
  dsimp only at hi hcs hr ⊢
  have hl:=hr.1
  by_cases hd:xs.length≤2*i+1
  ·repeat refine sq ?_;try intro
   have e:=hr.done hd hi
   subst e
   exact G.fin rfl .nil (Φ':=[fRow cs xs.reverse]) oY oZ ⟨some (b,cs),⟨cap,by simp,by rw [hcs];exact hcs0,by simpa using hcap⟩,rfl,rfl⟩
  ·have h1:i<ys.length:=by omega
   have h2:xs.length-1-i<ys.length:=by omega
   repeat refine sq ?_;try intro
   refine W.drawX 16 (fun D c=>[(b,Ob (bif D 15 then cellsL (c 15) else bif D 13 then cellsL (c 13) else cs) 5)]) [⟨?v0_1,fun _ z=>[]⟩,⟨?v1_1,fun _ z=>[]⟩,⟨?v2_1,fun _ z=>[]⟩,⟨?v3_1,fun _ z=>[]⟩,⟨?v4_1,fun _ z=>[]⟩,⟨?v5_1,fun _ z=>[]⟩,⟨?v6_1,fun _ z=>[]⟩,⟨?v7_1,fun _ z=>[]⟩,⟨?v8_1,fun _ z=>[]⟩,⟨?v9_1,fun _ z=>[]⟩,⟨?v10_1,fun _ z=>[]⟩,⟨?v11_1,fun _ z=>[]⟩,⟨?v12_1,fun _ z=>[]⟩,⟨fun _ z=>z,fun _ z=>[fPure ((cellsL z).length=cs.length),fRow (cellsL z) (ys.set i ys[xs.length-1-i])]⟩,⟨?v14_1,fun _ z=>[]⟩,⟨fun _ z=>z,fun _ z=>[fPure ((cellsL z).length=cs.length),fRow (cellsL z) ((ys.set i ys[xs.length-1-i]).set (xs.length-1-i) ys[i])]⟩] [[],[],[],[],[],[],[4,5],[6],[],[],[8,9],[10],[0,1],[7,12],[2,3],[11,13,14]] [15] kR kR kR kR ?loc_1 ?hz_1 ?ops_1 ?rest_1
   case ops_1 =>
    simp only [AllX,Nat.reduceAdd,and_true]
    refine ⟨?_,?_,?_,?_,?_,?_,?_,?_,?_,?_,?_,?_,?_,?_,?_,?_⟩
    all_goals (intro D c z0 Φr Lr K hDi hAnc hDn hK;dsimp only [dstOf,dstX,putX,kval,kfac,ancE,ancX,ancF,getD_z,getD_s,List.getElem?_cons_zero,List.getElem?_cons_succ,List.getElem?_nil,Option.getD_some,Option.getD_none,List.nil_append,List.cons_append,Option.getD] at hK ⊢)
    iterate 6 (refine stp ?_;exact hK z0)
    ·refine o_idxO rfl rfl rfl rfl oM oM (o':=xs.length-1-i) oM ?_;exact hK z0
    ·have h13:D 13=false:=dnF hDn hDi kR;have h15:D 15=false:=dnF hDn hDi kR;simp only [updD,h13,h15,Nat.reduceEqDiff,↓reduceIte,cond_false] at hK ⊢;refine o_loadO (α:=UInt8) (xs:=ys) (xs.length-1-i) h2 rfl rfl rfl rfl (Nat.mul_one _).symm ?_;exact hK z0
    ·refine stp ?_;exact hK z0
    ·refine stp ?_;exact hK z0
    ·refine o_idxO rfl rfl rfl rfl oM oM (o':=i) oM ?_;exact hK z0
    ·have h13:D 13=false:=dnF hDn hDi kR;have h15:D 15=false:=dnF hDn hDi kR;simp only [updD,h13,h15,Nat.reduceEqDiff,↓reduceIte,cond_false] at hK ⊢;refine o_loadO (α:=UInt8) (xs:=ys) i h1 rfl rfl rfl rfl (Nat.mul_one _).symm ?_;exact hK z0
    ·refine o_idxO rfl rfl rfl rfl oM oM (o':=i) oM ?_;exact hK z0
    ·have h15:D 15=false:=dnF hDn hDi kR;simp only [updD,updC,hDi,h15,Nat.reduceEqDiff,↓reduceIte,cond_false,cond_true] at hK ⊢;refine o_storeO (α:=UInt8) ys[xs.length-1-i] i h1 rfl rfl rfl ⟨fun _ _=>Rp.flat.2 rfl⟩ (Nat.mul_one _).symm ?_;intro cs1 hc1;refine G.learn (fPure ((cellsL (.agg cs1.toArray)).length=cs.length)) (e:=⟨fun _ _=>hc1⟩) ?_;exact hK (.agg cs1.toArray)
    ·refine o_idxO rfl rfl rfl rfl oM oM (o':=xs.length-1-i) oM ?_;exact hK z0
    ·have h13:D 13=true:=hAnc 13 kR;simp only [updD,updC,hDi,h13,Nat.reduceEqDiff,↓reduceIte,cond_false,cond_true] at hK ⊢;refine OpK.bare (G.use (p:=(cellsL (c 13)).length=cs.length) (fun I hp=>hp (fPure _) (by first|exact .head _|exact .tail _ (.head _)|exact .tail _ (.tail _ (.head _)))) ?_);intro hc13;refine OpK.back ?_;refine o_storeO (α:=UInt8) (xs:=ys.set i ys[xs.length-1-i]) ys[i] (xs.length-1-i) oX rfl rfl rfl ⟨fun _ _=>Rp.flat.2 rfl⟩ (Nat.mul_one _).symm ?_;intro cs1 hc1;refine G.learn (fPure ((cellsL (.agg cs1.toArray)).length=cs.length)) (e:=⟨fun _ _=>hc1.trans hc13⟩) ?_;exact hK (.agg cs1.toArray)
   case hz_1=>intro c;rfl
   case loc_1 =>
    simp only [AllL,Nat.reduceAdd,and_true]
    refine ⟨?_,?_,?_,?_,?_,?_,?_,?_,?_,?_,?_,?_,?_,?_,?_,?_⟩
    all_goals (intro c c' z h;first|exact ⟨rfl,rfl⟩|(skip))
   intro c
   dsimp only [dstOf,dstX,putX,kval,kfac,ancE,ancX,ancF,getD_z,getD_s,List.getElem?_cons_zero,List.getElem?_cons_succ,List.getElem?_nil,Option.getD_some,Option.getD_none,List.nil_append,List.cons_append,List.drop_succ_cons,List.drop_zero,Option.getD]
   refine LW.bare (G.use (p:=(cellsL (c 15)).length=cs.length) (fun I hp=>hp (fPure _) (.head _)) ?_)
   intro hc15
   repeat refine sq ?_;try intro
   refine G.again (S:=RevSt8) ⟨i+1,cellsL (c 15),(ys.set i ys[xs.length-1-i]).set (xs.length-1-i) ys[i]⟩ (by dsimp only;omega) ⟨by dsimp only;omega,by dsimp only;omega,hr.step oM h1 h2⟩ oY (lC rfl (lC rfl (lC ?_ lN))) oZ
   exact congrArg (fun n=>some (Value.int .i64 n)) (by dsimp only;omega)

theorem reversed8_spec (v:Value) (xs:List UInt8) (hx:xs.length≤1000000):FnD prog 262 [v] [fRp v xs] (fun u=>[fRp u xs.reverse]):=by
 refine Fn.enter func262 rfl ntmps262 oI (fun I0 w0 => ?_)
 repeat refine sq ?_;try intro
 refine o_callO rfl rfl rfl rfl (clone8_spec v xs hx) ?_
 intro u o ho
 repeat refine sq ?_;try intro
 refine o_callI (Mr:=[]) o rfl rfl rfl rfl (reverse8_spec u xs o hx ho) oP ?_
 intro r o' ho'
 repeat refine sq ?_;try intro
 refine G.giveOwn2 (Mr:=[]) u xs.reverse o' 5 ho' oY oP ?_
 exact G.ret rfl (.cons (.tmp rfl) .nil) (Φ':=[fRp u xs.reverse]) (M':=[]) oY oN ⟨rfl,rfl⟩

theorem last8_spec (v:Value) (xs:List UInt8) (hx:xs.length≤1000000):FnD prog 263 [v,.int .i64 32] [fRp v xs] (fun u=>[fRp u (xs.drop (xs.length-32))]):=by
 refine Fn.enter func263 rfl ntmps263 oI (fun I0 w0 => ?_)
 refine W.bare (G.slice v xs ?_);intro ad cap e1 k1;subst e1
 refine G.code ?_
 repeat refine sq ?_;try intro
 refine o_slice (xs.length-32) xs.length rfl rfl rfl ⟨_,_,rfl,by split<;>omega⟩ bd0 oM (Nat.le_refl _) ?_
 intro u
 rw [List.take_length]
 repeat refine sq ?_;try intro
 exact G.retD rfl rfl
end Go.Rail
namespace Go.Rail
open Go Go.Proofs
set_option maxHeartbeats 400000
set_option maxRecDepth 4000
attribute [local irreducible] OpK G W LW wpListIn Exit.then Exit.inBlock Post rounds opRun bodyPostM intOp
set_option maxHeartbeats 4000000
def stF (g:Nat→Nat) (s j:Nat):Nat:=sumB 256 (fun k=>g (max s (8*j)+k)) (8*j+8-max s (8*j))
theorem stF_lt {g:Nat→Nat} (hg : ∀ i<32,g i<256) {s j:Nat} (hj:j<4):stF g s j<256^(8*j+8-max s (8*j)):=by
 unfold stF
 refine sumB_lt oE (fun i hi=>hg _ oM)
theorem stF_word (g:Nat→Nat) (hg : ∀ i<32,g i<256) : .agg (cU 4 (stF g 0)).toArray=(Word.nat (sumB 256 g 32)).v:=by
 have h0:=stF_lt hg (s:=0) (j:=0) oE
 have h1:=stF_lt hg (s:=0) (j:=1) oE
 have h2:=stF_lt hg (s:=0) (j:=2) oE
 have h3:=stF_lt hg (s:=0) (j:=3) oE
 have hl:=sumB_lt (b:=256) oE hg
 refine Word.v_nat ?_ h0 h1 h2 h3
 rw [Nat.mod_eq_of_lt (Nat.lt_of_lt_of_eq hl kR),show (32:Nat)=8+24 from rfl,sumB_split,show (24:Nat)=8+16 from rfl,sumB_split,show (16:Nat)=8+8 from rfl,sumB_split]
 simp only [stF,Nat.mul_zero,Nat.max_self,Nat.zero_add,Nat.sub_zero,Nat.mul_one,Nat.zero_max,Nat.reduceMul,Nat.reduceAdd,Nat.reduceSub,Nat.reducePow,Nat.max_eq_right (Nat.zero_le _)]
 simp only [← Nat.add_assoc,Nat.reduceAdd]
 have e:sumB 256 (fun k=>g k) 8=sumB 256 g 8:=rfl
 rw [e]
 omega
end Go.Rail
namespace Go.Rail
open Go Go.Proofs Tryz
set_option maxHeartbeats 400000
set_option maxRecDepth 4000
attribute [local irreducible] OpK G W LW wpListIn Exit.then Exit.inBlock Post rounds opRun bodyPostM intOp
set_option maxHeartbeats 4000000
def byG (l:List UInt8) (k:Nat):Nat:=(l.reverse.getD k 0).toNat
def wordB (l:List UInt8):Word:=Word.nat (sumB 256 (byG l) 32)
theorem byG_lt (l:List UInt8) (k:Nat):byG l k<256:=(l.reverse.getD k 0).toNat_lt
theorem byG_zero (l:List UInt8) (k:Nat) (h:l.length≤k):byG l k=0:=by
 unfold byG
 rw [List.getD_eq_getElem?_getD,List.getElem?_eq_none (by rw [List.length_reverse];exact h)];rfl
def pF (g:Nat→Nat) (i j:Nat):Nat:=sumB 256 (fun k=>g (8*j+k)) (min 8 (i-8*j))
theorem pF_step (g:Nat→Nat) (m:Nat):pF g (m+1)=fun j=>if j=m/8 then pF g m (m/8)+g m*256^(m%8) else pF g m j:=by
 funext j
 by_cases h:j=m/8
 ·subst h
  rw [if_pos rfl]
  unfold pF
  rw [show min 8 (m+1-8*(m/8))=m%8+1 from by omega,show min 8 (m-8*(m/8))=m%8 from by omega,sumB,show 8*(m/8)+m%8=m from by omega]
 ·rw [if_neg h]
  unfold pF
  congr 1
  omega
theorem sumB_nil {b:Nat} {f:Nat→Nat} : ∀ {n:Nat},(∀ i<n,f i=0)→sumB b f n=0
 | 0,_=>rfl
 | n+1,h=>by simp only [sumB];rw [sumB_nil (fun i hi=>h i oM),h n oM];omega
theorem pF_all (g:Nat→Nat) (n:Nat) (hz : ∀ k,n≤k→k<32→g k=0) (j:Nat) (hj:j<4):pF g n j=stF g 0 j:=by
 unfold pF stF
 rw [Nat.zero_max,show 8*j+8-8*j=min 8 (n-8*j)+(8-min 8 (n-8*j)) from by omega,sumB_split,sumB_nil (n:=8-min 8 (n-8*j)) (fun i hi=>hz _ oM oM)]
 omega
theorem pF_lt {g:Nat→Nat} (hg : ∀ i<32,g i<256) {m:Nat} (hm:m<32):pF g m (m/8)<256^(m%8):=by
 unfold pF
 rw [show min 8 (m-8*(m/8))=m%8 from by omega]
 exact sumB_lt oE (fun i hi=>hg _ oM)
theorem or_top (a b k:Nat) (hk:k<8) (ha:a<256^k) (hb:b<256):a|||b*2^(k*8)%18446744073709551616=a+b*256^k:=by
 have e:(2:Nat)^(k*8)=256^k:=by rw [Nat.mul_comm,Nat.pow_mul]
 have h1:(256:Nat)^k≤256^7:=Nat.pow_le_pow_right oE oM
 have h2:b*256^k≤255*256^7:=Nat.mul_le_mul oM h1
 have h3:(255:Nat)*256^7<18446744073709551616:=by decide
 rw [e,Nat.mod_eq_of_lt oM,Nat.or_comm,← e,Nat.mul_comm b]
 rw [← e] at ha
 rw [← Nat.two_pow_add_eq_or_of_lt ha,Nat.add_comm]
theorem cU_congr {n:Nat} {f g:Nat→Nat} (h : ∀ i<n,f i=g i):cU n f=cU n g:=by
 unfold cU
 exact List.map_congr_left fun i hi=>by rw [h i (List.mem_range.1 hi)]
theorem wfb_spec (l:List UInt8) (hl:l.length≤1000000):FnV prog 174 [.string (ba l)] [] (wordB l).v:=by
 refine Fn.enter func174 rfl ntmps174 oI (fun I0 w0 => ?_)
 repeat refine sq ?_;try intro
 refine o_toB rfl rfl rfl ?_
 intro v1
 repeat refine sq ?_;try intro
 refine o_callD rfl rfl rfl rfl (last8_spec _ l hl) ?_
 intro v2
 repeat refine sq ?_;try intro
 refine o_callD rfl rfl rfl rfl (reversed8_spec _ (l.drop (l.length-32)) (by rw [List.length_drop];omega)) ?_
 intro v3
 have htl:(l.drop (l.length-32)).reverse.length≤32:=by rw [List.length_reverse,List.length_drop];omega
 have hte : ∀ k,k<(l.drop (l.length-32)).reverse.length→((l.drop (l.length-32)).reverse.getD k 0).toNat=byG l k:=by
  intro k hk
  unfold byG
  rw [List.length_reverse,List.length_drop] at hk
  rw [List.getD_eq_getElem?_getD,List.getD_eq_getElem?_getD,List.getElem?_reverse (by rw [List.length_drop];exact hk),List.getElem?_drop,List.length_drop,List.getElem?_reverse oM]
  congr 3;omega
 have hz : ∀ k,(l.drop (l.length-32)).reverse.length≤k→k<32→byG l k=0:=fun k h1 h2=>byG_zero l k (by rw [List.length_reverse,List.length_drop] at h1;omega)
 generalize (l.drop (l.length-32)).reverse=t at htl hte hz ⊢
 refine nA ?_
 refine G.slice v3 t ?_;intro ad cap e1 k1;subst e1
 repeat refine sq ?_;try intro
 rename_i b2
 refine W.lp (S:=Nat) (fun i=>([fRp (.slice ad t.length cap) t],[(10,.int .i64 (i:Int)),(9,.int .i64 (t.length:Int)),(8,.slice ad t.length cap),(2,.pointer (some ⟨b2,0,none⟩))],[(b2,Ob (cU 4 (pF (byG l) i)) 24)])) (fun i=>i≤t.length) (fun i=>t.length-i) 0 ?_ (h0:=Nat.zero_le _)
 intro i hi
 dsimp only
 by_cases hie:i=t.length
 ·subst hie
  repeat refine sq ?_;try intro
  refine G.retV ?_
  refine (congrArg (fun q=>Value.agg q.toArray) (cU_congr (g:=stF (byG l) 0) (fun j hj=>pF_all _ _ hz j hj))).trans ?_
  exact stF_word _ (fun i _=>byG_lt l i)
 ·have h1:=pF_lt (g:=byG l) (fun i _=>byG_lt l i) (m:=i) oM
  have h2:=byG_lt l i
  have h3:=or_top (pF (byG l) i (i/8)) (byG l i) (i%8) (Nat.mod_lt _ oE) h1 h2
  have h4:(256:Nat)^(i%8)≤256^7:=Nat.pow_le_pow_right oE oM
  have hg:t[i]? = some (t.getD i 0):=by rw [List.getD_eq_getElem?_getD,List.getElem?_eq_getElem oM];rfl
  have hb:=hte i oM
  generalize t.getD i 0=ch at hg hb
  obtain ⟨hlt,he⟩:=List.getElem?_eq_some_iff.1 hg
  repeat refine sq ?_;try intro
  refine W.drawA 10 [dq _,dq _,dq _,dq _,dq _,dq _,dq _,dq _,dq _,dq _] [[],[0],[1],[2],[],[4],[],[6],[7],[5,8]] [1,3,9] (hrest:=fun c=>nrm ?_) (hops:=by
   iterate 10 refine AllQ.aq ?_
   exact AllQ.nil)
  repeat refine sq ?_;try intro
  have hu:(u64 (ch.toNat:Int)).toNat=byG l i:=by
   have:=u64_toNat (ch.toNat:Int)
   rw [hb] at this ⊢
   omega
  rw [he,hu,h3,← pF_step]
  exact G.ag (i+1)
theorem own_open {n:Nat} {v:Value} {k:Nat} {o:OR} (h:IsOwn n v k o) : ∃ a c,v = .slice a k c:=by
 cases o with
 | none=>obtain ⟨rfl,rfl⟩:=h;exact ⟨_,_,rfl⟩
 | some q=>obtain ⟨b,cs⟩:=q;obtain ⟨cap,rfl,_⟩:=h;exact ⟨_,_,rfl⟩
def opushL (l:List UInt8) (pc n:Int):Word :=
 if n<1∨32<n∨pc<0∨(l.length:Int)≤pc then .zero else wordB ((l.drop (pc.toNat+1)).take n.toNat++List.replicate (n.toNat-((l.drop (pc.toNat+1)).take n.toNat).length) 0)
theorem opush_spec (l:List UInt8) (pc n:Int) (hl:l.length≤1000000):FnV prog 100 [.string (ba l),.int .i64 pc,.int .i64 n] [] (opushL l pc n).v:=by
 unfold opushL
 by_cases h1:n<1
 ·rw [if_pos (.inl h1)]
  refine Fn.enter func100 rfl ntmps100 oI (fun I0 w0 => ?_)
  repeat refine sq ?_;try intro
  refine G.retV ?_
  rfl
 by_cases h2:32<n
 ·rw [if_pos (.inr (.inl h2))]
  refine Fn.enter func100 rfl ntmps100 oI (fun I0 w0 => ?_)
  repeat refine sq ?_;try intro
  refine G.retV ?_
  rfl
 by_cases h3:pc<0
 ·rw [if_pos (.inr (.inr (.inl h3)))]
  refine Fn.enter func100 rfl ntmps100 oI (fun I0 w0 => ?_)
  repeat refine sq ?_;try intro
  refine G.retV ?_
  rfl
 by_cases h4:(l.length:Int)≤pc
 ·rw [if_pos (.inr (.inr (.inr h4)))]
  refine Fn.enter func100 rfl ntmps100 oI (fun I0 w0 => ?_)
  repeat refine sq ?_;try intro
  refine G.retV ?_
  rfl
 rw [if_neg oM]
 obtain ⟨p,rfl⟩ : ∃ p:Nat,pc=(p:Int):=⟨pc.toNat,by omega⟩
 obtain ⟨m,rfl⟩ : ∃ m:Nat,n=(m:Int):=⟨n.toNat,by omega⟩
 rw [Int.toNat_natCast,Int.toNat_natCast]
 have hdl:(l.drop (p+1)).length=l.length-(p+1):=List.length_drop ..
 have htl:((l.drop (p+1)).take m).length=min m (l.length-(p+1)):=by rw [List.length_take,hdl]
 have hrp:=repeat_spec (m-((l.drop (p+1)).take m).length) oM
 have hwf:=wfb_spec ((l.drop (p+1)).take m++List.replicate (m-((l.drop (p+1)).take m).length) 0) (by rw [List.length_append,List.length_replicate];omega)
 refine Fn.enter func100 rfl ntmps100 oI (fun I0 w0 => ?_)
 repeat refine sq ?_;try intro
 have hlen:((l.take l.length).drop (p+1)).length=l.length-(p+1):=by rw [List.take_length,hdl]
 have e:((((l.take l.length).drop (p+1)).take (min m (l.length-(p+1)))).drop 0)=(l.drop (p+1)).take m:=by
  rw [List.take_length,List.drop_zero,List.take_eq_take_iff,hdl];omega
 refine o_slT 0 (min m (l.length-(p+1))) rfl rfl rfl bd0 ⟨_,_,rfl,by rw [hlen];split<;>omega⟩ (Nat.zero_le _) (by rw [hlen];omega) ?_
 rw [e]
 generalize (l.drop (p+1)).take m=t at htl hrp hwf ⊢
 repeat refine sq ?_;try intro
 refine cV hrp ?_
 repeat refine sq ?_;try intro
 refine cV hwf ?_
 repeat refine sq ?_;try intro
 refine G.retV ?_
 rfl
end Go.Rail
