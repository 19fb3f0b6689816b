/- keccak: turn, chi, Permute. -/
import Derived.Test.YtpbbjkbackiljaaGreatDoorRailA
import Derived.Test.YtpbbjkbackiljaaGreatDoorRailI
import Derived.Test.YtpbbjkbackiljaaGreatDoorAD2K1
import Derived.Test.YtpbbjkbackiljaaGreatDoorRailJ
set_option linter.unusedSimpArgs false
set_option linter.unusedVariables false
namespace Go.Rail
open Go Go.Proofs Tryz
set_option maxHeartbeats 400000
set_option maxRecDepth 4000
attribute [local irreducible] OpK G W LW wpListIn Exit.then Exit.inBlock Post rounds opRun bodyPostM intOp
set_option maxHeartbeats 2000000
def xyT:Nat→Nat × Nat
 | 0=>(1,0)
 | t+1=>((xyT t).2,(2*(xyT t).1+3*(xyT t).2)%5)
theorem xyT_lt : ∀ t,(xyT t).1<5∧(xyT t).2<5
 | 0=>by decide
 | t+1=>⟨(xyT_lt t).2,Nat.mod_lt _ oE⟩
def tuL (a:Nat→Nat):Nat→Nat→Nat
 | 0=>fun k=>if k=0 then a 0 else 0
 | t+1=>fun k=>if k=5*((xyT (t+1)).2%5)+(xyT t).2%5 then rotN (a (5*((xyT t).2%5)+(xyT t).1%5)) ((t+1)*(t+2)/2) else tuL a t k
theorem tuL_lt (a:Nat→Nat) (ha : ∀ k,a k<18446744073709551616) : ∀ i k,tuL a i k<18446744073709551616
 | 0,k=>by
  unfold tuL
  split
  ·exact ha 0
  ·decide
 | i+1,k=>by
  unfold tuL
  split
  ·exact rotN_lt _ _ (ha _)
  ·exact tuL_lt a ha i k
theorem rot_ok : ∀ t<24,0<(t+1)*(t+2)/2%64∧(t+1)*(t+2)/2≤1000:=of_decide_eq_true kR
theorem turn_spec (a:Nat→Nat) (ha : ∀ k,a k<18446744073709551616):FnV prog 316 [.agg (cU 25 a).toArray] [] (.agg (cU 25 (tuL a 24)).toArray):=by
 refine Fn.enter func316 rfl ntmps316 oI (fun I0 w0 => ?_)
 repeat refine sq ?_;try intro
 rename_i b1 b2
 refine W.lp (S:=Nat) (fun t=>([],[(10,.int .i64 (t:Int)),(4,.int .i64 ((xyT t).2:Int)),(3,.int .i64 ((xyT t).1:Int)),(2,.pointer (some ⟨b2,0,none⟩)),(1,.pointer (some ⟨b1,0,none⟩))],[(b2,Ob (cU 25 (tuL a t)) 203),(b1,Ob (cU 25 a) 203)])) (fun t=>t≤24) (fun t=>24-t) 0 ?_ (h0:=Nat.zero_le _)
 intro t ht
 dsimp only
 by_cases hte:t=24
 ·subst hte
  repeat refine sq ?_;try intro
  refine G.retV ?_
  rfl
 ·obtain ⟨hx,hy⟩:=xyT_lt t
  obtain ⟨hn1,hn2⟩:=xyT_lt (t+1)
  have he:(xyT (t+1)).2=(2*(xyT t).1+3*(xyT t).2)%5:=rfl
  have hl1:=lane_spec (xyT t).2 (xyT (t+1)).2 oM oM
  have hl2:=lane_spec (xyT t).1 (xyT t).2 oM oM
  obtain ⟨hr1,hr2⟩:=rot_ok t oM
  have hrt:=rotl_spec (a (5*((xyT t).2%5)+(xyT t).1%5)) ((t+1)*(t+2)/2) (ha _) hr2 hr1
  have hmul:(t+1)*(t+2)≤24*25:=Nat.mul_le_mul oM oM
  rw [he] at hl1 hn2
  repeat refine sq ?_;try intro
  refine cV hl1 ?_
  repeat refine sq ?_;try intro
  refine cV hl2 ?_
  repeat refine sq ?_;try intro
  refine o_int rfl rfl rfl rfl (n_quo (b:=2) oE (by show (((t+1)*(t+2):Nat):Int)≤9223372036854775807;omega)) ?_
  repeat refine sq ?_;try intro
  refine cV hrt ?_
  repeat refine sq ?_;try intro
  exact G.ag (S:=Nat) (t+1)
def chA (a:Nat→Nat):Nat→Nat→Nat
 | 0=>fun _=>0
 | i+1=>fun k=>if k=i then a i^^^(a (5*(i/5%5)+(i%5+2)%5)&&&(18446744073709551615-a (5*(i/5%5)+(i%5+1)%5))) else chA a i k
theorem chA_lt (a:Nat→Nat) (ha : ∀ k,a k<18446744073709551616) : ∀ i k,chA a i k<18446744073709551616
 | 0,_=>(by decide:(0:Nat)<18446744073709551616)
 | i+1,k=>by
  unfold chA
  split
  ·exact Nat.xor_lt_two_pow (n:=64) (ha _) (Nat.and_lt_two_pow _ (n:=64) (by have:=ha (5*(i/5%5)+(i%5+1)%5);omega))
  ·exact chA_lt a ha i k
theorem chi_spec (a:Nat→Nat) (ha : ∀ k,a k<18446744073709551616):FnV prog 315 [.agg (cU 25 a).toArray] [] (.agg (cU 25 (chA a 25)).toArray):=by
 refine Fn.enter func315 rfl ntmps315 oI (fun I0 w0 => ?_)
 repeat refine sq ?_;try intro
 refine cV kplaces_spec ?_
 repeat refine sq ?_;try intro
 rename_i b1 b2
 refine W.rangeFuncR (enc:=pl25) (ps:=[6,7]) (Φi:=[]) (Mr:=[]) (fun k s=>s=([],[(b2,Ob (cU 25 (chA a k)) 203),(b1,Ob (cU 25 a) 203)])) (fun _ _=>False) rfl kplaces1_spec oE pl25_two oY ([],[(b2,Ob (cU 25 (chA a 0)) 203),(b1,Ob (cU 25 a) 203)]) rfl oY oP ?_ ?_ ?_
 ·rintro y rec I0' w0' k hk _ rfl
  rw [pl25_len] at hk
  have hl:=lane_spec (k%5) (k/5) oM oM
  have hl2:=lane_spec (k%5+2) (k/5) oM oM
  have hl1:=lane_spec (k%5+1) (k/5) oM oM
  rw [show 5*(k/5%5)+k%5%5=k from by omega] at hl
  have h0:=ha k
  have h1:=ha (5*(k/5%5)+(k%5+1)%5)
  have h2:=ha (5*(k/5%5)+(k%5+2)%5)
  have h3:a (5*(k/5%5)+(k%5+2)%5)&&&(18446744073709551615-a (5*(k/5%5)+(k%5+1)%5))<18446744073709551616:=Nat.and_lt_two_pow _ (n:=64) oM
  dsimp only
  rw [pl25_at k (by rw [pl25_len];exact hk)]
  show W _ _ _ _ ((7,.int .i64 ((k/5:Nat):Int))::(6,.int .i64 ((k%5:Nat):Int))::_) _
  repeat refine sq ?_;try intro
  refine G.begin (by rfl) ?_
  repeat refine sq ?_;try intro
  refine W.drawA 21 [dq _,dq _,dq _,dq _,dq _,dq _,dq _,dq _,dq _,dq _,dq _,dq _,dq _,dq _,dq _,dq _,dq _,dq _,dq _,dq _,dq _] [[],[],[0,1],[],[],[3,4],[5],[6],[],[8],[],[9,10],[11],[12],[],[14],[],[15,16],[17],[18],[13,19]] [2,7,20] (hrest:=fun c=>nrm ?_) (hops:=by
   iterate 2 refine AllQ.aq ?_
   refine AllQ.mk (by intro c z0 Φr Lr K;refine nrm ?_;intro hK;refine cV hl ?_;exact hK z0) ?_
   iterate 2 refine AllQ.aq ?_
   refine AllQ.mk (by intro c z0 Φr Lr K;refine nrm ?_;intro hK;refine cV hl ?_;exact hK z0) ?_
   iterate 5 refine AllQ.aq ?_
   refine AllQ.mk (by intro c z0 Φr Lr K;refine nrm ?_;intro hK;refine cV hl2 ?_;exact hK z0) ?_
   iterate 5 refine AllQ.aq ?_
   refine AllQ.mk (by intro c z0 Φr Lr K;refine nrm ?_;intro hK;refine cV hl1 ?_;exact hK z0) ?_
   iterate 2 refine AllQ.aq ?_
   refine AllQ.mk (by intro c z0 Φr Lr K;refine nrm ?_;intro hK;refine o_andNot h2 h1 rfl rfl rfl rfl ?_;exact hK z0) ?_
   exact AllQ.nil)
  repeat refine sq ?_;try intro
  refine G.roundEnd oY (Φ':=[]) (M'':=[(b2,Ob (cU 25 (chA a (k+1))) 203),(b1,Ob (cU 25 a) 203)]) ?_ oY (by first|exact List.Sublist.refl _|exact .cons _ oZ)
  exact Or.inl ⟨rfl,([],[(b2,Ob (cU 25 (chA a (k+1))) 203),(b1,Ob (cU 25 a) 203)]),rfl,rfl⟩
 ·rintro D _ rfl
  rw [pl25_len]
  dsimp only [List.nil_append,List.cons_append]
  repeat refine sq ?_;try intro
  refine G.unmark oY ?_
  refine G.retV ?_
  rfl
 ·intro D c s h
  exact h.elim
end Go.Rail
namespace Go.Rail
open Go Go.Proofs Tryz
set_option maxHeartbeats 400000
set_option maxRecDepth 4000
attribute [local irreducible] OpK G W LW wpListIn Exit.then Exit.inBlock Post rounds opRun bodyPostM intOp
set_option maxHeartbeats 1000000
def kcL:List Nat:=[0x0000000000000001,0x0000000000008082,0x800000000000808a,0x8000000080008000,0x000000000000808b,0x0000000080000001,0x8000000080008081,0x8000000000008009,0x000000000000008a,0x0000000000000088,0x0000000080008009,0x000000008000000a,0x000000008000808b,0x800000000000008b,0x8000000000008089,0x8000000000008003,0x8000000000008002,0x8000000000000080,0x000000000000800a,0x800000008000000a,0x8000000080008081,0x8000000000008080,0x0000000080000001,0x8000000080008008]
def kcN (i:Nat):Nat:=kcL.getD i 0
theorem kcN_lt (i:Nat):kcN i<18446744073709551616:=by
 unfold kcN
 by_cases h:i<kcL.length
 ·have : ∀ j<kcL.length,kcL.getD j 0<18446744073709551616:=of_decide_eq_true kR
  exact this i h
 ·rw [List.getD_eq_getElem?_getD,List.getElem?_eq_none oM];decide
abbrev fKc:Fa:=fBlkE 0 (cU 24 kcN)
def rdN (a:Nat→Nat):Nat→Nat:=chA (tuL (thA a 25) 24) 25
theorem rdN_lt (a:Nat→Nat) (ha : ∀ k,a k<18446744073709551616) (k:Nat):rdN a k<18446744073709551616:=chA_lt _ (tuL_lt _ (thA_lt _ ha 25) 24) 25 k
def peL (a:Nat→Nat):Nat→Nat→Nat
 | 0=>a
 | i+1=>fun k=>if k=0 then rdN (peL a i) 0^^^kcN i else rdN (peL a i) k
theorem peL_lt (a:Nat→Nat) (ha : ∀ k,a k<18446744073709551616) : ∀ i k,peL a i k<18446744073709551616
 | 0,k=>ha k
 | i+1,k=>by
  unfold peL
  split
  ·exact Nat.xor_lt_two_pow (n:=64) (rdN_lt _ (peL_lt a ha i) 0) (kcN_lt i)
  ·exact rdN_lt _ (peL_lt a ha i) k
theorem cU_at (n:Nat) (f:Nat→Nat) (i:Nat) (h:i<n):(cU n f)[i]? = some (.int .u64 ((f i:Nat):Int)):=by simp [cU,h]
section
variable {x:Cx} {Q:Exit→Act→World→Prop} {Φ:List Fa} {L:Env} {M:Own} {ops:Array Oper} {K:Act→World→Prop}
variable {d:Nat} {ty:TypeId} {pos:String} {af:Array Edge} {g:Option (Nat × Bool)}
theorem cU_ones (n:Nat) (f:Nat→Nat):ones (cU n f)=true:=by simp [ones,cU,Value.oneCell']
theorem o_loadCU {t:TypeId} {y:Operand} {b n:Nat} {f:Nat→Nat} {e:TypeId} [ha:IsAg x.P t true] [hs:Siz x.P t n] [hh:Holds Φ M b (cU n f) e] (hdN:Nat.blt d x.N=true) (hg:gd ops L g=some true) (hy:ev L y=some (.pointer (some ⟨b,0,none⟩)))
  (h:G x Φ ((d,.agg (cU n f).toArray)::L) M K):OpK x ops Q ⟨some d,.load t y,ty,pos,af,g⟩ Φ L M K :=
 o_loadA (hh:=hh) hdN hg hy (by rw [cU_length];omega) (by rw [List.drop_zero,List.take_of_length_le (by rw [cU_length];omega)]) h
theorem o_storeCU {t:TypeId} {y z:Operand} {b n:Nat} {f f':Nat→Nat} {e:TypeId} {M':Own} [hs:Siz x.P t n] (hg:gd ops L g=some true) (hy:ev L y=some (.pointer (some ⟨b,0,none⟩))) (hz:ev L z=some (.agg (cU n f').toArray))
  [hm:MGet M b (Ob (cU n f) e)] (hm':MSet M b (Ob (cU n f) e) (Ob (cU n f') e) M') (h:G x Φ L M' K):OpK x ops Q ⟨none,.store t y z,ty,pos,af,g⟩ Φ L M K :=
 o_store (vs:=cU n f') (cs':=cU n f') (hm:=hm) hg hy hz rfl (cU_length _ _) (by rw [cU_length];omega) (cU_ones _ _) (by rw [List.take_zero,Nat.zero_add,List.drop_eq_nil_of_le (by rw [cU_length];exact Nat.le_refl _)];simp) (hm':=hm') h
theorem stu {p q:Prop} (hp:p) (s:p→q:=by
 first
  | (apply kf_op;apply kf_load;first|exact o_loadCU rfl rfl rfl|exact o_loadU rfl rfl rfl oG)
  | (apply kf_op;apply kf_store;first|exact o_storeCU rfl rfl rfl oY|exact o_storeU rfl rfl rfl oG)):q:=s hp
end
theorem permute_spec (a:Nat→Nat) (ha : ∀ k,a k<18446744073709551616):FnV prog 267 [.agg (cU 25 a).toArray] [fKc] (.agg (cU 25 (peL a 24)).toArray):=by
 refine Fn.enter func267 rfl ntmps267 oI (fun I0 w0 => ?_)
 refine W.bare (G.openE 0 (cU 24 kcN) ?_)
 intro tK
 refine G.code ?_
 repeat (first|refine stu ?_|(refine sty ?_;try intro _)|(refine st ?_;try intro _)|(refine stz ?_;try intro _)|(refine stq ?_;try intro _))
 rename_i b1 b2
 refine W.lp (S:=Nat) (fun i=>([],[(6,.int .i64 (i:Int)),(5,.agg (cU 24 kcN).toArray),(1,.pointer (some ⟨b1,0,none⟩)),(2,.pointer (some ⟨b2,0,none⟩))],[(b2,Ob (cU 25 (fun _=>0)) 203),(b1,Ob (cU 25 (peL a i)) 203)])) (fun i=>i≤24) (fun i=>24-i) 0 ?_ (h0:=Nat.zero_le _)
 intro i hi
 dsimp only
 by_cases he:i=24
 ·subst he
  repeat (first|refine stu ?_|(refine sty ?_;try intro _)|(refine st ?_;try intro _)|(refine stz ?_;try intro _)|(refine stq ?_;try intro _))
  refine G.retV ?_
  rfl
 ·have h1:=theta_spec (peL a i) (peL_lt a ha i)
  have h2:=turn_spec (thA (peL a i) 25) (thA_lt _ (peL_lt a ha i) 25)
  have h3:=chi_spec (tuL (thA (peL a i) 25) 24) (tuL_lt _ (thA_lt _ (peL_lt a ha i) 25) 24)
  have h4:=rdN_lt (peL a i) (peL_lt a ha i) 0
  have h5:=kcN_lt i
  have hs:peL a (i+1)=fun k=>if k=0 then rdN (peL a i) 0^^^kcN i else rdN (peL a i) k:=rfl
  rw [show rdN (peL a i)=chA (tuL (thA (peL a i) 25) 24) 25 from rfl] at hs h4
  have hq:peL a (i+1)=peL a (i+1):=rfl
  generalize hq':peL a (i+1)=q' at hs
  generalize peL a i=q at h1 h2 h3 h4 hs ⊢
  generalize thA q 25=q1 at h1 h2 h3 h4 hs
  generalize tuL q1 24=q2 at h2 h3 h4 hs
  generalize chA q2 25=q3 at h3 h4 hs
  repeat (first|refine stu ?_|(refine sty ?_;try intro _)|(refine st ?_;try intro _)|(refine stz ?_;try intro _)|(refine stq ?_;try intro _))
  refine o_indexV rfl rfl rfl rfl oM (cU_at 24 kcN i oM) ?_
  repeat (first|refine stu ?_|(refine sty ?_;try intro _)|(refine st ?_;try intro _)|(refine stz ?_;try intro _)|(refine stq ?_;try intro _))
  refine cV h1 ?_
  repeat (first|refine stu ?_|(refine sty ?_;try intro _)|(refine st ?_;try intro _)|(refine stz ?_;try intro _)|(refine stq ?_;try intro _))
  refine cV h2 ?_
  repeat (first|refine stu ?_|(refine sty ?_;try intro _)|(refine st ?_;try intro _)|(refine stz ?_;try intro _)|(refine stq ?_;try intro _))
  refine cV h3 ?_
  repeat (first|refine stu ?_|(refine sty ?_;try intro _)|(refine st ?_;try intro _)|(refine stz ?_;try intro _)|(refine stq ?_;try intro _))
  rw [← hs,← hq']
  exact G.ag (S:=Nat) (i+1)
def lowS (l:List UInt8):Nat→Nat
 | 0=>0
 | i+1=>lowS l i|||(l.getD i 0).toNat*2^(8*i)%18446744073709551616
theorem lowS_lt (l:List UInt8) : ∀ i,lowS l i<18446744073709551616
 | 0=>(by decide:(0:Nat)<18446744073709551616)
 | i+1=>Nat.or_lt_two_pow (n:=64) (lowS_lt l i) (Nat.mod_lt _ oE)
theorem klow_spec (v:Value) (l:List UInt8) (hl:l.length≤8):FnV prog 266 [v] [fRp v l] (.int .u64 ((lowS l l.length:Nat):Int)):=by
 refine Fn.enter func266 rfl ntmps266 oI (fun I0 w0 => ?_)
 refine W.bare (G.slice v l ?_)
 intro a1 c1 e1 k1
 subst e1
 repeat refine sq ?_;try intro
 refine W.lp (S:=Nat) (fun i=>([fRp (.slice a1 l.length c1) l],[(7,.int .i64 (i:Int)),(6,.int .i64 (l.length:Int)),(5,.slice a1 l.length c1),(2,.int .u64 ((lowS l i:Nat):Int))],[])) (fun i=>i≤l.length) (fun i=>l.length-i) 0 ?_ (h0:=Nat.zero_le _)
 intro i hi
 dsimp only
 by_cases he:i=l.length
 ·subst he
  repeat refine sq ?_;try intro
  refine G.retV ?_
  rfl
 ·have h1:=lowS_lt l i
  have h2:(l.getD i 0).toNat*2^(8*i)%18446744073709551616<18446744073709551616:=Nat.mod_lt _ oE
  have hg:l.getD i 0=l[i]'(by omega):=by rw [List.getD_eq_getElem?_getD,List.getElem?_eq_getElem oM];rfl
  have hs:lowS l (i+1)=lowS l i|||(l.getD i 0).toNat*2^(8*i)%18446744073709551616:=rfl
  rw [hg] at h2 hs
  have h3:(l[i]'(by omega)).toNat<256:=UInt8.toNat_lt _
  repeat refine sq ?_;try intro
  rw [← hs]
  exact G.ag (S:=Nat) (i+1)
def padZ (n:Nat):Nat:=(136-(n+1)%136)%136
def padB (s:List UInt8) (k:Nat):List UInt8:=s++1::List.replicate k 0
def padL (s:List UInt8):List UInt8:=(padB s (padZ s.length)).set ((padB s (padZ s.length)).length-1) (((padB s (padZ s.length)).getD ((padB s (padZ s.length)).length-1) 0)|||128)
theorem padB_len (s:List UInt8) (k:Nat):(padB s k).length=s.length+1+k:=by simp [padB];omega
theorem padB_s (s:List UInt8) (k:Nat):padB s k++[0]=padB s (k+1):=by
 unfold padB
 rw [List.append_assoc,List.cons_append,List.replicate_succ']
theorem padL_len (s:List UInt8):(padL s).length=s.length+1+padZ s.length:=by unfold padL;rw [List.length_set,padB_len]
theorem padL_mod (s:List UInt8):(padL s).length%136=0:=by rw [padL_len];unfold padZ;omega
structure PdSt where
 k:Nat
 m:Bool
 b:Nat
 ex:List Value
theorem kpad_spec (s:List UInt8) (hs:s.length≤10000000):FnV prog 265 [.string (ba s)] [] (.string (ba (padL s))):=by
 refine Fn.enter func265 rfl ntmps265 oI (fun I0 w0 => ?_)
 repeat refine sq ?_;try intro
 refine o_toBm rfl rfl rfl ?_
 intro b ex
 repeat refine sq ?_;try intro
 refine o_litV (xs:=[(1:UInt8)]) rfl rfl rfl (.cons rfl .nil) oY oY rfl rfl ?_
 intro u1
 repeat refine sq ?_;try intro
 refine o_appKd (ys:=[1]) (bytes:=1) (Mr:=[]) ⟨by simp;omega,by simp;omega,rfl⟩ rfl rfl rfl rfl oY oP ?_
 intro mk1 b1 ex1
 repeat refine sq ?_;try intro
 have hz:padZ s.length<136:=Nat.mod_lt _ oE
 refine W.lp (S:=PdSt) (fun i=>([],[(3,.slice (some ⟨i.b,0,none⟩) (padB s i.k).length ((padB s i.k).length+i.ex.length))],[(i.b,Okd i.m (bvs (padB s i.k)++i.ex) 5)])) (fun i=>i.k≤padZ s.length) (fun i=>padZ s.length-i.k) ⟨0,mk1,b1,ex1⟩ ?_ (h0:=Nat.zero_le _)
 rintro ⟨k,m,b,ex⟩ hk
 dsimp only at hk ⊢
 have hlen:=padB_len s k
 by_cases he:k=padZ s.length
 ·subst he
  have hmod:(padB s (padZ s.length)).length%136=0:=by rw [hlen];unfold padZ;omega
  unfold padL
  generalize padB s (padZ s.length)=q at hlen hmod ⊢
  have hq:q.length-1<q.length:=by omega
  have hg:q.getD (q.length-1) 0=q[q.length-1]:=by rw [List.getD_eq_getElem?_getD,List.getElem?_eq_getElem hq];rfl
  rw [hg]
  repeat refine sq ?_;try intro
  refine o_loadKd rfl rfl rfl hq ?_
  repeat refine sq ?_;try intro
  refine o_int rfl rfl rfl rfl (b_or _ 128 (UInt8.toNat_lt _) oE) ?_
  repeat refine sq ?_;try intro
  refine o_storeKd (c:=q[q.length-1]|||128) (Mr:=[]) rfl rfl rfl (by rw [UInt8.toNat_or];rfl) hq oP ?_
  refine G.giveB b 5 m (q.set (q.length-1) (q[q.length-1]|||128)) ex (Mr:=[]) oP ?_
  rw [List.length_set]
  repeat refine sq ?_;try intro
  refine G.retV ?_
  rfl
 ·have hmod:(padB s k).length%136≠0:=by rw [hlen];unfold padZ at hk he;omega
  have hpb:=padB_s s k
  have hlen2:=padB_len s (k+1)
  generalize padB s k=q at hlen hmod hpb ⊢
  repeat refine sq ?_;try intro
  refine o_litV (xs:=[(0:UInt8)]) rfl rfl rfl (.cons rfl .nil) oY oY rfl rfl ?_
  intro u1
  repeat refine sq ?_;try intro
  refine o_appKd (ys:=[0]) (bytes:=1) (Mr:=[]) ⟨by simp;omega,by simp;omega,rfl⟩ rfl rfl rfl rfl oY oP ?_
  intro mk1 b1 ex1
  rw [hpb]
  repeat refine sq ?_;try intro
  exact G.ag (S:=PdSt) ⟨k+1,mk1,b1,ex1⟩
def chE (ad:Addr) (l:List UInt8):List (List Value):=(List.range (l.length/136)).map fun i=>[.slice (some ⟨ad.block,ad.off+i*136,none⟩) 136 136]
theorem chE_len (ad:Addr) (l:List UInt8):(chE ad l).length=l.length/136:=by simp [chE]
theorem chE_one (ad:Addr) (l:List UInt8) : ∀ vs∈chE ad l,vs.length=1:=by
 intro vs h
 obtain ⟨p,_,rfl⟩:=List.mem_map.1 h
 rfl
theorem chE_at (b off:Nat) (l:List UInt8) (k:Nat) (h:k<(chE ⟨b,off,none⟩ l).length):(chE ⟨b,off,none⟩ l)[k]=[.slice (some ⟨b,off+k*136,none⟩) 136 136]:=by simp [chE]
structure ChSt where
 k:Nat
 s:St
theorem kchunk1_spec (b0 b2 b3 off cap:Nat) (l:List UInt8) (hl:l.length%136=0) (hn:l.length≤100000000) (hc:l.length≤cap):IterR prog 314 [.pointer (some ⟨b2,0,none⟩),.pointer (some ⟨b3,0,none⟩)] (chE ⟨b0,off,none⟩ l) [fBlk b2 [.slice (some ⟨b0,off,none⟩) l.length cap] 34,fBlk b3 [.int .i64 136] 3]:=by
 intro y T Z hy s0 hs0
 rw [chE_len]
 show Fn _ _ _ (fBlk b2 [.slice (some ⟨b0,off,none⟩) l.length cap] 34::fBlk b3 [.int .i64 136] 3::s0.1) _ _
 refine Fn.enter func314 rfl ntmps314 oI (fun I0 w0 => ?_)
 repeat refine sq ?_;try intro
 refine W.lp (S:=ChSt) (fun i=>(fBlk b2 [.slice (some ⟨b0,off,none⟩) l.length cap] 34::fBlk b3 [.int .i64 136] 3::i.s.1,[(4,.int .i64 ((136*i.k:Nat):Int)),(0,.func (.yield y) #[] #[]),(1,.pointer (some ⟨b2,0,none⟩)),(2,.pointer (some ⟨b3,0,none⟩))],i.s.2)) (fun i=>i.k≤l.length/136∧T i.k i.s) (fun i=>l.length/136-i.k) ⟨0,s0⟩ ?_ (h0:=⟨Nat.zero_le _,hs0⟩) (hΦ:=⟨fun I hp φ hφ=>hp φ hφ⟩) (hM:=List.Sublist.refl _)
 rintro ⟨k,sa⟩ ⟨hk,hT⟩
 dsimp only at hk hT ⊢
 by_cases hke:k=l.length/136
 ·subst hke
  repeat refine sq ?_;try intro
  exact G.fin rfl .nil (Φ':=sa.1) (M':=sa.2) ⟨fun I hp φ hφ=>hp φ (.tail _ (.tail _ hφ))⟩ oZ (.inl hT)
 ·have hyk:=hy k (by rw [chE_len];omega) sa hT
  rw [chE_at] at hyk
  repeat refine sq ?_;try intro
  refine W.drawA 6 [dq _,dq _,dq _,dq _,dq _,dq _] [[],[],[],[1,2],[3],[0,4]] [5] (hrest:=fun c=>nrm ?_) (hops:=by
   iterate 3 refine AllQ.aq ?_
   refine AllQ.mk (by intro c z0 Φr Lr K;refine nrm ?_;intro hK;refine o_tailO (136*k) (off+136*k) rfl rfl rfl rfl rfl oM oM hc oM ?_;exact hK z0) ?_
   refine AllQ.mk (by intro c z0 Φr Lr K;refine nrm ?_;intro hK;refine o_lenS rfl rfl rfl ?_;exact hK z0) ?_
   refine AllQ.mk (by intro c z0 Φr Lr K;refine nrm ?_;intro hK;refine o_min rfl rfl rfl rfl (v := .int .i64 136) (by congr 1;omega) ?_;exact hK z0) ?_
   exact AllQ.nil)
  repeat refine sq ?_;try intro
  refine o_slice3 (l:=136*k) (h:=136*k+136) (m:=136*k+136) rfl rfl rfl rfl rfl rfl oM oM oM oM ?_
  rw [show off+136*k*1=off+k*136 from by omega,show 136*k+136-136*k=136 from by omega]
  repeat refine sq ?_;try intro
  refine o_yieldR (Mr:=[]) rfl rfl rfl rfl hyk (fun I hp φ hφ=>hp φ (.tail _ (.tail _ hφ))) oI ?_ ?_
  ·intro st2 hst2
   rw [List.append_nil]
   refine G.weaken (Φ':=fBlk b2 [.slice (some ⟨b0,off,none⟩) l.length cap] 34::fBlk b3 [.int .i64 136] 3::st2.1) ?_ (fun φ hφ => ?_) (fun _ _ h=>h) oZ
   ·repeat refine sq ?_;try intro
    exact G.ag (S:=ChSt) ⟨k+1,st2⟩ (hpre:=⟨by dsimp only;omega,hst2⟩) (hΦ:=⟨fun I hp φ hφ=>hp φ hφ⟩) (hM:=List.Sublist.refl _)
   ·rcases List.mem_cons.1 hφ with rfl|hφ
    ·exact List.mem_append_right _ (.head _)
    ·rcases List.mem_cons.1 hφ with rfl|hφ
     ·exact List.mem_append_right _ (.tail _ (.head _))
     ·exact List.mem_append_left _ hφ
  ·intro s hs
   rw [List.append_nil]
   repeat refine sq ?_;try intro
   exact G.ret rfl .nil (Φ':=s.1) (M':=s.2) ⟨fun I hp φ hφ=>hp φ (List.mem_append_left _ hφ)⟩ oZ (.inr hs)
theorem kchunk_spec (v:Value) (l:List UInt8):Fn prog 264 [v,.int .i64 136] [fRp v l] [] (fun u Φ' M' => ∃ b2 b3,u = .func (.func 314) #[] #[.pointer (some ⟨b2,0,none⟩),.pointer (some ⟨b3,0,none⟩)]∧Φ'=[fBlk b2 [v] 34,fBlk b3 [.int .i64 136] 3]∧M'=[]):=by
 refine Fn.enter func264 rfl ntmps264 oI (fun I0 w0 => ?_)
 refine W.bare (G.slice v l ?_)
 intro a1 c1 e1 k1
 subst e1
 repeat refine sq ?_;try intro
 rename_i b2 b3
 refine o_func rfl rfl rfl rfl ?_
 repeat refine sq ?_;try intro
 refine G.give b3 (cs:=[.int .i64 136]) (t:=3) ?_
 refine G.give b2 (cs:=[.slice a1 l.length c1]) (t:=34) ?_
 exact G.ret rfl (.cons (.tmp rfl) .nil) (Φ':=[fBlk b2 [.slice a1 l.length c1] 34,fBlk b3 [.int .i64 136] 3]) (M':=[]) oY oN ⟨b2,b3,rfl,rfl,rfl⟩
end Go.Rail
namespace Go.Rail
open Go Go.Proofs Tryz
set_option maxHeartbeats 400000
set_option maxRecDepth 4000
attribute [local irreducible] OpK G W LW wpListIn Exit.then Exit.inBlock Post rounds opRun bodyPostM intOp
set_option maxHeartbeats 1000000
def abL (a:Nat→Nat) (c:List UInt8):Nat→Nat→Nat
 | 0=>a
 | i+1=>fun k=>if k=i then abL a c i i^^^lowS ((c.take (8*i+8)).drop (8*i)) 8 else abL a c i k
theorem abL_lt (a:Nat→Nat) (c:List UInt8) (ha : ∀ k,a k<18446744073709551616) : ∀ i k,abL a c i k<18446744073709551616
 | 0,k=>ha k
 | i+1,k=>by
  unfold abL
  split
  ·exact Nat.xor_lt_two_pow (n:=64) (abL_lt a c ha i i) (lowS_lt _ _)
  ·exact abL_lt a c ha i k
def smL (l:List UInt8):Nat→Nat→Nat
 | 0=>fun _=>0
 | k+1=>peL (abL (smL l k) ((l.take (136*k+136)).drop (136*k)) 17) 24
theorem smL_lt (l:List UInt8) : ∀ i k,smL l i k<18446744073709551616
 | 0,k=>(by decide:(0:Nat)<18446744073709551616)
 | i+1,k=>by
  unfold smL
  exact peL_lt _ (abL_lt _ _ (smL_lt l i) 17) 24 k
def outL (a:Nat→Nat) (i:Nat):UInt8:=UInt8.ofNat (a (i/8)/2^(8*(i%8))%256)
def hashL (a:Nat→Nat):List UInt8:=(List.range 32).map (outL a)
def keccakL (s:List UInt8):List UInt8:=hashL (smL (padL s) ((padL s).length/136))
theorem keccakL_len (s:List UInt8):(keccakL s).length=32:=by simp [keccakL,hashL]
def outP (a:Nat→Nat) (i:Nat):List UInt8:=(List.range i).map (outL a)++List.replicate (32-i) 0
theorem outP_len (a:Nat→Nat) (i:Nat) (h:i≤32):(outP a i).length=32:=by simp [outP];omega
theorem outP_set (a:Nat→Nat) (i:Nat) (h:i<32):(outP a i).set i (outL a i)=outP a (i+1):=by
 unfold outP
 rw [List.set_append_right _ _ oI,List.range_succ,List.map_append]
 simp only [List.length_map,List.length_range,Nat.sub_self]
 obtain ⟨m,hm⟩ : ∃ m,32-i=m+1:=⟨31-i,by omega⟩
 rw [hm,show 32-(i+1)=m from by omega,List.replicate_succ]
 simp
theorem ksum_spec (s:List UInt8) (hs:s.length≤1048576):FnV prog 183 [.string (ba s)] [fKc] (.tuple #[.string (ba (keccakL s)),.int .i64 0]):=by
 have hp:=kpad_spec s oM
 have hm:=padL_mod s
 have hl:(padL s).length≤1048576+200:=by rw [padL_len];have:padZ s.length<136:=Nat.mod_lt _ oE;omega
 have hl1:136≤(padL s).length:=by have:=padL_len s;omega
 unfold keccakL
 generalize padL s=l at hp hm hl hl1 ⊢
 refine Fn.enter func183 rfl ntmps183 oI (fun I0 w0 => ?_)
 repeat refine sq ?_;try intro
 rename_i b4
 refine cV hp ?_
 repeat refine sq ?_;try intro
 refine o_toB rfl rfl rfl ?_
 intro v
 repeat refine sq ?_;try intro
 refine OpK.call rfl rfl rfl rfl (kchunk_spec v l) oY (Mr:=_) oP ?_
 rintro u Φ' Mc' ⟨b2,b3,rfl,rfl,rfl⟩
 refine nB ?_
 repeat refine sq ?_;try intro
 have hne:l≠[]:=by intro e;rw [e] at hl1;simp at hl1
 refine W.bare (G.sliceB v l hne ?_)
 intro b0 off cap e1 k1
 subst e1
 refine G.code ?_
 have hit:=kchunk1_spec b0 b2 b3 off cap l hm oM k1
 refine W.rangeFuncR (enc:=chE ⟨b0,off,none⟩ l) (ps:=[16]) (Mr:=[]) (fun k s=>s=([fKc,fRp (.slice (some ⟨b0,off,none⟩) l.length cap) l],[(b4,Ob (cU 25 (smL l k)) 203)])) (fun _ _=>False) rfl hit oE (chE_one _ _) oY ([fKc,fRp (.slice (some ⟨b0,off,none⟩) l.length cap) l],[(b4,Ob (cU 25 (smL l 0)) 203)]) rfl oY oP ?_ ?_ ?_
 ·rintro y rec I0' w0' k hk _ rfl
  rw [chE_len] at hk
  dsimp only
  rw [chE_at b0 off l k (by rw [chE_len];exact hk)]
  show W _ _ _ _ ((16,.slice (some ⟨b0,off+k*136,none⟩) 136 136)::_) _
  have hlt:=smL_lt l k
  have hsm:smL l (k+1)=peL (abL (smL l k) ((l.take (136*k+136)).drop (136*k)) 17) 24:=rfl
  generalize smL l (k+1)=q1 at hsm ⊢
  generalize smL l k=q at hlt hsm ⊢
  have hck:((l.take (136*k+136)).drop (136*k)).length=136:=by simp;omega
  refine W.bare (G.part (b:=b0) (off:=off) (n:=l.length) (cap:=cap) l (136*k) (136*k+136) 136 (off+k*136) oM oM oM (by show off+136*k*1=_;omega) ?_)
  rw [show 136*k+136-136*k=136 from by omega]
  generalize (l.take (136*k+136)).drop (136*k)=ck at hck hsm ⊢
  refine G.code ?_
  repeat refine sq ?_;try intro
  refine G.begin (by rfl) ?_
  repeat refine sq ?_;try intro
  refine W.lp (S:=Nat) (fun i=>([fRp (.slice (some ⟨b0,off+k*136,none⟩) 136 136) ck,fKc,fRp (.slice (some ⟨b0,off,none⟩) l.length cap) l],[(17,.int .i64 (i:Int)),(5,.slice (some ⟨b0,off+k*136,none⟩) 136 136),(4,.pointer (some ⟨b4,0,none⟩))],[(y,Obj.loop {rec with state := .busy,pending:=none}),(b4,Ob (cU 25 (abL q ck i)) 203)])) (fun i=>i≤17) (fun i=>17-i) 0 ?_ (h0:=Nat.zero_le _)
  intro i hi
  dsimp only
  by_cases he:i=17
  ·subst he
   have hpe:=permute_spec (abL q ck 17) (abL_lt q ck hlt 17)
   rw [← hsm] at hpe
   generalize abL q ck 17=q2 at hpe ⊢
   repeat (first|refine stu ?_|(refine sty ?_;try intro _)|(refine st ?_;try intro _)|(refine stz ?_;try intro _)|(refine stq ?_;try intro _))
   refine cV hpe ?_
   repeat (first|refine stu ?_|(refine sty ?_;try intro _)|(refine st ?_;try intro _)|(refine stz ?_;try intro _)|(refine stq ?_;try intro _))
   refine G.roundEnd (r:={rec with state := .busy,pending:=none}) (inferInstanceAs (MDel ((y,Obj.loop {rec with state := .busy,pending:=none})::_) y _ _)) (Φ':=[fKc,fRp (.slice (some ⟨b0,off,none⟩) l.length cap) l]) (M'':=[(b4,Ob (cU 25 q1) 203)]) ?_ oY oZ
   exact Or.inl ⟨rfl,([fKc,fRp (.slice (some ⟨b0,off,none⟩) l.length cap) l],[(b4,Ob (cU 25 q1) 203)]),rfl,rfl⟩
  ·have hs:abL q ck (i+1)=fun k=>if k=i then abL q ck i i^^^lowS ((ck.take (8*i+8)).drop (8*i)) 8 else abL q ck i k:=rfl
   have h1:=abL_lt q ck hlt i i
   have h2:=lowS_lt ((ck.take (8*i+8)).drop (8*i)) 8
   have hcl:((ck.take (8*i+8)).drop (8*i)).length=8:=by simp;omega
   have hlow:=fun v=>klow_spec v ((ck.take (8*i+8)).drop (8*i)) oM
   rw [hcl] at hlow
   generalize hq3:abL q ck (i+1)=q3 at hs
   generalize abL q ck i=q2 at h1 hs ⊢
   generalize hw:(ck.take (8*i+8)).drop (8*i)=w at h2 hcl hlow hs ⊢
   repeat refine sq ?_;try intro
   refine W.drawA 11 [dq _,dq _,dq _,dq _,dq _,dq _,dq _,dq _,dq _,dk fun _ z=>fRp z w,dq _] [[],[0],[1],[],[],[4],[],[6],[7],[3,5,8],[9]] [0,2,10] (hrest:=fun c=>nrm ?_) (hops:=by
    iterate 9 refine AllQ.aq ?_
    refine AllQ.mk (by intro c z0 Φr Lr K;refine nrm ?_;intro hK;refine o_slice (8*i) (8*i+8) rfl rfl rfl (bdS rfl) (bdS rfl) oM oM ?_;rw [hw];intro v';exact hK v') ?_
    refine AllQ.mk (by intro c z0 Φr Lr K;refine nrm ?_;intro hK;refine cV (hlow (c 9)) ?_;exact hK z0) ?_
    exact AllQ.nil)
   repeat refine sq ?_;try intro
   rw [← hs,← hq3]
   exact G.ag (S:=Nat) (i+1)
 ·rintro D _ rfl
  rw [chE_len]
  have hlt:=smL_lt l (l.length/136)
  generalize smL l (l.length/136)=q at hlt ⊢
  dsimp only [List.nil_append,List.cons_append]
  repeat refine sq ?_;try intro
  refine o_makeKd 32 rfl rfl rfl rfl rfl rfl oE ?_
  intro b5
  repeat refine sq ?_;try intro
  refine W.lp (S:=Nat) (fun i=>([],[(39,.int .i64 (i:Int)),(38,.int .i64 32),(7,.slice (some ⟨b5,0,none⟩) 32 32),(4,.pointer (some ⟨b4,0,none⟩))],[(b5,Okd false (bvs (outP q i)++[]) 5),(b4,Ob (cU 25 q) 203),(D,.deferred (some []))])) (fun i=>i≤32) (fun i=>32-i) 0 ?_ (h0:=Nat.zero_le _)
  intro i hi
  dsimp only
  by_cases he:i=32
  ·subst he
   refine W.bare (G.giveB b5 5 false (outP q 32) [] (Mr:=[(b4,Ob (cU 25 q) 203),(D,.deferred (some []))]) oP ?_)
   rw [outP_len q 32 (Nat.le_refl _)]
   refine G.code ?_
   repeat refine sq ?_;try intro
   refine G.unmark oY ?_
   refine G.retV ?_
   unfold hashL outP
   simp [tup]
  ·have hb:=hlt (i/8)
   have hlen:=outP_len q i hi
   have hset:=outP_set q i oM
   have hout:Value.int .u8 ((q (i/8)/2^(8*(i%8))%256:Nat):Int) = .int .u8 (((outL q i).toNat:Nat):Int):=by
    unfold outL
    rw [UInt8.toNat_ofNat',Nat.mod_mod_of_dvd _ oE]
   repeat refine sq ?_;try intro
   refine o_storeKd (c:=outL q i) rfl rfl rfl hout oM oP ?_
   rw [hset]
   repeat refine sq ?_;try intro
   exact G.ag (S:=Nat) (i+1)
 ·intro D c s h
  exact h.elim
end Go.Rail
