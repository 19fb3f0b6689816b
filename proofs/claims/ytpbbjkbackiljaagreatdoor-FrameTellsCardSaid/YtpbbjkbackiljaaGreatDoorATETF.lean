/- The document's keccak: Permute. -/
import Derived.Test.YtpbbjkbackiljaaGreatDoorRailA
import Derived.Test.YtpbbjkbackiljaaGreatDoorRailI
import Derived.Test.YtpbbjkbackiljaaGreatDoorATCTD
set_option linter.unusedSimpArgs false
set_option linter.unusedVariables false
namespace Go.Rail
open Go Go.Proofs Tryz
set_option maxHeartbeats 400000
set_option maxRecDepth 4000
attribute [local irreducible] OpK G W LW wpListIn Exit.then Exit.inBlock Post rounds opRun bodyPostM intOp
set_option maxHeartbeats 4000000
theorem thB_lt (A:Nat→Nat→Nat) (k z:Nat):thB A k z<2:=Nat.mod_lt _ oE
theorem rhB_lt {A:Nat→Nat→Nat} (hA : ∀ k z,A k z<2) : ∀ t k z,rhB A t k z<2
 | 0,k,z=>hA k z
 | t+1,k,z=>by
  show (if _ then _ else _)<2
  split
  ·exact hA _ _
  ·exact rhB_lt hA t k z
theorem chB_lt (A:Nat→Nat→Nat) (k z:Nat):chB A k z<2:=Nat.mod_lt _ oE
theorem ioB_lt {A:Nat→Nat→Nat} (hA : ∀ k z,A k z<2) (i:Nat) : ∀ j k z,ioB A i j k z<2
 | 0,k,z=>hA k z
 | j+1,k,z=>by
  show (if _ then _ else _)<2
  split
  ·exact Nat.mod_lt _ oE
  ·exact ioB_lt hA i j k z
theorem peB_lt {A:Nat→Nat→Nat} (hA : ∀ k z,A k z<2) : ∀ i k z,peB A i k z<2
 | 0,k,z=>hA k z
 | i+1,k,z=>ioB_lt (chB_lt _) i 7 k z
theorem lfB_lt : ∀ t k,lfB t k<2
 | 0,k=>by
  show (if _ then _ else _)<2
  split<;>decide
 | t+1,k=>by
  show (if _ then _ else if _ then _ else if _ then _ else if _ then _ else _)<2
  split
  ·exact Nat.mod_lt _ oE
  split
  ·exact Nat.mod_lt _ oE
  split
  ·exact Nat.mod_lt _ oE
  split
  ·exact Nat.mod_lt _ oE
  ·exact lfB_lt t _
structure RcSt where
 i:Nat
 rv:Value
 w:Value
 o:OR
theorem rcs04_spec (m:Nat) (hm:m≤1000):Fn prog 292 [.int .i64 (m:Int)] [] [] (ROwn 3 (rowN m rcB)):=by
 refine Fn.enter func292 rfl ntmps292 oI (fun I0 w0 => ?_)
 repeat refine sq ?_;try intro
 rename_i u0
 rw [show ([1,0,0,0,0,0,0,0]:List Int)=rowN 8 (lfB 0) from by kernel_rfl]
 refine W.lp (S:=RcSt) (fun s=>([fRow (ocells s.o) (rowN s.i rcB),fRp s.rv (rowN 8 (lfB s.i))],[(5,.int .i64 (s.i:Int)),(4,s.w),(3,s.rv),(0,.int .i64 (m:Int))],ownM 3 s.o)) (fun s=>s.i≤m∧IsOwn 1 s.w (rowN s.i rcB).length s.o) (fun s=>m-s.i) ⟨0,u0,.slice none 0 0,none⟩ ?_ (h0:=⟨Nat.zero_le _,rfl,rfl⟩)
 rintro ⟨t,rv,w,o⟩ ⟨ht,hown⟩
 dsimp only at ht hown ⊢
 by_cases et:t=m
 ·subst et
  repeat refine sq ?_;try intro
  exact G.ret rfl (.cons (.tmp rfl) .nil) (Φ':=[fRow (ocells o) (rowN t rcB)]) (M':=ownM 3 o) oY oZ ⟨o,hown,rfl,rfl⟩
 ·have hap:rowN t rcB++[((lfB t 0:Nat):Int)]=rowN (t+1) rcB:=(rowZ_succ t _).symm
  have hl:(rowN t rcB).length=t:=rowZ_length _ _
  have hlt:=lfB_lt t
  repeat refine sq ?_;try intro
  refine o_app2 (Mr:=[]) o (xs:=rowN t rcB) (ys:=[((lfB t 0:Nat):Int)]) hown ⟨by simp;omega,by simp;omega,rfl⟩ rfl rfl rfl rfl oY oY oP ?_
  intro w2 o2 hown2
  rw [hap] at hown2 ⊢
  dsimp only [List.nil_append]
  iterate 7 (refine st ?_;try intro _)
  refine o_litM (xs:=[(0:Int)]) ⟨by decide,rfl,by decide⟩ rfl rfl rfl ⟨fun _ _=>Rp.flat.2 rfl,trivial⟩ rfl ?_
  intro bn cs hcs
  repeat refine sq ?_;try intro
  refine o_app (Mr:=ownM 3 o2) (some (bn,cs)) (xs:=[(0:Int)]) (ys:=rowN 8 (lfB t)) ⟨1,rfl,hcs,Nat.le_refl _⟩ ⟨by rw [rowZ_length];decide,by rw [rowZ_length];decide,rfl⟩ rfl rfl rfl rfl (show Ent' _ (fRow cs [(0:Int)]) from oY) oY oP ?_
  intro v3 o3 hown3
  obtain ⟨g0,hg0⟩ : ∃ g0:Nat→Int,g0=fun k=>if k=0 then 0 else ((lfB t (k-1):Nat):Int):=⟨_,rfl⟩
  have hrow:[(0:Int)]++rowN 8 (lfB t)=rowZ 9 g0:=by rw [hg0];rfl
  rw [hrow] at hown3 ⊢
  rw [rowZ_length] at hown3
  refine G.ownZ (f:=g0) oE hown3 ?_
  intro bq ex cap e1 e2 hcx
  subst e1 e2
  rw [show ownM 3 (some (bq,cIx (rowZ 9 g0) ex))=[(bq,Ob (cIx (rowZ 9 g0) ex) 3)] from rfl]
  refine nA ?_
  have h7:=hlt 7
  have h3:=hlt 3
  have h4:=hlt 4
  have h5:=hlt 5
  have e00:g0 0=((0:Nat):Int):=by rw [hg0];rfl
  have e04:g0 4=((lfB t 3:Nat):Int):=by rw [hg0];rfl
  have e05:g0 5=((lfB t 4:Nat):Int):=by rw [hg0];rfl
  have e06:g0 6=((lfB t 5:Nat):Int):=by rw [hg0];rfl
  have e08:g0 8=((lfB t 7:Nat):Int):=by rw [hg0];rfl
  repeat refine sq ?_;try intro
  refine W.drawA 9 [dq _,dq _,dq _,dq _,dq _,dq _,dq _,dq _,dq _] [[],[],[1],[2],[],[4],[5],[3,6],[7]] [0,8] (hrest:=fun c=>nrm ?_) (hops:=by
   iterate 3 refine AllQ.aq ?_
   refine AllQ.mk (by intro c z0 Φr Lr K;refine nrm ?_;intro hK;refine stz ?_;rw [e00];exact hK z0) ?_
   iterate 2 refine AllQ.aq ?_
   refine AllQ.mk (by intro c z0 Φr Lr K;refine nrm ?_;intro hK;refine stz ?_;rw [e08];exact hK z0) ?_
   iterate 2 refine AllQ.aq ?_
   exact AllQ.nil)
  repeat (first|(refine stz ?_;try intro _)|(refine sty ?_;try intro _)|(refine st ?_;try intro _))
  obtain ⟨g1,hg1⟩ : ∃ g:Nat→Int,g=fun k=>if k=0 then (((0+lfB t 7)%2:Nat):Int) else g0 k:=⟨_,rfl⟩
  rw [← hg1]
  have e14:g1 4=_:=(congrFun hg1 4).trans e04
  have e15:g1 5=_:=(congrFun hg1 5).trans e05
  have e16:g1 6=_:=(congrFun hg1 6).trans e06
  have e18:g1 8=_:=(congrFun hg1 8).trans e08
  refine W.drawA 9 [dq _,dq _,dq _,dq _,dq _,dq _,dq _,dq _,dq _] [[],[],[1],[2],[],[4],[5],[3,6],[7]] [0,8] (hrest:=fun c=>nrm ?_) (hops:=by
   iterate 3 refine AllQ.aq ?_
   refine AllQ.mk (by intro c z0 Φr Lr K;refine nrm ?_;intro hK;refine stz ?_;rw [e14];exact hK z0) ?_
   iterate 2 refine AllQ.aq ?_
   refine AllQ.mk (by intro c z0 Φr Lr K;refine nrm ?_;intro hK;refine stz ?_;rw [e18];exact hK z0) ?_
   iterate 2 refine AllQ.aq ?_
   exact AllQ.nil)
  repeat (first|(refine stz ?_;try intro _)|(refine sty ?_;try intro _)|(refine st ?_;try intro _))
  obtain ⟨g2,hg2⟩ : ∃ g:Nat→Int,g=fun k=>if k=4 then (((lfB t 3+lfB t 7)%2:Nat):Int) else g1 k:=⟨_,rfl⟩
  rw [← hg2]
  have e25:g2 5=_:=(congrFun hg2 5).trans e15
  have e26:g2 6=_:=(congrFun hg2 6).trans e16
  have e28:g2 8=_:=(congrFun hg2 8).trans e18
  refine W.drawA 9 [dq _,dq _,dq _,dq _,dq _,dq _,dq _,dq _,dq _] [[],[],[1],[2],[],[4],[5],[3,6],[7]] [0,8] (hrest:=fun c=>nrm ?_) (hops:=by
   iterate 3 refine AllQ.aq ?_
   refine AllQ.mk (by intro c z0 Φr Lr K;refine nrm ?_;intro hK;refine stz ?_;rw [e25];exact hK z0) ?_
   iterate 2 refine AllQ.aq ?_
   refine AllQ.mk (by intro c z0 Φr Lr K;refine nrm ?_;intro hK;refine stz ?_;rw [e28];exact hK z0) ?_
   iterate 2 refine AllQ.aq ?_
   exact AllQ.nil)
  repeat (first|(refine stz ?_;try intro _)|(refine sty ?_;try intro _)|(refine st ?_;try intro _))
  obtain ⟨g3,hg3⟩ : ∃ g:Nat→Int,g=fun k=>if k=5 then (((lfB t 4+lfB t 7)%2:Nat):Int) else g2 k:=⟨_,rfl⟩
  rw [← hg3]
  have e36:g3 6=_:=(congrFun hg3 6).trans e26
  have e38:g3 8=_:=(congrFun hg3 8).trans e28
  refine W.drawA 9 [dq _,dq _,dq _,dq _,dq _,dq _,dq _,dq _,dq _] [[],[],[1],[2],[],[4],[5],[3,6],[7]] [0,8] (hrest:=fun c=>nrm ?_) (hops:=by
   iterate 3 refine AllQ.aq ?_
   refine AllQ.mk (by intro c z0 Φr Lr K;refine nrm ?_;intro hK;refine stz ?_;rw [e36];exact hK z0) ?_
   iterate 2 refine AllQ.aq ?_
   refine AllQ.mk (by intro c z0 Φr Lr K;refine nrm ?_;intro hK;refine stz ?_;rw [e38];exact hK z0) ?_
   iterate 2 refine AllQ.aq ?_
   exact AllQ.nil)
  iterate 4 (first|(refine stz ?_;try intro _)|(refine sty ?_;try intro _)|(refine st ?_;try intro _))
  obtain ⟨g4,hg4⟩ : ∃ g:Nat→Int,g=fun k=>if k=6 then (((lfB t 5+lfB t 7)%2:Nat):Int) else g3 k:=⟨_,rfl⟩
  rw [← hg4]
  have e48:g4 8=_:=(congrFun hg4 8).trans e38
  refine G.giveZ (f:=g4) bq cap hcx ?_
  repeat refine sq ?_;try intro
  refine o_slice (xs:=rowZ 9 g4) 0 8 rfl rfl rfl bd0 (bdS rfl) oE (by rw [rowZ_length];decide) ?_
  intro v4
  have hfin:((rowZ 9 g4).take 8).drop 0=rowN 8 (lfB (t+1)):=by
   rw [hg4,hg3,hg2,hg1,hg0]
   rfl
  rw [hfin]
  repeat refine sq ?_;try intro
  exact G.ag (S:=RcSt) ⟨t+1,v4,w2,o2⟩ (hpre:=⟨by dsimp only;omega,hown2⟩)
def pw2:Nat→Nat
 | 0=>1
 | j+1=>2*pw2 j
theorem pw2_eq : ∀ j,pw2 j=2^j
 | 0=>rfl
 | j+1=>by rw [Nat.pow_succ,Nat.mul_comm,← pw2_eq j];rfl
structure LnSt where
 i:Nat
 h:Nat→Nat
structure PmSt where
 i:Nat
 w:Value
theorem permute04_spec (a:Nat→Nat) (ha : ∀ k,a k<18446744073709551616):FnV prog 227 [.agg (cU 25 a).toArray] [] (.agg (cU 25 (peL a 24)).toArray):=by
 obtain ⟨A,hA⟩ : ∃ A:Nat→Nat→Nat,A=fun k z=>bt (a k) z:=⟨_,rfl⟩
 have hA2 : ∀ k z,A k z<2:=fun k z=>by rw [hA];exact bt_lt _ _
 have hOn:=peB_ok (A:=A) ha (fun k _ z _=>by rw [hA]) 24 (Nat.le_refl _)
 have hq:=peL_lt a ha 24
 have hb:=bits04_spec a ha
 rw [show bR (fun k z=>bt (a k) z)=bR (peB A 0) from by rw [hA];rfl] at hb
 have hlt:=peB_lt hA2
 generalize peL a 24=q at hOn hq ⊢
 refine Fn.enter func227 rfl ntmps227 oI (fun I0 w0 => ?_)
 repeat refine sq ?_;try intro
 rename_i b1 b2
 refine o_callO rfl rfl rfl rfl hb ?_
 intro w0 o0 ho0
 refine G.giveOwn2 (Mr:=_) w0 (bR (peB A 0)) o0 3 ho0 oY oP ?_
 repeat refine sq ?_;try intro
 refine o_callO rfl rfl rfl rfl (rcs04_spec 168 oE) ?_
 intro rw o1 ho1
 refine G.giveOwn2 (Mr:=_) rw (rowN 168 rcB) o1 3 ho1 oY oP ?_
 repeat refine sq ?_;try intro
 refine W.lp (S:=PmSt) (fun s=>([fRp s.w (bR (peB A s.i)),fRp rw (rowN 168 rcB)],[(5,.int .i64 (s.i:Int)),(4,rw),(3,s.w),(2,.pointer (some ⟨b2,0,none⟩)),(1,.pointer (some ⟨b1,0,none⟩))],[(b2,Ob (cU 25 (fun _=>0)) 203),(b1,Ob (cU 25 a) 203)])) (fun s=>s.i≤24) (fun s=>24-s.i) ⟨0,w0⟩ ?_ (h0:=Nat.zero_le _)
 rintro ⟨i,w⟩ hi
 dsimp only at hi ⊢
 by_cases ei:i=24
 ·subst ei
  have e:bR (peB A 24)=bR (fun k z=>bt (q k) z):=rowZ_congr (fun n hn=>by
   dsimp only
   rw [hOn (n/64) oM (n%64) (Nat.mod_lt _ oE)])
  rw [e]
  repeat refine sq ?_;try intro
  rename_i b8
  refine W.lp (S:=LnSt) (fun s=>([fRp w (bR (fun k z=>bt (q k) z))],[(9,.int .i64 (s.i:Int)),(8,.pointer (some ⟨b8,0,none⟩)),(3,w),(2,.pointer (some ⟨b2,0,none⟩))],[(b8,Ob (cU 25 s.h) 203),(b2,Ob (cU 25 (fun _=>0)) 203)])) (fun s=>s.i≤25∧(∀ k<s.i,s.h k=q k) ∧ ∀ k,s.i≤k→s.h k=0) (fun s=>25-s.i) ⟨0,fun _=>0⟩ ?_ (h0:=⟨Nat.zero_le _,fun k h=>absurd h (Nat.not_lt_zero _),fun _ _=>rfl⟩) (hM := .cons_cons _ (.cons_cons _ (.cons _ (.refl _))))
  rintro ⟨x,h1⟩ ⟨hx,hl1,hz1⟩
  dsimp only at hx hl1 hz1 ⊢
  by_cases ex:x=25
  ·subst ex
   rw [cU_congr (g:=q) (fun i hi=>hl1 i hi)]
   repeat refine sq ?_;try intro
   refine G.retV ?_
   rfl
  ·repeat refine sq ?_;try intro
   refine W.lp (S:=LnSt) (fun s=>([fRp w (bR (fun k z=>bt (q k) z))],[(10,.int .i64 ((s.i:Int)-1)),(9,.int .i64 (x:Int)),(8,.pointer (some ⟨b8,0,none⟩)),(3,w),(2,.pointer (some ⟨b2,0,none⟩))],[(b8,Ob (cU 25 s.h) 203),(b2,Ob (cU 25 (fun _=>0)) 203)])) (fun s=>s.i≤64∧s.h x=q x/2^s.i∧(∀ k<x,s.h k=q k) ∧ ∀ k,x+1≤k→s.h k=0) (fun s=>s.i) ⟨64,h1⟩ ?_ (h0:=⟨Nat.le_refl _,by dsimp only;rw [hz1 x (Nat.le_refl _),Nat.div_eq_of_lt (hq x)],hl1,fun k hk=>hz1 k oM⟩)
   rintro ⟨m,h2⟩ ⟨hm,hx2,hl2,hz2⟩
   dsimp only at hm hx2 hl2 hz2 ⊢
   cases m with
   | zero =>
    rw [Nat.pow_zero,Nat.div_one] at hx2
    repeat refine sq ?_;try intro
    exact G.ag (S:=LnSt) ⟨x+1,h2⟩ (hpre:=⟨by dsimp only;omega,fun k hk=>by
     dsimp only at hk
     by_cases e:k=x
     ·subst e;exact hx2
     ·exact hl2 k oM,hz2⟩)
   | succ m =>
    rw [show ((m+1:Nat):Int)-1=(m:Int) from by omega]
    have hq1:=hq x
    have hb1:q x/2^(m+1)≤q x/2:=by
     rw [Nat.pow_succ,Nat.mul_comm,← Nat.div_div_eq_div_mul]
     exact Nat.div_le_self _ _
    have hb2:h2 x<9223372036854775808:=by omega
    have hb3:=bt_lt (q ((64*x+m)/64)) ((64*x+m)%64)
    have hst:=lane_step (q x) m
    rw [← hx2] at hst
    repeat refine sq ?_;try intro
    refine W.drawA 14 [dq _,dq _,dq _,dq _,dq _,dq _,dq _,dq _,dq _,dq _,dk _,dq _,dq _,dq _] [[],[],[1],[2],[3],[],[],[6],[],[7,8],[5,9],[10],[11],[4,12]] [0,13] (hrest:=fun c=>nrm ?_) (hops:=by
     iterate 14 refine AllQ.aq ?_
     exact AllQ.nil)
    repeat refine sq ?_;try intro
    exact G.ag (S:=LnSt) ⟨m,fun k=>if k=x then 2*h2 x+bt (q ((64*x+m)/64)) ((64*x+m)%64) else h2 k⟩ (hpre:=⟨by dsimp only;omega,by
     dsimp only
     rw [if_pos rfl,hst,show (64*x+m)/64=x from by omega,show (64*x+m)%64=m from by omega],fun k hk=>by
     dsimp only
     rw [if_neg oM];exact hl2 k hk,fun k hk=>by
     dsimp only
     rw [if_neg oM];exact hz2 k hk⟩)
 ·have h1:=Fn.given (theta04_spec w (peB A i) (hlt i))
  have h2:=fun u=>Fn.given (rho04_spec u (thB (peB A i)))
  have h3:=fun u=>Fn.given (pi04_spec u (rhB (thB (peB A i)) 24))
  have h4:=fun u=>chi04_spec u (piB (rhB (thB (peB A i)) 24)) (fun k z=>rhB_lt (thB_lt _) 24 _ _)
  have hc:=chB_lt (piB (rhB (thB (peB A i)) 24))
  have hs:peB A (i+1)=ioB (chB (piB (rhB (thB (peB A i)) 24))) i 7:=rfl
  generalize chB (piB (rhB (thB (peB A i)) 24))=B at h4 hc hs
  have hio:=ioB_lt hc i
  repeat refine sq ?_;try intro
  refine o_callD rfl rfl rfl rfl h1 ?_
  intro u1
  repeat refine sq ?_;try intro
  refine o_callD rfl rfl rfl rfl (h2 u1) ?_
  intro u2
  repeat refine sq ?_;try intro
  refine o_callD rfl rfl rfl rfl (h3 u2) ?_
  intro u3
  repeat refine sq ?_;try intro
  refine o_callO rfl rfl rfl rfl (h4 u3) ?_
  intro u4 o4 ho4
  rw [show (bR B).length=1600 from rowZ_length _ _] at ho4
  refine G.ownZ (f:=fun n=>((B (n/64) (n%64):Nat):Int)) oE ho4 ?_
  intro bz ex cap e1 e2 hcx
  subst e1 e2
  dsimp only [ownM,List.cons_append,List.nil_append,ocells]
  repeat refine sq ?_;try intro
  refine W.lp (S:=BtSt) (fun s=>([fRp rw (rowN 168 rcB)],[(7,.int .i64 (s.i:Int)),(6,.int .i64 ((pw2 s.i:Nat):Int)),(5,.int .i64 (i:Int)),(4,rw),(3,.slice (some ⟨bz,0,none⟩) 1600 cap),(2,.pointer (some ⟨b2,0,none⟩)),(1,.pointer (some ⟨b1,0,none⟩))],[(b2,Ob (cU 25 (fun _=>0)) 203),(b1,Ob (cU 25 a) 203),(bz,Ob (cIx (rowZ 1600 s.g) ex) 3)])) (fun s=>s.i≤7 ∧ ∀ n<1600,s.g n=((ioB B i s.i (n/64) (n%64):Nat):Int)) (fun s=>7-s.i) ⟨0,fun n=>((B (n/64) (n%64):Nat):Int)⟩ ?_ (h0:=⟨Nat.zero_le _,fun n _=>rfl⟩)
  rintro ⟨j,g⟩ ⟨hj,hg⟩
  dsimp only at hj hg ⊢
  by_cases ej:j=7
  ·subst ej
   have e:rowZ 1600 g=bR (peB A (i+1)):=by rw [hs];exact rowZ_congr (fun n hn=>hg n hn)
   refine W.bare (G.giveZ bz cap hcx ?_)
   refine G.code ?_
   rw [e]
   repeat refine sq ?_;try intro
   exact G.ag (S:=PmSt) ⟨i+1,.slice (some ⟨bz,0,none⟩) 1600 cap⟩
  ·have hpe:=pw2_eq j
   have hp1:1≤pw2 j:=by rw [hpe];exact Nat.one_le_two_pow
   have hp2:pw2 j≤64:=by rw [hpe];exact Nat.pow_le_pow_right (n:=2) oE (show j≤6 by omega)
   have hgv:=hg (pw2 j-1) oM
   have hb1:=hio j ((pw2 j-1)/64) ((pw2 j-1)%64)
   have hb2:rcB (j+7*i)<2:=lfB_lt _ 0
   have hsj : ∀ k z,ioB B i (j+1) k z=if k=0∧z=pw2 j-1 then (ioB B i j 0 z+rcB (j+7*i))%2 else ioB B i j k z:=fun k z=>by rw [hpe];rfl
   have hsp:pw2 (j+1)=2*pw2 j:=rfl
   generalize pw2 j=p at hpe hp1 hp2 hgv hb1 hsj hsp ⊢
   repeat refine sq ?_;try intro
   refine W.drawA 17 [dq _,dq _,dq _,dq _,dq _,dq _,dq _,dq _,dq _,dq _,dq _,dq _,dq _,dk _,dq _,dq _,dq _] [[],[],[1],[],[],[4],[3,5],[6],[],[],[],[10],[9,11],[8,12],[13],[7,14],[15]] [0,2,16] (hrest:=fun c=>nrm ?_) (hops:=by
    iterate 7 refine AllQ.aq ?_
    refine AllQ.mk (by intro c z0 Φr Lr K;refine nrm ?_;intro hK;refine stz ?_;rw [hgv];exact hK z0) ?_
    iterate 9 refine AllQ.aq ?_
    exact AllQ.nil)
   repeat refine sq ?_;try intro
   exact G.ag (S:=BtSt) ⟨j+1,fun k=>if k=p-1 then (((ioB B i j ((p-1)/64) ((p-1)%64)+rcB (j+7*i))%2:Nat):Int) else g k⟩ (hpre:=⟨by dsimp only;omega,fun n hn=>by
    dsimp only
    rw [hsj]
    by_cases e:n=p-1
    ·subst e
     rw [if_pos rfl,show (p-1)/64=0 from by omega,show (p-1)%64=p-1 from by omega,if_pos ⟨rfl,rfl⟩]
    ·rw [if_neg e,if_neg oM]
     exact hg n hn⟩) (hL:=lC rfl (lC (by dsimp only;rw [hsp];rfl) (lC rfl (lC rfl (lC rfl (lC rfl (lC rfl lN)))))))
end Go.Rail
namespace Go.Rail
open Go Go.Proofs Tryz
set_option maxHeartbeats 400000
set_option maxRecDepth 4000
attribute [local irreducible] OpK G W LW wpListIn Exit.then Exit.inBlock Post rounds opRun bodyPostM intOp
set_option maxHeartbeats 2000000
theorem u8_p128 {x:UInt8} (h:x.toNat≤1):intOp .add .u8 ((x.toNat:Nat):Int) 128=some (.int .u8 (((x+128).toNat:Nat):Int)):=by
 have e:(x+128).toNat=x.toNat+128:=by rw [UInt8.toNat_add];show (x.toNat+128)%256=_;omega
 have e2:IntKind.u8.wrap ((x.toNat:Int)+128)=(x.toNat:Int)+128:=by
  simp [IntKind.wrap,IntKind.signed,IntKind.bits]
  omega
 rw [e]
 simp [intOp,e2]
theorem moD_le (n i:Nat):((moD n).getD i 0).toNat≤1:=by
 unfold moD
 rw [List.getD_eq_getElem?_getD,List.getElem?_set]
 split
 ·split<;>decide
 ·rw [List.getElem?_replicate]
  split<;>decide
theorem pad04_spec (s:List UInt8) (hs:s.length≤10000000):FnV prog 226 [.string (ba s)] [] (.string (ba (padL s))):=by
 have he:=pad_eq s
 rw [← he]
 obtain ⟨n,hn⟩ : ∃ n,n=136-s.length%136:=⟨_,rfl⟩
 have hn1:1≤n∧n≤136:=by omega
 have hl:(moD n).length=n:=by simp [moD]
 have hq:n-1<(moD n).length:=by omega
 have hg:(moD n).getD (n-1) 0=(moD n)[n-1]:=by rw [List.getD_eq_getElem?_getD,List.getElem?_eq_getElem hq];rfl
 have hle:=moD_le n (n-1)
 rw [hg] at hle
 rw [← hn,hg]
 clear he
 refine Fn.enter func226 rfl ntmps226 oI (fun I0 w0 => ?_)
 repeat refine sq ?_;try intro
 rw [← hn]
 refine o_makeKd n rfl rfl rfl rfl rfl rfl oM ?_
 intro b
 repeat refine sq ?_;try intro
 refine o_storeKd (c:=1) (Mr:=[]) rfl rfl rfl rfl oX oP ?_
 rw [show (List.replicate n (0:UInt8)).set 0 1=moD n from rfl]
 repeat refine sq ?_;try intro
 refine o_loadKd rfl rfl rfl hq ?_
 repeat refine sq ?_;try intro
 refine o_int rfl rfl rfl rfl (u8_p128 hle) ?_
 repeat refine sq ?_;try intro
 refine o_storeKd (c:=(moD n)[n-1]+128) (Mr:=[]) rfl rfl rfl rfl hq oP ?_
 refine G.giveB b 5 false ((moD n).set (n-1) ((moD n)[n-1]+128)) [] (Mr:=[]) oP ?_
 rw [List.length_set,hl]
 repeat refine sq ?_;try intro
 refine G.retV ?_
 rfl
def hv8 (x:Nat):Nat→Nat
 | 0=>x
 | k+1=>hv8 x k/256
theorem hv8_eq (x:Nat) : ∀ k,hv8 x k=x/2^(8*k)
 | 0=>by rw [Nat.mul_zero,Nat.pow_zero,Nat.div_one];rfl
 | k+1=>by
  rw [show 8*(k+1)=8*k+8 from by omega,Nat.pow_add,← Nat.div_div_eq_div_mul,← hv8_eq x k];rfl
theorem hi_at (l:List UInt8) (m:Nat) (h:m<8):hiD l (8-m)=256*hiD l (8-(m+1))+(l.getD m 0).toNat:=by
 rw [show 8-m=(8-(m+1))+1 from by omega]
 show 256*hiD l (8-(m+1))+(l.getD (7-(8-(m+1))) 0).toNat=_
 rw [show 7-(8-(m+1))=m from by omega]
theorem sub_at (l:List UInt8) (a b c d m:Nat) (h:c+m<d) (h2:a+c+m<b) (h3:b≤l.length) (h4:d≤b-a):(((((l.take b).drop a).take d).drop c).getD m 0)=l[a+c+m]'(by omega):=by
 rw [List.getD_eq_getElem?_getD,List.getElem?_drop,List.getElem?_take_of_lt h,List.getElem?_drop,List.getElem?_take_of_lt oM,show a+(c+m)=a+c+m from by omega,List.getElem?_eq_getElem oM]
 rfl
structure HsSt where
 i:Nat
 w:Value
 o:OR
theorem hash04_spec (s:List UInt8) (hs:s.length≤1048576):FnV prog 135 [.string (ba s)] [] (.string (ba (keccakL s))):=by
 have hp:=pad04_spec s oM
 have hm:=padL_mod s
 have hl:(padL s).length≤1048576+200:=by rw [padL_len];have:padZ s.length<136:=Nat.mod_lt _ oE;omega
 unfold keccakL
 generalize padL s=l at hp hm hl ⊢
 refine Fn.enter func135 rfl ntmps135 oI (fun I0 w0 => ?_)
 repeat refine sq ?_;try intro
 refine cV hp ?_
 repeat refine sq ?_;try intro
 rename_i b4
 refine W.lp (S:=Nat) (fun k=>([],[(5,.int .i64 ((136*k:Nat):Int)),(4,.pointer (some ⟨b4,0,none⟩)),(3,.string (ba l))],[(b4,Ob (cU 25 (smL l k)) 203)])) (fun k=>k≤l.length/136) (fun k=>l.length/136-k) 0 ?_ (h0:=Nat.zero_le _)
 intro k hk
 dsimp only
 have hlt:=smL_lt l k
 by_cases ek:k=l.length/136
 ·subst ek
  generalize smL l (l.length/136)=q at hlt ⊢
  repeat refine sq ?_;try intro
  refine W.lp (S:=HsSt) (fun s=>([fRow (ocells s.o) ((List.range (8*s.i)).map (outL q))],[(10,.int .i64 (s.i:Int)),(9,s.w),(4,.pointer (some ⟨b4,0,none⟩))],(b4,Ob (cU 25 q) 203)::ownM 5 s.o)) (fun s=>s.i≤4∧IsOwn 1 s.w ((List.range (8*s.i)).map (outL q)).length s.o) (fun s=>4-s.i) ⟨0,.slice none 0 0,none⟩ ?_ (h0:=⟨Nat.zero_le _,rfl,rfl⟩) (hΦ:=by show Ents _ [fRow [] ([]:List UInt8)];infer_instance)
  rintro ⟨i,w,o⟩ ⟨hi,hown⟩
  dsimp only at hi hown ⊢
  by_cases ei:i=4
  ·subst ei
   refine W.bare (G.giveOwn2 (Mr:=[(b4,Ob (cU 25 q) 203)]) w ((List.range 32).map (outL q)) o 5 hown oY oP ?_)
   refine G.code ?_
   repeat refine sq ?_;try intro
   refine G.retV ?_
   rfl
  ·have hqi:=hlt i
   repeat refine sq ?_;try intro
   refine W.lp (S:=HsSt) (fun s=>([fRow (ocells s.o) ((List.range (8*i+s.i)).map (outL q))],[(12,.int .i64 (s.i:Int)),(11,.int .u64 ((hv8 (q i) s.i:Nat):Int)),(10,.int .i64 (i:Int)),(9,s.w),(4,.pointer (some ⟨b4,0,none⟩))],(b4,Ob (cU 25 q) 203)::ownM 5 s.o)) (fun s=>s.i≤8∧IsOwn 1 s.w ((List.range (8*i+s.i)).map (outL q)).length s.o) (fun s=>8-s.i) ⟨0,w,o⟩ ?_ (h0:=⟨Nat.zero_le _,hown⟩)
   rintro ⟨z,w2,o2⟩ ⟨hz,hown2⟩
   dsimp only at hz hown2 ⊢
   by_cases ez:z=8
   ·subst ez
    repeat refine sq ?_;try intro
    exact G.ag (S:=HsSt) ⟨i+1,w2,o2⟩ (hpre:=⟨by dsimp only;omega,hown2⟩)
   ·have hst:hv8 (q i) (z+1)=hv8 (q i) z/256:=rfl
    have hout:Value.int .u8 ((hv8 (q i) z%256:Nat):Int) = .int .u8 (((outL q (8*i+z)).toNat:Nat):Int):=by
     unfold outL
     rw [UInt8.toNat_ofNat',Nat.mod_mod_of_dvd _ oE,hv8_eq,show (8*i+z)/8=i from by omega,show (8*i+z)%8=z from by omega]
    have hv:=hv8_eq (q i) z
    have hb:hv8 (q i) z<18446744073709551616:=by rw [hv];exact Nat.lt_of_le_of_lt (Nat.div_le_self _ _) hqi
    have hap:(List.range (8*i+z)).map (outL q)++[outL q (8*i+z)]=(List.range (8*i+(z+1))).map (outL q):=by
     rw [show 8*i+(z+1)=(8*i+z)+1 from by omega,List.range_succ,List.map_append];rfl
    generalize hv8 (q i) z=x at hst hout hb ⊢
    repeat refine sq ?_;try intro
    refine o_litV (xs:=[outL q (8*i+z)]) rfl rfl rfl (.cons hout .nil) oY oY rfl rfl ?_
    intro u
    repeat refine sq ?_;try intro
    refine o_app2 (Mr:=[(b4,Ob (cU 25 q) 203)]) o2 (xs:=(List.range (8*i+z)).map (outL q)) (ys:=[outL q (8*i+z)]) hown2 ⟨by simp;omega,by simp;omega,rfl⟩ rfl rfl rfl rfl oY oY oP ?_
    intro w3 o3 hown3
    rw [hap] at hown3 ⊢
    refine nA ?_
    repeat refine sq ?_;try intro
    rw [← hst]
    exact G.ag (S:=HsSt) ⟨z+1,w3,o3⟩ (hpre:=⟨by dsimp only;omega,hown3⟩)
 ·have hk1:k<l.length/136:=by omega
  have hk2:136*k+136≤l.length:=by omega
  have hsm:smL l (k+1)=peL (abL (smL l k) ((l.take (136*k+136)).drop (136*k)) 17) 24:=rfl
  generalize hq1:smL l (k+1)=q1 at hsm
  generalize smL l k=q at hlt hsm ⊢
  obtain ⟨ck,hck⟩ : ∃ ck,ck=(l.take (136*k+136)).drop (136*k):=⟨_,rfl⟩
  rw [← hck] at hsm
  repeat refine sq ?_;try intro
  refine W.lp (S:=Nat) (fun i=>([],[(6,.int .i64 (i:Int)),(5,.int .i64 ((136*k:Nat):Int)),(4,.pointer (some ⟨b4,0,none⟩)),(3,.string (ba l))],[(b4,Ob (cU 25 (abL q ck i)) 203)])) (fun i=>i≤17) (fun i=>17-i) 0 ?_ (h0:=Nat.zero_le _)
  intro i hi
  dsimp only
  by_cases ei:i=17
  ·subst ei
   have hpe:=permute04_spec (abL q ck 17) (abL_lt q ck hlt 17)
   rw [← hsm] at hpe
   generalize abL q ck 17=q2 at hpe ⊢
   repeat (first|refine stu ?_|(refine sty ?_;try intro _)|(refine st ?_;try intro _)|(refine stz ?_;try intro _)|(refine stq ?_;try intro _))
   refine cV hpe ?_
   repeat (first|refine stu ?_|(refine sty ?_;try intro _)|(refine st ?_;try intro _)|(refine stz ?_;try intro _)|(refine stq ?_;try intro _))
   rw [← hq1]
   exact G.ag (S:=Nat) (k+1)
  ·have hs1:abL q ck (i+1)=fun k=>if k=i then abL q ck i i^^^lowS ((ck.take (8*i+8)).drop (8*i)) 8 else abL q ck i k:=rfl
   have h1:=abL_lt q ck hlt i i
   obtain ⟨c8,hc8⟩ : ∃ c8,c8=(ck.take (8*i+8)).drop (8*i):=⟨_,rfl⟩
   rw [← hc8,← hi_low] at hs1
   have hat : ∀ m (hm:m<8),c8.getD m 0=l[136*k+8*i+m]'(by omega):=fun m hm=>by
    rw [hc8,hck]
    exact sub_at l (136*k) (136*k+136) (8*i) (8*i+8) m oM oM hk2 oM
   generalize hq3:abL q ck (i+1)=q3 at hs1
   generalize abL q ck i=q2 at h1 hs1 ⊢
   repeat refine sq ?_;try intro
   refine W.lp (S:=Nat) (fun m=>([],[(8,.int .i64 ((m:Int)-1)),(7,.int .u64 ((hiD c8 (8-m):Nat):Int)),(6,.int .i64 (i:Int)),(5,.int .i64 ((136*k:Nat):Int)),(4,.pointer (some ⟨b4,0,none⟩)),(3,.string (ba l))],[(b4,Ob (cU 25 q2) 203)])) (fun m=>m≤8) (fun m=>m) 8 ?_ (h0:=Nat.le_refl _)
   intro m hm8
   dsimp only
   cases m with
   | zero =>
    have hb:=hiD_lt c8 8
    rw [show (256:Nat)^8=18446744073709551616 from rfl] at hb
    rw [Nat.sub_zero]
    generalize hiD c8 8=x at hb hs1 ⊢
    repeat refine sq ?_;try intro
    rw [← hs1,← hq3]
    exact G.ag (S:=Nat) (i+1)
   | succ m =>
    have hst:=hi_at c8 m oM
    have hb:=hiD_lt c8 (8-(m+1))
    have hb2:(256:Nat)^(8-(m+1))≤256^7:=Nat.pow_le_pow_right oE oM
    rw [show (256:Nat)^7=72057594037927936 from rfl] at hb2
    have hidx:136*k+8*i+m<l.length:=by omega
    have hb3:=(l[136*k+8*i+m]'hidx).toNat_lt
    rw [hat m oM] at hst
    rw [show ((m+1:Nat):Int)-1=(m:Int) from by omega]
    generalize hiD c8 (8-(m+1))=x at hst hb ⊢
    repeat refine sq ?_;try intro
    rw [← hst]
    exact G.ag (S:=Nat) m
end Go.Rail
