/- keccak: lanes, places, turns. -/
import Derived.Test.YtjhdodkagchhkaaGreatDoorRailA
import Derived.Test.YtjhdodkagchhkaaGreatDoorRailI
import Derived.Test.YtjhdodkagchhkaaGreatDoorABIBJ
import Derived.Test.YtjhdodkagchhkaaGreatDoorAB4B7
set_option linter.unusedSimpArgs false
set_option linter.unusedVariables false
namespace Go.Rail
open Go Go.Proofs Tryz
set_option maxHeartbeats 400000
set_option maxRecDepth 4000
attribute [local irreducible] OpK G W LW wpListIn Exit.then Exit.inBlock Post rounds opRun bodyPostM intOp
set_option maxHeartbeats 2000000
theorem lane_spec (x y:Nat) (hx:x≤1000) (hy:y≤1000):FnV prog 143 [.int .i64 (x:Int),.int .i64 (y:Int)] [] (.int .i64 ((5*(y%5)+x%5:Nat):Int)):=by
 refine Fn.enter func143 rfl ntmps143 oI (fun I0 w0 => ?_)
 repeat refine sq ?_;try intro
 refine G.retV ?_
 rfl
def rotN (a k:Nat):Nat:=a*2^(k%64)%18446744073709551616|||a/2^(64-k%64)
theorem rotN_lt (a k:Nat) (ha:a<18446744073709551616):rotN a k<18446744073709551616:=by
 unfold rotN
 refine Nat.or_lt_two_pow (n:=64) (Nat.mod_lt _ oE) ?_
 exact Nat.lt_of_le_of_lt (Nat.div_le_self _ _) ha
theorem rotl_spec (a k:Nat) (ha:a<18446744073709551616) (hk:k≤1000) (h0:0<k%64):FnV prog 144 [.int .u64 (a:Int),.int .i64 (k:Int)] [] (.int .u64 ((rotN a k:Nat):Int)):=by
 have hd:a/2^(64-k%64)<18446744073709551616:=Nat.lt_of_le_of_lt (Nat.div_le_self _ _) ha
 have hm:a*2^(k%64)%18446744073709551616<18446744073709551616:=Nat.mod_lt _ oE
 have h63:k&&&63=k%64:=Nat.and_two_pow_sub_one_eq_mod k 6
 unfold rotN
 refine Fn.enter func144 rfl ntmps144 oI (fun I0 w0 => ?_)
 repeat refine sq ?_;try intro
 rw [h63]
 refine o_int rfl rfl rfl rfl (w_or hm hd) ?_
 repeat refine sq ?_;try intro
 refine G.retV ?_
 rfl
def pl25:List (List Value):=(List.range 25).map fun (i:Nat)=>[.int .i64 ((i%5:Nat):Int),.int .i64 ((i/5:Nat):Int)]
theorem pl25_len:pl25.length=25:=by simp [pl25]
theorem pl25_two : ∀ vs∈pl25,vs.length=2:=by
 intro vs h
 obtain ⟨p,_,rfl⟩:=List.mem_map.1 h
 rfl
theorem pl25_at (k:Nat) (h:k<pl25.length):pl25[k]=[.int .i64 ((k%5:Nat):Int),.int .i64 ((k/5:Nat):Int)]:=by simp [pl25]
theorem kplaces1_spec:IterR prog 230 [] pl25 []:=by
 intro y T Z hy s0 hs0
 rw [pl25_len]
 show Fn _ _ _ s0.1 _ _
 refine Fn.enter func230 rfl ntmps230 oI (fun I0 w0 => ?_)
 repeat refine sq ?_;try intro
 refine W.lp (S:=Nat × St) (fun i=>(i.2.1,[(3,.int .i64 (i.1:Int)),(0,.func (.yield y) #[] #[])],i.2.2)) (fun i=>i.1≤25∧T i.1 i.2) (fun i=>25-i.1) (0,s0) ?_ (h0:=⟨Nat.zero_le _,hs0⟩) (hΦ:=⟨fun I hp φ hφ=>hp φ hφ⟩) (hM:=List.Sublist.refl _)
 rintro ⟨k,sa⟩ ⟨hk,hT⟩
 dsimp only at hk hT ⊢
 by_cases hke:k=25
 ·subst hke
  repeat refine sq ?_;try intro
  exact G.fin rfl .nil (Φ':=sa.1) (M':=sa.2) ⟨fun I hp φ hφ=>hp φ hφ⟩ oZ (.inl hT)
 ·have hyk:=hy k (by rw [pl25_len];omega) sa hT
  rw [pl25_at] at hyk
  repeat refine sq ?_;try intro
  refine o_yieldR (Mr:=[]) rfl rfl rfl rfl hyk (fun I hp φ hφ=>hp φ hφ) oI ?_ ?_
  ·intro st2 hst2
   rw [List.append_nil]
   refine G.weaken (Φ':=st2.1) ?_ (fun φ hφ=>List.mem_append_left _ hφ) (fun _ _ h=>h) oZ
   repeat refine sq ?_;try intro
   exact G.ag (S:=Nat × St) (k+1,st2) (hpre:=⟨by dsimp only;omega,hst2⟩) (hΦ:=⟨fun I hp φ hφ=>hp φ hφ⟩) (hM:=List.Sublist.refl _)
  ·intro s hs
   rw [List.append_nil]
   repeat refine sq ?_;try intro
   exact G.ret rfl .nil (Φ':=s.1) (M':=s.2) ⟨fun I hp φ hφ=>hp φ (List.mem_append_left _ hφ)⟩ oZ (.inr hs)
theorem kplaces_spec:FnV prog 142 [] [] (.func (.func 230) #[] #[]):=by
 refine Fn.enter func142 rfl ntmps142 oI (fun I0 w0 => ?_)
 repeat refine sq ?_;try intro
 refine G.retV ?_
 rfl
def thC (a:Nat→Nat):Nat→Nat→Nat
 | 0=>fun _=>0
 | i+1=>fun k=>if k=i%5 then thC a i (i%5)^^^a i else thC a i k
def thA (a:Nat→Nat):Nat→Nat→Nat
 | 0=>a
 | i+1=>fun k=>if k=i then thA a i i^^^(thC a 25 ((i%5+5-1)%5)^^^rotN (thC a 25 ((i%5+1)%5)) 1) else thA a i k
theorem thC_lt (a:Nat→Nat) (ha : ∀ k,a k<18446744073709551616) : ∀ i k,thC a i k<18446744073709551616
 | 0,_=>(by decide:(0:Nat)<18446744073709551616)
 | i+1,k=>by
  unfold thC
  split
  ·exact Nat.xor_lt_two_pow (n:=64) (thC_lt a ha i _) (ha i)
  ·exact thC_lt a ha i k
theorem thA_lt (a:Nat→Nat) (ha : ∀ k,a k<18446744073709551616) : ∀ i k,thA a i k<18446744073709551616
 | 0,k=>ha k
 | i+1,k=>by
  unfold thA
  split
  ·exact Nat.xor_lt_two_pow (n:=64) (thA_lt a ha i _) (Nat.xor_lt_two_pow (n:=64) (thC_lt a ha 25 _) (rotN_lt _ _ (thC_lt a ha 25 _)))
  ·exact thA_lt a ha i k
theorem theta_spec (a:Nat→Nat) (ha : ∀ k,a k<18446744073709551616):FnV prog 80 [.agg (cU 25 a).toArray] [] (.agg (cU 25 (thA a 25)).toArray):=by
 refine Fn.enter func80 rfl ntmps80 oI (fun I0 w0 => ?_)
 repeat refine sq ?_;try intro
 refine cV kplaces_spec ?_
 repeat refine sq ?_;try intro
 rename_i b1 b2 b3
 refine W.rangeFuncR (enc:=pl25) (ps:=[9,10]) (Φi:=[]) (Mr:=[]) (fun k s=>s=([],[(b3,Ob (cU 5 (thC a k)) 221),(b2,Ob (cU 25 (fun _=>0)) 89),(b1,Ob (cU 25 a) 89)])) (fun _ _=>False) rfl kplaces1_spec oE pl25_two oY ([],[(b3,Ob (cU 5 (thC a 0)) 221),(b2,Ob (cU 25 (fun _=>0)) 89),(b1,Ob (cU 25 a) 89)]) rfl oY oP ?_ ?_ ?_
 ·rintro y rec I0' w0' k hk _ rfl
  rw [pl25_len] at hk
  have hl:=lane_spec (k%5) (k/5) oM oM
  rw [show 5*(k/5%5)+k%5%5=k from by omega] at hl
  have h1:=thC_lt a ha k (k%5)
  have h2:=ha k
  dsimp only
  rw [pl25_at k (by rw [pl25_len];exact hk)]
  show W _ _ _ _ ((10,.int .i64 ((k/5:Nat):Int))::(9,.int .i64 ((k%5:Nat):Int))::_) _
  repeat refine sq ?_;try intro
  refine G.begin (by rfl) ?_
  repeat refine sq ?_;try intro
  refine W.drawA 8 [dq _,dq _,dq _,dq _,dq _,dq _,dq _,dq _] [[],[0],[1],[],[],[3,4],[5],[6]] [0,2,7] (hrest:=fun c=>nrm ?_) (hops:=by
   iterate 5 refine AllQ.aq ?_
   refine AllQ.mk (by intro c z0 Φr Lr K;refine nrm ?_;intro hK;refine cV hl ?_;exact hK z0) ?_
   iterate 2 refine AllQ.aq ?_
   exact AllQ.nil)
  repeat refine sq ?_;try intro
  refine G.roundEnd oY (Φ':=[]) (M'':=[(b3,Ob (cU 5 (thC a (k+1))) 221),(b2,Ob (cU 25 (fun _=>0)) 89),(b1,Ob (cU 25 a) 89)]) ?_ oY (by first|exact List.Sublist.refl _|exact .cons _ oZ)
  exact Or.inl ⟨rfl,([],[(b3,Ob (cU 5 (thC a (k+1))) 221),(b2,Ob (cU 25 (fun _=>0)) 89),(b1,Ob (cU 25 a) 89)]),rfl,rfl⟩
 ·rintro D _ rfl
  rw [pl25_len]
  dsimp only [List.nil_append,List.cons_append]
  repeat refine sq ?_;try intro
  refine cV kplaces_spec ?_
  repeat refine sq ?_;try intro
  refine W.rangeFuncR (enc:=pl25) (ps:=[22,23]) (Φi:=[]) (Mr:=[(D,.deferred (some []))]) (fun k s=>s=([],[(b3,Ob (cU 5 (thC a 25)) 221),(b2,Ob (cU 25 (fun _=>0)) 89),(b1,Ob (cU 25 (thA a k)) 89)])) (fun _ _=>False) rfl kplaces1_spec oE pl25_two oY ([],[(b3,Ob (cU 5 (thC a 25)) 221),(b2,Ob (cU 25 (fun _=>0)) 89),(b1,Ob (cU 25 (thA a 0)) 89)]) rfl oY oP ?_ ?_ ?_
  ·rintro y rec I0' w0' k hk _ rfl
   rw [pl25_len] at hk
   have hl:=lane_spec (k%5) (k/5) oM oM
   rw [show 5*(k/5%5)+k%5%5=k from by omega] at hl
   have h1:=thC_lt a ha 25 ((k%5+5-1)%5)
   have h2:=thA_lt a ha k k
   have h3:=thC_lt a ha 25 ((k%5+1)%5)
   have hr:=rotl_spec (thC a 25 ((k%5+1)%5)) 1 h3 oE oE
   rw [show ((1:Nat):Int)=1 from rfl] at hr
   have h4:=rotN_lt (thC a 25 ((k%5+1)%5)) 1 h3
   have h5:thC a 25 ((k%5+5-1)%5)^^^rotN (thC a 25 ((k%5+1)%5)) 1<18446744073709551616:=Nat.xor_lt_two_pow (n:=64) h1 h4
   dsimp only
   rw [pl25_at k (by rw [pl25_len];exact hk)]
   show W _ _ _ _ ((23,.int .i64 ((k/5:Nat):Int))::(22,.int .i64 ((k%5:Nat):Int))::_) _
   repeat refine sq ?_;try intro
   refine G.begin (by rfl) ?_
   repeat refine sq ?_;try intro
   refine W.drawA 18 [dq _,dq _,dq _,dq _,dq _,dq _,dq _,dq _,dq _,dq _,dq _,dq _,dq _,dq _,dq _,dq _,dq _,dq _] [[],[],[0,1],[2],[3],[],[5],[6],[7],[8],[9],[],[11],[12],[13],[14],[15],[10,16]] [2,4,17] (hrest:=fun c=>nrm ?_) (hops:=by
    iterate 2 refine AllQ.aq ?_
    refine AllQ.mk (by intro c z0 Φr Lr K;refine nrm ?_;intro hK;refine cV hl ?_;exact hK z0) ?_
    iterate 13 refine AllQ.aq ?_
    refine AllQ.mk (by intro c z0 Φr Lr K;refine nrm ?_;intro hK;refine cV hr ?_;exact hK z0) ?_
    iterate 1 refine AllQ.aq ?_
    exact AllQ.nil)
   repeat refine sq ?_;try intro
   refine G.roundEnd oY (Φ':=[]) (M'':=[(b3,Ob (cU 5 (thC a 25)) 221),(b2,Ob (cU 25 (fun _=>0)) 89),(b1,Ob (cU 25 (thA a (k+1))) 89)]) ?_ oY (by first|exact List.Sublist.refl _|exact .cons _ oZ)
   exact Or.inl ⟨rfl,([],[(b3,Ob (cU 5 (thC a 25)) 221),(b2,Ob (cU 25 (fun _=>0)) 89),(b1,Ob (cU 25 (thA a (k+1))) 89)]),rfl,rfl⟩
  ·rintro D2 _ rfl
   rw [pl25_len]
   dsimp only [List.nil_append,List.cons_append]
   repeat refine sq ?_;try intro
   refine G.unmark oY ?_
   refine G.unmark oY ?_
   refine G.retV ?_
   rfl
  ·intro D c s h
   exact h.elim
 ·intro D c s h
  exact h.elim
end Go.Rail
namespace Go.Rail
open Go Go.Proofs Tryz
set_option maxHeartbeats 400000
set_option maxRecDepth 4000
attribute [local irreducible] OpK G W LW wpListIn Exit.then Exit.inBlock Post rounds opRun bodyPostM intOp
set_option maxHeartbeats 2000000
def xyT:Nat→Nat × Nat
 | 0=>(1,0)
 | t+1=>((xyT t).2,(2*(xyT t).1+3*(xyT t).2)%5)
theorem xyT_lt : ∀ t,(xyT t).1<5∧(xyT t).2<5
 | 0=>by decide
 | t+1=>⟨(xyT_lt t).2,Nat.mod_lt _ oE⟩
def tuL (a:Nat→Nat):Nat→Nat→Nat
 | 0=>fun k=>if k=0 then a 0 else 0
 | t+1=>fun k=>if k=5*((xyT (t+1)).2%5)+(xyT t).2%5 then rotN (a (5*((xyT t).2%5)+(xyT t).1%5)) ((t+1)*(t+2)/2) else tuL a t k
theorem tuL_lt (a:Nat→Nat) (ha : ∀ k,a k<18446744073709551616) : ∀ i k,tuL a i k<18446744073709551616
 | 0,k=>by
  unfold tuL
  split
  ·exact ha 0
  ·decide
 | i+1,k=>by
  unfold tuL
  split
  ·exact rotN_lt _ _ (ha _)
  ·exact tuL_lt a ha i k
theorem rot_ok : ∀ t<24,0<(t+1)*(t+2)/2%64∧(t+1)*(t+2)/2≤1000:=of_decide_eq_true kR
theorem turn_spec (a:Nat→Nat) (ha : ∀ k,a k<18446744073709551616):FnV prog 79 [.agg (cU 25 a).toArray] [] (.agg (cU 25 (tuL a 24)).toArray):=by
 refine Fn.enter func79 rfl ntmps79 oI (fun I0 w0 => ?_)
 repeat refine sq ?_;try intro
 rename_i b1 b2
 refine W.lp (S:=Nat) (fun t=>([],[(10,.int .i64 (t:Int)),(4,.int .i64 ((xyT t).2:Int)),(3,.int .i64 ((xyT t).1:Int)),(2,.pointer (some ⟨b2,0,none⟩)),(1,.pointer (some ⟨b1,0,none⟩))],[(b2,Ob (cU 25 (tuL a t)) 89),(b1,Ob (cU 25 a) 89)])) (fun t=>t≤24) (fun t=>24-t) 0 ?_ (h0:=Nat.zero_le _)
 intro t ht
 dsimp only
 by_cases hte:t=24
 ·subst hte
  repeat refine sq ?_;try intro
  refine G.retV ?_
  rfl
 ·obtain ⟨hx,hy⟩:=xyT_lt t
  obtain ⟨hn1,hn2⟩:=xyT_lt (t+1)
  have he:(xyT (t+1)).2=(2*(xyT t).1+3*(xyT t).2)%5:=rfl
  have hl1:=lane_spec (xyT t).2 (xyT (t+1)).2 oM oM
  have hl2:=lane_spec (xyT t).1 (xyT t).2 oM oM
  obtain ⟨hr1,hr2⟩:=rot_ok t oM
  have hrt:=rotl_spec (a (5*((xyT t).2%5)+(xyT t).1%5)) ((t+1)*(t+2)/2) (ha _) hr2 hr1
  have hmul:(t+1)*(t+2)≤24*25:=Nat.mul_le_mul oM oM
  rw [he] at hl1 hn2
  repeat refine sq ?_;try intro
  refine cV hl1 ?_
  repeat refine sq ?_;try intro
  refine cV hl2 ?_
  repeat refine sq ?_;try intro
  refine o_int rfl rfl rfl rfl (n_quo (b:=2) oE (by show (((t+1)*(t+2):Nat):Int)≤9223372036854775807;omega)) ?_
  repeat refine sq ?_;try intro
  refine cV hrt ?_
  repeat refine sq ?_;try intro
  exact G.ag (S:=Nat) (t+1)
def chA (a:Nat→Nat):Nat→Nat→Nat
 | 0=>fun _=>0
 | i+1=>fun k=>if k=i then a i^^^(a (5*(i/5%5)+(i%5+2)%5)&&&(18446744073709551615-a (5*(i/5%5)+(i%5+1)%5))) else chA a i k
theorem chA_lt (a:Nat→Nat) (ha : ∀ k,a k<18446744073709551616) : ∀ i k,chA a i k<18446744073709551616
 | 0,_=>(by decide:(0:Nat)<18446744073709551616)
 | i+1,k=>by
  unfold chA
  split
  ·exact Nat.xor_lt_two_pow (n:=64) (ha _) (Nat.and_lt_two_pow _ (n:=64) (by have:=ha (5*(i/5%5)+(i%5+1)%5);omega))
  ·exact chA_lt a ha i k
theorem chi_spec (a:Nat→Nat) (ha : ∀ k,a k<18446744073709551616):FnV prog 78 [.agg (cU 25 a).toArray] [] (.agg (cU 25 (chA a 25)).toArray):=by
 refine Fn.enter func78 rfl ntmps78 oI (fun I0 w0 => ?_)
 repeat refine sq ?_;try intro
 refine cV kplaces_spec ?_
 repeat refine sq ?_;try intro
 rename_i b1 b2
 refine W.rangeFuncR (enc:=pl25) (ps:=[6,7]) (Φi:=[]) (Mr:=[]) (fun k s=>s=([],[(b2,Ob (cU 25 (chA a k)) 89),(b1,Ob (cU 25 a) 89)])) (fun _ _=>False) rfl kplaces1_spec oE pl25_two oY ([],[(b2,Ob (cU 25 (chA a 0)) 89),(b1,Ob (cU 25 a) 89)]) rfl oY oP ?_ ?_ ?_
 ·rintro y rec I0' w0' k hk _ rfl
  rw [pl25_len] at hk
  have hl:=lane_spec (k%5) (k/5) oM oM
  have hl2:=lane_spec (k%5+2) (k/5) oM oM
  have hl1:=lane_spec (k%5+1) (k/5) oM oM
  rw [show 5*(k/5%5)+k%5%5=k from by omega] at hl
  have h0:=ha k
  have h1:=ha (5*(k/5%5)+(k%5+1)%5)
  have h2:=ha (5*(k/5%5)+(k%5+2)%5)
  have h3:a (5*(k/5%5)+(k%5+2)%5)&&&(18446744073709551615-a (5*(k/5%5)+(k%5+1)%5))<18446744073709551616:=Nat.and_lt_two_pow _ (n:=64) oM
  dsimp only
  rw [pl25_at k (by rw [pl25_len];exact hk)]
  show W _ _ _ _ ((7,.int .i64 ((k/5:Nat):Int))::(6,.int .i64 ((k%5:Nat):Int))::_) _
  repeat refine sq ?_;try intro
  refine G.begin (by rfl) ?_
  repeat refine sq ?_;try intro
  refine W.drawA 21 [dq _,dq _,dq _,dq _,dq _,dq _,dq _,dq _,dq _,dq _,dq _,dq _,dq _,dq _,dq _,dq _,dq _,dq _,dq _,dq _,dq _] [[],[],[0,1],[],[],[3,4],[5],[6],[],[8],[],[9,10],[11],[12],[],[14],[],[15,16],[17],[18],[13,19]] [2,7,20] (hrest:=fun c=>nrm ?_) (hops:=by
   iterate 2 refine AllQ.aq ?_
   refine AllQ.mk (by intro c z0 Φr Lr K;refine nrm ?_;intro hK;refine cV hl ?_;exact hK z0) ?_
   iterate 2 refine AllQ.aq ?_
   refine AllQ.mk (by intro c z0 Φr Lr K;refine nrm ?_;intro hK;refine cV hl ?_;exact hK z0) ?_
   iterate 5 refine AllQ.aq ?_
   refine AllQ.mk (by intro c z0 Φr Lr K;refine nrm ?_;intro hK;refine cV hl2 ?_;exact hK z0) ?_
   iterate 5 refine AllQ.aq ?_
   refine AllQ.mk (by intro c z0 Φr Lr K;refine nrm ?_;intro hK;refine cV hl1 ?_;exact hK z0) ?_
   iterate 2 refine AllQ.aq ?_
   refine AllQ.mk (by intro c z0 Φr Lr K;refine nrm ?_;intro hK;refine o_andNot h2 h1 rfl rfl rfl rfl ?_;exact hK z0) ?_
   exact AllQ.nil)
  repeat refine sq ?_;try intro
  refine G.roundEnd oY (Φ':=[]) (M'':=[(b2,Ob (cU 25 (chA a (k+1))) 89),(b1,Ob (cU 25 a) 89)]) ?_ oY (by first|exact List.Sublist.refl _|exact .cons _ oZ)
  exact Or.inl ⟨rfl,([],[(b2,Ob (cU 25 (chA a (k+1))) 89),(b1,Ob (cU 25 a) 89)]),rfl,rfl⟩
 ·rintro D _ rfl
  rw [pl25_len]
  dsimp only [List.nil_append,List.cons_append]
  repeat refine sq ?_;try intro
  refine G.unmark oY ?_
  refine G.retV ?_
  rfl
 ·intro D c s h
  exact h.elim
end Go.Rail
