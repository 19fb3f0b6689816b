/- The document's keccak: bit by bit. -/
import Derived.Test.YtpbbjkbackiljaaGreatDoorRailA
import Derived.Test.YtpbbjkbackiljaaGreatDoorRailI
import Derived.Test.YtpbbjkbackiljaaGreatDoorADATA
import Derived.Test.YtpbbjkbackiljaaGreatDoorAD3One
set_option linter.unusedSimpArgs false
set_option linter.unusedVariables false
namespace Go.Rail
open Go Go.Proofs Tryz
set_option maxHeartbeats 400000
set_option maxRecDepth 4000
attribute [local irreducible] OpK G W LW wpListIn Exit.then Exit.inBlock Post rounds opRun bodyPostM intOp
set_option maxHeartbeats 4000000
abbrev bR (A:Nat→Nat→Nat):List Int:=rowN 1600 (fun n=>A (n/64) (n%64))
theorem own_rZ (b n:Nat) (f:Nat→Int):IsOwn (GoTy.sz Int) (.slice (some ⟨b,0,none⟩) n n) (rowZ n f).length (some (b,cIx (rowZ n f) [])):=by
 rw [cIx,List.append_nil];exact own_cI b (rowZ n f) (rowZ_length n f).symm
theorem at04_spec (x y k z:Nat) (q:Int) (hx:x≤100) (hy:y≤100) (hq : -64≤q) (hq2:q≤100) (hk:5*(y%5)+x%5=k) (hz:(q+64)%64=z):FnV prog 322 [.int .i64 (x:Int),.int .i64 (y:Int),.int .i64 q] [] (.int .i64 ((64*k+z:Nat):Int)):=by
 obtain ⟨w,hw⟩ : ∃ w:Nat,q=(w:Int)-64:=⟨(q+64).toNat,by omega⟩
 subst hw
 refine Fn.enter func322 rfl ntmps322 oI (fun I0 w0 => ?_)
 repeat refine sq ?_;try intro
 have ht:((w:Int)-64+64).tmod 64=((w%64:Nat):Int):=by rw [show (w:Int)-64+64=(w:Int) from by omega];rfl
 rw [ht]
 repeat refine sq ?_;try intro
 refine G.retV ?_
 refine congrArg (Value.int .i64) ?_
 omega
theorem own_rZx {b n cap:Nat} {ex:List Value} (f:Nat→Int) (h:n+ex.length=cap):IsOwn (GoTy.sz Int) (.slice (some ⟨b,0,none⟩) n cap) (rowZ n f).length (some (b,cIx (rowZ n f) ex)) :=
 ⟨cap,by rw [rowZ_length],by rw [cIx_length,rowZ_length];show _=cap*1;omega,by rw [rowZ_length];omega⟩
structure BtSt where
 i:Nat
 g:Nat→Int
theorem pi04_spec (v:Value) (A:Nat→Nat→Nat):Fn prog 294 [v] [fRp v (bR A)] [] (ROwn 3 (bR (piB A))):=by
 refine Fn.enter func294 rfl ntmps294 oI (fun I0 w0 => ?_)
 repeat refine sq ?_;try intro
 refine o_makeI 1600 rfl rfl rfl rfl rfl rfl oE ?_
 intro bz
 rw [rowZ_const,show cI (rowZ 1600 fun _=>0)=cIx (rowZ 1600 fun _=>0) [] from by rw [cIx,List.append_nil]]
 repeat refine sq ?_;try intro
 refine W.lp (S:=BtSt) (fun s=>([fRp v (bR A)],[(4,.int .i64 (s.i:Int)),(3,.slice (some ⟨bz,0,none⟩) 1600 1600),(0,v)],[(bz,Ob (cIx (rowZ 1600 s.g) []) 3)])) (fun s=>s.i≤5 ∧ ∀ n<1600,n/64%5<s.i→s.g n=((piB A (n/64) (n%64):Nat):Int)) (fun s=>5-s.i) ⟨0,fun _=>0⟩ ?_ (h0:=⟨Nat.zero_le _,fun n _ h=>absurd h (Nat.not_lt_zero _)⟩)
 rintro ⟨x,g1⟩ ⟨hx,hg1⟩
 dsimp only at hx hg1 ⊢
 by_cases ex:x=5
 ·subst ex
  have e:rowZ 1600 g1=bR (piB A):=rowZ_congr (fun n hn=>hg1 n hn oM)
  rw [e]
  repeat refine sq ?_;try intro
  exact G.ret rfl (.cons (.tmp rfl) .nil) (Φ':=[fRow (cIx (bR (piB A)) []) (bR (piB A))]) (M':=[(bz,Ob (cIx (bR (piB A)) []) 3)]) oY oZ ⟨some (bz,_),own_rZ bz 1600 _,rfl,rfl⟩
 ·repeat refine sq ?_;try intro
  refine W.lp (S:=BtSt) (fun s=>([fRp v (bR A)],[(5,.int .i64 (s.i:Int)),(4,.int .i64 (x:Int)),(3,.slice (some ⟨bz,0,none⟩) 1600 1600),(0,v)],[(bz,Ob (cIx (rowZ 1600 s.g) []) 3)])) (fun s=>s.i≤5 ∧ ∀ n<1600,n/64%5<x∨n/64%5=x∧n/64/5<s.i→s.g n=((piB A (n/64) (n%64):Nat):Int)) (fun s=>5-s.i) ⟨0,g1⟩ ?_ (h0:=⟨Nat.zero_le _,fun n hn h=>hg1 n hn (by dsimp only at h;omega)⟩)
  rintro ⟨y,g2⟩ ⟨hy,hg2⟩
  dsimp only at hy hg2 ⊢
  by_cases ey:y=5
  ·subst ey
   repeat refine sq ?_;try intro
   exact G.ag (S:=BtSt) ⟨x+1,g2⟩ (hpre:=⟨by dsimp only;omega,fun n hn h=>hg2 n hn (by dsimp only at h;omega)⟩)
  ·repeat refine sq ?_;try intro
   refine W.lp (S:=BtSt) (fun s=>([fRp v (bR A)],[(6,.int .i64 (s.i:Int)),(5,.int .i64 (y:Int)),(4,.int .i64 (x:Int)),(3,.slice (some ⟨bz,0,none⟩) 1600 1600),(0,v)],[(bz,Ob (cIx (rowZ 1600 s.g) []) 3)])) (fun s=>s.i≤64 ∧ ∀ n<1600,n/64%5<x∨n/64%5=x∧(n/64/5<y∨n/64/5=y∧n%64<s.i)→s.g n=((piB A (n/64) (n%64):Nat):Int)) (fun s=>64-s.i) ⟨0,g2⟩ ?_ (h0:=⟨Nat.zero_le _,fun n hn h=>hg2 n hn (by dsimp only at h;omega)⟩)
   rintro ⟨z,g3⟩ ⟨hz,hg3⟩
   dsimp only at hz hg3 ⊢
   by_cases ez:z=64
   ·subst ez
    repeat refine sq ?_;try intro
    exact G.ag (S:=BtSt) ⟨y+1,g3⟩ (hpre:=⟨by dsimp only;omega,fun n hn h=>hg3 n hn (by dsimp only at h;omega)⟩)
   ·have hx5:x<5:=by omega
    have hy5:y<5:=by omega
    have hz64:z<64:=by omega
    have d1:(64*(5*y+x)+z)/64=5*y+x:=by omega
    have d2:(64*(5*y+x)+z)%64=z:=by omega
    have hlt:64*(5*y+x)+z<1600:=by omega
    have c1:=at04_spec x y (5*y+x) z (z:Int) oM oM oM oM oM oM
    have d3:(64*(5*x+(x+3*y)%5)+z)/64=5*x+(x+3*y)%5:=by omega
    have d4:(64*(5*x+(x+3*y)%5)+z)%64=z:=by omega
    have c2:=at04_spec ((x+3*y)%5) x (5*x+(x+3*y)%5) z (z:Int) oM oM oM oM oM oM
    have htg:((A (5*x+(x+3*y)%5) z:Nat):Int)=((piB A (5*y+x) z:Nat):Int):=by
     unfold piB
     rw [show (5*y+x)%5=x from by omega,show (5*y+x)/5=y from by omega]
    repeat refine sq ?_;try intro
    refine cV c1 ?_
    repeat refine sq ?_;try intro
    refine cV c2 ?_
    repeat refine sq ?_;try intro
    dsimp only
    rw [d3,d4]
    exact G.ag (S:=BtSt) ⟨z+1,fun k=>if k=64*(5*y+x)+z then ((A (5*x+(x+3*y)%5) z:Nat):Int) else g3 k⟩ (hpre:=⟨by dsimp only;omega,fun n hn h=>by
     dsimp only at h ⊢
     by_cases hn2:n=64*(5*y+x)+z
     ·subst hn2
      rw [if_pos rfl,d1,d2]
      first|exact htg|(rw [d1,d2] at htg;exact htg)
     ·rw [if_neg hn2]
      exact hg3 n hn oM⟩)
theorem chi04_spec (v:Value) (A:Nat→Nat→Nat) (hA : ∀ k z,A k z<2):Fn prog 293 [v] [fRp v (bR A)] [] (ROwn 3 (bR (chB A))):=by
 refine Fn.enter func293 rfl ntmps293 oI (fun I0 w0 => ?_)
 repeat refine sq ?_;try intro
 refine o_makeI 1600 rfl rfl rfl rfl rfl rfl oE ?_
 intro bz
 rw [rowZ_const,show cI (rowZ 1600 fun _=>0)=cIx (rowZ 1600 fun _=>0) [] from by rw [cIx,List.append_nil]]
 repeat refine sq ?_;try intro
 refine W.lp (S:=BtSt) (fun s=>([fRp v (bR A)],[(4,.int .i64 (s.i:Int)),(3,.slice (some ⟨bz,0,none⟩) 1600 1600),(0,v)],[(bz,Ob (cIx (rowZ 1600 s.g) []) 3)])) (fun s=>s.i≤5 ∧ ∀ n<1600,n/64%5<s.i→s.g n=((chB A (n/64) (n%64):Nat):Int)) (fun s=>5-s.i) ⟨0,fun _=>0⟩ ?_ (h0:=⟨Nat.zero_le _,fun n _ h=>absurd h (Nat.not_lt_zero _)⟩)
 rintro ⟨x,g1⟩ ⟨hx,hg1⟩
 dsimp only at hx hg1 ⊢
 by_cases ex:x=5
 ·subst ex
  have e:rowZ 1600 g1=bR (chB A):=rowZ_congr (fun n hn=>hg1 n hn oM)
  rw [e]
  repeat refine sq ?_;try intro
  exact G.ret rfl (.cons (.tmp rfl) .nil) (Φ':=[fRow (cIx (bR (chB A)) []) (bR (chB A))]) (M':=[(bz,Ob (cIx (bR (chB A)) []) 3)]) oY oZ ⟨some (bz,_),own_rZ bz 1600 _,rfl,rfl⟩
 ·repeat refine sq ?_;try intro
  refine W.lp (S:=BtSt) (fun s=>([fRp v (bR A)],[(5,.int .i64 (s.i:Int)),(4,.int .i64 (x:Int)),(3,.slice (some ⟨bz,0,none⟩) 1600 1600),(0,v)],[(bz,Ob (cIx (rowZ 1600 s.g) []) 3)])) (fun s=>s.i≤5 ∧ ∀ n<1600,n/64%5<x∨n/64%5=x∧n/64/5<s.i→s.g n=((chB A (n/64) (n%64):Nat):Int)) (fun s=>5-s.i) ⟨0,g1⟩ ?_ (h0:=⟨Nat.zero_le _,fun n hn h=>hg1 n hn (by dsimp only at h;omega)⟩)
  rintro ⟨y,g2⟩ ⟨hy,hg2⟩
  dsimp only at hy hg2 ⊢
  by_cases ey:y=5
  ·subst ey
   repeat refine sq ?_;try intro
   exact G.ag (S:=BtSt) ⟨x+1,g2⟩ (hpre:=⟨by dsimp only;omega,fun n hn h=>hg2 n hn (by dsimp only at h;omega)⟩)
  ·repeat refine sq ?_;try intro
   refine W.lp (S:=BtSt) (fun s=>([fRp v (bR A)],[(6,.int .i64 (s.i:Int)),(5,.int .i64 (y:Int)),(4,.int .i64 (x:Int)),(3,.slice (some ⟨bz,0,none⟩) 1600 1600),(0,v)],[(bz,Ob (cIx (rowZ 1600 s.g) []) 3)])) (fun s=>s.i≤64 ∧ ∀ n<1600,n/64%5<x∨n/64%5=x∧(n/64/5<y∨n/64/5=y∧n%64<s.i)→s.g n=((chB A (n/64) (n%64):Nat):Int)) (fun s=>64-s.i) ⟨0,g2⟩ ?_ (h0:=⟨Nat.zero_le _,fun n hn h=>hg2 n hn (by dsimp only at h;omega)⟩)
   rintro ⟨z,g3⟩ ⟨hz,hg3⟩
   dsimp only at hz hg3 ⊢
   by_cases ez:z=64
   ·subst ez
    repeat refine sq ?_;try intro
    exact G.ag (S:=BtSt) ⟨y+1,g3⟩ (hpre:=⟨by dsimp only;omega,fun n hn h=>hg3 n hn (by dsimp only at h;omega)⟩)
   ·have hx5:x<5:=by omega
    have hy5:y<5:=by omega
    have hz64:z<64:=by omega
    have d1:(64*(5*y+x)+z)/64=5*y+x:=by omega
    have d2:(64*(5*y+x)+z)%64=z:=by omega
    have hlt:64*(5*y+x)+z<1600:=by omega
    have c1:=at04_spec x y (5*y+x) z (z:Int) oM oM oM oM oM oM
    have d3 : ∀ i,(64*(5*y+(x+i)%5)+z)/64=5*y+(x+i)%5:=fun i=>by omega
    have d4 : ∀ i,(64*(5*y+(x+i)%5)+z)%64=z:=fun i=>by omega
    have c2:=at04_spec (x+1) y (5*y+(x+1)%5) z (z:Int) oM oM oM oM oM oM
    have c3:=at04_spec (x+2) y (5*y+(x+2)%5) z (z:Int) oM oM oM oM oM oM
    have b1:=hA ((64*(5*y+x)+z)/64) ((64*(5*y+x)+z)%64)
    have b2:=hA ((64*(5*y+(x+1)%5)+z)/64) ((64*(5*y+(x+1)%5)+z)%64)
    have b3:=hA ((64*(5*y+(x+2)%5)+z)/64) ((64*(5*y+(x+2)%5)+z)%64)
    have b4:(A ((64*(5*y+(x+1)%5)+z)/64) ((64*(5*y+(x+1)%5)+z)%64)+1)%2*A ((64*(5*y+(x+2)%5)+z)/64) ((64*(5*y+(x+2)%5)+z)%64)≤1*1:=Nat.mul_le_mul oM oM
    have htg:(((A ((64*(5*y+x)+z)/64) ((64*(5*y+x)+z)%64)+(A ((64*(5*y+(x+1)%5)+z)/64) ((64*(5*y+(x+1)%5)+z)%64)+1)%2*A ((64*(5*y+(x+2)%5)+z)/64) ((64*(5*y+(x+2)%5)+z)%64))%2:Nat):Int)=((chB A (5*y+x) z:Nat):Int):=by
     unfold chB
     rw [d1,d2,d3,d4,d3,d4,show (5*y+x)%5=x from by omega,show (5*y+x)/5=y from by omega]
    repeat refine sq ?_;try intro
    refine W.drawA 33 (dq _::dq _::dq _::dq _::dq _::dq _::dq _::dq _::dq _::dq _::dk _::dq _::dq _::dq _::dq _::dq _::dq _::dq _::dk _::dq _::dq _::dq _::dq _::dq _::dq _::dq _::dq _::dq _::dk _::dq _::dq _::dq _::dq _::[]) ([]::[]::[]::[]::[1,2,3]::[]::[]::[]::[]::[6,7,8]::[5,9]::[10]::[]::[]::[13]::[]::[]::[14,15,16]::[12,17]::[18]::[19]::[20]::[]::[]::[23]::[]::[]::[24,25,26]::[22,27]::[28]::[21,29]::[11,30]::[31]::[]) [0,4,32] (hrest:=fun c=>nrm ?_) (hops:=by
     iterate 4 refine AllQ.aq ?_
     refine AllQ.mk (by intro c z0 Φr Lr K;refine nrm ?_;intro hK;refine cV c1 ?_;exact hK z0) ?_
     iterate 4 refine AllQ.aq ?_
     refine AllQ.mk (by intro c z0 Φr Lr K;refine nrm ?_;intro hK;refine cV c1 ?_;exact hK z0) ?_
     iterate 7 refine AllQ.aq ?_
     refine AllQ.mk (by intro c z0 Φr Lr K;refine nrm ?_;intro hK;refine cV c2 ?_;exact hK z0) ?_
     iterate 9 refine AllQ.aq ?_
     refine AllQ.mk (by intro c z0 Φr Lr K;refine nrm ?_;intro hK;refine cV c3 ?_;exact hK z0) ?_
     iterate 5 refine AllQ.aq ?_
     exact AllQ.nil)
    repeat refine sq ?_;try intro
    exact G.ag (S:=BtSt) ⟨z+1,fun k=>if k=64*(5*y+x)+z then (((A ((64*(5*y+x)+z)/64) ((64*(5*y+x)+z)%64)+(A ((64*(5*y+(x+1)%5)+z)/64) ((64*(5*y+(x+1)%5)+z)%64)+1)%2*A ((64*(5*y+(x+2)%5)+z)/64) ((64*(5*y+(x+2)%5)+z)%64))%2:Nat):Int) else g3 k⟩ (hpre:=⟨by dsimp only;omega,fun n hn h=>by
     dsimp only at h ⊢
     by_cases hn2:n=64*(5*y+x)+z
     ·subst hn2
      rw [if_pos rfl,d1,d2]
      first|exact htg|(rw [d1,d2] at htg;exact htg)
     ·rw [if_neg hn2]
      exact hg3 n hn oM⟩)
structure RwSt where
 i:Nat
 w:Value
 o:OR
theorem rho04_spec (v:Value) (A:Nat→Nat→Nat):Fn prog 295 [v] [fRp v (bR A)] [] (ROwn 3 (bR (rhB A 24))):=by
 refine Fn.enter func295 rfl ntmps295 oI (fun I0 w0 => ?_)
 repeat refine sq ?_;try intro
 refine o_app2 (α:=Int) (Mr:=[]) none (xs:=[]) (ys:=bR A) ⟨rfl,rfl⟩ ⟨by simp [bR,rowZ],by simp [bR,rowZ],rfl⟩ rfl rfl rfl rfl (show Ent' _ (fRow [] ([]:List Int)) from oY) oY oP ?_
 intro w o ho
 rw [List.nil_append] at ho ⊢
 rw [show (bR A).length=1600 from rowZ_length _ _] at ho
 refine G.ownZ (f:=fun n=>((A (n/64) (n%64):Nat):Int)) oE ho ?_
 intro bz ex cap e1 e2 hcx
 subst e1 e2
 dsimp only [ownM,List.cons_append,List.nil_append,ocells]
 repeat refine sq ?_;try intro
 refine W.lp (S:=BtSt) (fun s=>([fRp v (bR A)],[(6,.int .i64 (s.i:Int)),(5,.int .i64 ((xyT s.i).2:Int)),(4,.int .i64 ((xyT s.i).1:Int)),(3,.slice (some ⟨bz,0,none⟩) 1600 cap),(0,v)],[(bz,Ob (cIx (rowZ 1600 s.g) ex) 3)])) (fun s=>s.i≤24 ∧ ∀ n<1600,s.g n=((rhB A s.i (n/64) (n%64):Nat):Int)) (fun s=>24-s.i) ⟨0,fun n=>((A (n/64) (n%64):Nat):Int)⟩ ?_ (h0:=⟨Nat.zero_le _,fun n _=>rfl⟩)
 rintro ⟨t,g1⟩ ⟨ht,hg1⟩
 dsimp only at ht hg1 ⊢
 by_cases et:t=24
 ·subst et
  have e:rowZ 1600 g1=bR (rhB A 24):=rowZ_congr (fun n hn=>hg1 n hn)
  rw [e]
  repeat refine sq ?_;try intro
  exact G.ret rfl (.cons (.tmp rfl) .nil) (Φ':=[fRow (cIx (bR (rhB A 24)) ex) (bR (rhB A 24))]) (M':=[(bz,Ob (cIx (bR (rhB A 24)) ex) 3)]) oY oZ ⟨some (bz,_),own_rZx _ hcx,rfl,rfl⟩
 ·obtain ⟨hx,hy⟩:=xyT_lt t
  obtain ⟨hn1,hn2⟩:=xyT_lt (t+1)
  have hs1:(xyT (t+1)).1=(xyT t).2:=rfl
  have hs2:(xyT (t+1)).2=(2*(xyT t).1+3*(xyT t).2)%5:=rfl
  have hrh : ∀ k z,rhB A (t+1) k z=if k=5*(xyT t).2+(xyT t).1 then A k ((z+64-(t+1)*(t+2)/2%64)%64) else rhB A t k z:=fun _ _=>rfl
  rw [hs1] at hn1
  rw [hs2] at hn2
  generalize (xyT t).1=x at hx hn1 hn2 hs2 hrh ⊢
  generalize (xyT t).2=y at hy hn1 hn2 hs1 hs2 hrh ⊢
  have hmul:(t+1)*(t+2)≤24*25:=Nat.mul_le_mul oM oM
  repeat refine sq ?_;try intro
  refine o_int rfl rfl rfl rfl (n_quo (b:=2) oE (by show (((t+1)*(t+2):Nat):Int)≤9223372036854775807;omega)) ?_
  repeat refine sq ?_;try intro
  obtain ⟨r,hr⟩ : ∃ r,r=(t+1)*(t+2)/2%64:=⟨_,rfl⟩
  have hr64:r<64:=by rw [hr];exact Nat.mod_lt _ oE
  rw [← hr] at hrh ⊢
  refine W.lp (S:=BtSt) (fun s=>([fRp v (bR A)],[(8,.int .i64 (s.i:Int)),(7,.int .i64 (r:Int)),(6,.int .i64 (t:Int)),(5,.int .i64 (y:Int)),(4,.int .i64 (x:Int)),(3,.slice (some ⟨bz,0,none⟩) 1600 cap),(0,v)],[(bz,Ob (cIx (rowZ 1600 s.g) ex) 3)])) (fun s=>s.i≤64 ∧ ∀ n<1600,s.g n=if n/64=5*y+x∧n%64<s.i then ((A (n/64) ((n%64+64-r)%64):Nat):Int) else ((rhB A t (n/64) (n%64):Nat):Int)) (fun s=>64-s.i) ⟨0,g1⟩ ?_ (h0:=⟨Nat.zero_le _,fun n hn=>by rw [if_neg (fun h=>Nat.not_lt_zero _ h.2)];exact hg1 n hn⟩)
  rintro ⟨z,g2⟩ ⟨hz,hg2⟩
  dsimp only at hz hg2 ⊢
  by_cases ez:z=64
  ·subst ez
   repeat refine sq ?_;try intro
   refine G.ag (S:=BtSt) ⟨t+1,g2⟩ (hpre:=⟨by dsimp only;omega,fun n hn => ?_⟩) (hL:=lC rfl (lC (by dsimp only;rw [hs2];rfl) (lC (by dsimp only;rw [hs1];rfl) (lC rfl (lC rfl lN)))))
   dsimp only
   rw [hg2 n hn,hrh]
   by_cases h:n/64=5*y+x
   ·rw [if_pos ⟨h,Nat.mod_lt _ oE⟩,if_pos h]
   ·rw [if_neg (fun q=>h q.1),if_neg h]
  ·have d1:(64*(5*y+x)+z)/64=5*y+x:=by omega
   have d2:(64*(5*y+x)+z)%64=z:=by omega
   have hlt:64*(5*y+x)+z<1600:=by omega
   have d3:(64*(5*y+x)+(z+64-r)%64)/64=5*y+x:=by omega
   have d4:(64*(5*y+x)+(z+64-r)%64)%64=(z+64-r)%64:=by omega
   have c1:=at04_spec x y (5*y+x) z (z:Int) oM oM oM oM oM oM
   have c2:=at04_spec x y (5*y+x) ((z+64-r)%64) ((z:Int)-(r:Int)) oM oM oM oM oM oM
   repeat refine sq ?_;try intro
   refine cV c1 ?_
   repeat refine sq ?_;try intro
   refine cV c2 ?_
   repeat refine sq ?_;try intro
   dsimp only
   rw [d3,d4]
   exact G.ag (S:=BtSt) ⟨z+1,fun k=>if k=64*(5*y+x)+z then ((A (5*y+x) ((z+64-r)%64):Nat):Int) else g2 k⟩ (hpre:=⟨by dsimp only;omega,fun n hn=>by
    dsimp only
    by_cases hn2:n=64*(5*y+x)+z
    ·subst hn2
     rw [if_pos rfl,d1,d2,if_pos ⟨rfl,Nat.lt_succ_self _⟩]
    ·rw [if_neg hn2,hg2 n hn]
     by_cases h:n/64=5*y+x∧n%64<z
     ·rw [if_pos h,if_pos ⟨h.1,by omega⟩]
     ·rw [if_neg h,if_neg oM]⟩)
def hv2 (x:Nat):Nat→Nat
 | 0=>x
 | z+1=>hv2 x z/2
theorem hv2_eq (x:Nat) : ∀ z,hv2 x z=x/2^z
 | 0=>by rw [Nat.pow_zero,Nat.div_one];rfl
 | z+1=>by rw [Nat.pow_succ,← Nat.div_div_eq_div_mul,← hv2_eq x z];rfl
theorem bits04_spec (a:Nat→Nat) (ha : ∀ k,a k<18446744073709551616):Fn prog 291 [.agg (cU 25 a).toArray] [] [] (ROwn 3 (bR (fun k z=>bt (a k) z))):=by
 obtain ⟨f,hf⟩ : ∃ f:Nat→Int,f=fun n=>((bt (a (n/64)) (n%64):Nat):Int):=⟨_,rfl⟩
 have hR:bR (fun k z=>bt (a k) z)=rowZ 1600 f:=by rw [hf]
 rw [hR]
 refine Fn.enter func291 rfl ntmps291 oI (fun I0 w0 => ?_)
 repeat refine sq ?_;try intro
 rename_i b1
 refine W.lp (S:=RwSt) (fun s=>([fRow (ocells s.o) (rowZ (64*s.i) f)],[(4,.int .i64 (s.i:Int)),(3,s.w),(1,.pointer (some ⟨b1,0,none⟩))],(b1,Ob (cU 25 a) 203)::ownM 3 s.o)) (fun s=>s.i≤25∧IsOwn 1 s.w (rowZ (64*s.i) f).length s.o) (fun s=>25-s.i) ⟨0,.slice none 0 0,none⟩ ?_ (h0:=⟨Nat.zero_le _,rfl,rfl⟩) (hΦ:=by show Ents _ [fRow [] ([]:List Int)];infer_instance)
 rintro ⟨i,w,o⟩ ⟨hi,hown⟩
 dsimp only at hi hown ⊢
 by_cases ei:i=25
 ·subst ei
  repeat refine sq ?_;try intro
  exact G.ret rfl (.cons (.tmp rfl) .nil) (Φ':=[fRow (ocells o) (rowZ 1600 f)]) (M':=ownM 3 o) oY (List.sublist_cons_self _ _) ⟨o,hown,rfl,rfl⟩
 ·have hai:=ha i
  repeat refine sq ?_;try intro
  refine W.lp (S:=RwSt) (fun s=>([fRow (ocells s.o) (rowZ (64*i+s.i) f)],[(6,.int .i64 (s.i:Int)),(5,.int .u64 ((hv2 (a i) s.i:Nat):Int)),(4,.int .i64 (i:Int)),(3,s.w),(1,.pointer (some ⟨b1,0,none⟩))],(b1,Ob (cU 25 a) 203)::ownM 3 s.o)) (fun s=>s.i≤64∧IsOwn 1 s.w (rowZ (64*i+s.i) f).length s.o) (fun s=>64-s.i) ⟨0,w,o⟩ ?_ (h0:=⟨Nat.zero_le _,hown⟩)
  rintro ⟨z,w2,o2⟩ ⟨hz,hown2⟩
  dsimp only at hz hown2 ⊢
  by_cases ez:z=64
  ·subst ez
   repeat refine sq ?_;try intro
   exact G.ag (S:=RwSt) ⟨i+1,w2,o2⟩ (hpre:=⟨by dsimp only;omega,hown2⟩)
  ·have hq:hv2 (a i) z<18446744073709551616:=by rw [hv2_eq];exact Nat.lt_of_le_of_lt (Nat.div_le_self _ _) hai
   have hst:hv2 (a i) (z+1)=hv2 (a i) z/2:=rfl
   have hf1:f (64*i+z)=((hv2 (a i) z%2:Nat):Int):=by
    rw [hf,hv2_eq]
    dsimp only
    rw [show (64*i+z)/64=i from by omega,show (64*i+z)%64=z from by omega]
   have hap:rowZ (64*i+z) f++[((hv2 (a i) z%2:Nat):Int)]=rowZ (64*i+(z+1)) f:=by
    rw [← hf1,← rowZ_succ];rfl
   generalize hqq:hv2 (a i) z=q at hq hst hap ⊢
   repeat refine sq ?_;try intro
   refine o_app2 (Mr:=[(b1,Ob (cU 25 a) 203)]) o2 (xs:=rowZ (64*i+z) f) (ys:=[((q%2:Nat):Int)]) hown2 ⟨by simp [rowZ_length];omega,by simp [rowZ_length];omega,rfl⟩ rfl rfl rfl rfl oY oY oP ?_
   intro w3 o3 hown3
   rw [hap] at hown3 ⊢
   refine nA ?_
   repeat refine sq ?_;try intro
   rw [← hst]
   exact G.ag (S:=RwSt) ⟨z+1,w3,o3⟩ (hpre:=⟨by dsimp only;omega,hown3⟩)
end Go.Rail
namespace Go.Rail
open Go Go.Proofs Tryz
set_option maxHeartbeats 400000
set_option maxRecDepth 4000
attribute [local irreducible] OpK G W LW wpListIn Exit.then Exit.inBlock Post rounds opRun bodyPostM intOp
set_option maxHeartbeats 4000000
theorem tsB_le {A:Nat→Nat→Nat} (hA : ∀ k z,A k z<2) (x z:Nat) : ∀ y,tsB A x z y≤y
 | 0=>Nat.le_refl _
 | y+1=>by
  have h1:=tsB_le hA x z y
  have h2:=hA (5*y+x) z
  show tsB A x z y+A (5*y+x) z≤_
  omega
theorem theta04_spec (v:Value) (A:Nat→Nat→Nat) (hA : ∀ k z,A k z<2):Fn prog 296 [v] [fRp v (bR A)] [] (ROwn 3 (bR (thB A))):=by
 obtain ⟨f,hf⟩ : ∃ f:Nat→Int,f=fun n=>((tcB A (n/64) (n%64):Nat):Int):=⟨_,rfl⟩
 have hf1 : ∀ x z,z<64→f (64*x+z)=((tcB A x z:Nat):Int):=by
  intro x z hz
  rw [hf]
  dsimp only
  rw [show (64*x+z)/64=x from by omega,show (64*x+z)%64=z from by omega]
 have hap : ∀ x z,z<64→rowZ (64*x+z) f++[((tcB A x z:Nat):Int)]=rowZ (64*x+(z+1)) f:=by
  intro x z hz
  rw [← hf1 x z hz,← rowZ_succ];rfl
 refine Fn.enter func296 rfl ntmps296 oI (fun I0 w0 => ?_)
 repeat refine sq ?_;try intro
 refine W.lp (S:=RwSt) (fun s=>([fRow (ocells s.o) (rowZ (64*s.i) f),fRp v (bR A)],[(4,.int .i64 (s.i:Int)),(3,s.w),(0,v)],ownM 3 s.o)) (fun s=>s.i≤5∧IsOwn 1 s.w (rowZ (64*s.i) f).length s.o) (fun s=>5-s.i) ⟨0,.slice none 0 0,none⟩ ?_ (h0:=⟨Nat.zero_le _,rfl,rfl⟩) (hΦ:=by show Ents _ [fRow [] ([]:List Int),fRp v (bR A)];infer_instance)
 rintro ⟨x,w,o⟩ ⟨hx,hown⟩
 dsimp only at hx hown ⊢
 by_cases ex:x=5
 ·subst ex
  refine W.bare (G.giveOwn2 (Mr:=[]) w (rowZ 320 f) o 3 hown oY oP ?_)
  refine G.code ?_
  clear hap hown hx
  repeat refine sq ?_;try intro
  refine o_makeI 1600 rfl rfl rfl rfl rfl rfl oE ?_
  intro bz
  rw [rowZ_const,show cI (rowZ 1600 fun _=>0)=cIx (rowZ 1600 fun _=>0) [] from by rw [cIx,List.append_nil]]
  repeat refine sq ?_;try intro
  refine W.lp (S:=BtSt) (fun s=>([fRp w (rowZ 320 f),fRp v (bR A)],[(9,.int .i64 (s.i:Int)),(8,.slice (some ⟨bz,0,none⟩) 1600 1600),(3,w),(0,v)],[(bz,Ob (cIx (rowZ 1600 s.g) []) 3)])) (fun s=>s.i≤5 ∧ ∀ n<1600,n/64%5<s.i→s.g n=((thB A (n/64) (n%64):Nat):Int)) (fun s=>5-s.i) ⟨0,fun _=>0⟩ ?_ (h0:=⟨Nat.zero_le _,fun n _ h=>absurd h (Nat.not_lt_zero _)⟩)
  rintro ⟨x,g1⟩ ⟨hx,hg1⟩
  dsimp only at hx hg1 ⊢
  by_cases ex:x=5
  ·subst ex
   have e:rowZ 1600 g1=bR (thB A):=rowZ_congr (fun n hn=>hg1 n hn oM)
   rw [e]
   repeat refine sq ?_;try intro
   exact G.ret rfl (.cons (.tmp rfl) .nil) (Φ':=[fRow (cIx (bR (thB A)) []) (bR (thB A))]) (M':=[(bz,Ob (cIx (bR (thB A)) []) 3)]) oY oZ ⟨some (bz,_),own_rZ bz 1600 _,rfl,rfl⟩
  ·repeat refine sq ?_;try intro
   refine W.lp (S:=BtSt) (fun s=>([fRp w (rowZ 320 f),fRp v (bR A)],[(10,.int .i64 (s.i:Int)),(9,.int .i64 (x:Int)),(8,.slice (some ⟨bz,0,none⟩) 1600 1600),(3,w),(0,v)],[(bz,Ob (cIx (rowZ 1600 s.g) []) 3)])) (fun s=>s.i≤64 ∧ ∀ n<1600,n/64%5<x∨n/64%5=x∧n%64<s.i→s.g n=((thB A (n/64) (n%64):Nat):Int)) (fun s=>64-s.i) ⟨0,g1⟩ ?_ (h0:=⟨Nat.zero_le _,fun n hn h=>hg1 n hn (by dsimp only at h;omega)⟩)
   rintro ⟨z,g2⟩ ⟨hz,hg2⟩
   dsimp only at hz hg2 ⊢
   by_cases ez:z=64
   ·subst ez
    repeat refine sq ?_;try intro
    exact G.ag (S:=BtSt) ⟨x+1,g2⟩ (hpre:=⟨by dsimp only;omega,fun n hn h=>hg2 n hn (by dsimp only at h;omega)⟩)
   ·repeat refine sq ?_;try intro
    obtain ⟨d,hd⟩ : ∃ d,d=tcB A ((x+4)%5) z+tcB A ((x+1)%5) ((z+63)%64):=⟨_,rfl⟩
    have t1:=hf1 ((x+4)%5) z oM
    have t2:=hf1 ((x+1)%5) ((z+63)%64) (Nat.mod_lt _ oE)
    have b1:tcB A ((x+4)%5) z<2:=Nat.mod_lt _ oE
    have b2:tcB A ((x+1)%5) ((z+63)%64)<2:=Nat.mod_lt _ oE
    refine W.drawA 20 [dq _,dq _,dq _,dq _,dq _,dq _,dq _,dk _,dq _,dq _,dq _,dq _,dq _,dq _,dq _,dq _,dq _,dq _,dk _,dq _] [[],[],[1],[2],[3],[],[4,5],[0,6],[7],[],[],[10],[11],[12],[],[14],[15],[13,16],[9,17],[18]] [8,19] (hrest:=fun c=>nrm ?_) (hops:=by
     iterate 20 refine AllQ.aq ?_
     exact AllQ.nil)
    repeat refine sq ?_;try intro
    rw [show f (64*((x+4)%5)+z)+f (64*((x+1)%5)+(z+63)%64)=(d:Int) from by omega]
    refine W.lp (S:=BtSt) (fun s=>([fRp w (rowZ 320 f),fRp v (bR A)],[(12,.int .i64 (s.i:Int)),(11,.int .i64 (d:Int)),(10,.int .i64 (z:Int)),(9,.int .i64 (x:Int)),(8,.slice (some ⟨bz,0,none⟩) 1600 1600),(3,w),(0,v)],[(bz,Ob (cIx (rowZ 1600 s.g) []) 3)])) (fun s=>s.i≤5 ∧ ∀ n<1600,n/64%5<x∨n/64%5=x∧(n%64<z∨n%64=z∧n/64/5<s.i)→s.g n=((thB A (n/64) (n%64):Nat):Int)) (fun s=>5-s.i) ⟨0,g2⟩ ?_ (h0:=⟨Nat.zero_le _,fun n hn h=>hg2 n hn (by dsimp only at h;omega)⟩)
    rintro ⟨y,g3⟩ ⟨hy,hg3⟩
    dsimp only at hy hg3 ⊢
    by_cases ey:y=5
    ·subst ey
     repeat refine sq ?_;try intro
     exact G.ag (S:=BtSt) ⟨z+1,g3⟩ (hpre:=⟨by dsimp only;omega,fun n hn h=>hg3 n hn (by dsimp only at h;omega)⟩)
    ·have hx5:x<5:=by omega
     have hy5:y<5:=by omega
     have hz64:z<64:=by omega
     have d1:(64*(5*y+x)+z)/64=5*y+x:=by omega
     have d2:(64*(5*y+x)+z)%64=z:=by omega
     have hlt:64*(5*y+x)+z<1600:=by omega
     have c1:=at04_spec x y (5*y+x) z (z:Int) oM oM oM oM oM oM
     have h2:=hA (5*y+x) z
     have htg:(((A (5*y+x) z+d)%2:Nat):Int)=((thB A (5*y+x) z:Nat):Int):=by
      unfold thB
      rw [show (5*y+x)%5=x from by omega,hd]
     repeat refine sq ?_;try intro
     refine cV c1 ?_
     repeat refine sq ?_;try intro
     refine cV c1 ?_
     repeat refine sq ?_;try intro
     dsimp only
     rw [d1,d2]
     repeat refine sq ?_;try intro
     exact G.ag (S:=BtSt) ⟨y+1,fun k=>if k=64*(5*y+x)+z then (((A (5*y+x) z+d)%2:Nat):Int) else g3 k⟩ (hpre:=⟨by dsimp only;omega,fun n hn h=>by
      dsimp only at h ⊢
      by_cases hn2:n=64*(5*y+x)+z
      ·subst hn2
       rw [if_pos rfl,d1,d2]
       first|exact htg|(rw [d1,d2] at htg;exact htg)
      ·rw [if_neg hn2]
       exact hg3 n hn oM⟩)
 ·repeat refine sq ?_;try intro
  refine W.lp (S:=RwSt) (fun s=>([fRow (ocells s.o) (rowZ (64*x+s.i) f),fRp v (bR A)],[(5,.int .i64 (s.i:Int)),(4,.int .i64 (x:Int)),(3,s.w),(0,v)],ownM 3 s.o)) (fun s=>s.i≤64∧IsOwn 1 s.w (rowZ (64*x+s.i) f).length s.o) (fun s=>64-s.i) ⟨0,w,o⟩ ?_ (h0:=⟨Nat.zero_le _,hown⟩)
  rintro ⟨z,w2,o2⟩ ⟨hz,hown2⟩
  dsimp only at hz hown2 ⊢
  by_cases ez:z=64
  ·subst ez
   repeat refine sq ?_;try intro
   exact G.ag (S:=RwSt) ⟨x+1,w2,o2⟩ (hpre:=⟨by dsimp only;omega,hown2⟩)
  ·have hap2:=hap x z oM
   repeat refine sq ?_;try intro
   refine W.lp (S:=Nat) (fun y=>([fRow (ocells o2) (rowZ (64*x+z) f),fRp v (bR A)],[(7,.int .i64 (y:Int)),(6,.int .i64 ((tsB A x z y:Nat):Int)),(5,.int .i64 (z:Int)),(4,.int .i64 (x:Int)),(3,w2),(0,v)],ownM 3 o2)) (fun y=>y≤5) (fun y=>5-y) 0 ?_ (h0:=Nat.zero_le _)
   intro y hy
   dsimp only
   have hle:=tsB_le hA x z y
   by_cases ey:y=5
   ·subst ey
    have hl:(rowZ (64*x+z) f).length≤1000:=by rw [rowZ_length];omega
    rw [show tcB A x z=tsB A x z 5%2 from rfl] at hap2
    generalize tsB A x z 5=q at hle hap2 ⊢
    repeat refine sq ?_;try intro
    refine o_app2 (Mr:=[]) o2 (xs:=rowZ (64*x+z) f) (ys:=[((q%2:Nat):Int)]) hown2 ⟨by simp;omega,by simp;omega,rfl⟩ rfl rfl rfl rfl oY oY oP ?_
    intro w3 o3 hown3
    rw [hap2] at hown3 ⊢
    dsimp only [List.nil_append]
    repeat refine sq ?_;try intro
    exact G.ag (S:=RwSt) ⟨z+1,w3,o3⟩ (hpre:=⟨by dsimp only;omega,hown3⟩)
   ·have d1:(64*(5*y+x)+z)/64=5*y+x:=by omega
    have d2:(64*(5*y+x)+z)%64=z:=by omega
    have c1:=at04_spec x y (5*y+x) z (z:Int) oM oM oM oM oM oM
    have h2:=hA (5*y+x) z
    repeat refine sq ?_;try intro
    refine cV c1 ?_
    repeat refine sq ?_;try intro
    dsimp only
    rw [d1,d2]
    repeat refine sq ?_;try intro
    exact G.ag (S:=Nat) (y+1)
end Go.Rail
