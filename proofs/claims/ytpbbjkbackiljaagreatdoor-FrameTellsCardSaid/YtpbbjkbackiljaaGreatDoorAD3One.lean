/- The document's numbers: sums, differences, products. -/
import Derived.Test.YtpbbjkbackiljaaGreatDoorRailA
import Derived.Test.YtpbbjkbackiljaaGreatDoorRailI
import Derived.Test.YtpbbjkbackiljaaGreatDoorAD2K1
import Derived.Test.YtpbbjkbackiljaaGreatDoorRailC
import Derived.Test.YtpbbjkbackiljaaGreatDoorAEqBC
import Derived.Test.YtpbbjkbackiljaaGreatDoorRailB
set_option linter.unusedSimpArgs false
set_option linter.unusedVariables false
namespace Go.Rail
open Go Go.Proofs Tryz
set_option maxHeartbeats 400000
set_option maxRecDepth 4000
attribute [local irreducible] OpK G W LW wpListIn Exit.then Exit.inBlock Post rounds opRun bodyPostM intOp
set_option maxHeartbeats 4000000
theorem v_numD (w:Word):w.v = .agg (numC 4 w.num).toArray:=by rw [Word.v,Word.cells_num]
theorem digits_spec (w:Word):Fn prog 47 [w.v] [] [] (ROwn 3 (rowN 32 (dg w.num))):=by
 rw [v_numD];exact digitsN_spec _
theorem sumZ_num (w:Word):sumZ 256 (fun k=>((dg w.num k:Nat):Int)) 32=(w.num:Int):=by
 rw [sumZ_cast,sumB_self _ _ oE,Nat.mod_eq_of_lt (Nat.lt_of_lt_of_eq w.num_lt kR)]
theorem nat_cD {f:Nat→Int} {z:Int} {m:Nat} (h:sumZ 256 f 32=z) (hm:z%(top256:Int)=((m%top256:Nat):Int)):(Word.nat (sumB 256 (cD f) 32)).v=(Word.nat m).v:=by
 congr 1
 refine Word.nat_eq ?_
 have h1:=cD_mod f 32
 rw [h,show ((256^32:Nat):Int)=(top256:Int) from by kernel_rfl,hm] at h1
 have h2:sumB 256 (cD f) 32=m%top256:=Int.ofNat.inj h1
 rw [h2,Nat.mod_mod]
def zF (x y i:Nat) (k:Nat):Int:=if k<i then ((dg x k:Nat):Int)+((dg y k:Nat):Int) else ((dg x k:Nat):Int)
theorem zF_le (x y i k:Nat) : -4503599627370496≤zF x y i k∧zF x y i k≤4503599627370496:=by
 have h1:dg x k<256:=Nat.mod_lt _ oE
 have h2:dg y k<256:=Nat.mod_lt _ oE
 unfold zF;split<;>omega
theorem zF_step (x y i:Nat):(fun k=>if k=i then zF x y i i+((dg y i:Nat):Int) else zF x y i k)=zF x y (i+1):=by
 funext k
 by_cases h:k=i
 ·subst h;rw [if_pos rfl];unfold zF;rw [if_neg oM,if_pos oM]
 ·rw [if_neg h];unfold zF
  by_cases h2:k<i
  ·rw [if_pos h2,if_pos oM]
  ·rw [if_neg h2,if_neg oM]
theorem zF_mod (a b:Word):sumZ 256 (zF a.num b.num 32) 32%(top256:Int)=(((a.num+b.num)%top256:Nat):Int):=by
 rw [sumZ_congr (g:=fun k=>((dg a.num k:Nat):Int)+((dg b.num k:Nat):Int)) (fun k hk=>by unfold zF;rw [if_pos hk]),sumZ_add,sumZ_num,sumZ_num,Int.natCast_emod,Int.natCast_add]
def zG (x y i:Nat) (k:Nat):Int:=if k<i then ((dg x k:Nat):Int)-((dg y k:Nat):Int) else ((dg x k:Nat):Int)
theorem zG_le (x y i k:Nat) : -4503599627370496≤zG x y i k∧zG x y i k≤4503599627370496:=by
 have h1:dg x k<256:=Nat.mod_lt _ oE
 have h2:dg y k<256:=Nat.mod_lt _ oE
 unfold zG;split<;>omega
theorem zG_step (x y i:Nat):(fun k=>if k=i then zG x y i i-((dg y i:Nat):Int) else zG x y i k)=zG x y (i+1):=by
 funext k
 by_cases h:k=i
 ·subst h;rw [if_pos rfl];unfold zG;rw [if_neg oM,if_pos oM]
 ·rw [if_neg h];unfold zG
  by_cases h2:k<i
  ·rw [if_pos h2,if_pos oM]
  ·rw [if_neg h2,if_neg oM]
theorem zG_mod (a b:Word):sumZ 256 (zG a.num b.num 32) 32%(top256:Int)=(((a.num+(top256-b.num))%top256:Nat):Int):=by
 rw [sumZ_congr (g:=fun k=>((dg a.num k:Nat):Int)-((dg b.num k:Nat):Int)) (fun k hk=>by unfold zG;rw [if_pos hk]),sumZ_sub,sumZ_num,sumZ_num]
 have:=a.num_lt;have:=b.num_lt
 simp only [top256] at *
 omega
theorem radd_spec (a b:Word):FnV prog 203 [a.v,b.v] [] (addW a b).v:=by
 refine Fn.enter func203 rfl ntmps203 oI (fun I0 w0 => ?_)
 repeat refine sq ?_;try intro
 rename_i b4 b5 b6
 refine o_callO rfl rfl rfl rfl (digits_spec a) ?_
 intro vx ox hox
 rw [rowZ_length] at hox
 refine G.ownZ (f:=fun k=>((dg a.num k:Nat):Int)) oE hox ?_
 intro bx ex cx e1 e2 hcx
 subst e1 e2
 dsimp only [ownM,List.cons_append,List.nil_append]
 repeat refine sq ?_;try intro
 refine o_callO rfl rfl rfl rfl (digits_spec b) ?_
 intro vy oy hoy
 refine G.giveOwn2 vy (rowN 32 (dg b.num)) oy 3 hoy oY oP ?_
 repeat refine sq ?_;try intro
 refine W.lp (fun (i:Nat)=>([fRp vy (rowN 32 (dg b.num))],[(7,.int .i64 (i:Int)),(6,vy),(5,.slice (some ⟨bx,0,none⟩) 32 cx),(4,.pointer (some ⟨b6,0,none⟩))],[(b6,Ob Word.zero.cells 49),(b5,Ob (cellsL b.v) 49),(b4,Ob (cellsL a.v) 49),(bx,Ob (cIx (rowZ 32 (zF a.num b.num i)) ex) 3)])) (fun i=>i≤32) (fun i=>32-i) 0 ?_
 intro i hi
 dsimp only
 by_cases hi32:i=32
 ·subst hi32
  refine W.bare (G.giveZ bx cx hcx ?_)
  refine G.code ?_
  repeat refine sq ?_;try intro
  refine o_callD rfl rfl rfl rfl (carried_spec _ (zF a.num b.num 32) (fun i hi=>zF_le _ _ _ _)) ?_
  intro u
  repeat refine sq ?_;try intro
  refine o_callV rfl rfl rfl rfl (fromDigits_spec u (cD (zF a.num b.num 32)) (fun i _=>cD_lt _ i)) (nat_cD rfl (zF_mod a b)) ?_
  repeat refine sq ?_;try intro
  refine G.retV ?_
  rfl
 ·have h1:=zF_le a.num b.num i i
  have h2:dg b.num i<256:=Nat.mod_lt _ oE
  repeat refine sq ?_;try intro
  refine W.drawA 11 [dq _,dq _,dq _,dq _,dq _,dq _,dq _,dq _,dk _,dq _,dq _] [[],[],[],[],[2,3],[4],[],[],[6,7],[8],[5,9]] [0,1,10] (hrest:=fun c=>nrm ?_) (hops:=by
   iterate 11 refine AllQ.az ?_
   exact AllQ.nil)
  repeat refine sq ?_;try intro
  rw [zF_step]
  exact G.ag (i+1)
theorem rsub_spec (a b:Word):FnV prog 205 [a.v,b.v] [] (subW a b).v:=by
 refine Fn.enter func205 rfl ntmps205 oI (fun I0 w0 => ?_)
 repeat refine sq ?_;try intro
 rename_i b4 b5 b6
 refine o_callO rfl rfl rfl rfl (digits_spec a) ?_
 intro vx ox hox
 rw [rowZ_length] at hox
 refine G.ownZ (f:=fun k=>((dg a.num k:Nat):Int)) oE hox ?_
 intro bx ex cx e1 e2 hcx
 subst e1 e2
 dsimp only [ownM,List.cons_append,List.nil_append]
 repeat refine sq ?_;try intro
 refine o_callO rfl rfl rfl rfl (digits_spec b) ?_
 intro vy oy hoy
 refine G.giveOwn2 vy (rowN 32 (dg b.num)) oy 3 hoy oY oP ?_
 repeat refine sq ?_;try intro
 refine W.lp (fun (i:Nat)=>([fRp vy (rowN 32 (dg b.num))],[(7,.int .i64 (i:Int)),(6,vy),(5,.slice (some ⟨bx,0,none⟩) 32 cx),(4,.pointer (some ⟨b6,0,none⟩))],[(b6,Ob Word.zero.cells 49),(b5,Ob (cellsL b.v) 49),(b4,Ob (cellsL a.v) 49),(bx,Ob (cIx (rowZ 32 (zG a.num b.num i)) ex) 3)])) (fun i=>i≤32) (fun i=>32-i) 0 ?_
 intro i hi
 dsimp only
 by_cases hi32:i=32
 ·subst hi32
  refine W.bare (G.giveZ bx cx hcx ?_)
  refine G.code ?_
  repeat refine sq ?_;try intro
  refine o_callD rfl rfl rfl rfl (carried_spec _ (zG a.num b.num 32) (fun i hi=>zG_le _ _ _ _)) ?_
  intro u
  repeat refine sq ?_;try intro
  refine o_callV rfl rfl rfl rfl (fromDigits_spec u (cD (zG a.num b.num 32)) (fun i _=>cD_lt _ i)) (nat_cD rfl (zG_mod a b)) ?_
  repeat refine sq ?_;try intro
  refine G.retV ?_
  rfl
 ·have h1:=zG_le a.num b.num i i
  have h2:dg b.num i<256:=Nat.mod_lt _ oE
  repeat refine sq ?_;try intro
  refine W.drawA 11 [dq _,dq _,dq _,dq _,dq _,dq _,dq _,dq _,dk _,dq _,dq _] [[],[],[],[],[2,3],[4],[],[],[6,7],[8],[5,9]] [0,1,10] (hrest:=fun c=>nrm ?_) (hops:=by
   iterate 11 refine AllQ.az ?_
   exact AllQ.nil)
  repeat refine sq ?_;try intro
  rw [zG_step]
  exact G.ag (i+1)
def mulI (a b i k:Nat) (z:Nat→Int):Prop:=(∀ m,0≤z m∧z m≤((i*32+k:Nat):Int)*65025) ∧ ∃ q:Int,sumZ 256 z 32=((mulX a b i k:Nat):Int)+q*(top256:Int)
theorem mulI_step {a b i k:Nat} {z:Nat→Int} (h:mulI a b i k z) (hk:i+k<32):mulI a b i (k+1) (fun m=>if m=i+k then z (i+k)+((dg a i*dg b k:Nat):Int) else z m):=by
 obtain ⟨h1,q,hq⟩:=h
 have e1:dg a i*dg b k≤255*255:=Nat.mul_le_mul (Nat.le_of_lt_succ (Nat.mod_lt _ oE)) (Nat.le_of_lt_succ (Nat.mod_lt _ oE))
 refine ⟨fun m => ?_,q,?_⟩
 ·have:=h1 m
  have:=h1 (i+k)
  generalize dg a i*dg b k=u at *
  dsimp only
  split<;>omega
 ·rw [sumZ_upd,if_pos hk,hq,mulX_succ,Int.natCast_add,Int.natCast_mul (dg0 a i*dg0 b k)]
  show _=_+((dg a i*dg b k:Nat):Int)*_+_
  omega
theorem rmul_spec (a b:Word):FnV prog 204 [a.v,b.v] [] (mulW a b).v:=by
 refine Fn.enter func204 rfl ntmps204 oI (fun I0 w0 => ?_)
 repeat refine sq ?_;try intro
 rename_i b2 b3 b4
 refine o_callO rfl rfl rfl rfl (digits_spec a) ?_
 intro vx ox hox
 refine G.giveOwn2 vx (rowN 32 (dg a.num)) ox 3 hox oY oP ?_
 repeat refine sq ?_;try intro
 refine o_callO rfl rfl rfl rfl (digits_spec b) ?_
 intro vy oy hoy
 refine G.giveOwn2 vy (rowN 32 (dg b.num)) oy 3 hoy oY oP ?_
 repeat refine sq ?_;try intro
 refine o_makeI 32 rfl rfl rfl rfl rfl rfl oE ?_
 intro bz
 rw [rowZ_const,show cI (rowZ 32 fun _=>0)=cIx (rowZ 32 fun _=>0) [] from by rw [cIx,List.append_nil]]
 repeat refine sq ?_;try intro
 refine W.lp (S:=Nat × (Nat→Int)) (fun s=>([fRp vx (rowN 32 (dg a.num)),fRp vy (rowN 32 (dg b.num))],[(8,.int .i64 (s.1:Int)),(7,.slice (some ⟨bz,0,none⟩) 32 32),(6,vy),(5,vx),(4,.pointer (some ⟨b4,0,none⟩))],[(bz,Ob (cIx (rowZ 32 s.2) []) 3),(b4,Ob Word.zero.cells 49)])) (fun s=>s.1≤32∧mulI a.num b.num s.1 0 s.2) (fun s=>32-s.1) (0,fun _=>0) ?_ (hM:=by (repeat (first|exact List.nil_sublist _|apply List.Sublist.cons_cons))) (h0:=⟨Nat.zero_le _,fun m=>by dsimp only;omega,0,by rw [mulX_zero];simp [Nat.mod_one];kernel_rfl⟩)
 rintro ⟨i,z⟩ ⟨hi,hz⟩
 dsimp only at hi hz ⊢
 by_cases hi32:i=32
 ·subst hi32
  obtain ⟨hz1,q,hq⟩:=hz
  refine W.bare (G.giveZ bz 32 rfl ?_)
  refine G.code ?_
  repeat refine sq ?_;try intro
  refine o_callD rfl rfl rfl rfl (carried_spec _ z (fun i hi=>by have:=hz1 i;omega)) ?_
  intro u
  repeat refine sq ?_;try intro
  refine o_callV rfl rfl rfl rfl (fromDigits_spec u (cD z) (fun i _=>cD_lt _ i)) (nat_cD (m:=a.num*b.num) hq ?_) ?_
  ·rw [mulX_zero,Nat.mod_eq_of_lt (Nat.lt_of_lt_of_eq a.num_lt kR),Int.add_mul_emod_self_right,Int.natCast_emod]
  repeat refine sq ?_;try intro
  refine G.retV ?_
  rfl
 ·repeat refine sq ?_;try intro
  refine W.lp (S:=Nat × (Nat→Int)) (fun s=>([fRp vx (rowN 32 (dg a.num)),fRp vy (rowN 32 (dg b.num))],[(9,.int .i64 (s.1:Int)),(8,.int .i64 (i:Int)),(7,.slice (some ⟨bz,0,none⟩) 32 32),(6,vy),(5,vx),(4,.pointer (some ⟨b4,0,none⟩))],[(bz,Ob (cIx (rowZ 32 s.2) []) 3),(b4,Ob Word.zero.cells 49)])) (fun s=>i+s.1≤32∧mulI a.num b.num i s.1 s.2) (fun s=>32-s.1) (0,z) ?_ (h0:=⟨by omega,hz⟩)
  rintro ⟨k,y⟩ ⟨hk,hy⟩
  dsimp only at hk hy ⊢
  by_cases hk32:i+k=32
  ·repeat refine sq ?_;try intro
   refine G.ag (S:=Nat × (Nat→Int)) (i+1,y) (hpre:=⟨by dsimp only;omega,?_⟩)
   obtain ⟨hy1,q,hq⟩:=hy
   obtain rfl:k=32-i:=by omega
   refine ⟨fun m => ?_,q-((dg0 a.num i*(b.num/256^(32-i)):Nat):Int),?_⟩
   ·have:=hy1 m;dsimp only;omega
   ·dsimp only
    rw [hq,mulX_zero,mulX_end a.num b.num i oM,Int.natCast_add,Int.natCast_mul _ top256,Int.sub_mul]
    omega
  ·have h1:dg a.num i*dg b.num k≤255*255:=Nat.mul_le_mul (Nat.le_of_lt_succ (Nat.mod_lt _ oE)) (Nat.le_of_lt_succ (Nat.mod_lt _ oE))
   have h2:=hy.1 (i+k)
   have h3:=mulI_step hy oM
   repeat refine sq ?_;try intro
   refine W.drawA 20 [dq _,dq _,dq _,dq _,dq _,dq _,dq _,dq _,dq _,dq _,dq _,dq _,dk _,dq _,dq _,dq _,dk _,dq _,dq _,dq _] [[],[],[],[1,2],[],[],[],[5,6],[4,7],[8],[],[],[10,11],[12],[],[],[14,15],[16],[13,17],[9,18]] [0,3,19] (hrest:=fun c=>nrm ?_) (hops:=by
    iterate 20 refine AllQ.az ?_
    exact AllQ.nil)
   repeat refine sq ?_;try intro
   exact G.ag (S:=Nat × (Nat→Int)) (k+1,_) (hpre:=⟨by dsimp only;omega,h3⟩)
end Go.Rail
namespace Go.Rail
open Go Go.Proofs Tryz
set_option maxHeartbeats 400000
set_option maxRecDepth 4000
attribute [local irreducible] OpK G W LW wpListIn Exit.then Exit.inBlock Post rounds opRun bodyPostM intOp
set_option maxHeartbeats 4000000
theorem bits_spec (w:Word):Fn prog 284 [w.v] [] [] (ROwn 3 (rowN 256 (bt w.num))):=by
 refine Fn.enter func284 rfl ntmps284 oI (fun I0 w0 => ?_)
 repeat refine sq ?_;try intro
 rename_i b1
 refine o_callO rfl rfl rfl rfl (digits_spec w) ?_
 intro vx ox hox
 refine G.giveOwn2 vx (rowN 32 (dg w.num)) ox 3 hox oY oP ?_
 repeat refine sq ?_;try intro
 refine W.lp (S:=Nat × Value × OR) (fun s=>([fRow (ocells s.2.2) (rowN s.1 (bt w.num)),fRp vx (rowN 32 (dg w.num))],[(5,.int .i64 (s.1:Int)),(4,s.2.1),(3,vx)],ownM 3 s.2.2)) (fun s=>s.1≤256∧IsOwn 1 s.2.1 s.1 s.2.2) (fun s=>256-s.1) (0,.slice none 0 0,none) ?_ (h0:=⟨Nat.zero_le _,rfl,rfl⟩) (hM:=List.nil_sublist _)
 rintro ⟨i,v,o⟩ ⟨hi,hown⟩
 dsimp only at hi hown ⊢
 by_cases hi256:i=256
 ·subst hi256
  repeat refine sq ?_;try intro
  exact G.ret rfl (.cons (.tmp rfl) .nil) (M':=ownM 3 o) oY oZ ⟨o,by rw [rowZ_length];exact hown,rfl,rfl⟩
 ·have h8:dg w.num (i/8)/2^(i%8)%2=bt w.num i:=bit_dig w.num i
  have hd2:=rowZ_succ i (fun i=>((bt w.num i:Nat):Int))
  repeat refine sq ?_;try intro
  refine W.lp (S:=Nat × Nat) (fun s=>([fRow (ocells o) (rowN i (bt w.num)),fRp vx (rowN 32 (dg w.num))],[(7,.int .i64 (s.1:Int)),(6,.int .i64 (s.2:Int)),(5,.int .i64 (i:Int)),(4,v),(3,vx)],ownM 3 o)) (fun s=>s.1≤i%8∧s.2=dg w.num (i/8)/2^s.1∧s.2<256) (fun s=>8-s.1) (0,dg w.num (i/8)) ?_ (h0:=⟨Nat.zero_le _,by simp,Nat.mod_lt _ oE⟩)
  rintro ⟨k,y⟩ ⟨hk,hy,hy2⟩
  dsimp only at hk hy hy2 ⊢
  by_cases hk8:k=i%8
  ·rw [← hk8,← hy] at h8
   rw [← h8] at hd2
   repeat refine sq ?_;try intro
   refine o_app2 (Mr:=[]) o (xs:=rowN i (bt w.num)) (ys:=[((y%2:Nat):Int)]) (by rw [rowZ_length];exact hown) ⟨by simp [rowZ_length];omega,by simp [rowZ_length];omega,rfl⟩ rfl rfl rfl rfl oY oY oP ?_
   intro w' o' hown'
   rw [← hd2] at hown' ⊢
   rw [rowZ_length] at hown'
   dsimp only [List.nil_append]
   repeat refine sq ?_;try intro
   exact G.ag (S:=Nat × Value × OR) (i+1,w',o') (hpre:=⟨by dsimp only;omega,hown'⟩)
  ·have hy3:y/2=dg w.num (i/8)/2^(k+1):=by rw [hy,Nat.div_div_eq_div_mul,Nat.pow_succ]
   repeat refine sq ?_;try intro
   exact G.ag (S:=Nat × Nat) (k+1,y/2) (hpre:=⟨by dsimp only;omega,hy3,by dsimp only;omega⟩)
theorem fromBits_spec (v:Value) (g:Nat→Nat) (hg : ∀ i<256,g i<2):FnV prog 287 [v] [fRp v (rowN 256 g)] (Word.nat (sumB 2 g 256)).v:=by
 refine Fn.enter func287 rfl ntmps287 oI (fun I0 w0 => ?_)
 refine W.bare (G.slice v (rowN 256 g) ?_);intro a1 c1 e1 k1;subst e1
 rw [rowZ_length] at k1 ⊢
 refine G.code ?_
 repeat refine sq ?_;try intro
 rename_i b2
 refine W.lp (S:=Nat × Value × OR) (fun s=>([fRow (ocells s.2.2) (rowN s.1 (fun i=>sumB 2 (fun k=>g (8*i+k)) 8)),fRp (.slice a1 256 c1) (rowN 256 g)],[(4,.int .i64 (s.1:Int)),(3,s.2.1),(2,.pointer (some ⟨b2,0,none⟩)),(0,.slice a1 256 c1)],(b2,Ob Word.zero.cells 49)::ownM 3 s.2.2)) (fun s=>s.1≤32∧IsOwn 1 s.2.1 s.1 s.2.2) (fun s=>32-s.1) (0,.slice none 0 0,none) ?_ (h0:=⟨Nat.zero_le _,rfl,rfl⟩)
 rintro ⟨i,w,o⟩ ⟨hi,hown⟩
 dsimp only at hi hown ⊢
 by_cases hi32:i=32
 ·subst hi32
  refine W.bare (G.giveOwn2 (Mr:=[(b2,Ob Word.zero.cells 49)]) w (rowN 32 (fun i=>sumB 2 (fun k=>g (8*i+k)) 8)) o 3 (by rw [rowZ_length];exact hown) oY oP ?_)
  refine G.code ?_
  repeat refine sq ?_;try intro
  refine o_callV rfl rfl rfl rfl (fromDigits_spec w (fun i=>sumB 2 (fun k=>g (8*i+k)) 8) (fun i hi=>Nat.lt_of_lt_of_eq (bit_lt (fun k hk=>hg _ oM)) rfl)) (by rw [sumB_oct]) ?_
  repeat refine sq ?_;try intro
  refine G.retV ?_
  rfl
 ·repeat refine sq ?_;try intro
  refine W.lp (S:=Nat × Nat) (fun s=>([fRow (ocells o) (rowN i (fun i=>sumB 2 (fun k=>g (8*i+k)) 8)),fRp (.slice a1 256 c1) (rowN 256 g)],[(6,.int .i64 ((s.1:Int)-1)),(5,.int .i64 (s.2:Int)),(4,.int .i64 (i:Int)),(3,w),(2,.pointer (some ⟨b2,0,none⟩)),(0,.slice a1 256 c1)],(b2,Ob Word.zero.cells 49)::ownM 3 o)) (fun s=>s.1≤8∧s.2=sumB 2 (fun j=>g (8*i+s.1+j)) (8-s.1)∧s.2<256) (fun s=>s.1) (8,0) ?_ (h0:=⟨Nat.le_refl _,rfl,by decide⟩)
  rintro ⟨s,y⟩ ⟨hs,hy,hy2⟩
  dsimp only at hs hy hy2 ⊢
  cases s with
  | zero =>
   have hd2:=rowZ_succ i (fun i=>((sumB 2 (fun k=>g (8*i+k)) 8:Nat):Int))
   rw [show sumB 2 (fun k=>g (8*i+k)) 8=y from hy.symm] at hd2
   repeat refine sq ?_;try intro
   refine o_app2 (Mr:=[(b2,Ob Word.zero.cells 49)]) o (xs:=rowN i (fun i=>sumB 2 (fun k=>g (8*i+k)) 8)) (ys:=[((y:Nat):Int)]) (by rw [rowZ_length];exact hown) ⟨by simp [rowZ_length];omega,by simp [rowZ_length];omega,rfl⟩ rfl rfl rfl rfl oY oY oP ?_
   intro w' o' hown'
   rw [← hd2] at hown' ⊢
   rw [rowZ_length] at hown'
   refine nA ?_
   repeat refine sq ?_;try intro
   exact G.ag (S:=Nat × Value × OR) (i+1,w',o') (hpre:=⟨by dsimp only;omega,hown'⟩)
  | succ k =>
   have h1:g (8*i+k)<2:=hg _ oM
   have h2:2*y+g (8*i+k)=sumB 2 (fun j=>g (8*i+k+j)) (8-k):=by
    rw [hy,show 8-k=1+(8-(k+1)) from by omega,sumB_split]
    simp only [sumB,Nat.pow_zero,Nat.mul_one,Nat.zero_add,Nat.pow_one,Nat.add_zero]
    rw [Nat.add_comm]
    congr 2
    exact sumB_congr (fun j _=>by rw [show 8*i+(k+1)+j=8*i+k+(1+j) from by omega])
   have h3:2*y+g (8*i+k)<256:=by
    rw [h2]
    exact Nat.lt_of_lt_of_le (bit_lt (fun j hj=>hg _ oM)) (Nat.pow_le_pow_right (n:=2) oE (show 8-k≤8 by omega))
   rw [show ((k+1:Nat):Int)-1=(k:Int) from by omega]
   repeat refine sq ?_;try intro
   exact G.ag (S:=Nat × Nat) (k,2*y+g (8*i+k)) (hpre:=⟨by dsimp only;omega,h2,h3⟩)
end Go.Rail
namespace Go.Rail
open Go Go.Proofs Tryz
set_option maxHeartbeats 400000
set_option maxRecDepth 4000
attribute [local irreducible] OpK G W LW wpListIn Exit.then Exit.inBlock Post rounds opRun bodyPostM intOp
attribute [local irreducible] u8 u64
attribute [local irreducible] pickI
theorem of_spec (n:Int):FnV prog 29 [.int .i64 n] [] (Word.of n).v:=by
 refine Fn.enter func29 rfl ntmps29 oI (fun I0 w0 => ?_)
 by_cases hc:n<0
 ·repeat refine s4 ?_;try intro
  refine W.loopN 4 ?_
  repeat refine s4 ?_;try intro
  refine G.ret rfl (.cons (.cellA rfl rfl) .nil) (Φ':=[]) (M':=[]) oY oN ⟨?_,rfl,rfl⟩
  simp [tup,Word.of,hc,Word.v,Word.cells,cellsL]
 ·repeat refine s4 ?_;try intro
  refine G.ret rfl (.cons (.cellA rfl rfl) .nil) (Φ':=[]) (M':=[]) oY oN ⟨?_,rfl,rfl⟩
  simp [tup,Word.of,hc,Word.v,Word.cells,cellsL]
theorem word_at (w:Word) {i:Nat} (h:i<4):w.cells[i]? = some (.int .u64 (w.parts.getD i 0).toNat):=by
 match i,h with
 | 0,_=>rfl
 | 1,_=>rfl
 | 2,_=>rfl
 | 3,_=>rfl
theorem cmpW_drop (x y:Word) (i:Nat) (h:i<4):lexN (x.code.drop (3-i)) (y.code.drop (3-i))=if (x.parts.getD i 0).toNat<(y.parts.getD i 0).toNat then -1 else if (y.parts.getD i 0).toNat<(x.parts.getD i 0).toNat then 1 else lexN (x.code.drop (3-i+1)) (y.code.drop (3-i+1)):=by
 match i,h with
 | 0,_=>rfl
 | 1,_=>rfl
 | 2,_=>rfl
 | 3,_=>rfl
theorem cmp_spec (x y:Word):FnV prog 215 [x.v,y.v] [] (.int .i64 (cmpW x y)):=by
 refine Fn.enter func215 rfl ntmps215 oI (fun I0 w0 => ?_)
 repeat refine s4 ?_;try intro
 refine W.loopI (fun (i:Nat)=>([],[(2,_),(3,_),(5,.int .i64 ((i:Int)-1))],_)) (fun i=>i≤4∧lexN (x.code.drop (4-i)) (y.code.drop (4-i))=cmpW x y) (fun i=>i) 4 ⟨by omega,rfl⟩ oY (lC rfl (lC rfl (lC rfl lN))) oZ ?_
 intro i ⟨hi,hw⟩
 dsimp only
 by_cases hi0:i=0
 ·subst hi0
  repeat refine s4 ?_;try intro
  refine G.ret rfl (.cons (.tmp rfl) .nil) (Φ':=[]) (M':=[]) oY oN ⟨?_,rfl,rfl⟩
  have hw:0=cmpW x y:=hw
  simp [tup,← hw]
 ·have hd:=cmpW_drop x y (i-1) oM
  rw [show 3-(i-1)=4-i from by omega,show 4-i+1=4-(i-1) from by omega,hw] at hd
  repeat refine s4 ?_;try intro
  refine W.draw 7 [⟨?v0_1,fun _ z=>[]⟩,⟨?v1_1,fun _ z=>[]⟩,⟨?v2_1,fun _ z=>[]⟩,⟨?v3_1,fun _ z=>[]⟩,⟨?v4_1,fun _ z=>[]⟩,⟨?v5_1,fun _ z=>[]⟩,⟨?v6_1,fun _ z=>[]⟩] [[],[0],[1],[],[3],[4],[2,5]] [6] kR kR kR kR ?loc_1 ?ops_1 ?rest_1
  case ops_1 =>
   simp only [AllQ,Nat.reduceAdd,and_true]
   refine ⟨?_,?_,?_,?_,?_,?_,?_⟩
   all_goals (intro c z0 Φr Lr K hK;dsimp only [dstOf,kval,kfac,ancE,ancF,getD_z,getD_s,List.getElem?_cons_zero,List.getElem?_cons_succ,List.getElem?_nil,Option.getD_some,Option.getD_none,List.nil_append,List.cons_append,Option.getD] at hK ⊢)
   ·refine stp ?_;exact hK z0
   ·refine o_index rfl rfl rfl rfl oM oM (o':=i-1) oM ?_;exact hK z0
   ·refine o_load1 rfl rfl rfl (word_at x oM) ?_;exact hK z0
   ·refine stp ?_;exact hK z0
   ·refine o_index rfl rfl rfl rfl oM oM (o':=i-1) oM ?_;exact hK z0
   ·refine o_load1 rfl rfl rfl (word_at y oM) ?_;exact hK z0
   ·refine o_int rfl rfl rfl rfl (by first|exact i_lss_t oM|exact i_lss_f oM|exact i_lss_d|exact i_leq_t oM|exact i_leq_f oM|exact i_leq_d|exact i_gtr_t oM|exact i_gtr_f oM|exact i_gtr_d|exact i_geq_t oM|exact i_geq_f oM|exact i_geq_d|exact i_eql_t oM|exact i_eql_f oM|exact i_eql_d|exact i_neq_t oM|exact i_neq_f oM|exact i_neq_d|exact i_add oM oM|exact i_sub oM oM|exact i_mul oM oM|exact i_rem oM) ?_;exact hK z0
  case loc_1 =>
   simp only [AllL,Nat.reduceAdd,and_true]
   refine ⟨?_,?_,?_,?_,?_,?_,?_⟩
   all_goals exact fun _ _ _ _=>⟨rfl,rfl⟩
  intro c
  dsimp only [dstOf,kval,kfac,ancE,ancF,getD_z,getD_s,List.getElem?_cons_zero,List.getElem?_cons_succ,List.getElem?_nil,Option.getD_some,Option.getD_none,List.nil_append,List.cons_append,List.drop_succ_cons,List.drop_zero,Option.getD]
  repeat refine s4 ?_;try intro
  refine W.cond rfl (fun hb => ?_) (fun hb => ?_)
  ·have hb:=of_decide_eq_true hb
   rw [if_pos oM] at hd
   repeat refine s4 ?_;try intro
   refine G.ret rfl (.cons (.tmp rfl) .nil) (Φ':=[]) (M':=[]) oY oN ⟨?_,rfl,rfl⟩
   simp [tup,hd]
  have hb:=of_decide_eq_false hb
  rw [if_neg oM] at hd
  repeat refine s4 ?_;try intro
  refine W.draw 7 [⟨?v0_2,fun _ z=>[]⟩,⟨?v1_2,fun _ z=>[]⟩,⟨?v2_2,fun _ z=>[]⟩,⟨?v3_2,fun _ z=>[]⟩,⟨?v4_2,fun _ z=>[]⟩,⟨?v5_2,fun _ z=>[]⟩,⟨?v6_2,fun _ z=>[]⟩] [[],[0],[1],[],[3],[4],[2,5]] [6] kR kR kR kR ?loc_2 ?ops_2 ?rest_2
  case ops_2 =>
   simp only [AllQ,Nat.reduceAdd,and_true]
   refine ⟨?_,?_,?_,?_,?_,?_,?_⟩
   all_goals (intro c z0 Φr Lr K hK;dsimp only [dstOf,kval,kfac,ancE,ancF,getD_z,getD_s,List.getElem?_cons_zero,List.getElem?_cons_succ,List.getElem?_nil,Option.getD_some,Option.getD_none,List.nil_append,List.cons_append,Option.getD] at hK ⊢)
   ·refine stp ?_;exact hK z0
   ·refine o_index rfl rfl rfl rfl oM oM (o':=i-1) oM ?_;exact hK z0
   ·refine o_load1 rfl rfl rfl (word_at x oM) ?_;exact hK z0
   ·refine stp ?_;exact hK z0
   ·refine o_index rfl rfl rfl rfl oM oM (o':=i-1) oM ?_;exact hK z0
   ·refine o_load1 rfl rfl rfl (word_at y oM) ?_;exact hK z0
   ·refine o_int rfl rfl rfl rfl (by first|exact i_lss_t oM|exact i_lss_f oM|exact i_lss_d|exact i_leq_t oM|exact i_leq_f oM|exact i_leq_d|exact i_gtr_t oM|exact i_gtr_f oM|exact i_gtr_d|exact i_geq_t oM|exact i_geq_f oM|exact i_geq_d|exact i_eql_t oM|exact i_eql_f oM|exact i_eql_d|exact i_neq_t oM|exact i_neq_f oM|exact i_neq_d|exact i_add oM oM|exact i_sub oM oM|exact i_mul oM oM|exact i_rem oM) ?_;exact hK z0
  case loc_2 =>
   simp only [AllL,Nat.reduceAdd,and_true]
   refine ⟨?_,?_,?_,?_,?_,?_,?_⟩
   all_goals exact fun _ _ _ _=>⟨rfl,rfl⟩
  intro c
  dsimp only [dstOf,kval,kfac,ancE,ancF,getD_z,getD_s,List.getElem?_cons_zero,List.getElem?_cons_succ,List.getElem?_nil,Option.getD_some,Option.getD_none,List.nil_append,List.cons_append,List.drop_succ_cons,List.drop_zero,Option.getD]
  repeat refine s4 ?_;try intro
  refine W.cond rfl (fun hb => ?_) (fun hb => ?_)
  ·have hb:=of_decide_eq_true hb
   rw [if_pos oM] at hd
   repeat refine s4 ?_;try intro
   refine G.ret rfl (.cons (.tmp rfl) .nil) (Φ':=[]) (M':=[]) oY oN ⟨?_,rfl,rfl⟩
   simp [tup,hd]
  have hb:=of_decide_eq_false hb
  rw [if_neg oM] at hd
  repeat refine s4 ?_;try intro
  refine G.again (i-1) oM ⟨by omega,hd.symm⟩ oY (lC rfl (lC rfl (lC ?_ lN))) oZ
  rw [show ((i-1:Nat):Int)-1=(i:Int)-1-1 from by omega]
  rfl
end Go.Rail
