/- divide: bits, quotient and remainder. -/
import Derived.Test.YtjhdodkagchhkaaGreatDoorRailA
import Derived.Test.YtjhdodkagchhkaaGreatDoorRailC
import Derived.Test.YtjhdodkagchhkaaGreatDoorAC2Acc
import Derived.Test.YtjhdodkagchhkaaGreatDoorAOrdRev
set_option linter.unusedSimpArgs false
set_option linter.unusedVariables false
namespace Go.Rail
open Go Go.Proofs Tryz
set_option maxHeartbeats 400000
set_option maxRecDepth 4000
attribute [local irreducible] OpK G W LW wpListIn Exit.then Exit.inBlock Post rounds opRun bodyPostM intOp
set_option maxHeartbeats 4000000
attribute [local irreducible] lexN cmpW Word.nat
theorem doubled_spec (w:Word) (b:Nat) (hb:b≤1):FnV prog 285 [w.v,.int .u64 b] [] (Word.nat (2*w.num+b)).v:=by
 have:=w.a.toNat_lt;have:=w.b.toNat_lt;have:=w.c.toNat_lt;have:=w.d.toNat_lt
 refine Fn.enter func285 rfl ntmps285 oI (fun I0 w0 => ?_)
 repeat refine s4 ?_;try intro
 refine W.loopN 5 ?_
 repeat refine s4 ?_;try intro
 refine o_indexV (i:=0) rfl rfl rfl rfl oE rfl ?_
 repeat refine s4 ?_;try intro
 refine o_shl rfl rfl rfl rfl oE (u_shl w.a.toNat 1 oE) ?_
 repeat refine s4 ?_;try intro
 refine o_int rfl rfl rfl rfl (u_dbl w.a.toNat b oM oM) ?_
 repeat refine s4 ?_;try intro
 refine o_shr rfl rfl rfl rfl oE (u_shr w.a.toNat 63 oE) ?_
 repeat refine s4 ?_;try intro
 refine o_indexV (i:=1) rfl rfl rfl rfl oE rfl ?_
 repeat refine s4 ?_;try intro
 refine o_shl rfl rfl rfl rfl oE (u_shl w.b.toNat 1 oE) ?_
 repeat refine s4 ?_;try intro
 refine o_int rfl rfl rfl rfl (u_dbl w.b.toNat (w.a.toNat/2^63) oM oM) ?_
 repeat refine s4 ?_;try intro
 refine o_shr rfl rfl rfl rfl oE (u_shr w.b.toNat 63 oE) ?_
 repeat refine s4 ?_;try intro
 refine o_indexV (i:=2) rfl rfl rfl rfl oE rfl ?_
 repeat refine s4 ?_;try intro
 refine o_shl rfl rfl rfl rfl oE (u_shl w.c.toNat 1 oE) ?_
 repeat refine s4 ?_;try intro
 refine o_int rfl rfl rfl rfl (u_dbl w.c.toNat (w.b.toNat/2^63) oM oM) ?_
 repeat refine s4 ?_;try intro
 refine o_shr rfl rfl rfl rfl oE (u_shr w.c.toNat 63 oE) ?_
 repeat refine s4 ?_;try intro
 refine o_indexV (i:=3) rfl rfl rfl rfl oE rfl ?_
 repeat refine s4 ?_;try intro
 refine o_shl rfl rfl rfl rfl oE (u_shl w.d.toNat 1 oE) ?_
 repeat refine s4 ?_;try intro
 refine o_int rfl rfl rfl rfl (u_dbl w.d.toNat (w.c.toNat/2^63) oM oM) ?_
 repeat refine s4 ?_;try intro
 refine o_shr rfl rfl rfl rfl oE (u_shr w.d.toNat 63 oE) ?_
 repeat refine s4 ?_;try intro
 refine G.ret rfl (.cons (.cellA rfl rfl) .nil) (Φ':=[]) (M':=[]) oY oN ⟨?_,rfl,rfl⟩
 exact Word.v_nat (n:=2*w.num+b) (by simp only [Word.num,top256];omega) oM oM oM oM
theorem onesW1_spec (b n:Nat):IterS prog 286 [.pointer (some ⟨b,0,none⟩)] (bitsE 256 n) [fBlk b (numC 4 n) 24]:=by
 intro l T Z hy
 have hy' : ∀ k,k<256→FnY prog l [.int .u64 ((n/2^(256-1-k)%2:Nat):Int)] (T k).1 (T k).2 (YR (T (k+1)) Z):=fun k h=>by
  have:=hy k (by rw [bitsE_len];exact h)
  rwa [bitsE_at] at this
 rw [bitsE_len]
 clear hy
 show Fn _ _ _ (fBlk b (numC 4 n) 24::(T 0).1) _ _
 refine Fn.enter func286 rfl ntmps286 oI (fun I0 w0 => ?_)
 repeat refine s4 ?_;try intro
 refine W.loopI (fun (i:Nat)=>(fBlk b (numC 4 n) 24::(T (256-64*i)).1,[(0,.func (.yield l) #[] #[]),(1,.pointer (some ⟨b,0,none⟩)),(3,.int .i64 ((i:Int)-1))],(T (256-64*i)).2)) (fun i=>i≤4) (fun i=>i) 4 (Nat.le_refl _) ⟨fun I hp φ hφ=>hp φ hφ⟩ (lC (k:=0) rfl (lC (k:=1) rfl (lC (k:=3) rfl (lN)))) oZ ?_
 intro i hi
 dsimp only
 by_cases hi0:i=0
 ·subst hi0
  repeat refine s4 ?_;try intro
  exact G.fin rfl .nil (Φ':=(T 256).1) (M':=(T 256).2) ⟨fun I hp φ hφ=>hp φ (.tail _ hφ)⟩ oZ (.inl ⟨rfl,rfl⟩)
 obtain ⟨j,rfl⟩ : ∃ j,i=j+1:=⟨i-1,by omega⟩
 rw [show (((j+1:Nat):Int)-1)=(j:Int) from by omega]
 repeat refine s4 ?_;try intro
 refine W.loopI (fun (u:Nat)=>(fBlk b (numC 4 n) 24::(T (256-(64*j+u))).1,[(0,.func (.yield l) #[] #[]),(1,.pointer (some ⟨b,0,none⟩)),(3,.int .i64 (j:Int)),(4,.int .i64 ((u:Int)-1))],(T (256-(64*j+u))).2)) (fun u=>u≤64) (fun u=>u) 64 (Nat.le_refl _) ⟨fun I hp φ hφ=>hp φ hφ⟩ (lC (k:=0) rfl (lC (k:=1) rfl (lC (k:=3) rfl (lC (k:=4) rfl (lN))))) oZ ?_
 intro u hu
 dsimp only
 by_cases hu0:u=0
 ·subst hu0
  repeat refine s4 ?_;try intro
  exact G.again j oM oM ⟨fun I hp φ hφ=>hp φ hφ⟩ (lC (k:=0) rfl (lC (k:=1) rfl (lC (k:=3) rfl (lN)))) oZ
 obtain ⟨k,rfl⟩ : ∃ k,u=k+1:=⟨u-1,by omega⟩
 rw [show (((k+1:Nat):Int)-1)=(k:Int) from by omega]
 repeat refine s4 ?_;try intro
 rw [show 0+(j:Int).toNat*1=j from by omega]
 refine o_load1 rfl rfl rfl (numC_at 4 n j oM) ?_
 repeat refine s4 ?_;try intro
 refine o_shr rfl rfl rfl rfl oM (u_shr _ k oM) ?_
 repeat refine s4 ?_;try intro
 refine o_int rfl rfl rfl rfl (u_mod2 _ (by exact Nat.lt_of_le_of_lt (Nat.div_le_self _ _) (Nat.mod_lt _ oE))) ?_
 rw [bit_mod _ k oM,Nat.div_div_eq_div_mul,← Nat.pow_add]
 repeat refine s4 ?_;try intro
 have hyk:=hy' (256-(64*j+(k+1))) oM
 rw [show 256-1-(256-(64*j+(k+1)))=64*j+k from by omega,show 256-(64*j+(k+1))+1=256-(64*j+k) from by omega] at hyk
 refine o_yield (Mr:=[]) rfl rfl rfl rfl hyk (fun I hp φ hφ=>hp φ (.tail _ hφ)) oI ?_ ?_
 ·repeat refine s4 ?_;try intro
  refine G.again k oM oM ⟨fun I hp φ hφ => ?_⟩ (lC (k:=0) rfl (lC (k:=1) rfl (lC (k:=3) rfl (lC (k:=4) rfl (lN))))) oI
  rcases List.mem_cons.1 hφ with rfl|hφ
  ·exact hp _ (List.mem_append_right _ (.head _))
  ·exact hp _ (List.mem_append_left _ hφ)
 ·intro s hs
  repeat refine s4 ?_;try intro
  exact G.ret rfl .nil (Φ':=s.1) (M':=s.2) ⟨fun I hp φ hφ=>hp φ (List.mem_append_left _ hφ)⟩ oI (.inr hs)
theorem onesX1_spec (b n:Nat):IterS prog 329 [.pointer (some ⟨b,0,none⟩)] (bitsE 512 n) [fBlk b (numC 8 n) 268]:=by
 intro l T Z hy
 have hy' : ∀ k,k<512→FnY prog l [.int .u64 ((n/2^(512-1-k)%2:Nat):Int)] (T k).1 (T k).2 (YR (T (k+1)) Z):=fun k h=>by
  have:=hy k (by rw [bitsE_len];exact h)
  rwa [bitsE_at] at this
 rw [bitsE_len]
 clear hy
 show Fn _ _ _ (fBlk b (numC 8 n) 268::(T 0).1) _ _
 refine Fn.enter func329 rfl ntmps329 oI (fun I0 w0 => ?_)
 repeat refine s4 ?_;try intro
 refine W.loopI (fun (i:Nat)=>(fBlk b (numC 8 n) 268::(T (512-64*i)).1,[(0,.func (.yield l) #[] #[]),(1,.pointer (some ⟨b,0,none⟩)),(3,.int .i64 ((i:Int)-1))],(T (512-64*i)).2)) (fun i=>i≤8) (fun i=>i) 8 (Nat.le_refl _) ⟨fun I hp φ hφ=>hp φ hφ⟩ (lC (k:=0) rfl (lC (k:=1) rfl (lC (k:=3) rfl (lN)))) oZ ?_
 intro i hi
 dsimp only
 by_cases hi0:i=0
 ·subst hi0
  repeat refine s4 ?_;try intro
  exact G.fin rfl .nil (Φ':=(T 512).1) (M':=(T 512).2) ⟨fun I hp φ hφ=>hp φ (.tail _ hφ)⟩ oZ (.inl ⟨rfl,rfl⟩)
 obtain ⟨j,rfl⟩ : ∃ j,i=j+1:=⟨i-1,by omega⟩
 rw [show (((j+1:Nat):Int)-1)=(j:Int) from by omega]
 repeat refine s4 ?_;try intro
 refine W.loopI (fun (u:Nat)=>(fBlk b (numC 8 n) 268::(T (512-(64*j+u))).1,[(0,.func (.yield l) #[] #[]),(1,.pointer (some ⟨b,0,none⟩)),(3,.int .i64 (j:Int)),(4,.int .i64 ((u:Int)-1))],(T (512-(64*j+u))).2)) (fun u=>u≤64) (fun u=>u) 64 (Nat.le_refl _) ⟨fun I hp φ hφ=>hp φ hφ⟩ (lC (k:=0) rfl (lC (k:=1) rfl (lC (k:=3) rfl (lC (k:=4) rfl (lN))))) oZ ?_
 intro u hu
 dsimp only
 by_cases hu0:u=0
 ·subst hu0
  repeat refine s4 ?_;try intro
  exact G.again j oM oM ⟨fun I hp φ hφ=>hp φ hφ⟩ (lC (k:=0) rfl (lC (k:=1) rfl (lC (k:=3) rfl (lN)))) oZ
 obtain ⟨k,rfl⟩ : ∃ k,u=k+1:=⟨u-1,by omega⟩
 rw [show (((k+1:Nat):Int)-1)=(k:Int) from by omega]
 repeat refine s4 ?_;try intro
 rw [show 0+(j:Int).toNat*1=j from by omega]
 refine o_load1 rfl rfl rfl (numC_at 8 n j oM) ?_
 repeat refine s4 ?_;try intro
 refine o_shr rfl rfl rfl rfl oM (u_shr _ k oM) ?_
 repeat refine s4 ?_;try intro
 refine o_int rfl rfl rfl rfl (u_mod2 _ (by exact Nat.lt_of_le_of_lt (Nat.div_le_self _ _) (Nat.mod_lt _ oE))) ?_
 rw [bit_mod _ k oM,Nat.div_div_eq_div_mul,← Nat.pow_add]
 repeat refine s4 ?_;try intro
 have hyk:=hy' (512-(64*j+(k+1))) oM
 rw [show 512-1-(512-(64*j+(k+1)))=64*j+k from by omega,show 512-(64*j+(k+1))+1=512-(64*j+k) from by omega] at hyk
 refine o_yield (Mr:=[]) rfl rfl rfl rfl hyk (fun I hp φ hφ=>hp φ (.tail _ hφ)) oI ?_ ?_
 ·repeat refine s4 ?_;try intro
  refine G.again k oM oM ⟨fun I hp φ hφ => ?_⟩ (lC (k:=0) rfl (lC (k:=1) rfl (lC (k:=3) rfl (lC (k:=4) rfl (lN))))) oI
  rcases List.mem_cons.1 hφ with rfl|hφ
  ·exact hp _ (List.mem_append_right _ (.head _))
  ·exact hp _ (List.mem_append_left _ hφ)
 ·intro s hs
  repeat refine s4 ?_;try intro
  exact G.ret rfl .nil (Φ':=s.1) (M':=s.2) ⟨fun I hp φ hφ=>hp φ (List.mem_append_left _ hφ)⟩ oI (.inr hs)
end Go.Rail
namespace Go.Rail
open Go Go.Proofs Tryz
set_option maxHeartbeats 400000
set_option maxRecDepth 4000
attribute [local irreducible] OpK G W LW wpListIn Exit.then Exit.inBlock Post rounds opRun bodyPostM intOp
set_option maxHeartbeats 4000000
attribute [local irreducible] lexN cmpW Word.nat bitsE subW
theorem onesW_spec (n:Nat):Fn prog 215 [.agg (numC 4 n).toArray] [] [] (fun u Φ' M' => ∃ b,u = .func (.func 286) #[] #[.pointer (some ⟨b,0,none⟩)]∧Φ'=[fBlk b (numC 4 n) 24]∧M'=[]):=by
 refine Fn.enter func215 rfl ntmps215 oI (fun I0 w0 => ?_)
 repeat refine s4 ?_;try intro
 rename_i b
 refine o_func rfl rfl rfl rfl ?_
 repeat refine s4 ?_;try intro
 refine G.give b (cs:=numC 4 n) (t:=24) ?_
 exact G.ret rfl (.cons (.tmp rfl) .nil) (Φ':=[fBlk b (numC 4 n) 24]) (M':=[]) oY oN ⟨b,rfl,rfl,rfl⟩
theorem dividedW_spec (n:Nat) (b:Word) (hn:n<2^256) (hb:b ≠ .zero):FnV prog 212 [.agg (numC 4 n).toArray,b.v] [] (.tuple #[(Word.nat (n/b.num)).v,(Word.nat (n%b.num)).v]):=by
 have hbp:=Word.num_pos hb
 have hbl:=b.num_lt
 have h00:n/2^256=0:=Nat.div_eq_of_lt hn
 refine Fn.enter func212 rfl ntmps212 oI (fun I0 w0 => ?_)
 repeat refine s4 ?_;try intro
 rename_i b2 b3 b4 b5
 refine OpK.call rfl rfl rfl rfl (onesW_spec n) oY (Mr:=_) oP ?_
 rintro u Φ' Mc' ⟨b9,rfl,rfl,rfl⟩
 refine nA ?_
 repeat refine s4 ?_;try intro
 refine W.rangeFunc (enc:=bitsE 256 n) (ps:=[10]) (Φi:=[fBlk b9 (numC 4 n) 24]) (Mr:=[(b2,_)]) (fun k=>([],[(b5,Ob (Word.nat (n/2^(256-k)%b.num)).cells 24),(b4,Ob (Word.nat (n/2^(256-k)/b.num)).cells 24),(b3,Ob b.cells 24)])) (fun _ _=>False) rfl (onesW1_spec b9 n) oE (bitsE_one _ _) oY oY (by dsimp only;rw [Nat.sub_zero,h00,Nat.zero_mod,Nat.zero_div,Word.cells_nat0];exact List.Perm.refl _) ?_ ?_ ?_
 ·intro l rec I0' w0' k hk
  rw [bitsE_len] at hk
  rw [bitsE_at]
  dsimp only
  have hc:n/2^(256-1-k)%2≤1:=by omega
  rw [bit_step 256 n k hk]
  generalize n/2^(256-1-k)%2=c at hc ⊢
  generalize n/2^(256-k)=m
  have hdv:=div_step m c b.num hc hbp
  have hrl:=Nat.mod_lt m hbp
  obtain ⟨R,hR⟩ : ∃ R,R=Word.nat (m%b.num):=⟨_,rfl⟩
  obtain ⟨Q,hQ⟩ : ∃ Q,Q=Word.nat (m/b.num):=⟨_,rfl⟩
  have hRn:R.num=m%b.num:=by rw [hR,Word.num_nat];exact Nat.mod_eq_of_lt oM
  have hQn:Q.num=m/b.num%top256:=by rw [hQ,Word.num_nat]
  rw [← hR,← hQ]
  have hd:=R.d.toNat_lt
  have hRd:R.num=R.a.toNat+18446744073709551616*R.b.toNat+340282366920938463463374607431768211456*R.c.toNat+6277101735386680763835789423207666416102355444464034512896*R.d.toNat:=rfl
  have:=R.a.toNat_lt;have:=R.b.toNat_lt;have:=R.c.toNat_lt
  have hyn:(Word.nat (2*R.num+c)).num=(2*R.num+c)%top256:=Word.num_nat _
  have hcm:=cmpW_num (Word.nat (2*R.num+c)) b
  simp only [top256] at hbl hyn hQn
  have big:b.num≤2*R.num+c→subW (Word.nat (2*R.num+c)) b=Word.nat ((2*m+c)%b.num)∧Word.nat (2*Q.num+1)=Word.nat ((2*m+c)/b.num):=fun h=>by
   rw [hRn] at h
   rw [if_pos h] at hdv
   rw [hdv.1,hdv.2]
   refine ⟨by rw [show ∀ x,subW x b=Word.nat (x.num+(top256-b.num)) from fun _=>by with_unfolding_all rfl];apply Word.nat_eq;simp only [top256];omega,?_⟩
   apply Word.nat_eq;simp only [top256];omega
  have small : ¬ b.num≤2*R.num+c→Word.nat (2*R.num+c)=Word.nat ((2*m+c)%b.num)∧Word.nat (2*Q.num+0)=Word.nat ((2*m+c)/b.num):=fun h=>by
   rw [hRn] at h
   rw [if_neg h] at hdv
   rw [hdv.1,hdv.2,hRn]
   refine ⟨rfl,?_⟩
   apply Word.nat_eq;simp only [top256];omega
  repeat refine s4 ?_;try intro
  refine G.begin (by rfl) ?_
  by_cases ho:9223372036854775808≤R.d.toNat
  ·obtain ⟨e1,e2⟩:=big oM
   repeat refine s4 ?_;try intro
   refine o_int rfl rfl rfl rfl (u_signT _ hd ho) ?_
   repeat refine s4 ?_;try intro
   refine cV (doubled_spec R c hc) ?_
   repeat refine s4 ?_;try intro
   refine cV (wsub_spec (Word.nat (2*R.num+c)) b) ?_
   repeat refine s4 ?_;try intro
   refine cV (doubled_spec Q 1 oE) ?_
   rw [e1,e2]
   repeat refine s4 ?_;try intro
   exact G.roundEnd oY (Φ':=[]) (M'':=[_,_,_]) (.inl ⟨rfl,rfl,rfl⟩) oY oZ
  have hyn2:(Word.nat (2*R.num+c)).num=2*R.num+c:=by omega
  rw [hyn2] at hcm
  by_cases hge:b.num≤2*R.num+c
  ·obtain ⟨e1,e2⟩:=big hge
   have hcg:0≤cmpW (Word.nat (2*R.num+c)) b:=by rw [hcm,if_neg oM];split<;>decide
   repeat refine s4 ?_;try intro
   refine o_int rfl rfl rfl rfl (u_signF _ oM) ?_
   repeat refine s4 ?_;try intro
   refine cV (doubled_spec R c hc) ?_
   repeat refine s4 ?_;try intro
   refine cV (wcmp_spec (Word.nat (2*R.num+c)) b) ?_
   repeat refine s4 ?_;try intro
   refine cV (wsub_spec (Word.nat (2*R.num+c)) b) ?_
   repeat refine s4 ?_;try intro
   refine cV (doubled_spec Q 1 oE) ?_
   rw [e1,e2]
   repeat refine s4 ?_;try intro
   exact G.roundEnd oY (Φ':=[]) (M'':=[_,_,_]) (.inl ⟨rfl,rfl,rfl⟩) oY oZ
  obtain ⟨e1,e2⟩:=small hge
  have hcg:cmpW (Word.nat (2*R.num+c)) b<0:=by rw [hcm,if_pos oM];decide
  repeat refine s4 ?_;try intro
  refine o_int rfl rfl rfl rfl (u_signF _ oM) ?_
  repeat refine s4 ?_;try intro
  refine cV (doubled_spec R c hc) ?_
  repeat refine s4 ?_;try intro
  refine cV (wcmp_spec (Word.nat (2*R.num+c)) b) ?_
  repeat refine s4 ?_;try intro
  refine cV (doubled_spec Q 0 oE) ?_
  rw [e1,e2]
  repeat refine s4 ?_;try intro
  exact G.roundEnd oY (Φ':=[]) (M'':=[_,_,_]) (.inl ⟨rfl,rfl,rfl⟩) oY oZ
 ·intro D
  refine nA ?_
  rw [bitsE_len,Nat.sub_self,Nat.pow_zero,Nat.div_one]
  repeat refine s4 ?_;try intro
  refine W.drawX 3 (fun D c => ?rM_1) [⟨?v0_1,fun _ z=>[]⟩,⟨?v1_1,fun _ z=>[]⟩,⟨fun _ _=>Value.bool false,fun _ z=>[]⟩] [[],[],[0]] [1] kR kR kR kR ?loc_1 ?hz_1 ?ops_1 ?rest_1
  case hz_1=>intro c;rfl
  case ops_1 =>
   simp only [AllX,Nat.reduceAdd,and_true]
   refine ⟨?_,?_,?_⟩
   all_goals (intro D c z0 Φr Lr K hDi hAnc hDn hK;dsimp only [dstOf,dstX,putX,kval,kfac,ancE,ancX,ancF,getD_z,getD_s,List.getElem?_cons_zero,List.getElem?_cons_succ,List.getElem?_nil,Option.getD_some,Option.getD_none,List.nil_append,List.cons_append,Option.getD] at hK ⊢)
   iterate 3 ((first|refine stp ?_|refine stf ?_);exact hK z0)
  case loc_1 =>
   simp only [AllL,Nat.reduceAdd,and_true]
   refine ⟨?_,?_,?_⟩
   all_goals exact fun _ _ _ _=>⟨rfl,rfl⟩
  intro c
  dsimp only [dstOf,dstX,putX,kval,kfac,ancE,ancX,ancF,getD_z,getD_s,List.getElem?_cons_zero,List.getElem?_cons_succ,List.getElem?_nil,Option.getD_some,Option.getD_none,List.nil_append,List.cons_append,List.drop_succ_cons,List.drop_zero,Option.getD]
  repeat refine s4 ?_;try intro
  refine G.unmark oY ?_
  refine G.ret rfl (.cons (.cellA rfl rfl) (.cons (.cellA rfl rfl) .nil)) (Φ':=[]) (M':=[]) oY oN ⟨?_,rfl,rfl⟩
  rfl
 ·intro D c s h
  cases h
theorem onesX_spec (n:Nat):Fn prog 293 [.agg (numC 8 n).toArray] [] [] (fun u Φ' M' => ∃ b,u = .func (.func 329) #[] #[.pointer (some ⟨b,0,none⟩)]∧Φ'=[fBlk b (numC 8 n) 268]∧M'=[]):=by
 refine Fn.enter func293 rfl ntmps293 oI (fun I0 w0 => ?_)
 repeat refine s4 ?_;try intro
 rename_i b
 refine o_func rfl rfl rfl rfl ?_
 repeat refine s4 ?_;try intro
 refine G.give b (cs:=numC 8 n) (t:=268) ?_
 exact G.ret rfl (.cons (.tmp rfl) .nil) (Φ':=[fBlk b (numC 8 n) 268]) (M':=[]) oY oN ⟨b,rfl,rfl,rfl⟩
theorem dividedX_spec (n:Nat) (b:Word) (hn:n<2^512) (hb:b ≠ .zero):FnV prog 225 [.agg (numC 8 n).toArray,b.v] [] (.tuple #[(Word.nat (n/b.num)).v,(Word.nat (n%b.num)).v]):=by
 have hbp:=Word.num_pos hb
 have hbl:=b.num_lt
 have h00:n/2^512=0:=Nat.div_eq_of_lt hn
 refine Fn.enter func225 rfl ntmps225 oI (fun I0 w0 => ?_)
 repeat refine s4 ?_;try intro
 rename_i b2 b3 b4 b5
 refine OpK.call rfl rfl rfl rfl (onesX_spec n) oY (Mr:=_) oP ?_
 rintro u Φ' Mc' ⟨b9,rfl,rfl,rfl⟩
 refine nA ?_
 repeat refine s4 ?_;try intro
 refine W.rangeFunc (enc:=bitsE 512 n) (ps:=[10]) (Φi:=[fBlk b9 (numC 8 n) 268]) (Mr:=[(b2,_)]) (fun k=>([],[(b5,Ob (Word.nat (n/2^(512-k)%b.num)).cells 24),(b4,Ob (Word.nat (n/2^(512-k)/b.num)).cells 24),(b3,Ob b.cells 24)])) (fun _ _=>False) rfl (onesX1_spec b9 n) oE (bitsE_one _ _) oY oY (by dsimp only;rw [Nat.sub_zero,h00,Nat.zero_mod,Nat.zero_div,Word.cells_nat0];exact List.Perm.refl _) ?_ ?_ ?_
 ·intro l rec I0' w0' k hk
  rw [bitsE_len] at hk
  rw [bitsE_at]
  dsimp only
  have hc:n/2^(512-1-k)%2≤1:=by omega
  rw [bit_step 512 n k hk]
  generalize n/2^(512-1-k)%2=c at hc ⊢
  generalize n/2^(512-k)=m
  have hdv:=div_step m c b.num hc hbp
  have hrl:=Nat.mod_lt m hbp
  obtain ⟨R,hR⟩ : ∃ R,R=Word.nat (m%b.num):=⟨_,rfl⟩
  obtain ⟨Q,hQ⟩ : ∃ Q,Q=Word.nat (m/b.num):=⟨_,rfl⟩
  have hRn:R.num=m%b.num:=by rw [hR,Word.num_nat];exact Nat.mod_eq_of_lt oM
  have hQn:Q.num=m/b.num%top256:=by rw [hQ,Word.num_nat]
  rw [← hR,← hQ]
  have hd:=R.d.toNat_lt
  have hRd:R.num=R.a.toNat+18446744073709551616*R.b.toNat+340282366920938463463374607431768211456*R.c.toNat+6277101735386680763835789423207666416102355444464034512896*R.d.toNat:=rfl
  have:=R.a.toNat_lt;have:=R.b.toNat_lt;have:=R.c.toNat_lt
  have hyn:(Word.nat (2*R.num+c)).num=(2*R.num+c)%top256:=Word.num_nat _
  have hcm:=cmpW_num (Word.nat (2*R.num+c)) b
  simp only [top256] at hbl hyn hQn
  have big:b.num≤2*R.num+c→subW (Word.nat (2*R.num+c)) b=Word.nat ((2*m+c)%b.num)∧Word.nat (2*Q.num+1)=Word.nat ((2*m+c)/b.num):=fun h=>by
   rw [hRn] at h
   rw [if_pos h] at hdv
   rw [hdv.1,hdv.2]
   refine ⟨by rw [show ∀ x,subW x b=Word.nat (x.num+(top256-b.num)) from fun _=>by with_unfolding_all rfl];apply Word.nat_eq;simp only [top256];omega,?_⟩
   apply Word.nat_eq;simp only [top256];omega
  have small : ¬ b.num≤2*R.num+c→Word.nat (2*R.num+c)=Word.nat ((2*m+c)%b.num)∧Word.nat (2*Q.num+0)=Word.nat ((2*m+c)/b.num):=fun h=>by
   rw [hRn] at h
   rw [if_neg h] at hdv
   rw [hdv.1,hdv.2,hRn]
   refine ⟨rfl,?_⟩
   apply Word.nat_eq;simp only [top256];omega
  repeat refine s4 ?_;try intro
  refine G.begin (by rfl) ?_
  by_cases ho:9223372036854775808≤R.d.toNat
  ·obtain ⟨e1,e2⟩:=big oM
   repeat refine s4 ?_;try intro
   refine o_int rfl rfl rfl rfl (u_signT _ hd ho) ?_
   repeat refine s4 ?_;try intro
   refine cV (doubled_spec R c hc) ?_
   repeat refine s4 ?_;try intro
   refine cV (wsub_spec (Word.nat (2*R.num+c)) b) ?_
   repeat refine s4 ?_;try intro
   refine cV (doubled_spec Q 1 oE) ?_
   rw [e1,e2]
   repeat refine s4 ?_;try intro
   exact G.roundEnd oY (Φ':=[]) (M'':=[_,_,_]) (.inl ⟨rfl,rfl,rfl⟩) oY oZ
  have hyn2:(Word.nat (2*R.num+c)).num=2*R.num+c:=by omega
  rw [hyn2] at hcm
  by_cases hge:b.num≤2*R.num+c
  ·obtain ⟨e1,e2⟩:=big hge
   have hcg:0≤cmpW (Word.nat (2*R.num+c)) b:=by rw [hcm,if_neg oM];split<;>decide
   repeat refine s4 ?_;try intro
   refine o_int rfl rfl rfl rfl (u_signF _ oM) ?_
   repeat refine s4 ?_;try intro
   refine cV (doubled_spec R c hc) ?_
   repeat refine s4 ?_;try intro
   refine cV (wcmp_spec (Word.nat (2*R.num+c)) b) ?_
   repeat refine s4 ?_;try intro
   refine cV (wsub_spec (Word.nat (2*R.num+c)) b) ?_
   repeat refine s4 ?_;try intro
   refine cV (doubled_spec Q 1 oE) ?_
   rw [e1,e2]
   repeat refine s4 ?_;try intro
   exact G.roundEnd oY (Φ':=[]) (M'':=[_,_,_]) (.inl ⟨rfl,rfl,rfl⟩) oY oZ
  obtain ⟨e1,e2⟩:=small hge
  have hcg:cmpW (Word.nat (2*R.num+c)) b<0:=by rw [hcm,if_pos oM];decide
  repeat refine s4 ?_;try intro
  refine o_int rfl rfl rfl rfl (u_signF _ oM) ?_
  repeat refine s4 ?_;try intro
  refine cV (doubled_spec R c hc) ?_
  repeat refine s4 ?_;try intro
  refine cV (wcmp_spec (Word.nat (2*R.num+c)) b) ?_
  repeat refine s4 ?_;try intro
  refine cV (doubled_spec Q 0 oE) ?_
  rw [e1,e2]
  repeat refine s4 ?_;try intro
  exact G.roundEnd oY (Φ':=[]) (M'':=[_,_,_]) (.inl ⟨rfl,rfl,rfl⟩) oY oZ
 ·intro D
  refine nA ?_
  rw [bitsE_len,Nat.sub_self,Nat.pow_zero,Nat.div_one]
  repeat refine s4 ?_;try intro
  refine W.drawX 3 (fun D c => ?rM_2) [⟨?v0_2,fun _ z=>[]⟩,⟨?v1_2,fun _ z=>[]⟩,⟨fun _ _=>Value.bool false,fun _ z=>[]⟩] [[],[],[0]] [1] kR kR kR kR ?loc_2 ?hz_2 ?ops_2 ?rest_2
  case hz_2=>intro c;rfl
  case ops_2 =>
   simp only [AllX,Nat.reduceAdd,and_true]
   refine ⟨?_,?_,?_⟩
   all_goals (intro D c z0 Φr Lr K hDi hAnc hDn hK;dsimp only [dstOf,dstX,putX,kval,kfac,ancE,ancX,ancF,getD_z,getD_s,List.getElem?_cons_zero,List.getElem?_cons_succ,List.getElem?_nil,Option.getD_some,Option.getD_none,List.nil_append,List.cons_append,Option.getD] at hK ⊢)
   iterate 3 ((first|refine stp ?_|refine stf ?_);exact hK z0)
  case loc_2 =>
   simp only [AllL,Nat.reduceAdd,and_true]
   refine ⟨?_,?_,?_⟩
   all_goals exact fun _ _ _ _=>⟨rfl,rfl⟩
  intro c
  dsimp only [dstOf,dstX,putX,kval,kfac,ancE,ancX,ancF,getD_z,getD_s,List.getElem?_cons_zero,List.getElem?_cons_succ,List.getElem?_nil,Option.getD_some,Option.getD_none,List.nil_append,List.cons_append,List.drop_succ_cons,List.drop_zero,Option.getD]
  repeat refine s4 ?_;try intro
  refine G.unmark oY ?_
  refine G.ret rfl (.cons (.cellA rfl rfl) (.cons (.cellA rfl rfl) .nil)) (Φ':=[]) (M':=[]) oY oN ⟨?_,rfl,rfl⟩
  rfl
 ·intro D c s h
  cases h
end Go.Rail
