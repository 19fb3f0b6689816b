/- divide: quotient and remainder. -/
import Derived.Test.YtpbbjkbackiljaaGreatDoorRailA
import Derived.Test.YtpbbjkbackiljaaGreatDoorRailC
import Derived.Test.YtpbbjkbackiljaaGreatDoorARevC3
set_option linter.unusedSimpArgs false
set_option linter.unusedVariables false
namespace Go.Rail
open Go Go.Proofs Tryz
set_option maxHeartbeats 400000
set_option maxRecDepth 4000
attribute [local irreducible] OpK G W LW wpListIn Exit.then Exit.inBlock Post rounds opRun bodyPostM intOp
set_option maxHeartbeats 4000000
attribute [local irreducible] lexN cmpW Word.nat bitsE subW
theorem onesW_spec (n:Nat):Fn prog 237 [.agg (numC 4 n).toArray] [] [] (fun u Φ' M' => ∃ b,u = .func (.func 302) #[] #[.pointer (some ⟨b,0,none⟩)]∧Φ'=[fBlk b (numC 4 n) 49]∧M'=[]):=by
 refine Fn.enter func237 rfl ntmps237 oI (fun I0 w0 => ?_)
 repeat refine s4 ?_;try intro
 rename_i b
 refine o_func rfl rfl rfl rfl ?_
 repeat refine s4 ?_;try intro
 refine G.give b (cs:=numC 4 n) (t:=49) ?_
 exact G.ret rfl (.cons (.tmp rfl) .nil) (Φ':=[fBlk b (numC 4 n) 49]) (M':=[]) oY oN ⟨b,rfl,rfl,rfl⟩
theorem dividedW_spec (n:Nat) (b:Word) (hn:n<2^256) (hb:b ≠ .zero):FnV prog 234 [.agg (numC 4 n).toArray,b.v] [] (.tuple #[(Word.nat (n/b.num)).v,(Word.nat (n%b.num)).v]):=by
 have hbp:=Word.num_pos hb
 have hbl:=b.num_lt
 have h00:n/2^256=0:=Nat.div_eq_of_lt hn
 refine Fn.enter func234 rfl ntmps234 oI (fun I0 w0 => ?_)
 repeat refine s4 ?_;try intro
 rename_i b2 b3 b4 b5
 refine OpK.call rfl rfl rfl rfl (onesW_spec n) oY (Mr:=_) oP ?_
 rintro u Φ' Mc' ⟨b9,rfl,rfl,rfl⟩
 refine nA ?_
 repeat refine s4 ?_;try intro
 refine W.rangeFunc (enc:=bitsE 256 n) (ps:=[10]) (Φi:=[fBlk b9 (numC 4 n) 49]) (Mr:=[(b2,_)]) (fun k=>([],[(b5,Ob (Word.nat (n/2^(256-k)%b.num)).cells 49),(b4,Ob (Word.nat (n/2^(256-k)/b.num)).cells 49),(b3,Ob b.cells 49)])) (fun _ _=>False) rfl (onesW1_spec b9 n) oE (bitsE_one _ _) oY oY (by dsimp only;rw [Nat.sub_zero,h00,Nat.zero_mod,Nat.zero_div,Word.cells_nat0];exact List.Perm.refl _) ?_ ?_ ?_
 ·intro l rec I0' w0' k hk
  rw [bitsE_len] at hk
  rw [bitsE_at]
  dsimp only
  have hc:n/2^(256-1-k)%2≤1:=by omega
  rw [bit_step 256 n k hk]
  generalize n/2^(256-1-k)%2=c at hc ⊢
  generalize n/2^(256-k)=m
  have hdv:=div_step m c b.num hc hbp
  have hrl:=Nat.mod_lt m hbp
  obtain ⟨R,hR⟩ : ∃ R,R=Word.nat (m%b.num):=⟨_,rfl⟩
  obtain ⟨Q,hQ⟩ : ∃ Q,Q=Word.nat (m/b.num):=⟨_,rfl⟩
  have hRn:R.num=m%b.num:=by rw [hR,Word.num_nat];exact Nat.mod_eq_of_lt oM
  have hQn:Q.num=m/b.num%top256:=by rw [hQ,Word.num_nat]
  rw [← hR,← hQ]
  have hd:=R.d.toNat_lt
  have hRd:R.num=R.a.toNat+18446744073709551616*R.b.toNat+340282366920938463463374607431768211456*R.c.toNat+6277101735386680763835789423207666416102355444464034512896*R.d.toNat:=rfl
  have:=R.a.toNat_lt;have:=R.b.toNat_lt;have:=R.c.toNat_lt
  have hyn:(Word.nat (2*R.num+c)).num=(2*R.num+c)%top256:=Word.num_nat _
  have hcm:=cmpW_num (Word.nat (2*R.num+c)) b
  simp only [top256] at hbl hyn hQn
  have big:b.num≤2*R.num+c→subW (Word.nat (2*R.num+c)) b=Word.nat ((2*m+c)%b.num)∧Word.nat (2*Q.num+1)=Word.nat ((2*m+c)/b.num):=fun h=>by
   rw [hRn] at h
   rw [if_pos h] at hdv
   rw [hdv.1,hdv.2]
   refine ⟨by rw [show ∀ x,subW x b=Word.nat (x.num+(top256-b.num)) from fun _=>by with_unfolding_all rfl];apply Word.nat_eq;simp only [top256];omega,?_⟩
   apply Word.nat_eq;simp only [top256];omega
  have small : ¬ b.num≤2*R.num+c→Word.nat (2*R.num+c)=Word.nat ((2*m+c)%b.num)∧Word.nat (2*Q.num+0)=Word.nat ((2*m+c)/b.num):=fun h=>by
   rw [hRn] at h
   rw [if_neg h] at hdv
   rw [hdv.1,hdv.2,hRn]
   refine ⟨rfl,?_⟩
   apply Word.nat_eq;simp only [top256];omega
  repeat refine s4 ?_;try intro
  refine G.begin (by rfl) ?_
  by_cases ho:9223372036854775808≤R.d.toNat
  ·obtain ⟨e1,e2⟩:=big oM
   repeat refine s4 ?_;try intro
   refine o_int rfl rfl rfl rfl (u_signT _ hd ho) ?_
   repeat refine s4 ?_;try intro
   refine cV (doubled_spec R c hc) ?_
   repeat refine s4 ?_;try intro
   refine cV (wsub_spec (Word.nat (2*R.num+c)) b) ?_
   repeat refine s4 ?_;try intro
   refine cV (doubled_spec Q 1 oE) ?_
   rw [e1,e2]
   repeat refine s4 ?_;try intro
   exact G.roundEnd oY (Φ':=[]) (M'':=[_,_,_]) (.inl ⟨rfl,rfl,rfl⟩) oY oZ
  have hyn2:(Word.nat (2*R.num+c)).num=2*R.num+c:=by omega
  rw [hyn2] at hcm
  by_cases hge:b.num≤2*R.num+c
  ·obtain ⟨e1,e2⟩:=big hge
   have hcg:0≤cmpW (Word.nat (2*R.num+c)) b:=by rw [hcm,if_neg oM];split<;>decide
   repeat refine s4 ?_;try intro
   refine o_int rfl rfl rfl rfl (u_signF _ oM) ?_
   repeat refine s4 ?_;try intro
   refine cV (doubled_spec R c hc) ?_
   repeat refine s4 ?_;try intro
   refine cV (wcmp_spec (Word.nat (2*R.num+c)) b) ?_
   repeat refine s4 ?_;try intro
   refine cV (wsub_spec (Word.nat (2*R.num+c)) b) ?_
   repeat refine s4 ?_;try intro
   refine cV (doubled_spec Q 1 oE) ?_
   rw [e1,e2]
   repeat refine s4 ?_;try intro
   exact G.roundEnd oY (Φ':=[]) (M'':=[_,_,_]) (.inl ⟨rfl,rfl,rfl⟩) oY oZ
  obtain ⟨e1,e2⟩:=small hge
  have hcg:cmpW (Word.nat (2*R.num+c)) b<0:=by rw [hcm,if_pos oM];decide
  repeat refine s4 ?_;try intro
  refine o_int rfl rfl rfl rfl (u_signF _ oM) ?_
  repeat refine s4 ?_;try intro
  refine cV (doubled_spec R c hc) ?_
  repeat refine s4 ?_;try intro
  refine cV (wcmp_spec (Word.nat (2*R.num+c)) b) ?_
  repeat refine s4 ?_;try intro
  refine cV (doubled_spec Q 0 oE) ?_
  rw [e1,e2]
  repeat refine s4 ?_;try intro
  exact G.roundEnd oY (Φ':=[]) (M'':=[_,_,_]) (.inl ⟨rfl,rfl,rfl⟩) oY oZ
 ·intro D
  refine nA ?_
  rw [bitsE_len,Nat.sub_self,Nat.pow_zero,Nat.div_one]
  repeat refine s4 ?_;try intro
  refine W.drawX 3 (fun D c => ?rM_1) [⟨?v0_1,fun _ z=>[]⟩,⟨?v1_1,fun _ z=>[]⟩,⟨fun _ _=>Value.bool false,fun _ z=>[]⟩] [[],[],[0]] [1] kR kR kR kR ?loc_1 ?hz_1 ?ops_1 ?rest_1
  case hz_1=>intro c;rfl
  case ops_1 =>
   simp only [AllX,Nat.reduceAdd,and_true]
   refine ⟨?_,?_,?_⟩
   all_goals (intro D c z0 Φr Lr K hDi hAnc hDn hK;dsimp only [dstOf,dstX,putX,kval,kfac,ancE,ancX,ancF,getD_z,getD_s,List.getElem?_cons_zero,List.getElem?_cons_succ,List.getElem?_nil,Option.getD_some,Option.getD_none,List.nil_append,List.cons_append,Option.getD] at hK ⊢)
   iterate 3 ((first|refine stp ?_|refine stf ?_);exact hK z0)
  case loc_1 =>
   simp only [AllL,Nat.reduceAdd,and_true]
   refine ⟨?_,?_,?_⟩
   all_goals exact fun _ _ _ _=>⟨rfl,rfl⟩
  intro c
  dsimp only [dstOf,dstX,putX,kval,kfac,ancE,ancX,ancF,getD_z,getD_s,List.getElem?_cons_zero,List.getElem?_cons_succ,List.getElem?_nil,Option.getD_some,Option.getD_none,List.nil_append,List.cons_append,List.drop_succ_cons,List.drop_zero,Option.getD]
  repeat refine s4 ?_;try intro
  refine G.unmark oY ?_
  refine G.ret rfl (.cons (.cellA rfl rfl) (.cons (.cellA rfl rfl) .nil)) (Φ':=[]) (M':=[]) oY oN ⟨?_,rfl,rfl⟩
  rfl
 ·intro D c s h
  cases h
theorem onesX_spec (n:Nat):Fn prog 308 [.agg (numC 8 n).toArray] [] [] (fun u Φ' M' => ∃ b,u = .func (.func 328) #[] #[.pointer (some ⟨b,0,none⟩)]∧Φ'=[fBlk b (numC 8 n) 226]∧M'=[]):=by
 refine Fn.enter func308 rfl ntmps308 oI (fun I0 w0 => ?_)
 repeat refine s4 ?_;try intro
 rename_i b
 refine o_func rfl rfl rfl rfl ?_
 repeat refine s4 ?_;try intro
 refine G.give b (cs:=numC 8 n) (t:=226) ?_
 exact G.ret rfl (.cons (.tmp rfl) .nil) (Φ':=[fBlk b (numC 8 n) 226]) (M':=[]) oY oN ⟨b,rfl,rfl,rfl⟩
theorem dividedX_spec (n:Nat) (b:Word) (hn:n<2^512) (hb:b ≠ .zero):FnV prog 247 [.agg (numC 8 n).toArray,b.v] [] (.tuple #[(Word.nat (n/b.num)).v,(Word.nat (n%b.num)).v]):=by
 have hbp:=Word.num_pos hb
 have hbl:=b.num_lt
 have h00:n/2^512=0:=Nat.div_eq_of_lt hn
 refine Fn.enter func247 rfl ntmps247 oI (fun I0 w0 => ?_)
 repeat refine s4 ?_;try intro
 rename_i b2 b3 b4 b5
 refine OpK.call rfl rfl rfl rfl (onesX_spec n) oY (Mr:=_) oP ?_
 rintro u Φ' Mc' ⟨b9,rfl,rfl,rfl⟩
 refine nA ?_
 repeat refine s4 ?_;try intro
 refine W.rangeFunc (enc:=bitsE 512 n) (ps:=[10]) (Φi:=[fBlk b9 (numC 8 n) 226]) (Mr:=[(b2,_)]) (fun k=>([],[(b5,Ob (Word.nat (n/2^(512-k)%b.num)).cells 49),(b4,Ob (Word.nat (n/2^(512-k)/b.num)).cells 49),(b3,Ob b.cells 49)])) (fun _ _=>False) rfl (onesX1_spec b9 n) oE (bitsE_one _ _) oY oY (by dsimp only;rw [Nat.sub_zero,h00,Nat.zero_mod,Nat.zero_div,Word.cells_nat0];exact List.Perm.refl _) ?_ ?_ ?_
 ·intro l rec I0' w0' k hk
  rw [bitsE_len] at hk
  rw [bitsE_at]
  dsimp only
  have hc:n/2^(512-1-k)%2≤1:=by omega
  rw [bit_step 512 n k hk]
  generalize n/2^(512-1-k)%2=c at hc ⊢
  generalize n/2^(512-k)=m
  have hdv:=div_step m c b.num hc hbp
  have hrl:=Nat.mod_lt m hbp
  obtain ⟨R,hR⟩ : ∃ R,R=Word.nat (m%b.num):=⟨_,rfl⟩
  obtain ⟨Q,hQ⟩ : ∃ Q,Q=Word.nat (m/b.num):=⟨_,rfl⟩
  have hRn:R.num=m%b.num:=by rw [hR,Word.num_nat];exact Nat.mod_eq_of_lt oM
  have hQn:Q.num=m/b.num%top256:=by rw [hQ,Word.num_nat]
  rw [← hR,← hQ]
  have hd:=R.d.toNat_lt
  have hRd:R.num=R.a.toNat+18446744073709551616*R.b.toNat+340282366920938463463374607431768211456*R.c.toNat+6277101735386680763835789423207666416102355444464034512896*R.d.toNat:=rfl
  have:=R.a.toNat_lt;have:=R.b.toNat_lt;have:=R.c.toNat_lt
  have hyn:(Word.nat (2*R.num+c)).num=(2*R.num+c)%top256:=Word.num_nat _
  have hcm:=cmpW_num (Word.nat (2*R.num+c)) b
  simp only [top256] at hbl hyn hQn
  have big:b.num≤2*R.num+c→subW (Word.nat (2*R.num+c)) b=Word.nat ((2*m+c)%b.num)∧Word.nat (2*Q.num+1)=Word.nat ((2*m+c)/b.num):=fun h=>by
   rw [hRn] at h
   rw [if_pos h] at hdv
   rw [hdv.1,hdv.2]
   refine ⟨by rw [show ∀ x,subW x b=Word.nat (x.num+(top256-b.num)) from fun _=>by with_unfolding_all rfl];apply Word.nat_eq;simp only [top256];omega,?_⟩
   apply Word.nat_eq;simp only [top256];omega
  have small : ¬ b.num≤2*R.num+c→Word.nat (2*R.num+c)=Word.nat ((2*m+c)%b.num)∧Word.nat (2*Q.num+0)=Word.nat ((2*m+c)/b.num):=fun h=>by
   rw [hRn] at h
   rw [if_neg h] at hdv
   rw [hdv.1,hdv.2,hRn]
   refine ⟨rfl,?_⟩
   apply Word.nat_eq;simp only [top256];omega
  repeat refine s4 ?_;try intro
  refine G.begin (by rfl) ?_
  by_cases ho:9223372036854775808≤R.d.toNat
  ·obtain ⟨e1,e2⟩:=big oM
   repeat refine s4 ?_;try intro
   refine o_int rfl rfl rfl rfl (u_signT _ hd ho) ?_
   repeat refine s4 ?_;try intro
   refine cV (doubled_spec R c hc) ?_
   repeat refine s4 ?_;try intro
   refine cV (wsub_spec (Word.nat (2*R.num+c)) b) ?_
   repeat refine s4 ?_;try intro
   refine cV (doubled_spec Q 1 oE) ?_
   rw [e1,e2]
   repeat refine s4 ?_;try intro
   exact G.roundEnd oY (Φ':=[]) (M'':=[_,_,_]) (.inl ⟨rfl,rfl,rfl⟩) oY oZ
  have hyn2:(Word.nat (2*R.num+c)).num=2*R.num+c:=by omega
  rw [hyn2] at hcm
  by_cases hge:b.num≤2*R.num+c
  ·obtain ⟨e1,e2⟩:=big hge
   have hcg:0≤cmpW (Word.nat (2*R.num+c)) b:=by rw [hcm,if_neg oM];split<;>decide
   repeat refine s4 ?_;try intro
   refine o_int rfl rfl rfl rfl (u_signF _ oM) ?_
   repeat refine s4 ?_;try intro
   refine cV (doubled_spec R c hc) ?_
   repeat refine s4 ?_;try intro
   refine cV (wcmp_spec (Word.nat (2*R.num+c)) b) ?_
   repeat refine s4 ?_;try intro
   refine cV (wsub_spec (Word.nat (2*R.num+c)) b) ?_
   repeat refine s4 ?_;try intro
   refine cV (doubled_spec Q 1 oE) ?_
   rw [e1,e2]
   repeat refine s4 ?_;try intro
   exact G.roundEnd oY (Φ':=[]) (M'':=[_,_,_]) (.inl ⟨rfl,rfl,rfl⟩) oY oZ
  obtain ⟨e1,e2⟩:=small hge
  have hcg:cmpW (Word.nat (2*R.num+c)) b<0:=by rw [hcm,if_pos oM];decide
  repeat refine s4 ?_;try intro
  refine o_int rfl rfl rfl rfl (u_signF _ oM) ?_
  repeat refine s4 ?_;try intro
  refine cV (doubled_spec R c hc) ?_
  repeat refine s4 ?_;try intro
  refine cV (wcmp_spec (Word.nat (2*R.num+c)) b) ?_
  repeat refine s4 ?_;try intro
  refine cV (doubled_spec Q 0 oE) ?_
  rw [e1,e2]
  repeat refine s4 ?_;try intro
  exact G.roundEnd oY (Φ':=[]) (M'':=[_,_,_]) (.inl ⟨rfl,rfl,rfl⟩) oY oZ
 ·intro D
  refine nA ?_
  rw [bitsE_len,Nat.sub_self,Nat.pow_zero,Nat.div_one]
  repeat refine s4 ?_;try intro
  refine W.drawX 3 (fun D c => ?rM_2) [⟨?v0_2,fun _ z=>[]⟩,⟨?v1_2,fun _ z=>[]⟩,⟨fun _ _=>Value.bool false,fun _ z=>[]⟩] [[],[],[0]] [1] kR kR kR kR ?loc_2 ?hz_2 ?ops_2 ?rest_2
  case hz_2=>intro c;rfl
  case ops_2 =>
   simp only [AllX,Nat.reduceAdd,and_true]
   refine ⟨?_,?_,?_⟩
   all_goals (intro D c z0 Φr Lr K hDi hAnc hDn hK;dsimp only [dstOf,dstX,putX,kval,kfac,ancE,ancX,ancF,getD_z,getD_s,List.getElem?_cons_zero,List.getElem?_cons_succ,List.getElem?_nil,Option.getD_some,Option.getD_none,List.nil_append,List.cons_append,Option.getD] at hK ⊢)
   iterate 3 ((first|refine stp ?_|refine stf ?_);exact hK z0)
  case loc_2 =>
   simp only [AllL,Nat.reduceAdd,and_true]
   refine ⟨?_,?_,?_⟩
   all_goals exact fun _ _ _ _=>⟨rfl,rfl⟩
  intro c
  dsimp only [dstOf,dstX,putX,kval,kfac,ancE,ancX,ancF,getD_z,getD_s,List.getElem?_cons_zero,List.getElem?_cons_succ,List.getElem?_nil,Option.getD_some,Option.getD_none,List.nil_append,List.cons_append,List.drop_succ_cons,List.drop_zero,Option.getD]
  repeat refine s4 ?_;try intro
  refine G.unmark oY ?_
  refine G.ret rfl (.cons (.cellA rfl rfl) (.cons (.cellA rfl rfl) .nil)) (Φ':=[]) (M':=[]) oY oN ⟨?_,rfl,rfl⟩
  rfl
 ·intro D c s h
  cases h
end Go.Rail
namespace Go.Rail
open Go Go.Proofs Tryz
set_option maxHeartbeats 400000
set_option maxRecDepth 4000
attribute [local irreducible] OpK G W LW wpListIn Exit.then Exit.inBlock Post rounds opRun bodyPostM intOp
set_option maxHeartbeats 4000000
attribute [local irreducible] lexN cmpW Word.nat subW mulW
theorem wof_spec (n:Nat) (h:n<9223372036854775808):FnV prog 101 [.int .i64 n] [] (Word.nat n).v:=by
 refine Fn.enter func101 rfl ntmps101 oI (fun I0 w0 => ?_)
 repeat refine s4 ?_;try intro
 refine o_shr (v := .int .i64 0) rfl rfl rfl rfl oE (by
  refine congrArg (Value.int .i64) ?_
  show (n:Int).fdiv (2^63)=0
  rw [Int.fdiv_eq_ediv_of_nonneg _ oE];omega) ?_
 repeat refine s4 ?_;try intro
 refine G.ret rfl (.cons (.cellA rfl rfl) .nil) (Φ':=[]) (M':=[]) oY oN ⟨?_,rfl,rfl⟩
 have e1:=u64_toNat (n:Int)
 have e0:(u64 0).toNat=0:=by decide
 exact Word.v_nat (n:=n) (by simp only [top256];omega) oM oM oM oM
theorem div_spec (a b:Word):FnV prog 143 [a.v,b.v] [] (divW a b).v:=by
 have ha:=a.num_lt
 refine Fn.enter func143 rfl ntmps143 oI (fun I0 w0 => ?_)
 by_cases hb:b=Word.zero
 ·repeat refine s4 ?_;try intro
  refine o_neq (u:=b.v) (v:=Word.zero.v) rfl rfl rfl rfl (r:=false) (by simp [hb]) ?_
  repeat refine s4 ?_;try intro
  refine G.ret rfl (.cons (.cellA rfl rfl) .nil) (Φ':=[]) (M':=[]) oY oN ⟨?_,rfl,rfl⟩
  rw [divW,hb,Word.zero_num,Nat.div_zero];with_unfolding_all rfl
 ·have hd:=dividedW_spec a.num b (by simpa [top256] using ha) hb
  rw [← Word.cells_num] at hd
  repeat refine s4 ?_;try intro
  refine o_neq (u:=b.v) (v:=Word.zero.v) rfl rfl rfl rfl (r:=true) (by simp [hb]) ?_
  repeat refine s4 ?_;try intro
  refine cV hd ?_
  repeat refine s4 ?_;try intro
  refine G.ret rfl (.cons (.cellA rfl rfl) .nil) (Φ':=[]) (M':=[]) oY oN ⟨?_,rfl,rfl⟩
  rfl
theorem mod_spec (a b:Word):FnV prog 145 [a.v,b.v] [] (modW a b).v:=by
 have ha:=a.num_lt
 refine Fn.enter func145 rfl ntmps145 oI (fun I0 w0 => ?_)
 by_cases hb:b=Word.zero
 ·repeat refine s4 ?_;try intro
  refine o_neq (u:=b.v) (v:=Word.zero.v) rfl rfl rfl rfl (r:=false) (by simp [hb]) ?_
  repeat refine s4 ?_;try intro
  refine G.ret rfl (.cons (.cellA rfl rfl) .nil) (Φ':=[]) (M':=[]) oY oN ⟨?_,rfl,rfl⟩
  rw [modW,if_pos hb];rfl
 ·have hd:=dividedW_spec a.num b (by simpa [top256] using ha) hb
  rw [← Word.cells_num] at hd
  repeat refine s4 ?_;try intro
  refine o_neq (u:=b.v) (v:=Word.zero.v) rfl rfl rfl rfl (r:=true) (by simp [hb]) ?_
  repeat refine s4 ?_;try intro
  refine cV hd ?_
  repeat refine s4 ?_;try intro
  refine G.ret rfl (.cons (.cellA rfl rfl) .nil) (Φ':=[]) (M':=[]) oY oN ⟨?_,rfl,rfl⟩
  rw [modW,if_neg hb];rfl
theorem signed_spec (w:Word):FnV prog 235 [w.v] [] (.tuple #[(sizeW w).v,.bool (negW w)]):=by
 refine Fn.enter func235 rfl ntmps235 oI (fun I0 w0 => ?_)
 unfold sizeW
 by_cases h:9223372036854775808≤w.d.toNat
 ·have e:negW w=true:=by simp [negW,h]
  rw [e,if_pos rfl]
  repeat refine s4 ?_;try intro
  refine cV (wsub_spec Word.zero w) ?_
  repeat refine s4 ?_;try intro
  refine G.ret rfl (.cons (.cellA rfl rfl) (.cons (.tmp rfl) .nil)) (Φ':=[]) (M':=[]) oY oN ⟨?_,rfl,rfl⟩
  rfl
 ·have e:negW w=false:=by simp [negW];omega
  rw [e,if_neg oI]
  repeat refine s4 ?_;try intro
  refine G.ret rfl (.cons (.cellA rfl rfl) (.cons (.tmp rfl) .nil)) (Φ':=[]) (M':=[]) oY oN ⟨?_,rfl,rfl⟩
  rfl
theorem with_spec (w:Word) (b:Bool):FnV prog 236 [w.v,.bool b] [] (if b then minusW w else w).v:=by
 refine Fn.enter func236 rfl ntmps236 oI (fun I0 w0 => ?_)
 cases b with
 | true =>
  repeat refine s4 ?_;try intro
  refine cV (wsub_spec Word.zero w) ?_
  repeat refine s4 ?_;try intro
  refine G.ret rfl (.cons (.cellA rfl rfl) .nil) (Φ':=[]) (M':=[]) oY oN ⟨?_,rfl,rfl⟩
  rfl
 | false =>
  repeat refine s4 ?_;try intro
  refine G.ret rfl (.cons (.cellA rfl rfl) .nil) (Φ':=[]) (M':=[]) oY oN ⟨?_,rfl,rfl⟩
  rfl
theorem sdiv_spec (a b:Word):FnV prog 144 [a.v,b.v] [] (sdivW a b).v:=by
 refine Fn.enter func144 rfl ntmps144 oI (fun I0 w0 => ?_)
 repeat refine s4 ?_;try intro
 refine cV (signed_spec a) ?_
 repeat refine s4 ?_;try intro
 refine cV (signed_spec b) ?_
 repeat refine s4 ?_;try intro
 refine cV (div_spec (sizeW a) (sizeW b)) ?_
 repeat refine s4 ?_;try intro
 refine cV (with_spec (divW (sizeW a) (sizeW b)) (negW a != negW b)) ?_
 repeat refine s4 ?_;try intro
 refine G.ret rfl (.cons (.cellA rfl rfl) .nil) (Φ':=[]) (M':=[]) oY oN ⟨?_,rfl,rfl⟩
 unfold sdivW
 cases negW a<;>cases negW b<;>rfl
theorem smod_spec (a b:Word):FnV prog 146 [a.v,b.v] [] (smodW a b).v:=by
 refine Fn.enter func146 rfl ntmps146 oI (fun I0 w0 => ?_)
 repeat refine s4 ?_;try intro
 refine cV (signed_spec a) ?_
 repeat refine s4 ?_;try intro
 refine cV (signed_spec b) ?_
 repeat refine s4 ?_;try intro
 refine cV (mod_spec (sizeW a) (sizeW b)) ?_
 repeat refine s4 ?_;try intro
 refine cV (with_spec (modW (sizeW a) (sizeW b)) (negW a)) ?_
 repeat refine s4 ?_;try intro
 refine G.ret rfl (.cons (.cellA rfl rfl) .nil) (Φ':=[]) (M':=[]) oY oN ⟨?_,rfl,rfl⟩
 rfl
end Go.Rail
