/- Numbers told by digits; rows that are told by a function. -/
import Derived.Test.YtjhdodkagchhkaaGreatDoorRailA
import Derived.Test.YtjhdodkagchhkaaGreatDoorRailF
import Derived.Test.YtjhdodkagchhkaaGreatDoorRailG
import Derived.Test.YtjhdodkagchhkaaGreatDoorRailE
import Derived.Test.YtjhdodkagchhkaaGreatDoorRailB
set_option linter.unusedSimpArgs false
set_option linter.unusedVariables false
namespace Go.Rail
open Go
def sumB (b:Nat) (f:Nat→Nat):Nat→Nat
 | 0=>0
 | n+1=>sumB b f n+f n*b^n
theorem sumB_congr {b:Nat} {f g:Nat→Nat} : ∀ {n:Nat},(∀ i<n,f i=g i)→sumB b f n=sumB b g n
 | 0,_=>rfl
 | n+1,h=>by simp only [sumB];rw [sumB_congr (fun i hi=>h i oM),h n oM]
theorem sumB_lt {b:Nat} {f:Nat→Nat} (hb:0<b) : ∀ {n:Nat},(∀ i<n,f i<b)→sumB b f n<b^n
 | 0,_=>by simp [sumB]
 | n+1,h=>by
  have h1:=sumB_lt hb (f:=f) (n:=n) (fun i hi=>h i oM)
  have h2:=h n oM
  have h3:(f n+1)*b^n≤b*b^n:=Nat.mul_le_mul_right _ h2
  have h4:(f n+1)*b^n=f n*b^n+b^n:=by rw [Nat.add_mul,Nat.one_mul]
  simp only [sumB]
  rw [Nat.pow_succ,Nat.mul_comm (b^n) b]
  omega
theorem sumB_self (b x:Nat) (hb:0<b) : ∀ n:Nat,sumB b (fun i=>x/b^i%b) n=x%b^n
 | 0=>by simp [sumB,Nat.mod_one]
 | n+1=>by
  simp only [sumB,sumB_self b x hb n]
  rw [Nat.pow_succ,Nat.mod_mul,Nat.mul_comm]
theorem sumB_split (b:Nat) (f:Nat→Nat) (m:Nat) : ∀ n:Nat,sumB b f (m+n)=sumB b f m+b^m*sumB b (fun i=>f (m+i)) n
 | 0=>by simp [sumB]
 | n+1=>by
  rw [show m+(n+1)=(m+n)+1 from rfl]
  simp only [sumB]
  rw [sumB_split b f m n,Nat.mul_add,Nat.pow_add]
  have:f (m+n)*(b^m*b^n)=b^m*(f (m+n)*b^n):=by rw [Nat.mul_left_comm]
  omega
def cR (f:Nat→Int):Nat→Int
 | 0=>0
 | n+1=>(f n+cR f n)/256
def cD (f:Nat→Int) (i:Nat):Nat:=((f i+cR f i)%256).toNat
def rowZ (n:Nat) (f:Nat→Int):List Int:=(List.range n).map f
theorem rowZ_length (n:Nat) (f:Nat→Int):(rowZ n f).length=n:=by simp [rowZ]
theorem rowZ_get (n:Nat) (f:Nat→Int) (i:Nat) (h:i<(rowZ n f).length):(rowZ n f)[i]=f i:=by simp [rowZ]
theorem rowZ_set (n:Nat) (f:Nat→Int) (i:Nat) (v:Int):(rowZ n f).set i v=rowZ n (fun k=>if k=i then v else f k):=by
 apply List.ext_getElem
 ·simp [rowZ]
 ·intro k h1 h2
  simp only [rowZ,List.getElem_set,List.getElem_map,List.getElem_range]
  by_cases h:i=k
  ·rw [if_pos h,if_pos h.symm]
  ·rw [if_neg h,if_neg (fun e=>h e.symm)]
abbrev bt (x i:Nat):Nat:=x/2^i%2
end Go.Rail
set_option linter.unusedSimpArgs false
set_option linter.unusedVariables false
namespace Go.Rail
open Go
section
variable {x:Cx} {Q:Exit→Act→World→Prop} {Φ:List Fa} {L:Env} {M:Own} {ops:Array Oper} {K:Act→World→Prop}
variable {d:Nat} {ty:TypeId} {pos:String} {af:Array Edge} {g:Option (Nat × Bool)}
theorem o_ixZ {t e:TypeId} {y z:Operand} {k:IntKind} {q:Int} {v:Value} {n i:Nat} {f:Nat→Int} [ht:SlTy x.P t e] [hs:Siz x.P e 1] [hq:NL q i] [kr:KRp Φ v (rowZ n f)] (hdN:Nat.blt d x.N=true) (hg:gd ops L g=some true) (hy:ev L y=some v) (hz:ev L z=some (.int k q)) (hi:i<n)
  (h : ∀ p,G x (fPt p (f i)::Φ) ((d,p)::L) M K):OpK x ops Q ⟨some d,.indexAddr t y z,ty,pos,af,g⟩ Φ L M K:=by
 have hl:i<(rowZ n f).length:=by rw [rowZ_length];exact hi
 refine o_idxN (α:=Int) i hdN hg hy hz hq.h hl ?_
 rw [rowZ_get]
 exact h
theorem o_idxG {α:Type} [GoTy α] {t e:TypeId} {y z:Operand} {k:IntKind} {q:Int} {v:Value} {xs:List α} (i:Nat) (u:α) [ht:SlTy x.P t e] [hs:Siz x.P e (GoTy.sz α)] [kr:KRp Φ v xs] (hdN:Nat.blt d x.N=true) (hg:gd ops L g=some true) (hy:ev L y=some v) (hz:ev L z=some (.int k q)) (hq:q=(i:Int)) (hi:xs[i]? = some u)
  (h : ∀ p,G x (fPt p u::Φ) ((d,p)::L) M K):OpK x ops Q ⟨some d,.indexAddr t y z,ty,pos,af,g⟩ Φ L M K:=by
 obtain ⟨hl,rfl⟩:=List.getElem?_eq_some_iff.1 hi
 exact o_idxN i hdN hg hy hz hq hl h
theorem o_ixO {t e:TypeId} {y z:Operand} {k:IntKind} {q:Int} {b n cap i:Nat} [ht:SlTy x.P t e] [hs:Siz x.P e 1] [hq:NL q i] (hdN:Nat.blt d x.N=true) (hg:gd ops L g=some true) (hy:ev L y=some (.slice (some ⟨b,0,none⟩) n cap)) (hz:ev L z=some (.int k q)) (hi:i<n)
  (h:G x Φ ((d,.pointer (some ⟨b,i,none⟩))::L) M K):OpK x ops Q ⟨some d,.indexAddr t y z,ty,pos,af,g⟩ Φ L M K :=
 o_idxO hdN hg hy hz (by rw [hq.h];omega) (by rw [hq.h];omega) (o':=i) (by rw [hq.h];simp) h
theorem o_loadZ {t:TypeId} {y:Operand} {b i e n:Nat} {f:Nat→Int} {ex:List Value} [ha:IsAg x.P t false] [hh:Holds Φ M b (cIx (rowZ n f) ex) e] (hdN:Nat.blt d x.N=true) (hg:gd ops L g=some true) (hy:ev L y=some (.pointer (some ⟨b,i,none⟩))) (hi:i<n)
  (h:G x Φ ((d,.int .i64 (f i))::L) M K):OpK x ops Q ⟨some d,.load t y,ty,pos,af,g⟩ Φ L M K:=by
 have hl:i<(rowZ n f).length:=by rw [rowZ_length];exact hi
 refine o_loadIx (hh:=hh) i hl hdN hg hy rfl ?_
 rw [rowZ_get];exact h
theorem o_storeZ {t:TypeId} {y z:Operand} {b i e n:Nat} {u:Int} {f:Nat→Int} {ex:List Value} {M':Own} [hs:Siz x.P t 1] (hg:gd ops L g=some true) (hy:ev L y=some (.pointer (some ⟨b,i,none⟩))) (hz:ev L z=some (.int .i64 u)) (hi:i<n)
  [hm:MGet M b (Ob (cIx (rowZ n f) ex) e)] [hm':MSet M b (Ob (cIx (rowZ n f) ex) e) (Ob (cIx (rowZ n (fun k=>if k=i then u else f k)) ex) e) M'] (h:G x Φ L M' K):OpK x ops Q ⟨none,.store t y z,ty,pos,af,g⟩ Φ L M K:=by
 have hl:i<(rowZ n f).length:=by rw [rowZ_length];exact hi
 have := @o_storeIx x Q Φ L M ops K ty pos af g t y z b i e (rowZ n f) ex M' i u hl hs hg hy hz rfl hm
 rw [rowZ_set] at this
 exact this (hm':=hm') h
def cU (n:Nat) (f:Nat→Nat):List Value:=(List.range n).map fun j => .int .u64 ((f j:Nat):Int)
theorem cU_length (n:Nat) (f:Nat→Nat):(cU n f).length=n:=by simp [cU]
theorem cU_set (n:Nat) (f:Nat→Nat) (i v:Nat) (h:i<n):(cU n f).take i++[.int .u64 (v:Int)]++(cU n f).drop (i+1)=cU n (fun k=>if k=i then v else f k):=by
 apply List.ext_getElem?
 intro k
 have e:(cU n f).take i++[.int .u64 (v:Int)]++(cU n f).drop (i+1)=(cU n f).set i (.int .u64 (v:Int)):=by
  rw [List.set_eq_take_append_cons_drop,if_pos (by rw [cU_length];exact h)];simp
 rw [e,List.getElem?_set]
 simp only [cU,List.getElem?_map,List.length_map,List.length_range]
 by_cases hk:i=k
 ·subst hk;simp [h]
 ·rw [if_neg hk]
  by_cases hkn:k<n
  ·rw [List.getElem?_range hkn];simp only [Option.map_some];rw [if_neg (fun e=>hk e.symm)]
  ·rw [List.getElem?_eq_none oX];rfl
theorem o_loadU {t:TypeId} {y:Operand} {b i e n:Nat} {f:Nat→Nat} [ha:IsAg x.P t false] [hh:Holds Φ M b (cU n f) e] (hdN:Nat.blt d x.N=true) (hg:gd ops L g=some true) (hy:ev L y=some (.pointer (some ⟨b,i,none⟩))) (hi:i<n)
  (h:G x Φ ((d,.int .u64 ((f i:Nat):Int))::L) M K):OpK x ops Q ⟨some d,.load t y,ty,pos,af,g⟩ Φ L M K :=
 o_load1 (hh:=hh) hdN hg hy (by simp [cU,hi]) h
theorem o_storeU {t:TypeId} {y z:Operand} {b i e n v:Nat} {q:Int} {f:Nat→Nat} {M':Own} [hs:Siz x.P t 1] [hq:NL q v] (hg:gd ops L g=some true) (hy:ev L y=some (.pointer (some ⟨b,i,none⟩))) (hz:ev L z=some (.int .u64 q)) (hi:i<n)
  [hm:MGet M b (Ob (cU n f) e)] [hm':MSet M b (Ob (cU n f) e) (Ob (cU n (fun k=>if k=i then v else f k)) e) M'] (h:G x Φ L M' K):OpK x ops Q ⟨none,.store t y z,ty,pos,af,g⟩ Φ L M K:=by
 rw [hq.h] at hz
 exact o_store (hm:=hm) (hm':=hm') (vs:=[.int .u64 (v:Int)]) hg hy hz rfl rfl (by rw [cU_length];exact hi) rfl (cU_set n f i v hi) h
theorem sty {p q:Prop} (hp:p) (s:p→q:=by
 apply kf_op;apply kf_indexAddr;first|exact o_ixZ rfl rfl rfl rfl oG|exact o_ixO rfl rfl rfl rfl oG):q:=s hp
theorem stz {p q:Prop} (hp:p) (s:p→q:=by
 first
  | (apply kf_op;apply kf_load;first|exact o_loadZ rfl rfl rfl oG|exact o_loadU rfl rfl rfl oG)
  | (apply kf_op;apply kf_store;first|exact o_storeZ rfl rfl rfl oG|exact o_storeU rfl rfl rfl oG)):q:=s hp
end
section
variable {x:Cx} {Q:Exit→Act→World→Prop} {Φ:List Fa} {L:Env} {M:Own}
variable {l:List Oper} {ks:List DOp} {as:List (List Nat)} {i n:Nat}
end
instance {Φ:List Fa} {f:Nat→Int}:Ent' Φ (fRow (ocells none) (rowZ 0 f)):=⟨fun _ _=>⟨by simp [rowZ],fun k hk=>by simp [rowZ] at hk⟩⟩
end Go.Rail
set_option linter.unusedSimpArgs false
set_option linter.unusedVariables false
namespace Go.Rail
open Go
theorem nrmX {p q:Prop} (hp:p) (s:q=p:=by
 (conv=>lhs;dsimp only [dq,dk,dm,dstX,putX,ancX,dstOf,kval,kfac,ancE,ancF,getD_z,getD_s,List.getElem?_cons_zero,List.getElem?_cons_succ,List.getElem?_nil,Option.getD_some,Option.getD_none,List.nil_append,List.cons_append,Option.getD,List.drop_succ_cons,List.drop_zero])
 all_goals exact rfl):q:=s▸hp
def bk:Value→Nat
 | .int _ n=>n.toNat
 | _=>0
abbrev dp:DOp:=⟨fun _ z => .pointer (some ⟨bk z,0,none⟩),fun _ _=>[]⟩
section
variable {x:Cx} {Q:Exit→Act→World→Prop} {Φ:List Fa} {L:Env} {M M0:Own} {M1 M2:Value→Own}
variable {l:List Oper} {ks:List DOp} {as:List (List Nat)} {i j j1 j2 n:Nat}
def bfr (l:List Oper) (i j:Nat):Bool:=((Region.before l.toArray).getD i 0).testBit j
def QX (x:Cx) (Q:Exit→Act→World→Prop) (l:List Oper) (ks:List DOp) (as:List (List Nat)) (Φ:List Fa) (L:Env) (M:(Nat→Value)→Own) (M':(Nat→Value)→Value→Own) (i:Nat):Prop :=
 ∀ (c:Nat→Value) (z0:Value) (Φr:List Fa) (Lr:Env) (K:Act→World→Prop),(∀ z,G x ((ks.getD i default).facts c z++ancF ks c (as.getD i []) (Φ++Φr)) (putX (dstX l i) ((ks.getD i default).val c z) (ancX l ks c (as.getD i []) (L++Lr))) (M' c z) K) →
  OpK x l.toArray Q (l.getD i default) (ancF ks c (as.getD i []) (Φ++Φr)) (ancX l ks c (as.getD i []) (L++Lr)) (M c) K
abbrev QX1 (x:Cx) (Q:Exit→Act→World→Prop) (l:List Oper) (ks:List DOp) (as:List (List Nat)) (Φ:List Fa) (L:Env) (M:(Nat→Value)→Own) (i:Nat):Prop:=QX x Q l ks as Φ L M (fun c _=>M c) i
def mxA (j:Nat) (M0:Own) (M1:Value→Own):(Nat→Bool)→(Nat→Value)→Own:=fun D c=>bif D j then M1 (c j) else M0
def mxB (j1 j2:Nat) (M0:Own) (M1 M2:Value→Own):(Nat→Bool)→(Nat→Value)→Own:=fun D c=>bif D j2 then M2 (c j1) else bif D j1 then M1 (c j1) else M0
theorem mxA_f {D:Nat→Bool} {c:Nat→Value} (h:D j=false):mxA j M0 M1 D c=M0:=by simp [mxA,h]
theorem mxA_t {D:Nat→Bool} {c:Nat→Value} (h:D j=true):mxA j M0 M1 D c=M1 (c j):=by simp [mxA,h]
theorem mxB_0 {D:Nat→Bool} {c:Nat→Value} (h:D j1=false) (h2:D j2=false):mxB j1 j2 M0 M1 M2 D c=M0:=by simp [mxB,h,h2]
theorem mxB_1 {D:Nat→Bool} {c:Nat→Value} (h:D j1=true) (h2:D j2=false):mxB j1 j2 M0 M1 M2 D c=M1 (c j1):=by simp [mxB,h,h2]
theorem mxB_2 {D:Nat→Bool} {c:Nat→Value} (h2:D j2=true):mxB j1 j2 M0 M1 M2 D c=M2 (c j1):=by simp [mxB,h2]
theorem ne_of_beq {i j:Nat} (h:Nat.beq i j=false):j≠i:=fun e=>by rw [e,Nat.beq_refl] at h;cases h

theorem AllX.a0 (t:AllX x Q l ks as Φ L (mxA j M0 M1) (i+1) n) (hij:Nat.beq i j=false) (hb:bfr l j i=true) (h0:QX1 x Q l ks as Φ L (fun _=>M0) i:=by
 (intro c z0 Φr Lr K;refine nrmX ?_;intro hK;(first|refine sty ?_|refine st ?_|refine stz ?_);(first|exact hK z0|exact hK|exact fun b=>hK (.int .i64 (b:Int))))):AllX x Q l ks as Φ L (mxA j M0 M1) i (n+1) :=
 ⟨fun D c z0 Φr Lr K hDi hAnc hDn hK=>by
  have hne:=ne_of_beq hij
  have hD:D j=false:=dnF (B:=fun j k=>bfr l j k) hDn hDi hb
  rw [mxA_f hD]
  refine h0 c z0 Φr Lr K (fun z => ?_)
  have:=hK z
  rwa [mxA_f (by simp [updD,hne,hD])] at this,t⟩
theorem AllX.a1 (t:AllX x Q l ks as Φ L (mxA j M0 M1) (i+1) n) (hij:Nat.beq i j=false) (hb:bfr l i j=true) (h1:QX1 x Q l ks as Φ L (fun c=>M1 (c j)) i:=by
 (intro c z0 Φr Lr K;refine nrmX ?_;intro hK;(first|refine sty ?_|refine st ?_|refine stz ?_);(first|exact hK z0|exact hK|exact fun b=>hK (.int .i64 (b:Int))))):AllX x Q l ks as Φ L (mxA j M0 M1) i (n+1) :=
 ⟨fun D c z0 Φr Lr K hDi hAnc hDn hK=>by
  have hne:=ne_of_beq hij
  have hD:D j=true:=hAnc j hb
  rw [mxA_t hD]
  refine h1 c z0 Φr Lr K (fun z => ?_)
  have:=hK z
  rwa [mxA_t (by simp [updD,hne,hD]),show updC c i z j=c j from by simp [updC,hne]] at this,t⟩
theorem AllX.a01 (t:AllX x Q l ks as Φ L (mxA j M0 M1) (i+1) n) (hij:Nat.beq i j=false) (h0:QX1 x Q l ks as Φ L (fun _=>M0) i:=by
 (intro c z0 Φr Lr K;refine nrmX ?_;intro hK;(first|refine sty ?_|refine st ?_|refine stz ?_);(first|exact hK z0|exact hK|exact fun b=>hK (.int .i64 (b:Int))))) (h1:QX1 x Q l ks as Φ L (fun c=>M1 (c j)) i:=by
 (intro c z0 Φr Lr K;refine nrmX ?_;intro hK;(first|refine sty ?_|refine st ?_|refine stz ?_);(first|exact hK z0|exact hK|exact fun b=>hK (.int .i64 (b:Int))))):AllX x Q l ks as Φ L (mxA j M0 M1) i (n+1) :=
 ⟨fun D c z0 Φr Lr K hDi hAnc hDn hK=>by
  have hne:=ne_of_beq hij
  cases hD:D j with
  | false =>
   rw [mxA_f hD]
   refine h0 c z0 Φr Lr K (fun z => ?_)
   have:=hK z
   rwa [mxA_f (by simp [updD,hne,hD])] at this
  | true =>
   rw [mxA_t hD]
   refine h1 c z0 Φr Lr K (fun z => ?_)
   have:=hK z
   rwa [mxA_t (by simp [updD,hne,hD]),show updC c i z j=c j from by simp [updC,hne]] at this,t⟩
theorem AllX.ai (t:AllX x Q l ks as Φ L (mxA j M0 M1) (j+1) n) (h:QX x Q l ks as Φ L (fun _=>M0) (fun _ z=>M1 z) j:=by
 (intro c z0 Φr Lr K;refine nrmX ?_;intro hK;(first|refine sty ?_|refine st ?_|refine stz ?_);(first|exact hK z0|exact hK|exact fun b=>hK (.int .i64 (b:Int))))):AllX x Q l ks as Φ L (mxA j M0 M1) j (n+1) :=
 ⟨fun D c z0 Φr Lr K hDi hAnc hDn hK=>by
  rw [mxA_f hDi]
  refine h c z0 Φr Lr K (fun z => ?_)
  have:=hK z
  rwa [mxA_t (by simp [updD]),show updC c j z j=z from by simp [updC]] at this,t⟩
theorem AllX.b0 (t:AllX x Q l ks as Φ L (mxB j1 j2 M0 M1 M2) (i+1) n) (hi1:Nat.beq i j1=false) (hi2:Nat.beq i j2=false) (hb12:bfr l j2 j1=true) (hb:bfr l j1 i=true) (h0:QX1 x Q l ks as Φ L (fun _=>M0) i:=by
 (intro c z0 Φr Lr K;refine nrmX ?_;intro hK;(first|refine sty ?_|refine st ?_|refine stz ?_);(first|exact hK z0|exact hK|exact fun b=>hK (.int .i64 (b:Int))))):AllX x Q l ks as Φ L (mxB j1 j2 M0 M1 M2) i (n+1) :=
 ⟨fun D c z0 Φr Lr K hDi hAnc hDn hK=>by
  have hne1:=ne_of_beq hi1
  have hne2:=ne_of_beq hi2
  have hD1:D j1=false:=dnF (B:=fun j k=>bfr l j k) hDn hDi hb
  have hD2:D j2=false:=dnF (B:=fun j k=>bfr l j k) hDn hD1 hb12
  rw [mxB_0 hD1 hD2]
  refine h0 c z0 Φr Lr K (fun z => ?_)
  have:=hK z
  rwa [mxB_0 (by simp [updD,hne1,hD1]) (by simp [updD,hne2,hD2])] at this,t⟩
theorem AllX.b1 (t:AllX x Q l ks as Φ L (mxB j1 j2 M0 M1 M2) (i+1) n) (hi1:Nat.beq i j1=false) (hi2:Nat.beq i j2=false) (hb12:bfr l j2 j1=true) (hb:bfr l j2 i=true) (hc:bfr l i j1=true) (h1:QX1 x Q l ks as Φ L (fun c=>M1 (c j1)) i:=by
 (intro c z0 Φr Lr K;refine nrmX ?_;intro hK;(first|refine sty ?_|refine st ?_|refine stz ?_);(first|exact hK z0|exact hK|exact fun b=>hK (.int .i64 (b:Int))))):AllX x Q l ks as Φ L (mxB j1 j2 M0 M1 M2) i (n+1) :=
 ⟨fun D c z0 Φr Lr K hDi hAnc hDn hK=>by
  have hne1:=ne_of_beq hi1
  have hne2:=ne_of_beq hi2
  have hD2:D j2=false:=dnF (B:=fun j k=>bfr l j k) hDn hDi hb
  have hD1:D j1=true:=hAnc j1 hc
  rw [mxB_1 hD1 hD2]
  refine h1 c z0 Φr Lr K (fun z => ?_)
  have:=hK z
  rwa [mxB_1 (by simp [updD,hne1,hD1]) (by simp [updD,hne2,hD2]),show updC c i z j1=c j1 from by simp [updC,hne1]] at this,t⟩
theorem AllX.b2 (t:AllX x Q l ks as Φ L (mxB j1 j2 M0 M1 M2) (i+1) n) (hi1:Nat.beq i j1=false) (hi2:Nat.beq i j2=false) (hb12:bfr l j2 j1=true) (hc:bfr l i j2=true) (h2:QX1 x Q l ks as Φ L (fun c=>M2 (c j1)) i:=by
 (intro c z0 Φr Lr K;refine nrmX ?_;intro hK;(first|refine sty ?_|refine st ?_|refine stz ?_);(first|exact hK z0|exact hK|exact fun b=>hK (.int .i64 (b:Int))))):AllX x Q l ks as Φ L (mxB j1 j2 M0 M1 M2) i (n+1) :=
 ⟨fun D c z0 Φr Lr K hDi hAnc hDn hK=>by
  have hne1:=ne_of_beq hi1
  have hne2:=ne_of_beq hi2
  have hD2:D j2=true:=hAnc j2 hc
  rw [mxB_2 hD2]
  refine h2 c z0 Φr Lr K (fun z => ?_)
  have:=hK z
  rwa [mxB_2 (by simp [updD,hne2,hD2]),show updC c i z j1=c j1 from by simp [updC,hne1]] at this,t⟩
theorem AllX.end {MX:(Nat→Bool)→(Nat→Value)→Own}:AllX x Q l ks as Φ L MX i 0:=trivial
theorem W.drawSt {id:Nat} {L':Env} (s j b:Nat) (o':Obj) (ks:List DOp) (as:List (List Nat)) (live:List Nat) {o:Obj} {M':Own} [ms:MSet M b o o' M']
  (hd:DropR (l.take s) L L':=by (repeat (first|exact DropR.nil|(apply DropR.keep;exact rfl)|(apply DropR.drop;exact rfl))))
  (hops:AllX x Q l ks as Φ L' (mxA j M (fun _=>M')) 0 s)
  (hrest : ∀ c,LW x l.toArray Q (l.drop s) (ancF ks c live Φ) (ancX l ks c live L') (M'))
  (hloc:AllL l ks 0 s:=by (repeat (first|exact AllL.nil|refine AllL.au ?_)))
  (hm:x.P.follows .mixedOrders=true:=by kernel_rfl) (hjs:Nat.blt j s=true:=by rfl) (hchk:chkDrawX l s as (L'.map Prod.fst)=true:=by kernel_rfl)
  (hdN:(List.range s).all (fun i=>(dstX l i).all fun d=>Nat.blt d x.N)=true:=by kernel_rfl) (hlive:live.all (fun j=>Nat.blt j s)=true:=by kernel_rfl) :
  W x (.region id l.toArray true) Q Φ L M:=W.keep hd.sub (W.drawX s (mxA j M (fun _=>M')) ks as live hm hchk hdN hlive hloc (fun c=>(mxA_f rfl).symm) hops (fun c=>by rw [mxA_t (D:=fun j=>Nat.blt j s) (show (fun j=>Nat.blt j s) j=true from hjs)];exact hrest c))
end
end Go.Rail
