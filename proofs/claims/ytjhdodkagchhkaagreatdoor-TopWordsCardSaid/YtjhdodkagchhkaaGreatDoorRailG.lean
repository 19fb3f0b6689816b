/- A step by one word; strings; drawn regions told shortly. -/
import Derived.Test.YtjhdodkagchhkaaGreatDoorRailA
import Derived.Test.YtjhdodkagchhkaaGreatDoorRailC
import Derived.Test.YtjhdodkagchhkaaGreatDoorRailF
import Derived.Test.YtjhdodkagchhkaaGreatDoorRailD
import Derived.Test.YtjhdodkagchhkaaGreatDoorRailB
import Derived.Laws.Strings2
import Derived.Laws.BytesString
import Derived.Lib.ConvBytes
set_option linter.unusedSimpArgs false
set_option linter.unusedVariables false
namespace Go.Rail
open Go
inductive EvL (L:Env):List Operand→List Value→Prop
 | nil:EvL L [] []
 | cons {o:Operand} {os:List Operand} {v:Value} {vs:List Value} (h:ev L o=some v) (t:EvL L os vs):EvL L (o::os) (v::vs)
theorem EvL.mapM {L:Env} {os:List Operand} {vs:List Value} (h:EvL L os vs):os.mapM (ev L)=some vs:=by
 induction h with
 | nil=>rfl
 | cons h _ ih=>simp [List.mapM_cons,h,ih]
class CV (P:Program) (f:FuncId) (args:List Value) (Φ:List Fa) (v:outParam Value):Prop where h:FnV P f args Φ v
class CD (P:Program) (f:FuncId) (args:List Value) (Φ:List Fa) (ψ:outParam (Value→Fa)):Prop where h:FnD P f args Φ (fun v=>[ψ v])

section
variable {x:Cx} {Q:Exit→Act→World→Prop} {Φ:List Fa} {L:Env} {M:Own} {ops:Array Oper} {K:Act→World→Prop}
variable {d:Nat} {ty:TypeId} {pos:String} {af:Array Edge} {g:Option (Nat × Bool)}
theorem o_cv {y:Operand} {args:List Operand} {vs:List Value} {ts:Array TypeId} {f:FuncId} {v:Value}
  (hdN:Nat.blt d x.N=true) (hg:gd ops L g=some true) (hy:ev L y=some (.func (.func f) #[] #[])) (hargs:EvL L args vs) [hf:HasFn x.P f] [c:CV x.P f vs Φ v]
  (h:G x Φ ((d,v)::L) M K):OpK x ops Q ⟨some d,.call ⟨.value y,args.toArray,ts⟩,ty,pos,af,g⟩ Φ L M K :=
 o_callV (cap:=[]) (Φc:=Φ) hdN hg hy hargs.mapM (by rw [List.append_nil];exact c.h) rfl (hΦ:=⟨fun I hp=>hp⟩) h
theorem o_cd {y:Operand} {args:List Operand} {vs:List Value} {ts:Array TypeId} {f:FuncId} {ψ:Value→Fa}
  (hdN:Nat.blt d x.N=true) (hg:gd ops L g=some true) (hy:ev L y=some (.func (.func f) #[] #[])) (hargs:EvL L args vs) [hf:HasFn x.P f] [c:CD x.P f vs Φ ψ]
  (h : ∀ v,G x (ψ v::Φ) ((d,v)::L) M K):OpK x ops Q ⟨some d,.call ⟨.value y,args.toArray,ts⟩,ty,pos,af,g⟩ Φ L M K :=
 o_callD (cap:=[]) (Φc:=Φ) hdN hg hy hargs.mapM (by rw [List.append_nil];exact c.h) (hΦ:=⟨fun I hp=>hp⟩) h
theorem W.cond_t {c:Operand} {p q:Code} {b:Bool} (hc:ev L c=some (.bool b)) (hb:b=true) (h:W x p Q Φ L M):W x (.cond c p q) Q Φ L M:=W.cond_true (by rw [hc,hb]) h
theorem W.cond_f {c:Operand} {p q:Code} {b:Bool} (hc:ev L c=some (.bool b)) (hb:b=false) (h:W x q Q Φ L M):W x (.cond c p q) Q Φ L M:=W.cond_false (by rw [hc,hb]) h
end
class NL (p:Int) (n:outParam Nat):Prop where h:p=(n:Int)
instance (priority:=high) NL.cast (n:Nat):NL (n:Int) n:=⟨rfl⟩
instance NL.lit (n:Nat):NL (no_index (@OfNat.ofNat Int n instOfNat)) (@OfNat.ofNat Nat n (instOfNatNat n)):=⟨rfl⟩
section
variable {a b:Nat} {p q:Int} {k:IntKind}
theorem or_lt64 (ha:a<18446744073709551616) (hb:b<18446744073709551616):a|||b<18446744073709551616:=Nat.or_lt_two_pow (n:=64) ha hb
theorem xor_lt64 (ha:a<18446744073709551616) (hb:b<18446744073709551616):a^^^b<18446744073709551616:=Nat.xor_lt_two_pow (n:=64) ha hb
theorem and_lt64 (ha:a<18446744073709551616):a&&&b<18446744073709551616:=Nat.lt_of_le_of_lt Nat.and_le_left ha
class Lt64 (n:Nat):Prop where h:n<18446744073709551616
instance (x:UInt64):Lt64 x.toNat:=⟨x.toNat_lt⟩
instance (x:UInt8):Lt64 x.toNat:=⟨Nat.lt_trans x.toNat_lt oE⟩
instance (n:Nat):Lt64 (n%18446744073709551616):=⟨Nat.mod_lt _ oE⟩
instance [x:Lt64 a] [y:Lt64 b]:Lt64 (a|||b):=⟨or_lt64 x.h y.h⟩
instance [x:Lt64 a] [y:Lt64 b]:Lt64 (a^^^b):=⟨xor_lt64 x.h y.h⟩
instance [x:Lt64 a]:Lt64 (a&&&b):=⟨and_lt64 x.h⟩
instance [x:Lt64 a]:Lt64 (a/b):=⟨Nat.lt_of_le_of_lt (Nat.div_le_self _ _) x.h⟩
theorem wrap_nat (ha:(a:Int)≤k.max):k.wrap (a:Int)=a:=by
 cases k<;>simp [IntKind.wrap,IntKind.max,IntKind.signed,IntKind.bits,IntKind.min] at ha ⊢ <;> omega
theorem w_add [hp:NL p a] [hq:NL q b]:intOp .add .u64 p q=some (.int .u64 (((a+b)%18446744073709551616:Nat):Int)):=by
 rw [hp.h,hq.h];unfold intOp;simp only [IntKind.wrap_u64];rfl
theorem w_mul [hp:NL p a] [hq:NL q b]:intOp .mul .u64 p q=some (.int .u64 (((a*b)%18446744073709551616:Nat):Int)):=by
 rw [hp.h,hq.h];unfold intOp;simp only [IntKind.wrap_u64];rfl
theorem w_add' [hp:NL p a] [hq:NL q b] (h:a+b<18446744073709551616):intOp .add .u64 p q=some (.int .u64 ((a+b:Nat):Int)):=by
 rw [w_add (a:=a) (b:=b),Nat.mod_eq_of_lt h]
theorem w_mul' [hp:NL p a] [hq:NL q b] (h:a*b<18446744073709551616):intOp .mul .u64 p q=some (.int .u64 ((a*b:Nat):Int)):=by
 rw [w_mul (a:=a) (b:=b),Nat.mod_eq_of_lt h]
theorem w_sub' [hp:NL p a] [hq:NL q b] (h:b≤a) (ha:a<18446744073709551616):intOp .sub .u64 p q=some (.int .u64 ((a-b:Nat):Int)):=by
 rw [hp.h,hq.h]
 unfold intOp
 refine congrArg (fun v=>some (Value.int .u64 v)) ?_
 rw [show (a:Int)-(b:Int)=((a-b:Nat):Int) from by omega]
 exact wrap_nat (by simp [IntKind.max,IntKind.signed,IntKind.bits];omega)
theorem n_quo [hp:NL p a] [hq:NL q b] (hb:0<b) (ha:(a:Int)≤k.max):intOp .quo k p q=some (.int k ((a/b:Nat):Int)):=by
 rw [hp.h,hq.h]
 unfold intOp
 rw [if_neg oM]
 refine congrArg (fun v=>some (Value.int k v)) ?_
 rw [show (a:Int).tdiv (b:Int)=((a/b:Nat):Int) from rfl]
 exact wrap_nat (Int.le_trans (Int.ofNat_le.2 (Nat.div_le_self a b)) ha)
theorem n_rem [hp:NL p a] [hq:NL q b] (hb:0<b):intOp .rem k p q=some (.int k ((a%b:Nat):Int)):=by
 rw [hp.h,hq.h,i_rem oM];rfl
theorem w_or [hp:NL p a] [hq:NL q b] (ha:a<18446744073709551616) (hb:b<18446744073709551616):intOp .or .u64 p q=some (.int .u64 ((a|||b:Nat):Int)):=by
 rw [hp.h,hq.h];exact u_or a b ha hb
theorem w_and [hp:NL p a] [hq:NL q b] (ha:a<18446744073709551616) (hb:b<18446744073709551616):intOp .and .u64 p q=some (.int .u64 ((a&&&b:Nat):Int)):=by
 rw [hp.h,hq.h];exact u_and a b ha hb
theorem w_xor [hp:NL p a] [hq:NL q b] (ha:a<18446744073709551616) (hb:b<18446744073709551616):intOp .xor .u64 p q=some (.int .u64 ((a^^^b:Nat):Int)):=by
 rw [hp.h,hq.h];exact u_xor a b ha hb
theorem n_addi [hp:NL p a] [hq:NL q b] (h:a+b<9223372036854775808):intOp .add .i64 p q=some (.int .i64 ((a+b:Nat):Int)):=by
 rw [hp.h,hq.h,i_add oM oM];rfl
theorem n_muli [hp:NL p a] [hq:NL q b] (h:a*b<9223372036854775808):intOp .mul .i64 p q=some (.int .i64 ((a*b:Nat):Int)):=by
 rw [hp.h,hq.h,i_mul (by have:(0:Int)≤(a:Int)*(b:Int):=Int.mul_nonneg oM oM;omega) (by rw [← Int.natCast_mul];omega)];rfl
theorem n_subi [hp:NL p a] [hq:NL q b] (h:b≤a) (h2:a<9223372036854775808):intOp .sub .i64 p q=some (.int .i64 ((a-b:Nat):Int)):=by
 rw [hp.h,hq.h,i_sub oM oM];congr 2;omega
theorem w_u64 {n:Int} (h0:0≤n) (h1:n<18446744073709551616):Value.int .u64 (IntKind.u64.wrap n) = .int .u64 n:=by
 rw [IntKind.wrap_u64];congr 1;omega
theorem w_i64 {n:Int} (h0 : -9223372036854775808≤n) (h1:n<9223372036854775808):Value.int .i64 (IntKind.i64.wrap n) = .int .i64 n:=by rw [wrap_i64 h0 h1]
theorem w_u8 {n:Int} (h0:0≤n) (h1:n<256):Value.int .u8 (IntKind.u8.wrap n) = .int .u8 n:=by
 refine congrArg (Value.int .u8) ?_
 simp [IntKind.wrap,IntKind.max,IntKind.signed,IntKind.bits,IntKind.min];omega
theorem w_u8m {p:Int} [hp:NL p a]:Value.int .u8 (IntKind.u8.wrap p) = .int .u8 ((a%256:Nat):Int):=by
 rw [hp.h]
 refine congrArg (Value.int .u8) ?_
 simp [IntKind.wrap,IntKind.max,IntKind.signed,IntKind.bits,IntKind.min]
end
section
variable {x:Cx} {Q:Exit→Act→World→Prop} {Φ:List Fa} {L:Env} {M:Own} {ops:Array Oper} {K:Act→World→Prop}
variable {d:Nat} {ty:TypeId} {pos:String} {af:Array Edge} {g:Option (Nat × Bool)}
theorem o_shrN {t t':TypeId} {y z:Operand} {yk:IntKind} {p q:Int} {a n:Nat} [hp:NL p a] [hq:NL q n] (hdN:Nat.blt d x.N=true) (hg:gd ops L g=some true) (hy:ev L y=some (.int .u64 p)) (hz:ev L z=some (.int yk q)) (hn:n<64)
  (h:G x Φ ((d,.int .u64 ((a/2^n:Nat):Int))::L) M K):OpK x ops Q ⟨some d,.binOp .shr t y z t',ty,pos,af,g⟩ Φ L M K :=
 o_shr hdN hg hy hz (by rw [hq.h];omega) (by rw [hp.h,hq.h];exact u_shr a n hn) h
theorem o_shlN {t t':TypeId} {y z:Operand} {yk:IntKind} {p q:Int} {a n:Nat} [hp:NL p a] [hq:NL q n] (hdN:Nat.blt d x.N=true) (hg:gd ops L g=some true) (hy:ev L y=some (.int .u64 p)) (hz:ev L z=some (.int yk q)) (hn:n<64)
  (h:G x Φ ((d,.int .u64 ((a*2^n%18446744073709551616:Nat):Int))::L) M K):OpK x ops Q ⟨some d,.binOp .shl t y z t',ty,pos,af,g⟩ Φ L M K :=
 o_shl hdN hg hy hz (by rw [hq.h];omega) (by rw [hp.h,hq.h];exact u_shl a n hn) h
theorem o_indexZ {t e:TypeId} {y z:Operand} {k:IntKind} {b n i:Nat} {q:Int} [hq:NL q i] [ht:ArTy x.P t n e] [hs:Siz x.P e 1] (hdN:Nat.blt d x.N=true) (hg:gd ops L g=some true) (hy:ev L y=some (.pointer (some ⟨b,0,none⟩))) (hz:ev L z=some (.int k q)) (hi:i<n)
  (h:G x Φ ((d,.pointer (some ⟨b,i,none⟩))::L) M K):OpK x ops Q ⟨some d,.indexAddr t y z,ty,pos,af,g⟩ Φ L M K :=
 o_index hdN hg hy hz (by rw [hq.h];omega) (by rw [hq.h];omega) (by rw [hq.h];simp) h
theorem o_loadNum {t:TypeId} {y:Operand} {b i len n:Nat} {cs:List Value} {e:TypeId} [ha:IsAg x.P t false] [hh:Holds Φ M b cs e] (hdN:Nat.blt d x.N=true) (hg:gd ops L g=some true) (hy:ev L y=some (.pointer (some ⟨b,i,none⟩))) (hc:cs=numC len n) (hi:i<len)
  (h:G x Φ ((d,.int .u64 ((n/2^(64*i)%18446744073709551616:Nat):Int))::L) M K):OpK x ops Q ⟨some d,.load t y,ty,pos,af,g⟩ Φ L M K :=
 o_load1 hdN hg hy (by rw [hc];exact numC_at len n i hi) h
class Whole (v:Value) (n:Nat):Prop where h : ∃ cs:List Value,v = .agg cs.toArray∧cs.length=n∧ones cs=true
instance (w:Word):Whole w.v 4:=⟨w.cells,rfl,rfl,rfl⟩
instance (w:Addr20):Whole w.v 20:=⟨w.cells,rfl,w.cells_length,w.cells_one⟩
instance (w:Key):Whole w.v 25:=⟨w.cells,rfl,w.cells_length,w.cells_one⟩
instance (n:Nat):Whole (.agg (numC 4 n).toArray) 4:=⟨numC 4 n,rfl,by simp [numC],by simp [numC,ones,Value.oneCell']⟩
theorem o_loadV {t:TypeId} {y:Operand} {b n:Nat} {v:Value} {e:TypeId} [ha:IsAg x.P t true] [hs:Siz x.P t n] [hh:Holds Φ M b (cellsL v) e] [hw:Whole v n] (hdN:Nat.blt d x.N=true) (hg:gd ops L g=some true) (hy:ev L y=some (.pointer (some ⟨b,0,none⟩)))
  (h:G x Φ ((d,v)::L) M K):OpK x ops Q ⟨some d,.load t y,ty,pos,af,g⟩ Φ L M K:=by
 obtain ⟨cs,rfl,hl,h1⟩:=hw.h
 exact o_loadA (cs:=cs) (vs:=cs) (hh:=hh) hdN hg hy oM (by rw [List.drop_zero,List.take_of_length_le oM]) h
theorem o_storeV {t:TypeId} {y z:Operand} {b n:Nat} {cs:List Value} {e:TypeId} {v:Value} {M':Own} [hs:Siz x.P t n] (hg:gd ops L g=some true) (hy:ev L y=some (.pointer (some ⟨b,0,none⟩))) (hz:ev L z=some v)
  [hm:MGet M b (Ob cs e)] [hw:Whole v n] (hn:Nat.beq cs.length n=true) (hm':MSet M b (Ob cs e) (Ob (cellsL v) e) M')
  (h:G x Φ L M' K):OpK x ops Q ⟨none,.store t y z,ty,pos,af,g⟩ Φ L M K:=by
 have hn:=Nat.eq_of_beq_eq_true hn
 obtain ⟨us,rfl,hl,h1⟩:=hw.h
 exact o_store (vs:=us) (cs':=us) (hm:=hm) hg hy hz rfl hl oM h1 (by rw [List.take_zero,Nat.zero_add,List.drop_eq_nil_of_le oM];simp) (hm':=hm') h
theorem o_buildW {t:TypeId} {place:Nat→Option (Nat × Nat)} {zs:List Value} [hP:Places x.P t place zs] (hdN:Nat.blt d x.N=true) (hg:gd ops L g=some true) (hz:zs=Word.zero.cells)
  (h:G x Φ ((d,Word.zero.v)::L) M K):OpK x ops Q ⟨some d,.build t #[],ty,pos,af,g⟩ Φ L M K:=by
 subst hz
 exact o_build (parts:=[]) (vs:=[]) hdN hg rfl FillR.nil h
theorem G.retV {P:Program} {fn:Func} {I0:Imm} {Mc:Own} {w0:World} {N:Nat} {rs:List ResultVar} {vs:List Value} {v:Value}
  (hv:tup vs=v) (hr:fn.results=rs.toArray:=by rfl) (h:Ress P Φ L M rs vs:=by (repeat (first|exact .nil|(apply Ress.cons;focus first|exact .tmp rfl|exact .cellA rfl rfl|exact .cell1 rfl)));done) :
  G ⟨P,none,⟨I0,doms Mc,w0⟩,N,[]⟩ Φ L M (Post P fn I0 Mc w0 (fun u Φ' Mc'=>u=v∧Φ'=[]∧Mc'=[]) .ret):=G.ret hr h (Φ':=[]) (M':=[]) oY oN ⟨hv,rfl,rfl⟩
theorem G.retD {P:Program} {fn:Func} {I0:Imm} {Mc:Own} {w0:World} {N:Nat} {t:Nat} {v:Value} {ψ:Value→List Fa}
  (hr:fn.results = #[.tmp t]) (hl:look L t=some v) (e:Ents Φ (ψ v):=by first|infer_instance|(dsimp only;infer_instance)) :
  G ⟨P,none,⟨I0,doms Mc,w0⟩,N,[]⟩ Φ L M (Post P fn I0 Mc w0 (fun u Φ' Mc'=>Φ'=ψ u∧Mc'=[]) .ret):=G.ret (rs:=[.tmp t]) (vs:=[v]) hr (.cons (.tmp hl) .nil) (Φ':=ψ v) (M':=[]) e oN ⟨rfl,rfl⟩
end
section
variable {x:Cx} {Q:Exit→Act→World→Prop} {Φ:List Fa} {L:Env} {M:Own} {ops:Array Oper} {K:Act→World→Prop}
variable {d:Option Nat} {ty t t':TypeId} {pos:String} {af:Array Edge} {g:Option (Nat × Bool)} {y z:Operand}
theorem kb_lss {pp:Prop} (h:pp→OpK x ops Q ⟨d,.binOp .lss t y z t',ty,pos,af,g⟩ Φ L M K):pp→OpK x ops Q ⟨d,.binOp .lss t y z t',ty,pos,af,g⟩ Φ L M K:=h
theorem kb_leq {pp:Prop} (h:pp→OpK x ops Q ⟨d,.binOp .leq t y z t',ty,pos,af,g⟩ Φ L M K):pp→OpK x ops Q ⟨d,.binOp .leq t y z t',ty,pos,af,g⟩ Φ L M K:=h
theorem kb_gtr {pp:Prop} (h:pp→OpK x ops Q ⟨d,.binOp .gtr t y z t',ty,pos,af,g⟩ Φ L M K):pp→OpK x ops Q ⟨d,.binOp .gtr t y z t',ty,pos,af,g⟩ Φ L M K:=h
theorem kb_geq {pp:Prop} (h:pp→OpK x ops Q ⟨d,.binOp .geq t y z t',ty,pos,af,g⟩ Φ L M K):pp→OpK x ops Q ⟨d,.binOp .geq t y z t',ty,pos,af,g⟩ Φ L M K:=h
theorem kb_eql {pp:Prop} (h:pp→OpK x ops Q ⟨d,.binOp .eql t y z t',ty,pos,af,g⟩ Φ L M K):pp→OpK x ops Q ⟨d,.binOp .eql t y z t',ty,pos,af,g⟩ Φ L M K:=h
theorem kb_neq {pp:Prop} (h:pp→OpK x ops Q ⟨d,.binOp .neq t y z t',ty,pos,af,g⟩ Φ L M K):pp→OpK x ops Q ⟨d,.binOp .neq t y z t',ty,pos,af,g⟩ Φ L M K:=h
theorem kb_add {pp:Prop} (h:pp→OpK x ops Q ⟨d,.binOp .add t y z t',ty,pos,af,g⟩ Φ L M K):pp→OpK x ops Q ⟨d,.binOp .add t y z t',ty,pos,af,g⟩ Φ L M K:=h
theorem kb_sub {pp:Prop} (h:pp→OpK x ops Q ⟨d,.binOp .sub t y z t',ty,pos,af,g⟩ Φ L M K):pp→OpK x ops Q ⟨d,.binOp .sub t y z t',ty,pos,af,g⟩ Φ L M K:=h
theorem kb_mul {pp:Prop} (h:pp→OpK x ops Q ⟨d,.binOp .mul t y z t',ty,pos,af,g⟩ Φ L M K):pp→OpK x ops Q ⟨d,.binOp .mul t y z t',ty,pos,af,g⟩ Φ L M K:=h
theorem kb_quo {pp:Prop} (h:pp→OpK x ops Q ⟨d,.binOp .quo t y z t',ty,pos,af,g⟩ Φ L M K):pp→OpK x ops Q ⟨d,.binOp .quo t y z t',ty,pos,af,g⟩ Φ L M K:=h
theorem kb_rem {pp:Prop} (h:pp→OpK x ops Q ⟨d,.binOp .rem t y z t',ty,pos,af,g⟩ Φ L M K):pp→OpK x ops Q ⟨d,.binOp .rem t y z t',ty,pos,af,g⟩ Φ L M K:=h
theorem kb_and {pp:Prop} (h:pp→OpK x ops Q ⟨d,.binOp .and t y z t',ty,pos,af,g⟩ Φ L M K):pp→OpK x ops Q ⟨d,.binOp .and t y z t',ty,pos,af,g⟩ Φ L M K:=h
theorem kb_or {pp:Prop} (h:pp→OpK x ops Q ⟨d,.binOp .or t y z t',ty,pos,af,g⟩ Φ L M K):pp→OpK x ops Q ⟨d,.binOp .or t y z t',ty,pos,af,g⟩ Φ L M K:=h
theorem kb_xor {pp:Prop} (h:pp→OpK x ops Q ⟨d,.binOp .xor t y z t',ty,pos,af,g⟩ Φ L M K):pp→OpK x ops Q ⟨d,.binOp .xor t y z t',ty,pos,af,g⟩ Φ L M K:=h
theorem kb_shl {pp:Prop} (h:pp→OpK x ops Q ⟨d,.binOp .shl t y z t',ty,pos,af,g⟩ Φ L M K):pp→OpK x ops Q ⟨d,.binOp .shl t y z t',ty,pos,af,g⟩ Φ L M K:=h
theorem kb_shr {pp:Prop} (h:pp→OpK x ops Q ⟨d,.binOp .shr t y z t',ty,pos,af,g⟩ Φ L M K):pp→OpK x ops Q ⟨d,.binOp .shr t y z t',ty,pos,af,g⟩ Φ L M K:=h
end
instance NL.add {p q:Int} {a b:Nat} [x:NL p a] [y:NL q b]:NL (p+q) (a+b):=⟨by rw [x.h,y.h];rfl⟩
instance NL.mul {p q:Int} {a b:Nat} [x:NL p a] [y:NL q b]:NL (p*q) (a*b):=⟨by rw [x.h,y.h];rfl⟩
end Go.Rail
set_option linter.unusedSimpArgs false
set_option linter.unusedVariables false
namespace Go.Rail
open Go
abbrev ba (l:List UInt8):ByteArray:=⟨l.toArray⟩
abbrev sv (l:List UInt8):Value := .string (ba l)
theorem ba_toList (l:List UInt8):(ba l).toList=l:=by
 have key : ∀ (n i:Nat) (r:List UInt8),l.length-i=n→ByteArray.toList.loop (ba l) i r=r.reverse++l.drop i:=by
  intro n
  induction n with
  | zero =>
   intro i r h
   rw [ByteArray.toList.loop]
   have hs:(ba l).size=l.length:=by simp [ByteArray.size]
   rw [if_neg (by rw [hs];omega),List.drop_eq_nil_of_le oM];simp
  | succ n ih =>
   intro i r h
   rw [ByteArray.toList.loop]
   have hs:(ba l).size=l.length:=by simp [ByteArray.size]
   have hi:i<l.length:=by omega
   rw [if_pos (by rw [hs];omega),ih (i+1) _ oM,List.drop_eq_getElem_cons hi]
   have e:(ba l).get! i=l[i]:=by
    show (l.toArray)[i]! = l[i]
    simp [hi]
   rw [e];simp
 have:=key l.length 0 [] oM
 simpa [ByteArray.toList] using this
theorem ba_append (l m:List UInt8):ba l++ba m=ba (l++m):=by
 apply ByteArray.ext;simp
theorem ba_size (l:List UInt8):(ba l).size=l.length:=by simp [ByteArray.size]
theorem ba_eq (s:ByteArray):s=ba s.data.toList:=rfl
theorem foldl_ba (ns:List UInt8) : ∀ (l:List UInt8),(ns.map fun (x:UInt8)=>(x.toNat:Int)).foldl (fun r n=>r.push (UInt8.ofNat n.toNat)) (ba l)=ba (l++ns):=by
 induction ns with
 | nil=>intro l;simp
 | cons n ns ih =>
  intro l
  simp only [List.map_cons,List.foldl_cons]
  have e:(ba l).push (UInt8.ofNat (n.toNat:Int).toNat)=ba (l++[n]):=by
   apply ByteArray.ext;simp [ByteArray.push]
  rw [e,ih];simp
section
variable {x:Cx} {Q:Exit→Act→World→Prop} {Φ:List Fa} {L:Env} {M:Own} {ops:Array Oper} {K:Act→World→Prop}
variable {d:Nat} {ty:TypeId} {pos:String} {af:Array Edge} {g:Option (Nat × Bool)}
theorem o_lenT {t:TypeId} {y:Operand} {l:List UInt8} [ht:StrTy x.P t] (hdN:Nat.blt d x.N=true) (hg:gd ops L g=some true) (hy:ev L y=some (.string (ba l)))
  (h:G x Φ ((d,.int .i64 (l.length:Int))::L) M K):OpK x ops Q ⟨some d,.call ⟨.builtin .len,#[y],#[t]⟩,ty,pos,af,g⟩ Φ L M K :=
 OpK.val rfl hdN hg oI (fun I a w hp hk hw=>by
  simp [execOp,resolve,hk.eval hy,invoke,builtin,Builtin.len_,run_underlying ht.h,goInt,Sem.run_bind,Result.andThen,Sem.run_pure,ba_size]) h
theorem o_ixT {t:TypeId} {y z:Operand} {k:IntKind} {l:List UInt8} {q:Int} (i:Nat) [ht:StrTy x.P t] (hdN:Nat.blt d x.N=true) (hg:gd ops L g=some true) (hy:ev L y=some (.string (ba l))) (hz:ev L z=some (.int k q)) (hq:q=(i:Int)) (hi:i<l.length)
  (h:G x Φ ((d,.int .u8 ((l[i].toNat:Nat):Int))::L) M K):OpK x ops Q ⟨some d,.index t y z,ty,pos,af,g⟩ Φ L M K :=
 OpK.val rfl hdN hg oI (fun I a w hp hk hw=>by
  subst hq
  have e:(ba l)[i]? = some l[i]:=by
   have hs:i<(ba l).size:=by rw [ba_size];exact hi
   rw [getElem?_pos (ba l) i hs]
   congr 1
  simp [execOp,hk.eval hy,hk.eval hz,Instr.index,asIntOf,run_underlying ht.h,e,Sem.run_bind,Result.andThen,Sem.run_pure]) h
theorem o_slT {t:TypeId} {y:Operand} {lo hi:Option Operand} {s:List UInt8} (l h:Nat) [ht:StrTy x.P t] (hdN:Nat.blt d x.N=true) (hg:gd ops L g=some true) (hy:ev L y=some (.string (ba s))) (hl:Bd L lo 0 l) (hh:Bd L hi s.length h) (hlh:l≤h) (hhx:h≤s.length)
  (k:G x Φ ((d,.string (ba ((s.take h).drop l)))::L) M K):OpK x ops Q ⟨some d,.slice t y lo hi none,ty,pos,af,g⟩ Φ L M K :=
 OpK.val rfl hdN hg oI (fun I a w hp hk hw=>by
  have hb:=run_bounds (P:=x.P) (isSlice:=false) hk hl hh hlh (cap:=s.length) hhx w
  have e:(ba s).extract l h=ba ((s.take h).drop l):=by
   rw [ByteArray.extract_mk,← List.drop_take]
  simp [execOp,Instr.sliceAt,Instr.slice,hk.eval hy,Sem.run_bind,Result.andThen,Sem.run_pure,run_underlying ht.h,ba_size,hb,e]) k
theorem o_catT {t t':TypeId} {y z:Operand} {l m:List UInt8} (hdN:Nat.blt d x.N=true) (hg:gd ops L g=some true) (hy:ev L y=some (.string (ba l))) (hz:ev L z=some (.string (ba m))) (hs:l.length+m.length<9223372036854775808)
  (h:G x Φ ((d,.string (ba (l++m)))::L) M K):OpK x ops Q ⟨some d,.binOp .add t y z t',ty,pos,af,g⟩ Φ L M K :=
 OpK.val rfl hdN hg oI (fun I a w hp hk hw=>by
  have e : ¬ (((l.length+m.length:Nat):Int)>IntKind.i64.max):=by simp [IntKind.max,IntKind.signed,IntKind.bits];omega
  simp only [execOp,hk.eval hy,hk.eval hz,run_eqGuard_string,binOp,Op.stringOp,Sem.run_bind,Result.andThen,Sem.run_pure,ba_size,e,ba_append,if_false]) h
theorem o_eqT {t t':TypeId} {y z:Operand} {l m:List UInt8} {r:Bool} (hdN:Nat.blt d x.N=true) (hg:gd ops L g=some true) (hy:ev L y=some (.string (ba l))) (hz:ev L z=some (.string (ba m))) (hr:decide (l=m)=r)
  (h:G x Φ ((d,.bool r)::L) M K):OpK x ops Q ⟨some d,.binOp .eql t y z t',ty,pos,af,g⟩ Φ L M K :=
 OpK.val rfl hdN hg oI (fun I a w hp hk hw=>by
  subst hr
  have e:(l==m)=decide (l=m):=by by_cases h:l=m<;>simp [h]
  simp only [execOp,hk.eval hy,hk.eval hz,run_eqGuard_string,binOp,Op.stringOp,Sem.run_bind,Result.andThen,Sem.run_pure,ba_toList,e]) h
theorem o_neT {t t':TypeId} {y z:Operand} {l m:List UInt8} {r:Bool} (hdN:Nat.blt d x.N=true) (hg:gd ops L g=some true) (hy:ev L y=some (.string (ba l))) (hz:ev L z=some (.string (ba m))) (hr:decide (l≠m)=r)
  (h:G x Φ ((d,.bool r)::L) M K):OpK x ops Q ⟨some d,.binOp .neq t y z t',ty,pos,af,g⟩ Φ L M K :=
 OpK.val rfl hdN hg oI (fun I a w hp hk hw=>by
  subst hr
  have e:(!(l==m))=decide (l≠m):=by by_cases h:l=m<;>simp [h]
  simp only [execOp,hk.eval hy,hk.eval hz,run_eqGuard_string,binOp,Op.stringOp,Sem.run_bind,Result.andThen,Sem.run_pure,ba_toList,e]) h
theorem o_toT {s t e:TypeId} {y:Operand} {v:Value} {l:List UInt8} [hs:SlTy x.P s e] [he:IntTy x.P e .u8] [ht:StrTy x.P t] (hdN:Nat.blt d x.N=true) (hg:gd ops L g=some true) (hy:ev L y=some v) [k:Ent' Φ (fRp v l)]
  (h:G x Φ ((d,.string (ba l))::L) M K):OpK x ops Q ⟨some d,.convert s t y,ty,pos,af,g⟩ Φ L M K :=
 OpK.val rfl hdN hg oI (fun I a w hp hk hw=>by
  obtain ⟨ad,cap,rfl,h1,h2⟩:=(k.h I hp).slice
  have e1:=run_convert_bytes_string (P:=x.P) w s t e ad l.length cap hs.h he.h ht.h
  have e2:(Conv.bytesToString (.slice ad l.length cap)).run x.P w = .ok (.string (ba l)) w:=by
   by_cases hne:l=[]
   ·subst hne
    cases ad with
    | none=>simp [Conv.bytesToString,Sem.run_pure];rfl
    | some ad =>
     have:=run_bytesToString (P:=x.P) w ad 0 cap [] (by simp [loadCells,loadCellsFrom,Sem.run_pure])
     exact this
   ·obtain ⟨⟨b,off,sp⟩,c,t',fr,rfl,hsp,hb,hr1,hr2⟩:=h2 hne
    simp only at hsp hb hr1 hr2
    subst hsp
    have hb':=hw.imm _ _ hb
    have h3:=loadCells_obj (P:=x.P) (w:=w) (off:=off) (n:=l.length) hb' (by have:=hr1;simp [GoTy.sz] at this;simpa using this)
    have e4:(c.toList.drop off).take l.length=(l.map fun (x:UInt8)=>(x.toNat:Int)).map (Value.int .u8):=by
     apply List.ext_getElem
     ·have:=hr1;simp [GoTy.sz] at this;simp;omega
     ·intro i hi1 hi2
      simp only [List.length_map] at hi2
      have h5:=hr2 i hi2
      simp only [GoTy.rep,GoTy.sz,chunk,Nat.mul_one] at h5
      have h6:c.toList[off+i]? = some (.int .u8 l[i].toNat):=by
       have h7:=congrArg (fun z=>z[0]?) h5
       simpa using h7
      have hlt:off+i<c.toList.length:=(List.getElem?_eq_some_iff.1 h6).1
      rw [List.getElem?_eq_getElem hlt] at h6
      simp only [List.getElem_take,List.getElem_drop,List.getElem_map]
      simpa using h6
    rw [e4] at h3
    have h8:=run_bytesToString (P:=x.P) w ⟨b,off,none⟩ l.length cap (l.map fun (x:UInt8)=>(x.toNat:Int)) h3
    rw [h8,show ByteArray.empty=ba [] from rfl,foldl_ba];simp
  simp [execOp,hk.eval hy,e1,e2,Sem.run_bind,Result.andThen,Sem.run_pure]) h
theorem o_toK {s t e:TypeId} {y:Operand} {v:Value} {l:List UInt8} [hs:SlTy x.P s e] [he:IntTy x.P e .u8] [ht:StrTy x.P t] (hdN:Nat.blt d x.N=true) (hg:gd ops L g=some true) (hy:ev L y=some v) [k:KRp Φ v l]
  (h:G x Φ ((d,.string (ba l))::L) M K):OpK x ops Q ⟨some d,.convert s t y,ty,pos,af,g⟩ Φ L M K:=o_toT hdN hg hy h
end
end Go.Rail
set_option linter.unusedVariables false
namespace Go.Rail
open Go
section
variable {x:Cx} {Q:Exit→Act→World→Prop} {Φ:List Fa} {L:Env} {M:Own} {ops:Array Oper} {K:Act→World→Prop}
variable {d:Option Nat} {ty t t':TypeId} {pos:String} {af:Array Edge} {g:Option (Nat × Bool)} {y z:Operand}
theorem kf_index {pp:Prop} (h:pp→OpK x ops Q ⟨d,.index t y z,ty,pos,af,g⟩ Φ L M K):pp→OpK x ops Q ⟨d,.index t y z,ty,pos,af,g⟩ Φ L M K:=h
theorem kf_slice {lo hi mx:Option Operand} {pp:Prop} (h:pp→OpK x ops Q ⟨d,.slice t y lo hi mx,ty,pos,af,g⟩ Φ L M K):pp→OpK x ops Q ⟨d,.slice t y lo hi mx,ty,pos,af,g⟩ Φ L M K:=h
theorem kf_bslice {n:Nat} {parts:Array (Nat × Operand)} {pp:Prop} (h:pp→OpK x ops Q ⟨d,.buildSlice t n parts,ty,pos,af,g⟩ Φ L M K):pp→OpK x ops Q ⟨d,.buildSlice t n parts,ty,pos,af,g⟩ Φ L M K:=h
theorem bd0 {dflt:Nat}:Bd L none dflt dflt:=rfl
theorem bdS {o:Operand} {dflt n:Nat} {k:IntKind} {q:Int} [hq:NL q n] (h:ev L o=some (.int k q)):Bd L (some o) dflt n:=⟨k,q,h,hq.h⟩
end
section
variable {x:Cx} {Q:Exit→Act→World→Prop} {Φ:List Fa} {L:Env} {M:Own}
theorem G.ag {S:Type} {f:S→List Fa × Env × Own} {pre lt:S→Prop} (s':S) (hμ:lt s':=by first|omega|(dsimp only;omega)) (hpre:pre s':=by first|omega|(dsimp only;omega)) (hΦ:Ents Φ (f s').1:=by first|infer_instance|(dsimp only;infer_instance))
  (hL : ∀ t v,look (f s').2.1 t=some v→look L t=some v:=by (repeat (first|exact lN|refine lC rfl ?_))) (hM:(f s').2.2.Sublist M:=by first|exact List.Sublist.refl _|(simp;done)) :
  G x Φ L M (fun a w => ∃ s',lt s'∧Inv x f pre s' a w):=G.again s' hμ hpre hΦ hL hM
theorem W.lp {c:Code} {S:Type} (f:S→List Fa × Env × Own) (pre:S→Prop) (μ:S→Nat) (s0:S)
  (hround : ∀ s,pre s→W x c (Exit.then (fun a w => ∃ s',μ s'<μ s∧Inv x f pre s' a w) Q) (f s).1 (f s).2.1 (f s).2.2)
  (h0:pre s0:=by first|omega|(dsimp only;omega)) (hΦ:Ents Φ (f s0).1:=by first|infer_instance|(dsimp only;infer_instance)) (hL : ∀ t v,look (f s0).2.1 t=some v→look L t=some v:=by (repeat (first|exact lN|refine lC rfl ?_))) (hM:(f s0).2.2.Sublist M:=by first|exact List.Sublist.refl _|(simp;done)) :
  W x (.loop c) Q Φ L M:=W.loopI f pre μ s0 h0 hΦ hL hM hround
end
class FV (v:Value) (α:outParam Type) [i:outParam (GoTy α)] [j:outParam (GoFlat α)] (x:outParam α):Prop where h:v=GoFlat.val x
instance (w:Word):FV w.v Word w:=⟨rfl⟩
instance (w:Addr20):FV w.v Addr20 w:=⟨rfl⟩
instance (w:Key):FV w.v Key w:=⟨rfl⟩
instance (n:Int):FV (.int .i64 n) Int n:=⟨rfl⟩
instance (b:Bool):FV (.bool b) Bool b:=⟨rfl⟩
instance (s:ByteArray):FV (.string s) ByteArray s:=⟨rfl⟩
instance (b:UInt8):FV (.int .u8 ((b.toNat:Nat):Int)) UInt8 b:=⟨rfl⟩
inductive FVs {α:Type} (i:GoTy α) (j:GoFlat α):List Value→List α→Prop
 | nil:FVs i j [] []
 | cons {v:Value} {vs:List Value} {x:α} {xs:List α} (h:v=GoFlat.val x) (t:FVs i j vs xs):FVs i j (v::vs) (x::xs)
theorem FVs.rp {α:Type} {i:GoTy α} {j:GoFlat α} {Φ:List Fa} : ∀ {vs:List Value} {xs:List α},FVs i j vs xs→RpL Φ vs xs
 | _,_,.nil=>trivial
 | _,_,.cons h t=>⟨fun _ _=>Rp.flat.2 h,t.rp⟩
theorem o_litV {x:Cx} {Q:Exit→Act→World→Prop} {Φ:List Fa} {L:Env} {M:Own} {ops:Array Oper} {K:Act→World→Prop} {d:Nat} {ty:TypeId} {pos:String} {af:Array Edge} {g:Option (Nat × Bool)}
  {α:Type} {i:GoTy α} {j:GoFlat α} {t e n:Nat} {parts:List (Nat × Operand)} {vs:List Value} {xs:List α} {zs:List Value} [ht:SlTy x.P t e] (hdN:Nat.blt d x.N=true) (hg:gd ops L g=some true)
  (hv:evSeq L 0 parts=some vs) (hx:FVs i j vs xs) (hs:Siz x.P e (GoTy.sz α)) (hz:Zer x.P e zs) (hsz:(Nat.ble (n*GoTy.sz α) 16777216&&Nat.beq zs.length (GoTy.sz α)&&Nat.blt 0 (GoTy.sz α))=true) (hn:xs.length=n) (h : ∀ v,G x (fRp v xs::Φ) ((d,v)::L) M K):OpK x ops Q ⟨some d,.buildSlice t n parts.toArray,ty,pos,af,g⟩ Φ L M K:=by
 simp only [Bool.and_eq_true] at hsz
 exact o_lit (zs:=zs) ⟨Nat.le_of_ble_eq_true hsz.1.1,Nat.eq_of_beq_eq_true hsz.1.2,by simpa using hsz.2⟩ hdN hg hv hx.rp hn h
theorem st {p q:Prop} (hp:p) (s:p→q:=by
 first
  | (apply kf_op;apply kf_binOp;first
   | (apply kb_lss;first|exact o_int rfl rfl rfl rfl (by first|exact i_lss_t oF|exact i_lss_f oF|exact i_lss_d))
   | (apply kb_leq;first|exact o_int rfl rfl rfl rfl (by first|exact i_leq_t oF|exact i_leq_f oF|exact i_leq_d))
   | (apply kb_gtr;first|exact o_int rfl rfl rfl rfl (by first|exact i_gtr_t oF|exact i_gtr_f oF|exact i_gtr_d))
   | (apply kb_geq;first|exact o_int rfl rfl rfl rfl (by first|exact i_geq_t oF|exact i_geq_f oF|exact i_geq_d))
   | (apply kb_eql;first|exact o_int rfl rfl rfl rfl (by first|exact i_eql_t oF|exact i_eql_f oF|exact i_eql_d)|exact o_eql rfl rfl rfl rfl (decide_eq_true (by first|rfl|assumption))|exact o_eql rfl rfl rfl rfl (decide_eq_false (by assumption))|exact o_eql rfl rfl rfl rfl rfl|exact o_eqT rfl rfl rfl rfl (by first|exact decide_eq_true (by assumption)|exact decide_eq_false (by assumption)|rfl))
   | (apply kb_neq;first|exact o_int rfl rfl rfl rfl (by first|exact i_neq_t oF|exact i_neq_f oF|exact i_neq_d)|exact o_neq rfl rfl rfl rfl (congrArg not (decide_eq_true (by first|rfl|assumption)))|exact o_neq rfl rfl rfl rfl (congrArg not (decide_eq_false (by assumption)))|exact o_neq rfl rfl rfl rfl rfl|exact o_neT rfl rfl rfl rfl (by first|exact decide_eq_true (by assumption)|exact decide_eq_false (by assumption)|rfl))
   | (apply kb_add;first|exact o_int rfl rfl rfl rfl (by first|exact n_addi oM|exact i_add oM oM|exact w_add' oM|exact w_add)|exact o_catT rfl rfl rfl rfl (by first|omega|(simp;omega)))
   | (apply kb_sub;exact o_int rfl rfl rfl rfl (by first|exact n_subi oM oM|exact i_sub oM oM|exact w_sub' oM oM))
   | (apply kb_mul;exact o_int rfl rfl rfl rfl (by first|exact n_muli oM|exact i_mul oM oM|exact w_mul' oM|exact w_mul))
   | (apply kb_quo;exact o_int rfl rfl rfl rfl (by first|exact n_quo oF (by first|decide|(simp [IntKind.max,IntKind.signed,IntKind.bits];omega))))
   | (apply kb_rem;exact o_int rfl rfl rfl rfl (by first|exact n_rem oF|exact i_rem oM))
   | (apply kb_and;exact o_int rfl rfl rfl rfl (w_and (by first|exact Lt64.h|omega) (by first|exact Lt64.h|omega)))
   | (apply kb_or;exact o_int rfl rfl rfl rfl (w_or (by first|exact Lt64.h|omega) (by first|exact Lt64.h|omega)))
   | (apply kb_xor;exact o_int rfl rfl rfl rfl (w_xor (by first|exact Lt64.h|omega) (by first|exact Lt64.h|omega)))
   | (apply kb_shl;exact o_shlN rfl rfl rfl rfl oM)
   | (apply kb_shr;exact o_shrN rfl rfl rfl rfl oM))
  | (apply kf_op;first
   | (apply kf_load;exact o_loadV rfl rfl rfl)
   | (apply kf_build;exact o_buildW rfl rfl rfl)
   | (apply kf_bslice;exact o_litV rfl rfl rfl (by (apply FVs.cons;exact FV.h);repeat (first|exact FVs.nil|(apply FVs.cons;exact FV.h))) (by infer_instance) (by infer_instance) rfl rfl)
   | (apply kf_store;exact o_storeV rfl rfl rfl rfl oY)
   | (apply kf_convert;first|exact o_toK rfl rfl rfl|exact o_conv rfl rfl rfl (by first|exact w_u64 oM oM|exact w_i64 oM oM|exact w_u8 oM oM|exact w_u8m)))
  | (apply kf_op;apply kf_indexAddr;exact o_indexZ rfl rfl rfl rfl oG)
  | exact stpF
  | exact stiF
  | exact stfF
  | exact stbF
  | (apply kf_w;first|exact W.cond_t rfl (by first|assumption|exact decide_eq_true oM|(simp;omega))|exact W.cond_f rfl (by first|assumption|exact decide_eq_false oM|(simp;omega)))
  | (apply kf_op;first
   | (apply kf_call;first|exact o_cv rfl rfl rfl (by repeat (first|exact EvL.nil|(apply EvL.cons;exact rfl)))|exact o_cd rfl rfl rfl (by repeat (first|exact EvL.nil|(apply EvL.cons;exact rfl)))|exact o_lenT rfl rfl rfl|exact o_min rfl rfl rfl rfl rfl|exact o_max rfl rfl rfl rfl rfl)
   | (apply kf_load;exact o_loadNum rfl rfl rfl rfl oM)
   | (apply kf_index;first|exact o_indexV rfl rfl rfl rfl oG rfl|exact o_ixT _ rfl rfl rfl rfl rfl (by first|omega|(simp;omega))|exact o_ixT _ rfl rfl rfl rfl NL.h (by first|omega|(simp;omega)))
   | (apply kf_slice;exact o_slT _ _ rfl rfl rfl (by first|exact bd0|exact bdS rfl) (by first|exact bd0|exact bdS rfl) (by first|omega|(simp;omega)) (by first|omega|(simp;omega))))):q:=s hp
end Go.Rail
set_option linter.unusedSimpArgs false
set_option linter.unusedVariables false
namespace Go.Rail
open Go
abbrev dq (v:(Nat→Value)→Value→Value):DOp:=⟨v,fun _ _=>[]⟩
abbrev dk (f:(Nat→Value)→Value→Fa):DOp:=⟨fun _ z=>z,fun c z=>[f c z]⟩
abbrev dm (m:(Nat→Value)→Value→Value) (f:(Nat→Value)→Value→Fa):DOp:=⟨m,fun c z=>[f c z]⟩
theorem nrm {p q:Prop} (hp:p) (s:q=p:=by
 (conv=>lhs;dsimp only [dq,dk,dm,dstOf,kval,kfac,ancE,ancF,getD_z,getD_s,List.getElem?_cons_zero,List.getElem?_cons_succ,List.getElem?_nil,Option.getD_some,Option.getD_none,List.nil_append,List.cons_append,Option.getD,List.drop_succ_cons,List.drop_zero])
 all_goals exact rfl):q:=s▸hp
section
variable {x:Cx} {Q:Exit→Act→World→Prop} {Φ:List Fa} {L:Env} {M:Own}
variable {l:List Oper} {ks:List DOp} {as:List (List Nat)} {i n:Nat}
theorem AllQ.au (t:AllQ x Q l ks as Φ L M (i+1) n) (h:Quiet x Q l ks as Φ L M i:=by
 (intro c z0 Φr Lr K;refine nrm ?_;intro hK;refine st ?_;first|exact hK z0|exact hK)):AllQ x Q l ks as Φ L M i (n+1):=⟨h,t⟩
theorem AllL.au (t:AllL l ks (i+1) n) (h:Local l ks i:=by
 (intro c c' z h;first|exact ⟨rfl,rfl⟩|(refine nrm ?_;constructor<;>(simp (disch:=kernel_rfl) only [h])))):AllL l ks i (n+1):=⟨h,t⟩
def memD (l:List Oper) (k:Nat):Bool:=l.any fun o=>match o.dst with
 | some d=>Nat.beq d k
 | none=>false
inductive DropR (l:List Oper):Env→Env→Prop
 | nil:DropR l [] []
 | keep {k:Nat} {v:Value} {L L':Env} (h:memD l k=false) (t:DropR l L L'):DropR l ((k,v)::L) ((k,v)::L')
 | drop {k:Nat} {v:Value} {L L':Env} (h:memD l k=true) (t:DropR l L L'):DropR l ((k,v)::L) L'
theorem DropR.not {L L':Env} {t:Nat} {v:Value} (h:DropR l L L'):look L' t=some v→memD l t=false:=by
 induction h with
 | nil=>intro h;cases h
 | @keep k u L L' hk _ ih =>
  intro hu
  by_cases e:k=t
  ·subst e;exact hk
  ·rw [look_cons_ne e] at hu;exact ih hu
 | @drop k u L L' hk _ ih=>exact ih
theorem DropR.sub {L L':Env} (h:DropR l L L') (t:Nat) (v:Value):look L' t=some v→look L t=some v:=by
 induction h with
 | nil=>exact id
 | @keep k u L L' hk _ ih =>
  intro hu
  by_cases e:k=t
  ·subst e;rw [look_cons_eq] at hu ⊢;exact hu
  ·rw [look_cons_ne e] at hu ⊢;exact ih hu
 | @drop k u L L' hk t' ih =>
  intro hu
  by_cases e:k=t
  ·subst e;have:=t'.not hu;rw [hk] at this;cases this
  ·rw [look_cons_ne e];exact ih hu
theorem W.drawA {id:Nat} {L':Env} (s:Nat) (ks:List DOp) (as:List (List Nat)) (live:List Nat)
  (hd:DropR (l.take s) L L':=by (repeat (first|exact DropR.nil|(apply DropR.keep;exact rfl)|(apply DropR.drop;exact rfl))))
  (hops:AllQ x Q l ks as Φ L' M 0 s:=by (repeat (first|exact AllQ.nil|refine AllQ.au ?_)))
  (hrest : ∀ c,LW x l.toArray Q (l.drop s) (ancF ks c live Φ) (ancE l ks c live L') M)
  (hloc:AllL l ks 0 s:=by (repeat (first|exact AllL.nil|refine AllL.au ?_)))
  (hm:x.P.follows .mixedOrders=true:=by kernel_rfl) (hchk:chkDraw l s as (L'.map Prod.fst)=true:=by kernel_rfl)
  (hdN:(List.range s).all (fun i=>Nat.blt (dstOf l i) x.N)=true:=by kernel_rfl) (hlive:live.all (fun j=>Nat.blt j s)=true:=by kernel_rfl) :
  W x (.region id l.toArray true) Q Φ L M:=W.keep hd.sub (W.draw s ks as live hm hchk hdN hlive hloc hops hrest)
end
end Go.Rail
set_option linter.unusedSimpArgs false
set_option linter.unusedVariables false
namespace Go.Rail
open Go
section
variable {x:Cx} {Q:Exit→Act→World→Prop} {Φ:List Fa} {L:Env} {M:Own} {ops:Array Oper} {K:Act→World→Prop}
variable {d:Nat} {ty:TypeId} {pos:String} {af:Array Edge} {g:Option (Nat × Bool)}
theorem o_litN {t e n sz:Nat} {parts:List (Nat × Operand)} {vs cs:List Value} {zs:List Value} [ht:SlTy x.P t e] [hs:Siz x.P e (sz)] [hz:Zer x.P e zs] (hdN:Nat.blt d x.N=true) (hg:gd ops L g=some true)
  (hv:evSeq L 0 parts=some vs) (hsz:Nat.ble (n*sz) 16777216&&Nat.beq zs.length sz&&Nat.blt 0 sz=true) (e1:vs.length=n) (e2:(vs.all fun v=>Nat.beq (cellsL v).length sz)=true) (hc:(vs.map cellsL).flatten=cs) (h : ∀ b,G x (fBlk b cs e::Φ) ((d,.slice (some ⟨b,0,none⟩) n n)::L) M K):OpK x ops Q ⟨some d,.buildSlice t n parts.toArray,ty,pos,af,g⟩ Φ L M K:=by
 subst hc
 simp only [Bool.and_eq_true] at hsz
 exact o_litC (zs:=zs) ⟨Nat.le_of_ble_eq_true hsz.1.1,Nat.eq_of_beq_eq_true hsz.1.2,by simpa using hsz.2⟩ hdN hg hv e1 (fun v hv=>Nat.eq_of_beq_eq_true (List.all_eq_true.1 e2 v hv)) h
theorem W.cutB {c:Code} {id:Nat} {K:Act→World→Prop} (Φ0:List Fa) (L0:Env) (M0:Own) (h1:W x c (Exit.inBlock id (Exit.then (Kp x Φ0 L0 M0) Q)) Φ L M) (h2:G x Φ0 L0 M0 K):W x c (Exit.inBlock id (Exit.then K Q)) Φ L M:=by
 refine W.mono h1 ?_
 have key : ∀ a w,Exit.then (Kp x Φ0 L0 M0) Q .normal a w→Exit.then K Q .normal a w:=by
  rintro a w ⟨I,hf,hk,hw⟩
  exact h2 I a w hf hk hw
 intro e a w hq
 cases e with
 | normal=>exact key a w hq
 | exit i =>
  simp only [Exit.inBlock] at hq ⊢
  split
  ·rename_i h;rw [if_pos h] at hq;exact key a w hq
  ·rename_i h;rw [if_neg h] at hq;exact hq
 | goto l=>exact hq
 | ret=>exact hq
 | panic ch=>exact hq
 | outgrown=>exact hq
theorem G.kpA {Φ0:List Fa} {L0:Env} {M0:Own} (hΦ:Ents Φ Φ0:=by infer_instance) (hL : ∀ t v,look L0 t=some v→look L t=some v:=by (repeat (first|exact lN|refine lC rfl ?_))) (hM:M0.Sublist M:=by (repeat (first|exact List.Sublist.refl _|apply List.Sublist.cons₂|apply List.Sublist.cons))):G x Φ L M (Kp x Φ0 L0 M0):=G.kp hΦ hL hM
end
end Go.Rail
set_option linter.unusedSimpArgs false
set_option linter.unusedVariables false
namespace Go.Rail
open Go
structure Row where
 name:List UInt8
 pops:Nat
 pushes:Nat
 gas:Nat
instance:DecidableEq Row:=fun x y=>decidable_of_iff (x.name=y.name∧x.pops=y.pops∧x.pushes=y.pushes∧x.gas=y.gas) ⟨fun h=>by cases x;cases y;simp_all,fun h=>by simp [h]⟩
abbrev rowV (r:Row):Value := .agg [.string (ba r.name),.int .i64 (r.pops:Int),.int .i64 (r.pushes:Int),.int .i64 (r.gas:Int)].toArray
def rowsLow:List (Nat × Row) :=
  [(0,⟨[83,84,79,80],0,0,0⟩),
   (1,⟨[65,68,68],2,1,3⟩),
   (2,⟨[77,85,76],2,1,5⟩),
   (3,⟨[83,85,66],2,1,3⟩),
   (4,⟨[68,73,86],2,1,5⟩),
   (5,⟨[83,68,73,86],2,1,5⟩),
   (6,⟨[77,79,68],2,1,5⟩),
   (7,⟨[83,77,79,68],2,1,5⟩),
   (8,⟨[65,68,68,77,79,68],3,1,8⟩),
   (9,⟨[77,85,76,77,79,68],3,1,8⟩),
   (10,⟨[69,88,80],2,1,10⟩),
   (11,⟨[83,73,71,78,69,88,84,69,78,68],2,1,5⟩),
   (16,⟨[76,84],2,1,3⟩),
   (17,⟨[71,84],2,1,3⟩),
   (18,⟨[83,76,84],2,1,3⟩),
   (19,⟨[83,71,84],2,1,3⟩),
   (20,⟨[69,81],2,1,3⟩),
   (21,⟨[73,83,90,69,82,79],1,1,3⟩),
   (22,⟨[65,78,68],2,1,3⟩),
   (23,⟨[79,82],2,1,3⟩),
   (24,⟨[88,79,82],2,1,3⟩),
   (25,⟨[78,79,84],1,1,3⟩),
   (26,⟨[66,89,84,69],2,1,3⟩),
   (27,⟨[83,72,76],2,1,3⟩),
   (28,⟨[83,72,82],2,1,3⟩),
   (29,⟨[83,65,82],2,1,3⟩),
   (32,⟨[75,69,67,67,65,75,50,53,54],2,1,30⟩),
   (48,⟨[65,68,68,82,69,83,83],0,1,2⟩),
   (49,⟨[66,65,76,65,78,67,69],1,1,0⟩),
   (50,⟨[79,82,73,71,73,78],0,1,2⟩),
   (51,⟨[67,65,76,76,69,82],0,1,2⟩),
   (52,⟨[67,65,76,76,86,65,76,85,69],0,1,2⟩),
   (53,⟨[67,65,76,76,68,65,84,65,76,79,65,68],1,1,3⟩),
   (54,⟨[67,65,76,76,68,65,84,65,83,73,90,69],0,1,2⟩),
   (55,⟨[67,65,76,76,68,65,84,65,67,79,80,89],3,0,3⟩),
   (56,⟨[67,79,68,69,83,73,90,69],0,1,2⟩),
   (57,⟨[67,79,68,69,67,79,80,89],3,0,3⟩),
   (58,⟨[71,65,83,80,82,73,67,69],0,1,2⟩)]
def rowsHigh:List (Nat × Row) :=
  [(59,⟨[69,88,84,67,79,68,69,83,73,90,69],1,1,0⟩),
   (60,⟨[69,88,84,67,79,68,69,67,79,80,89],4,0,0⟩),
   (61,⟨[82,69,84,85,82,78,68,65,84,65,83,73,90,69],0,1,2⟩),
   (62,⟨[82,69,84,85,82,78,68,65,84,65,67,79,80,89],3,0,3⟩),
   (63,⟨[69,88,84,67,79,68,69,72,65,83,72],1,1,0⟩),
   (64,⟨[66,76,79,67,75,72,65,83,72],1,1,20⟩),
   (65,⟨[67,79,73,78,66,65,83,69],0,1,2⟩),
   (66,⟨[84,73,77,69,83,84,65,77,80],0,1,2⟩),
   (67,⟨[78,85,77,66,69,82],0,1,2⟩),
   (68,⟨[80,82,69,86,82,65,78,68,65,79],0,1,2⟩),
   (69,⟨[71,65,83,76,73,77,73,84],0,1,2⟩),
   (70,⟨[67,72,65,73,78,73,68],0,1,2⟩),
   (71,⟨[83,69,76,70,66,65,76,65,78,67,69],0,1,5⟩),
   (72,⟨[66,65,83,69,70,69,69],0,1,2⟩),
   (80,⟨[80,79,80],1,0,2⟩),
   (81,⟨[77,76,79,65,68],1,1,3⟩),
   (82,⟨[77,83,84,79,82,69],2,0,3⟩),
   (83,⟨[77,83,84,79,82,69,56],2,0,3⟩),
   (84,⟨[83,76,79,65,68],1,1,0⟩),
   (85,⟨[83,83,84,79,82,69],2,0,0⟩),
   (86,⟨[74,85,77,80],1,0,8⟩),
   (87,⟨[74,85,77,80,73],2,0,10⟩),
   (88,⟨[80,67],0,1,2⟩),
   (89,⟨[77,83,73,90,69],0,1,2⟩),
   (90,⟨[71,65,83],0,1,2⟩),
   (91,⟨[74,85,77,80,68,69,83,84],0,0,1⟩),
   (95,⟨[80,85,83,72,48],0,1,2⟩),
   (240,⟨[67,82,69,65,84,69],3,1,32000⟩),
   (241,⟨[67,65,76,76],7,1,0⟩),
   (242,⟨[67,65,76,76,67,79,68,69],7,1,0⟩),
   (243,⟨[82,69,84,85,82,78],2,0,0⟩),
   (244,⟨[68,69,76,69,71,65,84,69,67,65,76,76],6,1,0⟩),
   (245,⟨[67,82,69,65,84,69,50],4,1,32000⟩),
   (250,⟨[83,84,65,84,73,67,67,65,76,76],6,1,0⟩),
   (253,⟨[82,69,86,69,82,84],2,0,0⟩),
   (254,⟨[73,78,86,65,76,73,68],0,0,0⟩),
   (255,⟨[83,69,76,70,68,69,83,84,82,85,67,84],1,0,5000⟩)]
def findR:List (Nat × Row)→Nat→Option Row
 | [],_=>none
 | (k,r)::l,n=>if n=k then some r else findR l n
def rowsV (l:List (Nat × Row)):List (Int × Value):=l.map fun e=>((e.1:Int),rowV e.2)
theorem getV_rows (l:List (Nat × Row)) (n:Nat):getV (rowsV l) (n:Int)=(findR l n).map rowV:=by
 induction l with
 | nil=>rfl
 | cons e l ih =>
  obtain ⟨k,r⟩:=e
  simp only [rowsV,List.map_cons,getV,findR] at ih ⊢
  by_cases h:n=k
  ·subst h;simp
  ·rw [if_neg h,← ih]
   rw [if_neg oM]
def noRow:Row:=⟨[],0,0,0⟩
def tabN (n:Nat):Option Row:=(findR rowsLow n).or (findR rowsHigh n)
def decN (n:Nat):List UInt8:=if n<10 then [UInt8.ofNat (48+n)] else [UInt8.ofNat (48+n/10),UInt8.ofNat (48+n%10)]
def infoN (n:Nat):Option Row :=
 if 96≤n∧n≤127 then some ⟨[80,85,83,72]++decN (n-95),0,1,3⟩
 else if 128≤n∧n≤143 then some ⟨[68,85,80]++decN (n-127),n-127,n-126,3⟩
 else if 144≤n∧n≤159 then some ⟨[83,87,65,80]++decN (n-143),n-142,n-142,3⟩
 else if 160≤n∧n≤164 then some ⟨[76,79,71]++decN (n-160),n-158,0,375*(n-159)⟩
 else tabN n
def infoV (n:Nat):Value := .tuple #[rowV ((infoN n).getD noRow),.bool (infoN n).isSome]
end Go.Rail
