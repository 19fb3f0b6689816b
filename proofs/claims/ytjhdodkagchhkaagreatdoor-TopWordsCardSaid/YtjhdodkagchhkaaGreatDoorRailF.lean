/- Words of 64 bits; maps by a byte. -/
import Derived.Test.YtjhdodkagchhkaaGreatDoorRailA
import Derived.Test.YtjhdodkagchhkaaGreatDoorRailD
import Derived.Test.YtjhdodkagchhkaaGreatDoorRailC
import Derived.Test.YtjhdodkagchhkaaGreatDoorRailB
import Derived.Laws.Externs
import Derived.Laws.BitsAllLaws
set_option linter.unusedSimpArgs false
set_option linter.unusedVariables false
namespace Go.Rail
open Go
def mapV (l:List (Int × Value)) (j:Nat):List MapEntry:=(l.zipIdx j).map fun e=>⟨.int .u8 e.1.1,e.1.2,e.2⟩
def MapV (l:List (Int × Value)):Obj := .map (mapV l 0).toArray l.length
def getV:List (Int × Value)→Int→Option Value
 | [],_=>none
 | e::r,k=>if k=e.1 then some e.2 else getV r k
theorem mapV_cons (e:Int × Value) (r:List (Int × Value)) (j:Nat):mapV (e::r) j=⟨.int .u8 e.1,e.2,j⟩::mapV r (j+1):=by
 simp [mapV,List.zipIdx_cons]
theorem findNow_mapV (kd:IntKind) (k:Int) (l:List (Int × Value)) (j i:Nat) : ∃ f:Option (Nat × Value),Instr.findNow (.int kd) (.int .u8 k) (mapV l j) i=some f∧f.map Prod.snd=getV l k:=by
 induction l generalizing i j with
 | nil=>exact ⟨none,rfl,rfl⟩
 | cons e r ih =>
  rw [mapV_cons,Instr.findNow,getV]
  by_cases h:k=e.1
  ·exact ⟨some (i,e.2),by simp [Instr.sameNow,h],by simp [h]⟩
  ·have hb:(k==e.1)=false:=by simpa using h
   obtain ⟨f,h1,h2⟩:=ih (j+1) (i+1)
   exact ⟨f,by simp [Instr.sameNow,h,hb,h1],by simp [h,h2]⟩
theorem findKey_v {P:Program} {t:TypeId} {kd:IntKind} {k:Int} {l:List (Int × Value)} {w:World} (ht:P.underlying t=some (.int kd)) : ∃ f:Option (Nat × Value),(Instr.findKey t (.int .u8 k) (mapV l 0)).run P w = .ok f w∧f.map Prod.snd=getV l k:=by
 obtain ⟨f,h1,h2⟩:=findNow_mapV kd k l 0 0
 exact ⟨f,by simp [Instr.findKey,run_underlying ht,Sem.run_bind,Result.andThen,Sem.run_pure,h1],h2⟩
theorem insV_run {P:Program} {t kt et:TypeId} {kd:IntKind} {b:Nat} {l:List (Int × Value)} {k:Int} {v:Value} {w:World} (ht:P.underlying t=some (.map kt et)) (hkt:P.underlying kt=some (.int kd)) (hn:getV l k=none) (hb:w.heap[b]? = some (MapV l)) :
  (Instr.mapUpdate t (.map (some b)) (.int .u8 k) v).run P w = .ok () {w with heap:=w.heap.setIfInBounds b (MapV (l++[(k,v)]))}:=by
 have hc : ∀ w,(Instr.checkKey false 10000 kt (.int .u8 k)).run P w = .ok () w:=fun w=>checkKey_int (n:=9999) hkt
 obtain ⟨f,hf,h2⟩:=findKey_v (P:=P) (k:=k) (l:=l) (w:=w) hkt
 rw [hn] at h2
 have hf0:f=none:=by cases f<;>simp_all
 subst hf0
 have e2:MapV (l++[(k,v)]) = .map ((mapV l 0).toArray.push ⟨.int .u8 k,v,l.length⟩) (l.length+1):=by
  rw [MapV,mapV,mapV]
  simp [List.zipIdx_append]
 rw [e2]
 simp [Instr.mapUpdate,run_underlying ht,Sem.run_bind,Result.andThen,Sem.run_pure,run_getMap hb,hc,hf,run_setMap _ hb]
theorem lookV_run {P:Program} {t kt et:TypeId} {kd:IntKind} {b:Nat} {l:List (Int × Value)} {k:Int} {z:Value} {w:World} (ht:P.underlying t=some (.map kt et)) (hkt:P.underlying kt=some (.int kd)) (hz : ∀ w,(zeroValue et).run P w = .ok z w) (hb:w.heap[b]? = some (MapV l)) :
  (Instr.lookup t (.map (some b)) (.int .u8 k) true).run P w = .ok (.tuple #[(getV l k).getD z,.bool (getV l k).isSome]) w:=by
 have hc : ∀ bb w,(Instr.checkKey bb 10000 kt (.int .u8 k)).run P w = .ok () w:=fun bb w=>checkKey_int (n:=9999) hkt
 obtain ⟨f,hf,h2⟩:=findKey_v (P:=P) (k:=k) (l:=l) (w:=w) hkt
 rw [← h2]
 cases f with
 | none=>simp [Instr.lookup,run_underlying ht,Sem.run_bind,Result.andThen,Sem.run_pure,run_getMap hb,hc,hf,hz]
 | some p=>simp [Instr.lookup,run_underlying ht,Sem.run_bind,Result.andThen,Sem.run_pure,run_getMap hb,hc,hf]
def RMapV (l:List (Int × Value)):Value→List Fa→Own→Prop:=fun u Φ' M' => ∃ b,u = .map (some b)∧Φ'=[]∧M'=[(b,MapV l)]
section
variable {x:Cx} {Q:Exit→Act→World→Prop} {Φ:List Fa} {L:Env} {M:Own} {ops:Array Oper} {K:Act→World→Prop}
variable {d:Nat} {ty:TypeId} {pos:String} {af:Array Edge} {g:Option (Nat × Bool)}
theorem o_makeMapV {t:TypeId} (hdN:Nat.blt d x.N=true) (hg:gd ops L g=some true)
  (h : ∀ b,G x Φ ((d,.map (some b))::L) ((b,MapV [])::M) K):OpK x ops Q ⟨some d,.makeMap t none,ty,pos,af,g⟩ Φ L M K :=
 OpK.mem rfl hdN hg oI (fun I a w hp hk hw =>
  ⟨.map (some w.heap.size),w.alloc (MapV []),Φ,_,I,by simp [execOp,Instr.makeMap,run_newMap,Sem.run_bind,Result.andThen,Sem.run_pure,MapV,mapV],hp,hw.alloc _,h w.heap.size⟩)
theorem o_insV {t kt et:TypeId} {kd:IntKind} {y z u:Operand} {b:Nat} {l:List (Int × Value)} {k:Int} {v:Value} {M:Own} [ht:MpTy x.P t kt et] [hkt:IntTy x.P kt kd] (hg:gd ops L g=some true) (hy:ev L y=some (.map (some b))) (hz:ev L z=some (.int .u8 k)) (hu:ev L u=some v) (hn:getV l k=none)
  (h:G x Φ L ((b,MapV (l++[(k,v)]))::M) K):OpK x ops Q ⟨none,.insert t y z u,ty,pos,af,g⟩ Φ L ((b,MapV l)::M) K :=
 OpK.mem0 rfl hg oI (fun I a w hp hk hw=>by
  have hb:=hw.own (b,MapV l) List.mem_cons_self
  refine ⟨{w with heap:=w.heap.setIfInBounds b (MapV (l++[(k,v)]))},Φ,_,I,?_,hp,Wd.setMap (o:=MapV l) hw,h⟩
  simp [execOp,hk.eval hy,hk.eval hz,hk.eval hu,Sem.run_bind,Result.andThen,Sem.run_pure,insV_run ht.h hkt.h hn hb])
theorem o_lookV {t kt et:TypeId} {kd:IntKind} {y z:Operand} {b:Nat} {l:List (Int × Value)} {k:Int} {v:Value} {is:Bool} {z0:Value} [ht:MpTy x.P t kt et] [hkt:IntTy x.P kt kd] [hz0:ZerV x.P et z0] (hdN:Nat.blt d x.N=true) (hg:gd ops L g=some true) (hy:ev L y=some (.map (some b))) (hz:ev L z=some (.int .u8 k))
  (hm:(b,MapV l)∈M) (hv:(getV l k).getD z0=v) (hi:(getV l k).isSome=is)
  (h:G x Φ ((d,.tuple #[v,.bool is])::L) M K):OpK x ops Q ⟨some d,.lookup t y z true,ty,pos,af,g⟩ Φ L M K :=
 OpK.val rfl hdN hg oI (fun I a w hp hk hw=>by
  have hb:=hw.own _ hm
  subst hv;subst hi
  simp [execOp,hk.eval hy,hk.eval hz,Sem.run_bind,Result.andThen,Sem.run_pure,lookV_run ht.h hkt.h hz0.h hb]) h
theorem o_callM {y:Operand} {args:List Operand} {vs cap:List Value} {ts:Array TypeId} {f:FuncId} {Φc:List Fa} {l:List (Int × Value)}
  (hdN:Nat.blt d x.N=true) (hg:gd ops L g=some true) (hy:ev L y=some (.func (.func f) #[] cap.toArray)) [hf:HasFn x.P f] (hargs:args.mapM (ev L)=some vs) (c:Fn x.P f (vs++cap) Φc [] (RMapV l)) [hΦ:Ents Φ Φc]
  (h : ∀ b,G x Φ ((d,.map (some b))::L) ((b,MapV l)::M) K):OpK x ops Q ⟨some d,.call ⟨.value y,args.toArray,ts⟩,ty,pos,af,g⟩ Φ L M K :=
 OpK.call hdN hg hy hargs c hΦ (Mr:=M) oI (by
  rintro u Φ' Mc' ⟨b,rfl,rfl,rfl⟩
  exact h b)
end
end Go.Rail
set_option linter.unusedSimpArgs false
set_option linter.unusedVariables false
namespace Go.Rail
open Go
def Word.num (w:Word):Nat:=w.a.toNat+18446744073709551616*w.b.toNat+340282366920938463463374607431768211456*w.c.toNat+6277101735386680763835789423207666416102355444464034512896*w.d.toNat
def Word.nat (n:Nat):Word:=⟨UInt64.ofNat n,UInt64.ofNat (n/18446744073709551616),UInt64.ofNat (n/340282366920938463463374607431768211456),UInt64.ofNat (n/6277101735386680763835789423207666416102355444464034512896)⟩
abbrev top256:Nat:=115792089237316195423570985008687907853269984665640564039457584007913129639936
theorem Word.num_lt (w:Word):w.num<top256:=by
 have:=w.a.toNat_lt;have:=w.b.toNat_lt;have:=w.c.toNat_lt;have:=w.d.toNat_lt
 simp only [Word.num,top256];omega
theorem Word.nat_num (w:Word):Word.nat w.num=w:=by
 have:=w.a.toNat_lt;have:=w.b.toNat_lt;have:=w.c.toNat_lt;have:=w.d.toNat_lt
 obtain ⟨a,b,c,d⟩:=w
 simp only [Word.nat,Word.num,Word.mk.injEq]
 simp only at *
 refine ⟨?_,?_,?_,?_⟩<;>(apply UInt64.toNat_inj.1;simp only [UInt64.toNat_ofNat'];omega)
theorem Word.num_nat (n:Nat):(Word.nat n).num=n%top256:=by
 simp only [Word.nat,Word.num,UInt64.toNat_ofNat',top256]
 omega
theorem Word.num_inj {x y:Word}:x.num=y.num↔x=y :=
 ⟨fun h=>by rw [← Word.nat_num x,h,Word.nat_num],fun h=>by rw [h]⟩
theorem Word.nat_mod (n:Nat):Word.nat (n%top256)=Word.nat n:=Word.num_inj.1 (by simp only [Word.num_nat,top256];omega)
theorem Word.nat_eq {m n:Nat} (h:m%top256=n%top256):Word.nat m=Word.nat n:=by rw [← Word.nat_mod,h,Word.nat_mod]
theorem Word.nat_cells {n p q r s:Nat} (hp:p<18446744073709551616) (hq:q<18446744073709551616) (hr:r<18446744073709551616) (hs:s<18446744073709551616)
  (h:p+18446744073709551616*q+340282366920938463463374607431768211456*r+6277101735386680763835789423207666416102355444464034512896*s=n%top256) :
  (Word.nat n).cells=[.int .u64 (p:Int),.int .u64 (q:Int),.int .u64 (r:Int),.int .u64 (s:Int)]:=by
 simp only [top256] at h
 simp only [Word.nat,Word.cells,UInt64.toNat_ofNat']
 have e1:n%2^64=p:=by omega
 have e2:n/18446744073709551616%2^64=q:=by omega
 have e3:n/340282366920938463463374607431768211456%2^64=r:=by omega
 have e4:n/6277101735386680763835789423207666416102355444464034512896%2^64=s:=by omega
 rw [e1,e2,e3,e4]
theorem Word.v_nat {n p q r s:Nat} (h:p+18446744073709551616*q+340282366920938463463374607431768211456*r+6277101735386680763835789423207666416102355444464034512896*s=n%top256) (hp:p<18446744073709551616) (hq:q<18446744073709551616) (hr:r<18446744073709551616) (hs:s<18446744073709551616) :
  Value.agg [.int .u64 (p:Int),.int .u64 (q:Int),.int .u64 (r:Int),.int .u64 (s:Int)].toArray=(Word.nat n).v:=by
 rw [Word.v,Word.nat_cells hp hq hr hs h]
theorem Word.zero_num:Word.zero.num=0:=rfl
theorem cmpW_num (x y:Word):cmpW x y=if x.num<y.num then -1 else if y.num<x.num then 1 else 0:=by
 have:=x.a.toNat_lt;have:=x.b.toNat_lt;have:=x.c.toNat_lt;have:=x.d.toNat_lt
 have:=y.a.toNat_lt;have:=y.b.toNat_lt;have:=y.c.toNat_lt;have:=y.d.toNat_lt
 simp only [cmpW,Word.code,lexN,Word.num]
 repeat' split
 all_goals first|rfl|omega

def Hid (p:Prop):Prop:=p
theorem mac1 (x y w:Nat) (hx:x<18446744073709551616) (hy:y<18446744073709551616) (hw:w<18446744073709551616):x*y/18446744073709551616+(x*y%18446744073709551616+w+0)/18446744073709551616<18446744073709551616:=by
 have h:=Nat.mul_le_mul (Nat.le_sub_one_of_lt hx) (Nat.le_sub_one_of_lt hy)
 generalize x*y=z at *
 omega
theorem mac2 (x y w c:Nat) (hx:x<18446744073709551616) (hy:y<18446744073709551616) (hw:w<18446744073709551616) (hc:c<18446744073709551616):x*y/18446744073709551616+(x*y%18446744073709551616+w+0)/18446744073709551616+((x*y%18446744073709551616+w+0)%18446744073709551616+c+0)/18446744073709551616<18446744073709551616:=by
 have h:=Nat.mul_le_mul (Nat.le_sub_one_of_lt hx) (Nat.le_sub_one_of_lt hy)
 generalize x*y=z at *
 omega
theorem mac3 (x y w c:Nat):((x*y%18446744073709551616+w+0)%18446744073709551616+c+0)%18446744073709551616+18446744073709551616*(x*y/18446744073709551616+(x*y%18446744073709551616+w+0)/18446744073709551616+((x*y%18446744073709551616+w+0)%18446744073709551616+c+0)/18446744073709551616)=x*y+w+c:=by
 generalize x*y=z at *
 omega
theorem mul_parts (a b:Word):a.num*b.num=1*(a.a.toNat*b.a.toNat)+18446744073709551616*(a.a.toNat*b.b.toNat)+340282366920938463463374607431768211456*(a.a.toNat*b.c.toNat)+6277101735386680763835789423207666416102355444464034512896*(a.a.toNat*b.d.toNat)+18446744073709551616*(a.b.toNat*b.a.toNat)+340282366920938463463374607431768211456*(a.b.toNat*b.b.toNat)+6277101735386680763835789423207666416102355444464034512896*(a.b.toNat*b.c.toNat)+115792089237316195423570985008687907853269984665640564039457584007913129639936*(a.b.toNat*b.d.toNat)+340282366920938463463374607431768211456*(a.c.toNat*b.a.toNat)+6277101735386680763835789423207666416102355444464034512896*(a.c.toNat*b.b.toNat)+115792089237316195423570985008687907853269984665640564039457584007913129639936*(a.c.toNat*b.c.toNat)+2135987035920910082395021706169552114602704522356652769947041607822219725780640550022962086936576*(a.c.toNat*b.d.toNat)+6277101735386680763835789423207666416102355444464034512896*(a.d.toNat*b.a.toNat)+115792089237316195423570985008687907853269984665640564039457584007913129639936*(a.d.toNat*b.b.toNat)+2135987035920910082395021706169552114602704522356652769947041607822219725780640550022962086936576*(a.d.toNat*b.c.toNat)+39402006196394479212279040100143613805079739270465446667948293404245721771497210611414266254884915640806627990306816*(a.d.toNat*b.d.toNat):=by
 simp only [Word.num]
 generalize a.a.toNat=a0;generalize a.b.toNat=a1;generalize a.c.toNat=a2;generalize a.d.toNat=a3
 generalize b.a.toNat=b0;generalize b.b.toNat=b1;generalize b.c.toNat=b2;generalize b.d.toNat=b3
 grind
def addW (a b:Word):Word := .nat (a.num+b.num)
def subW (a b:Word):Word := .nat (a.num+(top256-b.num))
def mulW (a b:Word):Word := .nat (a.num*b.num)
def divW (a b:Word):Word := .nat (a.num/b.num)
def modW (a b:Word):Word:=if b = .zero then .zero else .nat (a.num%b.num)
def negW (a:Word):Bool:=decide (9223372036854775808≤a.d.toNat)
def minusW (a:Word):Word:=subW .zero a
def sizeW (a:Word):Word:=if negW a then minusW a else a
def sdivW (a b:Word):Word:=if negW a≠negW b then minusW (divW (sizeW a) (sizeW b)) else divW (sizeW a) (sizeW b)
def smodW (a b:Word):Word:=if negW a then minusW (modW (sizeW a) (sizeW b)) else modW (sizeW a) (sizeW b)
def addmodW (a b n:Word):Word:=if n = .zero then .zero else .nat ((a.num+b.num)%n.num)
def mulmodW (a b n:Word):Word:=if n = .zero then .zero else .nat ((a.num*b.num)%n.num)
def expW (a b:Word):Word := .nat (a.num^b.num)
def flagW (b:Bool):Word:=if b then ⟨1,0,0,0⟩ else .zero
end Go.Rail
set_option linter.unusedSimpArgs false
set_option linter.unusedVariables false
namespace Go.Rail
open Go
def sub64E:Array Value→Sem Value:=fun args=>do
 let (x,y,b) ← Extern.MathBitsCarry.three "Sub64" args
 pure (Extern.MathBitsCarry.pair ((x+Extern.MathBitsCarry.m64-y-b)%Extern.MathBitsCarry.m64) (if x<y+b then 1 else 0))
theorem run_sub64E {P:Program} (x y b:Nat) (hb:b≤1) (w:World) :
  (sub64E #[.int .u64 x,.int .u64 y,.int .u64 b]).run P w = .ok (.tuple #[.int .u64 (((x+18446744073709551616-y-b)%18446744073709551616:Nat):Int),.int .u64 ((if x<y+b then 1 else 0:Nat):Int)]) w:=by
 have:b=0∨b=1:=by omega
 rcases this with rfl|rfl<;>rfl
theorem u_or (a b:Nat) (ha:a<18446744073709551616) (hb:b<18446744073709551616):intOp .or .u64 (a:Int) (b:Int)=some (.int .u64 ((a|||b:Nat):Int)):=by
 have h:=u64_or_nat a b ha hb
 unfold intOp;exact congrArg (fun v=>some (Value.int .u64 v)) h
theorem u_and (a b:Nat) (ha:a<18446744073709551616) (hb:b<18446744073709551616):intOp .and .u64 (a:Int) (b:Int)=some (.int .u64 ((a&&&b:Nat):Int)):=by
 have h:=u64_and_nat a b ha hb
 unfold intOp;exact congrArg (fun v=>some (Value.int .u64 v)) h
theorem u_xor (a b:Nat) (ha:a<18446744073709551616) (hb:b<18446744073709551616):intOp .xor .u64 (a:Int) (b:Int)=some (.int .u64 ((a^^^b:Nat):Int)):=by
 have h:=u64_xor_nat a b ha hb
 unfold intOp;exact congrArg (fun v=>some (Value.int .u64 v)) h
theorem u_mod2 (a:Nat) (ha:a<18446744073709551616):intOp .and .u64 (a:Int) 1=some (.int .u64 ((a%2:Nat):Int)):=by
 have h:=u_and a 1 ha oE
 rw [nat_mask1] at h;exact h
theorem u_shr (a:Nat) (n:Nat) (hn:n<64):Value.int .u64 ((a:Int).fdiv (2^(min (n:Int).toNat IntKind.u64.bits))) = .int .u64 ((a/2^n:Nat):Int):=by
 refine congrArg (Value.int .u64) ?_
 have e:min (n:Int).toNat IntKind.u64.bits=n:=by
  have:IntKind.u64.bits=64:=rfl
  omega
 rw [e,Int.fdiv_eq_ediv_of_nonneg _ (by have:(0:Int)<2^n:=Int.pow_pos oE;omega)]
 simp
theorem u_shl (a:Nat) (n:Nat) (hn:n<64):Value.int .u64 (IntKind.u64.wrap ((a:Int)*2^(min (n:Int).toNat IntKind.u64.bits))) = .int .u64 ((a*2^n%18446744073709551616:Nat):Int):=by
 refine congrArg (Value.int .u64) ?_
 have e:min (n:Int).toNat IntKind.u64.bits=n:=by
  have:IntKind.u64.bits=64:=rfl
  omega
 rw [e,IntKind.wrap_u64]
 simp
theorem or_add (i x y:Nat) (hx:x%2^i=0) (hy:y<2^i):x|||y=x+y:=nat_join i x y hx hy
theorem u_dbl (p b:Nat) (hp:p<18446744073709551616) (hb:b≤1):intOp .or .u64 ((p*2^1%18446744073709551616:Nat):Int) (b:Int)=some (.int .u64 ((2*p%18446744073709551616+b:Nat):Int)):=by
 rw [u_or _ _ (Nat.mod_lt _ oE) oM,or_add 1 _ _ oM oM]
 congr 4;omega
theorem u_signT (p:Nat) (hp:p<18446744073709551616) (h:9223372036854775808≤p):intOp .and .u64 (p:Int) 9223372036854775808=some (.int .u64 9223372036854775808):=by
 have e:=u_and p (2^63) hp oE
 rw [nat_bit 63 p,show p/2^63%2=1 from by omega] at e
 exact e
theorem u_signF (p:Nat) (hp:p<9223372036854775808):intOp .and .u64 (p:Int) 9223372036854775808=some (.int .u64 0):=by
 have e:=u_and p (2^63) oM oE
 rw [nat_bit 63 p,show p/2^63%2=0 from by omega] at e
 exact e
theorem bit_mod (x k:Nat) (hk:k<64):x%18446744073709551616/2^k%2=x/2^k%2:=by
 have h1:(18446744073709551616:Nat)=2^k*(2*2^(63-k)):=by
  rw [← Nat.pow_succ',← Nat.pow_add,show k+(63-k).succ=64 from by omega]
 have h2:x=2^k*(2*2^(63-k))*(x/18446744073709551616)+x%18446744073709551616:=by rw [← h1];exact (Nat.div_add_mod x _).symm
 have hp:0<2^k:=Nat.pow_pos oE
 generalize x%18446744073709551616=r at *
 generalize x/18446744073709551616=q at *
 rw [h2,Nat.mul_assoc,Nat.mul_add_div hp,Nat.mul_assoc,Nat.mul_add_mod]
def numC (len n:Nat):List Value:=(List.range len).map fun i => .int .u64 ((n/18446744073709551616^i%18446744073709551616:Nat):Int)
theorem numC_at (len n i:Nat) (h:i<len):(numC len n)[i]? = some (.int .u64 ((n/2^(64*i)%18446744073709551616:Nat):Int)):=by
 have e:(18446744073709551616:Nat)^i=2^(64*i):=by rw [Nat.pow_mul]
 rw [← e]
 simp [numC,h]
theorem pow_twice (a n m:Nat) (hn:n=a+a) (hm:m=2^a):m*m=2^n:=by
 rw [hn,hm,Nat.pow_add]
theorem lt512 {x:Nat} (h:x<top256*top256):x<2^512:=Nat.lt_of_lt_of_eq h (pow_twice 256 512 top256 rfl oE)
theorem Word.cells_num (w:Word):w.cells=numC 4 w.num:=by
 have:=w.a.toNat_lt;have:=w.b.toNat_lt;have:=w.c.toNat_lt;have:=w.d.toNat_lt
 have e1:w.num/18446744073709551616^0%18446744073709551616=w.a.toNat:=by rw [Word.num];omega
 have e2:w.num/18446744073709551616^1%18446744073709551616=w.b.toNat:=by rw [Word.num];omega
 have e3:w.num/18446744073709551616^2%18446744073709551616=w.c.toNat:=by rw [Word.num];omega
 have e4:w.num/18446744073709551616^3%18446744073709551616=w.d.toNat:=by rw [Word.num];omega
 show _=[Value.int .u64 ((w.num/18446744073709551616^0%18446744073709551616:Nat):Int),Value.int .u64 ((w.num/18446744073709551616^1%18446744073709551616:Nat):Int),Value.int .u64 ((w.num/18446744073709551616^2%18446744073709551616:Nat):Int),Value.int .u64 ((w.num/18446744073709551616^3%18446744073709551616:Nat):Int)]
 rw [e1,e2,e3,e4];rfl
def bitsE (len n:Nat):List (List Value):=(List.range len).map fun j=>[.int .u64 ((n/2^(len-1-j)%2:Nat):Int)]
theorem bitsE_len (len n:Nat):(bitsE len n).length=len:=by simp [bitsE]
theorem bitsE_at (len n j:Nat) (h:j<(bitsE len n).length):(bitsE len n)[j]=[.int .u64 ((n/2^(len-1-j)%2:Nat):Int)]:=by simp [bitsE]
theorem bit_step (len n k:Nat) (h:k<len):n/2^(len-(k+1))=2*(n/2^(len-k))+n/2^(len-1-k)%2:=by
 have e:len-k=(len-1-k)+1:=by omega
 rw [e,Nat.pow_succ,← Nat.div_div_eq_div_mul,show len-(k+1)=len-1-k from by omega]
 omega
theorem bitsE_one (len n:Nat) : ∀ vs∈bitsE len n,vs.length=1:=by
 intro vs h
 obtain ⟨j,_,rfl⟩:=List.mem_map.1 h
 rfl
theorem Word.cells_nat0:(Word.nat 0).cells=[.int .u64 0,.int .u64 0,.int .u64 0,.int .u64 0]:=rfl
theorem Word.num_pos {b:Word} (h:b ≠ .zero):0<b.num:=by
 rcases Nat.eq_zero_or_pos b.num with h0|h0
 ·exact absurd (Word.num_inj.1 (h0.trans Word.zero_num.symm)) h
 ·exact h0
theorem div_step (m c b:Nat) (hc:c≤1) (hb:0<b):if b≤2*(m%b)+c then (2*m+c)/b=2*(m/b)+1∧(2*m+c)%b=2*(m%b)+c-b else (2*m+c)/b=2*(m/b)∧(2*m+c)%b=2*(m%b)+c:=by
 have h1:=Nat.div_add_mod m b
 have h2:=Nat.mod_lt m hb
 have e:2*m+c=b*(2*(m/b))+(2*(m%b)+c):=by
  have:b*(2*(m/b))=2*(b*(m/b)):=by rw [Nat.mul_left_comm]
  omega
 rw [e,Nat.mul_add_div hb,Nat.mul_add_mod]
 by_cases h:b≤2*(m%b)+c
 ·rw [if_pos h]
  have e1:(2*(m%b)+c)/b=1:=Nat.div_eq_of_lt_le oM oM
  have e2:(2*(m%b)+c)%b=2*(m%b)+c-b:=by rw [Nat.mod_eq_sub_mod h,Nat.mod_eq_of_lt oM]
  exact ⟨by rw [e1],e2⟩
 ·rw [if_neg h]
  have hlt:2*(m%b)+c<b:=by omega
  exact ⟨by rw [Nat.div_eq_of_lt hlt];rfl,Nat.mod_eq_of_lt hlt⟩
theorem xor_ones {a:Nat} (ha:a<18446744073709551616):(18446744073709551615^^^a:Nat)=18446744073709551616-1-a:=by
 apply Nat.eq_of_testBit_eq
 intro i
 have h1:(18446744073709551615:Nat)=2^64-1:=by decide
 have h2:18446744073709551616-1-a=2^64-(a+1):=by omega
 rw [Nat.testBit_xor,h1,Nat.testBit_two_pow_sub_one,h2,Nat.testBit_two_pow_sub_succ (by simpa using ha)]
 by_cases hi:i<64
 ·simp [hi]
 ·have:a.testBit i=false:=Nat.testBit_lt_two_pow (Nat.lt_of_lt_of_le ha (by simpa using Nat.pow_le_pow_right (n:=2) oE (Nat.le_of_not_lt hi)))
  simp [hi,this]
section
variable {x:Cx} {Q:Exit→Act→World→Prop} {Φ:List Fa} {L:Env} {M:Own} {ops:Array Oper} {K:Act→World→Prop}
variable {d:Nat} {ty:TypeId} {pos:String} {af:Array Edge} {g:Option (Nat × Bool)}
theorem o_add64 {y p q r:Operand} {ts:Array TypeId} {f:FuncId} {a b c:Nat} (hdN:Nat.blt d x.N=true) (hg:gd ops L g=some true) (hy:ev L y=some (.func (.func f) #[] #[])) [hf:ExtF x.P f add64Entry] (hp':ev L p=some (.int .u64 a)) (hq':ev L q=some (.int .u64 b)) (hr':ev L r=some (.int .u64 c)) (hc:c≤1)
  (h:G x Φ ((d,.tuple #[.int .u64 (((a+b+c)%18446744073709551616:Nat):Int),.int .u64 (((a+b+c)/18446744073709551616:Nat):Int)])::L) M K):OpK x ops Q ⟨some d,.call ⟨.value y,#[p,q,r],ts⟩,ty,pos,af,g⟩ Φ L M K :=
 OpK.val rfl hdN hg oI (fun I ac w hp hk hw=>by
  have e1:=run_add64 (P:=x.P) (a:Int) (b:Int) (c:Int) oM oM oM oM w
  have e2:(((a:Int)+b+c)%18446744073709551616)=(((a+b+c)%18446744073709551616:Nat):Int):=by simp
  have e3:(((a:Int)+b+c)/18446744073709551616)=(((a+b+c)/18446744073709551616:Nat):Int):=by simp
  rw [e2,e3] at e1
  simp [execOp,resolve,hk.eval hy,hk.eval hp',hk.eval hq',hk.eval hr',Deferred.ofValue,invoke,hf.h,e1,Sem.run_bind,Result.andThen,Sem.run_pure]) h
theorem o_sub64 {y p q r:Operand} {ts:Array TypeId} {f:FuncId} {a b c:Nat} (hdN:Nat.blt d x.N=true) (hg:gd ops L g=some true) (hy:ev L y=some (.func (.func f) #[] #[])) [hf:ExtF x.P f sub64E] (hp':ev L p=some (.int .u64 a)) (hq':ev L q=some (.int .u64 b)) (hr':ev L r=some (.int .u64 c)) (ha:a<18446744073709551616) (hb:b<18446744073709551616) (hc:c≤1)
  (h:G x Φ ((d,.tuple #[.int .u64 (((a+(18446744073709551615-b)+(1-c))%18446744073709551616:Nat):Int),.int .u64 (((b+c+(18446744073709551615-a))/18446744073709551616:Nat):Int)])::L) M K):OpK x ops Q ⟨some d,.call ⟨.value y,#[p,q,r],ts⟩,ty,pos,af,g⟩ Φ L M K :=
 OpK.val rfl hdN hg oI (fun I ac w hp hk hw=>by
  have e1:=run_sub64E (P:=x.P) a b c hc w
  have e2:(a+18446744073709551616-b-c)%18446744073709551616=(a+(18446744073709551615-b)+(1-c))%18446744073709551616:=by omega
  have e3:(if a<b+c then 1 else 0:Nat)=(b+c+(18446744073709551615-a))/18446744073709551616:=by split<;>(omega)
  rw [e2,e3] at e1
  simp [execOp,resolve,hk.eval hy,hk.eval hp',hk.eval hq',hk.eval hr',Deferred.ofValue,invoke,hf.h,e1,Sem.run_bind,Result.andThen,Sem.run_pure]) h
theorem o_bnot {t:TypeId} {y:Operand} {a:Nat} (hdN:Nat.blt d x.N=true) (hg:gd ops L g=some true) (hy:ev L y=some (.int .u64 a)) (ha:a<18446744073709551616) (h:G x Φ ((d,.int .u64 ((18446744073709551616-1-a:Nat):Int))::L) M K):OpK x ops Q ⟨some d,.unOp .xor t y,ty,pos,af,g⟩ Φ L M K :=
 OpK.val rfl hdN hg oI (fun I ac w hp hk hw=>by
  have e:bits .xor .u64 ((18446744073709551615:Nat):Int) (a:Int)=((18446744073709551616-1-a:Nat):Int):=by
   rw [← xor_ones ha];exact u64_xor_nat _ a oE ha
  have e':IntKind.u64.wrap (BitVec.ofInt 64 ((18446744073709551615:Nat):Int)^^^BitVec.ofInt 64 (a:Int)).toNat=((18446744073709551616-1-a:Nat):Int):=e
  have e3:IntKind.u64.signed=false:=rfl
  have e4:IntKind.u64.max=((18446744073709551615:Nat):Int):=by decide
  have e5:Op.intBits .xor .u64 ((18446744073709551615:Nat):Int) (a:Int)=pure (.int .u64 ((18446744073709551616-1-a:Nat):Int)):=by
   rw [← e];rfl
  simp only [execOp,hk.eval hy,Op.unary,e3,e4,Bool.false_eq_true,if_false,e5,Sem.run_bind,Result.andThen,Sem.run_pure]) h
theorem W.keep {c:Code} {L':Env} (hL : ∀ t v,look L' t=some v→look L t=some v) (h:W x c Q Φ L' M):W x c Q Φ L M:=W.bare (G.weaken (G.code h) (fun _ h=>h) hL oZ)
theorem o_indexV {t e n:Nat} {y z:Operand} {cs:List Value} {k:IntKind} {i:Nat} {v:Value} [ht:ArTy x.P t n e] [hs:Siz x.P e 1] [ha:IsAg x.P e false] (hdN:Nat.blt d x.N=true) (hg:gd ops L g=some true) (hy:ev L y=some (.agg cs.toArray)) (hz:ev L z=some (.int k i)) (hi:i<n) (hv:cs[i]? = some v)
  (h:G x Φ ((d,v)::L) M K):OpK x ops Q ⟨some d,.index t y z,ty,pos,af,g⟩ Φ L M K :=
 OpK.val rfl hdN hg oI (fun I ac w hp hk hw=>by
  simp [execOp,hk.eval hy,hk.eval hz,Instr.index,asIntOf,run_underlying ht.h,part,ha.h,hs.h,hi,hv,Sem.run_bind,Result.andThen,Sem.run_pure]) h
end
end Go.Rail
