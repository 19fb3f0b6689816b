/- Literals, the program's data, slices, drawn regions. -/
import Derived.Test.YtjhdodkagchhkaaGreatDoorRailA
import Derived.Laws.StructEq
import Derived.ChangeKeysEq
set_option linter.unusedSimpArgs false
set_option linter.unusedVariables false
namespace Go.Rail
open Go
def splice (cs:List Value) (off:Nat) (vs:List Value):List Value:=cs.take off++vs++cs.drop (off+vs.length)

theorem foldl_splice : ∀ (vs:List Value) (cs:List Value) (off k:Nat),off+k+vs.length≤cs.length →
  (vs.toArray.zipIdx k).foldl (fun (a:Array Value) (p:Value × Nat)=>a.setIfInBounds (off+p.2) p.1) cs.toArray=(splice cs (off+k) vs).toArray:=by
 intro vs
 induction vs with
 | nil=>intro cs off k h;rw [← Array.foldl_toList];simp [splice]
 | cons v vs ih =>
  intro cs off k h
  simp only [List.length_cons] at h
  rw [← Array.foldl_toList]
  simp only [Array.toList_zipIdx,List.zipIdx_cons,List.foldl_cons]
  have:=ih (cs.set (off+k) v) off (k+1) oX
  rw [← Array.foldl_toList] at this
  simp only [Array.toList_zipIdx] at this
  have e:cs.toArray.setIfInBounds (off+k) v=(cs.set (off+k) v).toArray:=by simp
  rw [e,this]
  congr 1
  unfold splice
  have e1:(cs.set (off+k) v).take (off+(k+1))=cs.take (off+k)++[v]:=by
   rw [show off+(k+1)=(off+k)+1 from by omega,List.take_succ_eq_append_getElem oX]
   simp [List.take_set_of_le]
  have e2:(cs.set (off+k) v).drop (off+(k+1)+vs.length)=cs.drop (off+k+(v::vs).length):=by
   rw [List.drop_set_of_lt oM]
   congr 1
   simp;omega
  rw [e1,e2];simp

inductive FillR (place:Nat→Option (Nat × Nat)):List Value→List (Nat × Value)→List Value→Prop
 | nil {cs:List Value}:FillR place cs [] cs
 | cons {cs cs' vs:List Value} {i off size:Nat} {v:Value} {rest:List (Nat × Value)} (hp:place i=some (off,size)) (hv:cellsL v=vs) (hl:vs.length=size) (hle:off+size≤cs.length)
   {cs1:List Value} (hs:NormL (splice cs off vs) cs1) (h:FillR place cs1 rest cs'):FillR place cs ((i,v)::rest) cs'
theorem NormL.refl {α:Type} : ∀ (l:List α),NormL l l
 | [] => .nil rfl
 | _::l => .cons rfl (NormL.refl l)
theorem FillR.run {place:Nat→Option (Nat × Nat)} {cs cs':List Value} {parts:List (Nat × Value)} (h:FillR place cs parts cs'):Instr.fill place cs.toArray parts=some cs'.toArray:=by
 induction h with
 | nil=>rfl
 | @cons cs cs' vs i off size v rest hp hv hl hle cs1 hs _ ih =>
  have hs:=hs.eq
  subst hv hs
  have hsz:v.cells.size=size:=by rw [← Array.length_toList,cells_toList,hl]
  simp only [Instr.fill,hp]
  rw [if_neg (by simp [hsz];omega)]
  have h5:=foldl_splice (cellsL v) cs off 0 oM
  rw [Nat.add_zero] at h5
  rw [← ih,← h5]
  have e:v.cells=(cellsL v).toArray:=by rw [← cells_toList,Array.toArray_toList]
  rw [e]
class Places (P:Program) (t:TypeId) (place:outParam (Nat→Option (Nat × Nat))) (zs:outParam (List Value)):Prop where
 h : ∀ parts cs w,FillR place zs parts cs→(Instr.build t parts.toArray).run P w = .ok (.agg cs.toArray) w
instance Places.array {P:Program} {t n e sz:Nat} {zs:List Value} [ht:ArTy P t n e] [hs:Siz P e sz] [hz:Zer P t zs]:Places P t (fun i=>some (i*sz,sz)) zs:=⟨fun parts cs w h=>by
 obtain ⟨z,h1,rfl⟩:=hz.h w
 have hf:=h.run
 rw [← cells_toList,Array.toArray_toList] at hf
 simp [Instr.build,h1,run_underlying ht.h,hs.h,Sem.run_bind,Result.andThen,hf,Sem.run_pure]⟩
inductive FieldsAt (P:Program):List Field→List (Nat × Nat)→Prop
 | nil:FieldsAt P [] []
 | cons {f:Field} {fs:List Field} {l:List (Nat × Nat)} {n:Nat} (h : ∀ w,(sizeOf f.type).run P w = .ok n w) (t:FieldsAt P fs l):FieldsAt P (f::fs) ((f.offset,n)::l)
theorem FieldsAt.run {P:Program} {fs:List Field} {l:List (Nat × Nat)} (h:FieldsAt P fs l) (w:World):(fs.mapM fun (f:Field)=>(do pure (f.offset,← sizeOf f.type):Sem (Nat × Nat))).run P w = .ok l w:=by
 induction h with
 | nil=>simp [Sem.run_pure]
 | cons h _ ih=>simp only [List.mapM_cons,Sem.run_bind,h,Result.andThen,Sem.run_pure,ih]
class StPl (P:Program) (t:TypeId) (pl:outParam (List (Nat × Nat))):Prop where h : ∃ fs:List Field,P.underlying t=some (.struct fs.toArray)∧FieldsAt P fs pl
instance Places.struct {P:Program} {t:Nat} {pl:List (Nat × Nat)} {zs:List Value} [ht:StPl P t pl] [hz:Zer P t zs]:Places P t (fun i=>pl[i]?) zs:=⟨fun parts cs w h=>by
 obtain ⟨z,h1,rfl⟩:=hz.h w
 obtain ⟨fs,h2,h3⟩:=ht.h
 have hf:=h.run
 rw [← cells_toList,Array.toArray_toList] at hf
 have hp:=h3.run w
 simp only [Instr.build,Sem.run_bind,h1,run_underlying h2,Result.andThen]
 rw [List.mapM_toArray,Sem.run_map,hp]
 simp [Sem.run_bind,Result.andThen,hf,Sem.run_pure]⟩

section
variable {x:Cx} {Q:Exit→Act→World→Prop} {Φ:List Fa} {L:Env} {M:Own} {ops:Array Oper} {K:Act→World→Prop}
variable {d:Nat} {ty:TypeId} {pos:String} {af:Array Edge} {g:Option (Nat × Bool)}
def evParts (L:Env):List (Nat × Operand)→Option (List (Nat × Value))
 | []=>some []
 | (i,o)::l=>match ev L o,evParts L l with
  | some v,some vs=>some ((i,v)::vs)
  | _,_=>none
theorem evParts_map {N:Nat} {ds:List Deferred} {a:Act} (hk:Kn N L ds a) : ∀ {l:List (Nat × Operand)} {vs:List (Nat × Value)},evParts L l=some vs→l.map (fun p=>(p.1,a.eval p.2))=vs:=by
 intro l
 induction l with
 | nil=>intro vs h;simp [evParts] at h;simp [h]
 | cons p l ih =>
  obtain ⟨i,o⟩:=p
  intro vs h
  simp only [evParts] at h
  cases hv:ev L o with
  | none=>rw [hv] at h;cases h
  | some v =>
   cases hvs:evParts L l with
   | none=>rw [hv,hvs] at h;cases h
   | some vs' =>
    rw [hv,hvs] at h
    simp only [Option.some.injEq] at h
    subst h
    simp [hk.eval hv,ih hvs]
theorem o_build {t:TypeId} {parts:List (Nat × Operand)} {vs:List (Nat × Value)} {place:Nat→Option (Nat × Nat)} {zs cs:List Value} [hP:Places x.P t place zs] (hdN:Nat.blt d x.N=true) (hg:gd ops L g=some true)
  (hv:evParts L parts=some vs) (hf:FillR place zs vs cs) (h:G x Φ ((d,.agg cs.toArray)::L) M K):OpK x ops Q ⟨some d,.build t parts.toArray,ty,pos,af,g⟩ Φ L M K :=
 OpK.val rfl hdN hg oI (fun I a w hp hk hw=>by
  have:=hP.h vs cs w hf
  have e:(parts.map fun p=>(p.1,a.eval p.2))=vs:=evParts_map hk hv
  simp only [execOp,List.map_toArray]
  rw [show (parts.map fun (x:Nat × Operand)=>match x with|(i,x)=>(i,a.eval x))=vs from e]
  simp [this,Sem.run_bind,Result.andThen,Sem.run_pure]) h
class StrTy (P:Program) (t:TypeId):Prop where h:P.underlying t=some .string
class IntTy (P:Program) (t:TypeId) (k:outParam IntKind):Prop where h:P.underlying t=some (.int k)
theorem o_conv {s t:TypeId} {y:Operand} {k k' ks:IntKind} {n:Int} {v:Value} [hs:IntTy x.P s ks] [ht:IntTy x.P t k] (hdN:Nat.blt d x.N=true) (hg:gd ops L g=some true) (hy:ev L y=some (.int k' n)) (hv:Value.int k (k.wrap n)=v)
  (h:G x Φ ((d,v)::L) M K):OpK x ops Q ⟨some d,.convert s t y,ty,pos,af,g⟩ Φ L M K :=
 OpK.val rfl hdN hg oI (fun I a w hp hk hw=>by
  subst hv
  simp [execOp,hk.eval hy,convert,run_underlying hs.h,run_underlying ht.h,Conv.intToInt,Sem.run_bind,Result.andThen,Sem.run_pure]) h
end
end Go.Rail
namespace Go.Rail
section
variable {x:Cx} {Q:Exit→Act→World→Prop} {Φ:List Fa} {L:Env} {M:Own} {ops:Array Oper}
theorem G.cons {o:Oper} {rest:List Oper} (h:OpK x ops Q o Φ L M (wpListIn (FR x.r) 0 x.P ops Q rest)):G x Φ L M (wpListIn (FR x.r) 0 x.P ops Q (o::rest)):=h
theorem G.nil (h:G x Φ L M (Q .normal)):G x Φ L M (wpListIn (FR x.r) 0 x.P ops Q []):=h
theorem W.bare {c:Code} (h:G x Φ L M (fun a w=>c.wpIn (FR x.r) 0 x.P Q a w)):W x c Q Φ L M:=h
theorem G.code {c:Code} (h:W x c Q Φ L M):G x Φ L M (fun a w=>c.wpIn (FR x.r) 0 x.P Q a w):=h

def rounds (x:Cx) (c:Code) (Q:Exit→Act→World→Prop):Nat→Act→World→Prop
 | 0=>fun _ _=>False
 | n+1=>fun a w=>c.wpIn (FR x.r) 0 x.P (Exit.then (rounds x c Q n) Q) a w
theorem W.loopN {c:Code} (n:Nat) (h:G x Φ L M (rounds x c Q n)):W x (.loop c) Q Φ L M:=by
 intro I a w hp hk hw
 refine wpIn_loop (fun a w => ∃ n,rounds x c Q n a w) (fun a w=>least fun n=>rounds x c Q n a w) ⟨n,h I a w hp hk hw⟩ ?_
 rintro a w hn
 have hl:=least_spec hn
 cases hm:least (fun n=>rounds x c Q n a w) with
 | zero=>rw [hm] at hl;exact hl.1.elim
 | succ m =>
  rw [hm] at hl
  refine wpIn_mono hl.1 ?_
  intro e a' w' hq
  cases e with
  | normal =>
   have hq:rounds x c Q m a' w':=hq
   exact ⟨⟨m,hq⟩,by have:=(least_spec (P:=fun n=>rounds x c Q n a' w') ⟨m,hq⟩).2 m hq;omega⟩
  | exit id=>exact hq
  | goto l=>exact hq
  | ret=>exact hq
  | panic ch=>exact hq
  | outgrown=>exact hq
theorem G.round {c:Code} {n:Nat} (h:W x c (Exit.then (rounds x c Q n) Q) Φ L M):G x Φ L M (rounds x c Q (n+1)):=h

theorem G.again {S:Type} {f:S→List Fa × Env × Own} {pre lt:S→Prop} (s':S) (hμ:lt s') (hpre:pre s') (hΦ:Ents Φ (f s').1) (hL : ∀ t v,look (f s').2.1 t=some v→look L t=some v) (hM:(f s').2.2.Sublist M) :
  G x Φ L M (fun a w => ∃ s',lt s'∧Inv x f pre s' a w) :=
 fun I a w hp hk hw=>⟨s',hμ,hpre,I,hΦ.h I hp,⟨hk.sz,fun t v e=>hk.val t v (hL t v e),hk.df⟩,hw.sub hM⟩
theorem W.loopI {c:Code} {S:Type} (f:S→List Fa × Env × Own) (pre:S→Prop) (μ:S→Nat) (s0:S) (h0:pre s0) (hΦ:Ents Φ (f s0).1) (hL : ∀ t v,look (f s0).2.1 t=some v→look L t=some v) (hM:(f s0).2.2.Sublist M)
  (hround : ∀ s,pre s→W x c (Exit.then (fun a w => ∃ s',μ s'<μ s∧Inv x f pre s' a w) Q) (f s).1 (f s).2.1 (f s).2.2):W x (.loop c) Q Φ L M :=
 W.loop f pre μ s0 h0 (fun I a w hp hk hw=>⟨h0,I,hΦ.h I hp,⟨hk.sz,fun t v e=>hk.val t v (hL t v e),hk.df⟩,hw.sub hM⟩) hround
theorem lN {L:Env} : ∀ t v,look [] t=some v→look L t=some v:=fun _ _ h=>by cases h
theorem lC {L L':Env} {k:Nat} {u:Value} (h:look L k=some u) (t : ∀ t v,look L' t=some v→look L t=some v) : ∀ t v,look ((k,u)::L') t=some v→look L t=some v:=by
 intro t' v hv
 by_cases e:k=t'
 ·subst e;rw [look_cons_eq] at hv;cases hv;exact h
 ·rw [look_cons_ne e] at hv;exact t t' v hv
end
section
variable {x:Cx} {Q:Exit→Act→World→Prop} {Φ:List Fa} {L:Env} {M:Own} {ops:Array Oper} {K:Act→World→Prop}
variable {d:Option Nat} {ty t t':TypeId} {pos:String} {af:Array Edge} {g:Option (Nat × Bool)} {y z c:Operand} {o:Oper}
end
section
variable {k:IntKind} {p q:Int}
theorem i_lss_t (h:p<q):intOp .lss k p q=some (.bool true):=by simp [intOp,h]
theorem i_lss_f (h:q≤p):intOp .lss k p q=some (.bool false):=by simp [intOp];omega
theorem i_leq_t (h:p≤q):intOp .leq k p q=some (.bool true):=by simp [intOp,h]
theorem i_leq_f (h:q<p):intOp .leq k p q=some (.bool false):=by simp [intOp];omega
theorem i_gtr_t (h:q<p):intOp .gtr k p q=some (.bool true):=by simp [intOp,h]
theorem i_gtr_f (h:p≤q):intOp .gtr k p q=some (.bool false):=by simp [intOp];omega
theorem i_geq_t (h:q≤p):intOp .geq k p q=some (.bool true):=by simp [intOp,h]
theorem i_geq_f (h:p<q):intOp .geq k p q=some (.bool false):=by simp [intOp];omega
theorem i_eql_t (h:p=q):intOp .eql k p q=some (.bool true):=by simp [intOp,h]
theorem i_eql_f (h:p≠q):intOp .eql k p q=some (.bool false):=by simp [intOp,h]
theorem i_neq_t (h:p≠q):intOp .neq k p q=some (.bool true):=by simp [intOp,h]
theorem i_neq_f (h:p=q):intOp .neq k p q=some (.bool false):=by simp [intOp,h]
theorem i_lss_d:intOp .lss k p q=some (.bool (decide (p<q))):=rfl
theorem i_leq_d:intOp .leq k p q=some (.bool (decide (p≤q))):=rfl
theorem i_gtr_d:intOp .gtr k p q=some (.bool (decide (q<p))):=rfl
theorem i_geq_d:intOp .geq k p q=some (.bool (decide (q≤p))):=rfl
theorem i_eql_d:intOp .eql k p q=some (.bool (decide (p=q))):=by simp [intOp];rfl
theorem i_neq_d:intOp .neq k p q=some (.bool (decide (p≠q))):=by simp [intOp];by_cases h:p=q<;>simp [h]
theorem wrap_i64 {n:Int} (h1 : -9223372036854775808≤n) (h2:n<9223372036854775808):IntKind.i64.wrap n=n:=by
 simp only [IntKind.wrap,IntKind.signed,IntKind.bits,if_true]
 simp [IntKind.min,IntKind.max]
 omega
theorem i_add (h1 : -9223372036854775808≤p+q) (h2:p+q<9223372036854775808):intOp .add .i64 p q=some (.int .i64 (p+q)):=by simp [intOp,wrap_i64 h1 h2]
theorem i_sub (h1 : -9223372036854775808≤p-q) (h2:p-q<9223372036854775808):intOp .sub .i64 p q=some (.int .i64 (p-q)):=by simp [intOp,wrap_i64 h1 h2]
theorem i_mul (h1 : -9223372036854775808≤p*q) (h2:p*q<9223372036854775808):intOp .mul .i64 p q=some (.int .i64 (p*q)):=by simp [intOp,wrap_i64 h1 h2]
theorem i_rem (h:q≠0):intOp .rem k p q=some (.int k (p.tmod q)):=by simp [intOp,h]
end
end Go.Rail
set_option linter.unusedSimpArgs false
set_option linter.unusedVariables false
namespace Go.Rail
open Go
theorem neg_in {p:Int} (h1 : -9223372036854775808 ≤ -p) (h2 : -p<9223372036854775808):Value.int .i64 (IntKind.i64.wrap (0-p)) = .int .i64 (-p):=by
 rw [show 0-p = -p from by omega,wrap_i64 h1 h2]

theorem run_eqItems1 {P:Program} {e d:Nat} {xs ys:Array Value} (f:Nat→Bool) (hag : ∀ w,(isAgg e).run P w = .ok false w) {w:World} : ∀ (is:List Nat),
  (∀ i∈is,∃ a b,xs[i]? = some a∧ys[i]? = some b∧(Op.equalIn d e a b).run P w = .ok (f i) w)→(Op.eqItems d e 1 xs ys is).run P w = .ok (is.all f) w
 | [],_=>by simp [Op.eqItems]
 | i::is,h=>by
  obtain ⟨a,b,h1,h2,h3⟩:=h i oI
  have ih:=run_eqItems1 f hag is (fun j hj=>h j (by simp [hj]))
  have p1:(part e xs (i*1)).run P w = .ok a w:=by simp [part,hag,Sem.run_bind,Result.andThen,h1,Sem.run_pure]
  have p2:(part e ys (i*1)).run P w = .ok b w:=by simp [part,hag,Sem.run_bind,Result.andThen,h2,Sem.run_pure]
  simp only [Op.eqItems,Sem.run_bind,p1,p2,h3,Result.andThen_ok]
  cases hf:f i with
  | false=>simp [hf]
  | true=>simp [hf,ih]
theorem run_equalIn_ints {P:Program} {t e n d:Nat} {k k':IntKind} {i:TypeInfo} (ht:P.underlying t=some (.array n e)) (he:P.underlying e=some (.int k')) (hi:P.info? e=some i) (hc:P.cellsOf e=1) (hag : ∀ w,(isAgg e).run P w = .ok false w)
  (xs ys:List Int) (hx:xs.length=n) (hy:ys.length=n) (w:World) :
  (Op.equalIn (d+2) t (.agg (xs.map (Value.int k)).toArray) (.agg (ys.map (Value.int k)).toArray)).run P w = .ok (decide (xs=ys)) w:=by
 rw [run_equalIn_array w (d+1) _ _ ht hi,hc,run_eqItems1 (fun j=>xs[j]? == ys[j]?) hag]
 ·congr 1
  rw [Bool.eq_iff_iff]
  simp only [List.all_eq_true,List.mem_range,beq_iff_eq,decide_eq_true_eq]
  constructor
  ·intro h
   apply List.ext_getElem?
   intro j
   rcases Nat.lt_or_ge j n with hj|hj
   ·exact h j hj
   ·rw [List.getElem?_eq_none oM,List.getElem?_eq_none oM]
  ·intro h j _;rw [h]
 ·intro j hj
  have hj:j<n:=by simpa using hj
  refine ⟨.int k xs[j],.int k ys[j],by simp [hx,hj],by simp [hy,hj],?_⟩
  rw [run_equalIn_int w d e k k' _ _ he]
  congr 1
  simp [hx,hy,hj]

section
variable {x:Cx} {Q:Exit→Act→World→Prop} {Φ:List Fa} {L:Env} {M:Own} {ops:Array Oper} {K:Act→World→Prop}
variable {d:Nat} {ty:TypeId} {pos:String} {af:Array Edge} {g:Option (Nat × Bool)}
def RpL {α:Type} [GoTy α] (Φ:List Fa):List Value→List α→Prop
 | [],[]=>True
 | v::vs,y::ys=>(∀ I,(∀ ψ∈Φ,ψ.p I)→Rp I v y)∧RpL Φ vs ys
 | _,_=>False
theorem RpL.cells {α:Type} [GoTy α] {I:Imm} (hp : ∀ ψ∈Φ,ψ.p I) : ∀ {vs:List Value} {ys:List α},RpL Φ vs ys→vs.length=ys.length∧(∀ v∈vs,(cellsL v).length=GoTy.sz α)∧RowRep I ((vs.map cellsL).flatten) 0 ys
 | [],[],_=>⟨rfl,by simp,by simp [RowRep]⟩
 | v::vs,y::ys,h=>by
  obtain ⟨h1,h2⟩:=h
  obtain ⟨e1,e2,e3,e4⟩:=RpL.cells hp h2
  have hr:=(h1 I hp).cells
  have hl:=GoTy.len hr
  refine ⟨by simp [e1],?_,?_,?_⟩
  ·intro u hu
   rcases List.mem_cons.1 hu with rfl|hu
   ·exact hl
   ·exact e2 u hu
  ·simp only [List.length_cons,Nat.succ_mul,List.map_cons,List.flatten_cons,List.length_append,hl]
   omega
  ·intro k hk
   unfold chunk
   cases k with
   | zero =>
    simp only [Nat.zero_mul,Nat.add_zero,List.drop_zero,List.map_cons,List.flatten_cons,List.getElem_cons_zero]
    rw [List.take_append_of_le_length oM,List.take_of_length_le oM]
    exact hr
   | succ k =>
    have:=e4 k (by simpa using hk)
    unfold chunk at this
    simp only [List.map_cons,List.flatten_cons,List.getElem_cons_succ]
    rw [show 0+(k+1)*GoTy.sz α=(cellsL v).length+(0+k*GoTy.sz α) from by rw [hl,Nat.succ_mul];omega,← List.drop_drop,List.drop_left]
    exact this
 | [],_::_,h=>h.elim
 | _::_,[],h=>h.elim

def evSeq (L:Env):Nat→List (Nat × Operand)→Option (List Value)
 | _,[]=>some []
 | i,(j,o)::l=>if j=i then (match ev L o,evSeq L (i+1) l with
  | some v,some vs=>some (v::vs)
  | _,_=>none) else none

theorem fill_seq (size:Nat) : ∀ (vs:List Value) (k:Nat) (pre post:List Value),pre.length=k*size→post.length=vs.length*size→(∀ v∈vs,(cellsL v).length=size) →
  Instr.fill (fun i=>some (i*size,size)) (pre++post).toArray (vs.zipIdx k |>.map fun p=>(p.2,p.1))=some (pre++(vs.map cellsL).flatten).toArray
 | [],k,pre,post,h1,h2,_=>by
  have:post=[]:=List.length_eq_zero_iff.1 (by simpa using h2)
  subst this;simp [Instr.fill]
 | v::vs,k,pre,post,h1,h2,h3=>by
  have hl:=h3 v oI
  have hpl:size≤post.length:=by rw [h2,List.length_cons,Nat.succ_mul];omega
  have hsz:v.cells.size=size:=by rw [← Array.length_toList,cells_toList,hl]
  simp only [List.zipIdx_cons,List.map_cons,Instr.fill]
  rw [if_neg (by simp [hsz];omega)]
  have h5:=foldl_splice (cellsL v) (pre++post) (k*size) 0 oX
  have e:v.cells=(cellsL v).toArray:=by rw [← cells_toList,Array.toArray_toList]
  rw [Nat.add_zero] at h5
  rw [e,h5]
  have e2:splice (pre++post) (k*size) (cellsL v)=(pre++cellsL v)++post.drop size:=by
   unfold splice
   rw [← h1,List.take_left,hl,List.drop_append,List.drop_eq_nil_of_le oM]
   simp
  rw [e2,fill_seq size vs (k+1) (pre++cellsL v) (post.drop size) (by simp [hl,h1,Nat.succ_mul]) (by simp [h2,Nat.succ_mul]) (fun u hu=>h3 u (by simp [hu]))]
  simp
theorem evSeq_zip {N:Nat} {ds:List Deferred} {a:Act} (hk:Kn N L ds a) : ∀ {l:List (Nat × Operand)} {i:Nat} {vs:List Value},evSeq L i l=some vs→l.map (fun p=>(p.1,a.eval p.2))=(vs.zipIdx i).map fun p=>(p.2,p.1)
 | [],i,vs,h=>by simp [evSeq] at h;subst h;rfl
 | (j,o)::l,i,vs,h=>by
  simp only [evSeq] at h
  split at h
  ·rename_i e;subst e
   cases hv:ev L o with
   | none=>rw [hv] at h;cases h
   | some v =>
    cases hvs:evSeq L (j+1) l with
    | none=>rw [hv,hvs] at h;cases h
    | some vs' =>
     rw [hv,hvs] at h
     simp only [Option.some.injEq] at h
     subst h
     simp [hk.eval hv,evSeq_zip hk hvs]
  ·cases h
theorem o_lit {α:Type} [GoTy α] {t e n:Nat} {parts:List (Nat × Operand)} {vs:List Value} {xs:List α} {zs:List Value} [ht:SlTy x.P t e] [hs:Siz x.P e (GoTy.sz α)] [hz:Zer x.P e zs] (hsz:n*GoTy.sz α≤16777216∧zs.length=GoTy.sz α∧0<GoTy.sz α) (hdN:Nat.blt d x.N=true) (hg:gd ops L g=some true)
  (hv:evSeq L 0 parts=some vs) (hx:RpL Φ vs xs) (hn:xs.length=n) (h : ∀ v,G x (fRp v xs::Φ) ((d,v)::L) M K):OpK x ops Q ⟨some d,.buildSlice t n parts.toArray,ty,pos,af,g⟩ Φ L M K :=
 OpK.mem rfl hdN hg oI (fun I a w hp hk hw=>by
  obtain ⟨e1,e2,e3⟩:=RpL.cells hp hx
  obtain ⟨zv,hzr,hzs⟩:=hz.h w
  have hzc:zv.cells.size=GoTy.sz α:=by rw [← Array.length_toList,cells_toList,hzs];exact hsz.2.1
  have hcl:((vs.map cellsL).flatten).length=n*GoTy.sz α:=by
   rw [List.length_flatten,List.map_map]
   have:vs.map (List.length ∘ cellsL)=vs.map fun _=>GoTy.sz α:=List.map_congr_left fun v hv=>e2 v hv
   rw [this,List.map_const',List.sum_replicate_nat,e1,hn]
  let o:Obj:=Ob ((vs.map cellsL).flatten) e
  have hfill : ∀ c:Array Value,c.size=n*GoTy.sz α→Instr.fill (fun i=>some (i*GoTy.sz α,GoTy.sz α)) c (vs.zipIdx 0 |>.map fun p=>(p.2,p.1))=some ((vs.map cellsL).flatten).toArray:=by
   intro c hc
   have:=fill_seq (GoTy.sz α) vs 0 [] c.toList oI (by simp [hc,e1,hn]) e2
   simpa using this
  have hrun:(execOp a.eval ⟨some d,.buildSlice t n parts.toArray,ty,pos,af,g⟩).run x.P w = .ok (.value (.slice (some ⟨w.heap.size,0,none⟩) n n)) (w.alloc o):=by
   have hev:(parts.toArray.map fun (x:Nat × Operand)=>match x with|(i,x)=>(i,a.eval x)).toList=(vs.zipIdx 0 |>.map fun p=>(p.2,p.1)):=by
    rw [← evSeq_zip hk hv];simp
   simp only [execOp,Instr.buildSlice,Sem.run_bind,run_underlying ht.h,hs.h,Result.andThen_ok]
   rw [if_neg oM]
   by_cases h0:n*GoTy.sz α=0
   ·simp only [h0,if_true,Sem.run_pure,Sem.run_bind,Result.andThen_ok,hev]
    have:=hfill (Array.map (fun x=>(#[]:Array Value)[x%(#[]:Array Value).size]!) (Array.range 0)) (by simp [h0])
    rw [this]
    simp [newRow,Sem.run_bind,Result.andThen,Sem.run_pure,o,Ob]
   ·simp only [h0,if_false,Sem.run_pure,Sem.run_bind,Result.andThen_ok,hev,hzr]
    have:=hfill (Array.map (fun x=>zv.cells[x%zv.cells.size]!) (Array.range (n*GoTy.sz α))) oI
    rw [this]
    simp [newRow,Sem.run_bind,Result.andThen,Sem.run_pure,o,Ob]
  have hw':=hw.alloc o
  have hg':=hw'.give
  have hnone:I w.heap.size=none:=hw'.sep (w.heap.size,o) oI
  refine ⟨_,w.alloc o,_,M,_,hrun,?_,hg',h _⟩
  intro φ hφ
  rcases List.mem_cons.1 hφ with rfl|hφ
  ·refine Rp.mkSlice ⟨by omega,fun hne=>⟨⟨w.heap.size,0,none⟩,((vs.map cellsL).flatten).toArray,e,(0,0),rfl,rfl,?_,?_⟩⟩ hn.symm
   ·simp [o,Ob]
   ·exact (by simpa using e3:RowRep I (((vs.map cellsL).flatten).toArray.toList) 0 xs).mono (Le.give hnone)
  ·exact φ.mono _ _ (Le.give hnone) (hp φ hφ))
end
end Go.Rail
set_option linter.unusedSimpArgs false
set_option linter.unusedVariables false
namespace Go.Rail
open Go
structure Word where
 a:UInt64
 b:UInt64
 c:UInt64
 d:UInt64
instance:DecidableEq Word:=fun x y=>decidable_of_iff (x.a=y.a∧x.b=y.b∧x.c=y.c∧x.d=y.d) ⟨fun h=>by cases x;cases y;simp_all,fun h=>by simp [h]⟩
def Word.parts (w:Word):List UInt64:=[w.a,w.b,w.c,w.d]
def Word.cells (w:Word):List Value:=[.int .u64 w.a.toNat,.int .u64 w.b.toNat,.int .u64 w.c.toNat,.int .u64 w.d.toNat]
def Word.v (w:Word):Value := .agg w.cells.toArray
instance:GoTy Word where
 sz:=4
 agg:=true
 rep:=fun _ cs w=>cs=w.cells
 mono:=fun _ h=>h
 len:=fun h=>by rw [h];rfl
 one:=fun h=>by rw [h];rfl
 agg1:=fun h=>by cases h
instance:GoFlat Word where
 enc:=Word.cells
 val:=Word.v
 rep_iff:=Iff.rfl
 val_eq:=fun _=>rfl
def Word.zero:Word:=⟨0,0,0,0⟩

structure Addr20 where
 b:List UInt8
 h:b.length=20
instance:DecidableEq Addr20:=fun x y=>decidable_of_iff (x.b=y.b) ⟨fun h=>by cases x;cases y;simp_all,fun h=>by simp [h]⟩
def Addr20.cells (a:Addr20):List Value:=a.b.map fun x => .int .u8 x.toNat
def Addr20.v (a:Addr20):Value := .agg a.cells.toArray
theorem Addr20.cells_length (a:Addr20):a.cells.length=20:=by simp [Addr20.cells,a.h]
theorem Addr20.cells_one (a:Addr20):ones a.cells=true:=by simp [Addr20.cells,ones,Value.oneCell']
def Addr20.zero:Addr20:=⟨List.replicate 20 0,rfl⟩
instance:GoTy Addr20 where
 sz:=20
 agg:=true
 rep:=fun _ cs a=>cs=a.cells
 mono:=fun _ h=>h
 len:=fun h=>by rw [h];exact Addr20.cells_length _
 one:=fun h=>by rw [h];exact Addr20.cells_one _
 agg1:=fun h=>by cases h
instance:GoFlat Addr20 where
 enc:=Addr20.cells
 val:=Addr20.v
 rep_iff:=Iff.rfl
 val_eq:=fun _=>rfl

structure Key where
 at_:Addr20
 slot:Bool
 key:Word
instance:DecidableEq Key:=fun x y=>decidable_of_iff (x.at_=y.at_∧x.slot=y.slot∧x.key=y.key) ⟨fun h=>by cases x;cases y;simp_all,fun h=>by simp [h]⟩
def Key.cells (k:Key):List Value:=k.at_.cells++(.bool k.slot::k.key.cells)
def Key.v (k:Key):Value := .agg k.cells.toArray
theorem Key.cells_length (k:Key):k.cells.length=25:=by simp [Key.cells,Addr20.cells_length,Word.cells]
theorem Key.cells_one (k:Key):ones k.cells=true:=by
 have:=Addr20.cells_one k.at_
 simp only [ones,Key.cells,List.all_append,Bool.and_eq_true] at this ⊢
 exact ⟨this,rfl⟩
instance:GoTy Key where
 sz:=25
 agg:=true
 rep:=fun _ cs a=>cs=a.cells
 mono:=fun _ h=>h
 len:=fun h=>by rw [h];exact Key.cells_length _
 one:=fun h=>by rw [h];exact Key.cells_one _
 agg1:=fun h=>by cases h
instance:GoFlat Key where
 enc:=Key.cells
 val:=Key.v
 rep_iff:=Iff.rfl
 val_eq:=fun _=>rfl
instance (k:Key):ValOf k k.v:=⟨rfl⟩
instance (k:Word):ValOf k k.v:=⟨rfl⟩
instance (k:Addr20):ValOf k k.v:=⟨rfl⟩
theorem Key.cells_at (k:Key):(k.cells.drop 0).take 20=k.at_.cells:=by
 rw [List.drop_zero,Key.cells,List.take_append_of_le_length (by simp [Addr20.cells_length]),List.take_of_length_le (by simp [Addr20.cells_length])]
theorem Key.cells_slot (k:Key):k.cells[20]? = some (.bool k.slot):=by
 rw [Key.cells,List.getElem?_append_right (by simp [Addr20.cells_length]),Addr20.cells_length];rfl
theorem Key.cells_key (k:Key):(k.cells.drop 21).take 4=k.key.cells:=by
 rw [Key.cells,show (21:Nat)=k.at_.cells.length+1 from by rw [Addr20.cells_length],← List.drop_drop,List.drop_left];rfl
theorem Key.cells_all (k:Key):(k.cells.drop 0).take 25=k.cells:=by rw [List.drop_zero,List.take_of_length_le (by rw [Key.cells_length];omega)]
theorem Key.le_all (k:Key):0+25≤k.cells.length:=by rw [Key.cells_length];omega
theorem Key.le_key (k:Key):0+21+4≤k.cells.length:=by rw [Key.cells_length];omega
theorem Word.cells_all (k:Word):(k.cells.drop 0).take 4=k.cells:=rfl
theorem Addr20.cells_all (k:Addr20):(k.cells.drop 0).take 20=k.cells:=by rw [List.drop_zero,List.take_of_length_le (by rw [Addr20.cells_length];omega)]
instance:PartOf (α:=Key) (β:=Addr20) 0 Key.at_ where
 le:=by decide
 h:=fun I cs z h=>by rw [show cs=z.cells from h];exact Key.cells_at z
instance:PartOf (α:=Key) (β:=Bool) 20 Key.slot where
 le:=by decide
 h:=fun I cs z h=>by
  rw [show cs=z.cells from h]
  show (z.cells.drop 20).take 1=[.bool z.slot]
  rw [List.take_one,List.head?_drop,Key.cells_slot];rfl
instance:PartOf (α:=Key) (β:=Word) 21 Key.key where
 le:=by decide
 h:=fun I cs z h=>by rw [show cs=z.cells from h];exact Key.cells_key z

structure Sets where
 reads:List Key
 writes:List Key
instance:GoTy Sets where
 sz:=2
 agg:=true
 rep:=fun I cs s => ∃ r w,cs=[r,w]∧Rp I r s.reads∧Rp I w s.writes
 mono:=fun hl h=>by obtain ⟨r,w,e,h1,h2⟩:=h;exact ⟨r,w,e,h1.mono hl,h2.mono hl⟩
 len:=fun h=>by obtain ⟨r,w,e,h1,h2⟩:=h;rw [e];rfl
 one:=fun h=>by
  obtain ⟨r,w,e,h1,h2⟩:=h
  obtain ⟨_,_,rfl,_⟩:=h1.slice
  obtain ⟨_,_,rfl,_⟩:=h2.slice
  rw [e];rfl
 agg1:=fun h=>by cases h
instance:PartOf (α:=Sets) (β:=List Key) 0 Sets.reads where
 le:=by decide
 h:=fun I cs z h=>by
  obtain ⟨r,w,e,h1,h2⟩:=h
  rw [e]
  obtain ⟨a,cap,rfl,hs⟩:=h1.slice
  exact ⟨a,cap,rfl,hs⟩
instance:PartOf (α:=Sets) (β:=List Key) 1 Sets.writes where
 le:=by decide
 h:=fun I cs z h=>by
  obtain ⟨r,w,e,h1,h2⟩:=h
  rw [e]
  obtain ⟨a,cap,rfl,hs⟩:=h2.slice
  exact ⟨a,cap,rfl,hs⟩
theorem Rp.sets {I:Imm} {v:Value} {s:Sets} (h:Rp I v s) : ∃ r w,v = .agg #[r,w]∧Rp I r s.reads∧Rp I w s.writes:=by
 obtain ⟨cs,rfl,r,w,rfl,h1,h2⟩:=h
 exact ⟨r,w,rfl,h1,h2⟩
theorem Rp.mkSets {I:Imm} {r w:Value} {s:Sets} (h1:Rp I r s.reads) (h2:Rp I w s.writes):Rp I (.agg #[r,w]) s:=⟨[r,w],rfl,r,w,rfl,h1,h2⟩
instance Ent'.sets {Φ:List Fa} {r w:Value} {s:Sets} [a:Ent' Φ (fRp r s.reads)] [b:Ent' Φ (fRp w s.writes)]:Ent' Φ (fRp (.agg #[r,w]) s):=⟨fun I hp=>Rp.mkSets (a.h I hp) (b.h I hp)⟩
section
variable {x:Cx} {Φ:List Fa} {L:Env} {M:Own}
theorem G.sets {F:Act→World→Prop} (v:Value) (s:Sets) [k:Ent' Φ (fRp v s)] (h : ∀ r w,v = .agg #[r,w]→G x (fRp r s.reads::fRp w s.writes::Φ) L M F):G x Φ L M F:=by
 intro I a w hp hk hw
 obtain ⟨r,u,e,h1,h2⟩:=Rp.sets (k.h I hp)
 refine h r u e I a w (fun φ hφ => ?_) hk hw
 rcases List.mem_cons.1 hφ with rfl|hφ
 ·exact h1
 ·rcases List.mem_cons.1 hφ with rfl|hφ
  ·exact h2
  ·exact hp φ hφ
end
end Go.Rail
set_option linter.unusedSimpArgs false
set_option linter.unusedVariables false
namespace Go.Rail
open Go
class Inf (P:Program) (t:TypeId) (zs:outParam (List Value)) (sz bytes:outParam Nat):Prop where
 h:(P.info? t).map (fun i=>(i.zero.map cellsL,i.size,i.bytes))=some (some zs,sz,bytes)
theorem Inf.get {P:Program} {t:TypeId} {zs:List Value} {sz bytes:Nat} (h:Inf P t zs sz bytes) : ∃ i z,P.info? t=some i∧i.zero=some z∧cellsL z=zs∧i.size=sz∧i.bytes=bytes:=by
 obtain ⟨h⟩:=h
 cases hi:P.info? t with
 | none=>rw [hi] at h;cases h
 | some i =>
  rw [hi] at h
  simp only [Option.map_some,Option.some.injEq,Prod.mk.injEq,Option.map_eq_some_iff] at h
  obtain ⟨⟨z,hz,hc⟩,h2,h3⟩:=h
  exact ⟨i,z,rfl,hz,hc,h2,h3⟩

def fRow {α:Type} [GoTy α] (cs:List Value) (xs:List α):Fa:=⟨.agg cs.toArray,fun I=>RowRep I cs 0 xs,fun _ _ hl h=>h.mono hl⟩
class KRow (Φ:List Fa) (cs:List Value) {α:outParam Type} [i:outParam (GoTy α)] (xs:outParam (List α)):Prop where h : @fRow α i cs xs∈Φ
instance (priority:=high) KRow.head {Φ:List Fa} {cs:List Value} {α:Type} [GoTy α] {xs:List α}:KRow (fRow cs xs::Φ) cs xs:=⟨.head _⟩
instance KRow.tail {Φ:List Fa} {φ:Fa} {cs:List Value} {α:Type} [GoTy α] {xs:List α} [t:KRow Φ cs xs]:KRow (φ::Φ) cs xs:=⟨.tail _ t.h⟩
instance Ent'.row {Φ:List Fa} {cs:List Value} {α:Type} [GoTy α] {xs:List α} [k:KRow Φ cs xs]:Ent' Φ (fRow cs xs):=⟨fun _ hp=>hp _ k.h⟩
instance (priority:=high) Ent'.row0 {Φ:List Fa} {cs:List Value} {α:Type} [GoTy α]:Ent' Φ (fRow cs ([]:List α)):=⟨fun _ _=>⟨by simp,fun k hk=>by cases hk⟩⟩

abbrev OR:=Option (Nat × List Value)
def ownM (e:TypeId):OR→Own
 | none=>[]
 | some (b,cs)=>[(b,Ob cs e)]
def ocells:OR→List Value
 | none=>[]
 | some (_,cs)=>cs
def IsOwn (sz:Nat) (v:Value) (n:Nat):OR→Prop
 | none=>v = .slice none 0 0∧n=0
 | some (b,cs) => ∃ cap,v = .slice (some ⟨b,0,none⟩) n cap∧cs.length=cap*sz∧n≤cap

theorem nextslicecap_le (need old:Nat) (h:old<need):Builtin.nextslicecap need old≤2*need+200:=by
 unfold Builtin.nextslicecap
 split
 ·omega
 ·split
  ·omega
  ·have key : ∀ r c,c≤2*need+200→Builtin.growBy need r c≤2*need+200:=by
    intro r
    induction r with
    | zero=>intro c hc;exact hc
    | succ r ih =>
     intro c hc
     unfold Builtin.growBy
     split
     ·exact hc
     ·exact ih _ oM
   exact key 4 old oM

theorem firstCells_rep {α:Type} [GoTy α] {P:Program} {I:Imm} {v:Value} {ys:List α} {w:World} (hi : ∀ b o,I b=some o→w.heap[b]? = some o) (h:Rp I v ys) :
  ∃ cs,(∀ w',w'.heap=w.heap→(Builtin.firstCells (GoTy.sz α) ys.length v).run P w' = .ok cs.toArray w')∧cs.length=ys.length*GoTy.sz α∧RowRep I cs 0 ys∧ones cs=true:=by
 obtain ⟨a,cap,rfl,h1,h2⟩:=h.slice
 by_cases hne:ys=[]
 ·subst hne
  refine ⟨[],fun w' _ => ?_,by simp,⟨by simp,fun k hk=>by cases hk⟩,rfl⟩
  cases a with
  | none=>simp [Builtin.firstCells,Sem.run_pure]
  | some ad=>simp [Builtin.firstCells,loadCells,loadCellsFrom,Sem.run_pure]
 ·obtain ⟨⟨b,off,sp⟩,c,t,fr,rfl,hsp,hb,hr⟩:=h2 hne
  simp only at hsp hb hr
  subst hsp
  have hle:=hr.1
  refine ⟨(c.toList.drop off).take (ys.length*GoTy.sz α),?_,?_,?_,?_⟩
  ·intro w' hw'
   simp only [Builtin.firstCells]
   exact loadCells_obj (by rw [hw'];exact hi _ _ hb) (by simpa using hle)
  ·simp at hle ⊢;omega
  ·refine ⟨by simp at hle ⊢;omega,fun k hk => ?_⟩
   have:=hr.2 k hk
   unfold chunk at this ⊢
   rw [Nat.zero_add,List.drop_take,List.drop_drop,List.take_take,Nat.min_eq_left]
   ·exact this
   ·have:=Nat.mul_le_mul_right (GoTy.sz α) (Nat.succ_le_of_lt hk)
    rw [Nat.succ_mul] at this;omega
  ·-- each of the cells is one cell
   rw [ones,List.all_eq_true]
   intro u hu
   obtain ⟨j,hj,rfl⟩:=List.getElem_of_mem hu
   have hjl:j<ys.length*GoTy.sz α:=by simp at hj;omega
   have hsz:0<GoTy.sz α:=by
    rcases Nat.eq_zero_or_pos (GoTy.sz α) with h|h
    ·rw [h] at hjl;omega
    ·exact h
   have hk:j/GoTy.sz α<ys.length:=Nat.div_lt_of_lt_mul (by rw [Nat.mul_comm];exact hjl)
   have ho:=GoTy.one (hr.2 (j/GoTy.sz α) hk)
   rw [ones,List.all_eq_true] at ho
   refine ho _ ?_
   unfold chunk
   have hm:j%GoTy.sz α<GoTy.sz α:=Nat.mod_lt _ hsz
   have hlen:off+j<c.toList.length:=by simp at hle hj ⊢;omega
   rw [List.mem_iff_getElem?]
   refine ⟨j%GoTy.sz α,?_⟩
   rw [List.getElem?_take,if_pos hm,List.getElem?_drop]
   rw [show off+j/GoTy.sz α*GoTy.sz α+j%GoTy.sz α=off+j from by have:=Nat.div_add_mod j (GoTy.sz α);rw [Nat.mul_comm] at this;omega]
   simp [List.getElem_take,List.getElem_drop]

theorem RowRep.append {α:Type} [GoTy α] {I:Imm} {cs ds rest:List Value} {xs ys:List α} (h:RowRep I cs 0 xs) (hc:cs.length=xs.length*GoTy.sz α) (k:RowRep I ds 0 ys):RowRep I (cs++ds++rest) 0 (xs++ys):=by
 obtain ⟨h1,h2⟩:=h
 obtain ⟨k1,k2⟩:=k
 refine ⟨?_,fun j hj => ?_⟩
 ·simp only [List.length_append,Nat.add_mul,hc];omega
 ·by_cases hjx:j<xs.length
  ·have:=h2 j hjx
   rw [List.getElem_append_left hjx]
   unfold chunk at this ⊢
   have hle:0+j*GoTy.sz α+GoTy.sz α≤cs.length:=by
    rw [hc];have:=Nat.mul_le_mul_right (GoTy.sz α) (Nat.succ_le_of_lt hjx);rw [Nat.succ_mul] at this;omega
   rw [List.append_assoc,List.drop_append_of_le_length oM,List.take_append_of_le_length oX]
   exact this
  ·have hjy:j-xs.length<ys.length:=by simp at hj;omega
   have:=k2 (j-xs.length) hjy
   rw [List.getElem_append_right oM]
   unfold chunk at this ⊢
   have e:0+j*GoTy.sz α=cs.length+(0+(j-xs.length)*GoTy.sz α):=by
    rw [hc]
    have:j*GoTy.sz α=xs.length*GoTy.sz α+(j-xs.length)*GoTy.sz α:=by rw [← Nat.add_mul];congr 1;omega
    omega
   have hle:0+(j-xs.length)*GoTy.sz α+GoTy.sz α≤ds.length:=by
    have:=Nat.mul_le_mul_right (GoTy.sz α) (Nat.succ_le_of_lt hjy);rw [Nat.succ_mul] at this;omega
   rw [e,List.append_assoc,← List.drop_drop,List.drop_left,List.drop_append_of_le_length oM,List.take_append_of_le_length oX]
   exact this
theorem RowRep.cut {α:Type} [GoTy α] {I:Imm} {cs:List Value} {xs:List α} (h:RowRep I cs 0 xs):RowRep I (cs.take (xs.length*GoTy.sz α)) 0 xs:=by
 obtain ⟨h1,h2⟩:=h
 refine ⟨by simp at h1 ⊢;omega,fun k hk => ?_⟩
 have:=h2 k hk
 unfold chunk at this ⊢
 have hle:=Nat.mul_le_mul_right (GoTy.sz α) (Nat.succ_le_of_lt hk)
 rw [Nat.succ_mul] at hle
 rw [List.drop_take,List.take_take,Nat.min_eq_left oM]
 exact this

section
variable {x:Cx} {Q:Exit→Act→World→Prop} {Φ:List Fa} {L:Env} {M:Own} {ops:Array Oper} {K:Act→World→Prop}
variable {d:Nat} {ty:TypeId} {pos:String} {af:Array Edge} {g:Option (Nat × Bool)}
theorem lenOf_rep {α:Type} [GoTy α] {P:Program} {I:Imm} {v:Value} {ys:List α} (h:Rp I v ys) (w:World):(Builtin.lenOf v).run P w = .ok ys.length w:=by
 obtain ⟨a,cap,rfl,_⟩:=h.slice
 simp [Builtin.lenOf,Sem.run_pure]

theorem run_app_grow {P:Program} {w:World} {t t2 e e2 ty:TypeId} {i:TypeInfo} {z u:Value} (ht:P.underlying t=some (.slice e)) (ht2:P.underlying t2=some (.slice e2)) (hi:P.info? e=some i) (hz:i.zero=some z)
  {ba:Option Addr} {n cap m:Nat} {olds news:List Value} (ho : ∀ w',w'.heap=w.heap→(Builtin.firstCells i.size n (.slice ba n cap)).run P w' = .ok olds.toArray w') (hn : ∀ w',w'.heap=w.heap→(Builtin.firstCells i.size m u).run P w' = .ok news.toArray w')
  (hl : ∀ w,(Builtin.lenOf u).run P w = .ok m w) (hg:cap<n+m) (h63:n+m<9223372036854775807) (hfit:Builtin.nextslicecap (n+m) cap*i.bytes≤281474976710656) :
  ∃ nc,n+m≤nc∧(Builtin.append_ #[t,t2] ty #[.slice ba n cap,u]).run P w = .ok (.slice (some ⟨w.heap.size,0,none⟩) (n+m) nc) (w.drew.alloc (Ob (olds++news++(Builtin.zeroCells z.cells (nc-(n+m))).toList) e)):=by
 have h1 : ¬ (n+m≤cap):=by omega
 have h63' : ¬ (9223372036854775807<((n:Int)+(m:Int))):=by omega
 have h48' : ¬ (281474976710656<Builtin.nextslicecap (n+m) cap*i.bytes):=by omega
 have hn':=hn w.drew rfl
 have ho':=ho w.drew rfl
 refine ⟨grownCap w (n+m) cap e,grownCap_ge _ _ _ _,?_⟩
 simp [Builtin.append_,run_underlying ht,run_underlying ht2,sizeOf,typeInfo,zeroValue,hi,hz,hl,h1,h63',h48',Question.forced,hn',ho',newRow,grownCap,Ob]
 congr 2
 apply Array.ext'
 simp [List.append_assoc]
theorem run_app_room {P:Program} {w:World} {t t2 e e2 ty:TypeId} {i:TypeInfo} {u:Value} (ht:P.underlying t=some (.slice e)) (ht2:P.underlying t2=some (.slice e2)) (hi:P.info? e=some i)
  {b n cap m:Nat} {cs news:List Value} (hb:w.heap[b]? = some (Ob cs e)) (hn : ∀ w',w'.heap=w.heap→(Builtin.firstCells i.size m u).run P w' = .ok news.toArray w') (h1:ones news=true)
  (hl : ∀ w,(Builtin.lenOf u).run P w = .ok m w) (hg:n+m≤cap) (hfit:n*i.size+news.length≤cs.length) :
  (Builtin.append_ #[t,t2] ty #[.slice (some ⟨b,0,none⟩) n cap,u]).run P w = .ok (.slice (some ⟨b,0,none⟩) (n+m) cap) (w.setRow b (splice cs (n*i.size) news).toArray):=by
 have hst:=storeCells_obj (P:=P) (off:=n*i.size) hb hfit h1
 have hn':=hn w rfl
 simp [Builtin.append_,run_underlying ht,run_underlying ht2,sizeOf,typeInfo,hi,hl,hg,hn',add_mk,hst,splice]

theorem o_app {α:Type} [GoTy α] {t t2 e e2 bytes:Nat} {y z:Operand} {v u:Value} {xs ys:List α} {zs:List Value} (o:OR) {Mr:Own} [ht:SlTy x.P t e] [ht2:SlTy x.P t2 e2] [hb:Inf x.P e zs (GoTy.sz α) bytes]
  (hv:IsOwn (GoTy.sz α) v xs.length o) (hlen:(2*(xs.length+ys.length)+200)*bytes≤281474976710656∧xs.length+ys.length<9223372036854775807∧zs.length=GoTy.sz α)
  (hdN:Nat.blt d x.N=true) (hg:gd ops L g=some true) (hy:ev L y=some v) (hz':ev L z=some u) (hrow:Ent' Φ (fRow (ocells o) xs)) (hu:Ent' Φ (fRp u ys)) (hM:M.Perm (ownM e o++Mr))
  (h : ∀ v' o',IsOwn (GoTy.sz α) v' (xs++ys).length o'→G x (fRow (ocells o') (xs++ys)::Φ) ((d,v')::L) (ownM e o'++Mr) K):OpK x ops Q ⟨some d,.call ⟨.builtin .append,#[y,z],#[t,t2]⟩,ty,pos,af,g⟩ Φ L M K :=
 OpK.mem rfl hdN hg oI (fun I a w hp hk hw=>by
  have hw':=hw.perm hM
  have hru:=hu.h I hp
  have hrx:RowRep I (ocells o) 0 xs:=hrow.h I hp
  obtain ⟨ds,hd1,hd2,hd3,hd4⟩:=firstCells_rep (P:=x.P) (w:=w) hw.imm hru
  obtain ⟨i,zv,hi,hz,hzs,hsz,hby⟩:=hb.get
  have hl2:=lenOf_rep (P:=x.P) hru
  have base:(execOp a.eval ⟨some d,.call ⟨.builtin .append,#[y,z],#[t,t2]⟩,ty,pos,af,g⟩).run x.P w=((Builtin.append_ #[t,t2] ty #[v,u]).run x.P w).andThen fun r w' => .ok (.value r) w':=by
   simp [execOp,resolve,hk.eval hy,hk.eval hz',invoke,builtin,Sem.run_bind,Result.andThen,Sem.run_pure]
  rw [← hsz] at hd1
  have grow : ∀ (ba:Option Addr) (cap:Nat) (old:List Value),v = .slice ba xs.length cap→cap<xs.length+ys.length→(∀ w',w'.heap=w.heap→(Builtin.firstCells i.size xs.length v).run x.P w' = .ok old.toArray w')→old.length=xs.length*GoTy.sz α→RowRep I old 0 xs →
    ∃ v' w' Φ' M' I',(execOp a.eval ⟨some d,.call ⟨.builtin .append,#[y,z],#[t,t2]⟩,ty,pos,af,g⟩).run x.P w = .ok (.value v') w'∧(∀ φ∈Φ',φ.p I')∧Wd x.E I' M' w'∧G x Φ' ((d,v')::L) M' K:=by
   intro ba cap old hve hcap hold holdl hrold
   subst hve
   have hncap:Builtin.nextslicecap (xs.length+ys.length) cap*i.bytes≤281474976710656:=by
    rw [hby]
    exact Nat.le_trans (Nat.mul_le_mul_right bytes (nextslicecap_le _ _ hcap)) hlen.1
   obtain ⟨nc,hnc,hrun⟩:=run_app_grow (ty:=ty) ht.h ht2.h hi hz hold hd1 hl2 hcap oM hncap
   have hzl:(Builtin.zeroCells zv.cells (nc-(xs.length+ys.length))).toList.length=(nc-(xs.length+ys.length))*GoTy.sz α:=by
    rw [Array.length_toList,size_zeroCells,← Array.length_toList,cells_toList,hzs,hlen.2.2]
   have hcl:(old++ds++(Builtin.zeroCells zv.cells (nc-(xs.length+ys.length))).toList).length=nc*GoTy.sz α:=by
    rw [List.length_append,List.length_append,hzl,holdl,hd2,← Nat.add_mul,← Nat.add_mul]
    congr 1
    omega
   refine ⟨_,_,fRow (old++ds++(Builtin.zeroCells zv.cells (nc-(xs.length+ys.length))).toList) (xs++ys)::Φ,(w.heap.size,Ob (old++ds++(Builtin.zeroCells zv.cells (nc-(xs.length+ys.length))).toList) e)::Mr,I,by rw [base,hrun];rfl,?_,?_,?_⟩
   ·intro φ hφ
    rcases List.mem_cons.1 hφ with rfl|hφ
    ·exact hrold.append holdl hd3
    ·exact hp φ hφ
   ·exact (Wd.alloc (Wd.drew (hw'.sub (List.sublist_append_right _ _))) _)
   ·exact h _ (some (w.heap.size,_)) ⟨nc,by simp,hcl,by simp;omega⟩
  cases o with
  | none =>
   obtain ⟨rfl,hx0⟩:=hv
   have hxs:xs=[]:=List.length_eq_zero_iff.1 hx0
   subst hxs
   by_cases hy0:ys=[]
   ·-- nothing is appended to nil: nil
    subst hy0
    have hrun:(Builtin.append_ #[t,t2] ty #[.slice none 0 0,u]).run x.P w = .ok (.slice none 0 0) w:=by
     have hn':=hd1 w rfl
     have hds:ds=[]:=List.length_eq_zero_iff.1 (by simpa using hd2)
     subst hds
     simp at hn' hl2
     simp [Builtin.append_,run_underlying ht.h,run_underlying ht2.h,sizeOf,typeInfo,hi,hl2,hn']
    refine ⟨_,_,fRow [] ([]:List α)::Φ,_,I,by rw [base,hrun];rfl,?_,hw',h _ none ⟨rfl,by simp⟩⟩
    intro φ hφ
    rcases List.mem_cons.1 hφ with rfl|hφ
    ·exact ⟨by simp,fun k hk=>by cases hk⟩
    ·exact hp φ hφ
   ·exact grow none 0 [] oI (by have:=List.length_pos_iff.2 hy0;simp;omega) (fun w' _=>by simp [Builtin.firstCells,Sem.run_pure]) oI ⟨by simp,fun k hk=>by cases hk⟩
  | some p =>
   obtain ⟨b,cs⟩:=p
   obtain ⟨cap,rfl,hcs,hle⟩:=hv
   have hbk:w.heap[b]? = some (Ob cs e):=hw'.own (b,Ob cs e) (by simp [ownM])
   have hxle:xs.length*GoTy.sz α≤cs.length:=by rw [hcs];exact Nat.mul_le_mul_right _ hle
   by_cases hroom:xs.length+ys.length≤cap
   ·have hfit:xs.length*i.size+ds.length≤cs.length:=by
     rw [hsz,hd2,← Nat.add_mul,hcs];exact Nat.mul_le_mul_right _ hroom
    have hrun:=run_app_room (ty:=ty) ht.h ht2.h hi hbk hd1 hd4 hl2 hroom hfit
    rw [hsz] at hrun hfit
    have hw2:Wd x.E I ((b,Ob (splice cs (xs.length*GoTy.sz α) ds) e)::Mr) (w.setRow b (splice cs (xs.length*GoTy.sz α) ds).toArray):=by
     have hw3:Wd x.E I ((b,Ob cs e)::Mr) w:=hw'
     exact Wd.setRow (cs:=cs) (t:=e) hw3
    refine ⟨_,_,fRow (splice cs (xs.length*GoTy.sz α) ds) (xs++ys)::Φ,_,I,by rw [base,hrun];rfl,?_,hw2,?_⟩
    ·intro φ hφ
     rcases List.mem_cons.1 hφ with rfl|hφ
     ·have:=(hrx.cut).append (by rw [List.length_take];exact Nat.min_eq_left hxle) hd3 (rest:=cs.drop (xs.length*GoTy.sz α+ds.length))
      exact this
     ·exact hp φ hφ
    ·refine h _ (some (b,_)) ⟨cap,by simp,?_,by simpa using hroom⟩
     simp only [splice,List.length_append,List.length_take,List.length_drop]
     rw [Nat.min_eq_left hxle,← hcs];omega
   ·refine grow (some ⟨b,0,none⟩) cap (cs.take (xs.length*GoTy.sz α)) rfl oM (fun w' hw'' => ?_) oX hrx.cut
    simp only [Builtin.firstCells,hsz]
    have:=loadCells_obj (P:=x.P) (w:=w') (b:=b) (off:=0) (n:=xs.length*GoTy.sz α) (by rw [hw''];exact hbk) (by simpa using hxle)
    simpa using this)
end
end Go.Rail
set_option linter.unusedSimpArgs false
set_option linter.unusedVariables false
namespace Go.Rail
open Go
theorem RpL.nil {α:Type} [GoTy α] {Φ:List Fa}:RpL (α:=α) Φ [] []:=trivial
section
variable {x:Cx} {Q:Exit→Act→World→Prop} {Φ:List Fa} {L:Env} {M:Own} {ops:Array Oper} {K:Act→World→Prop}
variable {d:Nat} {ty:TypeId} {pos:String} {af:Array Edge} {g:Option (Nat × Bool)}
theorem G.giveOwn {α:Type} [GoTy α] {F:Act→World→Prop} (v:Value) (xs:List α) (o:OR) (e:TypeId) {Mr:Own} (hv:IsOwn (GoTy.sz α) v xs.length o) (hrow:Ent' Φ (fRow (ocells o) xs)) (hM:M.Perm (ownM e o++Mr)) (h:G x (fRp v xs::Φ) L Mr F):G x Φ L M F:=by
 intro I a w hp hk hw
 have hw':=hw.perm hM
 have hr:RowRep I (ocells o) 0 xs:=hrow.h I hp
 cases o with
 | none =>
  obtain ⟨rfl,hx0⟩:=hv
  have hxs:xs=[]:=List.length_eq_zero_iff.1 hx0
  subst hxs
  refine h I a w ?_ hk hw'
  intro φ hφ
  rcases List.mem_cons.1 hφ with rfl|hφ
  ·exact Rp.nil none 0
  ·exact hp φ hφ
 | some q =>
  obtain ⟨b,cs⟩:=q
  obtain ⟨cap,rfl,hcs,hle⟩:=hv
  have hw2:Wd x.E I ((b,Ob cs e)::Mr) w:=hw'
  have hn:I b=none:=hw2.sep (b,Ob cs e) oI
  refine h _ a w ?_ hk hw2.give
  intro φ hφ
  rcases List.mem_cons.1 hφ with rfl|hφ
  ·refine Rp.mkSlice ⟨hle,fun _=>⟨⟨b,0,none⟩,cs.toArray,e,(0,0),rfl,rfl,?_,?_⟩⟩ rfl
   ·simp [Ob]
   ·have hr:RowRep I cs 0 xs:=hr
    exact (by simpa using hr:RowRep I cs.toArray.toList 0 xs).mono (Le.give hn)
  ·exact φ.mono _ _ (Le.give hn) (hp φ hφ)

theorem G.giveOwn2 {α:Type} [GoTy α] {F:Act→World→Prop} (v:Value) (xs:List α) (o:OR) (e:TypeId) {Mr:Own} (hv:IsOwn (GoTy.sz α) v xs.length o) (hrow:Ent' Φ (fRow (ocells o) xs)) (hM:M.Perm (Mr++ownM e o)) (h:G x (fRp v xs::Φ) L Mr F):G x Φ L M F :=
 G.giveOwn v xs o e hv hrow (hM.trans oH) h
theorem o_app2 {α:Type} [GoTy α] {t t2 e e2 bytes:Nat} {y z:Operand} {v u:Value} {xs ys:List α} {zs:List Value} (o:OR) {Mr:Own} [ht:SlTy x.P t e] [ht2:SlTy x.P t2 e2] [hb:Inf x.P e zs (GoTy.sz α) bytes]
  (hv:IsOwn (GoTy.sz α) v xs.length o) (hlen:(2*(xs.length+ys.length)+200)*bytes≤281474976710656∧xs.length+ys.length<9223372036854775807∧zs.length=GoTy.sz α)
  (hdN:Nat.blt d x.N=true) (hg:gd ops L g=some true) (hy:ev L y=some v) (hz':ev L z=some u) (hrow:Ent' Φ (fRow (ocells o) xs)) (hu:Ent' Φ (fRp u ys)) (hM:M.Perm (Mr++ownM e o))
  (h : ∀ v' o',IsOwn (GoTy.sz α) v' (xs++ys).length o'→G x (fRow (ocells o') (xs++ys)::Φ) ((d,v')::L) (Mr++ownM e o') K):OpK x ops Q ⟨some d,.call ⟨.builtin .append,#[y,z],#[t,t2]⟩,ty,pos,af,g⟩ Φ L M K :=
 o_app (ht:=ht) (ht2:=ht2) (hb:=hb) o hv hlen hdN hg hy hz' hrow hu (hM.trans oH) (fun v' o' hv'=>G.perm (h v' o' hv') oH)

theorem G.row {α:Type} [GoTy α] [GoFlat α] {F:Act→World→Prop} (b off n cap:Nat) (xs:List α) {cs:List Value} {t:TypeId} [k:KBlk Φ b cs t] (hn:n=xs.length) (hcap:n≤cap) (hcs:(cs.drop off).take (n*GoTy.sz α)=(xs.map GoFlat.enc).flatten) (hle:off+n*GoTy.sz α≤cs.length) (hsz : ∀ y:α,(GoFlat.enc y).length=GoTy.sz α)
  (h:G x (fRp (.slice (some ⟨b,off,none⟩) n cap) xs::Φ) L M F):G x Φ L M F:=by
 subst hn
 refine G.learn (e:=⟨fun I hp => ?_⟩) _ h
 have hb:I b=some (Ob cs t):=hp _ k.h
 refine Rp.mkSlice ⟨hcap,fun _=>⟨⟨b,off,none⟩,cs.toArray,t,(0,0),rfl,rfl,hb,?_,?_⟩⟩ rfl
 ·simpa using hle
 ·intro j hj
  refine GoFlat.rep_iff.2 ?_
  unfold chunk
  have key : ∀ (ys:List α) (j:Nat) (hj:j<ys.length),(((ys.map GoFlat.enc).flatten).drop (j*GoTy.sz α)).take (GoTy.sz α)=GoFlat.enc ys[j]:=by
   intro ys
   induction ys with
   | nil=>intro j hj;cases hj
   | cons y ys ih =>
    intro j hj
    simp only [List.map_cons,List.flatten_cons]
    cases j with
    | zero =>
     simp only [Nat.zero_mul,List.drop_zero,List.getElem_cons_zero]
     rw [List.take_append_of_le_length (by rw [hsz];omega),List.take_of_length_le (by rw [hsz];omega)]
    | succ j =>
     rw [show (j+1)*GoTy.sz α=(GoFlat.enc y).length+j*GoTy.sz α from by rw [hsz,Nat.succ_mul];omega,← List.drop_drop,List.drop_left]
     simpa using ih j (by simpa using hj)
  have h1:=key xs j hj
  rw [← hcs,List.drop_take,List.drop_drop,List.take_take,Nat.min_eq_left] at h1
  ·simpa using h1
  ·have:=Nat.mul_le_mul_right (GoTy.sz α) (Nat.succ_le_of_lt hj)
   rw [Nat.succ_mul] at this;omega

def Bd (L:Env) (o:Option Operand) (dflt n:Nat):Prop:=match o with
 | none=>n=dflt
 | some y => ∃ k i,ev L y=some (.int k i)∧i=(n:Int)
theorem run_bound {P:Program} {k:IntKind} {i:Int} {n y:Nat} {c:BoundsCode} (h:i=(n:Int)) (hn:n≤y) (w:World):(Instr.sliceBound (.int k i) y c).run P w = .ok n w:=by
 subst h
 have h0:(0:Int)≤(n:Int)∧(n:Int)≤(y:Int):=by omega
 simp [Instr.sliceBound,asIntOf,Sem.run_bind,Result.andThen,Sem.run_pure,h0]
theorem run_bounds {P:Program} {isSlice:Bool} {N:Nat} {ds:List Deferred} {a:Act} (hk:Kn N L ds a) {lo hi:Option Operand} {l h len cap:Nat} (hl:Bd L lo 0 l) (hh:Bd L hi len h) (hlh:l≤h) (hhc:h≤cap) (w:World) :
  (Instr.sliceBounds isSlice len cap (lo.map a.eval) (hi.map a.eval) none).run P w = .ok (l,h,cap) w:=by
 cases hi with
 | none =>
  have hh:h=len:=hh
  subst hh
  cases lo with
  | none =>
   have hl:l=0:=hl
   subst hl
   simp [Instr.sliceBounds,Sem.run_bind,Result.andThen,Sem.run_pure]
  | some y =>
   obtain ⟨k,i,hy,e⟩:=hl
   simp [Instr.sliceBounds,Sem.run_bind,Result.andThen,Sem.run_pure,hk.eval hy,run_bound e hlh]
 | some z =>
  obtain ⟨k,i,hz,e⟩:=hh
  cases lo with
  | none =>
   have hl:l=0:=hl
   subst hl
   simp [Instr.sliceBounds,Sem.run_bind,Result.andThen,Sem.run_pure,hk.eval hz,run_bound e hhc]
  | some y =>
   obtain ⟨k',i',hy,e'⟩:=hl
   simp [Instr.sliceBounds,Sem.run_bind,Result.andThen,Sem.run_pure,hk.eval hz,hk.eval hy,run_bound e hhc,run_bound e' hlh]
theorem o_slice {α:Type} [GoTy α] {t e:TypeId} {y:Operand} {lo hi:Option Operand} {v:Value} {xs:List α} (l h:Nat) [ht:SlTy x.P t e] [hs:Siz x.P e (GoTy.sz α)] [k:KRp Φ v xs] (hdN:Nat.blt d x.N=true) (hg:gd ops L g=some true) (hy:ev L y=some v) (hl:Bd L lo 0 l) (hh:Bd L hi xs.length h) (hlh:l≤h) (hhx:h≤xs.length)
  (hG : ∀ v',G x (fRp v' ((xs.take h).drop l)::Φ) ((d,v')::L) M K):OpK x ops Q ⟨some d,.slice t y lo hi none,ty,pos,af,g⟩ Φ L M K :=
 OpK.mem rfl hdN hg oI (fun I a w hp hk hw=>by
  obtain ⟨ad,cap,rfl,h1,h2⟩:=Rp.slice (hp _ k.h)
  have hb:=run_bounds (P:=x.P) (isSlice:=true) hk hl hh hlh (Nat.le_trans hhx h1) w
  refine ⟨.slice (if cap=l then ad else ad.map (·.add (l*GoTy.sz α))) (h-l) (cap-l),w,fRp (.slice (if cap=l then ad else ad.map (·.add (l*GoTy.sz α))) (h-l) (cap-l)) ((xs.take h).drop l)::Φ,M,I,?_,?_,hw,hG _⟩
  ·simp [execOp,Instr.sliceAt,Instr.slice,hk.eval hy,run_underlying ht.h,hs.h,hb,Sem.run_bind,Result.andThen,Sem.run_pure]
  ·intro φ hφ
   rcases List.mem_cons.1 hφ with rfl|hφ
   ·have hlen:h-l=((xs.take h).drop l).length:=by simp;omega
    refine Rp.mkSlice ⟨by rw [← hlen];omega,fun hne => ?_⟩ hlen
    have hpos:0<h-l:=by rw [hlen];exact List.length_pos_iff.2 hne
    obtain ⟨⟨b,off,sp⟩,c,t',fr,rfl,hsp,hbk,hr⟩:=h2 (by intro e;subst e;simp at hne)
    simp only at hsp hbk hr
    subst hsp
    rw [if_neg oM]
    refine ⟨⟨b,off+l*GoTy.sz α,none⟩,c,t',fr,?_,rfl,hbk,?_⟩
    ·simp [add_mk]
    ·exact (hr.take h).drop l oX
   ·exact hp φ hφ)
theorem o_cutO {t e:TypeId} {y:Operand} {hi:Option Operand} {b n cap:Nat} (h:Nat) {sz:Nat} [ht:SlTy x.P t e] [hs:Siz x.P e sz] (hdN:Nat.blt d x.N=true) (hg:gd ops L g=some true) (hy:ev L y=some (.slice (some ⟨b,0,none⟩) n cap)) (hh:Bd L hi n h) (hhx:h≤cap)
  (hG:G x Φ ((d,.slice (some ⟨b,0,none⟩) h cap)::L) M K):OpK x ops Q ⟨some d,.slice t y none hi none,ty,pos,af,g⟩ Φ L M K :=
 OpK.val rfl hdN hg oI (fun I a w hp hk hw=>by
  have hb:=run_bounds (P:=x.P) (isSlice:=true) (l:=0) (lo:=none) hk rfl hh (Nat.zero_le _) hhx w
  have hb':(Instr.sliceBounds true n cap none (hi.map a.eval) none).run x.P w = .ok (0,h,cap) w:=hb
  simp [execOp,Instr.sliceAt,Instr.slice,hk.eval hy,run_underlying ht.h,hs.h,hb',Sem.run_bind,Result.andThen,Sem.run_pure,add_mk]) hG
theorem o_tailO {t e:TypeId} {y z:Operand} {b off n cap:Nat} (l o':Nat) {sz:Nat} {k:IntKind} {i:Int} [ht:SlTy x.P t e] [hs:Siz x.P e sz] (hdN:Nat.blt d x.N=true) (hg:gd ops L g=some true) (hy:ev L y=some (.slice (some ⟨b,off,none⟩) n cap)) (hz:ev L z=some (.int k i)) (hi:i=(l:Int)) (hl:l≤n) (hlc:l<cap) (hnc:n≤cap) (ho:off+l*sz=o')
  (hG:G x Φ ((d,.slice (some ⟨b,o',none⟩) (n-l) (cap-l))::L) M K):OpK x ops Q ⟨some d,.slice t y (some z) none none,ty,pos,af,g⟩ Φ L M K :=
 OpK.val rfl hdN hg oI (fun I a w hp hk hw=>by
  have hb:=run_bounds (P:=x.P) (isSlice:=true) (lo:=some z) (hi:=none) (len:=n) (h:=n) hk ⟨k,i,hz,hi⟩ rfl hl hnc w
  have hb':(Instr.sliceBounds true n cap (some (a.eval z)) none none).run x.P w = .ok (l,n,cap) w:=hb
  subst ho
  simp [execOp,Instr.sliceAt,Instr.slice,hk.eval hy,run_underlying ht.h,hs.h,hb',Sem.run_bind,Result.andThen,Sem.run_pure,add_mk,show ¬ cap=l from by omega]) hG
theorem o_sliceA {t e n sz:Nat} {y:Operand} {b off:Nat} [ht:ArTy x.P t n e] [hs:Siz x.P e sz] (hdN:Nat.blt d x.N=true) (hg:gd ops L g=some true) (hy:ev L y=some (.pointer (some ⟨b,off,none⟩)))
  (hG:G x Φ ((d,.slice (some ⟨b,off,none⟩) n n)::L) M K):OpK x ops Q ⟨some d,.slice t y none none none,ty,pos,af,g⟩ Φ L M K :=
 OpK.val rfl hdN hg oI (fun I a w hp hk hw=>by
  have hb:=run_bounds (P:=x.P) (isSlice:=false) (lo:=none) (hi:=none) (l:=0) (len:=n) (h:=n) (cap:=n) hk rfl rfl (Nat.zero_le _) (Nat.le_refl _) w
  have hb':(Instr.sliceBounds false n n none none none).run x.P w = .ok (0,n,n) w:=hb
  simp [execOp,Instr.sliceAt,Instr.sureAddr,hk.eval hy,run_underlying ht.h,hs.h,hb',Sem.run_bind,Result.andThen,Sem.run_pure,add_mk]) hG
theorem o_cap {t e:TypeId} {y:Operand} {ad:Option Addr} {n cap:Nat} [ht:SlTy x.P t e] (hdN:Nat.blt d x.N=true) (hg:gd ops L g=some true) (hy:ev L y=some (.slice ad n cap))
  (h:G x Φ ((d,.int .i64 cap)::L) M K):OpK x ops Q ⟨some d,.call ⟨.builtin .cap,#[y],#[t]⟩,ty,pos,af,g⟩ Φ L M K :=
 OpK.val rfl hdN hg oI (fun I a w hp hk hw=>by
  simp [execOp,resolve,hk.eval hy,invoke,builtin,Builtin.cap_,run_underlying ht.h,goInt,Sem.run_bind,Result.andThen,Sem.run_pure]) h
theorem o_min {ts:Array TypeId} {y z:Operand} {k k':IntKind} {p q:Int} {v:Value} (hdN:Nat.blt d x.N=true) (hg:gd ops L g=some true) (hy:ev L y=some (.int k p)) (hz:ev L z=some (.int k' q)) (hv:Value.int k (if q<p then q else p)=v)
  (h:G x Φ ((d,v)::L) M K):OpK x ops Q ⟨some d,.call ⟨.builtin .min,#[y,z],ts⟩,ty,pos,af,g⟩ Φ L M K :=
 OpK.val rfl hdN hg oI (fun I a w hp hk hw=>by
  subst hv
  simp [execOp,resolve,hk.eval hy,hk.eval hz,invoke,builtin,Builtin.min_,Builtin.min2,Sem.run_bind,Result.andThen,Sem.run_pure]) h
theorem o_max {ts:Array TypeId} {y z:Operand} {k k':IntKind} {p q:Int} {v:Value} (hdN:Nat.blt d x.N=true) (hg:gd ops L g=some true) (hy:ev L y=some (.int k p)) (hz:ev L z=some (.int k' q)) (hv:Value.int k (if p<q then q else p)=v)
  (h:G x Φ ((d,v)::L) M K):OpK x ops Q ⟨some d,.call ⟨.builtin .max,#[y,z],ts⟩,ty,pos,af,g⟩ Φ L M K :=
 OpK.val rfl hdN hg oI (fun I a w hp hk hw=>by
  subst hv
  simp [execOp,resolve,hk.eval hy,hk.eval hz,invoke,builtin,Builtin.max_,Builtin.max2,Sem.run_bind,Result.andThen,Sem.run_pure]) h

theorem o_idxO {t e:TypeId} {y z:Operand} {k:IntKind} {b off n cap sz:Nat} {i:Int} {o':Nat} [ht:SlTy x.P t e] [hs:Siz x.P e sz] (hdN:Nat.blt d x.N=true) (hg:gd ops L g=some true) (hy:ev L y=some (.slice (some ⟨b,off,none⟩) n cap)) (hz:ev L z=some (.int k i)) (h0:0≤i) (hi:i<n) (ho:off+i.toNat*sz=o')
  (h:G x Φ ((d,.pointer (some ⟨b,o',none⟩))::L) M K):OpK x ops Q ⟨some d,.indexAddr t y z,ty,pos,af,g⟩ Φ L M K :=
 OpK.val rfl hdN hg oI (fun I a w hp hk hw=>by
  subst ho
  simp [execOp,Instr.indexAt,asIntOf,hk.eval hy,hk.eval hz,Sem.run_bind,Result.andThen,Sem.run_pure,run_underlying ht.h,hs.h,add_mk,h0,hi]) h
theorem o_loadO {α:Type} [GoTy α] [GoFlat α] {t:TypeId} {y:Operand} {b off e:Nat} {cs:List Value} {xs:List α} {ag:Bool} (k:Nat) (hk':k<xs.length) [ha:IsAg x.P t ag] [hs:Siz x.P t (GoTy.sz α)] [hh:Holds Φ M b cs e] [hr:KRow Φ cs xs] {u:Value} [vo:ValOf xs[k] u] (hdN:Nat.blt d x.N=true) (hg:gd ops L g=some true) (hy:ev L y=some (.pointer (some ⟨b,off,none⟩))) (hag:GoTy.agg α=ag) (ho:off=k*GoTy.sz α)
  (h:G x Φ ((d,u)::L) M K):OpK x ops Q ⟨some d,.load t y,ty,pos,af,g⟩ Φ L M K:=by
 have hu:=vo.h
 subst hu
 exact OpK.val rfl hdN hg oI (fun I a w hp hk hw=>by
  subst ho
  have hb:=hh.h _ _ _ hp hw
  have hrow:RowRep I cs 0 xs:=hp _ hr.h
  have hc:=GoFlat.rep_iff.1 (hrow.2 k hk')
  unfold chunk at hc
  rw [Nat.zero_add] at hc
  have hle:k*GoTy.sz α+GoTy.sz α≤cs.length:=by
   have h1:=hrow.1
   have:=Nat.mul_le_mul_right (GoTy.sz α) (Nat.succ_le_of_lt hk')
   rw [Nat.succ_mul] at this;omega
  rw [GoFlat.val_eq,hag]
  cases ag with
  | true =>
   have:=run_loadVarA (P:=x.P) ha.h hs.h hb hle hc
   simp [execOp,Instr.loadAt,Instr.sureAddr,hk.eval hy,Sem.run_bind,Result.andThen,Sem.run_pure,this,mkv]
  | false =>
   have h1:GoTy.sz α=1:=GoTy.agg1 hag
   rw [h1] at hc hle hy
   have hv:cs[k*1]? = some ((GoFlat.enc xs[k]).headD undef):=by
    rw [← hc]
    have hlt:k<cs.length:=by omega
    simp [List.take_one,List.head?_drop,hlt]
   have:=run_loadVar1 (P:=x.P) ha.h (cell_Ob hb hv)
   simp at this
   simp [execOp,Instr.loadAt,Instr.sureAddr,hk.eval hy,Sem.run_bind,Result.andThen,Sem.run_pure,this,mkv]) h

theorem RowRep.put {α:Type} [GoTy α] {I:Imm} {cs vs:List Value} {xs:List α} {z:α} {k:Nat} (h:RowRep I cs 0 xs) (hk:k<xs.length) (hz:GoTy.rep I vs z):RowRep I (splice cs (k*GoTy.sz α) vs) 0 (xs.set k z):=by
 have hl:=GoTy.len hz
 have hle:k*GoTy.sz α+GoTy.sz α≤cs.length:=by
  have h1:=h.1
  have:=Nat.mul_le_mul_right (GoTy.sz α) (Nat.succ_le_of_lt hk)
  rw [Nat.succ_mul] at this;omega
 have hlen:(splice cs (k*GoTy.sz α) vs).length=cs.length:=by simp [splice,hl];omega
 refine ⟨by rw [hlen];simpa using h.1,fun j hj => ?_⟩
 have hj':j<xs.length:=by simpa using hj
 have hjl:j*GoTy.sz α+GoTy.sz α≤cs.length:=by
  have h1:=h.1
  have:=Nat.mul_le_mul_right (GoTy.sz α) (Nat.succ_le_of_lt hj')
  rw [Nat.succ_mul] at this;omega
 unfold chunk
 rw [Nat.zero_add]
 rcases Nat.lt_trichotomy j k with e|e|e
 ·rw [List.getElem_set_ne oM]
  have hjk:j*GoTy.sz α+GoTy.sz α≤k*GoTy.sz α:=by have:=Nat.mul_le_mul_right (GoTy.sz α) (Nat.succ_le_of_lt e);rw [Nat.succ_mul] at this;omega
  have hc:=h.2 j hj'
  unfold chunk at hc
  rw [Nat.zero_add] at hc
  unfold splice
  rw [List.append_assoc,List.drop_append_of_le_length oX,List.take_append_of_le_length oX,List.drop_take,List.take_take,Nat.min_eq_left oM]
  exact hc
 ·subst e
  rw [List.getElem_set_self]
  unfold splice
  rw [List.append_assoc,show List.drop (j*GoTy.sz α) (List.take (j*GoTy.sz α) cs++(vs++List.drop (j*GoTy.sz α+vs.length) cs))=vs++List.drop (j*GoTy.sz α+vs.length) cs from by
   conv=>lhs;rw [show j*GoTy.sz α=(List.take (j*GoTy.sz α) cs).length from by simp;omega]
   rw [show (List.take (List.take (j*GoTy.sz α) cs).length cs)=List.take (j*GoTy.sz α) cs from by simp,List.drop_left]
   simp;congr 1;omega]
  rw [List.take_append_of_le_length oM,List.take_of_length_le oM]
  exact hz
 ·rw [List.getElem_set_ne oM]
  have hjk:k*GoTy.sz α+GoTy.sz α≤j*GoTy.sz α:=by have:=Nat.mul_le_mul_right (GoTy.sz α) (Nat.succ_le_of_lt e);rw [Nat.succ_mul] at this;omega
  have hc:=h.2 j hj'
  unfold chunk at hc
  rw [Nat.zero_add] at hc
  unfold splice
  have hl2:(List.take (k*GoTy.sz α) cs++vs).length=k*GoTy.sz α+GoTy.sz α:=by simp [hl];omega
  rw [show j*GoTy.sz α=(List.take (k*GoTy.sz α) cs++vs).length+(j*GoTy.sz α-(k*GoTy.sz α+GoTy.sz α)) from by rw [hl2];omega,← List.drop_drop,List.drop_left,List.drop_drop,hl]
  rw [show k*GoTy.sz α+GoTy.sz α+(j*GoTy.sz α-(k*GoTy.sz α+GoTy.sz α))=j*GoTy.sz α from by omega]
  exact hc
theorem o_storeO {α:Type} [GoTy α] {t:TypeId} {y z:Operand} {b off e:Nat} {cs:List Value} {xs:List α} {v:Value} (u:α) {Mr:Own} (k:Nat) (hk':k<xs.length) [hs:Siz x.P t (GoTy.sz α)] [m:MDel M b (Ob cs e) Mr] [hr:KRow Φ cs xs] (hg:gd ops L g=some true) (hy:ev L y=some (.pointer (some ⟨b,off,none⟩))) (hz:ev L z=some v) (hu:Ent' Φ (fRp v u)) (ho:off=k*GoTy.sz α)
  (h : ∀ cs',cs'.length=cs.length→G x (fRow cs' (xs.set k u)::Φ) L ((b,Ob cs' e)::Mr) K):OpK x ops Q ⟨none,.store t y z,ty,pos,af,g⟩ Φ L M K :=
 OpK.mem0 rfl hg oI (fun I a w hp hk hw=>by
  subst ho
  have hw':=hw.perm m.h
  have hb:=hw'.own (b,Ob cs e) oI
  have hrow:RowRep I cs 0 xs:=hp _ hr.h
  have hru:Rp I v u:=hu.h I hp
  have hrep:=hru.cells
  have hl:=GoTy.len hrep
  have hle:k*GoTy.sz α+GoTy.sz α≤cs.length:=by
   have h1:=hrow.1
   have:=Nat.mul_le_mul_right (GoTy.sz α) (Nat.succ_le_of_lt hk')
   rw [Nat.succ_mul] at this;omega
  have hst:=run_storeVar (P:=x.P) (v:=v) hs.h hb rfl hl hle (GoTy.one hrep)
  have hsp:cs.take (k*GoTy.sz α)++cellsL v++cs.drop (k*GoTy.sz α+GoTy.sz α)=splice cs (k*GoTy.sz α) (cellsL v):=by rw [splice,hl]
  rw [hsp] at hst
  have hlen:(splice cs (k*GoTy.sz α) (cellsL v)).length=cs.length:=by simp [splice,hl];omega
  refine ⟨w.setRow b (splice cs (k*GoTy.sz α) (cellsL v)).toArray,_,(b,Ob (splice cs (k*GoTy.sz α) (cellsL v)) e)::Mr,I,?_,?_,Wd.setRow (cs:=cs) (t:=e) hw',h _ hlen⟩
  ·simp [execOp,Instr.storeAt,Instr.sureAddr,hk.eval hy,hk.eval hz,Sem.run_bind,Result.andThen,Sem.run_pure,hst]
  ·intro φ hφ
   rcases List.mem_cons.1 hφ with rfl|hφ
   ·exact hrow.put hk' hrep
   ·exact hp φ hφ)

theorem o_litM {α:Type} [GoTy α] {t e n:Nat} {parts:List (Nat × Operand)} {vs:List Value} {xs:List α} {zs:List Value} [ht:SlTy x.P t e] [hs:Siz x.P e (GoTy.sz α)] [hz:Zer x.P e zs] (hsz:n*GoTy.sz α≤16777216∧zs.length=GoTy.sz α∧0<GoTy.sz α) (hdN:Nat.blt d x.N=true) (hg:gd ops L g=some true)
  (hv:evSeq L 0 parts=some vs) (hx:RpL Φ vs xs) (hn:xs.length=n) (h : ∀ b cs,cs.length=n*GoTy.sz α→G x (fRow cs xs::Φ) ((d,.slice (some ⟨b,0,none⟩) n n)::L) ((b,Ob cs e)::M) K):OpK x ops Q ⟨some d,.buildSlice t n parts.toArray,ty,pos,af,g⟩ Φ L M K :=
 OpK.mem rfl hdN hg oI (fun I a w hp hk hw=>by
  obtain ⟨e1,e2,e3⟩:=RpL.cells hp hx
  obtain ⟨zv,hzr,hzs⟩:=hz.h w
  have hzc:zv.cells.size=GoTy.sz α:=by rw [← Array.length_toList,cells_toList,hzs];exact hsz.2.1
  have hcl:((vs.map cellsL).flatten).length=n*GoTy.sz α:=by
   rw [List.length_flatten,List.map_map]
   have:vs.map (List.length ∘ cellsL)=vs.map fun _=>GoTy.sz α:=List.map_congr_left fun v hv=>e2 v hv
   rw [this,List.map_const',List.sum_replicate_nat,e1,hn]
  let o:Obj:=Ob ((vs.map cellsL).flatten) e
  have hfill : ∀ c:Array Value,c.size=n*GoTy.sz α→Instr.fill (fun i=>some (i*GoTy.sz α,GoTy.sz α)) c (vs.zipIdx 0 |>.map fun p=>(p.2,p.1))=some ((vs.map cellsL).flatten).toArray:=by
   intro c hc
   have:=fill_seq (GoTy.sz α) vs 0 [] c.toList oI (by simp [hc,e1,hn]) e2
   simpa using this
  have hrun:(execOp a.eval ⟨some d,.buildSlice t n parts.toArray,ty,pos,af,g⟩).run x.P w = .ok (.value (.slice (some ⟨w.heap.size,0,none⟩) n n)) (w.alloc o):=by
   have hev:(parts.toArray.map fun (x:Nat × Operand)=>match x with|(i,x)=>(i,a.eval x)).toList=(vs.zipIdx 0 |>.map fun p=>(p.2,p.1)):=by
    rw [← evSeq_zip hk hv];simp
   simp only [execOp,Instr.buildSlice,Sem.run_bind,run_underlying ht.h,hs.h,Result.andThen_ok]
   rw [if_neg oM]
   by_cases h0:n*GoTy.sz α=0
   ·simp only [h0,if_true,Sem.run_pure,Sem.run_bind,Result.andThen_ok,hev]
    have:=hfill (Array.map (fun x=>(#[]:Array Value)[x%(#[]:Array Value).size]!) (Array.range 0)) (by simp [h0])
    rw [this]
    simp [newRow,Sem.run_bind,Result.andThen,Sem.run_pure,o,Ob]
   ·simp only [h0,if_false,Sem.run_pure,Sem.run_bind,Result.andThen_ok,hev,hzr]
    have:=hfill (Array.map (fun x=>zv.cells[x%zv.cells.size]!) (Array.range (n*GoTy.sz α))) oI
    rw [this]
    simp [newRow,Sem.run_bind,Result.andThen,Sem.run_pure,o,Ob]
  have hw':=hw.alloc o
  refine ⟨_,w.alloc o,_,_,I,hrun,?_,hw',h w.heap.size _ hcl⟩
  intro φ hφ
  rcases List.mem_cons.1 hφ with rfl|hφ
  ·exact e3
  ·exact hp φ hφ)

end
end Go.Rail
set_option linter.unusedSimpArgs false
set_option linter.unusedVariables false
namespace Go.Rail
open Go
def dstX (l:List Oper) (j:Nat):Option Nat:=match l[j]? with
 | some o=>o.dst
 | none=>none
def putX (d:Option Nat) (v:Value) (L:Env):Env:=match d with
 | some d=>(d,v)::L
 | none=>L
def ancX (l:List Oper) (ks:List DOp) (c:Nat→Value):List Nat→Env→Env
 | [],L=>L
 | j::js,L=>putX (dstX l j) (kval ks c j) (ancX l ks c js L)
def chkDrawX (l:List Oper) (s:Nat) (as:List (List Nat)) (keys:List Nat):Bool :=
 let b:=Region.before l.toArray
 (List.range l.length).all (fun i=>(l.getD i default).after.toList.all fun e => !Region.binds .any e||Nat.blt e.on i) &&
 (List.range l.length).all (fun i=>Nat.blt i s||(List.range i).all fun j=>(b.getD i 0).testBit j) &&
 (List.range s).all (fun i=>(match (l.getD i default).dst with
  | some d => !keys.contains d&&(List.range i).all (fun j=>(l.getD j default).dst != some d)
  | none=>true)&&(as.getD i []).all fun j=>(b.getD i 0).testBit j) &&
 Nat.ble s l.length
theorem look_ancX {l:List Oper} {ks:List DOp} {c:Nat→Value} : ∀ {js:List Nat} {L:Env} {t:Nat} {v:Value},look (ancX l ks c js L) t=some v→(∃ j∈js,dstX l j=some t∧v=kval ks c j)∨look L t=some v
 | [],L,t,v,h => .inr h
 | j::js,L,t,v,h=>by
  have rest:look (ancX l ks c js L) t=some v→(∃ k∈j::js,dstX l k=some t∧v=kval ks c k)∨look L t=some v:=fun h=>by
   rcases look_ancX h with ⟨k,hk,h1,h2⟩|h
   ·exact .inl ⟨k,by simp [hk],h1,h2⟩
   ·exact .inr h
  simp only [ancX] at h
  cases hd:dstX l j with
  | none=>rw [hd] at h;exact rest h
  | some d =>
   rw [hd] at h
   simp only [putX] at h
   by_cases e:d=t
   ·subst e
    rw [look_cons_eq] at h
    exact .inl ⟨j,by simp,hd,(Option.some.inj h).symm⟩
   ·rw [look_cons_ne e] at h;exact rest h
theorem look_ancX_not {l:List Oper} {ks:List DOp} {c:Nat→Value} {t:Nat} {L:Env} : ∀ {js:List Nat},(∀ j∈js,dstX l j≠some t)→look (ancX l ks c js L) t=look L t
 | [],_=>rfl
 | j::js,h=>by
  simp only [ancX]
  cases hd:dstX l j with
  | none=>simp only [putX];exact look_ancX_not fun k hk=>h k (by simp [hk])
  | some d =>
   have hne:d≠t:=fun e=>h j oI (by rw [hd,e])
   simp only [putX]
   rw [look_cons_ne hne]
   exact look_ancX_not fun k hk=>h k (by simp [hk])
theorem look_ancX_is {l:List Oper} {ks:List DOp} {c:Nat→Value} {j t:Nat} {L:Env} (ht:dstX l j=some t) : ∀ {js:List Nat},(∀ k∈js,dstX l k=some t→k=j)→(j∈js∨look L t=some (kval ks c j))→look (ancX l ks c js L) t=some (kval ks c j)
 | [],_,h=>h.resolve_left oI
 | k::js,hu,h=>by
  simp only [ancX]
  have rest:(j∈js∨look L t=some (kval ks c j))→look (ancX l ks c js L) t=some (kval ks c j):=look_ancX_is ht (fun k hk=>hu k (by simp [hk]))
  cases hd:dstX l k with
  | none =>
   simp only [putX]
   refine rest (h.imp (fun h => ?_) id)
   rcases List.mem_cons.1 h with rfl|h
   ·rw [ht] at hd;cases hd
   ·exact h
  | some d =>
   simp only [putX]
   by_cases e:d=t
   ·subst e
    have:=hu k oI hd
    subst this
    exact look_cons_eq
   ·rw [look_cons_ne e]
    refine rest (h.imp (fun h => ?_) id)
    rcases List.mem_cons.1 h with rfl|h
    ·rw [ht] at hd;exact absurd (Option.some.inj hd).symm e
    ·exact h
theorem look_putX_ne {d:Option Nat} {v:Value} {L:Env} {t:Nat} (h:d≠some t):look (putX d v L) t=look L t:=by
 cases d with
 | none=>rfl
 | some d=>exact look_cons_ne fun e=>h (by rw [e])
theorem look_putX_eq {d:Option Nat} {v:Value} {L:Env} {t:Nat} (h:d=some t):look (putX d v L) t=some v:=by
 subst h;exact look_cons_eq
def updD (D:Nat→Bool) (i:Nat):Nat→Bool:=fun j=>if j=i then true else D j
def updC (c:Nat→Value) (i:Nat) (z:Value):Nat→Value:=fun j=>if j=i then z else c j
def Turns (x:Cx) (Q:Exit→Act→World→Prop) (l:List Oper) (ks:List DOp) (as:List (List Nat)) (Φ:List Fa) (L:Env) (MX:(Nat→Bool)→(Nat→Value)→Own) (i:Nat):Prop :=
 ∀ (D:Nat→Bool) (c:Nat→Value) (z0:Value) (Φr:List Fa) (Lr:Env) (K:Act→World→Prop),D i=false→(∀ j,((Region.before l.toArray).getD i 0).testBit j=true→D j=true)→(∀ j k,D j=true→((Region.before l.toArray).getD j 0).testBit k=true→D k=true) →
  (∀ z,G x ((ks.getD i default).facts c z++ancF ks c (as.getD i []) (Φ++Φr)) (putX (dstX l i) ((ks.getD i default).val c z) (ancX l ks c (as.getD i []) (L++Lr))) (MX (updD D i) (updC c i z)) K) →
  OpK x l.toArray Q (l.getD i default) (ancF ks c (as.getD i []) (Φ++Φr)) (ancX l ks c (as.getD i []) (L++Lr)) (MX D c) K
def AllX (x:Cx) (Q:Exit→Act→World→Prop) (l:List Oper) (ks:List DOp) (as:List (List Nat)) (Φ:List Fa) (L:Env) (MX:(Nat→Bool)→(Nat→Value)→Own):Nat→Nat→Prop
 | _,0=>True
 | i,n+1=>Turns x Q l ks as Φ L MX i∧AllX x Q l ks as Φ L MX (i+1) n
theorem AllX.at {x:Cx} {Q:Exit→Act→World→Prop} {l:List Oper} {ks:List DOp} {as:List (List Nat)} {Φ:List Fa} {L:Env} {MX:(Nat→Bool)→(Nat→Value)→Own} : ∀ {n i j:Nat},AllX x Q l ks as Φ L MX i n→i≤j→j<i+n→Turns x Q l ks as Φ L MX j
 | 0,i,j,_,h1,h2=>by omega
 | n+1,i,j,h,h1,h2=>by
  by_cases e:i=j
  ·subst e;exact h.1
  ·exact AllX.at h.2 oM oM

section
variable {x:Cx} {Q:Exit→Act→World→Prop} {Φ:List Fa} {L:Env} {M:Own}
theorem W.drawX {id:Nat} {l:List Oper} (s:Nat) (MX:(Nat→Bool)→(Nat→Value)→Own) (ks:List DOp) (as:List (List Nat)) (live:List Nat) (hm:x.P.follows .mixedOrders=true)
  (hchk:chkDrawX l s as (L.map Prod.fst)=true) (hdN:(List.range s).all (fun i=>(dstX l i).all fun d=>Nat.blt d x.N)=true) (hlive:live.all (fun j=>Nat.blt j s)=true)
  (hloc:AllL l ks 0 s) (h0 : ∀ c,M=MX (fun _=>false) c) (hops:AllX x Q l ks as Φ L MX 0 s)
  (hrest : ∀ c,LW x l.toArray Q (l.drop s) (ancF ks c live Φ) (ancX l ks c live L) (MX (fun j=>Nat.blt j s) c)):W x (.region id l.toArray true) Q Φ L M:=by
 -- the look, in words
 unfold chkDrawX at hchk
 simp only [Bool.and_eq_true,List.all_eq_true,List.mem_range,Bool.or_eq_true,Bool.not_eq_true'] at hchk
 obtain ⟨⟨⟨h1,h2⟩,h3⟩,h4⟩:=hchk
 have hs:s≤l.length:=Nat.le_of_ble_eq_true h4
 have hbk : ∀ k p,l[k]? = some p → ∀ e∈p.after.toList,Region.binds .any e=true→e.on<k:=by
  intro k p hp e he hb
  have hk:=(List.getElem?_eq_some_iff.1 hp).1
  have:=h1 k hk e (by rw [List.getD_eq_getElem?_getD,hp];exact he)
  rcases this with h|h
  ·rw [hb] at h;cases h
  ·simpa using h
 have htail : ∀ i,i<l.length→s≤i → ∀ j,j<i→((Region.before l.toArray).getD i 0).testBit j=true:=by
  intro i hi hsi j hj
  rcases h2 i hi with h|h
  ·have:i<s:=by simpa using h
   omega
  ·exact h j hj
 have hdst : ∀ i,i<s → ∀ d,dstX l i=some d→d∉L.map Prod.fst ∧ ∀ j,j<i→dstX l j≠some d:=by
  intro i hi d hd
  have hil:i<l.length:=by omega
  have hd':l[i].dst=some d:=by simpa [dstX,List.getElem?_eq_getElem hil] using hd
  have:=(h3 i hi).1
  rw [List.getD_eq_getElem?_getD,List.getElem?_eq_getElem hil,Option.getD_some,hd'] at this
  simp only [Bool.and_eq_true,Bool.not_eq_true',List.all_eq_true,List.mem_range] at this
  refine ⟨by simpa using this.1,fun j hj e => ?_⟩
  have h5:=this.2 j hj
  have hjl:j<l.length:=by omega
  rw [List.getD_eq_getElem?_getD,List.getElem?_eq_getElem hjl,Option.getD_some] at h5
  have e':l[j].dst=some d:=by simpa [dstX,List.getElem?_eq_getElem hjl] using e
  simp [e'] at h5
 have hdne : ∀ i j d,i<s→j<s→dstX l i=some d→dstX l j=some d→i=j:=by
  intro i j d hi hj h1 h2
  rcases Nat.lt_trichotomy i j with h|h|h
  ·exact absurd h1 ((hdst j hj d h2).2 i h)
  ·exact h
  ·exact absurd h2 ((hdst i hi d h1).2 j h)
 have has : ∀ i,i<s → ∀ j∈as.getD i [],((Region.before l.toArray).getD i 0).testBit j=true:=fun i hi j hj=>(h3 i hi).2 j hj
 have hanc_lt : ∀ i j,i<l.length→((Region.before l.toArray).getD i 0).testBit j=true→j<i:=by
  intro i
  induction i using Nat.strongRecOn with
  | _ i ih =>
   intro j hi hj
   obtain ⟨e,he,hb,h⟩:=(before_at l i l[i] (List.getElem?_eq_getElem hi) hbk j).1 hj
   have hlt:=hbk i l[i] (List.getElem?_eq_getElem hi) e he hb
   rcases h with h|h
   ·omega
   ·have:=ih e.on hlt j oM h;omega
 have hanc_trans : ∀ i j k,i<l.length→((Region.before l.toArray).getD i 0).testBit j=true→((Region.before l.toArray).getD j 0).testBit k=true→((Region.before l.toArray).getD i 0).testBit k=true:=by
  intro i
  induction i using Nat.strongRecOn with
  | _ i ih =>
   intro j k hi hj hk
   obtain ⟨e,he,hb,h⟩:=(before_at l i l[i] (List.getElem?_eq_getElem hi) hbk j).1 hj
   have hlt:=hbk i l[i] (List.getElem?_eq_getElem hi) e he hb
   refine (before_at l i l[i] (List.getElem?_eq_getElem hi) hbk k).2 ⟨e,he,hb,.inr ?_⟩
   rcases h with h|h
   ·rw [h];exact hk
   ·exact ih e.on hlt j k oM h hk
 -- the tail, in its order
 have tail : ∀ fuel k (listed:Array Bool) a w,listed.size=l.length→s≤k→k+fuel=l.length→(∀ j,j<l.length→listed.getD j true=decide (j<k)) →
   wpListIn (FR x.r) 0 x.P l.toArray Q (l.drop k) a w→wpAnyIn (FR x.r) 0 x.P .any l.toArray Q fuel listed a w:=by
  intro fuel
  induction fuel with
  | zero =>
   intro k listed a w hsz hk hkf hl hw
   have hk':k=l.length:=by omega
   subst hk'
   refine ⟨?_,by rw [List.drop_length] at hw;exact hw⟩
   unfold Region.ready
   rw [List.filter_eq_nil_iff]
   intro i hi
   simp only [List.size_toArray,List.mem_range] at hi
   simp [hl i hi,hi]
  | succ fuel ih =>
   intro k listed a w hsz hk hkf hl hw
   have hkl:k<l.length:=by omega
   have hready : ∀ i∈Region.ready .any l.toArray listed,i=k:=by
    intro i hi
    unfold Region.ready at hi
    simp only [List.mem_filter,List.size_toArray,List.mem_range,Bool.and_eq_true,Bool.not_eq_true'] at hi
    obtain ⟨hil,hnl,hed⟩:=hi
    rw [hl i hil] at hnl
    have hik:k≤i:=by simpa using hnl
    rcases Nat.lt_or_ge k i with hlt|hge
    ·exfalso
     have hb:=htail i hil oM k hlt
     obtain ⟨e,he,hbd,h⟩:=(before_at l i l[i] (List.getElem?_eq_getElem hil) hbk k).1 hb
     have hel:=hbk i l[i] (List.getElem?_eq_getElem hil) e he hbd
     rw [List.getElem?_toArray,List.getElem?_eq_getElem hil] at hed
     simp only [Option.map_some,Option.getD_some] at hed
     rw [← Array.all_toList,List.all_eq_true] at hed
     have h7:=hed e he
     rw [hbd] at h7
     have h8:e.on<k:=by
      have:listed.getD e.on false=true:=by simpa using h7
      have h9:listed.getD e.on true=true:=by
       rw [Array.getD_eq_getD_getElem?] at this ⊢
       cases hx:listed[e.on]? with
       | none=>rw [hx] at this;cases this
       | some b=>rw [hx] at this;simpa using this
      rw [hl e.on oM] at h9
      simpa using h9
     rcases h with h|h
     ·omega
     ·have:=hanc_lt e.on k oM h;omega
    ·omega
   refine ⟨fun hnil => ?_,fun i hi => ?_⟩
   ·exfalso
    have:k∈Region.ready .any l.toArray listed:=by
     unfold Region.ready
     simp only [List.mem_filter,List.size_toArray,List.mem_range,Bool.and_eq_true,Bool.not_eq_true']
     refine ⟨hkl,by rw [hl k hkl];simp,?_⟩
     rw [List.getElem?_toArray,List.getElem?_eq_getElem hkl]
     simp only [Option.map_some,Option.getD_some]
     rw [← Array.all_toList,List.all_eq_true]
     intro e he
     by_cases hbd:Region.binds .any e=true
     ·have:=hbk k l[k] (List.getElem?_eq_getElem hkl) e he hbd
      have h9:=hl e.on oM
      rw [hbd]
      simp only [Bool.not_true,Bool.false_or]
      rw [Array.getD_eq_getD_getElem?] at h9 ⊢
      have:e.on<listed.size:=by omega
      rw [Array.getElem?_eq_getElem this] at h9 ⊢
      simp only [Option.getD_some] at h9 ⊢
      rw [h9];simp;omega
     ·simp [hbd]
    rw [hnil] at this;cases this
   ·obtain rfl:=hready i hi
    unfold wpOpIn
    rw [List.getElem?_toArray,List.getElem?_eq_getElem hkl]
    simp only
    have hdrop:l.drop i=l[i]::l.drop (i+1):=by rw [List.drop_eq_getElem_cons hkl]
    rw [hdrop] at hw
    simp only [wpListIn] at hw
    have step : ∀ a w,wpListIn (FR x.r) 0 x.P l.toArray Q (l.drop (i+1)) a w→wpAnyIn (FR x.r) 0 x.P .any l.toArray Q fuel (listed.setIfInBounds i true) a w:=by
     intro a w h
     refine ih (i+1) _ a w (by simpa using hsz) oM oM ?_ h
     intro j hj
     rw [Array.getD_eq_getD_getElem?,Array.getElem?_setIfInBounds]
     by_cases e:i=j
     ·subst e;simp [hsz,hj]
     ·simp only [e,if_false]
      rw [← Array.getD_eq_getD_getElem?,hl j hj]
      simp;omega
    split
    ·rename_i hwt;rw [if_pos hwt] at hw;exact Oper.wpIn_mono step hw
    ·rename_i hwt;rw [if_neg hwt] at hw;exact ⟨hw.1,step _ _ hw.2⟩
 -- the quiet ones, in whatever order
 have main : ∀ fuel (listed:Array Bool) (c:Nat→Value) I a w,listed.size=l.length→(fuel=(l.length-s)+((List.range s).filter fun j => !listed.getD j true).length) →
   (∀ j,s≤j→j<l.length→listed.getD j true=false)→(∀ j,j<s→listed.getD j true=true → ∀ k,((Region.before l.toArray).getD j 0).testBit k=true→listed.getD k true=true) →
   (∀ φ∈Φ,φ.p I)→(∀ j,j<s→listed.getD j true=true → ∀ φ∈kfac ks c j,φ.p I)→a.tmps.size=x.N→a.defers=x.ds→(∀ t v,look L t=some v→a.tmps[t]? = some v) →
   (∀ j,j<s→listed.getD j true=true → ∀ d,dstX l j=some d→a.tmps[d]? = some (kval ks c j))→Wd x.E I (MX (fun j=>Nat.blt j s&&listed.getD j true) c) w→wpAnyIn (FR x.r) 0 x.P .any l.toArray Q fuel listed a w:=by
  intro fuel
  induction fuel with
  | zero =>
   intro listed c I a w hsz hf hnt hcl hpΦ hpf hN hds hL hv hw
   have hsl:l.length=s:=by omega
   have hlist : ∀ j,j<s→listed.getD j true=true:=by
    intro j hj
    cases hx:listed.getD j true with
    | true=>rfl
    | false =>
     have hm:j∈(List.range s).filter fun j => !listed.getD j true:=List.mem_filter.2 ⟨List.mem_range.2 hj,by rw [hx];rfl⟩
     have:=List.length_pos_of_mem hm
     omega
   refine tail 0 s listed a w hsz (Nat.le_refl _) oM (fun j hj => ?_) ?_
   ·rw [hlist j oM];simp;omega
   ·have hD:(fun j=>Nat.blt j s&&listed.getD j true)=fun j=>Nat.blt j s:=by
     funext j
     cases hb:Nat.blt j s with
     | false=>rfl
     | true=>rw [hlist j (by simpa using hb)];rfl
    rw [hD] at hw
    refine hrest c I a w ?_ ⟨hN,?_,hds⟩ hw
    ·intro φ hφ
     rcases mem_ancF.1 hφ with ⟨j,hj,hφ⟩|hφ
     ·have hjs:j<s:=by simpa using List.all_eq_true.1 hlive j hj
      exact hpf j hjs (hlist j hjs) φ hφ
     ·exact hpΦ φ hφ
    ·intro t v hlk
     rcases look_ancX hlk with ⟨j,hj,hjd,rfl⟩|hlk
     ·have hjs:j<s:=by simpa using List.all_eq_true.1 hlive j hj
      exact hv j hjs (hlist j hjs) _ hjd
     ·exact hL t v hlk
  | succ fuel ih =>
   intro listed c I a w hsz hf hnt hcl hpΦ hpf hN hds hL hv hw
   by_cases hall : ∀ j,j<s→listed.getD j true=true
   ·-- all quiet ones have come: the tail
    have hz:((List.range s).filter fun j => !listed.getD j true).length=0:=by
     rw [List.length_eq_zero_iff,List.filter_eq_nil_iff]
     intro j hj
     simp [hall j (by simpa using hj)]
    refine tail (fuel+1) s listed a w hsz (Nat.le_refl _) oM (fun j hj => ?_) ?_
    ·rcases Nat.lt_or_ge j s with h|h
     ·rw [hall j h];simp [h]
     ·rw [hnt j h hj];simp;omega
    ·have hD:(fun j=>Nat.blt j s&&listed.getD j true)=fun j=>Nat.blt j s:=by
      funext j
      cases hb:Nat.blt j s with
      | false=>rfl
      | true=>rw [hall j (by simpa using hb)];rfl
     rw [hD] at hw
     refine hrest c I a w ?_ ⟨hN,?_,hds⟩ hw
     ·intro φ hφ
      rcases mem_ancF.1 hφ with ⟨j,hj,hφ⟩|hφ
      ·have hjs:j<s:=by simpa using List.all_eq_true.1 hlive j hj
       exact hpf j hjs (hall j hjs) φ hφ
      ·exact hpΦ φ hφ
     ·intro t v hlk
      rcases look_ancX hlk with ⟨j,hj,hjd,rfl⟩|hlk
      ·have hjs:j<s:=by simpa using List.all_eq_true.1 hlive j hj
       exact hv j hjs (hall j hjs) _ hjd
      ·exact hL t v hlk
   ·-- some quiet one is left
    obtain ⟨m,hm,hmin⟩ : ∃ m,(m<s∧listed.getD m true=false) ∧ ∀ j,j<m → ¬ (j<s∧listed.getD j true=false):=by
     have : ∃ m,m<s∧listed.getD m true=false:=by
      apply Classical.byContradiction
      intro hc
      refine hall fun j hj => ?_
      cases hx:listed.getD j true with
      | true=>rfl
      | false=>exact absurd ⟨j,hj,hx⟩ hc
     have:=least_spec this
     exact ⟨_,this.1,fun j hj hx=>(by have:=this.2 j hx;omega)⟩
    have getD_tf : ∀ k,k<l.length→listed.getD k false=listed.getD k true:=fun k hk=>by
     have:k<listed.size:=by omega
     simp [Array.getD_eq_getD_getElem?,Array.getElem?_eq_getElem this]
    have hmready:m∈Region.ready .any l.toArray listed:=by
     have hml:m<l.length:=by omega
     unfold Region.ready
     simp only [List.mem_filter,List.size_toArray,List.mem_range,Bool.and_eq_true,Bool.not_eq_true']
     refine ⟨hml,hm.2,?_⟩
     rw [List.getElem?_toArray,List.getElem?_eq_getElem hml]
     simp only [Option.map_some,Option.getD_some]
     rw [← Array.all_toList,List.all_eq_true]
     intro e he
     by_cases hbd:Region.binds .any e=true
     ·have hlt:=hbk m l[m] (List.getElem?_eq_getElem hml) e he hbd
      rw [hbd,getD_tf e.on oM]
      simp only [Bool.not_true,Bool.false_or]
      cases hx:listed.getD e.on true with
      | true=>rfl
      | false=>exact absurd ⟨by omega,hx⟩ (hmin e.on hlt)
     ·simp [hbd]
    refine ⟨fun hnil=>(by rw [hnil] at hmready;cases hmready),fun i hi => ?_⟩
    have hi0:=hi
    unfold Region.ready at hi
    simp only [List.mem_filter,List.size_toArray,List.mem_range,Bool.and_eq_true,Bool.not_eq_true'] at hi
    obtain ⟨hil,hni,hed⟩:=hi
    have hed' : ∀ e∈l[i].after.toList,Region.binds .any e=true→listed.getD e.on true=true:=by
     intro e he hbd
     rw [List.getElem?_toArray,List.getElem?_eq_getElem hil] at hed
     simp only [Option.map_some,Option.getD_some] at hed
     rw [← Array.all_toList,List.all_eq_true] at hed
     have h7:=hed e he
     rw [hbd] at h7
     have hlt:=hbk i l[i] (List.getElem?_eq_getElem hil) e he hbd
     rw [← getD_tf e.on oM]
     simpa using h7
    have hancl : ∀ k,((Region.before l.toArray).getD i 0).testBit k=true→listed.getD k true=true:=by
     intro k hk
     obtain ⟨e,he,hbd,h⟩:=(before_at l i l[i] (List.getElem?_eq_getElem hil) hbk k).1 hk
     have hlt:=hbk i l[i] (List.getElem?_eq_getElem hil) e he hbd
     have hel:=hed' e he hbd
     rcases h with h|h
     ·rw [← h];exact hel
     ·refine hcl e.on ?_ hel k h
      rcases Nat.lt_or_ge e.on s with h|h
      ·exact h
      ·rw [hnt e.on h oM] at hel;cases hel
    have his:i<s:=by
     rcases Nat.lt_or_ge i s with h|h
     ·exact h
     ·exfalso
      have:=hancl m (htail i hil h m oM)
      rw [hm.2] at this;cases this
    -- the operation itself
    let js:=(List.range s).filter fun j=>listed.getD j true
    have hjs : ∀ j,j∈js↔j<s∧listed.getD j true=true:=by intro j;simp [js]
    have hq:=hops.at (Nat.zero_le i) oM (fun j=>Nat.blt j s&&listed.getD j true) c undef (js.flatMap (kfac ks c)) (ancX l ks c js []) (wpAnyIn (FR x.r) 0 x.P .any l.toArray Q fuel (listed.setIfInBounds i true))
    have hmemΦr : ∀ φ,φ∈js.flatMap (kfac ks c) → ∃ j,j<s∧listed.getD j true=true∧φ∈kfac ks c j:=by
     intro φ hφ
     obtain ⟨j,hj,hφ⟩:=List.mem_flatMap.1 hφ
     exact ⟨j,((hjs j).1 hj).1,((hjs j).1 hj).2,hφ⟩
    have hasl : ∀ j∈as.getD i [],j<s∧listed.getD j true=true:=fun j hj=>by
     have h1:=has i his j hj
     exact ⟨(by have:=hanc_lt i j hil h1;omega),hancl j h1⟩
    have hrun:wpOpIn (FR x.r) 0 x.P l.toArray Q i (wpAnyIn (FR x.r) 0 x.P .any l.toArray Q fuel (listed.setIfInBounds i true)) a w↔opRun x l.toArray Q (l.getD i default) (wpAnyIn (FR x.r) 0 x.P .any l.toArray Q fuel (listed.setIfInBounds i true)) a w:=by
     unfold wpOpIn opRun
     rw [List.getElem?_toArray,List.getElem?_eq_getElem hil,List.getD_eq_getElem?_getD,List.getElem?_eq_getElem hil]
     exact Iff.rfl
    rw [hrun]
    refine hq (by simp [hni]) (fun j hj => ?_) (fun j k hj hk => ?_) ?_ I a w ?_ ⟨hN,?_,hds⟩ hw
    ·have h1:=hancl j hj
     have h2:=hanc_lt i j hil hj
     rw [h1];simp;omega
    ·simp only [Bool.and_eq_true] at hj ⊢
     have hjs:j<s:=by simpa using hj.1
     have h2:=hanc_lt j k oM hk
     exact ⟨by simp;omega,hcl j hjs hj.2 k hk⟩
    ·intro z I' a' w' hp' hk' hw'
     have hloci:=hloc.at (Nat.zero_le i) oM
     let c':Nat→Value:=fun k=>if k=i then z else c k
     have hc'i:c' i=z:=by simp [c']
     have hc'j : ∀ j,j≠i→c' j=c j:=fun j hj=>by simp [c',hj]
     have hli:=hloci c c' z (fun j hj=>(hc'j j (fun e=>by subst e;have:=hanc_lt j j hil hj;omega)).symm)
     have hvi:kval ks c' i=(ks.getD i default).val c z:=by simp only [kval,hc'i];exact hli.1.symm
     have hfi:kfac ks c' i=(ks.getD i default).facts c z:=by simp only [kfac,hc'i];exact hli.2.symm
     have hoth : ∀ j,j<s→listed.getD j true=true→j≠i∧kval ks c' j=kval ks c j∧kfac ks c' j=kfac ks c j:=by
      intro j hj hjl
      have hne:j≠i:=fun e=>by subst e;rw [hni] at hjl;cases hjl
      have:=hloc.at (Nat.zero_le j) oM c c' (c j) (fun k hk=>(hc'j k (fun e=>by
       subst e
       have:=hcl j hj hjl k hk
       rw [hni] at this;cases this)).symm)
      refine ⟨hne,?_,?_⟩
      ·simp only [kval,hc'j j hne];exact this.1.symm
      ·simp only [kfac,hc'j j hne];exact this.2.symm
     have hl' : ∀ j,(listed.setIfInBounds i true).getD j true=true→j=i∨listed.getD j true=true:=by
      intro j h
      by_cases e:j=i
      ·exact .inl e
      ·rw [Array.getD_eq_getD_getElem?,Array.getElem?_setIfInBounds_ne (Ne.symm e),← Array.getD_eq_getD_getElem?] at h;exact .inr h
     have hl'' : ∀ j,listed.getD j true=true→(listed.setIfInBounds i true).getD j true=true:=by
      intro j h
      by_cases e:j=i
      ·subst e;simp [Array.getD_eq_getD_getElem?,Array.getElem?_setIfInBounds_self];split<;>rfl
      ·rw [Array.getD_eq_getD_getElem?,Array.getElem?_setIfInBounds_ne (Ne.symm e),← Array.getD_eq_getD_getElem?];exact h
     have hDu:(fun j=>Nat.blt j s&&(listed.setIfInBounds i true).getD j true)=updD (fun j=>Nat.blt j s&&listed.getD j true) i:=by
      funext j
      unfold updD
      by_cases e:j=i
      ·subst e
       have h1:(listed.setIfInBounds j true).getD j true=true:=by
        simp [Array.getD_eq_getD_getElem?,Array.getElem?_setIfInBounds_self];split<;>rfl
       rw [h1];simp [his]
      ·rw [if_neg e,Array.getD_eq_getD_getElem?,Array.getElem?_setIfInBounds_ne (Ne.symm e),← Array.getD_eq_getD_getElem?]
     have hcu:c'=updC c i z:=by
      funext k
      rfl
     rw [← hDu,← hcu] at hw'
     refine ih (listed.setIfInBounds i true) c' I' a' w' (by simpa using hsz) ?_ ?_ ?_ ?_ ?_ hk'.sz hk'.df ?_ ?_ hw'
     ·have:=filter_less (l:=List.range s) (p:=fun j => !listed.getD j true) (q:=fun j => !(listed.setIfInBounds i true).getD j true) (i:=i) List.nodup_range (by simp [his]) (by simp [hni]) (fun j=>by
       by_cases e:j=i
       ·subst e;simp [Array.getD_eq_getD_getElem?,Array.getElem?_setIfInBounds_self];split<;>rfl
       ·rw [Array.getD_eq_getD_getElem?,Array.getElem?_setIfInBounds_ne (Ne.symm e),← Array.getD_eq_getD_getElem?];simp [e])
      omega
     ·intro j hj hjl
      rw [Array.getD_eq_getD_getElem?,Array.getElem?_setIfInBounds_ne oM,← Array.getD_eq_getD_getElem?];exact hnt j hj hjl
     ·intro j hj hjl k hk
      rcases hl' j hjl with rfl|hjl
      ·exact hl'' k (hancl k hk)
      ·exact hl'' k (hcl j hj hjl k hk)
     ·intro φ hφ
      exact hp' φ (List.mem_append_right _ (mem_ancF.2 (.inr (List.mem_append_left _ hφ))))
     ·intro j hj hjl φ hφ
      rcases hl' j hjl with rfl|hjl
      ·rw [hfi] at hφ;exact hp' φ (List.mem_append_left _ hφ)
      ·rw [(hoth j hj hjl).2.2] at hφ
       exact hp' φ (List.mem_append_right _ (mem_ancF.2 (.inr (List.mem_append_right _ (List.mem_flatMap.2 ⟨j,(hjs j).2 ⟨hj,hjl⟩,hφ⟩)))))
     ·intro t v hlk
      refine hk'.val t v ?_
      have htk:=look_keys hlk
      have hnd : ∀ j,j<s→dstX l j≠some t:=fun j hj e=>(hdst j hj t e).1 htk
      rw [look_putX_ne (hnd i his),look_ancX_not fun j hj=>hnd j (hasl j hj).1]
      exact look_append_l hlk
     ·intro j hj hjl d hjd
      rcases hl' j hjl with rfl|hjl
      ·rw [hvi];refine hk'.val _ _ ?_
       exact look_putX_eq hjd
      ·rw [(hoth j hj hjl).2.1]
       refine hk'.val _ _ ?_
       rw [look_putX_ne (fun e=>(hoth j hj hjl).1 (hdne i j d his hj e hjd).symm)]
       refine look_ancX_is hjd (fun k hk e=>hdne k j d (hasl k hk).1 hj e hjd) (.inr ?_)
       rw [look_append_r (hdst j hj d hjd).1]
       exact look_ancX_is hjd (fun k hk e=>hdne k j d ((hjs k).1 hk).1 hj e hjd) (.inl ((hjs j).2 ⟨hj,hjl⟩))
    ·intro φ hφ
     rcases mem_ancF.1 hφ with ⟨j,hj,hφ⟩|hφ
     ·exact hpf j (hasl j hj).1 (hasl j hj).2 φ hφ
     ·rcases List.mem_append.1 hφ with hφ|hφ
      ·exact hpΦ φ hφ
      ·obtain ⟨j,h1,h2,h3⟩:=hmemΦr φ hφ
       exact hpf j h1 h2 φ h3
    ·intro t v hlk
     rcases look_ancX hlk with ⟨j,hj,hjd,rfl⟩|hlk
     ·exact hv j (hasl j hj).1 (hasl j hj).2 _ hjd
     ·rcases look_append hlk with hlk|hlk
      ·exact hL t v hlk
      ·rcases look_ancX hlk with ⟨j,hj,hjd,rfl⟩|hlk
       ·exact hv j ((hjs j).1 hj).1 ((hjs j).1 hj).2 _ hjd
       ·cases hlk
 intro I a w hp hk hw
 refine wpIn_region_any hm ?_
 have hD0:(fun j=>Nat.blt j s&&(Array.replicate l.toArray.size false).getD j true)=fun _=>false:=by
  funext j
  by_cases h:j<s
  ·have hjl:j<l.length:=by omega
   simp [hjl]
  ·simp [h]
 refine main l.toArray.size (Array.replicate l.toArray.size false) (fun _=>undef) I a w.drew oI ?_ ?_ ?_ hp ?_ hk.sz hk.df hk.val ?_ (by rw [hD0,← h0];exact hw.drew)
 ·have:((List.range s).filter fun j => !(Array.replicate l.toArray.size false).getD j true)=List.range s:=by
   rw [List.filter_eq_self]
   intro j hj
   have:j<l.length:=by have:=List.mem_range.1 hj;omega
   simp [this]
  rw [this];simp;omega
 ·intro j _ hj;simp [hj]
 ·intro j hj h;simp [show j<l.length from by omega] at h
 ·intro j hj h;simp [show j<l.length from by omega] at h
 ·intro j hj h;simp [show j<l.length from by omega] at h
variable {ops:Array Oper} {K:Act→World→Prop} {o:Oper}
theorem OpK.bare (h:G x Φ L M (opRun x ops Q o K)):OpK x ops Q o Φ L M K:=h
theorem OpK.back (h:OpK x ops Q o Φ L M K):G x Φ L M (opRun x ops Q o K):=h
theorem LW.bare {l:List Oper} (h:G x Φ L M (wpListIn (FR x.r) 0 x.P ops Q l)):LW x ops Q l Φ L M:=h
theorem LW.back {l:List Oper} (h:LW x ops Q l Φ L M):G x Φ L M (wpListIn (FR x.r) 0 x.P ops Q l):=h
end
theorem dnF {D:Nat→Bool} {B:Nat→Nat→Bool} (hDn : ∀ j k,D j=true→B j k=true→D k=true) {i j:Nat} (hi:D i=false) (h:B j i=true):D j=false:=by
 cases e:D j with
 | false=>rfl
 | true=>rw [hDn j i e h] at hi;cases hi
def fPure (p:Prop):Fa:=⟨undef,fun _=>p,fun _ _ _ h=>h⟩
def codeO (v:Value):OR→Value
 | none => .tuple #[v]
 | some (b,cs) => .tuple #[v,.int .i64 b,.agg cs.toArray]
def cv:Value→Value
 | .tuple a=>a.getD 0 undef
 | _=>undef
def co:Value→OR
 | .tuple a=>match a.toList with
  | [_,.int _ b,.agg cs]=>some (b.toNat,cs.toList)
  | _=>none
 | _=>none
theorem cv_code (v:Value) (o:OR):cv (codeO v o)=v:=by cases o<;>rfl
theorem co_code (v:Value) (o:OR):co (codeO v o)=o:=by cases o<;>rfl
end Go.Rail
set_option linter.unusedSimpArgs false
set_option linter.unusedVariables false
namespace Go.Rail
open Go
variable {x:Cx} {Q:Exit→Act→World→Prop} {l:List Oper} {ks:List DOp} {as:List (List Nat)} {Φ:List Fa} {L:Env} {M:Own} {i n:Nat}
theorem AllQ.mk (h:Quiet x Q l ks as Φ L M i) (t:AllQ x Q l ks as Φ L M (i+1) n):AllQ x Q l ks as Φ L M i (n+1):=⟨h,t⟩
theorem AllQ.nil:AllQ x Q l ks as Φ L M i 0:=trivial
theorem AllL.mk (h:Local l ks i) (t:AllL l ks (i+1) n):AllL l ks i (n+1):=⟨h,t⟩
theorem AllL.nil:AllL l ks i 0:=trivial
end Go.Rail
set_option linter.unusedSimpArgs false
set_option linter.unusedVariables false
namespace Go.Rail
open Go
def u64 (n:Int):UInt64:=UInt64.ofNat (n%18446744073709551616).toNat
theorem u64_toNat (n:Int):((u64 n).toNat:Int)=n%18446744073709551616:=by
 have h:(n%18446744073709551616).toNat<18446744073709551616:=by omega
 simp only [u64,UInt64.toNat_ofNat']
 rw [Nat.mod_eq_of_lt h];omega
theorem u64_wrap (n:Int):Value.int .u64 (IntKind.u64.wrap n) = .int .u64 (u64 n).toNat:=by
 rw [u64_toNat];simp [IntKind.wrap,IntKind.signed,IntKind.bits]
def u8 (n:Int):UInt8:=UInt8.ofNat (n%256).toNat
theorem u8_toNat (n:Int):((u8 n).toNat:Int)=n%256:=by
 have h:(n%256).toNat<256:=by omega
 simp only [u8,UInt8.toNat_ofNat']
 rw [Nat.mod_eq_of_lt h];omega
theorem u8_wrap (n:Int):Value.int .u8 (IntKind.u8.wrap n) = .int .u8 (u8 n).toNat:=by
 rw [u8_toNat];simp [IntKind.wrap,IntKind.signed,IntKind.bits]

def pickI (c n:Int):Int:=(if c<0 then -(c+1) else c).tmod n
theorem pickI_nn (c n:Int) (hn:0<n):0≤pickI c n∧pickI c n<n:=by
 unfold pickI
 have h:0≤(if c<0 then -(c+1) else c):=by split<;>omega
 exact ⟨Int.tmod_nonneg _ h,Int.tmod_lt_of_pos _ hn⟩

def Word.of (n:Int):Word:=if n<0 then ⟨u64 n,18446744073709551615,18446744073709551615,18446744073709551615⟩ else ⟨u64 n,0,0,0⟩
def Addr20.of (n:Int):Addr20:=⟨(if 5<pickI n 9 then 1 else 0)::List.replicate 18 0++[u8 (pickI n 9)],by simp⟩
def Key.of (a b:Int):Key:=if pickI b 5=0 then ⟨Addr20.of a,false,Word.zero⟩ else ⟨Addr20.of a,true,Word.of (pickI b 5-1)⟩

def lexN:List Nat→List Nat→Int
 | [],[]=>0
 | [],_::_ => -1
 | _::_,[]=>1
 | a::l,b::m=>if a<b then -1 else if b<a then 1 else lexN l m
def Word.code (w:Word):List Nat:=[w.d.toNat,w.c.toNat,w.b.toNat,w.a.toNat]
def Addr20.code (a:Addr20):List Nat:=a.b.map UInt8.toNat
def Key.code (k:Key):List Nat:=k.at_.code++((if k.slot then 1 else 0)::k.key.code)
def cmpW (x y:Word):Int:=lexN x.code y.code
def cmpK (x y:Key):Int:=lexN x.code y.code
def ltK (a b:Key):Prop:=cmpK a b<0
instance (a b:Key):Decidable (ltK a b):=inferInstanceAs (Decidable (cmpK a b<0))
def putR (k:Key):Bool→List Key→List Key
 | d,[]=>if d then [] else [k]
 | d,a::l=>if cmpK k a=0 then a::putR k true l else if cmpK k a<0∧d=false then k::a::putR k true l else a::putR k d l
theorem putR_length (k:Key) : ∀ (d:Bool) (xs:List Key),(putR k d xs).length≤xs.length+1
 | d,[]=>by cases d<;>simp [putR]
 | d,a::l=>by
  have h1:=putR_length k true l
  have h2:=putR_length k d l
  have h3 : ∀ (l:List Key),(putR k true l).length≤l.length:=by
   intro l
   induction l with
   | nil=>simp [putR]
   | cons a l ih=>simp only [putR];split<;>(try split)<;>simp_all
  have h3:=h3 l
  simp only [putR]
  split
  ·simp;omega
  ·split
   ·simp;omega
   ·simp;omega
instance:GoTy (Int × Int) where
 sz:=2
 agg:=true
 rep:=fun _ cs p=>cs=[.int .i64 p.1,.int .i64 p.2]
 mono:=fun _ h=>h
 len:=fun h=>by rw [h];rfl
 one:=fun h=>by rw [h];rfl
 agg1:=fun h=>by cases h
instance:GoFlat (Int × Int) where
 enc:=fun p=>[.int .i64 p.1,.int .i64 p.2]
 val:=fun p => .agg #[.int .i64 p.1,.int .i64 p.2]
 rep_iff:=Iff.rfl
 val_eq:=fun _=>rfl
instance (p:Int × Int):ValOf p (.agg #[.int .i64 p.1,.int .i64 p.2]):=⟨rfl⟩
instance:PartOf (α:=Int × Int) (β:=Int) 0 Prod.fst where
 le:=by decide
 h:=fun I cs z h=>by rw [h];rfl
instance:PartOf (α:=Int × Int) (β:=Int) 1 Prod.snd where
 le:=by decide
 h:=fun I cs z h=>by rw [h];rfl
section
variable {x:Cx} {Q:Exit→Act→World→Prop} {Φ:List Fa} {L:Env} {M:Own} {ops:Array Oper} {K:Act→World→Prop}
variable {d:Nat} {ty:TypeId} {pos:String} {af:Array Edge} {g:Option (Nat × Bool)}
theorem o_indexP {α β:Type} [i:GoTy α] [j:GoTy β] {t e:TypeId} {y z:Operand} {n m off:Nat} {k:IntKind} {q:Int} {p:Value} {u:α} [ht:ArTy x.P t n e] [hs:Siz x.P e m] [kp:KPt Φ p u] (get:α→β) [po:PartOf (α:=α) (β:=β) off get] (hdN:Nat.blt d x.N=true) (hg:gd ops L g=some true) (hy:ev L y=some p) (hz:ev L z=some (.int k q)) (h0:0≤q) (hq:q<n) (ho:q.toNat*m=off)
  (h : ∀ p',G x (fPt p' (get u)::Φ) ((d,p')::L) M K):OpK x ops Q ⟨some d,.indexAddr t y z,ty,pos,af,g⟩ Φ L M K :=
 OpK.mem rfl hdN hg oI (fun I a w hp hk hw=>by
  obtain ⟨b,o,c,t',fr,rfl,hb,hle,hr⟩:=hp _ kp.h
  subst ho
  refine ⟨.pointer (some ⟨b,o+q.toNat*m,none⟩),w,fPt (.pointer (some ⟨b,o+q.toNat*m,none⟩)) (get u)::Φ,M,I,?_,?_,hw,h _⟩
  ·simp [execOp,Instr.indexAt,Instr.sureAddr,asIntOf,hk.eval hy,hk.eval hz,Sem.run_bind,Result.andThen,Sem.run_pure,run_underlying ht.h,hs.h,add_mk,h0,hq]
  ·intro φ hφ
   rcases List.mem_cons.1 hφ with rfl|hφ
   ·have hle':=po.le
    refine ⟨b,o+q.toNat*m,c,t',fr,rfl,hb,by omega,?_⟩
    have:=po.h I _ u hr
    rw [List.drop_take,List.drop_drop,List.take_take,Nat.min_eq_left oM] at this
    exact this
   ·exact hp φ hφ)
end
end Go.Rail
