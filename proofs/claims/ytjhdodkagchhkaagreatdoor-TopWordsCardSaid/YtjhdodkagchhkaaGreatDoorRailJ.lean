/- Rows of bytes of one's own; chains of stores in drawn regions; listed variables; values of functions. -/
import Derived.Test.YtjhdodkagchhkaaGreatDoorRailA
import Derived.Test.YtjhdodkagchhkaaGreatDoorRailI
import Derived.Test.YtjhdodkagchhkaaGreatDoorRailE
import Derived.Test.YtjhdodkagchhkaaGreatDoorRailD
import Derived.Test.YtjhdodkagchhkaaGreatDoorRailF
set_option linter.unusedSimpArgs false
set_option linter.unusedVariables false
namespace Go.Rail
open Go
section
variable {x:Cx} {Q:Exit→Act→World→Prop} {Φ:List Fa} {L:Env} {M:Own} {ops:Array Oper} {K:Act→World→Prop}
variable {d:Nat} {ty:TypeId} {pos:String} {af:Array Edge} {g:Option (Nat × Bool)}
theorem o_max3 {ts:Array TypeId} {y1 y2 y3:Operand} {k:IntKind} {p q r:Int} {v:Value} (hdN:Nat.blt d x.N=true) (hg:gd ops L g=some true) (h1:ev L y1=some (.int k p)) (h2:ev L y2=some (.int k q)) (h3:ev L y3=some (.int k r)) (hv:Value.int k (max p (max q r))=v)
  (h:G x Φ ((d,v)::L) M K):OpK x ops Q ⟨some d,.call ⟨.builtin .max,#[y1,y2,y3],ts⟩,ty,pos,af,g⟩ Φ L M K :=
 OpK.val rfl hdN hg oI (fun I a w hp hk hw=>by
  have e:(if (if p<q then q else p)<r then r else (if p<q then q else p))=max p (max q r):=by
   split<;>split<;>omega
  subst hv
  rw [← e]
  simp [execOp,resolve,hk.eval h1,hk.eval h2,hk.eval h3,invoke,builtin,Builtin.max_,Builtin.max2,Sem.run_bind,Result.andThen,Sem.run_pure]) h
end
section
variable {x:Cx} {Q:Exit→Act→World→Prop} {Φ:List Fa} {L:Env} {M:Own} {l:List Oper}
theorem W.drawMx {id:Nat} {L':Env} (s j:Nat) (M1:Value→Own) (ks:List DOp) (as:List (List Nat)) (live:List Nat)
  (hd:DropR (l.take s) L L':=by (repeat (first|exact DropR.nil|(apply DropR.keep;exact rfl)|(apply DropR.drop;exact rfl))))
  (hops:AllX x Q l ks as Φ L' (mxA j M M1) 0 s)
  (hrest : ∀ c,LW x l.toArray Q (l.drop s) (ancF ks c live Φ) (ancX l ks c live L') (M1 (c j)))
  (hloc:AllL l ks 0 s:=by (repeat (first|exact AllL.nil|refine AllL.au ?_)))
  (hm:x.P.follows .mixedOrders=true:=by kernel_rfl) (hjs:Nat.blt j s=true:=by rfl) (hchk:chkDrawX l s as (L'.map Prod.fst)=true:=by kernel_rfl)
  (hdN:(List.range s).all (fun i=>(dstX l i).all fun d=>Nat.blt d x.N)=true:=by kernel_rfl) (hlive:live.all (fun j=>Nat.blt j s)=true:=by kernel_rfl) :
  W x (.region id l.toArray true) Q Φ L M:=W.keep hd.sub (W.drawX s (mxA j M M1) ks as live hm hchk hdN hlive hloc (fun c=>(mxA_f rfl).symm) hops (fun c=>by rw [mxA_t (D:=fun j=>Nat.blt j s) (show (fun j=>Nat.blt j s) j=true from hjs)];exact hrest c))
end
end Go.Rail
set_option linter.unusedSimpArgs false
set_option linter.unusedVariables false
namespace Go.Rail
open Go
structure Lnk where
 j:Nat
 k:List Nat
 M:(Nat→Value)→Own
 dep : ∀ c c':Nat→Value,(∀ i∈k,c i=c' i)→M c=M c':=by
  intro c c' h
  first
   | rfl
   | (simp only [List.mem_cons,List.not_mem_nil,or_false,forall_eq_or_imp,forall_eq] at h;simp only [h])
def mxC:List Lnk→Own→(Nat→Bool)→(Nat→Value)→Own
 | [],M0,_,_=>M0
 | n::r,M0,D,c=>bif D n.j then n.M c else mxC r M0 D c
section
variable {x:Cx} {Q:Exit→Act→World→Prop} {Φ:List Fa} {L:Env} {M0:Own}
variable {l:List Oper} {ks:List DOp} {as:List (List Nat)} {i n:Nat}
def lkOk (l:List Oper) (p:Lnk):Bool:=p.k.all fun k=>Nat.beq k p.j||bfr l p.j k
theorem dep_upd {p:Lnk} {c:Nat→Value} {i:Nat} {z:Value} (h : ∀ k∈p.k,k≠i):p.M (updC c i z)=p.M c:=p.dep _ _ fun k hk=>by simp [updC,h k hk]
def ChQ (x:Cx) (Q:Exit→Act→World→Prop) (l:List Oper) (ks:List DOp) (as:List (List Nat)) (Φ:List Fa) (L:Env) (M0:Own) (i:Nat):List Lnk→Prop
 | []=>QX1 x Q l ks as Φ L (fun _=>M0) i
 | p::r=>(Nat.beq i p.j=false∧lkOk l p=true)∧(bfr l p.j i=true∨QX1 x Q l ks as Φ L (fun c=>p.M c) i)∧(bfr l i p.j=true∨ChQ x Q l ks as Φ L M0 i r)
theorem ChQ.turns : ∀ {js:List Lnk},ChQ x Q l ks as Φ L M0 i js→Turns x Q l ks as Φ L (mxC js M0) i
 | [],h=>fun D c z0 Φr Lr K hDi hAnc hDn hK=>h c z0 Φr Lr K hK
 | p::r,⟨⟨h1,h2⟩,h3,h4⟩=>fun D c z0 Φr Lr K hDi hAnc hDn hK=>by
  have hne:=ne_of_beq h1
  cases hD:D p.j with
  | true =>
   have e1:mxC (p::r) M0 D c=p.M c:=by simp [mxC,hD]
   have hki : ∀ k∈p.k,k≠i:=by
    intro k hk e
    have hDk:D k=true:=by
     unfold lkOk at h2
     have h2:=List.all_eq_true.1 h2 k hk
     rw [Bool.or_eq_true] at h2
     rcases h2 with h|h
     ·rw [Nat.eq_of_beq_eq_true h];exact hD
     ·exact hDn p.j k hD h
    rw [e,hDi] at hDk;cases hDk
   rw [e1]
   rcases h3 with h3|h3
   ·have:=dnF (B:=fun j k=>bfr l j k) hDn hDi h3
    rw [this] at hD;cases hD
   ·refine h3 c z0 Φr Lr K (fun z => ?_)
    have:=hK z
    rwa [show mxC (p::r) M0 (updD D i) (updC c i z)=p.M c by simp only [mxC,dep_upd hki];simp [updD,hne,hD]] at this
  | false =>
   have e1:mxC (p::r) M0 D c=mxC r M0 D c:=by simp [mxC,hD]
   rw [e1]
   rcases h4 with h4|h4
   ·have:=hAnc p.j h4
    rw [this] at hD;cases hD
   ·refine ChQ.turns h4 D c z0 Φr Lr K hDi hAnc hDn (fun z => ?_)
    have:=hK z
    rwa [show mxC (p::r) M0 (updD D i) (updC c i z)=mxC r M0 (updD D i) (updC c i z) by simp [mxC,updD,hne,hD]] at this
def prvM (M0:Own):List Lnk→(Nat→Value)→Own
 | [],_=>M0
 | p::_,c=>p.M c
def prvB (l:List Oper) (i:Nat):List Lnk→Bool
 | []=>true
 | p::_=>bfr l i p.j && !Nat.beq i p.j
theorem prvM_eq {D:Nat→Bool} {c:Nat→Value} (hAnc : ∀ j,((Region.before l.toArray).getD i 0).testBit j=true→D j=true) : ∀ {js:List Lnk},prvB l i js=true→mxC js M0 D c=prvM M0 js c
 | [],_=>rfl
 | p::r,h=>by
  unfold prvB at h
  rw [Bool.and_eq_true] at h
  have:=hAnc p.j h.1
  simp [mxC,prvM,this]
def CjQ (x:Cx) (Q:Exit→Act→World→Prop) (l:List Oper) (ks:List DOp) (as:List (List Nat)) (Φ:List Fa) (L:Env) (M0:Own) (i:Nat):List Lnk→Prop
 | []=>False
 | p::r=>(Nat.beq i p.j=true∧prvB l i r=true∧QX x Q l ks as Φ L (fun c=>prvM M0 r c) (fun c z=>p.M (updC c i z)) i)∨(Nat.beq i p.j=false∧bfr l p.j i=true∧CjQ x Q l ks as Φ L M0 i r)
theorem CjQ.turns : ∀ {js:List Lnk},CjQ x Q l ks as Φ L M0 i js→Turns x Q l ks as Φ L (mxC js M0) i
 | [],h=>h.elim
 | p::r,.inl ⟨h1,h2,h3⟩=>fun D c z0 Φr Lr K hDi hAnc hDn hK=>by
  have e:i=p.j:=Nat.eq_of_beq_eq_true h1
  have e1:mxC (p::r) M0 D c=prvM M0 r c:=by
   rw [← prvM_eq (D:=D) hAnc h2]
   simp [mxC,← e,hDi]
  rw [e1]
  refine h3 c z0 Φr Lr K (fun z => ?_)
  have:=hK z
  have e2:mxC (p::r) M0 (updD D i) (updC c i z)=p.M (updC c i z):=by
   have:updD D i p.j=true:=by simp [updD,← e]
   simp only [mxC,this,cond_true]
  rwa [e2] at this
 | p::r,.inr ⟨h1,h2,h3⟩=>fun D c z0 Φr Lr K hDi hAnc hDn hK=>by
  have hne:=ne_of_beq h1
  have hD:D p.j=false:=dnF (B:=fun j k=>bfr l j k) hDn hDi h2
  have e1:mxC (p::r) M0 D c=mxC r M0 D c:=by simp [mxC,hD]
  rw [e1]
  refine CjQ.turns h3 D c z0 Φr Lr K hDi hAnc hDn (fun z => ?_)
  have:=hK z
  rwa [show mxC (p::r) M0 (updD D i) (updC c i z)=mxC r M0 (updD D i) (updC c i z) by simp [mxC,updD,hne,hD]] at this
theorem nrmC {p q:Prop} (hp:p) (s:q=p:=by
 (conv=>lhs;dsimp only [prvM,dq,dk,dm,dstX,putX,ancX,dstOf,kval,kfac,ancE,ancF,getD_z,getD_s,List.getElem?_cons_zero,List.getElem?_cons_succ,List.getElem?_nil,Option.getD_some,Option.getD_none,List.nil_append,List.cons_append,Option.getD,List.drop_succ_cons,List.drop_zero])
 all_goals exact rfl):q:=s▸hp
variable {js:List Lnk}
theorem AllX.ch (t:AllX x Q l ks as Φ L (mxC js M0) (i+1) n) (h:ChQ x Q l ks as Φ L M0 i js):AllX x Q l ks as Φ L (mxC js M0) i (n+1):=⟨h.turns,t⟩
theorem mxC_0 : ∀ (js:List Lnk) {c:Nat→Value},mxC js M0 (fun _=>false) c=M0
 | [],_=>rfl
 | p::r,c=>by simp [mxC,mxC_0 r]
theorem W.drawCh {id:Nat} {L':Env} {M:Own} (s:Nat) (p:Lnk) (js:List Lnk) (ks:List DOp) (as:List (List Nat)) (live:List Nat)
  (hd:DropR (l.take s) L L':=by (repeat (first|exact DropR.nil|(apply DropR.keep;exact rfl)|(apply DropR.drop;exact rfl))))
  (hops:AllX x Q l ks as Φ L' (mxC (p::js) M) 0 s)
  (hrest : ∀ c,LW x l.toArray Q (l.drop s) (ancF ks c live Φ) (ancX l ks c live L') (p.M c))
  (hloc:AllL l ks 0 s:=by (repeat (first|exact AllL.nil|refine AllL.au ?_)))
  (hm:x.P.follows .mixedOrders=true:=by kernel_rfl) (hjs:Nat.blt p.j s=true:=by rfl) (hchk:chkDrawX l s as (L'.map Prod.fst)=true:=by kernel_rfl)
  (hdN:(List.range s).all (fun i=>(dstX l i).all fun d=>Nat.blt d x.N)=true:=by kernel_rfl) (hlive:live.all (fun j=>Nat.blt j s)=true:=by kernel_rfl) :
  W x (.region id l.toArray true) Q Φ L M:=W.keep hd.sub (W.drawX s (mxC (p::js) M) ks as live hm hchk hdN hlive hloc (fun c=>(mxC_0 _).symm) hops (fun c=>by rw [show mxC (p::js) M (fun j=>Nat.blt j s) c=p.M c by simp [mxC,hjs]];exact hrest c))
end
end Go.Rail
set_option linter.unusedSimpArgs false
set_option linter.unusedVariables false
namespace Go.Rail
open Go
def Okd (mk:Bool) (cs:List Value) (t:TypeId):Obj := .cells cs.toArray t (bif mk then (cs.length,cs.length+1) else (0,0))
theorem Okd_f (cs:List Value) (t:TypeId):Okd false cs t=Ob cs t:=rfl
section
variable {P:Program}
theorem fr_no {w:World} {b o:Nat} {mk:Bool} {cs:List Value} {t:TypeId} (h:w.heap[b]? = some (Okd mk cs t)) (ho:o<cs.length):w.frozen? ⟨b,o,none⟩=false:=by
 cases mk<;>simp [World.frozen?,h,Okd]
 omega
theorem setRow_kd {w:World} {b:Nat} {mk:Bool} {cs cs':List Value} {t:TypeId} (h:w.heap[b]? = some (Okd mk cs t)) (hl:cs'.length=cs.length):(w.setRow b cs'.toArray).heap[b]? = some (Okd mk cs' t):=by
 rw [setRow_heap h,Okd,hl]
theorem storeCells_kd {b:Nat} {mk:Bool} {t:TypeId} : ∀ (vs:List Value) (off i:Nat) (cs:List Value) (w:World),w.heap[b]? = some (Okd mk cs t)→off+i+vs.length≤cs.length→ones vs=true →
  (storeCells ⟨b,off,none⟩ vs i).run P w = .ok () (w.setRow b (cs.take (off+i)++vs++cs.drop (off+i+vs.length)).toArray)
 | [],off,i,cs,w,hg,_,_=>by
  simp only [storeCells,List.append_nil,List.length_nil,Nat.add_zero,List.take_append_drop]
  rw [setRow_self w b cs.toArray t _ hg]
  rfl
 | v::rest,off,i,cs,w,hg,hl,h1=>by
  have hi:off+i<cs.length:=by simp at hl;omega
  have h1':v.oneCell'=true∧ones rest=true:=by simpa [ones] using h1
  have hadd:(⟨b,off,none⟩:Addr).add i=⟨b,off+i,none⟩:=add_mk _ _ _
  have hcell:w.cell? ⟨b,off+i,none⟩=some cs[off+i]:=by simp [World.cell?,hg,Okd,hi]
  have hfro:=fr_no hg hi
  have hset:w.setCell ⟨b,off+i,none⟩ v=w.setRow b (cs.set (off+i) v).toArray:=by
   rw [setCell_eq_setRow w b (off+i) cs.toArray t _ v hg];simp
  have hst:(store ((⟨b,off,none⟩:Addr).add i) v).run P w = .ok () (w.setRow b (cs.set (off+i) v).toArray):=by
   rw [hadd,run_store P w _ v _ h1'.1,hcell]
   simp [hfro,hset]
  have ih:=storeCells_kd rest off (i+1) (cs.set (off+i) v) (w.setRow b (cs.set (off+i) v).toArray) (setRow_kd hg oI) (by simp at hl ⊢;omega) h1'.2
  simp only [storeCells,Sem.run_bind,hst,Result.andThen_ok,ih,setRow_setRow]
  congr 3
  have e:=list_seg_step cs (off+i) v rest (by simp at hl ⊢;omega)
  simpa [Nat.add_assoc] using e
end
theorem Wd.setKd {E:Ent} {I:Imm} {M1:Own} {b:Nat} {mk:Bool} {cs cs':List Value} {t:TypeId} {w:World} (h:Wd E I ((b,Okd mk cs t)::M1) w) (hl:cs'.length=cs.length):Wd E I ((b,Okd mk cs' t)::M1) (w.setRow b cs'.toArray) :=
 Wd.turn (M1:=[]) h rfl rfl rfl rfl setRow_size (setRow_kd (h.own (b,Okd mk cs t) oI) hl) (fun k hk=>setRow_other hk)
theorem bvs_of_row {I:Imm} {ds:List Value} {ys:List UInt8} (h:RowRep I ds 0 ys) (hl:ds.length=ys.length):ds=bvs ys:=by
 obtain ⟨ex,he⟩:=row_cellsX (fun c:UInt8=>Value.int .u8 (c.toNat:Int)) rfl (fun _=>rfl) h
 have:ex=[]:=by
  apply List.length_eq_zero_iff.1
  have:=congrArg List.length he
  rw [List.length_append,List.length_map] at this
  omega
 rw [he,this,List.append_nil];rfl
theorem bvs_set (l:List UInt8) (i:Nat) (c:UInt8):bvs (l.set i c)=(bvs l).set i (.int .u8 (c.toNat:Int)):=by
 unfold bvs;rw [List.map_set]
section
variable {x:Cx} {Q:Exit→Act→World→Prop} {Φ:List Fa} {L:Env} {M:Own} {ops:Array Oper} {K:Act→World→Prop}
variable {d:Nat} {ty:TypeId} {pos:String} {af:Array Edge} {g:Option (Nat × Bool)}
theorem o_toBm {s t e:TypeId} {y:Operand} {l:List UInt8} [hs:StrTy x.P s] [ht:SlTy x.P t e] [he:IntTy x.P e .u8] (hdN:Nat.blt d x.N=true) (hg:gd ops L g=some true) (hy:ev L y=some (.string (ba l)))
  (h : ∀ b ex,G x Φ ((d,.slice (some ⟨b,0,none⟩) l.length (l.length+ex.length))::L) ((b,Okd true (bvs l++ex) e)::M) K):OpK x ops Q ⟨some d,.convert s t y,ty,pos,af,g⟩ Φ L M K :=
 OpK.mem rfl hdN hg oI (fun I a w hp hk hw=>by
  have e1:=Lib.run_convert_string_bytes (P:=x.P) w s t e (ba l) hs.h ht.h he.h
  have hcs:Lib.bytesCells w e (ba l)=(bvs l++List.replicate (grownCap w (ba l).size 0 e-(ba l).size) (Value.int .u8 0)).toArray:=by
   unfold Lib.bytesCells
   apply Array.ext'
   simp [bvs]
  have hge:=grownCap_ge w (ba l).size 0 e
  rw [ba_size] at hge
  have hw1:=(Wd.alloc (Wd.drew hw) (.cells (Lib.bytesCells w e (ba l)) e (0,0)))
  have hw2:Wd x.E I ((w.heap.size,Okd true (bvs l++List.replicate (grownCap w l.length 0 e-l.length) (Value.int .u8 0)) e)::M) (Lib.bytesWorld w e (ba l)):=by
   rw [bytesWorld_put,hcs,ba_size]
   exact putObj_own (M:=(w.heap.size,Obj.cells (bvs l++List.replicate (grownCap w l.length 0 e-l.length) (Value.int .u8 0)).toArray e (0,0))::M) (o := .cells _ e (0,0)) (by rw [hcs,ba_size] at hw1;exact hw1)
  refine ⟨.slice (some ⟨w.heap.size,0,none⟩) l.length (grownCap w l.length 0 e),Lib.bytesWorld w e (ba l),Φ,_,I,?_,hp,hw2,?_⟩
  ·rw [ba_size] at e1
   simp [execOp,hk.eval hy,e1,Sem.run_bind,Result.andThen,Sem.run_pure]
  ·have:=h w.heap.size (List.replicate (grownCap w l.length 0 e-l.length) (Value.int .u8 0))
   rwa [List.length_replicate,show l.length+(grownCap w l.length 0 e-l.length)=grownCap w l.length 0 e from by omega] at this)
theorem o_appKd {t t2 e e2 bytes b:Nat} {mk:Bool} {y z:Operand} {u:Value} {l ys:List UInt8} {ex zs:List Value} {Mr:Own} [ht:SlTy x.P t e] [ht2:SlTy x.P t2 e2] [hb:Inf x.P e zs 1 bytes]
  (hlen:(2*(l.length+ys.length)+200)*bytes≤281474976710656∧l.length+ys.length<9223372036854775807∧zs.length=1)
  (hdN:Nat.blt d x.N=true) (hg:gd ops L g=some true) (hy:ev L y=some (.slice (some ⟨b,0,none⟩) l.length (l.length+ex.length))) (hz':ev L z=some u) (hu:Ent' Φ (fRp u ys)) (hM:M.Perm ((b,Okd mk (bvs l++ex) e)::Mr))
  (h : ∀ mk' b' ex',G x Φ ((d,.slice (some ⟨b',0,none⟩) (l++ys).length ((l++ys).length+ex'.length))::L) ((b',Okd mk' (bvs (l++ys)++ex') e)::Mr) K):OpK x ops Q ⟨some d,.call ⟨.builtin .append,#[y,z],#[t,t2]⟩,ty,pos,af,g⟩ Φ L M K :=
 OpK.mem rfl hdN hg oI (fun I a w hp hk hw=>by
  have hw':=hw.perm hM
  have hru:=hu.h I hp
  obtain ⟨ds,hd1,hd2,hd3,hd4⟩:=firstCells_rep (P:=x.P) (w:=w) hw.imm hru
  have hd2':ds.length=ys.length:=by rw [hd2];exact Nat.mul_one _
  have hds:=bvs_of_row hd3 hd2'
  subst hds
  obtain ⟨i,zv,hi,hz,hzs,hsz,hby⟩:=hb.get
  have hl2:=lenOf_rep (P:=x.P) hru
  have base:(execOp a.eval ⟨some d,.call ⟨.builtin .append,#[y,z],#[t,t2]⟩,ty,pos,af,g⟩).run x.P w=((Builtin.append_ #[t,t2] ty #[.slice (some ⟨b,0,none⟩) l.length (l.length+ex.length),u]).run x.P w).andThen fun r w' => .ok (.value r) w':=by
   simp [execOp,resolve,hk.eval hy,hk.eval hz',invoke,builtin,Sem.run_bind,Result.andThen,Sem.run_pure]
  rw [show GoTy.sz UInt8=i.size from hsz.symm] at hd1
  have hbk:w.heap[b]? = some (Okd mk (bvs l++ex) e):=hw'.own (b,Okd mk (bvs l++ex) e) oI
  by_cases hroom:ys.length≤ex.length
  ·have hrun:(Builtin.append_ #[t,t2] ty #[.slice (some ⟨b,0,none⟩) l.length (l.length+ex.length),u]).run x.P w = .ok (.slice (some ⟨b,0,none⟩) (l.length+ys.length) (l.length+ex.length)) (w.setRow b ((bvs l++ex).take l.length++bvs ys++(bvs l++ex).drop (l.length+(bvs ys).length)).toArray):=by
    have hst:=storeCells_kd (P:=x.P) (bvs ys) l.length 0 (bvs l++ex) w hbk (by rw [List.length_append,bvs_length,bvs_length];omega) hd4
    have hn':=hd1 w rfl
    have hgr:l.length+ys.length≤l.length+ex.length:=by omega
    rw [Nat.add_zero] at hst
    rw [hsz] at hn'
    simp [Builtin.append_,run_underlying ht.h,run_underlying ht2.h,sizeOf,typeInfo,hi,hl2,hroom,hn',add_mk,hsz,hst]
   have e2:(bvs l++ex).take l.length++bvs ys++(bvs l++ex).drop (l.length+(bvs ys).length)=bvs (l++ys)++ex.drop ys.length:=by
    rw [bvs_append,List.take_append_of_le_length (by rw [bvs_length];omega),List.take_of_length_le (by rw [bvs_length];omega),bvs_length,← bvs_length l,← List.drop_drop,List.drop_left]
   rw [e2] at hrun
   refine ⟨_,_,Φ,(b,Okd mk (bvs (l++ys)++ex.drop ys.length) e)::Mr,I,by rw [base,hrun];rfl,hp,Wd.setKd hw' ?_,?_⟩
   ·rw [List.length_append,List.length_append,bvs_length,bvs_length,List.length_append,List.length_drop];omega
   ·have:=h mk b (ex.drop ys.length)
    rwa [List.length_drop,List.length_append,show l.length+ys.length+(ex.length-ys.length)=l.length+ex.length from by omega] at this
  ·have hold : ∀ w',w'.heap=w.heap→(Builtin.firstCells i.size l.length (.slice (some ⟨b,0,none⟩) l.length (l.length+ex.length))).run x.P w' = .ok (bvs l).toArray w':=by
    intro w' hw''
    simp only [Builtin.firstCells,hsz,Nat.mul_one]
    have:=loadCells_obj (P:=x.P) (w:=w') (b:=b) (off:=0) (n:=l.length) (by rw [hw''];exact hbk) (by simp [bvs_length])
    rw [this]
    congr 2
    simp only [List.drop_zero]
    rw [List.take_append_of_le_length (by rw [bvs_length];omega),List.take_of_length_le (by rw [bvs_length];omega)]
   have hncap:Builtin.nextslicecap (l.length+ys.length) (l.length+ex.length)*i.bytes≤281474976710656:=by
    rw [hby]
    exact Nat.le_trans (Nat.mul_le_mul_right bytes (nextslicecap_le _ _ oM)) hlen.1
   obtain ⟨nc,hnc,hrun⟩:=run_app_grow (ty:=ty) ht.h ht2.h hi hz hold hd1 hl2 oM oM hncap
   refine ⟨_,_,Φ,(w.heap.size,Ob (bvs l++bvs ys++(Builtin.zeroCells zv.cells (nc-(l.length+ys.length))).toList) e)::Mr,I,by rw [base,hrun];rfl,hp,(Wd.alloc (Wd.drew (hw'.sub (List.sublist_cons_self _ _))) _),?_⟩
   have hzl:(Builtin.zeroCells zv.cells (nc-(l.length+ys.length))).toList.length=nc-(l.length+ys.length):=by
    rw [Array.length_toList,size_zeroCells,← Array.length_toList,cells_toList,hzs,hlen.2.2,Nat.mul_one]
   have:=h false w.heap.size (Builtin.zeroCells zv.cells (nc-(l.length+ys.length))).toList
   rwa [hzl,List.length_append,show l.length+ys.length+(nc-(l.length+ys.length))=nc from by omega,bvs_append,Okd_f] at this)
theorem o_loadKd {t:TypeId} {y:Operand} {b i e:Nat} {mk:Bool} {l:List UInt8} {ex:List Value} [ha:IsAg x.P t false] [hm:MGet M b (Okd mk (bvs l++ex) e)] (hdN:Nat.blt d x.N=true) (hg:gd ops L g=some true) (hy:ev L y=some (.pointer (some ⟨b,i,none⟩))) (hi:i<l.length)
  (h:G x Φ ((d,.int .u8 ((l[i].toNat:Nat):Int))::L) M K):OpK x ops Q ⟨some d,.load t y,ty,pos,af,g⟩ Φ L M K :=
 OpK.val rfl hdN hg oI (fun I a w hp hk hw=>by
  have hb:=hw.own _ hm.h
  have hv:w.cell? ⟨b,i,none⟩=some (.int .u8 ((l[i].toNat:Nat):Int)):=by
   have e1:(bvs l++ex)[i]? = some (.int .u8 ((l[i].toNat:Nat):Int)):=by
    rw [List.getElem?_append_left (by rw [bvs_length];exact hi)]
    simp [bvs,hi]
   simp [World.cell?,hb,Okd,e1]
  simp [execOp,Instr.loadAt,Instr.sureAddr,hk.eval hy,Sem.run_bind,Result.andThen,Sem.run_pure,run_loadVar1 ha.h hv]) h
theorem o_storeKd {t:TypeId} {y z:Operand} {b i e:Nat} {mk:Bool} {l:List UInt8} {c:UInt8} {ex:List Value} {v:Value} [hs:Siz x.P t 1] (hg:gd ops L g=some true) (hy:ev L y=some (.pointer (some ⟨b,i,none⟩))) (hz:ev L z=some v) (hv:v = .int .u8 ((c.toNat:Nat):Int)) (hi:i<l.length)
  {Mr:Own} (hM:M.Perm ((b,Okd mk (bvs l++ex) e)::Mr)) (h:G x Φ L ((b,Okd mk (bvs (l.set i c)++ex) e)::Mr) K):OpK x ops Q ⟨none,.store t y z,ty,pos,af,g⟩ Φ L M K :=
 OpK.mem0 rfl hg oI (fun I a w hp hk hw=>by
  subst hv
  have hw':=hw.perm hM
  have hb:w.heap[b]? = some (Okd mk (bvs l++ex) e):=hw'.own (b,Okd mk (bvs l++ex) e) oI
  have hst:=storeCells_kd (P:=x.P) [Value.int .u8 ((c.toNat:Nat):Int)] i 0 (bvs l++ex) w hb (by simp [bvs_length];omega) rfl
  have e1:(bvs l++ex).take (i+0)++[Value.int .u8 ((c.toNat:Nat):Int)]++(bvs l++ex).drop (i+0+[Value.int .u8 ((c.toNat:Nat):Int)].length)=bvs (l.set i c)++ex:=by
   rw [bvs_set,← List.set_append_left _ _ (by rw [bvs_length];exact hi),List.set_eq_take_append_cons_drop,if_pos (by simp [bvs_length];omega)]
   simp
  rw [e1] at hst
  refine ⟨_,Φ,_,I,?_,hp,Wd.setKd hw' (cs':=bvs (l.set i c)++ex) (by simp [bvs_length]),h⟩
  have hsz:(Value.int .u8 ((c.toNat:Nat):Int)).cells = #[Value.int .u8 ((c.toNat:Nat):Int)]:=rfl
  simp [execOp,Instr.storeAt,Instr.sureAddr,hk.eval hy,hk.eval hz,storeVar,hs.h,hsz,hst,Sem.run_bind,Result.andThen,Sem.run_pure])
theorem o_slice3 {t e sz:Nat} {y z1 z2 z3:Operand} {b off n cap l h m:Nat} {p1 p2 p3:Int} {k1 k2 k3:IntKind} [n1:NL p1 l] [n2:NL p2 h] [n3:NL p3 m] [ht:SlTy x.P t e] [hs:Siz x.P e sz] (hdN:Nat.blt d x.N=true) (hg:gd ops L g=some true) (hy:ev L y=some (.slice (some ⟨b,off,none⟩) n cap))
  (hz1:ev L z1=some (.int k1 p1)) (hz2:ev L z2=some (.int k2 p2)) (hz3:ev L z3=some (.int k3 p3)) (hlh:l≤h) (hhm:h≤m) (hmc:m≤cap) (hlm:l<m)
  (hG:G x Φ ((d,.slice (some ⟨b,off+l*sz,none⟩) (h-l) (m-l))::L) M K):OpK x ops Q ⟨some d,.slice t y (some z1) (some z2) (some z3),ty,pos,af,g⟩ Φ L M K :=
 OpK.val rfl hdN hg oI (fun I a w hp hk hw=>by
  have hb:(Instr.sliceBounds true n cap (some (.int k1 p1)) (some (.int k2 p2)) (some (.int k3 p3))).run x.P w = .ok (l,h,m) w:=by
   simp [Instr.sliceBounds,Sem.run_bind,Result.andThen,Sem.run_pure,run_bound n3.h hmc,run_bound n2.h hhm,run_bound n1.h hlh]
  simp [execOp,Instr.sliceAt,Instr.slice,hk.eval hy,hk.eval hz1,hk.eval hz2,hk.eval hz3,run_underlying ht.h,hs.h,hb,Sem.run_bind,Result.andThen,Sem.run_pure,add_mk,show ¬ m=l from by omega]) hG
theorem G.part {α:Type} [GoTy α] {F:Act→World→Prop} {b off n cap:Nat} (xs:List α) (l h c o':Nat) [k:Ent' Φ (fRp (.slice (some ⟨b,off,none⟩) n cap) xs)] (hlh:l≤h) (hhx:h≤xs.length) (hc:h-l≤c) (ho:off+l*GoTy.sz α=o')
  (hG:G x (fRp (.slice (some ⟨b,o',none⟩) (h-l) c) ((xs.take h).drop l)::Φ) L M F):G x Φ L M F:=by
 refine G.learn (e:=⟨fun I hp => ?_⟩) _ hG
 obtain ⟨ad,cp,e,h1,h2⟩:=Rp.slice (k.h I hp)
 injection e with e1 e2 e3
 subst ho
 have hlen:h-l=((xs.take h).drop l).length:=by simp;omega
 refine Rp.mkSlice ⟨by rw [← hlen];exact hc,fun hne => ?_⟩ hlen
 have hpos:0<h-l:=by rw [hlen];exact List.length_pos_iff.2 hne
 obtain ⟨a,c',t',fr,he,hsp,hbk,hr⟩:=h2 (by intro e;subst e;simp at hne)
 rw [← e1] at he
 cases he
 exact ⟨_,c',t',fr,rfl,rfl,hbk,(hr.take h).drop l oX⟩
theorem G.sliceB {α:Type} [GoTy α] {F:Act→World→Prop} (v:Value) (xs:List α) (hne:xs≠[]) [k:Ent' Φ (fRp v xs)] (h : ∀ b off cap,v = .slice (some ⟨b,off,none⟩) xs.length cap→xs.length≤cap→G x Φ L M F):G x Φ L M F:=by
 intro I a w hp hk hw
 obtain ⟨ad,cap,e,h1,h2⟩:=Rp.slice (k.h I hp)
 obtain ⟨⟨b,off,sp⟩,c,t',fr,rfl,hsp,hb,hr⟩:=h2 hne
 simp only at hsp
 subst hsp
 exact h b off cap e h1 I a w hp hk hw
theorem o_makeKd {t e:Nat} {y z:Operand} (n:Nat) {p q:Int} [ht:SlTy x.P t e] [hb:Inf x.P e [.int .u8 0] 1 1] (hdN:Nat.blt d x.N=true) (hg:gd ops L g=some true) (hy:ev L y=some (.int .i64 p)) (hz:ev L z=some (.int .i64 q)) (hp':p=(n:Int)) (hq':q=(n:Int)) (hn:n≤100000000)
  (h : ∀ b,G x Φ ((d,.slice (some ⟨b,0,none⟩) n n)::L) ((b,Okd false (bvs (List.replicate n 0)++[]) e)::M) K):OpK x ops Q ⟨some d,.makeSlice t y z,ty,pos,af,g⟩ Φ L M K:=by
 refine o_make (α:=UInt8) (ht:=ht) (hb:=hb) n n 0 hdN hg hy hz hp' hq' (Nat.le_refl _) ⟨by omega,by omega,by show n*1≤140737488355328;omega⟩ rfl (fun _=>rfl) ?_
 intro b
 have e1:zerosL [Value.int .u8 0] n=bvs (List.replicate n 0)++[]:=by
  rw [List.append_nil]
  apply List.ext_getElem?
  intro k
  by_cases hk:k<n
  ·simp [zerosL,bvs,hk,Nat.mod_one,List.getElem?_replicate]
  ·rw [List.getElem?_eq_none (by rw [zerosL_length];simp;omega),List.getElem?_eq_none (by simp [bvs];omega)]
 have:=h b
 rw [Okd_f,← e1] at this
 exact fun I a w hp hk hw=>this I a w (fun φ hφ=>hp φ (List.mem_cons_of_mem _ hφ)) hk hw
theorem G.giveB {F:Act→World→Prop} (b e:Nat) (mk:Bool) (l:List UInt8) (ex:List Value) {Mr:Own} (hM:M.Perm ((b,Okd mk (bvs l++ex) e)::Mr)) (h:G x (fRp (.slice (some ⟨b,0,none⟩) l.length (l.length+ex.length)) l::Φ) L Mr F):G x Φ L M F:=by
 intro I a w hp hk hw
 have hw':=hw.perm hM
 have hn:I b=none:=hw'.sep (b,Okd mk (bvs l++ex) e) oI
 refine h _ a w ?_ hk hw'.give
 intro φ hφ
 rcases List.mem_cons.1 hφ with rfl|hφ
 ·refine Rp.mkSlice ⟨by omega,fun _=>⟨⟨b,0,none⟩,(bvs l++ex).toArray,e,_,rfl,rfl,if_pos rfl,?_⟩⟩ rfl
  exact row8 _ _ _
 ·exact φ.mono _ _ (Le.give hn) (hp φ hφ)
end
end Go.Rail
set_option linter.unusedSimpArgs false
set_option linter.unusedVariables false
namespace Go.Rail
open Go
def fBlkE (b:Nat) (cs:List Value):Fa:=⟨.pointer (some ⟨b,0,none⟩),fun I => ∃ t,I b=some (Ob cs t),fun _ _ hl ⟨t,h⟩=>⟨t,hl _ _ h⟩⟩
class KBlkE (Φ:List Fa) (b:Nat) (cs:List Value):Prop where h:fBlkE b cs∈Φ
instance (priority:=high) KBlkE.head {Φ:List Fa} {b:Nat} {cs:List Value}:KBlkE (fBlkE b cs::Φ) b cs:=⟨.head _⟩
instance KBlkE.tail {Φ:List Fa} {φ:Fa} {b:Nat} {cs:List Value} [t:KBlkE Φ b cs]:KBlkE (φ::Φ) b cs:=⟨.tail _ t.h⟩
instance Ent'.blkE {Φ:List Fa} {b:Nat} {cs:List Value} [k:KBlkE Φ b cs]:Ent' Φ (fBlkE b cs):=⟨fun _ hp=>hp _ k.h⟩
theorem G.openE {x:Cx} {Φ:List Fa} {L:Env} {M:Own} {F:Act→World→Prop} (b:Nat) (cs:List Value) [k:Ent' Φ (fBlkE b cs)] (h : ∀ t,G x (fBlk b cs t::Φ) L M F):G x Φ L M F:=by
 intro I a w hp hk hw
 obtain ⟨t,ht⟩:=k.h I hp
 refine h t I a w (fun ψ hψ => ?_) hk hw
 rcases List.mem_cons.1 hψ with rfl|hψ
 ·exact ht
 ·exact hp ψ hψ
theorem laidVars_mem {P:Program} {w:World} {n:String} {d:DataW Unit} : ∀ {l:List (String × DataW Unit)} {ps:List MemPlace},DataW.LaidVars P w l ps→(n,d)∈l →
  ∃ g t cs fuel p,P.globalNamed n=some g∧(P.globals[g]?).map (·.type)=some t∧w.var? P n=some cs∧DataW.trod (fun _=>()) P w 0 (fun _=>true) false fuel t cs.toList=some (d,p) ∧ ∀ x∈MemPlace.row ⟨g,0,none⟩ cs.size,x∈ps
 | [],_,_,h=>by cases h
 | (n',d')::r,ps,h,hm=>by
  obtain ⟨g,t,cs,fuel,p,q,h1,h2,h3,h4,h5,rfl⟩:=h
  rcases List.mem_cons.1 hm with e|hm
  ·cases e
   exact ⟨g,t,cs,fuel,p,h1,h2,h3,h4,fun x hx=>by simp [hx]⟩
  ·obtain ⟨g',t',cs',fuel',p',k1,k2,k3,k4,k5⟩:=laidVars_mem h5 hm
   exact ⟨g',t',cs',fuel',p',k1,k2,k3,k4,fun x hx=>by simp [k5 x hx]⟩
theorem trodF_int {H:Type} {enc:TypeId × Value→H} {P:Program} {W:World} {fuel:Nat} {t:TypeId} {cs:List Value} {n:Int} {ps:List MemPlace} {k:IntKind} (hu:P.underlying t=some (.int k)) (h:DataW.trod enc P W 0 (fun _=>true) false fuel t cs=some (.lit (.int k n),ps)):cs=[.int k n]:=by
 cases fuel with
 | zero=>simp [DataW.trod] at h
 | succ m =>
  unfold DataW.trod at h
  rw [hu] at h
  split at h<;>simp_all
theorem trodF_ints {H:Type} {enc:TypeId × Value→H} {P:Program} {W:World} {fuel m:Nat} {t e:TypeId} {cs:List Value} {ns:List Int} {ps:List MemPlace} {k:IntKind} (hu:P.underlying t=some (.array m e)) (hue:P.underlying e=some (.int k)) (hce:P.cellsOf e=1) (hct:P.cellsOf t=m)
  (h:DataW.trod enc P W 0 (fun _=>true) false fuel t cs=some (.agg (ns.map fun i => .lit (.int k i)),ps)):cs=ns.map fun i => .int k i:=by
 cases fuel with
 | zero=>simp [DataW.trod] at h
 | succ fu =>
  unfold DataW.trod at h
  simp only [hu,hce,hct] at h
  split at h
  ·rename_i hlen
   simp only [Option.map_eq_some_iff,Prod.mk.injEq,DataW.agg.injEq] at h
   obtain ⟨xs,hxs,hl,_⟩:=h
   obtain ⟨hl1,hl2⟩:=mapM_get hxs
   rw [List.length_range] at hl1
   have hns:ns.length=m:=by
    have:=congrArg List.length hl
    simp at this
    omega
   apply List.ext_getElem?
   intro i
   by_cases hi:i<m
   ·have h5:=hl2 i i xs[i] (by rw [List.getElem?_range hi]) (by rw [List.getElem?_eq_getElem oM])
    have h6:xs[i].1 = .lit (.int k (ns[i]'(by omega))):=by
     have:=congrArg (fun l=>l[i]?) hl
     simpa [List.getElem?_eq_getElem (show i<xs.length by omega),List.getElem?_eq_getElem (show i<ns.length by omega)] using this
    have h10:xs[i]=(.lit (.int k (ns[i]'(by omega))),xs[i].2):=by rw [← h6]
    rw [h10] at h5
    have h7:=trodF_int hue h5
    rw [Nat.mul_one] at h7
    have h8:cs[i]? = some (.int k (ns[i]'(by omega))):=by
     have h9:=congrArg (fun l=>l[0]?) h7
     simpa [List.getElem?_take,List.getElem?_drop] using h9
    rw [h8,List.getElem?_map,List.getElem?_eq_getElem oM]
    rfl
   ·rw [List.getElem?_eq_none oM,List.getElem?_eq_none (by rw [List.length_map];omega)]
  ·cases h
theorem laid_ints {P:Program} {W:World} {laid:List (String × DataW Unit)} (hm:laidMetH P laid W) (hpl:(laid.filter fun x=>x.2.handleName?.isSome)=[]) {n:String} {ns:List Int} {k:IntKind} (hx:(n,DataW.agg (ns.map fun i => .lit (.int k i)))∈laid)
  {g m:Nat} {t e:TypeId} (hg:P.globalNamed n=some g) (ht:(P.globals[g]?).map (·.type)=some t) (hu:P.underlying t=some (.array m e)) (hue:P.underlying e=some (.int k)) (hce:P.cellsOf e=1) (hct:P.cellsOf t=m) (hns:0<ns.length) :
  ∃ t',W.heap[g]? = some (Ob (ns.map fun i => .int k i) t'):=by
 unfold laidMetH at hm
 rw [hpl] at hm
 obtain ⟨ps,h1,_,h3⟩:=hm
 obtain ⟨g',t',cs,fuel,p,k1,k2,k3,k4,k5⟩:=laidVars_mem h1 hx
 rw [hg] at k1
 cases k1
 rw [ht] at k2
 cases k2
 have hcs:=trodF_ints hu hue hce hct k4
 have hsz:0<cs.size:=by rw [← Array.length_toList,hcs,List.length_map];exact hns
 obtain ⟨⟨c,t2,hb⟩,_⟩:=h3 g 0 (k5 _ (by
  unfold MemPlace.row
  refine List.mem_map.2 ⟨0,List.mem_range.2 hsz,?_⟩
  simp [Addr.add]))
 have:cs=c:=by
  unfold World.var? at k3
  rw [hg] at k3
  simpa [hb] using k3.symm
 subst this
 refine ⟨t2,?_⟩
 rw [hb,Ob,← hcs]
end Go.Rail
set_option linter.unusedSimpArgs false
set_option linter.unusedVariables false
namespace Go.Rail
open Go
def fObj (b:Nat) (o:Obj):Fa:=⟨.pointer (some ⟨b,0,none⟩),fun I=>I b=some o,fun _ _ hl h=>hl _ _ h⟩
section
variable {x:Cx} {Q:Exit→Act→World→Prop} {Φ:List Fa} {L:Env} {M:Own} {ops:Array Oper} {K:Act→World→Prop}
variable {d:Nat} {ty:TypeId} {pos:String} {af:Array Edge} {g:Option (Nat × Bool)}
theorem G.giveObj {F:Act→World→Prop} {M':Own} (b:Nat) (o:Obj) [m:MDel M b o M'] (h:G x (fObj b o::Φ) L M' F):G x Φ L M F:=by
 intro I a w hp hk hw
 have hw':=hw.perm m.h
 have hn:I b=none:=hw'.sep (b,o) oI
 refine h _ a w ?_ hk hw'.give
 intro φ hφ
 rcases List.mem_cons.1 hφ with rfl|hφ
 ·show (if b=b then some o else I b)=some o;simp
 ·exact φ.mono _ _ (Le.give hn) (hp φ hφ)
theorem o_lookG {t kt et:TypeId} {kd:IntKind} {y z:Operand} {b:Nat} {l:List (Int × Value)} {k:Int} {z0:Value} [ht:MpTy x.P t kt et] [hkt:IntTy x.P kt kd] [hz0:ZerV x.P et z0] (hdN:Nat.blt d x.N=true) (hg:gd ops L g=some true) (hy:ev L y=some (.map (some b))) (hz:ev L z=some (.int .u8 k))
  (hm:fObj b (MapV l)∈Φ) {v:Value} {is:Bool} (hv:(getV l k).getD z0=v) (hi:(getV l k).isSome=is)
  (h:G x Φ ((d,.tuple #[v,.bool is])::L) M K):OpK x ops Q ⟨some d,.lookup t y z true,ty,pos,af,g⟩ Φ L M K :=
 OpK.val rfl hdN hg oI (fun I a w hp hk hw=>by
  have hb:w.heap[b]? = some (MapV l):=hw.imm b _ (hp _ hm)
  subst hv;subst hi
  simp [execOp,hk.eval hy,hk.eval hz,Sem.run_bind,Result.andThen,Sem.run_pure,lookV_run ht.h hkt.h hz0.h hb]) h
end
def blV (b:Nat) (l:List Nat):Value := .agg (Value.int .i64 (b:Int)::l.map fun (n:Nat)=>Value.int .i64 (n:Int)).toArray
def blB (z:Value):Nat:=bk ((cellsL z).headD undef)
def blL (z:Value):List Nat:=(cellsL z).tail.map bk
theorem blB_v (b:Nat) (l:List Nat):blB (blV b l)=b:=rfl
theorem blL_v (b:Nat) (l:List Nat):blL (blV b l)=l:=by
 unfold blL blV
 show (l.map fun (n:Nat)=>Value.int .i64 (n:Int)).map bk=l
 rw [List.map_map]
 conv=>rhs;rw [← List.map_id l]
 apply List.map_congr_left
 intro n _
 rfl
end Go.Rail
set_option linter.unusedSimpArgs false
set_option linter.unusedVariables false
namespace Go.Rail
open Go
def isFnTy (P:Program) (t:TypeId):Bool:=match P.underlying t with
 | some (.func _ _ _)=>true
 | _=>false
theorem fnTy {P:Program} {t:TypeId} (h:isFnTy P t=true) : ∃ ps rs v,P.underlying t=some (.func ps rs v):=by
 unfold isFnTy at h
 split at h
 ·exact ⟨_,_,_,by assumption⟩
 ·cases h
class FnTy (P:Program) (t:TypeId):Prop where
 h:isFnTy P t=true
 g:P.eqGuardType P.depth t=false
def isFn:Value→Bool
 | .func _ _ _=>true
 | _=>false
def fnOk:Value→Bool
 | .func _ _ _=>true
 | .nilFunc=>true
 | _=>false
theorem eqFnD {P:Program} {t:TypeId} [k:FnTy P t] {v:Value} (hv:fnOk v=true) (d:Nat) (w:World):(Op.equalIn (d+1) t v .nilFunc).run P w = .ok (!isFn v) w:=by
 obtain ⟨ps,rs,va,h⟩:=fnTy k.h
 cases v<;>first|(cases hv;done)|simp [Op.equalIn,run_underlying h,Sem.run_bind,Result.andThen,Sem.run_pure,isFn]
theorem eqFn {P:Program} {t:TypeId} [k:FnTy P t] {v:Value} (hv:fnOk v=true) (w:World):(Op.equal t v .nilFunc).run P w = .ok (!isFn v) w:=eqFnD hv 9999 w
theorem neFn_run {P:Program} {t:TypeId} [k:FnTy P t] {v:Value} (hv:fnOk v=true) (w:World):(binOp .neq t v .nilFunc).run P w = .ok (.bool (isFn v)) w:=by
 have:=eqFn (P:=P) (t:=t) hv w
 cases v<;>first|(cases hv;done)|simp [binOp,this,Sem.run_bind,Result.andThen,Sem.run_pure]
theorem guardFn_run {P:Program} {t:TypeId} [k:FnTy P t] {v:Value} (hv:fnOk v=true) (op:BinOp) (p q:Operand) (w:World):(eqGuard op t p q v .nilFunc).run P w = .ok () w:=by
 cases v<;>first|(cases hv;done)|(cases op<;>simp [eqGuard,run_program,k.g])
section
variable {x:Cx} {Q:Exit→Act→World→Prop} {Φ:List Fa} {L:Env} {M:Own} {ops:Array Oper} {K:Act→World→Prop}
variable {d:Nat} {ty:TypeId} {pos:String} {af:Array Edge} {g:Option (Nat × Bool)}
theorem o_neFn {t t':TypeId} {y z:Operand} {u:Value} {r:Bool} [FnTy x.P t] (hdN:Nat.blt d x.N=true) (hg:gd ops L g=some true) (hy:ev L y=some u) (hz:ev L z=some .nilFunc) (hu:fnOk u=true) (hr:isFn u=r)
  (h:G x Φ ((d,.bool r)::L) M K):OpK x ops Q ⟨some d,.binOp .neq t y z t',ty,pos,af,g⟩ Φ L M K :=
 OpK.val rfl hdN hg oI (fun I a w hp hk hw=>by
  subst hr
  simp [execOp,hk.eval hy,hk.eval hz,guardFn_run hu,neFn_run hu,Sem.run_bind,Result.andThen,Sem.run_pure]) h
end
end Go.Rail
set_option linter.unusedVariables false
namespace Go.Rail
open Go
theorem dK {p:Prop} (h:p:=by decide +kernel):p:=h
theorem dX {p:Prop} (h:p:=by intro c z0 Φr Lr K;refine nrmX ?_;intro hK;(first|refine sty ?_|refine st ?_|refine stz ?_|refine stq ?_);(first|exact hK z0|exact hK|exact fun b=>hK (.int .i64 (b:Int)))):p:=h
theorem dC {p:Prop} (h:p:=by intro c z0 Φr Lr K;refine nrmC ?_;intro hK;(first|refine sty ?_|refine st ?_|refine stz ?_|refine stq ?_);(first|exact hK z0|exact hK|exact fun b=>hK (.int .i64 (b:Int)))):p:=h
section
variable {x:Cx} {Q:Exit→Act→World→Prop} {Φ:List Fa} {L:Env} {M0 M2:Own} {M1:Value→Own}
variable {l:List Oper} {ks:List DOp} {as:List (List Nat)} {i j n:Nat} {p:Lnk} {r js:List Lnk}
theorem AllX.au {MX:(Nat→Bool)→(Nat→Value)→Own} (t:AllX x Q l ks as Φ L MX (i+1) n) (h:AllX x Q l ks as Φ L MX i 1:=by
 first
  | exact AllX.a0 AllX.end rfl dK dX
  | exact AllX.a1 AllX.end rfl dK dX
  | exact AllX.ai AllX.end dX
  | exact AllX.a01 AllX.end rfl dX dX):AllX x Q l ks as Φ L MX i (n+1):=⟨h.1,t⟩
theorem ChQ.z (h:QX1 x Q l ks as Φ L (fun _=>M0) i:=by exact dC):ChQ x Q l ks as Φ L M0 i []:=h
theorem ChQ.c {q:Nat} {k:List Nat} {M:(Nat→Value)→Own} {dep : ∀ c c':Nat→Value,(∀ i∈k,c i=c' i)→M c=M c'} (h1:Nat.beq i q=false:=by exact rfl) (h2:lkOk l ⟨q,k,M,dep⟩=true:=by kernel_rfl)
  (h3:bfr l q i=true∨QX1 x Q l ks as Φ L (fun c=>M c) i:=by first|exact .inl dK|exact .inr dC)
  (h4:bfr l i q=true∨ChQ x Q l ks as Φ L M0 i r:=by first|exact .inl dK|exact .inr ChQ.z|exact .inr ChQ.c):ChQ x Q l ks as Φ L M0 i (⟨q,k,M,dep⟩::r):=⟨⟨h1,h2⟩,h3,h4⟩
theorem CjQ.a {q:Nat} {k:List Nat} {M:(Nat→Value)→Own} {dep : ∀ c c':Nat→Value,(∀ i∈k,c i=c' i)→M c=M c'} (h:(Nat.beq i q=true∧prvB l i r=true∧QX x Q l ks as Φ L (fun c=>prvM M0 r c) (fun c z=>M (updC c i z)) i)∨(Nat.beq i q=false∧bfr l q i=true∧CjQ x Q l ks as Φ L M0 i r):=by
 first|exact .inl ⟨rfl,kR,dC⟩|exact .inr ⟨rfl,kR,CjQ.a⟩):CjQ x Q l ks as Φ L M0 i (⟨q,k,M,dep⟩::r):=h
theorem AllX.cu (t:AllX x Q l ks as Φ L (mxC js M0) (i+1) n) (h:ChQ x Q l ks as Φ L M0 i js∨CjQ x Q l ks as Φ L M0 i js:=by first|exact .inl ChQ.c|exact .inr CjQ.a):AllX x Q l ks as Φ L (mxC js M0) i (n+1) :=
 ⟨h.elim (fun h=>h.turns) (fun h=>h.turns),t⟩
end
end Go.Rail
