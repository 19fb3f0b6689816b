/- Texts built piece by piece, parted, looked up. -/
import Derived.Test.YtjhdodkagchhkaaGreatDoorRailA
import Derived.Test.YtjhdodkagchhkaaGreatDoorRailG
import Derived.Test.YtjhdodkagchhkaaGreatDoorRailC
import Derived.Lib.UnsafeStr
import Derived.Lib.FrozenHead
import Derived.Lib.Builder
import Derived.Test.YtjhdodkagchhkaaGreatDoorRailH
import Derived.Lib.Bytealg
import Derived.Test.YtjhdodkagchhkaaGreatDoorRailF
import Derived.Lib.MakeNoZero
import Derived.Lib.ConvBytes
import Derived.Laws.BitsAllLaws
set_option linter.unusedSimpArgs false
set_option linter.unusedVariables false
namespace Go.Rail
open Go
def bvs (xs:List UInt8):List Value:=xs.map fun c => .int .u8 (c.toNat:Int)
theorem bvs_length (xs:List UInt8):(bvs xs).length=xs.length:=by simp [bvs]
theorem bvs_append (xs ys:List UInt8):bvs (xs++ys)=bvs xs++bvs ys:=by simp [bvs]
theorem bvs_ones (xs:List UInt8):ones (bvs xs)=true:=by simp [bvs,ones,Value.oneCell']
def bufO (t:TypeId) (xs:List UInt8) (ex:List Value) (k:Nat):Obj := .cells (bvs xs++ex).toArray t (0,k)
abbrev BO:=Option (Nat × List Value × Nat)
def bufM (t:TypeId) (xs:List UInt8):BO→Own
 | none=>[]
 | some (b,ex,k)=>[(b,bufO t xs ex k)]
def IsBuf (v:Value) (xs:List UInt8):BO→Prop
 | none=>v = .slice none 0 0∧xs=[]
 | some (b,ex,k)=>v = .slice (some ⟨b,0,none⟩) xs.length (xs.length+ex.length)∧k≤xs.length∧0<xs.length+ex.length

theorem buf_cell {v:Value} {xs:List UInt8} {o:BO} (h:IsBuf v xs o):cellsL v=[v]∧ones [v]=true:=by
 cases o with
 | none=>obtain ⟨rfl,_⟩:=h;exact ⟨rfl,rfl⟩
 | some q=>obtain ⟨b,ex,k⟩:=q;obtain ⟨rfl,_⟩:=h;exact ⟨rfl,rfl⟩
theorem putObj_own {E:Ent} {I:Imm} {M M':Own} {b:Nat} {o o':Obj} {w:World} (h:Wd E I M w) [m:MSet M b o o' M']:Wd E I M' (w.putObj b o'):=by
 obtain ⟨M1,M2,rfl,rfl⟩:=m.h
 have hlt:=h.lt (p:=(b,o)) oI
 exact Wd.turn h rfl rfl rfl rfl oI (World.putObj_heap_same hlt) (fun k hk=>World.putObj_heap_other hk)
theorem putObj_row {w:World} {b:Nat} {c c':Array Value} {t:TypeId} {fr:Nat × Nat} (h:w.heap[b]? = some (.cells c t fr)):w.setRow b c'=w.putObj b (.cells c' t fr):=by
 have hlt:b<w.heap.size:=(Array.getElem?_eq_some_iff.1 h).1
 unfold World.setRow World.putObj
 congr 1
 apply Array.ext_getElem?
 intro i
 rw [Array.getElem?_modify,Array.getElem?_setIfInBounds]
 by_cases e:b=i
 ·subst e;rw [if_pos rfl,if_pos rfl,if_pos hlt,h];rfl
 ·rw [if_neg e,if_neg e]
theorem freeze_row {w:World} {b n k:Nat} {c:Array Value} {t:TypeId} (hn:n≠0) (hk:k≤n) (h:w.heap[b]? = some (.cells c t (0,k))):w.freeze ⟨b,0,none⟩ n=w.putObj b (.cells c t (0,n)):=by
 have hlt:b<w.heap.size:=(Array.getElem?_eq_some_iff.1 h).1
 unfold World.freeze World.putObj
 rw [if_neg hn]
 congr 1
 apply Array.ext_getElem?
 intro i
 rw [Array.getElem?_modify,Array.getElem?_setIfInBounds]
 by_cases e:b=i
 ·subst e
  rw [if_pos rfl,if_pos rfl,if_pos hlt,h]
  simp only [Option.map_some]
  by_cases h0:0=k
  ·subst h0;simp
  ·rw [if_neg (by simpa using h0)]
   simp only [Option.some.injEq,Obj.cells.injEq,true_and,Prod.mk.injEq]
   exact ⟨by simp,by simp;omega⟩
 ·rw [if_neg e,if_neg e]

class Suf (P:Program) (Φ:List Fa) (t:TypeId) (u:Value) (ys:outParam (List UInt8)):Prop where
 ty:P.underlying t=some .string ∨ ∃ e,P.underlying t=some (.slice e)
 h : ∀ (I:Imm) (w:World),(∀ φ∈Φ,φ.p I)→(∀ b o,I b=some o→w.heap[b]? = some o)→(∀ w':World,(Builtin.lenOf u).run P w' = .ok ys.length w') ∧ ∀ w':World,w'.heap=w.heap→(Builtin.firstCells 1 ys.length u).run P w' = .ok (bvs ys).toArray w'
instance {P:Program} {Φ:List Fa} {t:TypeId} {ys:List UInt8} [ht:StrTy P t]:Suf P Φ t (.string (ba ys)) ys where
 ty := .inl ht.h
 h:=fun I w _ _=>⟨fun w'=>by simp [Builtin.lenOf,Sem.run_pure,ba_size],fun w' _=>by
  have e:((ba ys).extract 0 ys.length).data=ys.toArray:=by
   have:=ba_size ys
   rw [ByteArray.data_extract]
   simp
  simp [Builtin.firstCells,Sem.run_pure,e,bvs]⟩
theorem bvs_row {I:Imm} {cs:List Value} {ys:List UInt8} (h:RowRep I cs 0 ys) (hl:cs.length=ys.length):cs=bvs ys:=by
 apply List.ext_getElem
 ·rw [bvs_length,hl]
 ·intro j h1 h2
  have hj:j<ys.length:=by omega
  have h3:=GoFlat.rep_iff.1 (h.2 j hj)
  unfold chunk at h3
  rw [show GoTy.sz UInt8=1 from rfl,Nat.zero_add,Nat.mul_one,List.take_one,List.head?_drop,List.getElem?_eq_getElem h1] at h3
  have h4:[cs[j]]=[Value.int .u8 (ys[j].toNat:Int)]:=h3
  simp only [bvs,List.getElem_map]
  exact List.cons.inj h4 |>.1
instance {P:Program} {Φ:List Fa} {t e:TypeId} {u:Value} {ys:List UInt8} [ht:SlTy P t e] [k:KRp Φ u ys]:Suf P Φ t u ys where
 ty := .inr ⟨_,ht.h⟩
 h:=fun I w hp hi=>by
  obtain ⟨cs,h1,h2,h3,_⟩:=firstCells_rep (P:=P) (w:=w) hi (hp _ k.h)
  have h2':cs.length=ys.length:=by rw [h2];show _*1=_;omega
  refine ⟨fun w'=>lenOf_rep (hp _ k.h) w',fun w' hw => ?_⟩
  have:=h1 w' hw
  rw [bvs_row h3 h2'] at this
  exact this

theorem run_appB_grow {P:Program} {w:World} {t t2 e ty:TypeId} {i:TypeInfo} {z u:Value} (ht:P.underlying t=some (.slice e)) (hs:P.underlying t2=some .string ∨ ∃ e,P.underlying t2=some (.slice e)) (hi:P.info? e=some i) (hz:i.zero=some z)
  {ba:Option Addr} {n cap m:Nat} {olds news:List Value} (ho : ∀ w',w'.heap=w.heap→(Builtin.firstCells i.size n (.slice ba n cap)).run P w' = .ok olds.toArray w') (hn : ∀ w',w'.heap=w.heap→(Builtin.firstCells i.size m u).run P w' = .ok news.toArray w')
  (hl : ∀ w,(Builtin.lenOf u).run P w = .ok m w) (hg:cap<n+m) (h63:n+m<9223372036854775807) (hfit:Builtin.nextslicecap (n+m) cap*i.bytes≤281474976710656) :
  ∃ nc,n+m≤nc∧(Builtin.append_ #[t,t2] ty #[.slice ba n cap,u]).run P w = .ok (.slice (some ⟨w.heap.size,0,none⟩) (n+m) nc) (w.drew.alloc (Ob (olds++news++(Builtin.zeroCells z.cells (nc-(n+m))).toList) e)):=by
 have h1 : ¬ (n+m≤cap):=by omega
 have h63' : ¬ (9223372036854775807<((n:Int)+(m:Int))):=by omega
 have h48' : ¬ (281474976710656<Builtin.nextslicecap (n+m) cap*i.bytes):=by omega
 have hn':=hn w.drew rfl
 have ho':=ho w.drew rfl
 refine ⟨grownCap w (n+m) cap e,grownCap_ge _ _ _ _,?_⟩
 rcases hs with ht2|⟨e2,ht2⟩ <;>
 ·simp [Builtin.append_,run_underlying ht,run_underlying ht2,sizeOf,typeInfo,zeroValue,hi,hz,hl,h1,h63',h48',Question.forced,hn',ho',newRow,grownCap,Ob]
  congr 2
  apply Array.ext'
  simp [List.append_assoc]
theorem run_appB_room {P:Program} {w:World} {t t2 e ty:TypeId} {i:TypeInfo} {u:Value} (ht:P.underlying t=some (.slice e)) (hs:P.underlying t2=some .string ∨ ∃ e,P.underlying t2=some (.slice e)) (hi:P.info? e=some i)
  {b n cap m:Nat} {cs news:List Value} {k:Nat} (hb:w.heap[b]? = some (.cells cs.toArray e (0,k))) (hk:k≤n*i.size) (hn : ∀ w',w'.heap=w.heap→(Builtin.firstCells i.size m u).run P w' = .ok news.toArray w') (h1:ones news=true)
  (hl : ∀ w,(Builtin.lenOf u).run P w = .ok m w) (hg:n+m≤cap) (hfit:n*i.size+news.length≤cs.length) :
  (Builtin.append_ #[t,t2] ty #[.slice (some ⟨b,0,none⟩) n cap,u]).run P w = .ok (.slice (some ⟨b,0,none⟩) (n+m) cap) (w.setRow b (splice cs (n*i.size) news).toArray):=by
 have hst:(storeCells ⟨b,n*i.size,none⟩ news).run P w = .ok () (w.setRow b (splice cs (n*i.size) news).toArray):=by
  have:=run_storeCells_atF P b (n*i.size) e (0,k) news 0 cs.toArray w hb (by simpa using hk) (by simpa using hfit) (by simpa [ones] using h1)
  simpa [splice] using this
 have hn':=hn w rfl
 rcases hs with ht2|⟨e2,ht2⟩<;>simp [Builtin.append_,run_underlying ht,run_underlying ht2,sizeOf,typeInfo,hi,hl,hg,hn',add_mk,hst]

section
variable {x:Cx} {Q:Exit→Act→World→Prop} {Φ:List Fa} {L:Env} {M:Own} {ops:Array Oper} {K:Act→World→Prop}
variable {d:Nat} {ty:TypeId} {pos:String} {af:Array Edge} {g:Option (Nat × Bool)}
theorem o_appB {t t2 e:Nat} {y z:Operand} {v u:Value} {xs ys:List UInt8} (o:BO) {Mr:Own} [ht:SlTy x.P t e] [hb:Inf x.P e [.int .u8 0] 1 1] [su:Suf x.P Φ t2 u ys]
  (hv:IsBuf v xs o) (hlen:2*(xs.length+ys.length)+200≤281474976710656)
  (hdN:Nat.blt d x.N=true) (hg:gd ops L g=some true) (hy:ev L y=some v) (hz':ev L z=some u) (hM:M.Perm (bufM e xs o++Mr))
  (h : ∀ v' o',IsBuf v' (xs++ys) o'→G x Φ ((d,v')::L) (bufM e (xs++ys) o'++Mr) K):OpK x ops Q ⟨some d,.call ⟨.builtin .append,#[y,z],#[t,t2]⟩,ty,pos,af,g⟩ Φ L M K :=
 OpK.mem rfl hdN hg oI (fun I a w hp hk hw=>by
  have hw':=hw.perm hM
  obtain ⟨hl2,hd1⟩:=su.h I w hp hw.imm
  have hs1:=su.ty
  obtain ⟨i,zv,hi,hz,hzs,hsz,hby⟩:=hb.get
  have base:(execOp a.eval ⟨some d,.call ⟨.builtin .append,#[y,z],#[t,t2]⟩,ty,pos,af,g⟩).run x.P w=((Builtin.append_ #[t,t2] ty #[v,u]).run x.P w).andThen fun r w' => .ok (.value r) w':=by
   simp [execOp,resolve,hk.eval hy,hk.eval hz',invoke,builtin,Sem.run_bind,Result.andThen,Sem.run_pure]
  rw [← hsz] at hd1
  have grow : ∀ (ba:Option Addr) (cap:Nat),v = .slice ba xs.length cap→cap<xs.length+ys.length→(∀ w',w'.heap=w.heap→(Builtin.firstCells i.size xs.length v).run x.P w' = .ok (bvs xs).toArray w') →
    ∃ v' w' Φ' M' I',(execOp a.eval ⟨some d,.call ⟨.builtin .append,#[y,z],#[t,t2]⟩,ty,pos,af,g⟩).run x.P w = .ok (.value v') w'∧(∀ φ∈Φ',φ.p I')∧Wd x.E I' M' w'∧G x Φ' ((d,v')::L) M' K:=by
   intro ba cap hve hcap hold
   subst hve
   have hncap:Builtin.nextslicecap (xs.length+ys.length) cap*i.bytes≤281474976710656:=by
    rw [hby,Nat.mul_one]
    exact Nat.le_trans (nextslicecap_le _ _ hcap) hlen
   obtain ⟨nc,hnc,hrun⟩:=run_appB_grow (ty:=ty) ht.h hs1 hi hz hold hd1 hl2 hcap oM hncap
   have hzl:(Builtin.zeroCells zv.cells (nc-(xs.length+ys.length))).toList.length=nc-(xs.length+ys.length):=by
    rw [Array.length_toList,size_zeroCells,← Array.length_toList,cells_toList,hzs];simp
   have hob:Ob (bvs xs++bvs ys++(Builtin.zeroCells zv.cells (nc-(xs.length+ys.length))).toList) e=bufO e (xs++ys) (Builtin.zeroCells zv.cells (nc-(xs.length+ys.length))).toList 0:=by
    unfold Ob bufO;rw [bvs_append]
   rw [hob] at hrun
   refine ⟨_,_,Φ,_,I,by rw [base,hrun];rfl,hp,Wd.alloc (Wd.drew (hw'.sub (List.sublist_append_right _ _))) _,?_⟩
   refine h _ (some (w.heap.size,(Builtin.zeroCells zv.cells (nc-(xs.length+ys.length))).toList,0)) ⟨?_,Nat.zero_le _,by rw [List.length_append];omega⟩
   rw [hzl,List.length_append,show xs.length+ys.length+(nc-(xs.length+ys.length))=nc from by omega]
  cases o with
  | none =>
   obtain ⟨rfl,rfl⟩:=hv
   by_cases hy0:ys=[]
   ·subst hy0
    have hrun:(Builtin.append_ #[t,t2] ty #[.slice none 0 0,u]).run x.P w = .ok (.slice none 0 0) w:=by
     have hn':=hd1 w rfl
     simp [bvs] at hn' hl2
     rcases hs1 with ht2|⟨e2,ht2⟩<;>simp [Builtin.append_,run_underlying ht.h,run_underlying ht2,sizeOf,typeInfo,hi,hl2,hn']
    exact ⟨_,_,Φ,_,I,by rw [base,hrun];rfl,hp,hw',h _ none ⟨rfl,rfl⟩⟩
   ·exact grow none 0 oI (by have:=List.length_pos_iff.2 hy0;simp;omega) (fun w' _=>by simp [Builtin.firstCells,Sem.run_pure,bvs])
  | some p =>
   obtain ⟨b,ex,k⟩:=p
   obtain ⟨rfl,hk1,hk2⟩:=hv
   have hbk:w.heap[b]? = some (bufO e xs ex k):=hw'.own (b,bufO e xs ex k) (by simp [bufM])
   have hbk':w.heap[b]? = some (.cells (bvs xs++ex).toArray e (0,k)):=hbk
   by_cases hroom:xs.length+ys.length≤xs.length+ex.length
   ·have hfit:xs.length*i.size+(bvs ys).length≤(bvs xs++ex).length:=by
     rw [hsz,List.length_append,bvs_length,bvs_length];omega
    have hrun:=run_appB_room (ty:=ty) ht.h hs1 hi hbk' (by rw [hsz];omega) hd1 (bvs_ones ys) hl2 hroom hfit
    have hsp:splice (bvs xs++ex) (xs.length*i.size) (bvs ys)=bvs (xs++ys)++ex.drop ys.length:=by
     rw [hsz,Nat.mul_one,bvs_append]
     unfold splice
     rw [bvs_length,List.take_append_of_le_length (by rw [bvs_length];omega),List.take_of_length_le (by rw [bvs_length];omega)]
     rw [List.append_assoc,← List.drop_drop,show (bvs xs++ex).drop xs.length=ex from by
      rw [← bvs_length xs];exact List.drop_left]
     rw [List.append_assoc]
    rw [hsp,putObj_row hbk'] at hrun
    have hw3:Wd x.E I ((b,bufO e (xs++ys) (ex.drop ys.length) k)::Mr) (w.putObj b (bufO e (xs++ys) (ex.drop ys.length) k)) :=
     putObj_own (M:=(b,bufO e xs ex k)::Mr) (o:=bufO e xs ex k) hw'
    refine ⟨_,_,Φ,_,I,by rw [base,hrun];rfl,hp,hw3,?_⟩
    refine h _ (some (b,ex.drop ys.length,k)) ⟨?_,by rw [List.length_append];omega,by rw [List.length_append,List.length_drop];omega⟩
    rw [List.length_append,List.length_drop,show xs.length+ys.length+(ex.length-ys.length)=xs.length+ex.length from by omega]
   ·refine grow (some ⟨b,0,none⟩) (xs.length+ex.length) rfl oM (fun w' hw'' => ?_)
    simp only [Builtin.firstCells,hsz,Nat.mul_one]
    have:=loadCells_obj (P:=x.P) (w:=w') (b:=b) (off:=0) (n:=xs.length) (c:=(bvs xs++ex).toArray) (t:=e) (fr:=(0,k)) (by rw [hw''];exact hbk') (by simp [bvs_length])
    simpa [bvs_length] using this)
theorem o_sliceData {t:TypeId} {y:Operand} {a:Option Addr} {n c:Nat} (hdN:Nat.blt d x.N=true) (hg:gd ops L g=some true) (hy:ev L y=some (.slice a n c)) (hc:a.isSome=true→0<c)
  (h:G x Φ ((d,.pointer a)::L) M K):OpK x ops Q ⟨some d,.call ⟨.builtin .unsafeSliceData,#[y],#[t]⟩,ty,pos,af,g⟩ Φ L M K :=
 OpK.val rfl hdN hg oI (fun I b w hp hk hw=>by
  have e:(Builtin.unsafeSliceData_ #[t] ty #[.slice a n c]).run x.P w = .ok (.pointer a) w:=by
   cases a with
   | none=>rfl
   | some a=>exact Lib.run_unsafeSliceData_row _ _ _ _ _ _ (by have:=hc rfl;omega)
  simp [execOp,resolve,hk.eval hy,invoke,builtin,e,Sem.run_bind,Result.andThen,Sem.run_pure]) h
class PtTy (P:Program) (t:TypeId) (e:outParam TypeId):Prop where h:P.underlying t=some (.pointer e)
theorem o_unsafeString {t t2 e:TypeId} {y z:Operand} {xs:List UInt8} {b k:Nat} {ex:List Value} {M':Own} [hp:PtTy x.P t e] (hc:x.P.cellsOf e=1) (hk:k≤xs.length) (hl:xs.length≤9223372036854775807) (hdN:Nat.blt d x.N=true) (hg:gd ops L g=some true) (hy:ev L y=some (.pointer (some ⟨b,0,none⟩))) (hz:ev L z=some (.int .i64 (xs.length:Int)))
  [hm:MGet M b (bufO e xs ex k)] [hm':MSet M b (bufO e xs ex k) (bufO e xs ex xs.length) M'] (h:G x Φ ((d,.string (ba xs))::L) M' K):OpK x ops Q ⟨some d,.call ⟨.builtin .unsafeString,#[y,z],#[t,t2]⟩,ty,pos,af,g⟩ Φ L M K :=
 OpK.mem rfl hdN hg oI (fun I a w hpf hkn hw=>by
  have hb:w.heap[b]? = some (bufO e xs ex k):=hw.own (b,bufO e xs ex k) hm.h
  have hb':w.heap[b]? = some (.cells (bvs xs++ex).toArray e (0,k)):=hb
  have run : ∃ w',(Builtin.unsafeString_ #[t,t2] ty #[.pointer (some ⟨b,0,none⟩),.int .i64 (xs.length:Int)]).run x.P w = .ok (.string (ba xs)) w'∧Wd x.E I M' w':=by
   by_cases h0:xs=[]
   ·subst h0
    refine ⟨w,rfl,?_⟩
    have hk0:k=0:=by simpa using hk
    subst hk0
    obtain ⟨M1,M2,rfl,rfl⟩:=hm'.h
    exact hw
   ·have hn:xs.length≠0:=by simpa using h0
    refine ⟨w.freeze ⟨b,0,none⟩ xs.length,Lib.run_unsafeString_row w t t2 ty e hp.h hc b (bvs xs++ex).toArray.size (by unfold World.shape?;rw [hb']) xs h0 (by simp [bvs_length]) hl ?_,?_⟩
    ·intro j y hj
     have hjl:j<xs.length:=(List.getElem?_eq_some_iff.1 hj).1
     have e1:(bvs xs++ex)[j]? = some (.int .u8 (y.toNat:Int)):=by
      rw [List.getElem?_append_left (by rw [bvs_length];exact hjl)]
      simp [bvs,hj]
     rw [add_mk]
     simp only [World.cell?,hb']
     simpa using e1
    ·rw [freeze_row hn hk hb']
     exact putObj_own (o:=bufO e xs ex k) (o':=bufO e xs ex xs.length) hw
  obtain ⟨w',hr,hw2⟩:=run
  exact ⟨_,w',Φ,M',I,by simp [execOp,resolve,hkn.eval hy,hkn.eval hz,invoke,builtin,hr,Sem.run_bind,Result.andThen,Sem.run_pure],hpf,hw2,h⟩)
theorem o_unsafeString0 {t t2:TypeId} {y z:Operand} (hdN:Nat.blt d x.N=true) (hg:gd ops L g=some true) (hy:ev L y=some (.pointer none)) (hz:ev L z=some (.int .i64 0))
  (h:G x Φ ((d,.string (ba []))::L) M K):OpK x ops Q ⟨some d,.call ⟨.builtin .unsafeString,#[y,z],#[t,t2]⟩,ty,pos,af,g⟩ Φ L M K :=
 OpK.val rfl hdN hg oI (fun I b w hp hk hw=>by
  have e:(Builtin.unsafeString_ #[t,t2] ty #[.pointer none,.int .i64 0]).run x.P w = .ok (.string (ba [])) w:=rfl
  simp [execOp,resolve,hk.eval hy,hk.eval hz,invoke,builtin,e,Sem.run_bind,Result.andThen,Sem.run_pure]) h
end
end Go.Rail
set_option linter.unusedSimpArgs false
set_option linter.unusedVariables false
namespace Go.Rail
open Go
section
variable {P:Program} {t e:TypeId}
instance (priority:=high) EqOn.nilPtr [hp:PtTy P t e]:EqOn P t (.pointer none) (.pointer none) true where
 eq:=fun w=>by
  have h : ∀ d:Nat,(Op.equalIn (d+1) t (.pointer none) (.pointer none)).run P w = .ok true w:=fun d=>by
   simp [Op.equalIn,run_underlying hp.h,samePointer]
  simp only [binOp]
  simp [Op.equal,Op.maxDepth,h 9999]
 ne:=fun w=>by
  have h : ∀ d:Nat,(Op.equalIn (d+1) t (.pointer none) (.pointer none)).run P w = .ok true w:=fun d=>by
   simp [Op.equalIn,run_underlying hp.h,samePointer]
  simp only [binOp]
  simp [Op.equal,Op.maxDepth,h 9999]
 guard:=fun op p q w=>by unfold eqGuard;split<;>simp [Sem.run_pure]
instance EqOn.ptrNil {a:Addr} [hp:PtTy P t e]:EqOn P t (.pointer (some a)) (.pointer none) false where
 eq:=fun w=>by
  have h : ∀ d:Nat,(Op.equalIn (d+1) t (.pointer (some a)) (.pointer none)).run P w = .ok false w:=fun d=>by
   simp [Op.equalIn,run_underlying hp.h,samePointer]
  simp only [binOp]
  simp [Op.equal,Op.maxDepth,h 9999]
 ne:=fun w=>by
  have h : ∀ d:Nat,(Op.equalIn (d+1) t (.pointer (some a)) (.pointer none)).run P w = .ok false w:=fun d=>by
   simp [Op.equalIn,run_underlying hp.h,samePointer]
  simp only [binOp]
  simp [Op.equal,Op.maxDepth,h 9999]
 guard:=fun op p q w=>by unfold eqGuard;split<;>simp [Sem.run_pure]
class Rm (P:Program) (t:TypeId):Prop where h : ∃ j,P.info? t=some j∧j.size≠0
theorem Rm.of (h:((P.info? t).map fun j=>Nat.blt 0 j.size)=some true):Rm P t:=by
 cases hi:P.info? t with
 | none=>rw [hi] at h;cases h
 | some j =>
  rw [hi] at h
  have h1:Nat.blt 0 j.size=true:=Option.some.inj h
  have h2:0<j.size:=by simpa using h1
  exact ⟨⟨j,hi,by omega⟩⟩
instance EqOn.ptrSame {a:Addr} [hp:PtTy P t e] [hr:Rm P e]:EqOn P t (.pointer (some a)) (.pointer (some a)) true where
 eq:=fun w=>by
  obtain ⟨j,hj,_⟩:=hr.h
  have h : ∀ d:Nat,(Op.equalIn (d+1) t (.pointer (some a)) (.pointer (some a))).run P w = .ok true w:=fun d=>by
   simp [Op.equalIn,run_underlying hp.h,sizeOf,typeInfo,hj,run_sameAddr_same]
  simp only [binOp]
  simp [Op.equal,Op.maxDepth,h 9999]
 ne:=fun w=>by
  obtain ⟨j,hj,_⟩:=hr.h
  exact Lib.run_neq_ptr_same w a hp.h hj
 guard:=fun op p q w=>by unfold eqGuard;split<;>simp [Sem.run_pure]
class UnTy (P:Program) (t:TypeId):Prop where h:P.underlying t=some .unsafePointer
end
section
variable {x:Cx} {Q:Exit→Act→World→Prop} {Φ:List Fa} {L:Env} {M:Own} {ops:Array Oper} {K:Act→World→Prop}
variable {d:Nat} {ty:TypeId} {pos:String} {af:Array Edge} {g:Option (Nat × Bool)}
theorem o_toUnsafe {s t u e:TypeId} {y:Operand} {b:Nat} {cs:List Value} [hs:PtTy x.P s u] [ht:UnTy x.P t] [hr:Rm x.P u] [hm:MGet M b (Ob cs e)] (hdN:Nat.blt d x.N=true) (hg:gd ops L g=some true) (hy:ev L y=some (.pointer (some ⟨b,0,none⟩))) (hc:Nat.blt 0 cs.length=true)
  (h:G x Φ ((d,.pointer (some ⟨b,0,none⟩))::L) M K):OpK x ops Q ⟨some d,.convert s t y,ty,pos,af,g⟩ Φ L M K :=
 OpK.val rfl hdN hg oI (fun I a w hp hk hw=>by
  obtain ⟨j,hj,hj0⟩:=hr.h
  have hb:w.heap[b]? = some (Ob cs e):=hw.own (b,Ob cs e) hm.h
  have hc':0<cs.toArray.size:=by simpa using hc
  have e1:=Lib.run_to_unsafe (P:=x.P) w ⟨b,0,none⟩ hs.h ht.h hj hj0 (e:=e) (cells:=cs.toArray.size) (by unfold World.shape?;rw [hb];rfl) hc'
  simp [execOp,hk.eval hy,e1,Sem.run_bind,Result.andThen,Sem.run_pure]) h
theorem o_fromUnsafe {s t u e:TypeId} {y:Operand} {b:Nat} {cs:List Value} [hs:UnTy x.P s] [ht:PtTy x.P t u] [hr:Rm x.P u] [hm:MGet M b (Ob cs e)] (hdN:Nat.blt d x.N=true) (hg:gd ops L g=some true) (hy:ev L y=some (.pointer (some ⟨b,0,none⟩))) (hl:liesAt x.P x.P.depth e (cs.length/x.P.cellsOf e) 0 u 1=true)
  (h:G x Φ ((d,.pointer (some ⟨b,0,none⟩))::L) M K):OpK x ops Q ⟨some d,.convert s t y,ty,pos,af,g⟩ Φ L M K :=
 OpK.val rfl hdN hg oI (fun I a w hp hk hw=>by
  obtain ⟨j,hj,hj0⟩:=hr.h
  have hb:w.heap[b]? = some (Ob cs e):=hw.own (b,Ob cs e) hm.h
  have e1:=Lib.run_from_unsafe (P:=x.P) w ⟨b,0,none⟩ hs.h ht.h hj (e:=e) (cells:=cs.toArray.size) (by unfold World.shape?;rw [hb];rfl) (by simpa using hl)
  simp [execOp,hk.eval hy,e1,Sem.run_bind,Result.andThen,Sem.run_pure]) h
theorem o_noEscape {y p:Operand} {ts:Array TypeId} {f:FuncId} {v:Value} [hf:ExtF x.P f Extern.AbiNoEscape.same] (hdN:Nat.blt d x.N=true) (hg:gd ops L g=some true) (hy:ev L y=some (.func (.func f) #[] #[])) (hp':ev L p=some v)
  (h:G x Φ ((d,v)::L) M K):OpK x ops Q ⟨some d,.call ⟨.value y,#[p],ts⟩,ty,pos,af,g⟩ Φ L M K :=
 OpK.val rfl hdN hg oI (fun I a w hp hk hw=>by
  have e1:(Extern.AbiNoEscape.same #[v]).run x.P w = .ok v w:=rfl
  simp [execOp,resolve,hk.eval hy,hk.eval hp',Deferred.ofValue,invoke,hf.h,e1,Sem.run_bind,Result.andThen,Sem.run_pure]) h
end
section
variable {x:Cx} {Q:Exit→Act→World→Prop} {Φ:List Fa} {L:Env} {M:Own} {ops:Array Oper} {K:Act→World→Prop}
variable {d:Option Nat} {ty:TypeId} {pos:String} {af:Array Edge} {g:Option (Nat × Bool)} {y:Operand}
theorem kf_nilCheck {pp:Prop} (h:pp→OpK x ops Q ⟨d,.nilCheck y,ty,pos,af,g⟩ Φ L M K):pp→OpK x ops Q ⟨d,.nilCheck y,ty,pos,af,g⟩ Φ L M K:=h
end
theorem stq {p q:Prop} (hp:p) (s:p→q:=by
 first
  | (apply kf_op;apply kf_nilCheck;exact o_nilCheck rfl rfl rfl)
  | (apply kf_op;apply kf_convert;first|exact o_toUnsafe rfl rfl rfl rfl|exact o_fromUnsafe rfl rfl rfl kR)
  | (apply kf_op;apply kf_call;first|exact o_noEscape rfl rfl rfl rfl|exact o_sliceData rfl rfl rfl (fun h=>by first|omega|(cases h;done)))
  | (apply kf_op;apply kf_binOp;first|(apply kb_eql;exact o_eql rfl rfl rfl rfl rfl)|(apply kb_neq;exact o_neq rfl rfl rfl rfl rfl))):q:=s hp
section
variable {x:Cx} {Q:Exit→Act→World→Prop} {Φ:List Fa} {L:Env} {M:Own}
variable {l:List Oper} {ks:List DOp} {as:List (List Nat)} {i n:Nat}
theorem AllQ.aq (t:AllQ x Q l ks as Φ L M (i+1) n) (h:Quiet x Q l ks as Φ L M i:=by
 (intro c z0 Φr Lr K;refine nrm ?_;intro hK;(first|refine sty ?_|refine st ?_|refine stz ?_|refine stq ?_);(first|exact hK z0|exact hK))):AllQ x Q l ks as Φ L M i (n+1):=⟨h,t⟩
end
end Go.Rail
set_option linter.unusedSimpArgs false
set_option linter.unusedVariables false
namespace Go.Rail
open Go
section
variable {x:Cx} {Q:Exit→Act→World→Prop} {Φ:List Fa} {L:Env} {M:Own} {ops:Array Oper} {K:Act→World→Prop}
variable {d:Nat} {ty:TypeId} {pos:String} {af:Array Edge} {g:Option (Nat × Bool)}
theorem u8_back (c:UInt8):((c.toNat:Nat):Int).toNat.toUInt8=c:=by
 rw [Int.toNat_natCast]
 exact UInt8.toNat_inj.1 oI
theorem o_idxByteT {y p q:Operand} {ts:Array TypeId} {f:FuncId} {l:List UInt8} {c:UInt8} [hf:ExtF x.P f Extern.BytealgIndexByte.indexByte] (hdN:Nat.blt d x.N=true) (hg:gd ops L g=some true) (hy:ev L y=some (.func (.func f) #[] #[])) (hp':ev L p=some (.string (ba l))) (hq':ev L q=some (.int .u8 (c.toNat:Int)))
  (h:G x Φ ((d,.int .i64 (Lib.indexByte l c))::L) M K):OpK x ops Q ⟨some d,.call ⟨.value y,#[p,q],ts⟩,ty,pos,af,g⟩ Φ L M K :=
 OpK.val rfl hdN hg oI (fun I a w hp hk hw=>by
  have e1:(Extern.BytealgIndexByte.indexByte #[.string (ba l),.int .u8 (c.toNat:Int)]).run x.P w = .ok (.int .i64 (Lib.indexByte l c)) w:=by
   rw [Lib.run_indexByteString,u8_back]
  simp [execOp,resolve,hk.eval hy,hk.eval hp',hk.eval hq',Deferred.ofValue,invoke,hf.h,e1,Sem.run_bind,Result.andThen,Sem.run_pure]) h
theorem o_countT {y p q:Operand} {ts:Array TypeId} {f:FuncId} {l:List UInt8} {c:UInt8} [hf:ExtF x.P f Extern.BytealgCount.count] (hdN:Nat.blt d x.N=true) (hg:gd ops L g=some true) (hy:ev L y=some (.func (.func f) #[] #[])) (hp':ev L p=some (.string (ba l))) (hq':ev L q=some (.int .u8 (c.toNat:Int)))
  (h:G x Φ ((d,.int .i64 ((l.count c:Nat):Int))::L) M K):OpK x ops Q ⟨some d,.call ⟨.value y,#[p,q],ts⟩,ty,pos,af,g⟩ Φ L M K :=
 OpK.val rfl hdN hg oI (fun I a w hp hk hw=>by
  have e1:(Extern.BytealgCount.count #[.string (ba l),.int .u8 (c.toNat:Int)]).run x.P w = .ok (.int .i64 ((l.count c:Nat):Int)) w:=by
   rw [Lib.run_countString,u8_back];rfl
  simp [execOp,resolve,hk.eval hy,hk.eval hp',hk.eval hq',Deferred.ofValue,invoke,hf.h,e1,Sem.run_bind,Result.andThen,Sem.run_pure]) h
end
theorem o_ixG {x:Cx} {Q:Exit→Act→World→Prop} {Φ:List Fa} {L:Env} {M:Own} {ops:Array Oper} {K:Act→World→Prop} {d:Nat} {ty:TypeId} {pos:String} {af:Array Edge} {g:Option (Nat × Bool)}
  {t:TypeId} {y z:Operand} {k:IntKind} {l:List UInt8} {q:Int} (i:Nat) (u:UInt8) [ht:StrTy x.P t] (hdN:Nat.blt d x.N=true) (hg:gd ops L g=some true) (hy:ev L y=some (.string (ba l))) (hz:ev L z=some (.int k q)) (hq:q=(i:Int)) (hi:l[i]? = some u)
  (h:G x Φ ((d,.int .u8 ((u.toNat:Nat):Int))::L) M K):OpK x ops Q ⟨some d,.index t y z,ty,pos,af,g⟩ Φ L M K:=by
 obtain ⟨hl,rfl⟩:=List.getElem?_eq_some_iff.1 hi
 exact o_ixT i hdN hg hy hz hq hl h
theorem ofInt_u8 (a:Nat) (ha:a<256):(BitVec.ofInt 8 (a:Int)).toNat=a:=by
 rw [BitVec.ofInt_natCast,BitVec.toNat_ofNat];exact Nat.mod_eq_of_lt oM
theorem wrap_u8 (a:Nat) (ha:a<256):IntKind.u8.wrap (a:Int)=a:=by
 simp [IntKind.wrap,IntKind.max,IntKind.signed,IntKind.bits,IntKind.min];omega
theorem b_and (a b:Nat) (ha:a<256) (hb:b<256):intOp .and .u8 (a:Int) (b:Int)=some (.int .u8 ((a&&&b:Nat):Int)):=by
 have h:bits .and .u8 (a:Int) (b:Int)=((a&&&b:Nat):Int):=by
  have hx:a&&&b<2^8:=Nat.and_lt_two_pow _ oM
  show IntKind.u8.wrap ((BitVec.ofInt 8 (a:Int)&&&BitVec.ofInt 8 (b:Int)).toNat:Int)=_
  rw [BitVec.toNat_and,ofInt_u8 a ha,ofInt_u8 b hb,wrap_u8 _ hx]
 unfold intOp;exact congrArg (fun v=>some (Value.int .u8 v)) h
theorem b_or (a b:Nat) (ha:a<256) (hb:b<256):intOp .or .u8 (a:Int) (b:Int)=some (.int .u8 ((a|||b:Nat):Int)):=by
 have h:bits .or .u8 (a:Int) (b:Int)=((a|||b:Nat):Int):=by
  have hx:a|||b<2^8:=Nat.or_lt_two_pow oM oM
  show IntKind.u8.wrap ((BitVec.ofInt 8 (a:Int)|||BitVec.ofInt 8 (b:Int)).toNat:Int)=_
  rw [BitVec.toNat_or,ofInt_u8 a ha,ofInt_u8 b hb,wrap_u8 _ hx]
 unfold intOp;exact congrArg (fun v=>some (Value.int .u8 v)) h
theorem b_and15 (c:UInt8):intOp .and .u8 ((c.toNat:Nat):Int) 15=some (.int .u8 ((c.toNat%16:Nat):Int)):=by
 have h:=b_and c.toNat 15 c.toNat_lt oE
 rw [Nat.and_two_pow_sub_one_eq_mod c.toNat 4] at h
 exact h
theorem b_shr4 (c:UInt8):Value.int .u8 (((c.toNat:Nat):Int).fdiv (2^(min (4:Int).toNat IntKind.u8.bits))) = .int .u8 ((c.toNat/16:Nat):Int):=by
 refine congrArg (Value.int .u8) ?_
 rw [show min (4:Int).toNat IntKind.u8.bits=4 from rfl,Int.fdiv_eq_ediv_of_nonneg _ oE]
 simp
def idxB (l:List UInt8) (c:UInt8):Nat:=(l.takeWhile (· != c)).length
theorem idxB_eq (c:UInt8) (l:List UInt8):idxB (c::l) c=0:=by
 unfold idxB;rw [List.takeWhile_cons_of_neg oI];rfl
theorem idxB_ne {b c:UInt8} (l:List UInt8) (h : ¬ b=c):idxB (b::l) c=idxB l c+1:=by
 unfold idxB;rw [List.takeWhile_cons_of_pos (by simpa using h)];rfl
theorem indexByte_eq (l:List UInt8) (c:UInt8):Lib.indexByte l c=if idxB l c<l.length then (idxB l c:Int) else -1:=by
 induction l with
 | nil=>rfl
 | cons b l ih =>
  unfold Lib.indexByte
  by_cases h:b=c
  ·subst h
   rw [idxB_eq]
   simp
  ·have h1:(b==c)=false:=by simpa using h
   rw [h1,idxB_ne l h,ih]
   simp only [List.length_cons,Bool.false_eq_true,if_false]
   by_cases h3:idxB l c<l.length
   ·rw [if_pos h3,if_neg (by simp;try omega),if_pos oM];omega
   ·rw [if_neg h3,if_pos (by rfl),if_neg oM]
theorem idxB_at (l:List UInt8) (c:UInt8) (h:idxB l c<l.length):l[idxB l c]? = some c∧l.take (idxB l c)=l.takeWhile (· != c):=by
 have e:l.takeWhile (· != c)++l.dropWhile (· != c)=l:=List.takeWhile_append_dropWhile
 have hd:l.dropWhile (· != c)≠[]:=by
  intro h0
  rw [h0,List.append_nil] at e
  unfold idxB at h
  rw [e] at h
  omega
 constructor
 ·unfold idxB
  conv=>lhs;arg 1;rw [← e]
  rw [List.getElem?_append_right (Nat.le_refl _),Nat.sub_self]
  have h1:=List.head_dropWhile_not (p:=(· != c)) hd
  rw [← List.head?_eq_getElem?,List.head?_eq_some_head hd]
  congr 1
  simpa using h1
 ·unfold idxB
  conv=>lhs;arg 2;rw [← e]
  exact List.take_left
def cT (A:List ByteArray):List Value:=A.map .string
theorem cT_length (A:List ByteArray):(cT A).length=A.length:=by simp [cT]
theorem rowT (I:Imm) (A:List ByteArray):RowRep I (cT A) 0 A:=⟨by rw [cT_length];show 0+A.length*1≤_;omega,fun k hk=>chunk_map _ A hk⟩
instance Ent'.cT {Φ:List Fa} {A:List ByteArray}:Ent' Φ (fRow (cT A) A):=⟨fun I _=>rowT I A⟩
theorem cT_zeros (n:Nat):zerosL [.string (ba [])] n=cT (List.replicate n (ba [])):=by rw [zeros_one,cT,List.map_replicate]
theorem cT_set (A:List ByteArray) (k:Nat) (u:ByteArray) (hk:k<A.length):(cT A).take k++[.string u]++(cT A).drop (k+1)=cT (A.set k u):=set_map _ A k u hk
theorem o_storeT {x:Cx} {Q:Exit→Act→World→Prop} {Φ:List Fa} {L:Env} {M:Own} {ops:Array Oper} {K:Act→World→Prop} {ty:TypeId} {pos:String} {af:Array Edge} {g:Option (Nat × Bool)}
  {t:TypeId} {y z:Operand} {b i e:Nat} {u:ByteArray} {A:List ByteArray} {M':Own} [hs:Siz x.P t 1] (hg:gd ops L g=some true) (hy:ev L y=some (.pointer (some ⟨b,i,none⟩))) (hz:ev L z=some (.string u)) (hi:i<A.length)
  [hm:MGet M b (Ob (cT A) e)] [hm':MSet M b (Ob (cT A) e) (Ob (cT (A.set i u)) e) M'] (h:G x Φ L M' K):OpK x ops Q ⟨none,.store t y z,ty,pos,af,g⟩ Φ L M K :=
 o_store (hm:=hm) (hm':=hm') (vs:=[.string u]) hg hy hz rfl rfl (by rw [cT_length];show i+1≤_;omega) rfl (cT_set A i u hi) h
def splitB (c:UInt8):List UInt8→List (List UInt8)
 | []=>[[]]
 | x::r=>if x=c then []::splitB c r else match splitB c r with
  | []=>[[x]]
  | h::t=>(x::h)::t
theorem splitB_ne (c:UInt8) (l:List UInt8):splitB c l≠[]:=by
 cases l with
 | nil=>simp [splitB]
 | cons x r=>unfold splitB;split;simp;split<;>simp
theorem splitB_len (c:UInt8) (l:List UInt8):(splitB c l).length=l.count c+1:=by
 induction l with
 | nil=>rfl
 | cons x r ih =>
  unfold splitB
  by_cases h:x=c
  ·subst h;simp [ih]
  ·rw [if_neg h,List.count_cons_of_ne h]
   cases hs:splitB c r with
   | nil=>exact absurd hs (splitB_ne c r)
   | cons a t=>rw [hs] at ih;simpa using ih
theorem splitB_cut (c:UInt8) (l:List UInt8):splitB c l=if idxB l c<l.length then l.take (idxB l c)::splitB c (l.drop (idxB l c+1)) else [l]:=by
 induction l with
 | nil=>rfl
 | cons x r ih =>
  conv=>lhs;unfold splitB
  by_cases h:x=c
  ·subst h;rw [if_pos rfl,idxB_eq,if_pos oI];simp
  ·rw [if_neg h,idxB_ne r h,ih]
   by_cases h2:idxB r c<r.length
   ·rw [if_pos h2,if_pos (by simpa using h2)];simp
   ·rw [if_neg h2,if_neg (by simpa using h2)]
theorem count_cut (c:UInt8) (l:List UInt8):l.count c=if idxB l c<l.length then (l.drop (idxB l c+1)).count c+1 else 0:=by
 have h:=congrArg List.length (splitB_cut c l)
 rw [splitB_len] at h
 by_cases h2:idxB l c<l.length
 ·rw [if_pos h2,List.length_cons,splitB_len] at h;rw [if_pos h2];omega
 ·rw [if_neg h2] at h;rw [if_neg h2];simpa using h
end Go.Rail
set_option linter.unusedSimpArgs false
set_option linter.unusedVariables false
namespace Go.Rail
open Go
def mapT (l:List (List UInt8 × Value)) (j:Nat):List MapEntry:=(l.zipIdx j).map fun e=>⟨.string (ba e.1.1),e.1.2,e.2⟩
def MapT (l:List (List UInt8 × Value)):Obj := .map (mapT l 0).toArray l.length
def getT:List (List UInt8 × Value)→List UInt8→Option Value
 | [],_=>none
 | e::r,k=>if k=e.1 then some e.2 else getT r k
theorem ba_beq (a b:List UInt8):(ba a==ba b)=decide (a=b):=by
 show (a.toArray==b.toArray)=decide (a=b)
 by_cases h:a=b
 ·subst h;simp
 ·have h2:a.toArray≠b.toArray:=fun e=>h (by simpa using e)
  rw [decide_eq_false h]
  exact beq_eq_false_iff_ne.2 h2
theorem mapT_cons (e:List UInt8 × Value) (r:List (List UInt8 × Value)) (j:Nat):mapT (e::r) j=⟨.string (ba e.1),e.2,j⟩::mapT r (j+1):=by
 simp [mapT,List.zipIdx_cons]
theorem findNow_mapT (k:List UInt8) (l:List (List UInt8 × Value)) (j i:Nat) : ∃ f:Option (Nat × Value),Instr.findNow .string (.string (ba k)) (mapT l j) i=some f∧f.map Prod.snd=getT l k:=by
 induction l generalizing i j with
 | nil=>exact ⟨none,rfl,rfl⟩
 | cons e r ih =>
  rw [mapT_cons,Instr.findNow,getT]
  by_cases h:k=e.1
  ·have hb:(ba k==ba e.1)=true:=by rw [ba_beq];simpa using h
   exact ⟨some (i,e.2),by simp only [Instr.sameNow,hb],by simp [h]⟩
  ·have hb:(ba k==ba e.1)=false:=by rw [ba_beq];simpa using h
   obtain ⟨f,h1,h2⟩:=ih (j+1) (i+1)
   exact ⟨f,by simp only [Instr.sameNow,hb,h1],by simp [h,h2]⟩
theorem findKey_t {P:Program} {t:TypeId} {k:List UInt8} {l:List (List UInt8 × Value)} {w:World} (ht:P.underlying t=some .string) : ∃ f:Option (Nat × Value),(Instr.findKey t (.string (ba k)) (mapT l 0)).run P w = .ok f w∧f.map Prod.snd=getT l k:=by
 obtain ⟨f,h1,h2⟩:=findNow_mapT k l 0 0
 exact ⟨f,by simp [Instr.findKey,run_underlying ht,Sem.run_bind,Result.andThen,Sem.run_pure,h1],h2⟩
theorem checkKey_t {P:Program} {b:Bool} {n:Nat} {t:TypeId} {k:ByteArray} {w:World} (ht:P.underlying t=some .string):(Instr.checkKey b (n+1) t (.string k)).run P w = .ok () w:=by
 simp [Instr.checkKey,run_underlying ht,Sem.run_bind,Result.andThen,Sem.run_pure]
theorem insT_run {P:Program} {t kt et:TypeId} {b:Nat} {l:List (List UInt8 × Value)} {k:List UInt8} {v:Value} {w:World} (ht:P.underlying t=some (.map kt et)) (hkt:P.underlying kt=some .string) (hn:getT l k=none) (hb:w.heap[b]? = some (MapT l)) :
  (Instr.mapUpdate t (.map (some b)) (.string (ba k)) v).run P w = .ok () {w with heap:=w.heap.setIfInBounds b (MapT (l++[(k,v)]))}:=by
 have hc : ∀ w,(Instr.checkKey false 10000 kt (.string (ba k))).run P w = .ok () w:=fun w=>checkKey_t (n:=9999) hkt
 obtain ⟨f,hf,h2⟩:=findKey_t (P:=P) (k:=k) (l:=l) (w:=w) hkt
 rw [hn] at h2
 have hf0:f=none:=by cases f<;>simp_all
 subst hf0
 have e2:MapT (l++[(k,v)]) = .map ((mapT l 0).toArray.push ⟨.string (ba k),v,l.length⟩) (l.length+1):=by
  rw [MapT,mapT,mapT]
  simp [List.zipIdx_append]
 rw [e2]
 simp [Instr.mapUpdate,run_underlying ht,Sem.run_bind,Result.andThen,Sem.run_pure,run_getMap hb,hc,hf,run_setMap _ hb]
theorem lookT_run {P:Program} {t kt et:TypeId} {b:Nat} {l:List (List UInt8 × Value)} {k:List UInt8} {z:Value} {w:World} (ht:P.underlying t=some (.map kt et)) (hkt:P.underlying kt=some .string) (hz : ∀ w,(zeroValue et).run P w = .ok z w) (hb:w.heap[b]? = some (MapT l)) :
  (Instr.lookup t (.map (some b)) (.string (ba k)) true).run P w = .ok (.tuple #[(getT l k).getD z,.bool (getT l k).isSome]) w:=by
 have hc : ∀ bb w,(Instr.checkKey bb 10000 kt (.string (ba k))).run P w = .ok () w:=fun bb w=>checkKey_t (n:=9999) hkt
 obtain ⟨f,hf,h2⟩:=findKey_t (P:=P) (k:=k) (l:=l) (w:=w) hkt
 rw [← h2]
 cases f with
 | none=>simp [Instr.lookup,run_underlying ht,Sem.run_bind,Result.andThen,Sem.run_pure,run_getMap hb,hc,hf,hz]
 | some p=>simp [Instr.lookup,run_underlying ht,Sem.run_bind,Result.andThen,Sem.run_pure,run_getMap hb,hc,hf]
section
variable {x:Cx} {Q:Exit→Act→World→Prop} {Φ:List Fa} {L:Env} {M:Own} {ops:Array Oper} {K:Act→World→Prop}
variable {d:Nat} {ty:TypeId} {pos:String} {af:Array Edge} {g:Option (Nat × Bool)}
theorem o_makeMapT {t:TypeId} (hdN:Nat.blt d x.N=true) (hg:gd ops L g=some true)
  (h : ∀ b,G x Φ ((d,.map (some b))::L) ((b,MapT [])::M) K):OpK x ops Q ⟨some d,.makeMap t none,ty,pos,af,g⟩ Φ L M K :=
 OpK.mem rfl hdN hg oI (fun I a w hp hk hw =>
  ⟨.map (some w.heap.size),w.alloc (MapT []),Φ,_,I,by simp [execOp,Instr.makeMap,run_newMap,Sem.run_bind,Result.andThen,Sem.run_pure,MapT,mapT],hp,hw.alloc _,h w.heap.size⟩)
theorem o_updT {t kt et:TypeId} {y z u:Operand} {b:Nat} {l:List (List UInt8 × Value)} {k:List UInt8} {v:Value} {M:Own} [ht:MpTy x.P t kt et] [hkt:StrTy x.P kt] (hg:gd ops L g=some true) (hy:ev L y=some (.map (some b))) (hz:ev L z=some (.string (ba k))) (hu:ev L u=some v) (hn:getT l k=none)
  (h:G x Φ L ((b,MapT (l++[(k,v)]))::M) K):OpK x ops Q ⟨none,.mapUpdate t y z u,ty,pos,af,g⟩ Φ L ((b,MapT l)::M) K :=
 OpK.mem0 rfl hg oI (fun I a w hp hk hw=>by
  have hb:=hw.own (b,MapT l) List.mem_cons_self
  refine ⟨{w with heap:=w.heap.setIfInBounds b (MapT (l++[(k,v)]))},Φ,_,I,?_,hp,Wd.setMap (o:=MapT l) hw,h⟩
  simp [execOp,hk.eval hy,hk.eval hz,hk.eval hu,Sem.run_bind,Result.andThen,Sem.run_pure,insT_run ht.h hkt.h hn hb])
theorem o_lookT {t kt et:TypeId} {y z:Operand} {b:Nat} {l:List (List UInt8 × Value)} {k:List UInt8} {v:Value} {is:Bool} {z0:Value} [ht:MpTy x.P t kt et] [hkt:StrTy x.P kt] [hz0:ZerV x.P et z0] (hdN:Nat.blt d x.N=true) (hg:gd ops L g=some true) (hy:ev L y=some (.map (some b))) (hz:ev L z=some (.string (ba k)))
  (hm:(b,MapT l)∈M) (hv:(getT l k).getD z0=v) (hi:(getT l k).isSome=is)
  (h:G x Φ ((d,.tuple #[v,.bool is])::L) M K):OpK x ops Q ⟨some d,.lookup t y z true,ty,pos,af,g⟩ Φ L M K :=
 OpK.val rfl hdN hg oI (fun I a w hp hk hw=>by
  have hb:=hw.own _ hm
  subst hv;subst hi
  simp [execOp,hk.eval hy,hk.eval hz,Sem.run_bind,Result.andThen,Sem.run_pure,lookT_run ht.h hkt.h hz0.h hb]) h
end
end Go.Rail
set_option linter.unusedSimpArgs false
set_option linter.unusedVariables false
namespace Go.Rail
open Go
def nbV (b:Nat) (cs:List Value):Value := .agg (Value.int .i64 (b:Int)::cs).toArray
def nbB (z:Value):Nat:=bk ((cellsL z).headD undef)
def nbC (z:Value):List Value:=(cellsL z).tail
section
variable {x:Cx} {Q:Exit→Act→World→Prop} {Φ:List Fa} {L:Env} {M:Own} {l:List Oper}
theorem W.drawNb {id:Nat} {L':Env} (s j t:Nat) (ks:List DOp) (as:List (List Nat)) (live:List Nat)
  (hd:DropR (l.take s) L L':=by (repeat (first|exact DropR.nil|(apply DropR.keep;exact rfl)|(apply DropR.drop;exact rfl))))
  (hops:AllX x Q l ks as Φ L' (mxA j M (fun z=>(nbB z,Ob (nbC z) t)::M)) 0 s)
  (hrest : ∀ c,LW x l.toArray Q (l.drop s) (ancF ks c live Φ) (ancX l ks c live L') ((nbB (c j),Ob (nbC (c j)) t)::M))
  (hloc:AllL l ks 0 s:=by (repeat (first|exact AllL.nil|refine AllL.au ?_)))
  (hm:x.P.follows .mixedOrders=true:=by kernel_rfl) (hjs:Nat.blt j s=true:=by rfl) (hchk:chkDrawX l s as (L'.map Prod.fst)=true:=by kernel_rfl)
  (hdN:(List.range s).all (fun i=>(dstX l i).all fun d=>Nat.blt d x.N)=true:=by kernel_rfl) (hlive:live.all (fun j=>Nat.blt j s)=true:=by kernel_rfl) :
  W x (.region id l.toArray true) Q Φ L M:=W.keep hd.sub (W.drawX s (mxA j M (fun z=>(nbB z,Ob (nbC z) t)::M)) ks as live hm hchk hdN hlive hloc (fun c=>(mxA_f rfl).symm) hops (fun c=>by rw [mxA_t (D:=fun j=>Nat.blt j s) (show (fun j=>Nat.blt j s) j=true from hjs)];exact hrest c))
end
section
variable {x:Cx} {Q:Exit→Act→World→Prop} {Φ:List Fa} {L:Env} {M:Own} {ops:Array Oper} {K:Act→World→Prop}
variable {d:Nat} {ty:TypeId} {pos:String} {af:Array Edge} {g:Option (Nat × Bool)}
theorem o_makeNoZero {y p:Operand} {ts:Array TypeId} {f:FuncId} {ps:Array TypeId} {t e:TypeId} {n:Nat} [hf:ExtF x.P f (Extern.BytealgMakeNoZero.makeNoZero ps #[t])] [ht:SlTy x.P t e] (hn:n≤281474976710656) (hdN:Nat.blt d x.N=true) (hg:gd ops L g=some true)
  (hy:ev L y=some (.func (.func f) #[] #[])) (hp':ev L p=some (.int .i64 (n:Int)))
  (h : ∀ b cs,n≤cs.length→G x Φ ((d,.slice (some ⟨b,0,none⟩) n cs.length)::L) ((b,Ob cs e)::M) K):OpK x ops Q ⟨some d,.call ⟨.value y,#[p],ts⟩,ty,pos,af,g⟩ Φ L M K :=
 OpK.mem rfl hdN hg oI (fun I a w hp hk hw=>by
  obtain ⟨cs,hr,h1,_⟩:=Lib.run_makeNoZero (P:=x.P) w ps t e ht.h n hn
  refine ⟨.slice (some ⟨w.heap.size,0,none⟩) n cs.toList.length,w.drew.drew.alloc (Ob cs.toList e),Φ,(w.heap.size,Ob cs.toList e)::M,I,?_,hp,Wd.alloc (Wd.drew (Wd.drew hw)) (Ob cs.toList e),h w.heap.size cs.toList (by simpa using h1)⟩
  simp [execOp,resolve,hk.eval hy,hk.eval hp',Deferred.ofValue,invoke,hf.h,hr,Sem.run_bind,Result.andThen,Sem.run_pure,Ob])
theorem o_copyNil {dT sT e:TypeId} {sz:Nat} {y z:Operand} {a:Addr} {cap:Nat} [ht:SlTy x.P dT e] [hs:Siz x.P e sz] (hdN:Nat.blt d x.N=true) (hg:gd ops L g=some true) (hy:ev L y=some (.slice (some a) 0 cap)) (hz:ev L z=some (.slice none 0 0))
  (h:G x Φ ((d,.int .i64 0)::L) M K):OpK x ops Q ⟨some d,.call ⟨.builtin .copy,#[y,z],#[dT,sT]⟩,ty,pos,af,g⟩ Φ L M K :=
 OpK.val rfl hdN hg oI (fun I b w hp hk hw=>by
  simp [execOp,resolve,hk.eval hy,hk.eval hz,invoke,builtin,Builtin.copy_,Builtin.lenOf,Builtin.firstCells,run_underlying ht.h,hs.h,storeCells,goInt,Sem.run_bind,Result.andThen,Sem.run_pure]) h
theorem row8 (I:Imm) (l:List UInt8) (ex:List Value):RowRep I (bvs l++ex) 0 l:=by
 have h:RowRep I (bvs l) 0 l:=⟨by rw [bvs_length];show 0+l.length*1≤_;omega,fun k hk=>chunk_map _ l hk⟩
 have:=RowRep.append (rest:=ex) h (by rw [bvs_length];exact (Nat.mul_one _).symm) (ds:=[]) (ys:=[]) ⟨Nat.zero_le _,fun k hk=>absurd hk (Nat.not_lt_zero _)⟩
 simpa using this
theorem bytesWorld_put (w:World) (e:TypeId) (s:ByteArray):Lib.bytesWorld w e s=(w.drew.alloc (.cells (Lib.bytesCells w e s) e)).putObj w.heap.size (.cells (Lib.bytesCells w e s) e ((Lib.bytesCells w e s).size,(Lib.bytesCells w e s).size+1)):=by
 unfold Lib.bytesWorld World.freeze World.putObj
 rw [if_neg oE]
 congr 1
 apply Array.ext_getElem?
 intro i
 rw [Array.getElem?_modify,Array.getElem?_setIfInBounds]
 by_cases e:w.heap.size=i
 ·subst e
  rw [if_pos rfl,if_pos rfl]
  simp [World.alloc,World.drew,-World.alloc_eq,-World.drew_eq]
 ·rw [if_neg e,if_neg e]
theorem o_toB {s t e:TypeId} {y:Operand} {l:List UInt8} [hs:StrTy x.P s] [ht:SlTy x.P t e] [he:IntTy x.P e .u8] (hdN:Nat.blt d x.N=true) (hg:gd ops L g=some true) (hy:ev L y=some (.string (ba l)))
  (h : ∀ v,G x (fRp v l::Φ) ((d,v)::L) M K):OpK x ops Q ⟨some d,.convert s t y,ty,pos,af,g⟩ Φ L M K :=
 OpK.mem rfl hdN hg oI (fun I a w hp hk hw=>by
  have e1:=Lib.run_convert_string_bytes (P:=x.P) w s t e (ba l) hs.h ht.h he.h
  have hcs:Lib.bytesCells w e (ba l)=(bvs l++List.replicate (grownCap w (ba l).size 0 e-(ba l).size) (Value.int .u8 0)).toArray:=by
   unfold Lib.bytesCells
   apply Array.ext'
   simp [bvs]
  have hge:=grownCap_ge w (ba l).size 0 e
  rw [ba_size] at hge
  have hw1:=(Wd.alloc (Wd.drew hw) (.cells (Lib.bytesCells w e (ba l)) e (0,0)))
  have hw2:Wd x.E I ((w.heap.size,.cells (Lib.bytesCells w e (ba l)) e ((Lib.bytesCells w e (ba l)).size,(Lib.bytesCells w e (ba l)).size+1))::M) (Lib.bytesWorld w e (ba l)):=by
   rw [bytesWorld_put]
   exact putObj_own (M:=(w.heap.size,Obj.cells (Lib.bytesCells w e (ba l)) e (0,0))::M) (o := .cells (Lib.bytesCells w e (ba l)) e (0,0)) hw1
  have hg':=hw2.give
  have hnone:I w.heap.size=none:=hw2.sep (w.heap.size,_) (List.Mem.head _)
  refine ⟨.slice (some ⟨w.heap.size,0,none⟩) l.length (grownCap w l.length 0 e),Lib.bytesWorld w e (ba l),_,M,_,?_,?_,hg',h _⟩
  ·rw [ba_size] at e1
   simp [execOp,hk.eval hy,e1,Sem.run_bind,Result.andThen,Sem.run_pure]
  ·intro φ hφ
   rcases List.mem_cons.1 hφ with rfl|hφ
   ·refine Rp.mkSlice ⟨by omega,fun hne=>⟨⟨w.heap.size,0,none⟩,Lib.bytesCells w e (ba l),e,((Lib.bytesCells w e (ba l)).size,(Lib.bytesCells w e (ba l)).size+1),rfl,rfl,if_pos rfl,?_⟩⟩ rfl
    rw [hcs]
    exact row8 _ _ _
   ·exact φ.mono _ _ (Le.give hnone) (hp φ hφ))
theorem o_andNot {t t':TypeId} {y z:Operand} {p q:Int} {a b:Nat} [hp:NL p a] [hq:NL q b] (ha:a<18446744073709551616) (hb:b<18446744073709551616) (hdN:Nat.blt d x.N=true) (hg:gd ops L g=some true) (hy:ev L y=some (.int .u64 p)) (hz:ev L z=some (.int .u64 q))
  (h:G x Φ ((d,.int .u64 ((a&&&(18446744073709551615-b):Nat):Int))::L) M K):OpK x ops Q ⟨some d,.binOp .andNot t y z t',ty,pos,af,g⟩ Φ L M K:=by
 rw [hp.h] at hy
 rw [hq.h] at hz
 exact OpK.val rfl hdN hg oI (fun I c w hp hk hw=>by
  have h1:=u64_andNot_nat a b ha hb
  have e:(binOp .andNot t (.int .u64 (a:Int)) (.int .u64 (b:Int))).run x.P w = .ok (.int .u64 (bits .andNot .u64 (a:Int) (b:Int))) w:=by
   simp [binOp,Op.intBits,Sem.run_pure,bits]
  rw [h1] at e
  simp [execOp,hk.eval hy,hk.eval hz,run_eqGuard_int,e,Sem.run_bind,Result.andThen,Sem.run_pure]) h
theorem o_min3 {ts:Array TypeId} {y1 y2 y3:Operand} {k:IntKind} {p q r:Int} {v:Value} (hdN:Nat.blt d x.N=true) (hg:gd ops L g=some true) (h1:ev L y1=some (.int k p)) (h2:ev L y2=some (.int k q)) (h3:ev L y3=some (.int k r)) (hv:Value.int k (min p (min q r))=v)
  (h:G x Φ ((d,v)::L) M K):OpK x ops Q ⟨some d,.call ⟨.builtin .min,#[y1,y2,y3],ts⟩,ty,pos,af,g⟩ Φ L M K :=
 OpK.val rfl hdN hg oI (fun I a w hp hk hw=>by
  have e:(if r<(if q<p then q else p) then r else (if q<p then q else p))=min p (min q r):=by
   split<;>split<;>omega
  subst hv
  rw [← e]
  simp [execOp,resolve,hk.eval h1,hk.eval h2,hk.eval h3,invoke,builtin,Builtin.min_,Builtin.min2,Sem.run_bind,Result.andThen,Sem.run_pure]) h
end
end Go.Rail
set_option linter.unusedVariables false
namespace Go.Rail
open Go
theorem sq {p q:Prop} (hp:p) (s:p→q:=by
 first
  | (apply kf_op;apply kf_indexAddr;first|exact o_ixZ rfl rfl rfl rfl oG|exact o_ixO rfl rfl rfl rfl oG)
  | (apply kf_op;apply kf_binOp;first
   | (apply kb_lss;first|exact o_int rfl rfl rfl rfl (by first|exact i_lss_t oF|exact i_lss_f oF|exact i_lss_d))
   | (apply kb_leq;first|exact o_int rfl rfl rfl rfl (by first|exact i_leq_t oF|exact i_leq_f oF|exact i_leq_d))
   | (apply kb_gtr;first|exact o_int rfl rfl rfl rfl (by first|exact i_gtr_t oF|exact i_gtr_f oF|exact i_gtr_d))
   | (apply kb_geq;first|exact o_int rfl rfl rfl rfl (by first|exact i_geq_t oF|exact i_geq_f oF|exact i_geq_d))
   | (apply kb_eql;first|exact o_int rfl rfl rfl rfl (by first|exact i_eql_t oF|exact i_eql_f oF|exact i_eql_d)|exact o_eql rfl rfl rfl rfl (decide_eq_true (by first|rfl|assumption))|exact o_eql rfl rfl rfl rfl (decide_eq_false (by assumption))|exact o_eql rfl rfl rfl rfl rfl|exact o_eqT rfl rfl rfl rfl (by first|exact decide_eq_true (by assumption)|exact decide_eq_false (by assumption)|rfl))
   | (apply kb_neq;first|exact o_int rfl rfl rfl rfl (by first|exact i_neq_t oF|exact i_neq_f oF|exact i_neq_d)|exact o_neq rfl rfl rfl rfl (congrArg not (decide_eq_true (by first|rfl|assumption)))|exact o_neq rfl rfl rfl rfl (congrArg not (decide_eq_false (by assumption)))|exact o_neq rfl rfl rfl rfl rfl|exact o_neT rfl rfl rfl rfl (by first|exact decide_eq_true (by assumption)|exact decide_eq_false (by assumption)|rfl))
   | (apply kb_add;first|exact o_int rfl rfl rfl rfl (by first|exact n_addi oM|exact i_add oM oM|exact w_add' oM|exact w_add)|exact o_catT rfl rfl rfl rfl (by first|omega|(simp;omega)))
   | (apply kb_sub;exact o_int rfl rfl rfl rfl (by first|exact n_subi oM oM|exact i_sub oM oM|exact w_sub' oM oM))
   | (apply kb_mul;exact o_int rfl rfl rfl rfl (by first|exact n_muli oM|exact i_mul oM oM|exact w_mul' oM|exact w_mul))
   | (apply kb_quo;exact o_int rfl rfl rfl rfl (by first|exact n_quo oF (by first|decide|(simp [IntKind.max,IntKind.signed,IntKind.bits];omega))))
   | (apply kb_rem;exact o_int rfl rfl rfl rfl (by first|exact n_rem oF|exact i_rem oM))
   | (apply kb_and;exact o_int rfl rfl rfl rfl (w_and (by first|exact Lt64.h|omega) (by first|exact Lt64.h|omega)))
   | (apply kb_or;exact o_int rfl rfl rfl rfl (w_or (by first|exact Lt64.h|omega) (by first|exact Lt64.h|omega)))
   | (apply kb_xor;exact o_int rfl rfl rfl rfl (w_xor (by first|exact Lt64.h|omega) (by first|exact Lt64.h|omega)))
   | (apply kb_shl;exact o_shlN rfl rfl rfl rfl oM)
   | (apply kb_shr;exact o_shrN rfl rfl rfl rfl oM))
  | (apply kf_op;first
   | (apply kf_load;exact o_loadV rfl rfl rfl)
   | (apply kf_build;exact o_buildW rfl rfl rfl)
   | (apply kf_bslice;exact o_litV rfl rfl rfl (by (apply FVs.cons;exact FV.h);repeat (first|exact FVs.nil|(apply FVs.cons;exact FV.h))) (by infer_instance) (by infer_instance) rfl rfl)
   | (apply kf_store;exact o_storeV rfl rfl rfl rfl oY)
   | (apply kf_convert;first|exact o_toK rfl rfl rfl|exact o_conv rfl rfl rfl (by first|exact w_u64 oM oM|exact w_i64 oM oM|exact w_u8 oM oM|exact w_u8m)))
  | (apply kf_op;apply kf_indexAddr;exact o_indexZ rfl rfl rfl rfl oG)
  | exact stpF
  | exact stiF
  | exact stfF
  | exact stbF
  | (apply kf_w;first|exact W.cond_t rfl (by first|assumption|exact decide_eq_true oM|(simp;omega))|exact W.cond_f rfl (by first|assumption|exact decide_eq_false oM|(simp;omega)))
  | (apply kf_op;first
   | (apply kf_call;first|exact o_cv rfl rfl rfl (by repeat (first|exact EvL.nil|(apply EvL.cons;exact rfl)))|exact o_cd rfl rfl rfl (by repeat (first|exact EvL.nil|(apply EvL.cons;exact rfl)))|exact o_lenT rfl rfl rfl|exact o_min rfl rfl rfl rfl rfl|exact o_max rfl rfl rfl rfl rfl)
   | (apply kf_load;exact o_loadNum rfl rfl rfl rfl oM)
   | (apply kf_index;first|exact o_indexV rfl rfl rfl rfl oG rfl|exact o_ixT _ rfl rfl rfl rfl rfl (by first|omega|(simp;omega))|exact o_ixT _ rfl rfl rfl rfl NL.h (by first|omega|(simp;omega)))
   | (apply kf_slice;exact o_slT _ _ rfl rfl rfl (by first|exact bd0|exact bdS rfl) (by first|exact bd0|exact bdS rfl) (by first|omega|(simp;omega)) (by first|omega|(simp;omega))))
  | (apply kf_op;apply kf_load;first|exact o_loadZ rfl rfl rfl oG|exact o_loadU rfl rfl rfl oG)
  | (apply kf_op;apply kf_store;first|exact o_storeZ rfl rfl rfl oG|exact o_storeU rfl rfl rfl oG)
  | (apply kf_op;apply kf_nilCheck;exact o_nilCheck rfl rfl rfl)
  | (apply kf_op;apply kf_convert;first|exact o_toUnsafe rfl rfl rfl rfl|exact o_fromUnsafe rfl rfl rfl kR)
  | (apply kf_op;apply kf_call;first|exact o_noEscape rfl rfl rfl rfl|exact o_sliceData rfl rfl rfl (fun h=>by first|omega|(cases h;done)))
  | (apply kf_op;apply kf_binOp;first|(apply kb_eql;exact o_eql rfl rfl rfl rfl rfl)|(apply kb_neq;exact o_neq rfl rfl rfl rfl rfl))):q:=s hp
end Go.Rail
