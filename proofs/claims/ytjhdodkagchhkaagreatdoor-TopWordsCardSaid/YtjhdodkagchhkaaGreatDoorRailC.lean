/- Sorting, ranges over functions, regions in any order. -/
import Derived.Test.YtjhdodkagchhkaaGreatDoorRailA
import Derived.Test.YtjhdodkagchhkaaGreatDoorRailB
import Derived.Lib.BytesEntry
import Derived.Laws.Externs
import Derived.RangeFuncRecord
import Derived.RangeFuncIn
set_option linter.unusedSimpArgs false
set_option linter.unusedVariables false
namespace Go.Rail
open Go
class ExtF (P:Program) (f:FuncId) (e:outParam (Array Value→Sem Value)):Prop where
 h : ∀ args w,(callFunc f args).run P w=((e args).run P w).andThen fun v w' => .ok (.value v) w'
section
variable {x:Cx} {Q:Exit→Act→World→Prop} {Φ:List Fa} {L:Env} {M:Own} {ops:Array Oper} {K:Act→World→Prop}
variable {d:Nat} {ty:TypeId} {pos:String} {af:Array Edge} {g:Option (Nat × Bool)}
theorem G.sliceN {F:Act→World→Prop} {α:Type} [GoTy α] (v:Value) (xs:List α) [k:Ent' Φ (fRp v xs)] (h : ∀ a cap,v = .slice a xs.length cap→xs.length≤cap→(a=none→xs=[])→G x Φ L M F):G x Φ L M F:=by
 intro I a w hp hk hw
 obtain ⟨ad,cap,e,h1⟩:=Rp.slice (k.h I hp)
 refine h ad cap e h1.1 (fun hn => ?_) I a w hp hk hw
 apply Classical.byContradiction
 intro hne
 obtain ⟨b,_,_,_,hb,_⟩:=h1.2 hne
 rw [hn] at hb;cases hb
theorem o_eqNil {t t' e:TypeId} {y z:Operand} {a:Option Addr} {n cap:Nat} {r:Bool} [ht:SlTy x.P t e] (hdN:Nat.blt d x.N=true) (hg:gd ops L g=some true) (hy:ev L y=some (.slice a n cap)) (hz:ev L z=some (.slice none 0 0)) (hr:a.isNone=r)
  (h:G x Φ ((d,.bool r)::L) M K):OpK x ops Q ⟨some d,.binOp .eql t y z t',ty,pos,af,g⟩ Φ L M K :=
 OpK.val rfl hdN hg oI (fun I b w hp hk hw=>by
  subst hr
  have e1:(Op.equalIn 10000 t (.slice a n cap) (.slice none 0 0)).run x.P w = .ok a.isNone w:=by
   rw [show (10000:Nat)=9999+1 from rfl,Op.equalIn]
   simp only [Sem.run_bind,run_underlying ht.h,Result.andThen]
   cases a<;>simp [Sem.run_pure]
  have e2:(binOp .eql t (.slice a n cap) (.slice none 0 0)).run x.P w = .ok (.bool a.isNone) w:=by
   have e:binOp .eql t (.slice a n cap) (.slice none 0 0)=(do pure (Value.bool (← Op.equalIn 10000 t (.slice a n cap) (.slice none 0 0)))):=rfl
   rw [e,Sem.run_bind,e1];simp only [Result.andThen_ok,Sem.run_pure]
  have e3:(eqGuard .eql t y z (.slice a n cap) (.slice none 0 0)).run x.P w = .ok () w:=by
   simp [eqGuard,Sem.run_pure,Sem.run_bind,Result.andThen]
  simp [execOp,hk.eval hy,hk.eval hz,e2,e3,Sem.run_bind,Result.andThen,Sem.run_pure]) h

def ROwn {α:Type} [GoTy α] (e:TypeId) (xs:List α):Value→List Fa→Own→Prop:=fun u Φ' M' => ∃ o,IsOwn (GoTy.sz α) u xs.length o∧Φ'=[fRow (ocells o) xs]∧M'=ownM e o
def RIn {α:Type} [GoTy α] (e:TypeId) (v:Value) (xs:List α):Value→List Fa→Own→Prop:=fun u Φ' M' => ∃ o,IsOwn (GoTy.sz α) v xs.length o∧Φ'=[fRow (ocells o) xs]∧M'=ownM e o
theorem o_callO {α:Type} [GoTy α] {y:Operand} {args:List Operand} {vs cap:List Value} {ts:Array TypeId} {f:FuncId} {Φc:List Fa} {e:TypeId} {xs:List α}
  (hdN:Nat.blt d x.N=true) (hg:gd ops L g=some true) (hy:ev L y=some (.func (.func f) #[] cap.toArray)) [hf:HasFn x.P f] (hargs:args.mapM (ev L)=some vs) (c:Fn x.P f (vs++cap) Φc [] (ROwn e xs)) [hΦ:Ents Φ Φc]
  (h : ∀ v o,IsOwn (GoTy.sz α) v xs.length o→G x (fRow (ocells o) xs::Φ) ((d,v)::L) (M++ownM e o) K):OpK x ops Q ⟨some d,.call ⟨.value y,args.toArray,ts⟩,ty,pos,af,g⟩ Φ L M K :=
 OpK.call hdN hg hy hargs c hΦ (Mr:=M) oI (by
  rintro u Φ' Mc' ⟨o,ho,rfl,rfl⟩
  exact G.perm (h u o ho) oH)
theorem o_callI {α:Type} [GoTy α] {y:Operand} {args:List Operand} {vs cap:List Value} {ts:Array TypeId} {f:FuncId} {Φc:List Fa} {e:TypeId} {v:Value} {xs:List α} (o:OR) {Mr:Own}
  (hdN:Nat.blt d x.N=true) (hg:gd ops L g=some true) (hy:ev L y=some (.func (.func f) #[] cap.toArray)) [hf:HasFn x.P f] (hargs:args.mapM (ev L)=some vs) (c:Fn x.P f (vs++cap) Φc (ownM e o) (RIn e v xs)) [hΦ:Ents Φ Φc] (hM:M.Perm (Mr++ownM e o))
  (h : ∀ u o,IsOwn (GoTy.sz α) v xs.length o→G x (fRow (ocells o) xs::Φ) ((d,u)::L) (Mr++ownM e o) K):OpK x ops Q ⟨some d,.call ⟨.value y,args.toArray,ts⟩,ty,pos,af,g⟩ Φ L M K :=
 OpK.call hdN hg hy hargs c hΦ (Mr:=Mr) (hM.trans oH) (by
  rintro u Φ' Mc' ⟨o,ho,rfl,rfl⟩
  exact G.perm (h u o ho) oH)
end
end Go.Rail
set_option linter.unusedSimpArgs false
set_option linter.unusedVariables false
namespace Go.Rail
open Go
theorem run_app_zeros {P:Program} {w:World} {t t2 e ty:TypeId} {k:IntKind} {i:TypeInfo} {z:Value} (ht:P.underlying t=some (.slice e)) (ht2:P.underlying t2=some (.int k)) (hi:P.info? e=some i) (hz:i.zero=some z)
  {n:Nat} (h0:0<n) (hs:0<i.size) (hb:(2*n+200)*i.bytes≤281474976710656) (h63:n<9223372036854775807) :
  ∃ nc,n≤nc∧(Builtin.append_ #[t,t2] ty #[.slice none 0 0,.int .i64 n]).run P w = .ok (.slice (some ⟨w.heap.size,0,none⟩) n nc) (w.drew.alloc (Ob ((Builtin.zeroCells z.cells n).toList++(Builtin.zeroCells z.cells (nc-n)).toList) e)):=by
 have wr:IntKind.i64.wrap (n:Int)=n:=wrap_i64 oM oM
 have hnb:n*i.bytes≤281474976710656:=by
  refine Nat.le_trans (Nat.mul_le_mul_right _ ?_) hb
  omega
 have h48 : ¬ (281474976710656<(n:Int)*(i.bytes:Int)):=by
  have h3:=Int.ofNat_le.2 hnb
  rw [Int.natCast_mul] at h3
  omega
 have h48' : ¬ (281474976710656<Builtin.nextslicecap n 0*i.bytes):=by
  have:=Nat.mul_le_mul_right i.bytes (nextslicecap_le n 0 h0)
  omega
 have hn0 : ¬ ((n:Int)<0):=by omega
 have hns : ¬ (n*i.size=0):=by
  have:=Nat.mul_pos h0 hs;omega
 have h00:n≠0:=by omega
 have hs0:i.size≠0:=by omega
 have h63' : ¬ (9223372036854775807<(n:Int)):=by omega
 refine ⟨grownCap w n 0 e,grownCap_ge _ _ _ _,?_⟩
 simp [Builtin.append_,run_underlying ht,run_underlying ht2,sizeOf,typeInfo,zeroValue,hi,hz,asInt,asIntOf,wr,h48,h48',hn0,h00,hs0,h63',Question.forced,newRow,grownCap,Ob,Builtin.firstCells]
 rw [if_neg hns]
 congr 2
 simp only [Obj.cells.injEq,and_true]
 apply Array.ext'
 simp
section
variable {x:Cx} {Q:Exit→Act→World→Prop} {Φ:List Fa} {L:Env} {M:Own} {ops:Array Oper} {K:Act→World→Prop}
variable {d:Nat} {ty:TypeId} {pos:String} {af:Array Edge} {g:Option (Nat × Bool)}
theorem o_growNil {t t2 e bytes sz:Nat} {k:IntKind} {y z:Operand} {zs:List Value} {p:Int} (n:Nat) [ht:SlTy x.P t e] [ht2:IntTy x.P t2 k] [hb:Inf x.P e zs sz bytes] (hdN:Nat.blt d x.N=true) (hg:gd ops L g=some true) (hy:ev L y=some (.slice none 0 0)) (hz:ev L z=some (.int .i64 p)) (hp':p=(n:Int)) (h0:0<n∧0<sz∧zs.length=sz)
  (hlen:(2*n+200)*bytes≤281474976710656∧n<9223372036854775807)
  (h : ∀ b cs nc,cs.length=nc*sz→n≤nc→G x Φ ((d,.slice (some ⟨b,0,none⟩) n nc)::L) ((b,Ob cs e)::M) K):OpK x ops Q ⟨some d,.call ⟨.builtin .append,#[y,z],#[t,t2]⟩,ty,pos,af,g⟩ Φ L M K :=
 OpK.mem rfl hdN hg oI (fun I a w hp hk hw=>by
  subst hp'
  obtain ⟨i,zv,hi,hz0,hzs,hsz,hby⟩:=hb.get
  obtain ⟨h1,h2,h3⟩:=h0
  obtain ⟨nc,hnc,hrun⟩:=run_app_zeros (ty:=ty) (w:=w) ht.h ht2.h hi hz0 h1 oM (by rw [hby];exact hlen.1) hlen.2
  have hzl : ∀ m,(Builtin.zeroCells zv.cells m).toList.length=m*sz:=fun m=>by
   rw [Array.length_toList,size_zeroCells,← Array.length_toList,cells_toList,hzs,h3]
  refine ⟨.slice (some ⟨w.heap.size,0,none⟩) n nc,w.drew.alloc (Ob ((Builtin.zeroCells zv.cells n).toList++(Builtin.zeroCells zv.cells (nc-n)).toList) e),Φ,_,I,?_,hp,(hw.drew).alloc _,h _ _ nc ?_ hnc⟩
  ·simp only [execOp,resolve,hk.eval hy,hk.eval hz,Deferred.ofValue]
   simp [execOp,resolve,hk.eval hy,hk.eval hz,invoke,builtin,Sem.run_bind,Result.andThen,Sem.run_pure,hrun]
  ·rw [List.length_append,hzl,hzl,← Nat.add_mul]
   congr 1;omega)
theorem o_cutNil {t e sz:Nat} {y z:Operand} {k:IntKind} {p:Int} [ht:SlTy x.P t e] [hs:Siz x.P e sz] (hdN:Nat.blt d x.N=true) (hg:gd ops L g=some true) (hy:ev L y=some (.slice none 0 0)) (hz:ev L z=some (.int k p)) (hp':p=0)
  (hG:G x Φ ((d,.slice none 0 0)::L) M K):OpK x ops Q ⟨some d,.slice t y none (some z) none,ty,pos,af,g⟩ Φ L M K :=
 OpK.val rfl hdN hg oI (fun I a w hp hk hw=>by
  subst hp'
  have hb:=run_bounds (P:=x.P) (isSlice:=true) (l:=0) (lo:=none) (hi:=some z) (len:=0) (h:=0) (cap:=0) hk rfl ⟨_,_,hz,rfl⟩ (Nat.zero_le _) (Nat.zero_le _) w
  have hb':(Instr.sliceBounds true 0 0 none (some (a.eval z)) none).run x.P w = .ok (0,0,0) w:=hb
  simp [execOp,Instr.sliceAt,Instr.slice,hk.eval hy,run_underlying ht.h,hs.h,hb',Sem.run_bind,Result.andThen,Sem.run_pure]) hG
end
end Go.Rail
set_option linter.unusedSimpArgs false
set_option linter.unusedVariables false
namespace Go.Rail
open Go
theorem roundIn_FR {r:Option Nat} {n:Nat} {P:Program} {l:Nat} {f:FuncId} {tm:Array Value} {as bo:Code} {w:World} {R:Ending→World→Prop} (h:RoundIn Fence.wide n P l f tm as bo w R):RoundIn (FR r) n P l f tm as bo w R:=by
 cases r with
 | none=>exact h
 | some l=>exact ⟨trivial,h.2⟩

def RP (I:Imm) (Mc:Own) (w0:World) (R:Value→List Fa→Own→Prop):Ending→World→Prop :=
 fun e w' => ∃ v Φ' Mc' I',e = .returned v∧R v Φ' Mc'∧(∀ φ∈Φ',φ.p I')∧Wd ⟨I,doms Mc,w0⟩ I' Mc' w'
def FnY (P:Program) (l:Nat) (args:List Value) (Φ:List Fa) (Mc:Own) (R:Value→List Fa→Own→Prop):Prop :=
 ∀ I w,(∀ φ∈Φ,φ.p I)→Wd ⟨I,doms Mc,w⟩ I Mc w →
  ∃ f tm as bo,(Instr.yield l args.toArray).run P w = .ok (.round l f tm as bo) w∧RoundIn Fence.wide 0 P l f tm as bo w (RP I Mc w R)

abbrev St:=List Fa × Own
def YR (nx:St) (Z:St→Prop):Value→List Fa→Own→Prop:=fun u Φ' M'=>(u = .bool true∧Φ'=nx.1∧M'=nx.2)∨(u = .bool false∧Z (Φ',M'))
def IR (nx:St) (Z:St→Prop):Value→List Fa→Own→Prop:=fun _ Φ' M'=>(Φ'=nx.1∧M'=nx.2)∨Z (Φ',M')
def IterS (P:Program) (gf:FuncId) (lb:List Value) (enc:List (List Value)) (Φ:List Fa):Prop :=
 ∀ (l:Nat) (T:Nat→St) (Z:St→Prop),(∀ k (h:k<enc.length),FnY P l enc[k] (T k).1 (T k).2 (YR (T (k+1)) Z)) →
  Fn P gf (.func (.yield l) #[] #[]::lb) (Φ++(T 0).1) (T 0).2 (IR (T enc.length) Z)

section
variable {x:Cx} {Q:Exit→Act→World→Prop} {Φ:List Fa} {L:Env} {M:Own} {ops:Array Oper} {K:Act→World→Prop}
variable {d:Nat} {ty:TypeId} {pos:String} {af:Array Edge} {g:Option (Nat × Bool)}
theorem o_yield {y:Operand} {args:List Operand} {vs:List Value} {ts:Array TypeId} {l:Nat} {Φc:List Fa} {Mc Mr:Own} {nx:St} {Z:St→Prop}
  (hdN:Nat.blt d x.N=true) (hg:gd ops L g=some true) (hy:ev L y=some (.func (.yield l) #[] #[])) (hargs:args.mapM (ev L)=some vs) (c:FnY x.P l vs Φc Mc (YR nx Z)) (hΦ : ∀ I,(∀ φ∈Φ,φ.p I) → ∀ φ∈Φc,φ.p I) (hM:M.Perm (Mc++Mr))
  (h:G x (nx.1++Φ) ((d,.bool true)::L) (nx.2++Mr) K) (hz : ∀ s,Z s→G x (s.1++Φ) ((d,.bool false)::L) (s.2++Mr) K):OpK x ops Q ⟨some d,.call ⟨.value y,args.toArray,ts⟩,ty,pos,af,g⟩ Φ L M K:=by
 intro I a w hp hk hw
 unfold opRun
 rw [if_pos (gd_wanted hk hg)]
 refine ⟨fun f _=>FR_fn _ f,?_⟩
 rw [Oper.semAt_eq _ _ _ oI]
 have hw':=hw.perm hM
 have hws:Wd ⟨I,doms Mc,w⟩ I Mc w:=hw'.start (List.sublist_append_left _ _)
 obtain ⟨f,tm,as,bo,hyl,hc⟩:=c I w (hΦ I hp) hws
 have hrun:(execOp a.eval ⟨some d,.call ⟨.value y,args.toArray,ts⟩,ty,pos,af,g⟩).run x.P w = .ok (.round l f tm as bo) w:=by
  simp [execOp,resolve,hk.eval hy,Deferred.ofValue,evs_map hk hargs,invoke,hyl,Sem.run_bind,Result.andThen,Sem.run_pure]
 rw [hrun]
 simp only [Oper.uponIn]
 refine ⟨fun hd=>(by rw [FR_depth] at hd;cases hd),(roundIn_FR hc).mono ?_⟩
 rintro e w' ⟨v,Φ',Mc',I',rfl,hR,hf',hwd⟩
 have hall : ∀ φ∈Φ'++Φ,φ.p I':=by
  intro φ hφ
  rcases List.mem_append.1 hφ with hφ|hφ
  ·exact hf' φ hφ
  ·exact φ.mono _ _ hwd.up (hp φ hφ)
 rcases hR with ⟨rfl,rfl,rfl⟩|⟨rfl,hZ⟩
 ·exact h I' _ w' hall (hk.put _ hdN) (hw'.back hwd)
 ·exact hz _ hZ I' _ w' hall (hk.put _ hdN) (hw'.back hwd)

theorem o_litC {t e n sz:Nat} {parts:List (Nat × Operand)} {vs:List Value} {zs:List Value} [ht:SlTy x.P t e] [hs:Siz x.P e (sz)] [hz:Zer x.P e zs] (hsz:n*sz≤16777216∧zs.length=sz∧0<sz) (hdN:Nat.blt d x.N=true) (hg:gd ops L g=some true)
  (hv:evSeq L 0 parts=some vs) (e1:vs.length=n) (e2 : ∀ v∈vs,(cellsL v).length=sz) (h : ∀ b,G x (fBlk b ((vs.map cellsL).flatten) e::Φ) ((d,.slice (some ⟨b,0,none⟩) n n)::L) M K):OpK x ops Q ⟨some d,.buildSlice t n parts.toArray,ty,pos,af,g⟩ Φ L M K :=
 OpK.mem rfl hdN hg oI (fun I a w hp hk hw=>by
  obtain ⟨zv,hzr,hzs⟩:=hz.h w
  have hzc:zv.cells.size=sz:=by rw [← Array.length_toList,cells_toList,hzs];exact hsz.2.1
  let o:Obj:=Ob ((vs.map cellsL).flatten) e
  have hfill : ∀ c:Array Value,c.size=n*sz→Instr.fill (fun i=>some (i*sz,sz)) c (vs.zipIdx 0 |>.map fun p=>(p.2,p.1))=some ((vs.map cellsL).flatten).toArray:=by
   intro c hc
   have:=fill_seq (sz) vs 0 [] c.toList oI (by simp [hc,e1]) e2
   simpa using this
  have hrun:(execOp a.eval ⟨some d,.buildSlice t n parts.toArray,ty,pos,af,g⟩).run x.P w = .ok (.value (.slice (some ⟨w.heap.size,0,none⟩) n n)) (w.alloc o):=by
   have hev:(parts.toArray.map fun (x:Nat × Operand)=>match x with|(i,x)=>(i,a.eval x)).toList=(vs.zipIdx 0 |>.map fun p=>(p.2,p.1)):=by
    rw [← evSeq_zip hk hv];simp
   simp only [execOp,Instr.buildSlice,Sem.run_bind,run_underlying ht.h,hs.h,Result.andThen_ok]
   rw [if_neg oM]
   by_cases h0:n*sz=0
   ·simp only [h0,if_true,Sem.run_pure,Sem.run_bind,Result.andThen_ok,hev]
    have:=hfill (Array.map (fun x=>(#[]:Array Value)[x%(#[]:Array Value).size]!) (Array.range 0)) (by simp [h0])
    rw [this]
    simp [newRow,Sem.run_bind,Result.andThen,Sem.run_pure,o,Ob]
   ·simp only [h0,if_false,Sem.run_pure,Sem.run_bind,Result.andThen_ok,hev,hzr]
    have:=hfill (Array.map (fun x=>zv.cells[x%zv.cells.size]!) (Array.range (n*sz))) oI
    rw [this]
    simp [newRow,Sem.run_bind,Result.andThen,Sem.run_pure,o,Ob]
  have hw':=hw.alloc o
  have hn0:I w.heap.size=none:=hw'.sep (w.heap.size,o) oI
  refine ⟨_,w.alloc o,_,M,_,hrun,?_,hw'.give,h w.heap.size⟩
  intro φ hφ
  rcases List.mem_cons.1 hφ with rfl|hφ
  ·show (if w.heap.size=w.heap.size then some o else I w.heap.size)=some o;simp
  ·exact φ.mono _ _ (Le.give hn0) (hp φ hφ))

theorem Fn.given {P:Program} {f:FuncId} {args:List Value} {Φc:List Fa} {e:TypeId} {α:Type} [GoTy α] {xs:List α} (h:Fn P f args Φc [] (ROwn e xs)):FnD P f args Φc (fun v=>[fRp v xs]):=by
 intro I w hp hw
 refine (h I w hp hw).mono ?_
 rintro e' w' ⟨v,Φ',Mc',I',rfl,⟨o,ho,rfl,rfl⟩,hf,hwd⟩
 exact G.giveOwn2 (x:=⟨P,none,⟨I,doms [],w⟩,0,[]⟩) (Φ:=[fRow (ocells o) xs]) (L:=[]) (M:=ownM e o) (F:=fun _ w' => ∃ v' Φ' Mc' I',(Ending.returned v = .returned v')∧(Φ'=[fRp v' xs]∧Mc'=[])∧(∀ φ∈Φ',φ.p I')∧Wd ⟨I,doms [],w⟩ I' Mc' w') v xs o e (Mr:=[]) ho oY oP
  (fun I'' a w'' hp'' _ hw''=>⟨v,_,_,I'',rfl,⟨rfl,rfl⟩,fun φ hφ=>(by
   rcases List.mem_cons.1 hφ with rfl|h
   ·exact hp'' _ (.head _)
   ·cases h),hw''⟩) I' {tmps := #[],defers:=[]} w' hf ⟨rfl,fun t v h=>(by cases h),rfl⟩ hwd
def BeginK (P:Program) (l:Nat) (bo:Code) (Qr:Exit→Act→World→Prop):Act→World→Prop:=fun a w => ∃ w2,(Instr.beginRound l).run P w = .ok () w2∧bo.wpIn (FR (some l)) 0 P Qr a w2
def AsP (P:Program) (l:Nat) (bo:Code) (I:Imm) (Mc:Own) (w0:World) (R:Value→List Fa→Own→Prop):Exit→Act→World→Prop :=
 Exit.then (BeginK P l bo (roundPost P l (RP I Mc w0 R))) (fun _ _ _=>False)

theorem putObj_turn {E:Ent} {I:Imm} {M M':Own} {b:Nat} {o o':Obj} {w:World} (h:Wd E I M w) (m:MDel M b o M'):Wd E I ((b,o')::M') (w.putObj b o'):=by
 have h1:=h.perm m.h
 have hlt:=h1.lt (p:=(b,o)) oI
 exact Wd.turn (M1:=[]) h1 rfl rfl rfl rfl oI (World.putObj_heap_same hlt) (fun k hk=>World.putObj_heap_other hk)

theorem G.begin {P:Program} {l:Nat} {bo:Code} {E:Ent} {I:Imm} {Mc:Own} {w0:World} {R:Value→List Fa→Own→Prop} {N:Nat} {ds:List Deferred} {r:Loop} {M':Own} [m:MDel M l (.loop r) M'] (hr:r.state = .ready)
  (h:W ⟨P,some l,E,N,ds⟩ bo (roundPost P l (RP I Mc w0 R)) Φ L ((l,.loop {r with state := .busy})::M')):G ⟨P,some l,E,N,ds⟩ Φ L M (BeginK P l bo (roundPost P l (RP I Mc w0 R))):=by
 intro I' a w hp hk hw
 have hl:w.heap[l]? = some (.loop r):=(hw.perm m.h).own (l,.loop r) oI
 exact ⟨_,run_beginRound hl hr,h I' a _ hp hk (putObj_turn hw m)⟩
theorem G.roundEnd {P:Program} {l:Nat} {I0:Imm} {Mc:Own} {w0:World} {R:Value→List Fa→Own→Prop} {N:Nat} {ds:List Deferred} {r:Loop} {M' M'':Own} {Φ':List Fa} (m:MDel M l (.loop r) M')
  (hR:R (.bool true) Φ' ((l,.loop {r with state := .ready,pending:=none})::M'')) (hΦ:Ents Φ Φ') (hM:M''.Sublist M'):G ⟨P,some l,⟨I0,doms Mc,w0⟩,N,ds⟩ Φ L M (roundPost P l (RP I0 Mc w0 R) .normal):=by
 intro I a w hp hk hw
 have hl:w.heap[l]? = some (.loop r):=(hw.perm m.h).own (l,.loop r) oI
 exact ⟨_,_,run_endRound none hl,_,Φ',_,I,rfl,hR,hΦ.h I hp,(putObj_turn hw m).sub (hM.cons_cons _)⟩
theorem G.roundRet {P:Program} {l:Nat} {I0:Imm} {Mc:Own} {w0:World} {R:Value→List Fa→Own→Prop} {N:Nat} {ds:List Deferred} {r:Loop} {M' M'':Own} {Φ':List Fa} (m:MDel M l (.loop r) M')
  (hR:R (.bool false) Φ' ((l,.loop {r with state := .done,pending:=some .ret})::M'')) (hΦ:Ents Φ Φ') (hM:M''.Sublist M'):G ⟨P,some l,⟨I0,doms Mc,w0⟩,N,ds⟩ Φ L M (roundPost P l (RP I0 Mc w0 R) .ret):=by
 intro I a w hp hk hw
 have hl:w.heap[l]? = some (.loop r):=(hw.perm m.h).own (l,.loop r) oI
 exact ⟨_,_,run_endRound (some .ret) hl,_,Φ',_,I,rfl,hR,hΦ.h I hp,(putObj_turn hw m).sub (hM.cons_cons _)⟩
theorem Kn.params {N:Nat} {ds:List Deferred} {a:Act} (hk:Kn N L ds a) : ∀ (ps:List Nat) (vs:List Value),(∀ p∈ps,Nat.blt p N=true)→Kn N ((ps.zip vs).reverse++L) [] {tmps:=(ps.zip vs).foldl (fun t (p,v)=>t.setIfInBounds p v) a.tmps,defers:=[]}:=by
 intro ps
 suffices H : ∀ (ps:List Nat) (vs:List Value) (tm:Array Value) (L:Env),tm.size=N→(∀ t v,look L t=some v→tm[t]? = some v)→(∀ p∈ps,Nat.blt p N=true) →
   Kn N ((ps.zip vs).reverse++L) [] {tmps:=(ps.zip vs).foldl (fun t (p,v)=>t.setIfInBounds p v) tm,defers:=[]} from fun vs h=>H ps vs a.tmps L hk.sz hk.val h
 intro ps
 induction ps with
 | nil=>intro vs tm L hs hv _;exact ⟨hs,hv,rfl⟩
 | cons p ps ih =>
  intro vs tm L hs hv hp
  cases vs with
  | nil=>exact ⟨hs,hv,rfl⟩
  | cons v vs =>
   simp only [List.zip_cons_cons,List.reverse_cons,List.append_assoc,List.singleton_append,List.foldl_cons]
   have k1:Kn N L [] {tmps:=tm,defers:=[]}:=⟨hs,hv,rfl⟩
   have k2:=k1.put v (hp p oI)
   exact ih vs _ _ k2.sz k2.val (fun q hq=>hp q (by simp [hq]))

theorem W.rangeFunc {P:Program} {E:Ent} {N:Nat} {ds:List Deferred} {Q:Exit→Act→World→Prop} {gop:Operand} {ps:List Nat} {as bo:Code} {gf:FuncId} {lb:List Value} {enc:List (List Value)} {Φi:List Fa} {Mr:Own}
  (S:Nat→St) (X:Code→St→Prop)
  (hy:ev L gop=some (.func (.func gf) #[] lb.toArray)) [hf:HasFn P gf] (hit:IterS P gf lb enc Φi) (hps : ∀ p∈ps,Nat.blt p N=true) (hen : ∀ vs∈enc,vs.length=ps.length)
  (hΦi:Ents Φ Φi) (hΦ:Ents Φ (S 0).1) (hM:M.Perm ((S 0).2++Mr))
  (hround : ∀ (l:Nat) (r:Loop) (I0:Imm) (w0:World) (k:Nat) (hk:k<enc.length),
   W ⟨P,some l,⟨I0,doms ((l,.loop {r with state := .ready,pending:=none})::(S k).2),w0⟩,N,[]⟩ as (AsP P l bo I0 ((l,.loop {r with state := .ready,pending:=none})::(S k).2) w0 (YR ((S (k+1)).1,(l,.loop {r with state := .ready,pending:=none})::(S (k+1)).2) (fun s => ∃ c s',X c s'∧s=(s'.1,(l,.loop {r with state := .done,pending:=some c})::s'.2))))
    (S k).1 ((ps.zip enc[k]).reverse++L) ((l,.loop {r with state := .ready,pending:=none})::(S k).2))
  (hdone : ∀ D,G ⟨P,none,E,N,⟨.collected D,#[]⟩::ds⟩ ((S enc.length).1++Φ) L ((S enc.length).2++(D,.deferred (some []))::Mr) (Q .normal))
  (hexit : ∀ D c s,X c s→W ⟨P,none,E,N,⟨.collected D,#[]⟩::ds⟩ c Q (s.1++Φ) L (s.2++(D,.deferred (some []))::Mr)) :
  W ⟨P,none,E,N,ds⟩ (.rangeFunc gop ps.toArray as bo) Q Φ L M:=by
 intro I a w hp hk hw
 refine wpIn_rangeFunc ?_
 intro fn hfn
 obtain ⟨r,hr⟩ : ∃ r:Loop,r={state := .ready,pending:=none,fn:=fn,tmps:=a.tmps,params:=ps.toArray,assign:=as,body:=bo,defers:=w.heap.size}:=⟨_,rfl⟩
 have hw1:=((hw.perm hM).alloc (.deferred (some []))).alloc (.loop r)
 rw [World.size_alloc] at hw1
 have hw2:=hw1.perm (M':=((w.heap.size+1,.loop r)::(S 0).2)++(w.heap.size,.deferred (some []))::Mr) (by
  refine .cons _ ?_
  exact List.perm_middle.symm)
 refine ⟨w.heap.size+1,[{target := .collected w.heap.size,args := #[]}],(w.alloc (.deferred (some []))).alloc (.loop r),{target := .fn (.func gf) lb.toArray,args := #[.func (.yield (w.heap.size+1)) #[] #[]]},(w.alloc (.deferred (some []))).alloc (.loop r),gf,
  (.func (.yield (w.heap.size+1)) #[] #[]::lb).toArray,(w.alloc (.deferred (some []))).alloc (.loop r),?_,?_,?_,?_,fun hd=>(by rw [FR_depth] at hd;cases hd),?_⟩
 ·rw [hr];exact run_enterLoop_outer _ _ _ _ _
 ·simp only [resolve,hk.eval hy]
  simp [Deferred.ofValue,Sem.run_bind,Result.andThen,Sem.run_pure,Act.eval]
 ·intro f' _;exact FR_fn _ f'
 ·simp [invoke,hf.h]
 have hc:=hit (w.heap.size+1) (fun k=>((S k).1,(w.heap.size+1,.loop r)::(S k).2)) (fun s => ∃ c s',X c s'∧s=(s'.1,(w.heap.size+1,.loop {r with state := .done,pending:=some c})::s'.2)) ?_ I _ ?_ (hw2.start (List.sublist_append_left _ _))
 ·refine (callsIn_FR hc).mono ?_
  rintro e w' ⟨v,Φ',Mc',I',rfl,hR,hf',hwd⟩
  have hback:=hw2.back hwd
  have hkn:Kn N L (⟨.collected w.heap.size,#[]⟩::ds) {a with defers:=[{target := .collected w.heap.size,args := #[]}]++a.defers}:=⟨hk.sz,hk.val,by rw [hk.df];rfl⟩
  have hall : ∀ φ∈Φ'++Φ,φ.p I':=by
   intro φ hφ
   rcases List.mem_append.1 hφ with hφ|hφ
   ·exact hf' φ hφ
   ·exact φ.mono _ _ hwd.up (hp φ hφ)
  rcases hR with ⟨rfl,rfl⟩|⟨c,s',hX,hs⟩
  ·have hl:w'.heap[w.heap.size+1]? = some (.loop r):=hback.own _ (List.mem_append_left _ List.mem_cons_self)
   refine ⟨_,_,run_endLoop hl (by rw [hr];simp),?_⟩
   have hpn:r.pending=none:=by rw [hr]
   rw [hpn]
   exact hdone _ I' _ _ hall hkn ((putObj_turn hback (MDel.head (M:=(S enc.length).2++(w.heap.size,.deferred (some []))::Mr))).sub (List.sublist_cons_self _ _))
  ·cases hs
   have hl:w'.heap[w.heap.size+1]? = some (.loop {r with state := .done,pending:=some c}):=hback.own _ (List.mem_append_left _ List.mem_cons_self)
   refine ⟨_,_,run_endLoop hl oI,?_⟩
   exact hexit _ c s' hX I' _ _ hall hkn ((putObj_turn hback (MDel.head (M:=s'.2++(w.heap.size,.deferred (some []))::Mr))).sub (List.sublist_cons_self _ _))
 ·intro k hkn I1 w1 hp1 hwd1
  have hl:w1.heap[w.heap.size+1]? = some (.loop r):=hwd1.own _ List.mem_cons_self
  have hsz:enc[k].toArray.size=r.params.size:=by rw [hr];simp [hen _ (List.getElem_mem hkn)]
  refine ⟨_,_,_,_,run_yield hl hsz,?_⟩
  refine roundIn_of_wpIn trivial ?_
  have hrr:{r with state := .ready,pending:=none}=r:=by rw [hr]
  have h3:=hround (w.heap.size+1) r I1 w1 k hkn I1 _ w1 hp1 (hk.params ps enc[k] hps) (by rw [hrr];exact hwd1)
  rw [hrr] at h3
  rw [hr] at h3 ⊢
  delta AsP BeginK at h3
  simpa [FR] using h3
 ·intro φ hφ
  rcases List.mem_append.1 hφ with hφ|hφ
  ·exact hΦi.h I hp φ hφ
  ·exact hΦ.h I hp φ hφ

theorem G.unmark {P:Program} {fn:Func} {I0:Imm} {Mc:Own} {w0:World} {E:Ent} {N:Nat} {ds:List Deferred} {R:Value→List Fa→Own→Prop} {D:Nat} {M':Own} (m:MDel M D (.deferred (some [])) M')
  (h:G ⟨P,none,E,N,ds⟩ Φ L M' (Post P fn I0 Mc w0 R .ret)):G ⟨P,none,E,N,⟨.collected D,#[]⟩::ds⟩ Φ L M (Post P fn I0 Mc w0 R .ret):=by
 intro I a w hp hk hw
 change LeavesInM (FR none) 0 P fn a.tmps _ a.defers .returning w
 rw [hk.df]
 have hl:w.heap[D]? = some (.deferred (some [])):=(hw.perm m.h).own (D,.deferred (some [])) oI
 refine ⟨(fun h=>by cases h),.inl ⟨D,_,rfl,run_takeDeferred hl,?_⟩⟩
 exact h I {a with defers:=ds} _ hp ⟨hk.sz,hk.val,rfl⟩ ((putObj_turn hw m).sub (List.sublist_cons_self _ _))
theorem G.unmarkN {P:Program} {fn:Func} {I0:Imm} {Mc:Own} {w0:World} {E:Ent} {N:Nat} {ds:List Deferred} {R:Value→List Fa→Own→Prop} {D:Nat} {M':Own} (m:MDel M D (.deferred (some [])) M')
  (h:G ⟨P,none,E,N,ds⟩ Φ L M' (Post P fn I0 Mc w0 R .ret)):G ⟨P,none,E,N,⟨.collected D,#[]⟩::ds⟩ Φ L M (Post P fn I0 Mc w0 R .normal):=G.unmark (fn:=fn) m h
end
end Go.Rail
set_option linter.unusedVariables false
namespace Go.Rail
open Go
section
variable {x:Cx} {Q:Exit→Act→World→Prop} {Φ:List Fa} {L:Env} {M:Own} {ops:Array Oper} {K:Act→World→Prop}
variable {d:Option Nat} {ty t t':TypeId} {pos:String} {af:Array Edge} {g:Option (Nat × Bool)} {y z c:Operand} {o:Oper}
theorem kf_op {pp:Prop} (h:pp→OpK x ops Q o Φ L M K):pp→OpK x ops Q o Φ L M K:=h
theorem kf_g {F:Act→World→Prop} {pp:Prop} (h:pp→G x Φ L M F):pp→G x Φ L M F:=h
theorem kf_w {c:Code} {pp:Prop} (h:pp→W x c Q Φ L M):pp→W x c Q Φ L M:=h
theorem kf_lw {l:List Oper} {pp:Prop} (h:pp→LW x ops Q l Φ L M):pp→LW x ops Q l Φ L M:=h
theorem kf_move {pp:Prop} (h:pp→OpK x ops Q ⟨d,.move y,ty,pos,af,g⟩ Φ L M K):pp→OpK x ops Q ⟨d,.move y,ty,pos,af,g⟩ Φ L M K:=h
theorem kf_assign {pp:Prop} (h:pp→OpK x ops Q ⟨d,.assign y,ty,pos,af,g⟩ Φ L M K):pp→OpK x ops Q ⟨d,.assign y,ty,pos,af,g⟩ Φ L M K:=h
theorem kf_load {pp:Prop} (h:pp→OpK x ops Q ⟨d,.load t y,ty,pos,af,g⟩ Φ L M K):pp→OpK x ops Q ⟨d,.load t y,ty,pos,af,g⟩ Φ L M K:=h
theorem kf_store {pp:Prop} (h:pp→OpK x ops Q ⟨d,.store t y z,ty,pos,af,g⟩ Φ L M K):pp→OpK x ops Q ⟨d,.store t y z,ty,pos,af,g⟩ Φ L M K:=h
theorem kf_indexAddr {pp:Prop} (h:pp→OpK x ops Q ⟨d,.indexAddr t y z,ty,pos,af,g⟩ Φ L M K):pp→OpK x ops Q ⟨d,.indexAddr t y z,ty,pos,af,g⟩ Φ L M K:=h
theorem kf_fieldAddr {i:Nat} {pp:Prop} (h:pp→OpK x ops Q ⟨d,.fieldAddr t y i,ty,pos,af,g⟩ Φ L M K):pp→OpK x ops Q ⟨d,.fieldAddr t y i,ty,pos,af,g⟩ Φ L M K:=h
theorem kf_binOp {op:BinOp} {pp:Prop} (h:pp→OpK x ops Q ⟨d,.binOp op t y z t',ty,pos,af,g⟩ Φ L M K):pp→OpK x ops Q ⟨d,.binOp op t y z t',ty,pos,af,g⟩ Φ L M K:=h
theorem kf_unOp {op:UnOp} {pp:Prop} (h:pp→OpK x ops Q ⟨d,.unOp op t y,ty,pos,af,g⟩ Φ L M K):pp→OpK x ops Q ⟨d,.unOp op t y,ty,pos,af,g⟩ Φ L M K:=h
theorem kf_pick {pp:Prop} (h:pp→OpK x ops Q ⟨d,.pick c y z,ty,pos,af,g⟩ Φ L M K):pp→OpK x ops Q ⟨d,.pick c y z,ty,pos,af,g⟩ Φ L M K:=h
theorem kf_extract {i:Nat} {pp:Prop} (h:pp→OpK x ops Q ⟨d,.extract y i,ty,pos,af,g⟩ Φ L M K):pp→OpK x ops Q ⟨d,.extract y i,ty,pos,af,g⟩ Φ L M K:=h
theorem kf_build {ps:Array (Nat × Operand)} {pp:Prop} (h:pp→OpK x ops Q ⟨d,.build t ps,ty,pos,af,g⟩ Φ L M K):pp→OpK x ops Q ⟨d,.build t ps,ty,pos,af,g⟩ Φ L M K:=h
theorem kf_convert {pp:Prop} (h:pp→OpK x ops Q ⟨d,.convert t t' y,ty,pos,af,g⟩ Φ L M K):pp→OpK x ops Q ⟨d,.convert t t' y,ty,pos,af,g⟩ Φ L M K:=h
theorem kf_box {pp:Prop} (h:pp→OpK x ops Q ⟨d,.box t y,ty,pos,af,g⟩ Φ L M K):pp→OpK x ops Q ⟨d,.box t y,ty,pos,af,g⟩ Φ L M K:=h
theorem kf_alloc {pp:Prop} (h:pp→OpK x ops Q ⟨d,.alloc t,ty,pos,af,g⟩ Φ L M K):pp→OpK x ops Q ⟨d,.alloc t,ty,pos,af,g⟩ Φ L M K:=h
theorem kf_call {cl:Call} {pp:Prop} (h:pp→OpK x ops Q ⟨d,.call cl,ty,pos,af,g⟩ Φ L M K):pp→OpK x ops Q ⟨d,.call cl,ty,pos,af,g⟩ Φ L M K:=h
end
theorem stpF {p q:Prop} (s:p→q:=by
 first
  | (apply kf_op;first
   | exact OpK.pass rfl rfl rfl
   | (apply kf_move;first|exact o_move rfl rfl rfl)
   | (apply kf_assign;first|exact o_assign rfl rfl rfl)
   | (apply kf_pick;first|exact o_pick rfl rfl rfl rfl)
   | (apply kf_extract;first|exact o_extract rfl rfl rfl rfl)
   | (apply kf_load;first|exact o_load1 rfl rfl rfl rfl|(refine o_loadN (vs := ?_) rfl rfl rfl rfl ?_;rotate_left;(focus (repeat (first|exact NormL.nil rfl|(refine NormL.cons (t' := ?_) rfl ?_;rotate_left)));done))|exact o_loadT (α:=Key) _ rfl rfl rfl rfl (Key.le_all _) (Key.cells_all _)|exact o_loadT (α:=Word) _ rfl rfl rfl rfl (Key.le_key _) (Key.cells_key _)|exact o_loadA rfl rfl rfl (by first|exact rfl|exact Nat.le_of_ble_eq_true rfl|decide|(simp;done)|omega) rfl)
   | (apply kf_indexAddr;first|exact o_index rfl rfl rfl rfl (by first|exact rfl|exact Nat.le_of_ble_eq_true rfl|decide|(simp;done)|omega) (by first|exact rfl|exact Nat.le_of_ble_eq_true rfl|decide|(simp;done)|omega) rfl)
   | (apply kf_fieldAddr;first|exact o_field rfl rfl rfl)
   | (apply kf_build;first|(refine o_build (cs := ?_) rfl rfl rfl ?_;rotate_left;(focus (repeat (first|exact FillR.nil|(refine FillR.cons (cs1 := ?_) rfl rfl (by first|exact rfl|exact Nat.le_of_ble_eq_true rfl|decide|(simp;done)|omega) (by first|exact rfl|exact Nat.le_of_ble_eq_true rfl|decide|(simp;done)|omega) ?_ ?_;rotate_left;(focus (repeat (first|exact NormL.nil rfl|(refine NormL.cons (t' := ?_) rfl ?_;rotate_left)));done)))))))
   | (apply kf_convert;first|exact o_conv rfl rfl rfl (by first|exact u64_wrap _|exact u8_wrap _|(rw [wrap_i64 oM oM];rfl)))
   | (apply kf_store;first|(refine o_storeN (cs' := ?_) (M' := ?_) rfl rfl rfl rfl rfl rfl rfl ?_ ?_;rotate_left;rotate_left;(focus (repeat (first|exact NormL.nil rfl|(refine NormL.cons (t' := ?_) rfl ?_;rotate_left)));done);(focus infer_instance))|exact o_store rfl rfl rfl rfl (by first|exact rfl|exact Nat.le_of_ble_eq_true rfl|decide|(simp;done)|omega) (by first|exact rfl|exact Nat.le_of_ble_eq_true rfl|decide|(simp;done)|omega) (by first|exact rfl|exact Nat.le_of_ble_eq_true rfl|decide|(simp;done)|omega) rfl)
   | (apply kf_binOp;first|exact o_int rfl rfl rfl rfl (by first|exact i_lss_t oM|exact i_lss_f oM|exact i_leq_t oM|exact i_leq_f oM|exact i_gtr_t oM|exact i_gtr_f oM|exact i_geq_t oM|exact i_geq_f oM|exact i_eql_t oM|exact i_eql_f oM|exact i_neq_t oM|exact i_neq_f oM|exact i_add oM oM|exact i_sub oM oM|exact i_mul oM oM|exact i_rem oM|exact i_lss_d|exact i_leq_d|exact i_gtr_d|exact i_geq_d|exact i_eql_d|exact i_neq_d)|exact o_eql rfl rfl rfl rfl rfl|exact o_neq rfl rfl rfl rfl rfl)
   | (apply kf_unOp;first|exact o_not rfl rfl rfl rfl|exact o_neg rfl rfl rfl (neg_in oM oM))
   | (apply kf_call;first|exact o_len rfl rfl rfl|exact o_lenS rfl rfl rfl))
  | (apply kf_g;first|exact G.cons|exact G.then_normal|exact G.nil|exact G.in_normal|exact G.then_normalG|exact G.then_ret|exact G.in_ret|exact G.in_exit|exact G.in_exit_ne rfl|exact G.then_exit|exact G.round|exact G.code)
  | (apply kf_w;first|exact W.seq|exact W.region|exact W.cond_true rfl|exact W.cond_false rfl|exact W.block|exact W.skip|exact W.ret|exact W.exit)
  | (apply kf_lw;first|exact LW.cons|exact LW.nil)):p→q:=s
theorem stp {p q:Prop} (hp:p) (s:p→q:=by exact stpF):q:=s hp
theorem stbF {F:Nat→Prop} {q:Prop} (s:(∀ b,F b)→q:=by
 first
  | (apply kf_op;first
   | (apply kf_box;first|exact o_box rfl rfl rfl rfl)
   | (apply kf_alloc;first|exact o_alloc rfl rfl))):(∀ b,F b)→q:=s
theorem stb {F:Nat→Prop} {q:Prop} (hp : ∀ b,F b) (s:(∀ b,F b)→q:=by exact stbF):q:=s hp
theorem stlF {F:Value→Prop} {q:Prop} (s:(∀ v,F v)→q:=by
 first
  | (apply kf_op;apply kf_load;exact o_loadR rfl rfl rfl rfl)):(∀ v,F v)→q:=s
theorem stl {F:Value→Prop} {q:Prop} (hp : ∀ v,F v) (s:(∀ v,F v)→q:=by exact stlF):q:=s hp
section
variable {x:Cx} {Q:Exit→Act→World→Prop} {Φ:List Fa} {L:Env} {M:Own} {ops:Array Oper} {K:Act→World→Prop}
variable {d:Nat} {ty:TypeId} {pos:String} {af:Array Edge} {g:Option (Nat × Bool)}
theorem o_ixA {α:Type} [GoTy α] {t e:TypeId} {y z:Operand} {k:IntKind} {n:Int} {v:Value} {xs:List α} (i:Nat) [ht:SlTy x.P t e] [hs:Siz x.P e (GoTy.sz α)] [kr:KRp Φ v xs] (hdN:Nat.blt d x.N=true) (hg:gd ops L g=some true) (hy:ev L y=some v) (hz:ev L z=some (.int k n)) (hn:n=(i:Int))
  (hi:i<xs.length:=by first|exact rfl|exact Nat.le_of_ble_eq_true rfl|decide|(simp;done)|omega) (h : ∀ p,G x (fPt p xs[i]::Φ) ((d,p)::L) M K):OpK x ops Q ⟨some d,.indexAddr t y z,ty,pos,af,g⟩ Φ L M K:=o_idxN i hdN hg hy hz hn hi h
theorem o_ixB {α:Type} [GoTy α] {t e:TypeId} {y z:Operand} {k:IntKind} {n:Int} {v:Value} {xs:List α} [ht:SlTy x.P t e] [hs:Siz x.P e (GoTy.sz α)] [kr:KRp Φ v xs] (hdN:Nat.blt d x.N=true) (hg:gd ops L g=some true) (hy:ev L y=some v) (hz:ev L z=some (.int k n))
  (h0:0≤n:=by first|exact rfl|exact Nat.le_of_ble_eq_true rfl|decide|(simp;done)|omega) (hi:n.toNat<xs.length:=by first|exact rfl|exact Nat.le_of_ble_eq_true rfl|decide|(simp;done)|omega) (h : ∀ p,G x (fPt p xs[n.toNat]::Φ) ((d,p)::L) M K):OpK x ops Q ⟨some d,.indexAddr t y z,ty,pos,af,g⟩ Φ L M K:=o_idx hdN hg hy hz h0 hi h
end
theorem stiF {F:Value→Prop} {q:Prop} (s:(∀ v,F v)→q:=by
 first
  | (apply kf_op;apply kf_indexAddr;first|exact fun h=>o_ixA _ rfl rfl rfl rfl rfl (h:=h)|exact fun h=>o_ixB rfl rfl rfl rfl (h:=h))):(∀ v,F v)→q:=s
theorem sti {F:Value→Prop} {q:Prop} (hp : ∀ v,F v) (s:(∀ v,F v)→q:=by exact stiF):q:=s hp
theorem stfF {p q:Prop} (s:p→q:=by
 first
  | (apply kf_op;apply kf_load;exact fun h=>o_loadF rfl rfl rfl rfl h)):p→q:=s
theorem stf {p q:Prop} (hp:p) (s:p→q:=by exact stfF):q:=s hp
end Go.Rail
set_option linter.unusedVariables false
namespace Go.Rail
open Go
theorem s4 {p q:Prop} (hp:p) (s:p→q:=by first|exact stpF|exact stiF|exact stfF|exact stbF):q:=s hp
theorem s5 {p q:Prop} (hp:p) (s:p→q:=by first|exact stpF|exact stiF|exact stfF|exact stbF|exact stlF):q:=s hp
end Go.Rail
