/- How words, addresses and keys compare. -/
import Derived.Test.YtjhdodkagchhkaaGreatDoorRailA
import Derived.Test.YtjhdodkagchhkaaGreatDoorRailB
import Derived.Test.YtjhdodkagchhkaaGreatDoorAFacts
set_option linter.unusedSimpArgs false
set_option linter.unusedVariables false
namespace Go.Rail
open Go Go.Proofs Tryz
theorem info_some {P:Program} {t:TypeId} (h:(P.info? t).isSome=true) : ∃ i,P.info? t=some i:=Option.isSome_iff_exists.1 h

theorem eq_word (d:Nat) (x y:Word) (w:World):(Op.equalIn (d+2) 24 x.v y.v).run prog w = .ok (decide (x=y)) w:=by
 obtain ⟨i,hi⟩:=info_some (P:=prog) (t:=22) kR
 have h:=run_equalIn_ints (P:=prog) (d:=d) (k := .u64) underlying24 underlying22 hi kR isAgg22 (x.parts.map fun u=>(u.toNat:Int)) (y.parts.map fun u=>(u.toNat:Int)) rfl rfl w
 have e:(x.parts.map fun u=>(u.toNat:Int))=(y.parts.map fun u=>(u.toNat:Int))↔x=y:=by
  cases x;cases y
  simp only [Word.parts,List.map_cons,List.map_nil,List.cons.injEq,Int.natCast_inj,UInt64.toNat_inj,and_true,Word.mk.injEq]
 have e2:decide ((x.parts.map fun u=>(u.toNat:Int))=(y.parts.map fun u=>(u.toNat:Int)))=decide (x=y):=decide_eq_decide.2 e
 rw [← e2];exact h
instance (x y:Word):EqOn prog 24 x.v y.v (decide (x=y)) where
 eq:=fun w=>by
  have h:(Op.equalIn 10000 24 x.v y.v).run prog w=_:=eq_word 9998 x y w
  unfold Word.v at h ⊢
  rw [run_eql_struct,h];simp only [Result.andThen_ok]
 ne:=fun w=>by
  have h:(Op.equalIn 10000 24 x.v y.v).run prog w=_:=eq_word 9998 x y w
  unfold Word.v at h ⊢
  rw [run_neq_struct,h];simp only [Result.andThen_ok]
 guard:=fun op p q w=>by simp only [Word.v];exact run_eqGuard_agg _ _ _ _ _ _ _ kR

theorem map_u8_inj : ∀ {l m:List UInt8},l.map (fun u=>(u.toNat:Int))=m.map (fun u=>(u.toNat:Int))→l=m
 | [],[],_=>rfl
 | x::l,y::m,h=>by
  simp only [List.map_cons,List.cons.injEq] at h
  have h1:x=y:=UInt8.toNat_inj.1 oM
  rw [map_u8_inj h.2,h1]
 | [],_::_,h=>by cases h
 | _::_,[],h=>by cases h
theorem eq_addr (d:Nat) (x y:Addr20) (w:World):(Op.equalIn (d+2) 46 x.v y.v).run prog w = .ok (decide (x=y)) w:=by
 obtain ⟨i,hi⟩:=info_some (P:=prog) (t:=5) kR
 have h:=run_equalIn_ints (P:=prog) (d:=d) (k := .u8) underlying46 underlying5 hi kR isAgg5 (x.b.map fun u=>(u.toNat:Int)) (y.b.map fun u=>(u.toNat:Int)) (by simp [x.h]) (by simp [y.h]) w
 have e:(x.b.map fun u=>(u.toNat:Int))=(y.b.map fun u=>(u.toNat:Int))↔x=y:=by
  constructor
  ·intro h;cases x;cases y;have:=map_u8_inj h;simp_all
  ·intro h;rw [h]
 have e2:decide ((x.b.map fun u=>(u.toNat:Int))=(y.b.map fun u=>(u.toNat:Int)))=decide (x=y):=decide_eq_decide.2 e
 have ev : ∀ z:Addr20,z.v = .agg ((z.b.map fun u=>(u.toNat:Int)).map (Value.int .u8)).toArray:=fun z=>by simp [Addr20.v,Addr20.cells,Function.comp_def]
 rw [← e2,ev,ev];exact h
instance (x y:Addr20):EqOn prog 46 x.v y.v (decide (x=y)) where
 eq:=fun w=>by
  have h:(Op.equalIn 10000 46 x.v y.v).run prog w=_:=eq_addr 9998 x y w
  unfold Addr20.v at h ⊢
  rw [run_eql_struct,h];simp only [Result.andThen_ok]
 ne:=fun w=>by
  have h:(Op.equalIn 10000 46 x.v y.v).run prog w=_:=eq_addr 9998 x y w
  unfold Addr20.v at h ⊢
  rw [run_neq_struct,h];simp only [Result.andThen_ok]
 guard:=fun op p q w=>by simp only [Addr20.v];exact run_eqGuard_agg _ _ _ _ _ _ _ kR

theorem eq_key (d:Nat) (x y:Key) (w:World):(Op.equalIn (d+3) 295 x.v y.v).run prog w = .ok (decide (x=y)) w:=by
 have hS:prog.underlying 295=some (.struct (prog.fieldsOf 295)):=by kernel_rfl
 have hp:prog.stoodInHeld 295=false:=by kernel_rfl
 have h1:=eq_addr (d:=d) x.at_ y.at_ w
 have h2:=eq_word (d:=d) x.key y.key w
 have p1 : ∀ k:Key,(part 46 k.cells.toArray 0).run prog w = .ok k.at_.v w:=fun k=>by
  simp [part,isAgg46,sizeOf46,Sem.run_bind,Result.andThen,Sem.run_pure,Addr20.v];simpa using Key.cells_at k
 have p2 : ∀ k:Key,(part 4 k.cells.toArray 20).run prog w = .ok (.bool k.slot) w:=fun k=>by
  have:=Key.cells_slot k
  simp [part,isAgg4,Sem.run_bind,Result.andThen,Sem.run_pure,this]
 have p3 : ∀ k:Key,(part 24 k.cells.toArray 21).run prog w = .ok k.key.v w:=fun k=>by
  simp [part,isAgg24,sizeOf24,Sem.run_bind,Result.andThen,Sem.run_pure,Word.v];simpa using Key.cells_key k
 have hb:(Op.equalIn (d+2) 4 (.bool x.slot) (.bool y.slot)).run prog w = .ok (x.slot==y.slot) w:=run_equalIn_bool' w (d+1) _ _ _ underlying4
 simp only [Key.v]
 rw [run_equalIn_agg w (d+2) 295 _ _ hS hp]
 simp only [Program.fieldsOf,underlying295]
 have step : ∀ (f:Field) (fs:List Field) (t off:Nat) (a b:Value) (r:Bool),(part t x.cells.toArray off).run prog w = .ok a w→(part t y.cells.toArray off).run prog w = .ok b w→(Op.equalIn (d+2) t a b).run prog w = .ok r w →
   f.type=t→f.offset=off→f.name ≠ "_" → (Op.eqFields (d+2) x.cells.toArray y.cells.toArray (f::fs)).run prog w=if r then (Op.eqFields (d+2) x.cells.toArray y.cells.toArray fs).run prog w else .ok false w:=by
  intro f fs t off a b r ha hb' hr et eo hn
  subst et eo
  simp only [Op.eqFields,hn,ne_eq,not_false_eq_true,if_true,Sem.run_bind,ha,hb',hr,Result.andThen_ok]
  cases r<;>simp [Sem.run_pure]
 rw [step _ _ _ _ _ _ _ (p1 x) (p1 y) h1,step _ _ _ _ _ _ _ (p2 x) (p2 y) hb,step _ _ _ _ _ _ _ (p3 x) (p3 y) h2]
 any_goals (first|rfl|(simp;done))
 simp only [Op.eqFields,Sem.run_pure]
 obtain ⟨xa,xs,xk⟩:=x
 obtain ⟨ya,ys,yk⟩:=y
 by_cases e1:xa=ya<;>by_cases e2:xs=ys<;>by_cases e3:xk=yk<;>simp [e1,e2,e3]
instance (x y:Key):EqOn prog 295 x.v y.v (decide (x=y)) where
 eq:=fun w=>by
  have h:(Op.equalIn 10000 295 x.v y.v).run prog w=_:=eq_key 9997 x y w
  unfold Key.v at h ⊢
  rw [run_eql_struct,h];simp only [Result.andThen_ok]
 ne:=fun w=>by
  have h:(Op.equalIn 10000 295 x.v y.v).run prog w=_:=eq_key 9997 x y w
  unfold Key.v at h ⊢
  rw [run_neq_struct,h];simp only [Result.andThen_ok]
 guard:=fun op p q w=>by simp only [Key.v];exact run_eqGuard_agg _ _ _ _ _ _ _ kR
instance (a b:Bool):EqOn prog 4 (.bool a) (.bool b) (a==b) where
 eq:=fun w=>by
  have h:(Op.equalIn 10000 4 (.bool a) (.bool b)).run prog w = .ok (a==b) w:=run_equalIn_bool' w 9999 4 a b underlying4
  have e:binOp .eql 4 (.bool a) (.bool b)=(do pure (Value.bool (← Op.equalIn 10000 4 (.bool a) (.bool b)))):=rfl
  rw [e,Sem.run_bind,h];simp only [Result.andThen_ok,Sem.run_pure]
 ne:=fun w=>by
  have h:(Op.equalIn 10000 4 (.bool a) (.bool b)).run prog w = .ok (a==b) w:=run_equalIn_bool' w 9999 4 a b underlying4
  have e:binOp .neq 4 (.bool a) (.bool b)=(do pure (Value.bool (!(← Op.equalIn 10000 4 (.bool a) (.bool b))))):=rfl
  rw [e,Sem.run_bind,h];simp only [Result.andThen_ok,Sem.run_pure]
 guard:=fun op p q w=>run_eqGuard_bool w
end Go.Rail
