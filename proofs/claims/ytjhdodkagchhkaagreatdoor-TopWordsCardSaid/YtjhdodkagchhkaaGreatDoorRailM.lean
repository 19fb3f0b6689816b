/- No function starts another goroutine. -/
import Derived.Test.YtjhdodkagchhkaaGreatDoorRailA
import GoSem.ClaimGoes
namespace Go.Rail
open Go
theorem goesBy_no {P:Program} {c:OpenClaim} (hs:c.start = .entering) (h:(P.funcs.toList.all fun fn => !fn.goes)=true):false=c.goesBy P:=by
 have h1:P.funcs.any Func.goes=false:=by
  rw [← Array.any_toList]
  cases hx:P.funcs.toList.any Func.goes with
  | false=>rfl
  | true =>
   obtain ⟨fn,hm,hg⟩:=List.any_eq_true.1 hx
   have:=List.all_eq_true.1 h fn hm
   rw [hg] at this;cases this
 have h2 : ∀ g:FuncId,(P.funcs[g]?).any Func.goes=false:=by
  intro g
  cases hx:P.funcs[g]? with
  | none=>rfl
  | some fn =>
   have hm:fn∈P.funcs.toList:=by
    have:=Array.mem_of_getElem? hx
    simpa using this
   have:=List.all_eq_true.1 h fn hm
   simpa using this
 have h3 : ∀ f,P.goes f=false:=by
  intro f
  unfold Program.goes
  rw [h1,Bool.and_false,Bool.or_false]
  simp [h2]
 unfold OpenClaim.goesBy Program.goesAt Program.goesFrom
 rw [hs]
 cases P.funcNamed c.func with
 | none=>rfl
 | some f=>simp [h3]
end Go.Rail
