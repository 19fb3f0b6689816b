/- alive: the program answers; reckoned. -/
import Derived.Test.YtjhdodkagchhkaaGreatDoorRailA
import Derived.Test.YtjhdodkagchhkaaGreatDoorAK4F8
import Derived.Test.YtjhdodkagchhkaaGreatDoorABDBH
import Derived.Test.YtjhdodkagchhkaaGreatDoorAC1Mul
import Derived.Test.YtjhdodkagchhkaaGreatDoorRailL
set_option linter.unusedSimpArgs false
set_option linter.unusedVariables false
namespace Go.Rail
open Go Go.Proofs Go.Rail.Ev
set_option maxHeartbeats 400000
set_option maxRecDepth 4000
attribute [local irreducible] OpK G W LW wpListIn Exit.then Exit.inBlock Post rounds opRun bodyPostM intOp
set_option maxHeartbeats 4000000
def extP (f:FuncId):Option Xk:=bif Nat.beq f 141 then some .noEsc else bif Nat.beq f 364 then some (.mkNoZero 5) else bif Nat.beq f 84 then some .count else
 bif Nat.beq f 236 then some .idxByte else bif Nat.beq f 209 then some .add64 else bif Nat.beq f 211 then some .sub64 else none
def orcP (f:FuncId) (vs:List Value):Option Value:=bif Nat.beq f 12 then (match vs with
 | [.string s]=>bif Nat.ble s.data.toList.length 1000 then frcB (keccakT s.data.toList) fun l=>some (.tuple #[.string (ba l),.int .i64 0]) else none
 | _=>none) else none
noncomputable def CP:Cf:=⟨Tryz.prog,fun _=>none,extP,orcP⟩
theorem beq_case {α:Type} {f g:Nat} {x y z:Option α} {Pr:Prop} (h:(bif Nat.beq f g then x else y)=z) (h1:f=g→x=z→Pr) (h2:y=z→Pr):Pr:=by
 cases hb:Nat.beq f g with
 | true=>rw [hb] at h;exact h1 (Nat.eq_of_beq_eq_true hb) h
 | false=>rw [hb] at h;exact h2 h
theorem CP_ok:CfOk CP [fKc]:=by
 refine ⟨glo_none,?_,?_,by kernel_rfl⟩
 ·intro f k h
  have h:extP f=some k:=h
  unfold extP at h
  refine beq_case h (fun e h => ?_) fun h => ?_
  ·subst e;cases h;exact exNE
  refine beq_case h (fun e h => ?_) fun h => ?_
  ·subst e;cases h
   obtain ⟨i,h1,h2⟩:=size1_ok (P:=Tryz.prog) (e:=5) kR
   exact ⟨_,_,i,exMZ,by kernel_rfl,h1,h2⟩
  refine beq_case h (fun e h => ?_) fun h => ?_
  ·subst e;cases h;exact exCS
  refine beq_case h (fun e h => ?_) fun h => ?_
  ·subst e;cases h;exact exIB
  refine beq_case h (fun e h => ?_) fun h => ?_
  ·subst e;cases h;exact (oY:ExtF Tryz.prog 209 add64Entry)
  refine beq_case h (fun e h => ?_) fun h => ?_
  ·subst e;cases h;exact (oY:ExtF Tryz.prog 211 sub64E)
  cases h
 ·intro f vs v h
  have h:orcP f vs=some v:=h
  unfold orcP at h
  refine beq_case h (fun e h => ?_) fun h => ?_
  ·subst e
   split at h
   ·rename_i s _ _
    cases hb:Nat.ble s.data.toList.length 1000 with
    | false=>rw [hb] at h;cases h
    | true =>
     rw [hb] at h
     rw [Nat.ble_eq] at hb
     rw [cond_true,frcB_eq,keccakT_eq] at h
     cases h
     exact ⟨(oY:HasFn Tryz.prog 12),ksum_spec s.data.toList oM,rfl,rfl⟩
   ·cases h
  ·cases h
theorem CP_nm:namesOk Tryz.prog=true:=by kernel_rfl
theorem alive_t:isT ((reckon CP 60).c 4 [] [] B0)=true:=by decide +kernel
theorem alive_spec:FnV Tryz.prog 4 [] [fKc] (.bool true):=reckon_true CP_ok CP_nm alive_t
end Go.Rail
