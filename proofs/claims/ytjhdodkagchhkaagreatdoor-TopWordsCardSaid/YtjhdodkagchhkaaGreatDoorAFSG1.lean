/- frame.Run. -/
import Derived.Test.YtjhdodkagchhkaaGreatDoorRailA
import Derived.Test.YtjhdodkagchhkaaGreatDoorRailI
import Derived.Test.YtjhdodkagchhkaaGreatDoorAFQFR
import Derived.Test.YtjhdodkagchhkaaGreatDoorAC19B3
import Derived.Test.YtjhdodkagchhkaaGreatDoorAEq
import Derived.Test.YtjhdodkagchhkaaGreatDoorRailB
import Derived.Test.YtjhdodkagchhkaaGreatDoorABF
set_option linter.unusedSimpArgs false
set_option linter.unusedVariables false
namespace Go.Rail
open Go Go.Proofs Tryz
set_option maxHeartbeats 400000
set_option maxRecDepth 4000
attribute [local irreducible] OpK G W LW wpListIn Exit.then Exit.inBlock Post rounds opRun bodyPostM intOp
set_option maxHeartbeats 2000000
def RRuns (p:Frm × Nat):Value→List Fa→Own→Prop:=fun u Φ' M' => ∃ a c,u = .tuple #[frmV p.1 (.slice a p.1.stack.length c),.int .i64 (p.2:Int),.int .i64 0]∧Φ'=[fRp (.slice a p.1.stack.length c) p.1.stack]∧M'=[]
structure RnSt where
 i:Nat
 g:Frm
 a:Option Addr
 c:Nat
theorem fRun_spec (f:Frm) (sv:Value) (m:Nat) (hm:m≤100000) (hr:Rt f):Fn prog 8 [frmV f sv,.int .i64 (m:Int)] [fRp sv f.stack,fKc] [] (RRuns (runL keccakL m f)):=by
 have h1:=fun v=>fright_spec f v (right_Rt.2 hr)
 have h2:=fun v=>own_spec f v (by have:=hr.2.2.2.2.2.2.2.2.1;omega)
 refine Fn.enter func8 rfl ntmps8 oI (fun I0 w0 => ?_)
 refine W.bare (G.slice sv f.stack ?_)
 intro a1 c1 e1 k1
 subst e1
 repeat refine sq ?_;try intro
 rename_i b2 b4
 refine OpK.call rfl rfl rfl rfl (h2 _) oY (Mr:=_) oP ?_
 rintro u Φ' Mc' ⟨v5,o,hv,rfl,rfl,rfl⟩
 obtain ⟨a2,c2,rfl⟩:=own_open hv
 refine nA ?_
 refine G.giveOwn _ _ o 24 (Mr:=_) hv oY oP ?_
 repeat refine sq ?_;try intro
 refine cV (h1 _) ?_
 repeat refine sq ?_;try intro
 refine W.lp (S:=RnSt) (fun s=>([fRp (.slice s.a s.g.stack.length s.c) s.g.stack,fKc],[(25,.int .i64 (s.i:Int)),(24,.int .i64 (m:Int)),(1,.int .i64 (m:Int)),(2,.pointer (some ⟨b2,0,none⟩)),(4,.pointer (some ⟨b4,0,none⟩))],[(b4,Ob (frmC (bgF [] [] 0) (.slice none 0 0)) 32),(b2,Ob (frmC s.g (.slice s.a s.g.stack.length s.c)) 32)])) (fun s=>s.i≤m∧Rt s.g∧runL keccakL m f=((runL keccakL (m-s.i) s.g).1,(runL keccakL (m-s.i) s.g).2+s.i)) (fun s=>m-s.i) ⟨0,f,a2,c2⟩ ?_ (h0:=⟨Nat.zero_le _,hr,rfl⟩)
 rintro ⟨i,g,ag,cg⟩ ⟨hi,hrg,hrun⟩
 dsimp only at hi hrg hrun ⊢
 rw [hrun]
 by_cases he:i=m
 ·subst he
  rw [Nat.sub_self,show runL keccakL 0 g=(g,0) from rfl,Nat.zero_add]
  repeat refine sq ?_;try intro
  exact G.ret rfl (.cons (.cellA rfl rfl) (.cons (.tmp rfl) (.cons (.tmp rfl) .nil))) (Φ':=[fRp (.slice ag _ cg) _]) (M':=[]) oY oN ⟨ag,cg,rfl,rfl,rfl⟩
 ·have h3:=fun v=>fStep_spec g v hrg
  obtain ⟨k,hk⟩ : ∃ k,m-i=k+1:=⟨m-i-1,by omega⟩
  have hk2:m-(i+1)=k:=by omega
  have hlaw:=stepL_law keccakL hrg
  rw [hk,runL_s]
  rw [hk,runL_s] at hrun
  generalize hq:stepL keccakL g=q at h3 hrun hlaw ⊢
  obtain ⟨g2,e⟩:=q
  dsimp only at hlaw hrun ⊢
  by_cases hz:e≠0
  ·rw [if_pos hz,Nat.zero_add]
   repeat refine sq ?_;try intro
   refine OpK.call rfl rfl rfl rfl (h3 _) oY (Mr:=_) oP ?_
   rintro u Φ' Mc' ⟨a3,c3,rfl,rfl,rfl⟩
   refine nA ?_
   repeat refine sq ?_;try intro
   exact G.ret rfl (.cons (.cellA rfl rfl) (.cons (.tmp rfl) (.cons (.tmp rfl) .nil))) (Φ':=[fRp (.slice ag _ cg) _]) (M':=[]) oY oN ⟨ag,cg,rfl,rfl,rfl⟩
  ·obtain rfl:e=0:=by omega
   rw [if_neg hz] at hrun ⊢
   obtain ⟨_,hrt,_⟩:=hlaw rfl
   repeat refine sq ?_;try intro
   refine OpK.call rfl rfl rfl rfl (h3 _) oY (Mr:=_) oP ?_
   rintro u Φ' Mc' ⟨a3,c3,rfl,rfl,rfl⟩
   refine nA ?_
   repeat refine sq ?_;try intro
   refine G.ag (S:=RnSt) ⟨i+1,g2,a3,c3⟩ (hpre:=⟨by dsimp only;omega,hrt,?_⟩) (hM := .cons _ oZ)
   dsimp only
   rw [hk2,Nat.add_assoc,Nat.add_comm 1 i]
end Go.Rail
namespace Go.Rail
open Go Go.Proofs
set_option maxHeartbeats 400000
set_option maxRecDepth 4000
attribute [local irreducible] OpK G W LW wpListIn Exit.then Exit.inBlock Post rounds opRun bodyPostM intOp
set_option maxHeartbeats 4000000
theorem new_Rt {code input ret:List UInt8} {gas:Int} (h1:code.length≤49152) (h2:input.length≤1048576) (h3:ret.length≤1048576) (h4:0≤gas) (h5:gas≤2000000):Rt ⟨code,input,0,[],[],gas,ret,0,0,[]⟩ :=
 ⟨h1,h2,h3,Nat.zero_le _,Int.le_refl _,(by decide:(0:Int)≤9007199254740992),h4,h5,Nat.zero_le _,Nat.zero_le _,rfl,Int.le_refl _,(by decide:(0:Int)≤4),(by decide:(0:Int)≠0↔(0:Int)=4),.inl rfl⟩
end Go.Rail
