/- Right of the document. -/
import Derived.Test.YtpbbjkbackiljaaGreatDoorRailA
import Derived.Test.YtpbbjkbackiljaaGreatDoorRailI
import Derived.Test.YtpbbjkbackiljaaGreatDoorAFRTG
set_option linter.unusedSimpArgs false
set_option linter.unusedVariables false
namespace Go.Rail
open Go Go.Proofs Tryz
set_option maxHeartbeats 400000
set_option maxRecDepth 4000
attribute [local irreducible] OpK G W LW wpListIn Exit.then Exit.inBlock Post rounds opRun bodyPostM intOp
set_option maxHeartbeats 8000000
theorem rt17_0 (f:Frm) (sv:Value) (hd:(49152<f.code.length)∨(f.code.length≤49152∧1048576<f.input.length)∨(f.code.length≤49152∧f.input.length≤1048576∧1048576<f.ret.length)∨(f.code.length≤49152∧f.input.length≤1048576∧f.ret.length≤1048576∧1048576<f.out.length)∨(f.code.length≤49152∧f.input.length≤1048576∧f.ret.length≤1048576∧f.out.length≤1048576∧f.pc<0)):FnV prog 21 [frmV f sv] [fRp sv f.stack] (.bool false):=by
 rcases hd with h|⟨g1,h⟩|⟨g1,g2,h⟩|⟨g1,g2,g3,h⟩|⟨g1,g2,g3,g4,h⟩
 all_goals
  refine Fn.enter func21 rfl ntmps21 oI (fun I0 w0 => ?_)
  refine W.bare (G.slice sv f.stack ?_)
  intro a1 c1 e1 k1
  subst e1
  clear k1
  repeat refine sq ?_;try intro
  refine G.retV ?_
  rfl
theorem rt17_1 (f:Frm) (sv:Value) (hd:(f.code.length≤49152∧f.input.length≤1048576∧f.ret.length≤1048576∧f.out.length≤1048576∧0≤f.pc∧9007199254740992<f.pc)∨(f.code.length≤49152∧f.input.length≤1048576∧f.ret.length≤1048576∧f.out.length≤1048576∧0≤f.pc∧f.pc≤9007199254740992∧f.gas<0)∨(f.code.length≤49152∧f.input.length≤1048576∧f.ret.length≤1048576∧f.out.length≤1048576∧0≤f.pc∧f.pc≤9007199254740992∧0≤f.gas∧2000000<f.gas)∨(f.code.length≤49152∧f.input.length≤1048576∧f.ret.length≤1048576∧f.out.length≤1048576∧0≤f.pc∧f.pc≤9007199254740992∧0≤f.gas∧f.gas≤2000000∧1024<f.stack.length)):FnV prog 21 [frmV f sv] [fRp sv f.stack] (.bool false):=by
 rcases hd with ⟨g1,g2,g3,g4,g5,h⟩|⟨g1,g2,g3,g4,g5,g6,h⟩|⟨g1,g2,g3,g4,g5,g6,g7,h⟩|⟨g1,g2,g3,g4,g5,g6,g7,g8,h⟩
 all_goals
  refine Fn.enter func21 rfl ntmps21 oI (fun I0 w0 => ?_)
  refine W.bare (G.slice sv f.stack ?_)
  intro a1 c1 e1 k1
  subst e1
  clear k1
  repeat refine sq ?_;try intro
  refine G.retV ?_
  rfl
theorem rt17_2 (f:Frm) (sv:Value) (hd:(f.code.length≤49152∧f.input.length≤1048576∧f.ret.length≤1048576∧f.out.length≤1048576∧0≤f.pc∧f.pc≤9007199254740992∧0≤f.gas∧f.gas≤2000000∧f.stack.length≤1024∧1048576<f.mem.length)∨(f.code.length≤49152∧f.input.length≤1048576∧f.ret.length≤1048576∧f.out.length≤1048576∧0≤f.pc∧f.pc≤9007199254740992∧0≤f.gas∧f.gas≤2000000∧f.stack.length≤1024∧f.mem.length≤1048576∧f.mem.length%32≠0)∨(f.code.length≤49152∧f.input.length≤1048576∧f.ret.length≤1048576∧f.out.length≤1048576∧0≤f.pc∧f.pc≤9007199254740992∧0≤f.gas∧f.gas≤2000000∧f.stack.length≤1024∧f.mem.length≤1048576∧f.mem.length%32=0∧f.status<0)∨(f.code.length≤49152∧f.input.length≤1048576∧f.ret.length≤1048576∧f.out.length≤1048576∧0≤f.pc∧f.pc≤9007199254740992∧0≤f.gas∧f.gas≤2000000∧f.stack.length≤1024∧f.mem.length≤1048576∧f.mem.length%32=0∧0≤f.status∧4<f.status)):FnV prog 21 [frmV f sv] [fRp sv f.stack] (.bool false):=by
 rcases hd with ⟨g1,g2,g3,g4,g5,g6,g7,g8,g9,h⟩|⟨g1,g2,g3,g4,g5,g6,g7,g8,g9,g10,h⟩|⟨g1,g2,g3,g4,g5,g6,g7,g8,g9,g10,g11,h⟩|⟨g1,g2,g3,g4,g5,g6,g7,g8,g9,g10,g11,g12,h⟩
 all_goals
  refine Fn.enter func21 rfl ntmps21 oI (fun I0 w0 => ?_)
  refine W.bare (G.slice sv f.stack ?_)
  intro a1 c1 e1 k1
  subst e1
  clear k1
  repeat refine sq ?_;try intro
  refine G.retV ?_
  rfl
theorem rt17_d (f:Frm) (sv:Value) (g1:f.code.length≤49152) (g2:f.input.length≤1048576) (g3:f.ret.length≤1048576) (g4:f.out.length≤1048576) (g5:0≤f.pc) (g6:f.pc≤9007199254740992) (g7:0≤f.gas) (g8:f.gas≤2000000) (g9:f.stack.length≤1024) (g10:f.mem.length≤1048576) (g11:f.mem.length%32=0) (g12:0≤f.status) (g13:f.status≤4) (e1:f.status=4) (e2:f.errno=0):FnV prog 21 [frmV f sv] [fRp sv f.stack] (.bool false):=by
 refine Fn.enter func21 rfl ntmps21 oI (fun I0 w0 => ?_)
 refine W.bare (G.slice sv f.stack ?_)
 intro a1 c1 e1 k1
 subst e1
 clear k1
 repeat refine sq ?_;try intro
 refine G.retV ?_
 rfl
theorem rt17_e (f:Frm) (sv:Value) (g1:f.code.length≤49152) (g2:f.input.length≤1048576) (g3:f.ret.length≤1048576) (g4:f.out.length≤1048576) (g5:0≤f.pc) (g6:f.pc≤9007199254740992) (g7:0≤f.gas) (g8:f.gas≤2000000) (g9:f.stack.length≤1024) (g10:f.mem.length≤1048576) (g11:f.mem.length%32=0) (g12:0≤f.status) (g13:f.status≤4) (e1:f.status≠4) (e2:f.errno≠0):FnV prog 21 [frmV f sv] [fRp sv f.stack] (.bool false):=by
 refine Fn.enter func21 rfl ntmps21 oI (fun I0 w0 => ?_)
 refine W.bare (G.slice sv f.stack ?_)
 intro a1 c1 e1 k1
 subst e1
 clear k1
 repeat refine sq ?_;try intro
 refine G.retV ?_
 rfl
theorem rt17_f (f:Frm) (sv:Value) (g1:f.code.length≤49152) (g2:f.input.length≤1048576) (g3:f.ret.length≤1048576) (g4:f.out.length≤1048576) (g5:0≤f.pc) (g6:f.pc≤9007199254740992) (g7:0≤f.gas) (g8:f.gas≤2000000) (g9:f.stack.length≤1024) (g10:f.mem.length≤1048576) (g11:f.mem.length%32=0) (g12:0≤f.status) (g13:f.status≤4) (e1:f.status=4) (e2:f.errno≠0) (ho:f.out=[]):FnV prog 21 [frmV f sv] [fRp sv f.stack] (.bool true):=by
 refine Fn.enter func21 rfl ntmps21 oI (fun I0 w0 => ?_)
 refine W.bare (G.slice sv f.stack ?_)
 intro a1 c1 e1 k1
 subst e1
 clear k1
 repeat refine sq ?_;try intro
 refine G.retV ?_
 rfl
theorem rt17_g (f:Frm) (sv:Value) (g1:f.code.length≤49152) (g2:f.input.length≤1048576) (g3:f.ret.length≤1048576) (g4:f.out.length≤1048576) (g5:0≤f.pc) (g6:f.pc≤9007199254740992) (g7:0≤f.gas) (g8:f.gas≤2000000) (g9:f.stack.length≤1024) (g10:f.mem.length≤1048576) (g11:f.mem.length%32=0) (g12:0≤f.status) (g13:f.status≤4) (e1:f.status≠4) (e2:f.errno=0) (ho:f.out=[]):FnV prog 21 [frmV f sv] [fRp sv f.stack] (.bool true):=by
 refine Fn.enter func21 rfl ntmps21 oI (fun I0 w0 => ?_)
 refine W.bare (G.slice sv f.stack ?_)
 intro a1 c1 e1 k1
 subst e1
 clear k1
 repeat refine sq ?_;try intro
 refine G.retV ?_
 rfl
theorem rt17_h (f:Frm) (sv:Value) (g1:f.code.length≤49152) (g2:f.input.length≤1048576) (g3:f.ret.length≤1048576) (g4:f.out.length≤1048576) (g5:0≤f.pc) (g6:f.pc≤9007199254740992) (g7:0≤f.gas) (g8:f.gas≤2000000) (g9:f.stack.length≤1024) (g10:f.mem.length≤1048576) (g11:f.mem.length%32=0) (g12:0≤f.status) (g13:f.status≤4) (e1:f.status=2) (e2:f.errno=0) (ho:f.out≠[]):FnV prog 21 [frmV f sv] [fRp sv f.stack] (.bool true):=by
 refine Fn.enter func21 rfl ntmps21 oI (fun I0 w0 => ?_)
 refine W.bare (G.slice sv f.stack ?_)
 intro a1 c1 e1 k1
 subst e1
 clear k1
 repeat refine sq ?_;try intro
 refine G.retV ?_
 rfl
theorem rt17_i (f:Frm) (sv:Value) (g1:f.code.length≤49152) (g2:f.input.length≤1048576) (g3:f.ret.length≤1048576) (g4:f.out.length≤1048576) (g5:0≤f.pc) (g6:f.pc≤9007199254740992) (g7:0≤f.gas) (g8:f.gas≤2000000) (g9:f.stack.length≤1024) (g10:f.mem.length≤1048576) (g11:f.mem.length%32=0) (g12:0≤f.status) (g13:f.status≤4) (e1:f.status=3) (e2:f.errno=0) (ho:f.out≠[]):FnV prog 21 [frmV f sv] [fRp sv f.stack] (.bool true):=by
 refine Fn.enter func21 rfl ntmps21 oI (fun I0 w0 => ?_)
 refine W.bare (G.slice sv f.stack ?_)
 intro a1 c1 e1 k1
 subst e1
 clear k1
 repeat refine sq ?_;try intro
 refine G.retV ?_
 rfl
theorem rt17_j (f:Frm) (sv:Value) (g1:f.code.length≤49152) (g2:f.input.length≤1048576) (g3:f.ret.length≤1048576) (g4:f.out.length≤1048576) (g5:0≤f.pc) (g6:f.pc≤9007199254740992) (g7:0≤f.gas) (g8:f.gas≤2000000) (g9:f.stack.length≤1024) (g10:f.mem.length≤1048576) (g11:f.mem.length%32=0) (g12:0≤f.status) (g13:f.status≤4) (e1:f.status=4) (e2:f.errno≠0) (ho:f.out≠[]):FnV prog 21 [frmV f sv] [fRp sv f.stack] (.bool false):=by
 refine Fn.enter func21 rfl ntmps21 oI (fun I0 w0 => ?_)
 refine W.bare (G.slice sv f.stack ?_)
 intro a1 c1 e1 k1
 subst e1
 clear k1
 repeat refine sq ?_;try intro
 refine G.retV ?_
 rfl
theorem rt17_k (f:Frm) (sv:Value) (g1:f.code.length≤49152) (g2:f.input.length≤1048576) (g3:f.ret.length≤1048576) (g4:f.out.length≤1048576) (g5:0≤f.pc) (g6:f.pc≤9007199254740992) (g7:0≤f.gas) (g8:f.gas≤2000000) (g9:f.stack.length≤1024) (g10:f.mem.length≤1048576) (g11:f.mem.length%32=0) (g12:0≤f.status) (g13:f.status≤4) (e1:f.status≠4) (e2:f.errno=0) (ho:f.out≠[]) (e3:f.status≠2) (e4:f.status≠3):FnV prog 21 [frmV f sv] [fRp sv f.stack] (.bool false):=by
 refine Fn.enter func21 rfl ntmps21 oI (fun I0 w0 => ?_)
 refine W.bare (G.slice sv f.stack ?_)
 intro a1 c1 e1 k1
 subst e1
 clear k1
 repeat refine sq ?_;try intro
 refine G.retV ?_
 rfl
theorem right17_spec (f:Frm) (sv:Value):FnV prog 21 [frmV f sv] [fRp sv f.stack] (.bool (rightF f)):=by
 by_cases h:49152<f.code.length
 ·rw [show rightF f=false from decide_eq_false (fun q=>by obtain ⟨q1,q2,q3,q4,q5,q6,q7,q8,q9,q10,q11,q12,q13,q14,q15⟩:=q;omega)]
  exact rt17_0 f sv (.inl h)
 have g1:f.code.length≤49152:=by omega
 clear h
 by_cases h:1048576<f.input.length
 ·rw [show rightF f=false from decide_eq_false (fun q=>by obtain ⟨q1,q2,q3,q4,q5,q6,q7,q8,q9,q10,q11,q12,q13,q14,q15⟩:=q;omega)]
  exact rt17_0 f sv (.inr (.inl ⟨g1,h⟩))
 have g2:f.input.length≤1048576:=by omega
 clear h
 by_cases h:1048576<f.ret.length
 ·rw [show rightF f=false from decide_eq_false (fun q=>by obtain ⟨q1,q2,q3,q4,q5,q6,q7,q8,q9,q10,q11,q12,q13,q14,q15⟩:=q;omega)]
  exact rt17_0 f sv (.inr (.inr (.inl ⟨g1,g2,h⟩)))
 have g3:f.ret.length≤1048576:=by omega
 clear h
 by_cases h:1048576<f.out.length
 ·rw [show rightF f=false from decide_eq_false (fun q=>by obtain ⟨q1,q2,q3,q4,q5,q6,q7,q8,q9,q10,q11,q12,q13,q14,q15⟩:=q;omega)]
  exact rt17_0 f sv (.inr (.inr (.inr (.inl ⟨g1,g2,g3,h⟩))))
 have g4:f.out.length≤1048576:=by omega
 clear h
 by_cases h:f.pc<0
 ·rw [show rightF f=false from decide_eq_false (fun q=>by obtain ⟨q1,q2,q3,q4,q5,q6,q7,q8,q9,q10,q11,q12,q13,q14,q15⟩:=q;omega)]
  exact rt17_0 f sv (.inr (.inr (.inr (.inr (⟨g1,g2,g3,g4,h⟩)))))
 have g5:0≤f.pc:=by omega
 clear h
 by_cases h:9007199254740992<f.pc
 ·rw [show rightF f=false from decide_eq_false (fun q=>by obtain ⟨q1,q2,q3,q4,q5,q6,q7,q8,q9,q10,q11,q12,q13,q14,q15⟩:=q;omega)]
  exact rt17_1 f sv (.inl ⟨g1,g2,g3,g4,g5,h⟩)
 have g6:f.pc≤9007199254740992:=by omega
 clear h
 by_cases h:f.gas<0
 ·rw [show rightF f=false from decide_eq_false (fun q=>by obtain ⟨q1,q2,q3,q4,q5,q6,q7,q8,q9,q10,q11,q12,q13,q14,q15⟩:=q;omega)]
  exact rt17_1 f sv (.inr (.inl ⟨g1,g2,g3,g4,g5,g6,h⟩))
 have g7:0≤f.gas:=by omega
 clear h
 by_cases h:2000000<f.gas
 ·rw [show rightF f=false from decide_eq_false (fun q=>by obtain ⟨q1,q2,q3,q4,q5,q6,q7,q8,q9,q10,q11,q12,q13,q14,q15⟩:=q;omega)]
  exact rt17_1 f sv (.inr (.inr (.inl ⟨g1,g2,g3,g4,g5,g6,g7,h⟩)))
 have g8:f.gas≤2000000:=by omega
 clear h
 by_cases h:1024<f.stack.length
 ·rw [show rightF f=false from decide_eq_false (fun q=>by obtain ⟨q1,q2,q3,q4,q5,q6,q7,q8,q9,q10,q11,q12,q13,q14,q15⟩:=q;omega)]
  exact rt17_1 f sv (.inr (.inr (.inr (⟨g1,g2,g3,g4,g5,g6,g7,g8,h⟩))))
 have g9:f.stack.length≤1024:=by omega
 clear h
 by_cases h:1048576<f.mem.length
 ·rw [show rightF f=false from decide_eq_false (fun q=>by obtain ⟨q1,q2,q3,q4,q5,q6,q7,q8,q9,q10,q11,q12,q13,q14,q15⟩:=q;omega)]
  exact rt17_2 f sv (.inl ⟨g1,g2,g3,g4,g5,g6,g7,g8,g9,h⟩)
 have g10:f.mem.length≤1048576:=by omega
 clear h
 by_cases h:f.mem.length%32≠0
 ·rw [show rightF f=false from decide_eq_false (fun q=>by obtain ⟨q1,q2,q3,q4,q5,q6,q7,q8,q9,q10,q11,q12,q13,q14,q15⟩:=q;omega)]
  exact rt17_2 f sv (.inr (.inl ⟨g1,g2,g3,g4,g5,g6,g7,g8,g9,g10,h⟩))
 have g11:f.mem.length%32=0:=by omega
 clear h
 by_cases h:f.status<0
 ·rw [show rightF f=false from decide_eq_false (fun q=>by obtain ⟨q1,q2,q3,q4,q5,q6,q7,q8,q9,q10,q11,q12,q13,q14,q15⟩:=q;omega)]
  exact rt17_2 f sv (.inr (.inr (.inl ⟨g1,g2,g3,g4,g5,g6,g7,g8,g9,g10,g11,h⟩)))
 have g12:0≤f.status:=by omega
 clear h
 by_cases h:4<f.status
 ·rw [show rightF f=false from decide_eq_false (fun q=>by obtain ⟨q1,q2,q3,q4,q5,q6,q7,q8,q9,q10,q11,q12,q13,q14,q15⟩:=q;omega)]
  exact rt17_2 f sv (.inr (.inr (.inr (⟨g1,g2,g3,g4,g5,g6,g7,g8,g9,g10,g11,g12,h⟩))))
 have g13:f.status≤4:=by omega
 clear h
 by_cases he:f.errno=0↔f.status=4
 ·rw [show rightF f=false from decide_eq_false (fun q=>by obtain ⟨q1,q2,q3,q4,q5,q6,q7,q8,q9,q10,q11,q12,q13,q14,q15⟩:=q;omega)]
  by_cases e1:f.status=4
  ·exact rt17_d f sv g1 g2 g3 g4 g5 g6 g7 g8 g9 g10 g11 g12 g13 e1 oM
  ·exact rt17_e f sv g1 g2 g3 g4 g5 g6 g7 g8 g9 g10 g11 g12 g13 e1 oM
 by_cases ho:f.out=[]
 ·rw [show rightF f=true from decide_eq_true ⟨by omega,by omega,by omega,by omega,by omega,by omega,by omega,by omega,by omega,by omega,by omega,by omega,by omega,by omega,.inl ho⟩]
  by_cases e1:f.status=4
  ·exact rt17_f f sv g1 g2 g3 g4 g5 g6 g7 g8 g9 g10 g11 g12 g13 e1 oM ho
  ·exact rt17_g f sv g1 g2 g3 g4 g5 g6 g7 g8 g9 g10 g11 g12 g13 e1 oM ho
 by_cases e3:f.status=2
 ·rw [show rightF f=true from decide_eq_true ⟨by omega,by omega,by omega,by omega,by omega,by omega,by omega,by omega,by omega,by omega,by omega,by omega,by omega,by omega,.inr (.inl e3)⟩]
  exact rt17_h f sv g1 g2 g3 g4 g5 g6 g7 g8 g9 g10 g11 g12 g13 e3 oM ho
 by_cases e4:f.status=3
 ·rw [show rightF f=true from decide_eq_true ⟨by omega,by omega,by omega,by omega,by omega,by omega,by omega,by omega,by omega,by omega,by omega,by omega,by omega,by omega,.inr (.inr e4)⟩]
  exact rt17_i f sv g1 g2 g3 g4 g5 g6 g7 g8 g9 g10 g11 g12 g13 e4 oM ho
 rw [show rightF f=false from decide_eq_false (fun q=>by obtain ⟨q1,q2,q3,q4,q5,q6,q7,q8,q9,q10,q11,q12,q13,q14,q15⟩:=q;rcases q15 with h|h|h;exact ho h;exact e3 h;exact e4 h)]
 by_cases e1:f.status=4
 ·exact rt17_j f sv g1 g2 g3 g4 g5 g6 g7 g8 g9 g10 g11 g12 g13 e1 oM ho
 ·exact rt17_k f sv g1 g2 g3 g4 g5 g6 g7 g8 g9 g10 g11 g12 g13 e1 oM ho e3 e4
end Go.Rail
