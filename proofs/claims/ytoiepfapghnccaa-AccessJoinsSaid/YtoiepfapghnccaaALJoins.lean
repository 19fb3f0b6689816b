/- What joins two sets is the same either way: the walk. -/
import Derived.Test.YtoiepfapghnccaaALRaw
namespace Go.Rail
open Go Go.Proofs
set_option linter.unusedSimpArgs false
set_option linter.unusedVariables false
set_option maxHeartbeats 400000
set_option maxRecDepth 4000
attribute [local irreducible] OpK G W LW wpListIn Exit.then Exit.inBlock Post rounds opRun bodyPostM intOp

attribute [local irreducible] lexN cmpW cmpA cmpK cmpI makeS setK joinS clashS mayS rightS J setsOf keysOf
theorem joins_walk (p0 p1 p2 p3 p4 p5 : Option Addr) (k0 k1 k2 k3 k4 k5 : Nat) (q0 q1 q2 q3 q4 q5 : List (Int × Int)) (o0 : okRaw q0) (o1 : okRaw q1) (o2 : okRaw q2) (o3 : okRaw q3) (o4 : okRaw q4) (o5 : okRaw q5) : FnV Try.prog 6 [.agg #[.slice p0 q0.length k0, .slice p1 q1.length k1], .agg #[.slice p2 q2.length k2, .slice p3 q3.length k3], .agg #[.slice p4 q4.length k4, .slice p5 q5.length k5]] [fRp (.slice p0 q0.length k0) q0, fRp (.slice p1 q1.length k1) q1, fRp (.slice p2 q2.length k2) q2, fRp (.slice p3 q3.length k3) q3, fRp (.slice p4 q4.length k4) q4, fRp (.slice p5 q5.length k5) q5] (.bool true) := by
  obtain ⟨A, hA, grA, gsA⟩ := setsOf_some q0 q1
  have gA : rightS A = true ∧ small 15 A := ⟨grA, gsA⟩
  obtain ⟨B, hB, grB, gsB⟩ := setsOf_some q2 q3
  have gB : rightS B = true ∧ small 15 B := ⟨grB, gsB⟩
  obtain ⟨C, hC, grC, gsC⟩ := setsOf_some q4 q5
  have gC : rightS C = true ∧ small 15 C := ⟨grC, gsC⟩
  refine Fn.enter Try.func6 rfl Try.ntmps6 (by simp) (fun I0 w0 => ?_)
  repeat (first | refine stp ?_ | (refine k_indexAddr ?_; first | (refine o_ixA _ rfl rfl rfl rfl rfl (h := ?_); intro _) | (refine o_ixB rfl rfl rfl rfl (h := ?_); intro _)) | (refine k_load ?_; refine o_loadF rfl rfl rfl rfl ?_) | (refine stb ?_; intro _))
  refine o_callV rfl rfl rfl rfl awake_spec rfl ?_
  repeat (first | refine stp ?_ | (refine k_indexAddr ?_; first | (refine o_ixA _ rfl rfl rfl rfl rfl (h := ?_); intro _) | (refine o_ixB rfl rfl rfl rfl (h := ?_); intro _)) | (refine k_load ?_; refine o_loadF rfl rfl rfl rfl ?_) | (refine stb ?_; intro _))
  have sA := rawSets (.slice p0 q0.length k0) (.slice p1 q1.length k1) q0 q1 (by assumption) (by assumption)
  rw [hA] at sA
  refine o_callD rfl rfl rfl rfl sA ?_
  intro svA
  refine G.sets svA A ?_
  intro r1 w1 e1
  refine G.slice r1 A.reads ?_
  intro a1 c1 x1 zx1
  refine G.slice w1 A.writes ?_
  intro b1 d1 y1 zy1
  subst x1 y1
  subst e1
  repeat (first | refine stp ?_ | (refine k_indexAddr ?_; first | (refine o_ixA _ rfl rfl rfl rfl rfl (h := ?_); intro _) | (refine o_ixB rfl rfl rfl rfl (h := ?_); intro _)) | (refine k_load ?_; refine o_loadF rfl rfl rfl rfl ?_) | (refine stb ?_; intro _))
  have sB := rawSets (.slice p2 q2.length k2) (.slice p3 q3.length k3) q2 q3 (by assumption) (by assumption)
  rw [hB] at sB
  refine o_callD rfl rfl rfl rfl sB ?_
  intro svB
  refine G.sets svB B ?_
  intro r2 w2 e2
  refine G.slice r2 B.reads ?_
  intro a2 c2 x2 zx2
  refine G.slice w2 B.writes ?_
  intro b2 d2 y2 zy2
  subst x2 y2
  subst e2
  repeat (first | refine stp ?_ | (refine k_indexAddr ?_; first | (refine o_ixA _ rfl rfl rfl rfl rfl (h := ?_); intro _) | (refine o_ixB rfl rfl rfl rfl (h := ?_); intro _)) | (refine k_load ?_; refine o_loadF rfl rfl rfl rfl ?_) | (refine stb ?_; intro _))
  have sC := rawSets (.slice p4 q4.length k4) (.slice p5 q5.length k5) q4 q5 (by assumption) (by assumption)
  rw [hC] at sC
  refine o_callD rfl rfl rfl rfl sC ?_
  intro svC
  refine G.sets svC C ?_
  intro r3 w3 e3
  refine G.slice r3 C.reads ?_
  intro a3 c3 x3 zx3
  refine G.slice w3 C.writes ?_
  intro b3 d3 y3 zy3
  subst x3 y3
  subst e3
  repeat (first | refine stp ?_ | (refine k_indexAddr ?_; first | (refine o_ixA _ rfl rfl rfl rfl rfl (h := ?_); intro _) | (refine o_ixB rfl rfl rfl rfl (h := ?_); intro _)) | (refine k_load ?_; refine o_loadF rfl rfl rfl rfl ?_) | (refine stb ?_; intro _))
  have jAB := ajoin_spec (.agg #[.slice a1 A.reads.length c1, .slice b1 A.writes.length d1]) (.agg #[.slice a2 B.reads.length c2, .slice b2 B.writes.length d2]) A B ⟨Nat.le_trans gA.2.1 (by decide), Nat.le_trans gA.2.2 (by decide)⟩ ⟨Nat.le_trans gB.2.1 (by decide), Nat.le_trans gB.2.2 (by decide)⟩
  have fAB := J_some gA gB (by decide)
  rw [fAB.1] at jAB
  refine o_callT rfl rfl rfl rfl jAB ?_
  intro svAB
  refine G.sets svAB (J A B) ?_
  intro r4 w4 e4
  refine G.slice r4 (J A B).reads ?_
  intro a4 c4 x4 zx4
  refine G.slice w4 (J A B).writes ?_
  intro b4 d4 y4 zy4
  subst x4 y4
  subst e4
  repeat (first | refine stp ?_ | (refine k_indexAddr ?_; first | (refine o_ixA _ rfl rfl rfl rfl rfl (h := ?_); intro _) | (refine o_ixB rfl rfl rfl rfl (h := ?_); intro _)) | (refine k_load ?_; refine o_loadF rfl rfl rfl rfl ?_) | (refine stb ?_; intro _))
  have jBA := ajoin_spec (.agg #[.slice a2 B.reads.length c2, .slice b2 B.writes.length d2]) (.agg #[.slice a1 A.reads.length c1, .slice b1 A.writes.length d1]) B A ⟨Nat.le_trans gB.2.1 (by decide), Nat.le_trans gB.2.2 (by decide)⟩ ⟨Nat.le_trans gA.2.1 (by decide), Nat.le_trans gA.2.2 (by decide)⟩
  have fBA := J_some gB gA (by decide)
  rw [fBA.1] at jBA
  refine o_callT rfl rfl rfl rfl jBA ?_
  intro svBA
  refine G.sets svBA (J B A) ?_
  intro r5 w5 e5
  refine G.slice r5 (J B A).reads ?_
  intro a5 c5 x5 zx5
  refine G.slice w5 (J B A).writes ?_
  intro b5 d5 y5 zy5
  subst x5 y5
  subst e5
  repeat (first | refine stp ?_ | (refine k_indexAddr ?_; first | (refine o_ixA _ rfl rfl rfl rfl rfl (h := ?_); intro _) | (refine o_ixB rfl rfl rfl rfl (h := ?_); intro _)) | (refine k_load ?_; refine o_loadF rfl rfl rfl rfl ?_) | (refine stb ?_; intro _))
  have jAA := ajoin_spec (.agg #[.slice a1 A.reads.length c1, .slice b1 A.writes.length d1]) (.agg #[.slice a1 A.reads.length c1, .slice b1 A.writes.length d1]) A A ⟨Nat.le_trans gA.2.1 (by decide), Nat.le_trans gA.2.2 (by decide)⟩ ⟨Nat.le_trans gA.2.1 (by decide), Nat.le_trans gA.2.2 (by decide)⟩
  have fAA := J_some gA gA (by decide)
  rw [fAA.1] at jAA
  refine o_callT rfl rfl rfl rfl jAA ?_
  intro svAA
  refine G.sets svAA (J A A) ?_
  intro r6 w6 e6
  refine G.slice r6 (J A A).reads ?_
  intro a6 c6 x6 zx6
  refine G.slice w6 (J A A).writes ?_
  intro b6 d6 y6 zy6
  subst x6 y6
  subst e6
  repeat (first | refine stp ?_ | (refine k_indexAddr ?_; first | (refine o_ixA _ rfl rfl rfl rfl rfl (h := ?_); intro _) | (refine o_ixB rfl rfl rfl rfl (h := ?_); intro _)) | (refine k_load ?_; refine o_loadF rfl rfl rfl rfl ?_) | (refine stb ?_; intro _))
  have jBC := ajoin_spec (.agg #[.slice a2 B.reads.length c2, .slice b2 B.writes.length d2]) (.agg #[.slice a3 C.reads.length c3, .slice b3 C.writes.length d3]) B C ⟨Nat.le_trans gB.2.1 (by decide), Nat.le_trans gB.2.2 (by decide)⟩ ⟨Nat.le_trans gC.2.1 (by decide), Nat.le_trans gC.2.2 (by decide)⟩
  have fBC := J_some gB gC (by decide)
  rw [fBC.1] at jBC
  refine o_callT rfl rfl rfl rfl jBC ?_
  intro svBC
  refine G.sets svBC (J B C) ?_
  intro r7 w7 e7
  refine G.slice r7 (J B C).reads ?_
  intro a7 c7 x7 zx7
  refine G.slice w7 (J B C).writes ?_
  intro b7 d7 y7 zy7
  subst x7 y7
  subst e7
  repeat (first | refine stp ?_ | (refine k_indexAddr ?_; first | (refine o_ixA _ rfl rfl rfl rfl rfl (h := ?_); intro _) | (refine o_ixB rfl rfl rfl rfl (h := ?_); intro _)) | (refine k_load ?_; refine o_loadF rfl rfl rfl rfl ?_) | (refine stb ?_; intro _))
  have jX := ajoin_spec (.agg #[.slice a4 (J A B).reads.length c4, .slice b4 (J A B).writes.length d4]) (.agg #[.slice a3 C.reads.length c3, .slice b3 C.writes.length d3]) (J A B) C ⟨Nat.le_trans fAB.2.2.1 (by decide), Nat.le_trans fAB.2.2.2 (by decide)⟩ ⟨Nat.le_trans gC.2.1 (by decide), Nat.le_trans gC.2.2 (by decide)⟩
  have fX := J_some fAB.2 gC (by decide)
  rw [fX.1] at jX
  refine o_callT rfl rfl rfl rfl jX ?_
  intro svX
  refine G.sets svX (J (J A B) C) ?_
  intro r8 w8 e8
  refine G.slice r8 (J (J A B) C).reads ?_
  intro a8 c8 x8 zx8
  refine G.slice w8 (J (J A B) C).writes ?_
  intro b8 d8 y8 zy8
  subst x8 y8
  subst e8
  repeat (first | refine stp ?_ | (refine k_indexAddr ?_; first | (refine o_ixA _ rfl rfl rfl rfl rfl (h := ?_); intro _) | (refine o_ixB rfl rfl rfl rfl (h := ?_); intro _)) | (refine k_load ?_; refine o_loadF rfl rfl rfl rfl ?_) | (refine stb ?_; intro _))
  have jY := ajoin_spec (.agg #[.slice a1 A.reads.length c1, .slice b1 A.writes.length d1]) (.agg #[.slice a7 (J B C).reads.length c7, .slice b7 (J B C).writes.length d7]) A (J B C) ⟨Nat.le_trans gA.2.1 (by decide), Nat.le_trans gA.2.2 (by decide)⟩ ⟨Nat.le_trans fBC.2.2.1 (by decide), Nat.le_trans fBC.2.2.2 (by decide)⟩
  have fY := J_some gA fBC.2 (by decide)
  rw [fY.1] at jY
  refine o_callT rfl rfl rfl rfl jY ?_
  intro svY
  refine G.sets svY (J A (J B C)) ?_
  intro r9 w9 e9
  refine G.slice r9 (J A (J B C)).reads ?_
  intro a9 c9 x9 zx9
  refine G.slice w9 (J A (J B C)).writes ?_
  intro b9 d9 y9 zy9
  subst x9 y9
  subst e9
  repeat (first | refine stp ?_ | (refine k_indexAddr ?_; first | (refine o_ixA _ rfl rfl rfl rfl rfl (h := ?_); intro _) | (refine o_ixB rfl rfl rfl rfl (h := ?_); intro _)) | (refine k_load ?_; refine o_loadF rfl rfl rfl rfl ?_) | (refine stb ?_; intro _))
  refine o_callV rfl rfl rfl rfl (same2_spec (.agg #[.slice a4 (J A B).reads.length c4, .slice b4 (J A B).writes.length d4]) (.agg #[.slice a5 (J B A).reads.length c5, .slice b5 (J B A).writes.length d5]) (J A B) (J B A) ⟨Nat.le_trans fAB.2.2.1 (by decide), Nat.le_trans fAB.2.2.2 (by decide)⟩ ⟨Nat.le_trans fBA.2.2.1 (by decide), Nat.le_trans fBA.2.2.2 (by decide)⟩) (congrArg Value.bool (decide_eq_true (by rw [J_comm A B]; exact ⟨rfl, rfl⟩))) ?_
  repeat (first | refine stp ?_ | (refine k_indexAddr ?_; first | (refine o_ixA _ rfl rfl rfl rfl rfl (h := ?_); intro _) | (refine o_ixB rfl rfl rfl rfl (h := ?_); intro _)) | (refine k_load ?_; refine o_loadF rfl rfl rfl rfl ?_) | (refine stb ?_; intro _))
  refine o_callV rfl rfl rfl rfl (same2_spec (.agg #[.slice a6 (J A A).reads.length c6, .slice b6 (J A A).writes.length d6]) (.agg #[.slice a1 A.reads.length c1, .slice b1 A.writes.length d1]) (J A A) A ⟨Nat.le_trans fAA.2.2.1 (by decide), Nat.le_trans fAA.2.2.2 (by decide)⟩ ⟨Nat.le_trans gA.2.1 (by decide), Nat.le_trans gA.2.2 (by decide)⟩) (congrArg Value.bool (decide_eq_true (by rw [J_self gA.1]; exact ⟨rfl, rfl⟩))) ?_
  repeat (first | refine stp ?_ | (refine k_indexAddr ?_; first | (refine o_ixA _ rfl rfl rfl rfl rfl (h := ?_); intro _) | (refine o_ixB rfl rfl rfl rfl (h := ?_); intro _)) | (refine k_load ?_; refine o_loadF rfl rfl rfl rfl ?_) | (refine stb ?_; intro _))
  refine o_callV rfl rfl rfl rfl (same2_spec (.agg #[.slice a8 (J (J A B) C).reads.length c8, .slice b8 (J (J A B) C).writes.length d8]) (.agg #[.slice a9 (J A (J B C)).reads.length c9, .slice b9 (J A (J B C)).writes.length d9]) (J (J A B) C) (J A (J B C)) ⟨Nat.le_trans fX.2.2.1 (by decide), Nat.le_trans fX.2.2.2 (by decide)⟩ ⟨Nat.le_trans fY.2.2.1 (by decide), Nat.le_trans fY.2.2.2 (by decide)⟩) (congrArg Value.bool (decide_eq_true (by rw [J_assoc A B C]; exact ⟨rfl, rfl⟩))) ?_
  repeat (first | refine stp ?_ | (refine k_indexAddr ?_; first | (refine o_ixA _ rfl rfl rfl rfl rfl (h := ?_); intro _) | (refine o_ixB rfl rfl rfl rfl (h := ?_); intro _)) | (refine k_load ?_; refine o_loadF rfl rfl rfl rfl ?_) | (refine stb ?_; intro _))
  refine o_callV rfl rfl rfl rfl (arightS_spec (.agg #[.slice a8 (J (J A B) C).reads.length c8, .slice b8 (J (J A B) C).writes.length d8]) (J (J A B) C) ⟨Nat.le_trans fX.2.2.1 (by decide), Nat.le_trans fX.2.2.2 (by decide)⟩) (congrArg Value.bool fX.2.1) ?_
  repeat (first | refine stp ?_ | (refine k_indexAddr ?_; first | (refine o_ixA _ rfl rfl rfl rfl rfl (h := ?_); intro _) | (refine o_ixB rfl rfl rfl rfl (h := ?_); intro _)) | (refine k_load ?_; refine o_loadF rfl rfl rfl rfl ?_) | (refine stb ?_; intro _))
  refine G.ret rfl (.cons (.tmp rfl) .nil) (Φ' := []) (M' := []) inferInstance (List.nil_sublist _) ⟨?_, rfl, rfl⟩
  rfl
end Go.Rail
