/- The document's frames: Reach, piece, Put, asks. -/
import Derived.Test.YtpbbjkbackiljaaGreatDoorRailA
import Derived.Test.YtpbbjkbackiljaaGreatDoorRailI
import Derived.Test.YtpbbjkbackiljaaGreatDoorRailJ
import Derived.Test.YtpbbjkbackiljaaGreatDoorAFRTG
set_option linter.unusedSimpArgs false
set_option linter.unusedVariables false
namespace Go.Rail
open Go Go.Proofs Tryz
set_option maxHeartbeats 400000
set_option maxRecDepth 4000
attribute [local irreducible] OpK G W LW wpListIn Exit.then Exit.inBlock Post rounds opRun bodyPostM intOp
set_option maxHeartbeats 4000000
attribute [local irreducible] Word.num Word.nat costF
theorem num_zero {w:Word} (h:w.num=0):w = .zero:=by
 have:=Word.nat_num w
 rw [h] at this
 rw [← this]
 with_unfolding_all rfl
theorem num_of_zero:Word.zero.num=0:=by with_unfolding_all rfl
theorem numF_le {w:Word} (h:w.num≤1048576):numF w=w.num:=by unfold numF;omega
theorem numF_zero:numF .zero=0:=by unfold numF;rw [num_of_zero];rfl
def reachV17 (had:Nat):Option Nat→Value
 | none => .tuple #[.int .i64 2000001,.int .i64 (had:Int)]
 | some w => .tuple #[.int .i64 ((costF w:Int)-(costF had:Int)),.int .i64 (w:Int)]
theorem Reach17_spec (m:List UInt8) (a n:Word) (hm:m.length≤1048576):FnV prog 40 [.string (ba m),a.v,n.v] [] (reachV17 (m.length/32) (reachD (m.length/32) (a,n))):=by
 have h:=need12_spec a n
 have hhad:m.length/32≤32768:=by omega
 obtain ⟨had,hh⟩ : ∃ had,had=m.length/32:=⟨_,rfl⟩
 rw [← hh] at hhad ⊢
 unfold reachD
 dsimp only
 cases hq:needF a n with
 | none =>
  rw [hq] at h
  refine Fn.enter func40 rfl ntmps40 oI (fun I0 w0 => ?_)
  repeat refine sq ?_;try intro
  rw [← hh]
  refine cV h ?_
  repeat refine sq ?_;try intro
  refine G.retV ?_
  rfl
 | some k =>
  have hk:=needF_max hq
  rw [hq] at h
  have c1:=cost12_spec (max had k)
  have c2:=cost12_spec had
  have m1:=costF_max (max had k)
  have m2:=costF_max had
  refine Fn.enter func40 rfl ntmps40 oI (fun I0 w0 => ?_)
  repeat refine sq ?_;try intro
  rw [← hh]
  refine cV h ?_
  repeat ((fail_if_success (refine o_min rfl rfl rfl rfl rfl ?_));(fail_if_success (refine o_max rfl rfl rfl rfl rfl ?_));refine st ?_;try intro _)
  refine o_max rfl rfl rfl rfl (v := .int .i64 ((max had k:Nat):Int)) (by congr 1;dsimp only [Option.getD];split<;>omega) ?_
  repeat refine sq ?_;try intro
  refine cV c1 ?_
  repeat refine sq ?_;try intro
  refine cV c2 ?_
  repeat refine sq ?_;try intro
  refine G.retV ?_
  rfl
def Rch (m:List UInt8) (a n:Word):Prop:=n = .zero∨a.num+n.num≤m.length
theorem piece17_spec (m:List UInt8) (a n:Word) (hm:m.length≤1048576) (h:Rch m a n):FnV prog 78 [.string (ba m),a.v,n.v] [] (.string (ba (pieceF m a (numF n)))):=by
 by_cases hn:n = .zero
 ·subst hn
  rw [numF_zero,show pieceF m a 0=[] from if_pos rfl]
  refine Fn.enter func78 rfl ntmps78 oI (fun I0 w0 => ?_)
  repeat refine sq ?_;try intro
  refine G.retV ?_
  rfl
 ·have hr:a.num+n.num≤m.length:=by rcases h with h|h;exact absurd h hn;exact h
  have hn0:n.num≠0:=fun h=>hn (num_zero h)
  have c1:=num17_spec a oM
  have c2:=num17_spec n oM
  have e:pieceF m a (numF n)=(m.take (a.num+n.num)).drop a.num:=by
   unfold pieceF
   rw [numF_le (w:=n) oM,numF_le (w:=a) oM,if_neg hn0,if_pos hr,List.drop_take,Nat.add_sub_cancel_left]
  rw [e]
  refine Fn.enter func78 rfl ntmps78 oI (fun I0 w0 => ?_)
  repeat refine sq ?_;try intro
  refine W.drawA 8 [dq _,dq _,dq _,dq _,dq _,dq _,dq _,dq _] [[],[],[1],[],[3],[],[5],[4,6]] [0,2,7] (hrest:=fun c=>nrm ?_) (hops:=by
   iterate 2 refine AllQ.aq ?_
   refine AllQ.mk (by intro c z0 Φr Lr K;refine nrm ?_;intro hK;refine cV c1 ?_;exact hK z0) ?_
   iterate 1 refine AllQ.aq ?_
   refine AllQ.mk (by intro c z0 Φr Lr K;refine nrm ?_;intro hK;refine cV c1 ?_;exact hK z0) ?_
   iterate 1 refine AllQ.aq ?_
   refine AllQ.mk (by intro c z0 Φr Lr K;refine nrm ?_;intro hK;refine cV c2 ?_;exact hK z0) ?_
   iterate 1 refine AllQ.aq ?_
   exact AllQ.nil)
  repeat refine sq ?_;try intro
  refine G.retV ?_
  rfl
theorem put17_spec (m s:List UInt8) (a:Word) (hm:m.length≤1048576) (h32:m.length%32=0) (h:s=[]∨a.num+s.length≤m.length):FnV prog 134 [.string (ba m),a.v,.string (ba s)] [] (.string (ba (putF m (numF a) s))):=by
 unfold putF
 by_cases hs:s=[]
 ·rw [if_pos hs]
  subst hs
  refine Fn.enter func134 rfl ntmps134 oI (fun I0 w0 => ?_)
  repeat refine sq ?_;try intro
  refine G.retV ?_
  rfl
 ·have hr:a.num+s.length≤m.length:=by rcases h with h|h;exact absurd h hs;exact h
  rw [if_neg hs,numF_le (w:=a) oM,if_pos hr]
  have c1:=num17_spec a oM
  have c2:=copy12_spec m s a.num hm h32 hr
  refine Fn.enter func134 rfl ntmps134 oI (fun I0 w0 => ?_)
  repeat refine sq ?_;try intro
  refine cV c1 ?_
  repeat refine sq ?_;try intro
  refine cV c2 ?_
  repeat refine sq ?_;try intro
  refine G.retV ?_
  rfl
theorem two_of {l:List Word} (h:l.length=2) : ∃ a b,l=[a,b]:=by
 match l,h with
 | [a,b],_=>exact ⟨a,b,rfl⟩
theorem one_of {l:List Word} (h:l.length=1) : ∃ a,l=[a]:=by
 match l,h with
 | [a],_=>exact ⟨a,rfl⟩
theorem three_of {l:List Word} (h:l.length=3) : ∃ a b c,l=[a,b,c]:=by
 match l,h with
 | [a,b,c],_=>exact ⟨a,b,c,rfl⟩
theorem asks17_spec (op:Nat) (v:Value) (l:List Word) (hop:op<256) (hl:l.length=popsN op):FnV prog 39 [.int .u8 (op:Int),v] [fRp v l] (.tuple #[.int .i64 ((moreF op l:Nat):Int),(spanP op l).1.v,(spanP op l).2.v]):=by
 by_cases h10:op=10
 ·subst h10
  obtain ⟨a,b,rfl⟩:=two_of hl
  have c1:=exp15_spec b
  refine Fn.enter func39 rfl ntmps39 oI (fun I0 w0 => ?_)
  repeat refine sq ?_;try intro
  rename_i b5 b6 b7
  refine W.drawCh 8 {j:=7,k:=[7],M:=fun _=>[(b7,Ob Word.zero.cells 49),(b6,Ob Word.zero.cells 49),(b5,Ob Word.zero.cells 49)]} [] [dq _,dk _,dq _,dq _,dq _,dq _,dq _,(dq fun _ _ => .bool false)] [[],[0],[1],[2],[],[],[3],[4]] [5,6] (hrest:=fun c=>nrmC ?_) (hops:=by
   iterate 3 refine AllX.cu ?_
   refine AllX.ch ?_ ?_;rotate_left
   focus (refine ⟨⟨rfl,kR⟩,.inl kR,.inr (?_)⟩;all_goals (intro c z0 Φr Lr K;refine nrmC ?_;intro hK;refine cV c1 ?_;exact hK z0))
   iterate 4 refine AllX.cu ?_
   exact AllX.end)
  repeat refine sq ?_;try intro
  refine G.retV ?_
  rfl
 by_cases h32:op=32
 ·subst h32
  obtain ⟨a,b,rfl⟩:=two_of hl
  have c1:=Num17_spec b
  have c2:=hash15_spec (numF b)
  refine Fn.enter func39 rfl ntmps39 oI (fun I0 w0 => ?_)
  repeat refine sq ?_;try intro
  rename_i b5 b6 b7
  refine W.drawCh 13 {j:=12,k:=[12],M:=fun _=>[(b7,Ob Word.zero.cells 49),(b6,Ob Word.zero.cells 49),(b5,Ob a.cells 49)]} [] [dq _,dk _,dq _,dq _,dq _,dq _,dk _,dq _,dq _,dk _,dq _,dq _,(dq fun _ _ => .bool false)] [[],[0],[1],[2],[3],[],[5],[6],[],[8],[9],[4],[7]] [10,11] (hrest:=fun c=>nrmC ?_) (hops:=by
   iterate 3 refine AllX.cu ?_
   refine AllX.ch ?_ ?_;rotate_left
   focus (refine ⟨⟨rfl,kR⟩,.inl kR,.inr (?_)⟩;all_goals (intro c z0 Φr Lr K;refine nrmC ?_;intro hK;refine cV c1 ?_;exact hK z0))
   refine AllX.ch ?_ ?_;rotate_left
   focus (refine ⟨⟨rfl,kR⟩,.inl kR,.inr (?_)⟩;all_goals (intro c z0 Φr Lr K;refine nrmC ?_;intro hK;refine cV c2 ?_;exact hK z0))
   iterate 8 refine AllX.cu ?_
   exact AllX.end)
  repeat refine sq ?_;try intro
  refine G.retV ?_
  rfl
 by_cases h55:op=55
 ·subst h55
  obtain ⟨a,b,c,rfl⟩:=three_of hl
  have c1:=Num17_spec c
  have c2:=copy15_spec (numF c)
  refine Fn.enter func39 rfl ntmps39 oI (fun I0 w0 => ?_)
  repeat refine sq ?_;try intro
  rename_i b5 b6 b7
  refine W.drawCh 13 {j:=12,k:=[12],M:=fun _=>[(b7,Ob Word.zero.cells 49),(b6,Ob Word.zero.cells 49),(b5,Ob a.cells 49)]} [] [dq _,dk _,dq _,dq _,dq _,dq _,dk _,dq _,dq _,dk _,dq _,dq _,(dq fun _ _ => .bool false)] [[],[0],[1],[2],[3],[],[5],[6],[],[8],[9],[4],[7]] [10,11] (hrest:=fun c=>nrmC ?_) (hops:=by
   iterate 3 refine AllX.cu ?_
   refine AllX.ch ?_ ?_;rotate_left
   focus (refine ⟨⟨rfl,kR⟩,.inl kR,.inr (?_)⟩;all_goals (intro c z0 Φr Lr K;refine nrmC ?_;intro hK;refine cV c1 ?_;exact hK z0))
   refine AllX.ch ?_ ?_;rotate_left
   focus (refine ⟨⟨rfl,kR⟩,.inl kR,.inr (?_)⟩;all_goals (intro c z0 Φr Lr K;refine nrmC ?_;intro hK;refine cV c2 ?_;exact hK z0))
   iterate 8 refine AllX.cu ?_
   exact AllX.end)
  repeat refine sq ?_;try intro
  refine G.retV ?_
  rfl
 by_cases h57:op=57
 ·subst h57
  obtain ⟨a,b,c,rfl⟩:=three_of hl
  have c1:=Num17_spec c
  have c2:=copy15_spec (numF c)
  refine Fn.enter func39 rfl ntmps39 oI (fun I0 w0 => ?_)
  repeat refine sq ?_;try intro
  rename_i b5 b6 b7
  refine W.drawCh 13 {j:=12,k:=[12],M:=fun _=>[(b7,Ob Word.zero.cells 49),(b6,Ob Word.zero.cells 49),(b5,Ob a.cells 49)]} [] [dq _,dk _,dq _,dq _,dq _,dq _,dk _,dq _,dq _,dk _,dq _,dq _,(dq fun _ _ => .bool false)] [[],[0],[1],[2],[3],[],[5],[6],[],[8],[9],[4],[7]] [10,11] (hrest:=fun c=>nrmC ?_) (hops:=by
   iterate 3 refine AllX.cu ?_
   refine AllX.ch ?_ ?_;rotate_left
   focus (refine ⟨⟨rfl,kR⟩,.inl kR,.inr (?_)⟩;all_goals (intro c z0 Φr Lr K;refine nrmC ?_;intro hK;refine cV c1 ?_;exact hK z0))
   refine AllX.ch ?_ ?_;rotate_left
   focus (refine ⟨⟨rfl,kR⟩,.inl kR,.inr (?_)⟩;all_goals (intro c z0 Φr Lr K;refine nrmC ?_;intro hK;refine cV c2 ?_;exact hK z0))
   iterate 8 refine AllX.cu ?_
   exact AllX.end)
  repeat refine sq ?_;try intro
  refine G.retV ?_
  rfl
 by_cases h62:op=62
 ·subst h62
  obtain ⟨a,b,c,rfl⟩:=three_of hl
  have c1:=Num17_spec c
  have c2:=copy15_spec (numF c)
  refine Fn.enter func39 rfl ntmps39 oI (fun I0 w0 => ?_)
  repeat refine sq ?_;try intro
  rename_i b5 b6 b7
  refine W.drawCh 13 {j:=12,k:=[12],M:=fun _=>[(b7,Ob Word.zero.cells 49),(b6,Ob Word.zero.cells 49),(b5,Ob a.cells 49)]} [] [dq _,dk _,dq _,dq _,dq _,dq _,dk _,dq _,dq _,dk _,dq _,dq _,(dq fun _ _ => .bool false)] [[],[0],[1],[2],[3],[],[5],[6],[],[8],[9],[4],[7]] [10,11] (hrest:=fun c=>nrmC ?_) (hops:=by
   iterate 3 refine AllX.cu ?_
   refine AllX.ch ?_ ?_;rotate_left
   focus (refine ⟨⟨rfl,kR⟩,.inl kR,.inr (?_)⟩;all_goals (intro c z0 Φr Lr K;refine nrmC ?_;intro hK;refine cV c1 ?_;exact hK z0))
   refine AllX.ch ?_ ?_;rotate_left
   focus (refine ⟨⟨rfl,kR⟩,.inl kR,.inr (?_)⟩;all_goals (intro c z0 Φr Lr K;refine nrmC ?_;intro hK;refine cV c2 ?_;exact hK z0))
   iterate 8 refine AllX.cu ?_
   exact AllX.end)
  repeat refine sq ?_;try intro
  refine G.retV ?_
  rfl
 by_cases h81:op=81
 ·subst h81
  obtain ⟨a,rfl⟩:=one_of hl
  have c1:=of_spec 32
  rw [show Word.of 32=Word.nat 32 from of_nat0 32 oE] at c1
  refine Fn.enter func39 rfl ntmps39 oI (fun I0 w0 => ?_)
  repeat refine sq ?_;try intro
  rename_i b5 b6 b7
  refine W.drawA 5 [dq _,dk _,dq _,dq _,dq _] [[],[0],[1],[],[]] [2,3,4] (hrest:=fun c=>nrm ?_) (hops:=by
   iterate 3 refine AllQ.aq ?_
   refine AllQ.mk (by intro c z0 Φr Lr K;refine nrm ?_;intro hK;refine cV c1 ?_;exact hK z0) ?_
   iterate 1 refine AllQ.aq ?_
   exact AllQ.nil)
  repeat refine sq ?_;try intro
  refine G.retV ?_
  rfl
 by_cases h82:op=82
 ·subst h82
  obtain ⟨a,b,rfl⟩:=two_of hl
  have c1:=of_spec 32
  rw [show Word.of 32=Word.nat 32 from of_nat0 32 oE] at c1
  refine Fn.enter func39 rfl ntmps39 oI (fun I0 w0 => ?_)
  repeat refine sq ?_;try intro
  rename_i b5 b6 b7
  refine W.drawA 5 [dq _,dk _,dq _,dq _,dq _] [[],[0],[1],[],[]] [2,3,4] (hrest:=fun c=>nrm ?_) (hops:=by
   iterate 3 refine AllQ.aq ?_
   refine AllQ.mk (by intro c z0 Φr Lr K;refine nrm ?_;intro hK;refine cV c1 ?_;exact hK z0) ?_
   iterate 1 refine AllQ.aq ?_
   exact AllQ.nil)
  repeat refine sq ?_;try intro
  refine G.retV ?_
  rfl
 by_cases h83:op=83
 ·subst h83
  obtain ⟨a,b,rfl⟩:=two_of hl
  have c1:=of_spec 1
  rw [show Word.of 1=Word.nat 1 from of_nat0 1 oE] at c1
  refine Fn.enter func39 rfl ntmps39 oI (fun I0 w0 => ?_)
  repeat refine sq ?_;try intro
  rename_i b5 b6 b7
  refine W.drawA 5 [dq _,dk _,dq _,dq _,dq _] [[],[0],[1],[],[]] [2,3,4] (hrest:=fun c=>nrm ?_) (hops:=by
   iterate 3 refine AllQ.aq ?_
   refine AllQ.mk (by intro c z0 Φr Lr K;refine nrm ?_;intro hK;refine cV c1 ?_;exact hK z0) ?_
   iterate 1 refine AllQ.aq ?_
   exact AllQ.nil)
  repeat refine sq ?_;try intro
  refine G.retV ?_
  rfl
 by_cases h243:op=243
 ·subst h243
  obtain ⟨a,b,rfl⟩:=two_of hl
  refine Fn.enter func39 rfl ntmps39 oI (fun I0 w0 => ?_)
  repeat refine sq ?_;try intro
  rename_i b5 b6 b7
  refine W.drawCh 8 {j:=7,k:=[7],M:=fun _=>[(b7,Ob Word.zero.cells 49),(b6,Ob Word.zero.cells 49),(b5,Ob a.cells 49)]} [] [dq _,dk _,dq _,dq _,dk _,dq _,dq _,(dq fun _ _ => .bool false)] [[],[0],[1],[],[3],[4],[],[2]] [5,6] (hrest:=fun c=>nrmC ?_) (hops:=by
   iterate 8 refine AllX.cu ?_
   exact AllX.end)
  repeat refine sq ?_;try intro
  refine G.retV ?_
  rfl
 by_cases h253:op=253
 ·subst h253
  obtain ⟨a,b,rfl⟩:=two_of hl
  refine Fn.enter func39 rfl ntmps39 oI (fun I0 w0 => ?_)
  repeat refine sq ?_;try intro
  rename_i b5 b6 b7
  refine W.drawCh 8 {j:=7,k:=[7],M:=fun _=>[(b7,Ob Word.zero.cells 49),(b6,Ob Word.zero.cells 49),(b5,Ob a.cells 49)]} [] [dq _,dk _,dq _,dq _,dk _,dq _,dq _,(dq fun _ _ => .bool false)] [[],[0],[1],[],[3],[4],[],[2]] [5,6] (hrest:=fun c=>nrmC ?_) (hops:=by
   iterate 8 refine AllX.cu ?_
   exact AllX.end)
  repeat refine sq ?_;try intro
  refine G.retV ?_
  rfl
 rw [show moreF op l=0 from by unfold moreF;rw [if_neg oM,if_neg oM,if_neg oM],show spanP op l=(.zero,.zero) from by unfold spanP;rw [if_neg oM,if_neg oM,if_neg oM,if_neg oM]]
 clear hl
 refine Fn.enter func39 rfl ntmps39 oI (fun I0 w0 => ?_)
 repeat refine sq ?_;try intro
 rename_i b5 b6 b7
 refine W.drawCh 4 {j:=3,k:=[3],M:=fun _=>[(b7,Ob Word.zero.cells 49),(b6,Ob Word.zero.cells 49),(b5,Ob Word.zero.cells 49)]} [] [dq _,dq _,dq _,(dq fun _ _ => .bool false)] [[],[],[],[0]] [1,2] (hrest:=fun c=>nrmC ?_) (hops:=by
  iterate 4 refine AllX.cu ?_
  exact AllX.end)
 repeat refine sq ?_;try intro
 refine G.retV ?_
 rfl
end Go.Rail
namespace Go.Rail
open Go Go.Proofs Tryz
set_option maxHeartbeats 400000
set_option maxRecDepth 4000
attribute [local irreducible] OpK G W LW wpListIn Exit.then Exit.inBlock Post rounds opRun bodyPostM intOp
set_option maxHeartbeats 4000000
attribute [local irreducible] Word.num Word.nat costF
theorem of_natW (n:Nat) (h:n<9223372036854775808):Word.of (n:Int)=Word.nat n:=by
 have h1:(Word.of (n:Int)).num=n:=by
  have e1:=u64_toNat (n:Int)
  have e2:(u64 (n:Int)).toNat=n:=by omega
  unfold Word.of
  rw [if_neg oM]
  unfold Word.num
  show (u64 (n:Int)).toNat+18446744073709551616*(0:UInt64).toNat+340282366920938463463374607431768211456*(0:UInt64).toNat+6277101735386680763835789423207666416102355444464034512896*(0:UInt64).toNat=n
  rw [e2]
  show n+18446744073709551616*0+340282366920938463463374607431768211456*0+6277101735386680763835789423207666416102355444464034512896*0=n
  omega
 have h2:=Word.nat_num (Word.of (n:Int))
 rw [h1] at h2
 exact h2.symm
theorem rof_nat (n:Nat) (h:n<9223372036854775808):FnV prog 29 [.int .i64 (n:Int)] [] (Word.nat n).v:=by
 have h1:=of_spec (n:Int)
 rw [of_natW n h] at h1
 exact h1
theorem told17_spec (f:Frm) (op:Nat) (ad:Option Addr) (n c0:Nat) (v:Value) (l:List Word) (hop:op<256) (hl:l.length=popsN op) (hm:f.mem.length≤1048576) (hr:Rch f.mem (spanP op l).1 (spanP op l).2) (hc:f.code.length≤49152) (hi:f.input.length≤1048576) (hrt:f.ret.length≤1048576) (hp:0≤f.pc) (hp2:f.pc<f.code.length) (hg:0≤f.gas) (hg2:f.gas≤2000000):FnV prog 77 [frmV f (.slice ad n c0),.int .u8 (op:Int),v] [fRp v l] (.tuple #[(tolW keccakL f op l).v,.bool (tolB op)]):=by
 by_cases h32:op=32
 ·subst h32
  obtain ⟨a,b,rfl⟩:=two_of hl
  have c1:=piece17_spec f.mem a b hm hr
  have hpl:(pieceF f.mem a (numF b)).length≤1048576:=by
   unfold pieceF
   split
   ·exact Nat.zero_le _
   ·split
    ·rw [List.length_take,List.length_drop];omega
    ·exact Nat.zero_le _
  have c2:=hash04_spec (pieceF f.mem a (numF b)) hpl
  have c3:=rfb_spec (keccakL (pieceF f.mem a (numF b))) (by rw [keccakL_len];decide)
  refine Fn.enter func77 rfl ntmps77 oI (fun I0 w0 => ?_)
  repeat refine sq ?_;try intro
  refine W.drawA 8 [dq _,dq _,dq _,dk _,dq _,dq _,dk _,dq _] [[],[0],[],[2],[3],[],[5],[6]] [1,4,7] (hrest:=fun c=>nrm ?_) (hops:=by
   iterate 8 refine AllQ.aq ?_
   exact AllQ.nil)
  repeat refine sq ?_;try intro
  refine cV c1 ?_
  repeat refine sq ?_;try intro
  refine cV c2 ?_
  repeat refine sq ?_;try intro
  refine cV c3 ?_
  repeat refine sq ?_;try intro
  refine G.retV ?_
  rfl
 by_cases h53:op=53
 ·subst h53
  obtain ⟨a,rfl⟩:=one_of hl
  have c1:=piece12_spec f.input a 32 oM oE
  have hpl:(partF f.input a 32).length≤1000000:=by
   unfold partF
   rw [if_neg oE]
   simp only [List.length_append,List.length_replicate]
   split
   ·rw [List.length_take];omega
   ·simp
  have c2:=rfb_spec (partF f.input a 32) hpl
  refine Fn.enter func77 rfl ntmps77 oI (fun I0 w0 => ?_)
  repeat refine sq ?_;try intro
  refine W.drawA 10 [dq _,dq _,dq _,dk _,dq _,dq _,dq _,dq _,dq _,dq _] [[],[0],[],[2],[3],[1,4],[5],[6],[6],[7]] [8,9] (hrest:=fun c=>nrm ?_) (hops:=by
   iterate 5 refine AllQ.aq ?_
   refine AllQ.mk (by intro c z0 Φr Lr K;refine nrm ?_;intro hK;refine cV c1 ?_;exact hK z0) ?_
   iterate 4 refine AllQ.aq ?_
   exact AllQ.nil)
  repeat refine sq ?_;try intro
  refine cV c2 ?_
  repeat refine sq ?_;try intro
  refine G.retV ?_
  rfl
 by_cases h54:op=54
 ·subst h54
  have c1:=of_natW f.input.length oM
  refine Fn.enter func77 rfl ntmps77 oI (fun I0 w0 => ?_)
  repeat refine sq ?_;try intro
  refine G.retV ?_
  rw [c1]
  rfl
 by_cases h56:op=56
 ·subst h56
  have c1:=of_natW f.code.length oM
  refine Fn.enter func77 rfl ntmps77 oI (fun I0 w0 => ?_)
  repeat refine sq ?_;try intro
  refine G.retV ?_
  rw [c1]
  rfl
 by_cases h61:op=61
 ·subst h61
  have c1:=of_natW f.ret.length oM
  refine Fn.enter func77 rfl ntmps77 oI (fun I0 w0 => ?_)
  repeat refine sq ?_;try intro
  refine G.retV ?_
  rw [c1]
  rfl
 by_cases h89:op=89
 ·subst h89
  have c1:=of_natW f.mem.length oM
  refine Fn.enter func77 rfl ntmps77 oI (fun I0 w0 => ?_)
  repeat refine sq ?_;try intro
  refine G.retV ?_
  rw [c1]
  rfl
 by_cases h81:op=81
 ·subst h81
  obtain ⟨a,rfl⟩:=one_of hl
  have c0:=rof_nat 32 oE
  have c1:=piece17_spec f.mem a (.nat 32) hm hr
  have e32:numF (.nat 32)=32:=by with_unfolding_all decide
  rw [e32] at c1
  have hpl:(pieceF f.mem a 32).length≤1000000:=by
   unfold pieceF
   rw [if_neg oE]
   split
   ·rw [List.length_take];omega
   ·exact Nat.zero_le _
  have c2:=rfb_spec (pieceF f.mem a 32) hpl
  refine Fn.enter func77 rfl ntmps77 oI (fun I0 w0 => ?_)
  repeat refine sq ?_;try intro
  refine W.drawA 6 [dq _,dq _,dq _,dk _,dq _,dq _] [[],[0],[],[2],[3],[]] [1,4,5] (hrest:=fun c=>nrm ?_) (hops:=by
   iterate 5 refine AllQ.aq ?_
   refine AllQ.mk (by intro c z0 Φr Lr K;refine nrm ?_;intro hK;refine cV c0 ?_;exact hK z0) ?_
   exact AllQ.nil)
  repeat refine sq ?_;try intro
  refine cV c1 ?_
  repeat refine sq ?_;try intro
  refine cV c2 ?_
  repeat refine sq ?_;try intro
  refine G.retV ?_
  rfl
 by_cases h88:op=88
 ·subst h88
  have c1:=of_natW f.pc.toNat oM
  rw [show ((f.pc.toNat:Nat):Int)=f.pc from by omega] at c1
  refine Fn.enter func77 rfl ntmps77 oI (fun I0 w0 => ?_)
  repeat refine sq ?_;try intro
  refine G.retV ?_
  rw [c1]
  rfl
 by_cases h90:op=90
 ·subst h90
  have c1:=of_natW f.gas.toNat oM
  rw [show ((f.gas.toNat:Nat):Int)=f.gas from by omega] at c1
  refine Fn.enter func77 rfl ntmps77 oI (fun I0 w0 => ?_)
  repeat refine sq ?_;try intro
  refine G.retV ?_
  rw [c1]
  rfl
 by_cases hpu:95≤op∧op≤127
 ·have c1:=rpush14_spec f.code f.pc.toNat (op-95) oM oM oM
  rw [show ((f.pc.toNat:Nat):Int)=f.pc from by omega] at c1
  have e1:tolW keccakL f op l=opushL f.code f.pc ((op-95:Nat):Int):=by
   unfold tolW
   rw [if_neg h32,if_neg h53,if_neg h54,if_neg h56,if_neg h61,if_neg h81,if_neg h88,if_neg h89,if_neg h90,if_pos hpu]
  have e2:tolB op=true:=decide_eq_true oM
  rw [e1,e2]
  obtain ⟨p1,p2⟩:=hpu
  refine Fn.enter func77 rfl ntmps77 oI (fun I0 w0 => ?_)
  repeat refine sq ?_;try intro
  refine cV c1 ?_
  repeat refine sq ?_;try intro
  refine G.retV ?_
  rfl
 ·have e1:tolW keccakL f op l = .zero:=by
   unfold tolW
   rw [if_neg h32,if_neg h53,if_neg h54,if_neg h56,if_neg h61,if_neg h81,if_neg h88,if_neg h89,if_neg h90,if_neg hpu]
  have e2:tolB op=false:=decide_eq_false oM
  rw [e1,e2]
  clear hl hr e1 e2
  have hpu2:op<95∨(95≤op∧127<op):=by omega
  rcases hpu2 with p1|⟨p1,p2⟩
  all_goals
   refine Fn.enter func77 rfl ntmps77 oI (fun I0 w0 => ?_)
   repeat refine sq ?_;try intro
   refine G.retV ?_
   rfl
theorem partF_lenE (s:List UInt8) (a:Word) (n:Nat) (h:n≤1048576):(partF s a n).length=n:=by
 unfold partF
 rw [if_neg oM]
 simp only [List.length_append,List.length_replicate]
 split
 ·rw [List.length_take];omega
 ·simp
theorem cop17_spec (f:Frm) (op:Nat) (ad:Option Addr) (n c0:Nat) (v:Value) (l:List Word) (hop:op<256) (hl:l.length=popsN op) (hm:f.mem.length≤1048576) (h32:f.mem.length%32=0) (hr:Rch f.mem (spanP op l).1 (spanP op l).2) (hc:f.code.length≤49152) (hi:f.input.length≤1048576) (hrt:f.ret.length≤1048576):FnV prog 76 [frmV f (.slice ad n c0),.int .u8 (op:Int),v] [fRp v l] (.string (ba (copF f op l))):=by
 by_cases h55:op=55
 ·subst h55
  obtain ⟨a,b,c,rfl⟩:=three_of hl
  have hcn:c.num≤1048576:=by
   rcases hr with h|h
   ·rw [show c = .zero from h,num_of_zero];exact Nat.zero_le _
   ·have:a.num+c.num≤f.mem.length:=h
    omega
  have c1:=num17_spec c oM
  have c2:=piece12_spec f.input b c.num oM hcn
  have hpl:(partF f.input b c.num).length=c.num:=partF_lenE _ _ _ hcn
  have c3:=put17_spec f.mem (partF f.input b c.num) a hm h32 (by
   rcases hr with h|h
   ·left
    apply List.eq_nil_of_length_eq_zero
    rw [hpl,show c = .zero from h,num_of_zero]
   ·right;rw [hpl];exact h)
  have e:copF f 55 [a,b,c]=putF f.mem (numF a) (partF f.input b c.num):=by
   show putF f.mem (numF a) (partF f.input b (numF c))=_
   rw [numF_le hcn]
  rw [e]
  refine Fn.enter func76 rfl ntmps76 oI (fun I0 w0 => ?_)
  repeat refine sq ?_;try intro
  refine W.drawA 14 [dq _,dq _,dq _,dk _,dq _,dq _,dk _,dq _,dq _,dq _,dq _,dq _,dq _,dq _] [[],[0],[],[2],[3],[],[5],[6],[7],[1,4,8],[9],[10],[10],[11]] [12,13] (hrest:=fun c=>nrm ?_) (hops:=by
   iterate 8 refine AllQ.aq ?_
   refine AllQ.mk (by intro c z0 Φr Lr K;refine nrm ?_;intro hK;refine cV c1 ?_;exact hK z0) ?_
   refine AllQ.mk (by intro c z0 Φr Lr K;refine nrm ?_;intro hK;refine cV c2 ?_;exact hK z0) ?_
   iterate 4 refine AllQ.aq ?_
   exact AllQ.nil)
  repeat refine sq ?_;try intro
  refine W.drawA 6 [dq _,dq _,dq _,dk _,dq _,dq _] [[],[0],[],[2],[3],[]] [1,4,5] (hrest:=fun c=>nrm ?_) (hops:=by
   iterate 6 refine AllQ.aq ?_
   exact AllQ.nil)
  repeat refine sq ?_;try intro
  refine cV c3 ?_
  repeat refine sq ?_;try intro
  refine G.retV ?_
  rfl
 by_cases h57:op=57
 ·subst h57
  obtain ⟨a,b,c,rfl⟩:=three_of hl
  have hcn:c.num≤1048576:=by
   rcases hr with h|h
   ·rw [show c = .zero from h,num_of_zero];exact Nat.zero_le _
   ·have:a.num+c.num≤f.mem.length:=h
    omega
  have c1:=num17_spec c oM
  have c2:=piece12_spec f.code b c.num oM hcn
  have hpl:(partF f.code b c.num).length=c.num:=partF_lenE _ _ _ hcn
  have c3:=put17_spec f.mem (partF f.code b c.num) a hm h32 (by
   rcases hr with h|h
   ·left
    apply List.eq_nil_of_length_eq_zero
    rw [hpl,show c = .zero from h,num_of_zero]
   ·right;rw [hpl];exact h)
  have e:copF f 57 [a,b,c]=putF f.mem (numF a) (partF f.code b c.num):=by
   show putF f.mem (numF a) (partF f.code b (numF c))=_
   rw [numF_le hcn]
  rw [e]
  refine Fn.enter func76 rfl ntmps76 oI (fun I0 w0 => ?_)
  repeat refine sq ?_;try intro
  refine W.drawA 14 [dq _,dq _,dq _,dk _,dq _,dq _,dk _,dq _,dq _,dq _,dq _,dq _,dq _,dq _] [[],[0],[],[2],[3],[],[5],[6],[7],[1,4,8],[9],[10],[10],[11]] [12,13] (hrest:=fun c=>nrm ?_) (hops:=by
   iterate 8 refine AllQ.aq ?_
   refine AllQ.mk (by intro c z0 Φr Lr K;refine nrm ?_;intro hK;refine cV c1 ?_;exact hK z0) ?_
   refine AllQ.mk (by intro c z0 Φr Lr K;refine nrm ?_;intro hK;refine cV c2 ?_;exact hK z0) ?_
   iterate 4 refine AllQ.aq ?_
   exact AllQ.nil)
  repeat refine sq ?_;try intro
  refine W.drawA 6 [dq _,dq _,dq _,dk _,dq _,dq _] [[],[0],[],[2],[3],[]] [1,4,5] (hrest:=fun c=>nrm ?_) (hops:=by
   iterate 6 refine AllQ.aq ?_
   exact AllQ.nil)
  repeat refine sq ?_;try intro
  refine cV c3 ?_
  repeat refine sq ?_;try intro
  refine G.retV ?_
  rfl
 by_cases h62:op=62
 ·subst h62
  obtain ⟨a,b,c,rfl⟩:=three_of hl
  have hcn:c.num≤1048576:=by
   rcases hr with h|h
   ·rw [show c = .zero from h,num_of_zero];exact Nat.zero_le _
   ·have:a.num+c.num≤f.mem.length:=h
    omega
  have c1:=num17_spec c oM
  have c2:=piece12_spec f.ret b c.num oM hcn
  have hpl:(partF f.ret b c.num).length=c.num:=partF_lenE _ _ _ hcn
  have c3:=put17_spec f.mem (partF f.ret b c.num) a hm h32 (by
   rcases hr with h|h
   ·left
    apply List.eq_nil_of_length_eq_zero
    rw [hpl,show c = .zero from h,num_of_zero]
   ·right;rw [hpl];exact h)
  have e:copF f 62 [a,b,c]=putF f.mem (numF a) (partF f.ret b c.num):=by
   show putF f.mem (numF a) (partF f.ret b (numF c))=_
   rw [numF_le hcn]
  rw [e]
  refine Fn.enter func76 rfl ntmps76 oI (fun I0 w0 => ?_)
  repeat refine sq ?_;try intro
  refine W.drawA 14 [dq _,dq _,dq _,dk _,dq _,dq _,dk _,dq _,dq _,dq _,dq _,dq _,dq _,dq _] [[],[0],[],[2],[3],[],[5],[6],[7],[1,4,8],[9],[10],[10],[11]] [12,13] (hrest:=fun c=>nrm ?_) (hops:=by
   iterate 8 refine AllQ.aq ?_
   refine AllQ.mk (by intro c z0 Φr Lr K;refine nrm ?_;intro hK;refine cV c1 ?_;exact hK z0) ?_
   refine AllQ.mk (by intro c z0 Φr Lr K;refine nrm ?_;intro hK;refine cV c2 ?_;exact hK z0) ?_
   iterate 4 refine AllQ.aq ?_
   exact AllQ.nil)
  repeat refine sq ?_;try intro
  refine W.drawA 6 [dq _,dq _,dq _,dk _,dq _,dq _] [[],[0],[],[2],[3],[]] [1,4,5] (hrest:=fun c=>nrm ?_) (hops:=by
   iterate 6 refine AllQ.aq ?_
   exact AllQ.nil)
  repeat refine sq ?_;try intro
  refine cV c3 ?_
  repeat refine sq ?_;try intro
  refine G.retV ?_
  rfl
 by_cases h82:op=82
 ·subst h82
  obtain ⟨a,b,rfl⟩:=two_of hl
  have c1:=rbytes_spec b
  have hbl:=byN_len b.num
  have c2:=put17_spec f.mem (byN b.num) a hm h32 (by
   right
   rcases hr with h|h
   ·exact absurd (show Word.nat 32=Word.zero from h) (by with_unfolding_all decide)
   ·have h2:a.num+(Word.nat 32).num≤f.mem.length:=h
    rw [show (Word.nat 32).num=32 from by with_unfolding_all decide] at h2
    omega)
  refine Fn.enter func76 rfl ntmps76 oI (fun I0 w0 => ?_)
  repeat refine sq ?_;try intro
  refine W.drawA 9 [dq _,dq _,dq _,dk _,dq _,dq _,dk _,dq _,dq _] [[],[0],[],[2],[3],[],[5],[6],[7]] [1,4,8] (hrest:=fun c=>nrm ?_) (hops:=by
   iterate 8 refine AllQ.aq ?_
   refine AllQ.mk (by intro c z0 Φr Lr K;refine nrm ?_;intro hK;refine cV c1 ?_;exact hK z0) ?_
   exact AllQ.nil)
  repeat refine sq ?_;try intro
  refine cV c2 ?_
  repeat refine sq ?_;try intro
  refine G.retV ?_
  rfl
 by_cases h83:op=83
 ·subst h83
  obtain ⟨a,b,rfl⟩:=two_of hl
  have c1:=rbytes_spec b
  have hbl:=byN_len b.num
  have c2:=put17_spec f.mem ((byN b.num).drop 31) a hm h32 (by
   right
   rcases hr with h|h
   ·exact absurd (show Word.nat 1=Word.zero from h) (by with_unfolding_all decide)
   ·have h2:a.num+(Word.nat 1).num≤f.mem.length:=h
    rw [show (Word.nat 1).num=1 from by with_unfolding_all decide] at h2
    rw [List.length_drop]
    omega)
  have e:((byN b.num).take (byN b.num).length).drop 31=(byN b.num).drop 31:=by rw [List.take_length]
  rw [← e] at c2
  refine Fn.enter func76 rfl ntmps76 oI (fun I0 w0 => ?_)
  repeat refine sq ?_;try intro
  refine W.drawA 10 [dq _,dq _,dq _,dk _,dq _,dq _,dk _,dq _,dq _,dq _] [[],[0],[],[2],[3],[],[5],[6],[7],[8]] [1,4,9] (hrest:=fun c=>nrm ?_) (hops:=by
   iterate 8 refine AllQ.aq ?_
   refine AllQ.mk (by intro c z0 Φr Lr K;refine nrm ?_;intro hK;refine cV c1 ?_;exact hK z0) ?_
   iterate 1 refine AllQ.aq ?_
   exact AllQ.nil)
  repeat refine sq ?_;try intro
  refine cV c2 ?_
  repeat refine sq ?_;try intro
  refine G.retV ?_
  rw [e]
  rfl
 rw [show copF f op l=f.mem from by unfold copF;rw [if_neg h55,if_neg h57,if_neg h62,if_neg h82,if_neg h83]]
 clear hl hr
 refine Fn.enter func76 rfl ntmps76 oI (fun I0 w0 => ?_)
 repeat refine sq ?_;try intro
 refine G.retV ?_
 rfl
end Go.Rail
