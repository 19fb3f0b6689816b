/- The document's gas and memory. -/
import Derived.Test.YtpbbjkbackiljaaGreatDoorRailA
import Derived.Test.YtpbbjkbackiljaaGreatDoorRailI
import Derived.Test.YtpbbjkbackiljaaGreatDoorAF5F8
import Derived.Test.YtpbbjkbackiljaaGreatDoorADATA
import Derived.Test.YtpbbjkbackiljaaGreatDoorRailJ
import Derived.Test.YtpbbjkbackiljaaGreatDoorRailG
import Derived.Test.YtpbbjkbackiljaaGreatDoorAC18BF
import Derived.Test.YtpbbjkbackiljaaGreatDoorAD3One
set_option linter.unusedSimpArgs false
set_option linter.unusedVariables false
namespace Go.Rail
open Go Go.Proofs Tryz
set_option maxHeartbeats 400000
set_option maxRecDepth 4000
attribute [local irreducible] OpK G W LW wpListIn Exit.then Exit.inBlock Post rounds opRun bodyPostM intOp
set_option maxHeartbeats 2000000
attribute [local irreducible] addW cmpW Word.nat Word.num
theorem cost12_spec (n:Nat):FnV prog 71 [.int .i64 (n:Int)] [] (.int .i64 ((costF n:Nat):Int)):=by
 obtain ⟨m,hm⟩ : ∃ m,m=min n 32768:=⟨_,rfl⟩
 have hm1:m≤32768:=by omega
 have h2:m*m≤32768*32768:=Nat.mul_le_mul hm1 hm1
 unfold costF
 rw [← hm]
 refine Fn.enter func71 rfl ntmps71 oI (fun I0 w0 => ?_)
 repeat ((fail_if_success (refine o_min rfl rfl rfl rfl rfl ?_));(fail_if_success (refine o_max rfl rfl rfl rfl rfl ?_));refine st ?_;try intro _)
 refine o_min rfl rfl rfl rfl (v := .int .i64 (m:Int)) (by congr 1;split<;>omega) ?_
 repeat ((fail_if_success (refine o_min rfl rfl rfl rfl rfl ?_));(fail_if_success (refine o_max rfl rfl rfl rfl rfl ?_));refine st ?_;try intro _)
 refine o_max rfl rfl rfl rfl (v := .int .i64 (m:Int)) (by congr 1;split<;>omega) ?_
 repeat refine sq ?_;try intro
 refine G.retV ?_
 rfl
theorem many15_spec (n:Nat):FnV prog 201 [.int .i64 (n:Int)] [] (.int .i64 ((manyF n:Nat):Int)):=by
 unfold manyF
 refine Fn.enter func201 rfl ntmps201 oI (fun I0 w0 => ?_)
 repeat ((fail_if_success (refine o_min rfl rfl rfl rfl rfl ?_));(fail_if_success (refine o_max rfl rfl rfl rfl rfl ?_));refine st ?_;try intro _)
 refine o_min rfl rfl rfl rfl (v := .int .i64 ((min n 1048576:Nat):Int)) (by congr 1;split<;>omega) ?_
 repeat ((fail_if_success (refine o_min rfl rfl rfl rfl rfl ?_));(fail_if_success (refine o_max rfl rfl rfl rfl rfl ?_));refine st ?_;try intro _)
 refine o_max rfl rfl rfl rfl (v := .int .i64 ((min n 1048576:Nat):Int)) (by congr 1;split<;>omega) ?_
 repeat refine sq ?_;try intro
 refine G.retV ?_
 rfl
theorem words15_spec (n:Nat):FnV prog 127 [.int .i64 (n:Int)] [] (.int .i64 ((wordsF n:Nat):Int)):=by
 have h:=many15_spec n
 have hm:manyF n≤1048576:=by unfold manyF;omega
 unfold wordsF
 generalize manyF n=m at h hm
 refine Fn.enter func127 rfl ntmps127 oI (fun I0 w0 => ?_)
 repeat refine sq ?_;try intro
 refine cV h ?_
 repeat refine sq ?_;try intro
 refine G.retV ?_
 refine congrArg (Value.int .i64) ?_
 omega
theorem copy15_spec (n:Nat):FnV prog 69 [.int .i64 (n:Int)] [] (.int .i64 ((3*wordsF n:Nat):Int)):=by
 have h:=words15_spec n
 have hm:wordsF n≤32768:=by unfold wordsF manyF;omega
 generalize wordsF n=m at h hm
 refine Fn.enter func69 rfl ntmps69 oI (fun I0 w0 => ?_)
 repeat refine sq ?_;try intro
 refine cV h ?_
 repeat refine sq ?_;try intro
 refine G.retV ?_
 rfl
theorem hash15_spec (n:Nat):FnV prog 67 [.int .i64 (n:Int)] [] (.int .i64 ((6*wordsF n:Nat):Int)):=by
 have h:=words15_spec n
 have hm:wordsF n≤32768:=by unfold wordsF manyF;omega
 generalize wordsF n=m at h hm
 refine Fn.enter func67 rfl ntmps67 oI (fun I0 w0 => ?_)
 repeat refine sq ?_;try intro
 refine cV h ?_
 repeat refine sq ?_;try intro
 refine G.retV ?_
 rfl
theorem trimF_at {l:List UInt8} {i:Nat} (hi:i<l.length):trimF (l.drop i)=if l[i]=0 then trimF (l.drop (i+1)) else l.drop i:=by
 rw [List.drop_eq_getElem_cons hi]
 unfold trimF
 by_cases h:l[i]=0
 ·rw [if_pos h,List.dropWhile_cons_of_pos (by simp [h])]
 ·rw [if_neg h,List.dropWhile_cons_of_neg (by simpa using h)]
theorem exp15_spec (w:Word):FnV prog 66 [w.v] [] (.int .i64 ((50*(trimF (byN w.num)).length:Nat):Int)):=by
 have h1:=rbytes_spec w
 have hl:=byN_len w.num
 generalize byN w.num=l at h1 hl ⊢
 refine Fn.enter func66 rfl ntmps66 oI (fun I0 w0 => ?_)
 repeat refine sq ?_;try intro
 refine cV h1 ?_
 repeat refine sq ?_;try intro
 refine W.lp (S:=Nat) (fun i=>([],[(5,.int .i64 (i:Int)),(4,.int .i64 ((32-i:Nat):Int)),(3,.string (ba l))],[])) (fun i=>i≤32∧trimF l=trimF (l.drop i)) (fun i=>32-i) 0 ?_ (h0:=⟨Nat.zero_le _,rfl⟩)
 rintro i ⟨hi,ht⟩
 dsimp only
 by_cases he:i=32
 ·subst he
  have hz:trimF l=[]:=by rw [ht,List.drop_of_length_le oM];rfl
  rw [hz]
  repeat refine sq ?_;try intro
  refine G.retV ?_
  rfl
 ·have hil:i<l.length:=by omega
  have hst:=trimF_at hil
  by_cases hz:l[i]=0
  ·rw [if_pos hz] at hst
   rw [hst] at ht
   have hz2:l[i].toNat=0:=by rw [hz];rfl
   repeat refine sq ?_;try intro
   exact G.ag (S:=Nat) (i+1) (hpre:=⟨by omega,ht⟩) (hL:=lC rfl (lC (congrArg (fun q=>some (Value.int .i64 q)) oM) (lC rfl lN)))
  ·rw [if_neg hz] at hst
   rw [ht,hst,List.length_drop,hl]
   have hz2:l[i].toNat≠0:=fun h=>hz (UInt8.toNat_inj.1 h)
   repeat refine sq ?_;try intro
   refine G.retV ?_
   refine congrArg (Value.int .i64) ?_
   omega
theorem needF_sum (a n:Word):needF a n=if n = .zero then some 0 else if a.num+n.num≤1048576 then some ((a.num+n.num+31)/32) else none:=by
 have e:=num_add a n
 have h1:=a.num_lt
 have h2:=n.num_lt
 have h3:1048576<top256:=by decide +kernel
 unfold needF
 rw [e]
 by_cases h:a.num+n.num<top256
 ·rw [Nat.mod_eq_of_lt h]
  split
  ·rfl
  ·by_cases h4:a.num+n.num≤1048576
   ·rw [if_pos ⟨h4,by omega⟩,if_pos h4]
   ·rw [if_neg (fun q=>h4 q.1),if_neg h4]
 ·rw [Nat.mod_eq_sub_mod oM,Nat.mod_eq_of_lt oM]
  split
  ·rfl
  ·rw [if_neg oM,if_neg oM]
theorem need12_spec (a n:Word):FnV prog 70 [a.v,n.v] [] (.tuple #[.int .i64 (((needF a n).getD 0:Nat):Int),.bool (needF a n).isSome]):=by
 have h1:=rint_spec a
 have h2:=rint_spec n
 rw [needF_sum]
 by_cases hn:n = .zero
 ·rw [if_pos hn]
  subst hn
  refine Fn.enter func70 rfl ntmps70 oI (fun I0 w0 => ?_)
  repeat refine sq ?_;try intro
  refine G.retV ?_
  rfl
 rw [if_neg hn]
 generalize a.num=p at h1 ⊢
 generalize n.num=q at h2 ⊢
 by_cases ha:p≤4611686018427387903
 ·rw [if_pos ha,decide_eq_true ha] at h1
  by_cases hb:q≤4611686018427387903
  ·rw [if_pos hb,decide_eq_true hb] at h2
   refine Fn.enter func70 rfl ntmps70 oI (fun I0 w0 => ?_)
   repeat refine sq ?_;try intro
   refine cV h1 ?_
   repeat refine sq ?_;try intro
   refine cV h2 ?_
   by_cases h3:p+q≤1048576
   ·rw [if_pos h3]
    repeat refine sq ?_;try intro
    refine G.retV ?_
    rfl
   ·rw [if_neg h3]
    by_cases h4:1048576<p
    ·repeat refine sq ?_;try intro
     refine G.retV ?_
     rfl
    ·by_cases h5:1048576<q
     ·repeat refine sq ?_;try intro
      refine G.retV ?_
      rfl
     ·repeat refine sq ?_;try intro
      refine G.retV ?_
      rfl
  ·rw [if_neg hb,decide_eq_false hb] at h2
   rw [if_neg oM]
   refine Fn.enter func70 rfl ntmps70 oI (fun I0 w0 => ?_)
   repeat refine sq ?_;try intro
   refine cV h1 ?_
   repeat refine sq ?_;try intro
   refine cV h2 ?_
   repeat refine sq ?_;try intro
   refine G.retV ?_
   rfl
 ·rw [if_neg ha,decide_eq_false ha] at h1
  rw [if_neg oM]
  by_cases hb:q≤4611686018427387903
  all_goals
   first|rw [if_pos hb,decide_eq_true hb] at h2|rw [if_neg hb,decide_eq_false hb] at h2
   refine Fn.enter func70 rfl ntmps70 oI (fun I0 w0 => ?_)
   repeat refine sq ?_;try intro
   refine cV h1 ?_
   repeat refine sq ?_;try intro
   refine cV h2 ?_
   repeat refine sq ?_;try intro
   refine G.retV ?_
   rfl
theorem may12_spec (l:List UInt8) (hl:l.length≤1000000000):FnV prog 74 [.string (ba l)] [] (.bool (decide (l.length≤1048576∧l.length%32=0))):=by
 refine Fn.enter func74 rfl ntmps74 oI (fun I0 w0 => ?_)
 by_cases h1:l.length≤1048576
 ·by_cases h2:l.length%32=0
  ·rw [decide_eq_true ⟨h1,h2⟩]
   repeat refine sq ?_;try intro
   refine G.retV ?_
   rfl
  ·rw [decide_eq_false (fun h=>h2 h.2)]
   repeat refine sq ?_;try intro
   refine G.retV ?_
   rfl
 ·rw [decide_eq_false (fun h=>h1 h.1)]
  repeat refine sq ?_;try intro
  refine G.retV ?_
  rfl
theorem there12_spec (m:List UInt8) (at_ n:Nat) (hm:m.length≤1048576) (h32:m.length%32=0) (h:at_+n≤m.length):FnV prog 290 [.string (ba m),.int .i64 (at_:Int),.int .i64 (n:Int)] [] (.bool true):=by
 have h1:=may12_spec m oM
 rw [decide_eq_true ⟨hm,h32⟩] at h1
 refine Fn.enter func290 rfl ntmps290 oI (fun I0 w0 => ?_)
 repeat refine sq ?_;try intro
 refine cV h1 ?_
 repeat refine sq ?_;try intro
 refine G.retV ?_
 rfl
theorem grow12_spec (m:List UInt8) (words:Nat) (hm:m.length≤1048576) (h32:m.length%32=0) (hw:words≤32768):FnV prog 42 [.string (ba m),.int .i64 (words:Int)] [] (.tuple #[.string (ba (growF m words)),.int .i64 0]):=by
 have h1:=may12_spec m oM
 rw [decide_eq_true ⟨hm,h32⟩] at h1
 unfold growF
 by_cases h:32*words≤m.length
 ·rw [show words*32-m.length=0 from by omega,List.replicate_zero,List.append_nil]
  refine Fn.enter func42 rfl ntmps42 oI (fun I0 w0 => ?_)
  repeat refine sq ?_;try intro
  refine cV h1 ?_
  repeat refine sq ?_;try intro
  refine G.retV ?_
  rfl
 ·refine Fn.enter func42 rfl ntmps42 oI (fun I0 w0 => ?_)
  repeat refine sq ?_;try intro
  refine cV h1 ?_
  repeat refine sq ?_;try intro
  refine o_makeG (32*words-m.length) (0:UInt8) rfl rfl rfl rfl rfl rfl ⟨by omega,by omega,by omega⟩ rfl (fun _=>rfl) ?_
  intro v
  repeat refine sq ?_;try intro
  refine G.retV ?_
  rw [Nat.mul_comm]
  rfl
theorem copy12_spec (m s:List UInt8) (at_:Nat) (hm:m.length≤1048576) (h32:m.length%32=0) (h:at_+s.length≤m.length):FnV prog 225 [.string (ba m),.int .i64 (at_:Int),.string (ba s)] [] (.tuple #[.string (ba (m.take at_++s++m.drop (at_+s.length))),.int .i64 0]):=by
 have h1:=there12_spec m at_ s.length hm h32 h
 refine Fn.enter func225 rfl ntmps225 oI (fun I0 w0 => ?_)
 repeat refine sq ?_;try intro
 refine cV h1 ?_
 repeat refine sq ?_;try intro
 refine W.drawA 11 [dq _,dq _,dq _,dq _,dq _,dq _,dq _,dq _,dq _,dq _,dq _] [[],[],[0,1],[],[2,3],[],[],[],[7],[6,8],[5,9]] [4,10] (hrest:=fun c=>nrm ?_) (hops:=by
  iterate 2 refine AllQ.aq ?_
  refine AllQ.mk (by intro c z0 Φr Lr K;refine nrm ?_;intro hK;refine o_slT 0 at_ rfl rfl rfl bd0 ⟨_,_,rfl,rfl⟩ (Nat.zero_le _) oM ?_;exact hK z0) ?_
  iterate 7 refine AllQ.aq ?_
  refine AllQ.mk (by intro c z0 Φr Lr K;refine nrm ?_;intro hK;refine o_slT (at_+s.length) m.length rfl rfl rfl ⟨_,_,rfl,rfl⟩ bd0 oM (Nat.le_refl _) ?_;exact hK z0) ?_
  exact AllQ.nil)
 repeat refine sq ?_;try intro
 refine G.retV ?_
 simp [tup]
theorem piece12_spec (s:List UInt8) (a:Word) (n:Nat) (hs:s.length≤1000000000) (hn:n≤1048576):FnV prog 133 [.string (ba s),a.v,.int .i64 (n:Int)] [] (.tuple #[.string (ba (partF s a n)),.int .i64 0]):=by
 have h1:=rint_spec a
 unfold partF
 rw [if_neg oM]
 obtain ⟨f,hf⟩ : ∃ f,f=min a.num s.length:=⟨_,rfl⟩
 have e:(if a.num<s.length then (s.drop a.num).take n else [])=(s.drop f).take n:=by
  split
  ·rw [hf,Nat.min_eq_left oM]
  ·rw [hf,Nat.min_eq_right oM,List.drop_length,List.take_nil]
 rw [e]
 have hd:((s.take s.length).drop f).length=s.length-f:=by simp
 have hd2:(s.take s.length).drop f=s.drop f:=by rw [List.take_length]
 have hcases:(a.num≤4611686018427387903∧a.num≤s.length∧f=a.num)∨(a.num≤4611686018427387903∧s.length<a.num∧f=s.length)∨(4611686018427387903<a.num∧f=s.length):=by omega
 have hfl:f≤s.length:=by omega
 clear hf e
 generalize a.num=p at h1 hcases
 rcases hcases with ⟨hi,hl,rfl⟩|⟨hi,hl,rfl⟩|⟨hi,rfl⟩
 ·rw [if_pos hi,decide_eq_true hi] at h1
  by_cases hn2:n<s.length-f
  ·have hd3:((((s.take s.length).drop f).take n).drop 0).length=n:=by simp;omega
   refine Fn.enter func133 rfl ntmps133 oI (fun I0 w0 => ?_)
   repeat refine sq ?_;try intro
   refine cV h1 ?_
   repeat refine sq ?_;try intro
   refine o_makeG 0 (0:UInt8) rfl rfl rfl rfl oM oM ⟨by omega,by omega,by omega⟩ rfl (fun _=>rfl) ?_
   intro v
   repeat refine sq ?_;try intro
   refine G.retV ?_
   refine congrArg (fun z=>Value.tuple #[.string (ba z),.int .i64 0]) ?_
   have e1:((s.drop f).take n).length=n:=by simp;omega
   dsimp only
   rw [e1,hd2,List.drop_zero,Nat.sub_self]
  ·have hd3:=hd
   refine Fn.enter func133 rfl ntmps133 oI (fun I0 w0 => ?_)
   repeat refine sq ?_;try intro
   refine cV h1 ?_
   repeat refine sq ?_;try intro
   refine o_makeG (n-(s.length-f)) (0:UInt8) rfl rfl rfl rfl oM oM ⟨by omega,by omega,by omega⟩ rfl (fun _=>rfl) ?_
   intro v
   repeat refine sq ?_;try intro
   refine G.retV ?_
   refine congrArg (fun z=>Value.tuple #[.string (ba z),.int .i64 0]) ?_
   have e1:(s.drop f).take n=s.drop f:=List.take_of_length_le (by simp<;>omega)
   dsimp only
   rw [e1,hd2,List.length_drop]
 ·rw [if_pos hi,decide_eq_true hi] at h1
  have hn2 : ¬ n<s.length-s.length:=by omega
  refine Fn.enter func133 rfl ntmps133 oI (fun I0 w0 => ?_)
  repeat refine sq ?_;try intro
  refine cV h1 ?_
  repeat refine sq ?_;try intro
  refine o_makeG (n-(s.length-s.length)) (0:UInt8) rfl rfl rfl rfl oM oM ⟨by omega,by omega,by omega⟩ rfl (fun _=>rfl) ?_
  intro v
  repeat refine sq ?_;try intro
  refine G.retV ?_
  refine congrArg (fun z=>Value.tuple #[.string (ba z),.int .i64 0]) ?_
  have e1:(s.drop s.length).take n=s.drop s.length:=List.take_of_length_le (by simp<;>omega)
  dsimp only
  rw [e1,hd2,List.length_drop]
 ·rw [if_neg oM,decide_eq_false oM] at h1
  have hn2 : ¬ n<s.length-s.length:=by omega
  refine Fn.enter func133 rfl ntmps133 oI (fun I0 w0 => ?_)
  repeat refine sq ?_;try intro
  refine cV h1 ?_
  repeat refine sq ?_;try intro
  refine o_makeG (n-(s.length-s.length)) (0:UInt8) rfl rfl rfl rfl oM oM ⟨by omega,by omega,by omega⟩ rfl (fun _=>rfl) ?_
  intro v
  repeat refine sq ?_;try intro
  refine G.retV ?_
  refine congrArg (fun z=>Value.tuple #[.string (ba z),.int .i64 0]) ?_
  have e1:(s.drop s.length).take n=s.drop s.length:=List.take_of_length_le (by simp<;>omega)
  dsimp only
  rw [e1,hd2,List.length_drop]
end Go.Rail
namespace Go.Rail
open Go Go.Proofs Tryz
set_option maxHeartbeats 400000
set_option maxRecDepth 4000
attribute [local irreducible] OpK G W LW wpListIn Exit.then Exit.inBlock Post rounds opRun bodyPostM intOp
set_option maxHeartbeats 4000000
attribute [local irreducible] Word.num Word.nat
def sF (x p i k:Nat):Nat:=if p≤k∧k<i then bt x (p-1) else bt x k
theorem sF_low (x p i:Nat) (hp:0<p):sF x p i (p-1)=bt x (p-1):=by unfold sF;rw [if_neg oM]
theorem sF_lt (x p i k:Nat):sF x p i k<2:=by unfold sF;split<;>exact bt_lt _ _
theorem sF_begin (x p:Nat):(fun k=>((bt x k:Nat):Int))=fun k=>((sF x p p k:Nat):Int):=by
 funext k;unfold sF;rw [if_neg oM]
theorem sF_step (x p i:Nat) (h:p≤i):(fun k=>if k=i then ((bt x (p-1):Nat):Int) else ((sF x p i k:Nat):Int))=fun k=>((sF x p (i+1) k:Nat):Int):=by
 funext k
 unfold sF
 by_cases hk:k=i
 ·subst hk;rw [if_pos rfl,if_pos oM]
 ·rw [if_neg hk]
  by_cases h2:p≤k∧k<i
  ·rw [if_pos h2,if_pos oM]
  ·rw [if_neg h2,if_neg oM]
theorem sign_bits (i a:Word) (n k:Nat) (hn:n=min i.num 31) (hk:k<256):bt (signW i a).num k=sF a.num (8*n+8) 256 k:=by
 unfold signW
 rw [← hn,sar_bits _ _ _ hk]
 have hs:(Word.nat (248-8*n)).num=248-8*n:=by rw [Word.num_nat,Nat.mod_eq_of_lt (by simp only [top256];omega)]
 unfold shlW
 rw [hs,Nat.min_eq_left oM,bt_num oE,bt_mul]
 unfold mvF sF
 by_cases h:8*n+8≤k∧k<256
 ·rw [if_neg oM,if_pos h,if_pos oM,show 255-(248-8*n)=8*n+8-1 from by omega]
 ·rw [if_pos oM,if_neg h,bt_num oM,bt_mul,if_pos oM]
  congr 1
  omega
theorem rsign_spec (i a:Word):FnV prog 213 [i.v,a.v] [] (signW i a).v:=by
 have hs:=small_spec i 31 oE
 obtain ⟨n,hn⟩ : ∃ n,n=min i.num 31:=⟨_,rfl⟩
 have hw : ∀ g:Nat→Nat,(∀ k<256,g k=sF a.num (8*n+8) 256 k)→Word.nat (sumB 2 g 256)=signW i a:=fun g hg=>by
  rw [sum_bits (y:=(signW i a).num) (fun k hk=>by rw [hg k hk];exact sign_bits i a n k hn hk),Word.nat_num]
 rw [← hn] at hs
 have hn31:n≤31:=by omega
 refine Fn.enter func213 rfl ntmps213 oI (fun I0 w0 => ?_)
 by_cases h31:n=31
 ·subst h31
  have e:a=signW i a:=by
   rw [← hw (bt a.num) (fun k hk=>by unfold sF;rw [if_neg oM]),sum_bits (y:=a.num) (fun _ _=>rfl),Word.nat_num]
  rw [← e]
  repeat refine sq ?_;try intro
  refine cV hs ?_
  repeat refine sq ?_;try intro
  refine G.retV ?_
  rfl
 ·repeat refine sq ?_;try intro
  rename_i b2 b3 b4
  refine cV hs ?_
  repeat refine sq ?_;try intro
  refine o_callO rfl rfl rfl rfl (bits_spec a) ?_
  intro vx ox hox
  rw [rowZ_length] at hox
  refine G.ownZ (f:=fun k=>((bt a.num k:Nat):Int)) oE hox ?_
  intro bx ex cx e1 e2 hcx
  subst e1 e2
  dsimp only [ownM,List.cons_append,List.nil_append]
  rw [sF_begin a.num (8*n+8)]
  repeat refine sq ?_;try intro
  refine W.lp (fun (i:Nat)=>([],[(7,.int .i64 (i:Int)),(6,.slice (some ⟨bx,0,none⟩) 256 cx),(5,.int .i64 (n:Int)),(4,.pointer (some ⟨b4,0,none⟩))],[(b4,Ob Word.zero.cells 49),(bx,Ob (cIx (rowN 256 (sF a.num (8*n+8) i)) ex) 3)])) (fun i=>8*n+8≤i∧i≤256) (fun i=>256-i) (8*n+8) ?_ (hM := .cons_cons _ (.cons _ (.cons _ (.refl _))))
  rintro i ⟨hi1,hi2⟩
  dsimp only
  by_cases hi:i=256
  ·subst hi
   refine W.bare (G.giveZ bx cx hcx ?_)
   refine G.code ?_
   repeat refine sq ?_;try intro
   refine o_callV rfl rfl rfl rfl (fromBits_spec _ (sF a.num (8*n+8) 256) (fun i _=>sF_lt _ _ _ _)) (by rw [hw _ (fun _ _=>rfl)]) ?_
   repeat refine sq ?_;try intro
   refine G.retV ?_
   rfl
  ·have h0:sF a.num (8*n+8) i (8*n+7)=bt a.num (8*n+8-1):=sF_low a.num (8*n+8) i oM
   repeat refine sq ?_;try intro
   rw [h0]
   repeat refine sq ?_;try intro
   rw [sF_step _ _ _ hi1]
   exact G.ag (i+1)
theorem flip_num (a:Word):(flipW a).num=if negW a then a.num-57896044618658097711785492504343953926634992332820282019728792003956564819968 else a.num+57896044618658097711785492504343953926634992332820282019728792003956564819968:=by
 have h1:=a.a.toNat_lt;have h2:=a.b.toNat_lt;have h3:=a.c.toNat_lt;have h4:=a.d.toNat_lt
 have hx:a.d.toNat^^^9223372036854775808=if negW a then a.d.toNat-9223372036854775808 else a.d.toNat+9223372036854775808:=by
  have e1:=Nat.xor_div_two_pow (a:=a.d.toNat) (b:=9223372036854775808) (n:=63)
  have e2:=Nat.xor_mod_two_pow (a:=a.d.toNat) (b:=9223372036854775808) (n:=63)
  rw [show (9223372036854775808:Nat)/2^63=1 from rfl] at e1
  rw [show (9223372036854775808:Nat)%2^63=0 from rfl,Nat.xor_zero] at e2
  unfold negW
  by_cases h:9223372036854775808≤a.d.toNat
  ·rw [decide_eq_true h,if_pos rfl]
   rw [show a.d.toNat/2^63=1 from by omega,Nat.xor_self] at e1
   omega
  ·rw [decide_eq_false h,if_neg oE]
   rw [show a.d.toNat/2^63=0 from by omega,Nat.zero_xor] at e1
   omega
 have hl:(a.d.toNat^^^9223372036854775808)<18446744073709551616:=xor_lt64 h4 oE
 unfold Word.num flipW
 simp only [UInt64.toNat_ofNat']
 rw [show (2:Nat)^64=18446744073709551616 from rfl,Nat.mod_eq_of_lt hl,hx]
 unfold negW
 by_cases h:9223372036854775808≤a.d.toNat
 ·rw [decide_eq_true h,if_pos rfl,if_pos rfl];omega
 ·rw [decide_eq_false h,if_neg oE,if_neg oE];omega
theorem neg_le (a:Word):negW a=decide (57896044618658097711785492504343953926634992332820282019728792003956564819968≤a.num):=by
 have h:=over_iff a
 refine decide_eq_decide.2 ?_
 rw [h];simp only [top256];omega
theorem less_law (a b:Word):lessW a b=if negW a=negW b then decide (cmpW a b<0) else negW a:=by
 unfold lessW
 rw [cmpW_num,cmpW_num,flip_num,flip_num,neg_le,neg_le]
 have ha:=a.num_lt;have hb:=b.num_lt
 simp only [top256] at ha hb
 by_cases h1:57896044618658097711785492504343953926634992332820282019728792003956564819968≤a.num<;>by_cases h2:57896044618658097711785492504343953926634992332820282019728792003956564819968≤b.num
 all_goals
  simp only [h1,h2,decide_true,decide_false,if_true,if_false,Bool.false_eq_true,reduceCtorEq,decide_eq_true_eq]
  by_cases h3:a.num<b.num<;>by_cases h4:b.num<a.num<;>simp [h3,h4]<;>omega
theorem rless3_spec (a b:Word):FnV prog 216 [a.v,b.v] [] (.bool (lessW a b)):=by
 have e1:=neg_bt a
 have e2:=neg_bt b
 have hl:=less_law a b
 refine Fn.enter func216 rfl ntmps216 oI (fun I0 w0 => ?_)
 rw [hl]
 cases ha:negW a<;>cases hb:negW b
 all_goals
  rw [ha] at e1;rw [hb] at e2
  simp only [if_true,if_false,Bool.false_eq_true,reduceCtorEq] at e1 e2 ⊢
  repeat refine sq ?_;try intro
  refine o_callD rfl rfl rfl rfl (bits_given a) ?_
  intro v1
  repeat refine sq ?_;try intro
  refine o_callD rfl rfl rfl rfl (bits_given b) ?_
  intro v2
  repeat refine sq ?_;try intro
  refine G.retV ?_
  first|rfl|(refine congrArg Value.bool ?_;simp;done)|(refine congrArg Value.bool ?_;omega)
end Go.Rail
namespace Go.Rail
open Go Go.Proofs Tryz
set_option maxHeartbeats 400000
set_option maxRecDepth 4000
attribute [local irreducible] OpK G W LW wpListIn Exit.then Exit.inBlock Post rounds opRun bodyPostM intOp
set_option maxHeartbeats 16000000
set_option maxRecDepth 20000
theorem takes_succ {α:Type} {xs ys:List α} {i:Nat} (hx:i<xs.length) (hy:i<ys.length) (h:xs.take i=ys.take i) (e:xs[i]=ys[i]):xs.take (i+1)=ys.take (i+1):=by
 rw [List.take_succ_eq_append_getElem hx,List.take_succ_eq_append_getElem hy,h,e]
theorem samew_spec (v u:Value) (xs ys:List Word) (hx:xs.length≤1000000):FnV prog 27 [v,u] [fRp v xs,fRp u ys] (.bool (decide (xs=ys))):=by
 refine Fn.enter func27 rfl ntmps27 oI (fun I0 w0 => ?_)
 by_cases hl:xs.length=ys.length
 case neg =>
  rw [decide_eq_false (fun h=>hl (by rw [h]))]
  refine W.bare (G.slice v xs ?_);intro a1 c1 e1 k1;subst e1
  refine G.slice u ys ?_;intro a2 c2 e2 k2;subst e2
  refine G.code ?_
  repeat refine st ?_;try intro
  refine G.retV ?_
  rfl
 refine W.bare (G.slice v xs ?_);intro a1 c1 e1 k1;subst e1
 refine G.slice u ys ?_;intro a2 c2 e2 k2;subst e2
 refine G.code ?_
 repeat refine st ?_;try intro
 refine W.lp (fun (i:Nat)=>([fRp (.slice a1 xs.length c1) xs,fRp (.slice a2 ys.length c2) ys],[(0,.slice a1 xs.length c1),(1,.slice a2 ys.length c2),(5,.int .i64 (i:Int)),(4,.bool false)],[])) (fun i=>i≤xs.length∧xs.take i=ys.take i) (fun i=>xs.length-i) 0 ?_ (h0:=⟨Nat.zero_le _,rfl⟩)
 rintro i ⟨hi,ht⟩
 dsimp only
 by_cases hd:i=xs.length
 ·subst hd
  repeat refine st ?_;try intro
  refine G.retV ?_
  rw [List.take_length,hl,List.take_length] at ht
  rw [decide_eq_true ht];rfl
 ·have hix:i<xs.length:=by omega
  have hiy:i<ys.length:=by omega
  by_cases hne:xs[i]=ys[i]
  ·repeat refine st ?_;try intro
   refine W.drawA 8 [dq _,dq _,dk _,dq _,dq _,dq _,dk _,dq _] [[],[],[0,1],[2],[],[],[4,5],[6]] [3,7] (hrest:=fun c=>nrm ?_) (hops:=by
    iterate 8 refine AllQ.au ?_
    exact AllQ.nil)
   repeat refine st ?_;try intro
   exact G.ag (i+1) (hpre:=⟨by omega,takes_succ hix hiy ht hne⟩)
  ·rw [decide_eq_false (fun h=>hne (by subst h;rfl))]
   repeat refine st ?_;try intro
   refine W.drawA 8 [dq _,dq _,dk _,dq _,dq _,dq _,dk _,dq _] [[],[],[0,1],[2],[],[],[4,5],[6]] [3,7] (hrest:=fun c=>nrm ?_) (hops:=by
    iterate 8 refine AllQ.au ?_
    exact AllQ.nil)
   repeat refine st ?_;try intro
   refine G.retV ?_
   rfl
end Go.Rail
