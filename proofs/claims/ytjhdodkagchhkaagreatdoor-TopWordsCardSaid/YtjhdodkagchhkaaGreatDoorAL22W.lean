/- TopWords: the walk. -/
import Derived.Test.YtjhdodkagchhkaaGreatDoorRailA
import Derived.Test.YtjhdodkagchhkaaGreatDoorRailI
import Derived.Test.YtjhdodkagchhkaaGreatDoorAW1
import Derived.Test.YtjhdodkagchhkaaGreatDoorAE1
import Derived.Test.YtjhdodkagchhkaaGreatDoorAFSG1
import Derived.Test.YtjhdodkagchhkaaGreatDoorABF
set_option linter.unusedSimpArgs false
set_option linter.unusedVariables false
namespace Go.Rail
open Go Go.Proofs Tryz
set_option maxHeartbeats 400000
set_option maxRecDepth 4000
attribute [local irreducible] OpK G W LW wpListIn Exit.then Exit.inBlock Post rounds opRun bodyPostM intOp
set_option maxHeartbeats 4000000
theorem tpick_spec (c n:Int) (h1 : -9223372036854775808≤c) (hn:0<n):FnV prog 5 [.int .i64 c,.int .i64 n] [] (.int .i64 (pickI c n)):=by
 refine Fn.enter func5 rfl ntmps5 oI (fun I0 w0 => ?_)
 unfold pickI
 by_cases hc:c<0
 ·rw [if_pos hc]
  repeat refine sq ?_;try intro
  refine G.retV ?_
  rfl
 ·rw [if_neg hc]
  repeat refine sq ?_;try intro
  refine G.retV ?_
  rfl
theorem txL_le (l:List UInt8):(txL l).length≤100*l.length:=by
 have:=txT_len l (plc l).length
 rwa [txT_all] at this
theorem topW_walk (op:Int) (a b e:Word) (hop : -9223372036854775808≤op):FnV prog 3 [.int .i64 op,a.v,b.v,e.v] [fKc] (.bool true):=by
 have c0:=alive_spec
 have cp:=tpick_spec op 30 hop oE
 have pp:=pickI_nn op 30 oE
 have hlt:(pickI op 30).toNat<opsT.length:=by show _<30;omega
 obtain ⟨o,hoe⟩ : ∃ o,o=opsT[(pickI op 30).toNat]'hlt:=⟨_,rfl⟩
 have ho:o∈opsT:=by rw [hoe];exact List.getElem_mem hlt
 obtain ⟨D,x,hd,hD,hst,hout⟩:=top_run keccakL ho a b e
 have cl:=codeT_len o a b e
 have hRt:Rt (bgF (codeT o a b e) [] 5000):=new_Rt oM (Nat.zero_le _) (Nat.zero_le _) oE oE
 have c1:=begin_spec (codeT o a b e) [] 5000 (right_Rt.2 hRt)
 have c2:=fun w=>fRun_spec (bgF (codeT o a b e) [] 5000) w 100 oE hRt
 generalize runL keccakL 100 (bgF (codeT o a b e) [] 5000)=R at c2 hst hout
 obtain ⟨⟨r0,r1,r2,r3,r4,r5,r6,r7,r8,r9⟩,steps⟩:=R
 dsimp only at hst hout
 subst hst hout
 have c3:=fun v=>do_spec o.toNat o.toNat_lt v [e,b,a] (show (3:Nat)≤100000 by decide)
 rw [hd] at c3
 dsimp only at c3
 obtain ⟨S,hS⟩ : ∃ S,S=D++[x]:=⟨_,rfl⟩
 have hSl:S.length=D.length+1:=by rw [hS,List.length_append];rfl
 have hSx:S[D.length]? = some x:=by rw [hS];simp
 have hne:((S.length:Nat):Int)=0↔False:=⟨fun h=>by omega,fun h=>h.elim⟩
 rw [← hS] at c3
 have c4:=text_spec (codeT o a b e) oM
 have c5:=parse_spec (txL (codeT o a b e)) (by have:=txL_le (codeT o a b e);omega)
 rw [parse_text] at c5
 have ca:=wbytes_spec a
 have cb:=wbytes_spec b
 have cc:=wbytes_spec e
 have cx:=wbytes_spec x
 have la:=byN_len a.num
 have lb:=byN_len b.num
 have lc:=byN_len e.num
 have hcode:127::(byN e.num++[127]++byN b.num++[127]++byN a.num)++[o]++[95,82,96,32,95,243]=codeT o a b e:=by simp [codeT,preT,endT]
 generalize byN a.num=wa at ca la hcode
 generalize byN b.num=wb at cb lb hcode
 generalize byN e.num=wc at cc lc hcode
 refine Fn.enter func3 rfl ntmps3 oI (fun I0 w0 => ?_)
 repeat refine sq ?_;try intro
 refine cV c0 ?_
 repeat refine sq ?_;try intro
 refine o_litV (xs:=opsT) rfl rfl rfl (by unfold opsT;repeat (first|exact FVs.nil|refine FVs.cons rfl ?_)) oY oY rfl rfl ?_
 intro vl
 refine G.slice vl opsT ?_
 intro al kl el kl2
 subst el
 rw [show opsT.length=30 from rfl]
 repeat refine sq ?_;try intro
 refine cV cp ?_
 repeat refine sq ?_;try intro
 simp only [← hoe]
 refine W.drawA 14 [dq _,dq _,dq _,dq _,dq _,dq _,dq _,dq _,dq _,dq _,dq _,dq _,dk fun _ z=>fRp z [o],dq _] [[],[0],[1],[2],[],[4],[3,5],[6],[],[8],[7,9],[],[11],[12]] [10,13] (hrest:=fun c=>nrm ?_) (hops:=by
  iterate 1 refine AllQ.aq ?_
  refine AllQ.mk (by intro c z0 Φr Lr K;refine nrm ?_;intro hK;refine cV cc ?_;exact hK z0) ?_
  refine AllQ.mk (by intro c z0 Φr Lr K;refine nrm ?_;intro hK;refine o_catT (l:=[0x7f]) (m:=wc) rfl rfl rfl rfl oX ?_;exact hK z0) ?_
  refine AllQ.mk (by intro c z0 Φr Lr K;refine nrm ?_;intro hK;refine o_catT (l:=[0x7f]++wc) (m:=[0x7f]) rfl rfl rfl rfl oX ?_;exact hK z0) ?_
  iterate 1 refine AllQ.aq ?_
  refine AllQ.mk (by intro c z0 Φr Lr K;refine nrm ?_;intro hK;refine cV cb ?_;exact hK z0) ?_
  refine AllQ.mk (by intro c z0 Φr Lr K;refine nrm ?_;intro hK;refine o_catT (l:=[0x7f]++wc++[0x7f]) (m:=wb) rfl rfl rfl rfl oX ?_;exact hK z0) ?_
  refine AllQ.mk (by intro c z0 Φr Lr K;refine nrm ?_;intro hK;refine o_catT (l:=[0x7f]++wc++[0x7f]++wb) (m:=[0x7f]) rfl rfl rfl rfl oX ?_;exact hK z0) ?_
  iterate 1 refine AllQ.aq ?_
  refine AllQ.mk (by intro c z0 Φr Lr K;refine nrm ?_;intro hK;refine cV ca ?_;exact hK z0) ?_
  refine AllQ.mk (by intro c z0 Φr Lr K;refine nrm ?_;intro hK;refine o_catT (l:=[0x7f]++wc++[0x7f]++wb++[0x7f]) (m:=wa) rfl rfl rfl rfl oX ?_;exact hK z0) ?_
  iterate 1 refine AllQ.aq ?_
  refine AllQ.mk (by intro c z0 Φr Lr K;refine nrm ?_;intro hK;refine o_litV (xs:=[o]) rfl rfl rfl (.cons rfl .nil) oY oY rfl rfl ?_;intro v';exact hK v') ?_
  refine AllQ.mk (by intro c z0 Φr Lr K;refine nrm ?_;intro hK;refine o_toT (l:=[o]) rfl rfl rfl ?_;exact hK z0) ?_
  exact AllQ.nil)
 repeat refine sq ?_;try intro
 rw [hcode]
 refine cV c1 ?_
 refine G.learn (fRp (.slice none 0 0) (bgF (codeT o a b e) [] 5000).stack) (e:=⟨fun I hp=>Rp.nil none 0⟩) ?_
 repeat refine sq ?_;try intro
 refine OpK.call rfl rfl rfl rfl (c2 _) oY (Mr:=_) oP ?_
 rintro u Φ' Mc' ⟨a2,k2,rfl,rfl,rfl⟩
 refine nA ?_
 repeat refine sq ?_;try intro
 refine OpK.call rfl rfl rfl rfl (c3 _) oY (Mr:=_) oP ?_
 rintro u Φ' Mc' ⟨sv,rfl,rfl,rfl⟩
 refine nA ?_
 refine G.slice sv S ?_
 intro ad2 ks es hks
 subst es
 repeat refine sq ?_;try intro
 simp only [hne,decide_false]
 repeat refine sq ?_;try intro
 refine cV c4 ?_
 repeat refine sq ?_;try intro
 refine cV c5 ?_
 dsimp only
 repeat refine sq ?_;try intro
 refine W.drawA 20 [dq _,dq _,dq _,dq _,dq _,dq _,dq _,dq _,dk fun _ z=>fPt z x,dq _,dq _,dq _,dq _,dq _,dq _,dq _,dq _,dq _,dq _,dq _] [[],[0],[1],[1,2],[1],[1],[1,5],[1,6],[1,4,7],[1,8],[1,9],[1,3,10],[1,11],[12],[13],[13,14],[13,15],[16],[17],[17]] [17,18,19] (hrest:=fun c=>nrm ?_) (hops:=by
  iterate 8 refine AllQ.aq ?_
  refine AllQ.mk (by intro c z0 Φr Lr K;refine nrm ?_;intro hK;refine o_idxG D.length x rfl rfl rfl rfl oM hSx ?_;intro v';exact hK v') ?_
  iterate 1 refine AllQ.aq ?_
  refine AllQ.mk (by intro c z0 Φr Lr K;refine nrm ?_;intro hK;refine cV cx ?_;exact hK z0) ?_
  refine AllQ.mk (by intro c z0 Φr Lr K;refine nrm ?_;intro hK;refine o_eqT (l:=byN x.num) (m:=byN x.num) (r:=true) rfl rfl rfl rfl (decide_eq_true rfl) ?_;exact hK z0) ?_
  iterate 8 refine AllQ.aq ?_
  exact AllQ.nil)
 repeat refine sq ?_;try intro
 rw [decide_eq_true (rfl:codeT o a b e=codeT o a b e)]
 refine G.retV ?_
 rfl
end Go.Rail
