/- FrameTells: the walk. -/
import Derived.Test.YtpbbjkbackiljaaGreatDoorRailA
import Derived.Test.YtpbbjkbackiljaaGreatDoorRailI
import Derived.Test.YtpbbjkbackiljaaGreatDoorATPTR
set_option linter.unusedSimpArgs false
set_option linter.unusedVariables false
namespace Go.Rail
open Go Go.Proofs Tryz
set_option maxHeartbeats 400000
set_option maxRecDepth 4000
attribute [local irreducible] OpK G W LW wpListIn Exit.then Exit.inBlock Post rounds opRun bodyPostM intOp
set_option maxHeartbeats 1000000
structure TlSt where
 i:Nat
 g:Frm
 a:Option Addr
 c:Nat
theorem stepL_small (f:Frm) (hs:f.stack.length≤1024):(stepL keccakL f).1.stack.length≤1024:=by
 by_cases he:(stepL keccakL f).2=0
 ·have hr:rightF f=true:=by
   by_cases hr:rightF f=true
   ·exact hr
   ·rw [stepL,if_pos (by simpa using hr)] at he
    cases he
  exact (stepL_law keccakL (right_Rt.1 hr) he).2.1.2.2.2.2.2.2.2.2.1
 ·rw [stepL_stay keccakL f he]
  exact hs
theorem tells17_walk (v:Value) (raw:List (Int × Int)) (input:List UInt8) (gas:Int) (ov:Value) (o:Frm) (op at_:Int) (hok : ∀ a∈raw,okR a) (hi:input.length≤4611686018427387904) (hg : -9223372036854775808≤gas)
  (ho:okF o) (hop : -9223372036854775808≤op) (ha : -9223372036854775808≤at_) :
  FnV prog 3 [v,.string (ba input),.int .i64 gas,ov,.int .i64 op,.int .i64 at_] [fRp v raw,fRp ov o,fKc] (.bool true):=by
 have c1:=awake17_spec
 have c2:=pick17_spec op 256 hop oE
 have p2:=pickI_nn op 256 oE
 obtain ⟨u,hu⟩ : ∃ u:UInt8,pickI op 256=((u.toNat:Nat):Int):=⟨u8I (pickI op 256),(u8I_nat _ oM oM).symm⟩
 rw [hu] at c2
 have hu2:u.toNat<256:=UInt8.toNat_lt u
 clear p2
 have c3:=local_spec u.toNat hu2
 have c4:=Local17_spec u.toNat hu2
 generalize localF u.toNat=lu at c3 c4
 have c5:=fun w=>frameR_spec w raw input gas hok hg hi
 have hRt:=frmR_Rt raw input gas
 have hfs:(frmR raw input gas).stack=[]:=rfl
 generalize frmR raw input gas=f at c5 hRt hfs
 have hf0:f.stack.length=0:=by rw [hfs];rfl
 have c5 : ∀ w,FnV prog 14 [w,.string (ba input),.int .i64 gas] [fRp w raw] (frmV f (.slice none f.stack.length 0)):=by rw [hf0];exact c5
 have hbR:rightF (bgF f.code f.input f.gas)=true:=right_Rt.2 (new_Rt hRt.1 hRt.2.1 oI hRt.2.2.2.2.2.2.1 hRt.2.2.2.2.2.2.2.1)
 have c6:=begin_spec f.code f.input f.gas hbR
 have c7:=begin17_spec f.code f.input f.gas hbR
 have c8:FnV prog 17 [frmV (bgF f.code f.input f.gas) (.slice none 0 0),frmV (bgF f.code f.input f.gas) (.slice none 0 0)] [fRp (.slice none 0 0) ([]:List Word),fRp (.slice none 0 0) ([]:List Word)] (.bool true):=rsame_spec (bgF f.code f.input f.gas) (.slice none 0 0) (.slice none 0 0) (Nat.zero_le _)
 generalize bgF f.code f.input f.gas=bg at c6 c7 c8
 have c9:=pick17_spec at_ 3 ha oE
 have p9:=pickI_nn at_ 3 oE
 have c10:=pick17_spec at_ 4 ha oE
 have p10:=pickI_nn at_ 4 oE
 obtain ⟨m4,hm4⟩ : ∃ m:Nat,pickI at_ 4=(m:Int):=⟨(pickI at_ 4).toNat,by omega⟩
 rw [hm4] at c10 p10
 have c11:=pick17_spec o.gas 9000 ho.2.2.2.2.2.1.1 oE
 have c12:=pick17_spec at_ 80 ha oE
 have hol:o.stack.length≤1000000000000000:=by have:=ho.2.2.2.1;unfold reachBytes at this;omega
 have hcl:f.code.length≤49152:=hRt.1
 obtain ⟨n20,hn20⟩ : ∃ n,n=min o.stack.length 20:=⟨_,rfl⟩
 generalize pickI at_ 3=p3 at c9 p9
 generalize pickI o.gas 9000=g9 at c11
 generalize pickI at_ 80=q80 at c12
 clear hm4 ho hok hu
 refine Fn.enter func3 rfl ntmps3 oI (fun I0 w0 => ?_)
 refine W.bare (G.slice v raw ?_);intro ad cap e1 k1;subst e1
 refine G.frm ov o ?_;intro ao co e2;subst e2
 refine G.code ?_
 repeat refine sq ?_;try intro
 rename_i b9
 refine cV c1 ?_
 repeat refine sq ?_;try intro
 refine cV c2 ?_
 repeat refine sq ?_;try intro
 refine cV c3 ?_
 repeat refine sq ?_;try intro
 refine cV c4 ?_
 repeat refine sq ?_;try intro
 refine cV (c5 _) ?_
 refine G.learn (fRp (.slice none 0 0) ([]:List Word)) (e:=⟨fun I hp=>Rp.nil none 0⟩) ?_
 refine G.learn (fRp (.slice none f.stack.length 0) f.stack) (e:=⟨fun I hp=>by show Rp I _ _;rw [hfs];exact Rp.nil none 0⟩) ?_
 repeat refine sq ?_;try intro
 rename_i b15
 refine cV c6 ?_
 repeat refine sq ?_;try intro
 refine cV c7 ?_
 repeat refine sq ?_;try intro
 refine cV c8 ?_
 repeat refine sq ?_;try intro
 rename_i b20 v20
 refine cV c9 ?_
 repeat refine sq ?_;try intro
 refine W.cutE (S:=Frm) (fun z=>([fRp (.slice ao o.stack.length co) o.stack,fRp (.slice none f.stack.length 0) f.stack,fKc],[(20,.pointer (some ⟨b20,0,none⟩)),(9,.pointer (some ⟨b9,0,none⟩)),(15,.pointer (some ⟨b15,0,none⟩)),(13,.bool true),(5,.int .i64 at_)],[(b20,Ob (frmC z (.slice ao o.stack.length co)) 26),(b15,Ob (frmC f (.slice none f.stack.length 0)) 26),(b9,Ob (frmC o (.slice ao o.stack.length co)) 26)])) (fun z=>z.stack=o.stack) ?_ ?_
 ·by_cases h3:0<p3
  ·rw [decide_eq_true h3]
   repeat refine sq ?_;try intro
   refine cV c10 ?_
   repeat refine sq ?_;try intro
   refine o_makeG (32*m4) (0:UInt8) rfl rfl rfl rfl oM oM ⟨by omega,by omega,by omega⟩ rfl (fun _=>rfl) ?_
   intro vm
   repeat refine sq ?_;try intro
   refine cV c11 ?_
   repeat refine sq ?_;try intro
   exact G.kpE {o with code:=[u]++f.code,mem:=List.replicate (32*m4) 0,pc:=0,gas:=g9,input:=f.input,ret:=f.ret,out:=[],status:=0,errno:=0} rfl oY (by (repeat (first|exact lN|refine lC rfl ?_))) (by (repeat (first|exact List.Sublist.refl _|apply List.Sublist.cons_cons|apply List.Sublist.cons|exact List.nil_sublist _)))
  ·rw [decide_eq_false h3]
   repeat refine sq ?_;try intro
   exact G.kpE {o with code:=[u]++f.code} rfl oY (by (repeat (first|exact lN|refine lC rfl ?_))) (by (repeat (first|exact List.Sublist.refl _|apply List.Sublist.cons_cons|apply List.Sublist.cons|exact List.nil_sublist _)))
 intro z hz
 dsimp only
 repeat refine sq ?_;try intro
 refine o_slice (xs:=o.stack) 0 n20 rfl rfl rfl bd0 ⟨_,_,rfl,by rw [hn20];omega⟩ oM oM ?_
 intro vz
 generalize (o.stack.take n20).drop 0=sz
 refine G.slice vz sz ?_
 intro az cz ez kz
 subst ez
 repeat refine sq ?_;try intro
 refine o_lit (α:=Frm) (xs:=[{z with stack:=sz},o]) ⟨by decide,rfl,by decide⟩ rfl rfl rfl ⟨fun I hp=>Rp.frm (f:={z with stack:=sz}) ((oY:Ent' _ (fRp (.slice az sz.length cz) sz)).h I hp),fun I hp=>Rp.frm (f:=o) ((oY:Ent' _ (fRp (.slice ao o.stack.length co) o.stack)).h I hp),trivial⟩ rfl ?_
 intro vl
 generalize hgl:[{z with stack:=sz},o]=l
 have hl2:l.length=2:=by rw [← hgl];rfl
 clear hgl
 refine G.slice vl l ?_
 intro al cl el kl
 subst el
 repeat refine sq ?_;try intro
 refine W.lp (S:=Nat) (fun i=>([fRp (.slice al l.length cl) l,fRp (.slice none f.stack.length 0) f.stack,fKc],[(126,.int .i64 (i:Int)),(125,.int .i64 ((l.length:Nat):Int)),(124,.slice al l.length cl),(15,.pointer (some ⟨b15,0,none⟩)),(13,.bool true),(5,.int .i64 at_)],[(b15,Ob (frmC f (.slice none f.stack.length 0)) 26)])) (fun i=>i≤l.length) (fun i=>l.length-i) 0 ?_ (h0:=Nat.zero_le _) (hM:=by (repeat (first|exact List.Sublist.refl _|apply List.Sublist.cons_cons|apply List.Sublist.cons|exact List.nil_sublist _)))
 intro i hi
 dsimp only
 by_cases hil:i=l.length
 rotate_left
 ·have hix:i<l.length:=by omega
  generalize hx:l[i]'hix=y
  repeat refine sq ?_;try intro
  rw [hx]
  refine o_loadR rfl rfl rfl rfl ?_
  intro vy
  refine G.frm vy y ?_
  intro ay cy ey
  subst ey
  clear hx
  by_cases n0:1000<y.code.length
  ·repeat refine sq ?_;try intro
   exact G.ag (S:=Nat) (i+1) (hM:=by (repeat (first|exact List.Sublist.refl _|apply List.Sublist.cons_cons|apply List.Sublist.cons|exact List.nil_sublist _)))
  by_cases n1:1000<y.input.length
  ·repeat refine sq ?_;try intro
   exact G.ag (S:=Nat) (i+1) (hM:=by (repeat (first|exact List.Sublist.refl _|apply List.Sublist.cons_cons|apply List.Sublist.cons|exact List.nil_sublist _)))
  by_cases n2:1000<y.ret.length
  ·repeat refine sq ?_;try intro
   exact G.ag (S:=Nat) (i+1) (hM:=by (repeat (first|exact List.Sublist.refl _|apply List.Sublist.cons_cons|apply List.Sublist.cons|exact List.nil_sublist _)))
  by_cases n3:1000<y.out.length
  ·repeat refine sq ?_;try intro
   exact G.ag (S:=Nat) (i+1) (hM:=by (repeat (first|exact List.Sublist.refl _|apply List.Sublist.cons_cons|apply List.Sublist.cons|exact List.nil_sublist _)))
  by_cases n4:100<y.stack.length
  ·repeat refine sq ?_;try intro
   exact G.ag (S:=Nat) (i+1) (hM:=by (repeat (first|exact List.Sublist.refl _|apply List.Sublist.cons_cons|apply List.Sublist.cons|exact List.nil_sublist _)))
  have cT:=fun v=>fStep_all y v oM
  have cU:=fun v=>step17_spec y v oM
  have cA:=fun v=>fright_all y v
  have cB:=fun v=>right17_spec y v
  have hsm:=stepL_small y oM
  generalize stepL keccakL y=q at cT cU hsm
  obtain ⟨g2,e⟩:=q
  dsimp only at hsm
  have cS:=fun v u=>rsame_spec g2 v u oM
  generalize rightF y=ry at cA cB
  repeat refine sq ?_;try intro
  refine OpK.call rfl rfl rfl rfl (cT _) oY (Mr:=_) oP ?_
  rintro u Φ' Mc' ⟨a3,k3,rfl,rfl,rfl⟩
  refine nA ?_
  repeat refine sq ?_;try intro
  refine OpK.call rfl rfl rfl rfl (cU _) oY (Mr:=_) oP ?_
  rintro u Φ' Mc' ⟨a4,k4,rfl,rfl,rfl⟩
  refine nA ?_
  repeat refine sq ?_;try intro
  refine W.drawA 14 [dq _,dq _,dq _,dq _,dq _,dq _,dq _,dq _,dq _,dq _,dq _,dq _,dq _,dq _] [[],[0],[],[2],[1,3],[4],[5],[5],[5,6,7],[5,8],[5,9],[10],[11],[11]] [11,12,13] (hrest:=fun c=>nrm ?_) (hops:=by
   iterate 1 refine AllQ.aq ?_
   refine AllQ.mk (by intro c z0 Φr Lr K;refine nrm ?_;intro hK;refine cV (cA _) ?_;exact hK z0) ?_
   iterate 1 refine AllQ.aq ?_
   refine AllQ.mk (by intro c z0 Φr Lr K;refine nrm ?_;intro hK;refine cV (cB _) ?_;exact hK z0) ?_
   iterate 4 refine AllQ.aq ?_
   refine AllQ.mk (by intro c z0 Φr Lr K;refine nrm ?_;intro hK;refine cV (cS _ _) ?_;exact hK z0) ?_
   iterate 5 refine AllQ.aq ?_
   exact AllQ.nil)
  repeat refine sq ?_;try intro
  exact G.ag (S:=Nat) (i+1) (hM:=by (repeat (first|exact List.Sublist.refl _|apply List.Sublist.cons_cons|apply List.Sublist.cons|exact List.nil_sublist _)))
 subst hil
 repeat refine sq ?_;try intro
 rename_i b27
 refine W.lp (S:=TlSt) (fun s=>([fRp (.slice s.a s.g.stack.length s.c) s.g.stack,fRp (.slice none f.stack.length 0) f.stack,fKc],[(28,.int .i64 (s.i:Int)),(27,.pointer (some ⟨b27,0,none⟩)),(15,.pointer (some ⟨b15,0,none⟩)),(13,.bool true),(5,.int .i64 at_)],[(b27,Ob (frmC s.g (.slice s.a s.g.stack.length s.c)) 26),(b15,Ob (frmC f (.slice none f.stack.length 0)) 26)])) (fun s=>s.i≤60∧Rt s.g) (fun s=>60-s.i) ⟨0,f,none,0⟩ ?_ (h0:=⟨Nat.zero_le _,hRt⟩) (hM:=by (repeat (first|exact List.Sublist.refl _|apply List.Sublist.cons_cons|apply List.Sublist.cons|exact List.nil_sublist _)))
 rintro ⟨j,g,ag,cg⟩ ⟨hj,rg⟩
 dsimp only at hj rg ⊢
 have hgl:g.stack.length≤1024:=rg.2.2.2.2.2.2.2.2.1
 by_cases hje:j=60
 case' pos =>
  subst hje
  repeat refine sq ?_;try intro
 case' neg =>
  have cT:=fun v=>fStep_all g v oM
  have cU:=fun v=>step17_spec g v oM
  have hlaw:=stepL_law keccakL rg
  have hsm:=stepL_small g hgl
  generalize stepL keccakL g=q at cT cU hlaw hsm
  obtain ⟨g2,e⟩:=q
  dsimp only at hlaw hsm
  have cS:=fun v u=>rsame_spec g2 v u oM
  by_cases hz:e=0
  case' pos =>
   obtain ⟨_,rg2,_⟩:=hlaw hz
   repeat refine sq ?_;try intro
   refine OpK.call rfl rfl rfl rfl (cT _) oY (Mr:=_) oP ?_
   rintro u Φ' Mc' ⟨a3,k3,rfl,rfl,rfl⟩
   refine nA ?_
   repeat refine sq ?_;try intro
   refine OpK.call rfl rfl rfl rfl (cU _) oY (Mr:=_) oP ?_
   rintro u Φ' Mc' ⟨a4,k4,rfl,rfl,rfl⟩
   refine nA ?_
   repeat refine sq ?_;try intro
   refine cV (cS _ _) ?_
   repeat refine sq ?_;try intro
   exact G.ag (S:=TlSt) ⟨j+1,g2,a4,k4⟩ (hpre:=⟨by dsimp only;omega,rg2⟩) (hM:=by (repeat (first|exact List.Sublist.refl _|apply List.Sublist.cons_cons|apply List.Sublist.cons|exact List.nil_sublist _)))
  case' neg =>
   repeat refine sq ?_;try intro
   refine OpK.call rfl rfl rfl rfl (cT _) oY (Mr:=_) oP ?_
   rintro u Φ' Mc' ⟨a3,k3,rfl,rfl,rfl⟩
   refine nA ?_
   repeat refine sq ?_;try intro
   refine OpK.call rfl rfl rfl rfl (cU _) oY (Mr:=_) oP ?_
   rintro u Φ' Mc' ⟨a4,k4,rfl,rfl,rfl⟩
   refine nA ?_
   repeat refine sq ?_;try intro
   refine cV (cS _ _) ?_
   repeat refine sq ?_;try intro
 all_goals
  refine cV c12 ?_
  repeat refine sq ?_;try intro
  generalize hgm:[at_,q80]=ml
  have hm2:ml.length=2:=by rw [← hgm];rfl
  clear hgm
  rename_i vm
  refine W.bare (G.slice vm ml ?_)
  intro am cm em km
  subst em
  refine G.code ?_
  refine W.lp (S:=Nat) (fun i=>([fRp (.slice am ml.length cm) ml,fRp (.slice none f.stack.length 0) f.stack,fKc],[(217,.int .i64 (i:Int)),(216,.int .i64 ((ml.length:Nat):Int)),(215,.slice am ml.length cm),(15,.pointer (some ⟨b15,0,none⟩)),(13,.bool true)],[(b15,Ob (frmC f (.slice none f.stack.length 0)) 26)])) (fun i=>i≤ml.length) (fun i=>ml.length-i) 0 ?_ (h0:=Nat.zero_le _) (hM:=by (repeat (first|exact List.Sublist.refl _|apply List.Sublist.cons_cons|apply List.Sublist.cons|exact List.nil_sublist _)))
  intro i hi
  dsimp only
  by_cases hil:i=ml.length
  ·subst hil
   repeat refine sq ?_;try intro
   refine G.retV ?_
   rfl
  have hix:i<ml.length:=by omega
  by_cases hq:ml[i]<0
  ·have cR:=fun v=>fRun_neg f v ml[i] hq hRt
   have cU:=fun v=>run17_neg f v ml[i] hq hRt
   have cS:=fun v u=>rsame_spec f v u oM
   repeat ((fail_if_success (refine o_min rfl rfl rfl rfl rfl ?_));(fail_if_success (refine o_max rfl rfl rfl rfl rfl ?_));refine st ?_;try intro _)
   refine o_min rfl rfl rfl rfl (v := .int .i64 ml[i]) (by congr 1;split<;>omega) ?_
   repeat refine sq ?_;try intro
   refine OpK.call rfl rfl rfl rfl (cR _) oY (Mr:=_) oP ?_
   rintro u Φ' Mc' ⟨a5,k5,rfl,rfl,rfl⟩
   refine nA ?_
   repeat ((fail_if_success (refine o_min rfl rfl rfl rfl rfl ?_));(fail_if_success (refine o_max rfl rfl rfl rfl rfl ?_));refine st ?_;try intro _)
   refine o_min rfl rfl rfl rfl (v := .int .i64 ml[i]) (by congr 1;split<;>omega) ?_
   repeat refine sq ?_;try intro
   refine OpK.call rfl rfl rfl rfl (cU _) oY (Mr:=_) oP ?_
   rintro u Φ' Mc' ⟨a6,k6,rfl,rfl,rfl⟩
   refine nA ?_
   repeat refine sq ?_;try intro
   refine cV (cS _ _) ?_
   repeat refine sq ?_;try intro
   exact G.ag (S:=Nat) (i+1) (hM:=by (repeat (first|exact List.Sublist.refl _|apply List.Sublist.cons_cons|apply List.Sublist.cons|exact List.nil_sublist _)))
  ·obtain ⟨mn,hmn⟩ : ∃ mn:Nat,(mn:Int)=min ml[i] 300:=⟨(min ml[i] 300).toNat,by omega⟩
   have cR:=fun v=>fRun_spec f v mn oM hRt
   have cU:=fun v=>run17_spec f v mn oM hRt
   obtain ⟨rE,-⟩:=runL_law keccakL mn f hRt
   generalize runL keccakL mn f=q at cR cU rE
   obtain ⟨E,en⟩:=q
   have hE:E.stack.length≤1024:=rE.2.2.2.2.2.2.2.2.1
   have cS:=fun v u=>rsame_spec E v u oM
   clear rE
   repeat ((fail_if_success (refine o_min rfl rfl rfl rfl rfl ?_));(fail_if_success (refine o_max rfl rfl rfl rfl rfl ?_));refine st ?_;try intro _)
   refine o_min rfl rfl rfl rfl (v := .int .i64 (mn:Int)) (by rw [hmn];congr 1;split<;>omega) ?_
   repeat refine sq ?_;try intro
   refine OpK.call rfl rfl rfl rfl (cR _) oY (Mr:=_) oP ?_
   rintro u Φ' Mc' ⟨a5,k5,rfl,rfl,rfl⟩
   refine nA ?_
   repeat ((fail_if_success (refine o_min rfl rfl rfl rfl rfl ?_));(fail_if_success (refine o_max rfl rfl rfl rfl rfl ?_));refine st ?_;try intro _)
   refine o_min rfl rfl rfl rfl (v := .int .i64 (mn:Int)) (by rw [hmn];congr 1;split<;>omega) ?_
   repeat refine sq ?_;try intro
   refine OpK.call rfl rfl rfl rfl (cU _) oY (Mr:=_) oP ?_
   rintro u Φ' Mc' ⟨a6,k6,rfl,rfl,rfl⟩
   refine nA ?_
   repeat refine sq ?_;try intro
   refine cV (cS _ _) ?_
   repeat refine sq ?_;try intro
   exact G.ag (S:=Nat) (i+1) (hM:=by (repeat (first|exact List.Sublist.refl _|apply List.Sublist.cons_cons|apply List.Sublist.cons|exact List.nil_sublist _)))
end Go.Rail
