/- What find tells is what opcodes are told to do. -/
import Derived.Test.YtjhdodkagchhkaaGreatDoorRailA
import Derived.Test.YtjhdodkagchhkaaGreatDoorAFKFM
set_option linter.unusedSimpArgs false
set_option linter.unusedVariables false
namespace Go.Rail
open Go Go.Proofs Tryz
set_option maxHeartbeats 400000
set_option maxRecDepth 4000
attribute [local irreducible] OpK G W LW wpListIn Exit.then Exit.inBlock Post rounds opRun bodyPostM intOp
set_option maxHeartbeats 1000000
theorem lay_own {E:Ent} {I:Imm} {w:World} {B:Nat} {ob:Obj} {e:TypeId} {o:OR} {v:Value} {xs:List Word} (hv:IsOwn (GoTy.sz Word) v xs.length o) (hrow:RowRep I (ocells o) 0 xs) (hw:Wd E I ((B,ob)::ownM e o) w) :
  ∃ I1,Le I I1∧(fRp v xs).p I1∧Wd E I1 [(B,ob)] w:=by
 have hw':=hw.perm (M':=ownM e o++[(B,ob)]) (oH (l₁:=[(B,ob)]))
 cases o with
 | none =>
  obtain ⟨rfl,hx0⟩:=hv
  have hxs:xs=[]:=List.length_eq_zero_iff.1 hx0
  subst hxs
  exact ⟨I,Le.refl _,Rp.nil none 0,hw'⟩
 | some q =>
  obtain ⟨b,cs⟩:=q
  obtain ⟨cap,rfl,hcs,hle⟩:=hv
  have hw2:Wd E I ((b,Ob cs e)::[(B,ob)]) w:=hw'
  have hn:I b=none:=hw2.sep (b,Ob cs e) oI
  refine ⟨_,Le.give hn,?_,hw2.give⟩
  refine Rp.mkSlice ⟨hle,fun _=>⟨⟨b,0,none⟩,cs.toArray,e,(0,0),rfl,rfl,?_,?_⟩⟩ rfl
  ·simp [Ob]
  ·have hr:RowRep I cs 0 xs:=hrow
   exact (by simpa using hr:RowRep I cs.toArray.toList 0 xs).mono (Le.give hn)
theorem doOf_lay {op:Nat} {fd:FuncId} {cd:List Value} {Φx:List Fa}
  (h : ∀ (B:Nat) (f:Frm) (a:Option Addr) (c:Nat) (av:Value) (l:List Word),Paid f op→l.length=popsN op→Fn prog fd ([.pointer (some ⟨B,0,none⟩)]++cd) (fRp (.slice a f.stack.length c) f.stack::fRp av l::fKc::Φx) [(B,Ob (runC f (.slice a f.stack.length c) av 0) 188)] (RDo B av (doF keccakL op f l))):DoOK op fd cd Φx:=by
 intro B f sv av l o hp hl _ ho
 obtain ⟨a,c,rfl⟩:=own_open ho
 have h2:=(h B f a c av l hp hl).lay (ψ:=[]) (Φ:=fRow (ocells o) f.stack::fRp av l::fKc::Φx) (M:=(B,Ob (runC f (.slice a f.stack.length c) av 0) 188)::ownM 24 o) (by
  intro I w hφ hw
  obtain ⟨I1,i1,i2,i3⟩:=lay_own ho (hφ _ (.head _)) hw
  refine ⟨I1,fun φ hm => ?_,fun φ hm=>(List.not_mem_nil hm).elim,i3⟩
  rcases List.mem_cons.1 hm with rfl|hm
  ·exact i2
  ·exact φ.mono _ _ i1 (hφ φ (.tail _ hm)))
 intro I w hφ hw
 refine (h2 I w hφ hw).mono ?_
 rintro e w' ⟨v,Φ2,M2,I2,rfl,⟨Φ3,hR,rfl⟩,hf,hwd⟩
 rw [List.append_nil] at hf
 exact ⟨v,Φ3,M2,I2,rfl,hR,hf,hwd⟩
theorem doOf_keep {op:Nat} {fd:FuncId} {cd:List Value} {Φx:List Fa} (hst : ∀ (f:Frm) (l:List Word),(doF keccakL op f l).1.stack=f.stack)
  (h : ∀ (B:Nat) (f:Frm) (sv av:Value) (l:List Word),Paid f op→l.length=popsN op→Fn prog fd ([.pointer (some ⟨B,0,none⟩)]++cd) (fRp av l::Φx) [(B,Ob (runC f sv av 0) 188)] (RJmp B sv av (doF keccakL op f l))):DoOK op fd cd Φx:=by
 refine doOf_lay fun B f a c av l hp hl => ?_
 have h2:=(h B f (.slice a f.stack.length c) av l hp hl).lay (ψ:=[fRp (.slice a f.stack.length c) f.stack]) (Φ:=fRp (.slice a f.stack.length c) f.stack::fRp av l::fKc::Φx) (M:=[(B,Ob (runC f (.slice a f.stack.length c) av 0) 188)]) (by
  intro I w hφ hw
  refine ⟨I,fun φ hm => ?_,fun φ hm => ?_,hw⟩
  ·rcases List.mem_cons.1 hm with rfl|hm
   ·exact hφ _ (.tail _ (.head _))
   ·exact hφ _ (.tail _ (.tail _ (.tail _ hm)))
  ·rcases List.mem_cons.1 hm with rfl|hm
   ·exact hφ _ (.head _)
   ·exact (List.not_mem_nil hm).elim)
 intro I w hφ hw
 refine (h2 I w hφ hw).mono ?_
 rintro e w' ⟨v,Φ2,M2,I2,rfl,⟨Φ3,⟨rfl,rfl,rfl⟩,rfl⟩,hf,hwd⟩
 have hs:=hst f l
 generalize doF keccakL op f l=p at hs hwd ⊢
 rw [← hs] at hf hwd
 exact ⟨_,_,_,I2,rfl,⟨a,c,rfl,rfl,rfl⟩,hf,hwd⟩
theorem doOf_push {op:Nat} {fd:FuncId} {cd:List Value} {Φx:List Fa}
  (h : ∀ (B:Nat) (f:Frm) (sv av:Value) (l:List Word) (o:OR),Paid f op→l.length=popsN op→IsOwn (GoTy.sz Word) sv f.stack.length o→Fn prog fd ([.pointer (some ⟨B,0,none⟩)]++cd) (fRow (ocells o) f.stack::fRp av l::fKc::Φx) ((B,Ob (runC f sv av 0) 188)::ownM 24 o) (RDo B av (doF keccakL op f l))):DoOK op fd cd Φx :=
 fun B f sv av l o hp hl _ ho=>h B f sv av l o hp hl ho
theorem pops32:popsN 32=2:=by kernel_rfl
theorem do32 (Φx:List Fa):DoOK 32 177 [] Φx:=by
 refine doOf_push fun B f sv av l o hp hl ho => ?_
 rw [pops32] at hl
 have h:=rhash_spec B f sv av 0 o l (by have:=hp.stack;omega) ho hp.mem1 hp.mem2 oM
 have e:doF keccakL 32 f l=(stkF f (f.stack++[wordB (keccakL (pieceF f.mem (l.getD 0 .zero) (numF (l.getD 1 .zero))))]),0):=rfl
 rw [e,getD_at l 0 oM,getD_at l 1 oM]
 exact h.weaken
theorem pops0:popsN 0=0:=by kernel_rfl
theorem pops53:popsN 53=1:=by kernel_rfl
theorem pops54:popsN 54=0:=by kernel_rfl
theorem pops55:popsN 55=3:=by kernel_rfl
theorem pops56:popsN 56=0:=by kernel_rfl
theorem pops57:popsN 57=3:=by kernel_rfl
theorem pops61:popsN 61=0:=by kernel_rfl
theorem pops62:popsN 62=3:=by kernel_rfl
theorem pops81:popsN 81=1:=by kernel_rfl
theorem pops82:popsN 82=2:=by kernel_rfl
theorem pops83:popsN 83=2:=by kernel_rfl
theorem pops86:popsN 86=1:=by kernel_rfl
theorem pops87:popsN 87=2:=by kernel_rfl
theorem pops88:popsN 88=0:=by kernel_rfl
theorem pops89:popsN 89=0:=by kernel_rfl
theorem pops90:popsN 90=0:=by kernel_rfl
theorem pops91:popsN 91=0:=by kernel_rfl
theorem pops243:popsN 243=2:=by kernel_rfl
theorem pops253:popsN 253=2:=by kernel_rfl
theorem do0 (Φx:List Fa):DoOK 0 176 [] Φx:=by
 refine doOf_keep (fun f l=>rfl) fun B f sv av l hp hl => ?_
 rw [pops0] at hl
 have hs:=hp.stack;have hc:=hp.code;have hi:=hp.input;have hr:=hp.ret;have hm1:=hp.mem1;have hm2:=hp.mem2;have hp1:=hp.pc1;have hp2:=hp.pc2;have hg1:=hp.gas1;have hg2:=hp.gas2
 exact (rstop_spec B f sv av 0 oM oM).weaken
theorem do53 (Φx:List Fa):DoOK 53 181 [] Φx:=by
 refine doOf_push fun B f sv av l o hp hl ho => ?_
 rw [pops53] at hl
 have hs:=hp.stack;have hc:=hp.code;have hi:=hp.input;have hr:=hp.ret;have hm1:=hp.mem1;have hm2:=hp.mem2;have hp1:=hp.pc1;have hp2:=hp.pc2;have hg1:=hp.gas1;have hg2:=hp.gas2
 have e:doF keccakL 53 f l=(stkF f (f.stack++[wordB (partF f.input (l.getD 0 .zero) 32)]),0):=rfl
 rw [e,getD_at l 0 oM]
 exact (rload_spec B f sv av 0 o l oM ho oM oM).weaken
theorem do54 (Φx:List Fa):DoOK 54 182 [] Φx:=by
 refine doOf_push fun B f sv av l o hp hl ho => ?_
 rw [pops54] at hl
 have hs:=hp.stack;have hc:=hp.code;have hi:=hp.input;have hr:=hp.ret;have hm1:=hp.mem1;have hm2:=hp.mem2;have hp1:=hp.pc1;have hp2:=hp.pc2;have hg1:=hp.gas1;have hg2:=hp.gas2
 have e:doF keccakL 54 f l=(stkF f (f.stack++[.nat f.input.length]),0):=rfl
 rw [e]
 exact (ract1_spec B f sv av 0 o oM ho oM).weaken
theorem do55 (Φx:List Fa):DoOK 55 183 [] Φx:=by
 refine doOf_keep (fun f l=>rfl) fun B f sv av l hp hl => ?_
 rw [pops55] at hl
 have hs:=hp.stack;have hc:=hp.code;have hi:=hp.input;have hr:=hp.ret;have hm1:=hp.mem1;have hm2:=hp.mem2;have hp1:=hp.pc1;have hp2:=hp.pc2;have hg1:=hp.gas1;have hg2:=hp.gas2
 exact (ract2_spec B f sv av 0 l hm1 hm2 oM oM).weaken
theorem do56 (Φx:List Fa):DoOK 56 186 [] Φx:=by
 refine doOf_push fun B f sv av l o hp hl ho => ?_
 rw [pops56] at hl
 have hs:=hp.stack;have hc:=hp.code;have hi:=hp.input;have hr:=hp.ret;have hm1:=hp.mem1;have hm2:=hp.mem2;have hp1:=hp.pc1;have hp2:=hp.pc2;have hg1:=hp.gas1;have hg2:=hp.gas2
 have e:doF keccakL 56 f l=(stkF f (f.stack++[.nat f.code.length]),0):=rfl
 rw [e]
 exact (ract3_spec B f sv av 0 o oM ho oM).weaken
theorem do57 (Φx:List Fa):DoOK 57 187 [] Φx:=by
 refine doOf_keep (fun f l=>rfl) fun B f sv av l hp hl => ?_
 rw [pops57] at hl
 have hs:=hp.stack;have hc:=hp.code;have hi:=hp.input;have hr:=hp.ret;have hm1:=hp.mem1;have hm2:=hp.mem2;have hp1:=hp.pc1;have hp2:=hp.pc2;have hg1:=hp.gas1;have hg2:=hp.gas2
 exact (ract4_spec B f sv av 0 l hm1 hm2 oM oM).weaken
theorem do61 (Φx:List Fa):DoOK 61 188 [] Φx:=by
 refine doOf_push fun B f sv av l o hp hl ho => ?_
 rw [pops61] at hl
 have hs:=hp.stack;have hc:=hp.code;have hi:=hp.input;have hr:=hp.ret;have hm1:=hp.mem1;have hm2:=hp.mem2;have hp1:=hp.pc1;have hp2:=hp.pc2;have hg1:=hp.gas1;have hg2:=hp.gas2
 have e:doF keccakL 61 f l=(stkF f (f.stack++[.nat f.ret.length]),0):=rfl
 rw [e]
 exact (ract5_spec B f sv av 0 o oM ho oM).weaken
theorem do81 (Φx:List Fa):DoOK 81 190 [] Φx:=by
 refine doOf_push fun B f sv av l o hp hl ho => ?_
 rw [pops81] at hl
 have hs:=hp.stack;have hc:=hp.code;have hi:=hp.input;have hr:=hp.ret;have hm1:=hp.mem1;have hm2:=hp.mem2;have hp1:=hp.pc1;have hp2:=hp.pc2;have hg1:=hp.gas1;have hg2:=hp.gas2
 have e:doF keccakL 81 f l=(stkF f (f.stack++[wordB (pieceF f.mem (l.getD 0 .zero) 32)]),0):=rfl
 rw [e,getD_at l 0 oM]
 exact (ract6_spec B f sv av 0 o l oM ho hm1 hm2 oM).weaken
theorem do82 (Φx:List Fa):DoOK 82 193 [] Φx:=by
 refine doOf_keep (fun f l=>rfl) fun B f sv av l hp hl => ?_
 rw [pops82] at hl
 have hs:=hp.stack;have hc:=hp.code;have hi:=hp.input;have hr:=hp.ret;have hm1:=hp.mem1;have hm2:=hp.mem2;have hp1:=hp.pc1;have hp2:=hp.pc2;have hg1:=hp.gas1;have hg2:=hp.gas2
 exact (ract7_spec B f sv av 0 l hm1 hm2 oM).weaken
theorem do83 (Φx:List Fa):DoOK 83 195 [] Φx:=by
 refine doOf_keep (fun f l=>rfl) fun B f sv av l hp hl => ?_
 rw [pops83] at hl
 have hs:=hp.stack;have hc:=hp.code;have hi:=hp.input;have hr:=hp.ret;have hm1:=hp.mem1;have hm2:=hp.mem2;have hp1:=hp.pc1;have hp2:=hp.pc2;have hg1:=hp.gas1;have hg2:=hp.gas2
 exact (ract8_spec B f sv av 0 l hm1 hm2 oM).weaken
theorem do88 (Φx:List Fa):DoOK 88 198 [] Φx:=by
 refine doOf_push fun B f sv av l o hp hl ho => ?_
 rw [pops88] at hl
 have hs:=hp.stack;have hc:=hp.code;have hi:=hp.input;have hr:=hp.ret;have hm1:=hp.mem1;have hm2:=hp.mem2;have hp1:=hp.pc1;have hp2:=hp.pc2;have hg1:=hp.gas1;have hg2:=hp.gas2
 have e:doF keccakL 88 f l=(stkF f (f.stack++[.nat (f.pc-1).toNat]),0):=rfl
 rw [e]
 exact (ract9_spec B f sv av 0 o oM ho hp1 oM).weaken
theorem do89 (Φx:List Fa):DoOK 89 199 [] Φx:=by
 refine doOf_push fun B f sv av l o hp hl ho => ?_
 rw [pops89] at hl
 have hs:=hp.stack;have hc:=hp.code;have hi:=hp.input;have hr:=hp.ret;have hm1:=hp.mem1;have hm2:=hp.mem2;have hp1:=hp.pc1;have hp2:=hp.pc2;have hg1:=hp.gas1;have hg2:=hp.gas2
 have e:doF keccakL 89 f l=(stkF f (f.stack++[.nat f.mem.length]),0):=rfl
 rw [e]
 exact (ract10_spec B f sv av 0 o oM ho oM).weaken
theorem do90 (Φx:List Fa):DoOK 90 200 [] Φx:=by
 refine doOf_push fun B f sv av l o hp hl ho => ?_
 rw [pops90] at hl
 have hs:=hp.stack;have hc:=hp.code;have hi:=hp.input;have hr:=hp.ret;have hm1:=hp.mem1;have hm2:=hp.mem2;have hp1:=hp.pc1;have hp2:=hp.pc2;have hg1:=hp.gas1;have hg2:=hp.gas2
 have e:doF keccakL 90 f l=(stkF f (f.stack++[.nat f.gas.toNat]),0):=rfl
 rw [e]
 exact (ract11_spec B f sv av 0 o oM ho hg1 oM).weaken
theorem do91 (Φx:List Fa):DoOK 91 201 [] Φx:=by
 refine doOf_keep (fun f l=>rfl) fun B f sv av l hp hl => ?_
 rw [pops91] at hl
 have hs:=hp.stack;have hc:=hp.code;have hi:=hp.input;have hr:=hp.ret;have hm1:=hp.mem1;have hm2:=hp.mem2;have hp1:=hp.pc1;have hp2:=hp.pc2;have hg1:=hp.gas1;have hg2:=hp.gas2
 exact (ract12_spec B f sv av 0).weaken
theorem do243 (Φx:List Fa):DoOK 243 202 [] Φx:=by
 refine doOf_keep (fun f l=>rfl) fun B f sv av l hp hl => ?_
 rw [pops243] at hl
 have hs:=hp.stack;have hc:=hp.code;have hi:=hp.input;have hr:=hp.ret;have hm1:=hp.mem1;have hm2:=hp.mem2;have hp1:=hp.pc1;have hp2:=hp.pc2;have hg1:=hp.gas1;have hg2:=hp.gas2
 exact (ract13_spec B f sv av l hm1 hm2 oM oM oM).weaken
theorem do253 (Φx:List Fa):DoOK 253 204 [] Φx:=by
 refine doOf_keep (fun f l=>rfl) fun B f sv av l hp hl => ?_
 rw [pops253] at hl
 have hs:=hp.stack;have hc:=hp.code;have hi:=hp.input;have hr:=hp.ret;have hm1:=hp.mem1;have hm2:=hp.mem2;have hp1:=hp.pc1;have hp2:=hp.pc2;have hg1:=hp.gas1;have hg2:=hp.gas2
 exact (ract14_spec B f sv av l hm1 hm2 oM oM oM).weaken
theorem jumpF_stack (f:Frm) (to:Nat):(jumpF f to).1.stack=f.stack:=by unfold jumpF;split<;>rfl
theorem do86_eq (f:Frm) (l:List Word):doF keccakL 86 f l=jumpF f (numF (l.getD 0 .zero)):=rfl
theorem do87_eq (f:Frm) (l:List Word):doF keccakL 87 f l=if l.getD 1 .zero = .zero then (f,0) else jumpF f (numF (l.getD 0 .zero)):=rfl
theorem do62_eq (f:Frm) (l:List Word):doF keccakL 62 f l=if f.ret.length<numF (l.getD 1 .zero)+numF (l.getD 2 .zero) then (f,45) else copyF f f.ret l:=rfl
theorem do86 (Φx:List Fa):DoOK 86 196 [] Φx:=by
 refine doOf_keep (fun f l=>by rw [do86_eq];exact jumpF_stack _ _) fun B f sv av l hp hl => ?_
 rw [pops86] at hl
 have hs:=hp.stack;have hc:=hp.code;have hi:=hp.input;have hr:=hp.ret;have hm1:=hp.mem1;have hm2:=hp.mem2;have hp1:=hp.pc1;have hp2:=hp.pc2;have hg1:=hp.gas1;have hg2:=hp.gas2
 exact (rjump_spec B f sv av l oM oM).weaken
theorem do87 (Φx:List Fa):DoOK 87 197 [] Φx:=by
 refine doOf_keep (fun f l=>by rw [do87_eq];split;rfl;exact jumpF_stack _ _) fun B f sv av l hp hl => ?_
 rw [pops87] at hl
 have hs:=hp.stack;have hc:=hp.code;have hi:=hp.input;have hr:=hp.ret;have hm1:=hp.mem1;have hm2:=hp.mem2;have hp1:=hp.pc1;have hp2:=hp.pc2;have hg1:=hp.gas1;have hg2:=hp.gas2
 exact (rjumpIf_spec B f sv av l oM oM).weaken
theorem do62 (Φx:List Fa):DoOK 62 189 [] Φx:=by
 refine doOf_keep (fun f l=>by rw [do62_eq];split<;>rfl) fun B f sv av l hp hl => ?_
 rw [pops62] at hl
 have hm1:=hp.mem1;have hm2:=hp.mem2;have hr:=hp.ret
 intro I w hφ hw
 refine (rtold_spec B f sv av l hm1 hm2 hr oM I w (fun φ hm=>hφ φ (by rcases List.mem_cons.1 hm with rfl|hm;exact .head _;exact (List.not_mem_nil hm).elim)) hw).mono ?_
 rintro e w' ⟨v,Φ2,M2,I2,rfl,⟨rfl,rfl,p,rfl,rfl⟩,hf,hwd⟩
 exact ⟨_,_,_,I2,rfl,⟨rfl,rfl,rfl⟩,hf,hwd⟩
end Go.Rail
namespace Go.Rail
open Go Go.Proofs
set_option maxHeartbeats 400000
set_option maxRecDepth 4000
attribute [local irreducible] OpK G W LW wpListIn Exit.then Exit.inBlock Post rounds opRun bodyPostM intOp
set_option maxHeartbeats 1000000
theorem doC_ok (op:Nat) (hop:op<256) (hc:isC op=true) (b1:Nat):DoOK op 95 [.pointer (some ⟨b1,0,none⟩)] [fBlk b1 [.int .u8 (op:Int)] 5]:=by
 refine doOf_lay fun B f a c av l hp hl => ?_
 have hs:=hp.stack
 have e:doF keccakL op f l=(stkF f (doC op f.stack).1,0):=by unfold doF;rw [if_pos hc]
 rw [e]
 exact (find1_spec B b1 f a c av 0 op hop oM).weaken
theorem isC_push {op:Nat} (h1:95≤op) (h2:op≤127):isC op=false:=(chkU_at h1 h2).1
theorem doP_ok (op:Nat) (h1:95≤op) (h2:op≤127) (b1:Nat):DoOK op 98 [.pointer (some ⟨b1,0,none⟩)] [fBlk b1 [.int .i64 ((op-95:Nat):Int)] 3]:=by
 refine doOf_push fun B f sv av l o hp hl ho => ?_
 have hs:=hp.stack;have hc:=hp.code;have hp1:=hp.pc1;have hp2:=hp.pc2
 have e:doF keccakL op f l=(pcF f (f.stack++[opushL f.code (f.pc-1) ((op-95:Nat):Int)]) (f.pc+((op-95:Nat):Int)),0):=by
  unfold doF
  rw [if_neg (by rw [isC_push h1 h2];decide),if_pos ⟨h1,h2⟩]
 rw [e]
 exact (find3_spec B b1 f sv av 0 (op-95) o oM ho oM oM oM oM).weaken
def chkN (n:Nat):Bool := !(isC n||decide (95≤n∧n≤127))||(decide (n≠32)&&decide (n≠55)&&decide (n≠57)&&decide (n≠62)&&decide (n≠81)&&decide (n≠82)&&decide (n≠83)&&decide (n≠243)&&decide (n≠253)&&(!isC 10||decide (popsN 10=2)))
theorem chkN_all:((List.range 256).all chkN)=true:=by kernel_rfl
theorem span_nil {op:Nat} (hop:op<256) (h:isC op=true∨(95≤op∧op≤127)) (l:List Word):spanF op l=[]∧(op≠10→moreF op l=0):=by
 have hk:=List.all_eq_true.1 chkN_all op (List.mem_range.2 hop)
 unfold chkN at hk
 have hb:(isC op||decide (95≤op∧op≤127))=true:=by
  rcases h with h|h
  ·rw [h];rfl
  ·rw [decide_eq_true h,Bool.or_true]
 rw [hb] at hk
 simp only [Bool.not_true,Bool.false_or,Bool.and_eq_true,decide_eq_true_eq] at hk
 obtain ⟨⟨⟨⟨⟨⟨⟨⟨⟨a1,a2⟩,a3⟩,a4⟩,a5⟩,a6⟩,a7⟩,a8⟩,a9⟩,_⟩:=hk
 unfold spanF moreF
 rw [if_neg oM,if_neg oM,if_neg oM,if_neg oM]
 exact ⟨rfl,fun h10=>by rw [if_neg h10,if_neg a1,if_neg oM]⟩
theorem pops10:popsN 10=2:=by kernel_rfl
theorem more10 (Φx:List Fa):MoreOK 10 (.func (.func 96) #[] #[]) Φx :=
 .inr ⟨96,[],rfl,oY,fun av l hl=>by
  rw [pops10] at hl
  have h:=find2_spec av l oM
  rw [show moreF 10 l=50*(trimF (byN (l.getD 1 .zero).num)).length from rfl,getD_at l 1 oM]
  exact h.weaken⟩
theorem more_nil {op:Nat} {Φx:List Fa} (h : ∀ l,moreF op l=0):MoreOK op .nilFunc Φx := .inl ⟨rfl,h⟩
theorem reach_nil {op:Nat} {Φx:List Fa} (h : ∀ l,spanF op l=[]):ReachOK op .nilFunc Φx := .inl ⟨rfl,h⟩
theorem Ents.mem {Φ Ψ:List Fa} (h : ∀ φ∈Ψ,φ∈Φ):Ents Φ Ψ:=⟨fun I hp φ hφ=>hp φ (h φ hφ)⟩
theorem more_hash {Φx:List Fa} (b1 b2:Nat) (h1:fBlk b1 [.func (.func 179) #[] #[]] 237∈Φx) (h2:fBlk b2 [.int .i64 1] 3∈Φx):MoreOK 32 (.func (.func 269) #[] #[.pointer (some ⟨b1,0,none⟩),.pointer (some ⟨b2,0,none⟩)]) Φx :=
 .inr ⟨269,[.pointer (some ⟨b1,0,none⟩),.pointer (some ⟨b2,0,none⟩)],rfl,oY,fun av l hl=>by
  rw [pops32] at hl
  have h:=of1_hash b1 b2 1 av l oM oM
  rw [show moreF 32 l=6*wordsF (numF (l.getD 1 .zero)) from rfl,getD_at l 1 oM]
  exact h.weaken (e := .mem fun φ hφ=>by
   rcases List.mem_cons.1 hφ with rfl|hφ
   ·exact .head _
   ·rcases List.mem_cons.1 hφ with rfl|hφ
    ·exact .tail _ h1
    ·rcases List.mem_cons.1 hφ with rfl|hφ
     ·exact .tail _ h2
     ·exact (List.not_mem_nil hφ).elim)⟩
theorem more_copy {Φx:List Fa} {op:Nat} (b1 b2:Nat) (hop:popsN op=3) (hm : ∀ l,moreF op l=3*wordsF (numF (l.getD 2 .zero))) (h1:fBlk b1 [.func (.func 185) #[] #[]] 237∈Φx) (h2:fBlk b2 [.int .i64 2] 3∈Φx):MoreOK op (.func (.func 269) #[] #[.pointer (some ⟨b1,0,none⟩),.pointer (some ⟨b2,0,none⟩)]) Φx :=
 .inr ⟨269,[.pointer (some ⟨b1,0,none⟩),.pointer (some ⟨b2,0,none⟩)],rfl,oY,fun av l hl=>by
  rw [hop] at hl
  have h:=of1_copy b1 b2 2 av l oM oM
  rw [hm,getD_at l 2 oM]
  exact h.weaken (e := .mem fun φ hφ=>by
   rcases List.mem_cons.1 hφ with rfl|hφ
   ·exact .head _
   ·rcases List.mem_cons.1 hφ with rfl|hφ
    ·exact .tail _ h1
    ·rcases List.mem_cons.1 hφ with rfl|hφ
     ·exact .tail _ h2
     ·exact (List.not_mem_nil hφ).elim)⟩
theorem reach_piece {Φx:List Fa} {op:Nat} (b1 b2 i j k:Nat) (hop:popsN op=k) (hk:k≤1000) (hi:i<k) (hj:j<k) (hm : ∀ l,spanF op l=[(l.getD i .zero,l.getD j .zero)]) (h1:fBlk b1 [.int .i64 (i:Int)] 3∈Φx) (h2:fBlk b2 [.int .i64 (j:Int)] 3∈Φx):ReachOK op (.func (.func 271) #[] #[.pointer (some ⟨b1,0,none⟩),.pointer (some ⟨b2,0,none⟩)]) Φx :=
 .inr ⟨271,[.pointer (some ⟨b1,0,none⟩),.pointer (some ⟨b2,0,none⟩)],rfl,oY,fun av l hl=>by
  rw [hop] at hl
  have h:=piece1_spec b1 b2 i j av l oM oM oM
  refine ⟨.mk (l[i]'(by omega)) (l[j]'(by omega)),by rw [hm,getD_at l i oM,getD_at l j oM],?_⟩
  exact h.weaken (e := .mem fun φ hφ=>by
   rcases List.mem_cons.1 hφ with rfl|hφ
   ·exact .head _
   ·rcases List.mem_cons.1 hφ with rfl|hφ
    ·exact .tail _ h1
    ·rcases List.mem_cons.1 hφ with rfl|hφ
     ·exact .tail _ h2
     ·exact (List.not_mem_nil hφ).elim)⟩
theorem reach_fixed {Φx:List Fa} {op:Nat} (b1 n k:Nat) (hop:popsN op=k) (hk:0<k) (hn:n≤1000) (hm : ∀ l,spanF op l=[(l.getD 0 .zero,.nat n)]) (h1:fBlk b1 [.int .i64 (n:Int)] 3∈Φx):ReachOK op (.func (.func 274) #[] #[.pointer (some ⟨b1,0,none⟩)]) Φx :=
 .inr ⟨274,[.pointer (some ⟨b1,0,none⟩)],rfl,oY,fun av l hl=>by
  rw [hop] at hl
  have h:=fixed1_spec b1 n av l oM hn
  refine ⟨.mk (l[0]'(by omega)) (.nat n),by rw [hm,getD_at l 0 oM],?_⟩
  exact h.weaken (e := .mem fun φ hφ=>by
   rcases List.mem_cons.1 hφ with rfl|hφ
   ·exact .head _
   ·rcases List.mem_cons.1 hφ with rfl|hφ
    ·exact .tail _ h1
    ·exact (List.not_mem_nil hφ).elim)⟩
end Go.Rail
