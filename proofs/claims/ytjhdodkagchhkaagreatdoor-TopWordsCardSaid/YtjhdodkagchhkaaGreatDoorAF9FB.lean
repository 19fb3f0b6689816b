/- What opcodes do: those that push a number; copies; ends. -/
import Derived.Test.YtjhdodkagchhkaaGreatDoorRailA
import Derived.Test.YtjhdodkagchhkaaGreatDoorRailI
import Derived.Test.YtjhdodkagchhkaaGreatDoorAK4F8
import Derived.Test.YtjhdodkagchhkaaGreatDoorAC9
set_option linter.unusedSimpArgs false
set_option linter.unusedVariables false
namespace Go.Rail
open Go Go.Proofs Tryz
set_option maxHeartbeats 400000
set_option maxRecDepth 4000
attribute [local irreducible] OpK G W LW wpListIn Exit.then Exit.inBlock Post rounds opRun bodyPostM intOp
set_option maxHeartbeats 1000000
abbrev stkF (f:Frm) (s:List Word):Frm:={f with stack:=s}
theorem ract1_spec (B:Nat) (f:Frm) (sv av:Value) (wrong:Int) (o:OR) (hs:f.stack.length≤1000000) (ho:IsOwn (GoTy.sz Word) sv f.stack.length o) (hx:f.input.length≤1000000000) :
  Fn prog 182 [.pointer (some ⟨B,0,none⟩)] [fRow (ocells o) f.stack] ((B,Ob (runC f sv av wrong) 188)::ownM 24 o) (RRun B (stkF f (f.stack++[.nat f.input.length])) av wrong):=by
 have hof:=wof_spec f.input.length oM
 refine Fn.enter func182 rfl ntmps182 oI (fun I0 w0 => ?_)
 repeat refine sq ?_;try intro
 refine cV hof ?_
 repeat refine sq ?_;try intro
 refine OpK.call rfl rfl rfl rfl (rpush_spec B f sv av wrong o (.nat f.input.length) hs ho) oY (Mr:=[]) (by rw [List.append_nil]) ?_
 rintro u Φ' Mc' ⟨a,c,rfl,rfl,rfl⟩
 refine nB ?_
 repeat refine sq ?_;try intro
 exact G.fin rfl .nil (Φ':=[fRp (.slice a _ c) _]) (M':=[_]) oY oZ ⟨a,c,rfl,rfl,rfl⟩

theorem ract3_spec (B:Nat) (f:Frm) (sv av:Value) (wrong:Int) (o:OR) (hs:f.stack.length≤1000000) (ho:IsOwn (GoTy.sz Word) sv f.stack.length o) (hx:f.code.length≤1000000000) :
  Fn prog 186 [.pointer (some ⟨B,0,none⟩)] [fRow (ocells o) f.stack] ((B,Ob (runC f sv av wrong) 188)::ownM 24 o) (RRun B (stkF f (f.stack++[.nat f.code.length])) av wrong):=by
 have hof:=wof_spec f.code.length oM
 refine Fn.enter func186 rfl ntmps186 oI (fun I0 w0 => ?_)
 repeat refine sq ?_;try intro
 refine cV hof ?_
 repeat refine sq ?_;try intro
 refine OpK.call rfl rfl rfl rfl (rpush_spec B f sv av wrong o (.nat f.code.length) hs ho) oY (Mr:=[]) (by rw [List.append_nil]) ?_
 rintro u Φ' Mc' ⟨a,c,rfl,rfl,rfl⟩
 refine nB ?_
 repeat refine sq ?_;try intro
 exact G.fin rfl .nil (Φ':=[fRp (.slice a _ c) _]) (M':=[_]) oY oZ ⟨a,c,rfl,rfl,rfl⟩

theorem ract5_spec (B:Nat) (f:Frm) (sv av:Value) (wrong:Int) (o:OR) (hs:f.stack.length≤1000000) (ho:IsOwn (GoTy.sz Word) sv f.stack.length o) (hx:f.ret.length≤1000000000) :
  Fn prog 188 [.pointer (some ⟨B,0,none⟩)] [fRow (ocells o) f.stack] ((B,Ob (runC f sv av wrong) 188)::ownM 24 o) (RRun B (stkF f (f.stack++[.nat f.ret.length])) av wrong):=by
 have hof:=wof_spec f.ret.length oM
 refine Fn.enter func188 rfl ntmps188 oI (fun I0 w0 => ?_)
 repeat refine sq ?_;try intro
 refine cV hof ?_
 repeat refine sq ?_;try intro
 refine OpK.call rfl rfl rfl rfl (rpush_spec B f sv av wrong o (.nat f.ret.length) hs ho) oY (Mr:=[]) (by rw [List.append_nil]) ?_
 rintro u Φ' Mc' ⟨a,c,rfl,rfl,rfl⟩
 refine nB ?_
 repeat refine sq ?_;try intro
 exact G.fin rfl .nil (Φ':=[fRp (.slice a _ c) _]) (M':=[_]) oY oZ ⟨a,c,rfl,rfl,rfl⟩

theorem ract10_spec (B:Nat) (f:Frm) (sv av:Value) (wrong:Int) (o:OR) (hs:f.stack.length≤1000000) (ho:IsOwn (GoTy.sz Word) sv f.stack.length o) (hx:f.mem.length≤1000000000) :
  Fn prog 199 [.pointer (some ⟨B,0,none⟩)] [fRow (ocells o) f.stack] ((B,Ob (runC f sv av wrong) 188)::ownM 24 o) (RRun B (stkF f (f.stack++[.nat f.mem.length])) av wrong):=by
 have hof:=wof_spec f.mem.length oM
 refine Fn.enter func199 rfl ntmps199 oI (fun I0 w0 => ?_)
 repeat refine sq ?_;try intro
 refine cV hof ?_
 repeat refine sq ?_;try intro
 refine OpK.call rfl rfl rfl rfl (rpush_spec B f sv av wrong o (.nat f.mem.length) hs ho) oY (Mr:=[]) (by rw [List.append_nil]) ?_
 rintro u Φ' Mc' ⟨a,c,rfl,rfl,rfl⟩
 refine nB ?_
 repeat refine sq ?_;try intro
 exact G.fin rfl .nil (Φ':=[fRp (.slice a _ c) _]) (M':=[_]) oY oZ ⟨a,c,rfl,rfl,rfl⟩

theorem ract9_spec (B:Nat) (f:Frm) (sv av:Value) (wrong:Int) (o:OR) (hs:f.stack.length≤1000000) (ho:IsOwn (GoTy.sz Word) sv f.stack.length o) (h1:1≤f.pc) (h2:f.pc≤1000000000000000000) :
  Fn prog 198 [.pointer (some ⟨B,0,none⟩)] [fRow (ocells o) f.stack] ((B,Ob (runC f sv av wrong) 188)::ownM 24 o) (RRun B (stkF f (f.stack++[.nat (f.pc-1).toNat])) av wrong):=by
 have hof:=wof_spec (f.pc-1).toNat oM
 rw [show (((f.pc-1).toNat:Nat):Int)=f.pc-1 from by omega] at hof
 refine Fn.enter func198 rfl ntmps198 oI (fun I0 w0 => ?_)
 repeat refine sq ?_;try intro
 refine cV hof ?_
 repeat refine sq ?_;try intro
 refine OpK.call rfl rfl rfl rfl (rpush_spec B f sv av wrong o (.nat (f.pc-1).toNat) hs ho) oY (Mr:=[]) (by rw [List.append_nil]) ?_
 rintro u Φ' Mc' ⟨a,c,rfl,rfl,rfl⟩
 refine nB ?_
 repeat refine sq ?_;try intro
 exact G.fin rfl .nil (Φ':=[fRp (.slice a _ c) _]) (M':=[_]) oY oZ ⟨a,c,rfl,rfl,rfl⟩

theorem ract11_spec (B:Nat) (f:Frm) (sv av:Value) (wrong:Int) (o:OR) (hs:f.stack.length≤1000000) (ho:IsOwn (GoTy.sz Word) sv f.stack.length o) (h1:0≤f.gas) (h2:f.gas≤1000000000000000000) :
  Fn prog 200 [.pointer (some ⟨B,0,none⟩)] [fRow (ocells o) f.stack] ((B,Ob (runC f sv av wrong) 188)::ownM 24 o) (RRun B (stkF f (f.stack++[.nat f.gas.toNat])) av wrong):=by
 have hof:=wof_spec f.gas.toNat oM
 rw [show ((f.gas.toNat:Nat):Int)=f.gas from by omega] at hof
 refine Fn.enter func200 rfl ntmps200 oI (fun I0 w0 => ?_)
 repeat refine sq ?_;try intro
 refine cV hof ?_
 repeat refine sq ?_;try intro
 refine OpK.call rfl rfl rfl rfl (rpush_spec B f sv av wrong o (.nat f.gas.toNat) hs ho) oY (Mr:=[]) (by rw [List.append_nil]) ?_
 rintro u Φ' Mc' ⟨a,c,rfl,rfl,rfl⟩
 refine nB ?_
 repeat refine sq ?_;try intro
 exact G.fin rfl .nil (Φ':=[fRp (.slice a _ c) _]) (M':=[_]) oY oZ ⟨a,c,rfl,rfl,rfl⟩

theorem ract12_spec (B:Nat) (f:Frm) (sv av:Value) (wrong:Int) :
  Fn prog 201 [.pointer (some ⟨B,0,none⟩)] [] [(B,Ob (runC f sv av wrong) 188)] (RKeep B (runC f sv av wrong)):=by
 refine Fn.enter func201 rfl ntmps201 oI (fun I0 w0 => ?_)
 repeat refine sq ?_;try intro
 exact G.fin rfl .nil (Φ':=[]) (M':=[_]) oY oZ ⟨rfl,rfl,rfl⟩
theorem getD_at (l:List Word) (k:Nat) (h:k<l.length):l.getD k .zero=l[k]:=by rw [List.getD_eq_getElem?_getD,List.getElem?_eq_getElem h];rfl
theorem partF_len (s:List UInt8) (a:Word) (n:Nat):(partF s a n).length≤1048576:=by
 unfold partF
 split
 ·simp
 ·dsimp only
  have:(if a.num<s.length then (s.drop a.num).take n else []).length≤n:=by
   split
   ·exact List.length_take_le _ _
   ·exact Nat.zero_le _
  rw [List.length_append,List.length_replicate]
  omega
theorem rcopy_spec (B:Nat) (f:Frm) (sv av:Value) (wrong:Int) (l:List Word) (s:List UInt8) (hm:f.mem.length≤1048576) (h32:f.mem.length%32=0) (hs:s.length≤1000000000) (hl:2<l.length) :
  Fn prog 184 [.pointer (some ⟨B,0,none⟩),.string (ba s)] [fRp av l] [(B,Ob (runC f sv av wrong) 188)] (RKeep B (runC (copyF f s l).1 sv av wrong)):=by
 have h1:=number_spec l[2]
 have h2:=mpiece_spec s l[1] (numF l[2]) hs
 have h3:=fun av=>rput_spec B f sv av wrong l (partF s l[1] (numF l[2])) hm h32 (Nat.le_trans (partF_len _ _ _) oE) oM
 unfold copyF
 rw [getD_at l 1 oM,getD_at l 2 hl]
 generalize numF l[2]=n at h1 h2 h3 ⊢
 generalize partF s l[1] n=q at h2 h3 ⊢
 generalize (if n≤1048576 then (0:Int) else 1)=e at h2
 refine Fn.enter func184 rfl ntmps184 oI (fun I0 w0 => ?_)
 refine W.bare (G.slice av l ?_)
 intro a1 c1 e1 k1
 subst e1
 repeat refine sq ?_;try intro
 refine W.drawA 19 [dq _,dq _,dq _,dq _,dq _,dk _,dq _,dq _,dq _,dq _,dq _,dk _,dq _,dq _,dq _,dq _,dq _,dq _,dq _] [[],[],[1],[2],[3],[4],[5],[],[7],[8],[9],[10],[11],[12],[0,6,13],[14],[15],[15],[16]] [17,18] (hrest:=fun c=>nrm ?_) (hops:=by
  iterate 13 refine AllQ.aq ?_
  refine AllQ.mk (by intro c z0 Φr Lr K;refine nrm ?_;intro hK;refine cV h1 ?_;exact hK z0) ?_
  refine AllQ.mk (by intro c z0 Φr Lr K;refine nrm ?_;intro hK;refine cV h2 ?_;exact hK z0) ?_
  iterate 4 refine AllQ.aq ?_
  exact AllQ.nil)
 repeat refine sq ?_;try intro
 refine OpK.call rfl rfl rfl rfl (h3 _) oY (Mr:=[]) (by rw [List.append_nil]) ?_
 rintro u Φ' Mc' ⟨rfl,rfl,rfl⟩
 refine nB ?_
 repeat refine sq ?_;try intro
 exact G.fin rfl .nil (Φ':=[]) (M':=[_]) oY oZ ⟨rfl,rfl,rfl⟩

theorem ract2_spec (B:Nat) (f:Frm) (sv av:Value) (wrong:Int) (l:List Word) (hm:f.mem.length≤1048576) (h32:f.mem.length%32=0) (hs:f.input.length≤1000000000) (hl:2<l.length) :
  Fn prog 183 [.pointer (some ⟨B,0,none⟩)] [fRp av l] [(B,Ob (runC f sv av wrong) 188)] (RKeep B (runC (copyF f f.input l).1 sv av wrong)):=by
 refine Fn.enter func183 rfl ntmps183 oI (fun I0 w0 => ?_)
 repeat refine sq ?_;try intro
 refine OpK.call rfl rfl rfl rfl (rcopy_spec B f sv av wrong l f.input hm h32 hs hl) oY (Mr:=[]) (by rw [List.append_nil]) ?_
 rintro u Φ' Mc' ⟨rfl,rfl,rfl⟩
 refine nB ?_
 repeat refine sq ?_;try intro
 exact G.fin rfl .nil (Φ':=[]) (M':=[_]) oY oZ ⟨rfl,rfl,rfl⟩

theorem ract4_spec (B:Nat) (f:Frm) (sv av:Value) (wrong:Int) (l:List Word) (hm:f.mem.length≤1048576) (h32:f.mem.length%32=0) (hs:f.code.length≤1000000000) (hl:2<l.length) :
  Fn prog 187 [.pointer (some ⟨B,0,none⟩)] [fRp av l] [(B,Ob (runC f sv av wrong) 188)] (RKeep B (runC (copyF f f.code l).1 sv av wrong)):=by
 refine Fn.enter func187 rfl ntmps187 oI (fun I0 w0 => ?_)
 repeat refine sq ?_;try intro
 refine OpK.call rfl rfl rfl rfl (rcopy_spec B f sv av wrong l f.code hm h32 hs hl) oY (Mr:=[]) (by rw [List.append_nil]) ?_
 rintro u Φ' Mc' ⟨rfl,rfl,rfl⟩
 refine nB ?_
 repeat refine sq ?_;try intro
 exact G.fin rfl .nil (Φ':=[]) (M':=[_]) oY oZ ⟨rfl,rfl,rfl⟩

end Go.Rail
namespace Go.Rail
open Go Go.Proofs Tryz
set_option maxHeartbeats 400000
set_option maxRecDepth 4000
attribute [local irreducible] OpK G W LW wpListIn Exit.then Exit.inBlock Post rounds opRun bodyPostM intOp
set_option maxHeartbeats 1000000
theorem partF_le (s:List UInt8) (a:Word) (n:Nat):(partF s a n).length≤n:=by
 unfold partF
 split
 ·exact Nat.zero_le _
 ·dsimp only
  have:(if a.num<s.length then (s.drop a.num).take n else []).length≤n:=by
   split
   ·exact List.length_take_le _ _
   ·exact Nat.zero_le _
  rw [List.length_append,List.length_replicate]
  omega
theorem pieceF_le (m:List UInt8) (a:Word) (n:Nat):(pieceF m a n).length≤n:=by
 unfold pieceF
 split
 ·exact Nat.zero_le _
 ·split
  ·exact List.length_take_le _ _
  ·exact Nat.zero_le _

theorem rload_spec (B:Nat) (f:Frm) (sv av:Value) (wrong:Int) (o:OR) (l:List Word) (hs:f.stack.length≤1000000) (ho:IsOwn (GoTy.sz Word) sv f.stack.length o) (hx:f.input.length≤1000000000) (hl:0<l.length) :
  Fn prog 181 [.pointer (some ⟨B,0,none⟩)] [fRow (ocells o) f.stack,fRp av l] ((B,Ob (runC f sv av wrong) 188)::ownM 24 o) (RRun B (stkF f (f.stack++[wordB (partF f.input l[0] 32)])) av wrong):=by
 have h2:=mpiece_spec f.input l[0] 32 hx
 have h3:=wfb_spec (partF f.input l[0] 32) (Nat.le_trans (partF_le _ _ _) oE)
 generalize partF f.input l[0] 32=q at h2 h3 ⊢
 refine Fn.enter func181 rfl ntmps181 oI (fun I0 w0 => ?_)
 refine W.bare (G.slice av l ?_)
 intro a1 c1 e1 k1
 subst e1
 repeat refine sq ?_;try intro
 refine W.drawA 16 [dq _,dq _,dq _,dq _,dq _,dq _,dq _,dq _,dq _,dk _,dq _,dq _,dq _,dq _,dq _,dq _] [[],[0],[1],[2],[3],[],[5],[6],[7],[8],[9],[4,10],[11],[12],[12],[13]] [14,15] (hrest:=fun c=>nrm ?_) (hops:=by
  iterate 11 refine AllQ.aq ?_
  refine AllQ.mk (by intro c z0 Φr Lr K;refine nrm ?_;intro hK;refine cV h2 ?_;exact hK z0) ?_
  iterate 4 refine AllQ.aq ?_
  exact AllQ.nil)
 repeat refine sq ?_;try intro
 refine cV h3 ?_
 repeat refine sq ?_;try intro
 refine OpK.call rfl rfl rfl rfl (rpush_spec B f sv (.slice a1 l.length c1) wrong o (wordB q) hs ho) oY (Mr:=[]) (by rw [List.append_nil]) ?_
 rintro u Φ' Mc' ⟨a,c,rfl,rfl,rfl⟩
 refine nB ?_
 repeat refine sq ?_;try intro
 exact G.fin rfl .nil (Φ':=[fRp (.slice a _ c) _]) (M':=[_]) oY oZ ⟨a,c,rfl,rfl,rfl⟩

theorem ract6_spec (B:Nat) (f:Frm) (sv av:Value) (wrong:Int) (o:OR) (l:List Word) (hs:f.stack.length≤1000000) (ho:IsOwn (GoTy.sz Word) sv f.stack.length o) (hm:f.mem.length≤1048576) (h32:f.mem.length%32=0) (hl:0<l.length) :
  Fn prog 190 [.pointer (some ⟨B,0,none⟩)] [fRow (ocells o) f.stack,fRp av l] ((B,Ob (runC f sv av wrong) 188)::ownM 24 o) (RRun B (stkF f (f.stack++[wordB (pieceF f.mem l[0] 32)])) av wrong):=by
 have h2:=fun av=>rat_spec B f sv av wrong l[0] 32 hm h32 oE
 have h3:=wfb_spec (pieceF f.mem l[0] 32) (Nat.le_trans (pieceF_le _ _ _) oE)
 generalize pieceF f.mem l[0] 32=q at h2 h3 ⊢
 refine Fn.enter func190 rfl ntmps190 oI (fun I0 w0 => ?_)
 refine W.bare (G.slice av l ?_)
 intro a1 c1 e1 k1
 subst e1
 repeat refine sq ?_;try intro
 refine OpK.call rfl rfl rfl rfl (h2 _) oY (Mr:=ownM 24 o) oP ?_
 rintro u Φ' Mc' ⟨rfl,rfl,rfl⟩
 refine nB ?_
 repeat refine sq ?_;try intro
 refine cV h3 ?_
 repeat refine sq ?_;try intro
 refine OpK.call rfl rfl rfl rfl (rpush_spec B f sv (.slice a1 l.length c1) wrong o (wordB q) hs ho) oY (Mr:=[]) (by rw [List.append_nil]) ?_
 rintro u Φ' Mc' ⟨a,c,rfl,rfl,rfl⟩
 refine nB ?_
 repeat refine sq ?_;try intro
 exact G.fin rfl .nil (Φ':=[fRp (.slice a _ c) _]) (M':=[_]) oY oZ ⟨a,c,rfl,rfl,rfl⟩

theorem ract7_spec (B:Nat) (f:Frm) (sv av:Value) (wrong:Int) (l:List Word) (hm:f.mem.length≤1048576) (h32:f.mem.length%32=0) (hl:1<l.length) :
  Fn prog 193 [.pointer (some ⟨B,0,none⟩)] [fRp av l] [(B,Ob (runC f sv av wrong) 188)] (RKeep B (runC (memF f (putF f.mem (numF (l.getD 0 .zero)) (byN (l.getD 1 .zero).num))) sv av wrong)):=by
 have h1:=wbytes_spec l[1]
 have h3:=fun av=>rput_spec B f sv av wrong l (byN l[1].num) hm h32 (by rw [byN_len];decide) oM
 rw [getD_at l 1 hl]
 generalize byN l[1].num=q at h1 h3 ⊢
 refine Fn.enter func193 rfl ntmps193 oI (fun I0 w0 => ?_)
 refine W.bare (G.slice av l ?_)
 intro a1 c1 e1 k1
 subst e1
 repeat refine sq ?_;try intro
 refine cV h1 ?_
 repeat refine sq ?_;try intro
 refine OpK.call rfl rfl rfl rfl (h3 _) oY (Mr:=[]) (by rw [List.append_nil]) ?_
 rintro u Φ' Mc' ⟨rfl,rfl,rfl⟩
 refine nB ?_
 repeat refine sq ?_;try intro
 exact G.fin rfl .nil (Φ':=[]) (M':=[_]) oY oZ ⟨rfl,rfl,rfl⟩

theorem rtold_spec (B:Nat) (f:Frm) (sv av:Value) (l:List Word) (hm:f.mem.length≤1048576) (h32:f.mem.length%32=0) (hr:f.ret.length≤1048576) (hl:2<l.length) :
  Fn prog 189 [.pointer (some ⟨B,0,none⟩)] [fRp av l] [(B,Ob (runC f sv av 0) 188)] (fun u Φ' M'=>u = .tuple #[]∧Φ'=[] ∧ ∃ p:Frm × Int,p=(if f.ret.length<numF (l.getD 1 .zero)+numF (l.getD 2 .zero) then (f,45) else copyF f f.ret l)∧M'=[(B,Ob (runC p.1 sv av p.2) 188)]):=by
 have h1:=number_spec l[1]
 have h2:=number_spec l[2]
 have hb1:numF l[1]≤1099511627776:=Nat.min_le_right _ _
 have hb2:numF l[2]≤1099511627776:=Nat.min_le_right _ _
 have h3:=fun av=>rcopy_spec B f sv av 0 l f.ret hm h32 oM hl
 rw [getD_at l 1 oM,getD_at l 2 hl]
 generalize numF l[1]=n1 at h1 hb1 ⊢
 generalize numF l[2]=n2 at h2 hb2 ⊢
 by_cases hc:f.ret.length<n1+n2
 ·rw [if_pos hc]
  refine Fn.enter func189 rfl ntmps189 oI (fun I0 w0 => ?_)
  refine W.bare (G.slice av l ?_)
  intro a1 c1 e1 k1
  subst e1
  repeat refine sq ?_;try intro
  refine W.drawA 21 [dq _,dq _,dq _,dq _,dk _,dq _,dq _,dq _,dq _,dq _,dq _,dk _,dq _,dq _,dq _,dq _,dq _,dq _,dq _,dq _,dq _] [[],[0],[1],[2],[3],[4],[5],[],[7],[8],[9],[10],[11],[12],[6,13],[],[15],[16],[17],[18],[19]] [14,20] (hrest:=fun c=>nrm ?_) (hops:=by
   iterate 6 refine AllQ.aq ?_
   refine AllQ.mk (by intro c z0 Φr Lr K;refine nrm ?_;intro hK;refine cV h1 ?_;exact hK z0) ?_
   iterate 6 refine AllQ.aq ?_
   refine AllQ.mk (by intro c z0 Φr Lr K;refine nrm ?_;intro hK;refine cV h2 ?_;exact hK z0) ?_
   iterate 7 refine AllQ.aq ?_
   exact AllQ.nil)
  repeat refine sq ?_;try intro
  exact G.ret rfl .nil (Φ':=[]) (M':=[_]) oY oZ ⟨rfl,rfl,(f,45),rfl,rfl⟩
 ·rw [if_neg hc]
  refine Fn.enter func189 rfl ntmps189 oI (fun I0 w0 => ?_)
  refine W.bare (G.slice av l ?_)
  intro a1 c1 e1 k1
  subst e1
  repeat refine sq ?_;try intro
  refine W.drawA 21 [dq _,dq _,dq _,dq _,dk _,dq _,dq _,dq _,dq _,dq _,dq _,dk _,dq _,dq _,dq _,dq _,dq _,dq _,dq _,dq _,dq _] [[],[0],[1],[2],[3],[4],[5],[],[7],[8],[9],[10],[11],[12],[6,13],[],[15],[16],[17],[18],[19]] [14,20] (hrest:=fun c=>nrm ?_) (hops:=by
   iterate 6 refine AllQ.aq ?_
   refine AllQ.mk (by intro c z0 Φr Lr K;refine nrm ?_;intro hK;refine cV h1 ?_;exact hK z0) ?_
   iterate 6 refine AllQ.aq ?_
   refine AllQ.mk (by intro c z0 Φr Lr K;refine nrm ?_;intro hK;refine cV h2 ?_;exact hK z0) ?_
   iterate 7 refine AllQ.aq ?_
   exact AllQ.nil)
  repeat refine sq ?_;try intro
  refine OpK.call rfl rfl rfl rfl (h3 _) oY (Mr:=[]) (by rw [List.append_nil]) ?_
  rintro u Φ' Mc' ⟨rfl,rfl,rfl⟩
  refine nB ?_
  repeat refine sq ?_;try intro
  exact G.fin rfl .nil (Φ':=[]) (M':=[_]) oY oZ ⟨rfl,rfl,copyF f f.ret l,rfl,rfl⟩

end Go.Rail
namespace Go.Rail
open Go Go.Proofs Tryz
set_option maxHeartbeats 400000
set_option maxRecDepth 4000
attribute [local irreducible] OpK G W LW wpListIn Exit.then Exit.inBlock Post rounds opRun bodyPostM intOp
set_option maxHeartbeats 1000000
def rowsB (n:Nat):Bool:=Nat.ble ((infoN n).getD noRow).pops 1000&&Nat.ble ((infoN n).getD noRow).pushes 1000&&Nat.ble ((infoN n).getD noRow).gas 1000000
theorem rowsB_all:((List.range 256).all rowsB)=true:=by kernel_rfl
theorem row_le {n:Nat} (hn:n<256):popsN n≤1000∧pushN' n≤1000∧gasN n≤1000000:=by
 have:=List.all_eq_true.1 rowsB_all n (by simpa using hn)
 unfold rowsB at this
 simp only [Bool.and_eq_true] at this
 exact ⟨Nat.le_of_ble_eq_true this.1.1,Nat.le_of_ble_eq_true this.1.2,Nat.le_of_ble_eq_true this.2⟩
def RTake (p:List Word × Int):Value→List Fa→Own→Prop:=fun u Φ' M' => ∃ v,u = .tuple #[v,.int .i64 p.2]∧Φ'=[fRp v p.1]∧M'=[]
theorem take_spec (f:Frm) (sv:Value) (op:Nat) (hop:op<256) (hs:f.stack.length≤100000) :
  Fn prog 102 [frmV f sv,.int .u8 (op:Int)] [fRp sv f.stack] [] (RTake (takeF f.stack op)):=by
 obtain ⟨b1,b2,_⟩:=row_le hop
 have h1:=info_spec op hop
 unfold popsN at b1
 unfold pushN' at b2
 unfold infoV at h1
 cases hi:infoN op with
 | none =>
  have ht:takeF f.stack op=([],42):=by unfold takeF;rw [if_pos (.inl hi)]
  rw [ht]
  rw [hi] at h1
  refine Fn.enter func102 rfl ntmps102 oI (fun I0 w0 => ?_)
  refine W.bare (G.slice sv f.stack ?_)
  intro a1 c1 e1 k1
  subst e1
  repeat refine sq ?_;try intro
  refine cV h1 ?_
  repeat refine sq ?_;try intro
  exact G.ret rfl (.cons (.tmp rfl) (.cons (.tmp rfl) .nil)) (Φ':=[fRp (.slice none 0 0) ([]:List Word)]) (M':=[]) oY oN ⟨_,rfl,rfl,rfl⟩
 | some r =>
  rw [hi] at h1 b1 b2
  dsimp only [Option.getD_some] at h1 b1 b2
  by_cases h254:op=254
  ·have ht:takeF f.stack op=([],42):=by unfold takeF;rw [if_pos (.inr h254)]
   rw [ht]
   subst h254
   refine Fn.enter func102 rfl ntmps102 oI (fun I0 w0 => ?_)
   refine W.bare (G.slice sv f.stack ?_)
   intro a1 c1 e1 k1
   subst e1
   repeat refine sq ?_;try intro
   refine cV h1 ?_
   repeat refine sq ?_;try intro
   exact G.ret rfl (.cons (.tmp rfl) (.cons (.tmp rfl) .nil)) (Φ':=[fRp (.slice none 0 0) ([]:List Word)]) (M':=[]) oY oN ⟨_,rfl,rfl,rfl⟩
  ·have h2:=fun v=>pop_spec v f.stack r.pops b1 hs
   obtain ⟨p1,p2,e,hq⟩ : ∃ p1 p2 e,popL f.stack r.pops=(p1,p2,e):=⟨_,_,_,rfl⟩
   have ht:takeF f.stack op=if e=0∧1024+r.pops<f.stack.length+r.pushes then ([],41) else (p2,e):=by
    unfold takeF popsN pushN'
    rw [if_neg (by rw [hi];rintro (h|h);cases h;exact h254 h),hi]
    simp only [Option.getD_some,hq]
   rw [ht]
   simp only [hq] at h2
   refine Fn.enter func102 rfl ntmps102 oI (fun I0 w0 => ?_)
   refine W.bare (G.slice sv f.stack ?_)
   intro a1 c1 e1 k1
   subst e1
   repeat refine sq ?_;try intro
   refine cV h1 ?_
   repeat refine sq ?_;try intro
   refine OpK.call rfl rfl rfl rfl (h2 _) oY (Mr:=_) oP ?_
   rintro u Φ' Mc' ⟨v1,v2,rfl,rfl,rfl⟩
   refine nB ?_
   by_cases he:e=0
   ·subst he
    by_cases hm:1024+r.pops<f.stack.length+r.pushes
    ·rw [if_pos ⟨rfl,hm⟩]
     repeat refine sq ?_;try intro
     exact G.ret rfl (.cons (.tmp rfl) (.cons (.tmp rfl) .nil)) (Φ':=[fRp (.slice none 0 0) ([]:List Word)]) (M':=[]) oY oN ⟨_,rfl,rfl,rfl⟩
    ·rw [if_neg (fun h=>hm h.2)]
     repeat refine sq ?_;try intro
     exact G.ret rfl (.cons (.tmp rfl) (.cons (.tmp rfl) .nil)) (Φ':=[fRp v2 p2]) (M':=[]) oY oN ⟨_,rfl,rfl,rfl⟩
   ·rw [if_neg (fun h=>he h.1)]
    repeat refine sq ?_;try intro
    exact G.ret rfl (.cons (.tmp rfl) (.cons (.tmp rfl) .nil)) (Φ':=[fRp v2 p2]) (M':=[]) oY oN ⟨_,rfl,rfl,rfl⟩
end Go.Rail
