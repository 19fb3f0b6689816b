/- frame.of, piece, fixed: what their functions tell. -/
import Derived.Test.YtjhdodkagchhkaaGreatDoorRailA
import Derived.Test.YtjhdodkagchhkaaGreatDoorRailI
import Derived.Test.YtjhdodkagchhkaaGreatDoorAFCFE
import Derived.Test.YtjhdodkagchhkaaGreatDoorRailJ
set_option linter.unusedSimpArgs false
set_option linter.unusedVariables false
namespace Go.Rail
open Go Go.Proofs Tryz
set_option maxHeartbeats 400000
set_option maxRecDepth 4000
attribute [local irreducible] OpK G W LW wpListIn Exit.then Exit.inBlock Post rounds opRun bodyPostM intOp
set_option maxHeartbeats 1000000
theorem piece1_spec (b1 b2:Nat) (i j:Nat) (av:Value) (l:List Word) (hi:i<l.length) (hj:j<l.length) (hl:l.length≤1000) :
  FnV prog 271 [av,.pointer (some ⟨b1,0,none⟩),.pointer (some ⟨b2,0,none⟩)] [fRp av l,fBlk b1 [.int .i64 (i:Int)] 3,fBlk b2 [.int .i64 (j:Int)] 3] (Spn.mk l[i] l[j]).v:=by
 refine Fn.enter func271 rfl ntmps271 oI (fun I0 w0 => ?_)
 repeat refine sq ?_;try intro
 rename_i b4
 refine W.drawA 8 [dq _,dq _,dk _,dq _,dq _,dq _,dk _,dq _] [[],[],[0,1],[2],[],[],[4,5],[6]] [3,7] (hrest:=fun c=>nrm ?_) (hops:=by
  iterate 8 refine AllQ.aq ?_
  exact AllQ.nil)
 repeat refine sq ?_;try intro
 exact G.ret rfl (.cons (.cellA rfl rfl) .nil) (Φ':=[]) (M':=[]) oY oN ⟨rfl,rfl,rfl⟩
theorem fixed1_spec (b1:Nat) (n:Nat) (av:Value) (l:List Word) (hi:0<l.length) (hn:n≤1000) :
  FnV prog 274 [av,.pointer (some ⟨b1,0,none⟩)] [fRp av l,fBlk b1 [.int .i64 (n:Int)] 3] (Spn.mk l[0] (.nat n)).v:=by
 have hof:=wof_spec n oM
 refine Fn.enter func274 rfl ntmps274 oI (fun I0 w0 => ?_)
 repeat refine sq ?_;try intro
 rename_i b4
 refine W.drawA 5 [dq _,dk _,dq _,dq _,dq _] [[],[0],[1],[],[3]] [2,4] (hrest:=fun c=>nrm ?_) (hops:=by
  iterate 4 refine AllQ.aq ?_
  refine AllQ.mk (by intro c z0 Φr Lr K;refine nrm ?_;intro hK;refine cV hof ?_;exact hK z0) ?_
  exact AllQ.nil)
 repeat refine sq ?_;try intro
 exact G.ret rfl (.cons (.cellA rfl rfl) .nil) (Φ':=[]) (M':=[]) oY oN ⟨rfl,rfl,rfl⟩
theorem of1_hash (b1 b2:Nat) (i:Nat) (av:Value) (l:List Word) (hi:i<l.length) (hl:l.length≤1000) :
  FnV prog 269 [av,.pointer (some ⟨b1,0,none⟩),.pointer (some ⟨b2,0,none⟩)] [fRp av l,fBlk b1 [.func (.func 179) #[] #[]] 237,fBlk b2 [.int .i64 (i:Int)] 3] (.int .i64 ((6*wordsF (numF l[i]):Nat):Int)):=by
 have h1:=number_spec l[i]
 have h2:=ghash_spec (numF l[i])
 refine Fn.enter func269 rfl ntmps269 oI (fun I0 w0 => ?_)
 repeat refine sq ?_;try intro
 refine W.drawA 6 [dq _,dq _,dq _,dk _,dq _,dq _] [[],[],[],[1,2],[3],[4]] [0,5] (hrest:=fun c=>nrm ?_) (hops:=by
  iterate 5 refine AllQ.aq ?_
  refine AllQ.mk (by intro c z0 Φr Lr K;refine nrm ?_;intro hK;refine cV h1 ?_;exact hK z0) ?_
  exact AllQ.nil)
 repeat refine sq ?_;try intro
 refine o_callV (cap:=[]) rfl rfl rfl rfl h2 rfl ?_
 repeat refine sq ?_;try intro
 refine G.retV ?_
 rfl
theorem of1_copy (b1 b2:Nat) (i:Nat) (av:Value) (l:List Word) (hi:i<l.length) (hl:l.length≤1000) :
  FnV prog 269 [av,.pointer (some ⟨b1,0,none⟩),.pointer (some ⟨b2,0,none⟩)] [fRp av l,fBlk b1 [.func (.func 185) #[] #[]] 237,fBlk b2 [.int .i64 (i:Int)] 3] (.int .i64 ((3*wordsF (numF l[i]):Nat):Int)):=by
 have h1:=number_spec l[i]
 have h2:=gcopy_spec (numF l[i])
 refine Fn.enter func269 rfl ntmps269 oI (fun I0 w0 => ?_)
 repeat refine sq ?_;try intro
 refine W.drawA 6 [dq _,dq _,dq _,dk _,dq _,dq _] [[],[],[],[1,2],[3],[4]] [0,5] (hrest:=fun c=>nrm ?_) (hops:=by
  iterate 5 refine AllQ.aq ?_
  refine AllQ.mk (by intro c z0 Φr Lr K;refine nrm ?_;intro hK;refine cV h1 ?_;exact hK z0) ?_
  exact AllQ.nil)
 repeat refine sq ?_;try intro
 refine o_callV (cap:=[]) rfl rfl rfl rfl h2 rfl ?_
 repeat refine sq ?_;try intro
 refine G.retV ?_
 rfl
theorem ffixed_spec (n:Int):Fn prog 192 [.int .i64 n] [] [] (fun u Φ' M' => ∃ b,u = .func (.func 274) #[] #[.pointer (some ⟨b,0,none⟩)]∧Φ'=[fBlk b [.int .i64 n] 3]∧M'=[]):=by
 refine Fn.enter func192 rfl ntmps192 oI (fun I0 w0 => ?_)
 repeat refine sq ?_;try intro
 rename_i b
 refine o_func rfl rfl rfl rfl ?_
 repeat refine sq ?_;try intro
 refine G.give b (cs:=[.int .i64 n]) (t:=3) ?_
 exact G.ret rfl (.cons (.tmp rfl) .nil) (Φ':=[fBlk b [.int .i64 n] 3]) (M':=[]) oY oN ⟨b,rfl,rfl,rfl⟩
theorem fpiece_spec (i j:Int):Fn prog 180 [.int .i64 i,.int .i64 j] [] [] (fun u Φ' M' => ∃ b1 b2,u = .func (.func 271) #[] #[.pointer (some ⟨b1,0,none⟩),.pointer (some ⟨b2,0,none⟩)]∧Φ'=[fBlk b1 [.int .i64 i] 3,fBlk b2 [.int .i64 j] 3]∧M'=[]):=by
 refine Fn.enter func180 rfl ntmps180 oI (fun I0 w0 => ?_)
 repeat refine sq ?_;try intro
 rename_i b1 b2
 refine o_func rfl rfl rfl rfl ?_
 repeat refine sq ?_;try intro
 refine G.give b2 (cs:=[.int .i64 j]) (t:=3) ?_
 refine G.give b1 (cs:=[.int .i64 i]) (t:=3) ?_
 exact G.ret rfl (.cons (.tmp rfl) .nil) (Φ':=[fBlk b1 [.int .i64 i] 3,fBlk b2 [.int .i64 j] 3]) (M':=[]) oY oN ⟨b1,b2,rfl,rfl,rfl⟩
theorem fof_spec (i:Int) (g:Nat):Fn prog 178 [.int .i64 i,.func (.func g) #[] #[]] [] [] (fun u Φ' M' => ∃ b1 b2,u = .func (.func 269) #[] #[.pointer (some ⟨b1,0,none⟩),.pointer (some ⟨b2,0,none⟩)]∧Φ'=[fBlk b1 [.func (.func g) #[] #[]] 237,fBlk b2 [.int .i64 i] 3]∧M'=[]):=by
 refine Fn.enter func178 rfl ntmps178 oI (fun I0 w0 => ?_)
 repeat refine sq ?_;try intro
 rename_i b2 b1
 refine o_func rfl rfl rfl rfl ?_
 repeat refine sq ?_;try intro
 refine G.give b1 (cs:=[.func (.func g) #[] #[]]) (t:=237) ?_
 refine G.give b2 (cs:=[.int .i64 i]) (t:=3) ?_
 exact G.ret rfl (.cons (.tmp rfl) .nil) (Φ':=[fBlk b1 [.func (.func g) #[] #[]] 237,fBlk b2 [.int .i64 i] 3]) (M':=[]) oY oN ⟨b1,b2,rfl,rfl,rfl⟩
end Go.Rail
namespace Go.Rail
open Go Go.Proofs Tryz
set_option maxHeartbeats 400000
set_option maxRecDepth 4000
attribute [local irreducible] OpK G W LW wpListIn Exit.then Exit.inBlock Post rounds opRun bodyPostM intOp
set_option maxHeartbeats 1000000
theorem find2_spec (av:Value) (l:List Word) (hi:1<l.length):FnV prog 96 [av] [fRp av l] (.int .i64 ((50*(trimF (byN l[1].num)).length:Nat):Int)):=by
 have h:=gexp_spec l[1]
 refine Fn.enter func96 rfl ntmps96 oI (fun I0 w0 => ?_)
 repeat refine sq ?_;try intro
 refine cV h ?_
 repeat refine sq ?_;try intro
 refine G.retV ?_
 rfl
abbrev pcF (f:Frm) (s:List Word) (pc:Int):Frm:={f with stack:=s,pc:=pc}
theorem find3_spec (B b1:Nat) (f:Frm) (sv av:Value) (wrong:Int) (n:Nat) (o:OR) (hs:f.stack.length≤1000000) (ho:IsOwn (GoTy.sz Word) sv f.stack.length o) (hx:f.code.length≤1000000) (hp1:0≤f.pc) (hp2:f.pc≤1000000000000000000) (hn:n≤1000) :
  Fn prog 98 [.pointer (some ⟨B,0,none⟩),.pointer (some ⟨b1,0,none⟩)] [fRow (ocells o) f.stack,fBlk b1 [.int .i64 (n:Int)] 3] ((B,Ob (runC f sv av wrong) 188)::ownM 24 o) (RRun B (pcF f (f.stack++[opushL f.code (f.pc-1) (n:Int)]) (f.pc+(n:Int))) av wrong):=by
 have h1:=opush_spec f.code (f.pc-1) (n:Int) hx
 generalize opushL f.code (f.pc-1) (n:Int)=w at h1 ⊢
 refine Fn.enter func98 rfl ntmps98 oI (fun I0 w0 => ?_)
 repeat refine sq ?_;try intro
 refine W.drawA 14 [dq _,dq _,dq _,dq _,dq _,dq _,dq _,dq _,dq _,dq _,dq _,dq _,dq _,dq _] [[],[],[1],[2],[3],[4],[],[6],[7],[8],[9],[10],[],[5,11,12]] [0,13] (hrest:=fun c=>nrm ?_) (hops:=by
  iterate 13 refine AllQ.aq ?_
  refine AllQ.mk (by intro c z0 Φr Lr K;refine nrm ?_;intro hK;refine cV h1 ?_;exact hK z0) ?_
  exact AllQ.nil)
 repeat refine sq ?_;try intro
 refine OpK.call rfl rfl rfl rfl (rpush_spec B f sv av wrong o w hs ho) oY (Mr:=[]) (by rw [List.append_nil]) ?_
 rintro u Φ' Mc' ⟨a,cp,rfl,rfl,rfl⟩
 refine nB ?_
 repeat refine sq ?_;try intro
 refine W.drawA 6 [dq _,dq _,dq _,dq _,dq _,dq _] [[],[0],[1],[2],[3],[]] [0,4,5] (hrest:=fun c=>nrm ?_) (hops:=by
  iterate 6 refine AllQ.aq ?_
  exact AllQ.nil)
 repeat refine sq ?_;try intro
 exact G.fin rfl .nil (Φ':=[fRp (.slice a _ cp) _]) (M':=[_]) oY oZ ⟨a,cp,rfl,rfl,rfl⟩
end Go.Rail
namespace Go.Rail
open Go Go.Proofs Tryz
set_option maxHeartbeats 400000
set_option maxRecDepth 4000
attribute [local irreducible] OpK G W LW wpListIn Exit.then Exit.inBlock Post rounds opRun bodyPostM intOp
set_option maxHeartbeats 600000
attribute [local irreducible] doC
theorem find1_spec (B b1:Nat) (f:Frm) (a0:Option Addr) (c0:Nat) (av:Value) (wrong:Int) (op:Nat) (hop:op<256) (hs:f.stack.length≤100000) :
  Fn prog 95 [.pointer (some ⟨B,0,none⟩),.pointer (some ⟨b1,0,none⟩)] [fRp (.slice a0 f.stack.length c0) f.stack,fBlk b1 [.int .u8 (op:Int)] 5] [(B,Ob (runC f (.slice a0 f.stack.length c0) av wrong) 188)] (RRun B (stkF f (doC op f.stack).1) av wrong):=by
 have h1:=do_spec op hop (.slice a0 f.stack.length c0) f.stack hs
 generalize (doC op f.stack).1=ys at h1 ⊢
 generalize (doC op f.stack).2=e at h1
 refine Fn.enter func95 rfl ntmps95 oI (fun I0 w0 => ?_)
 repeat refine sq ?_;try intro
 refine W.drawMx 15 14 (fun z=>[(B,Ob (runC f z av wrong) 188)]) [dq _,dq _,dq _,dq _,dq _,dq _,dq _,⟨fun _ z => .tuple #[z,.int .i64 e],fun _ z=>[fRp z ys]⟩,dq _,dq _,dq _,dq _,dq _,dq _,⟨fun _ _ => .bool false,fun _ z=>[fRp z ys]⟩] [[],[],[],[2],[3],[4],[5],[1,6],[7],[8],[8],[0],[11],[12],[7,9,13]] [14] (hloc:=by (repeat (first|exact AllL.nil|refine AllL.au ?_|refine AllL.au ?_ (by intro c c2 z h;refine nrm ?_;constructor<;>first|rfl|(rw [h 7 kR]))))) (hrest:=fun c=>nrmX ?_) (hops:=by
  iterate 7 refine AllX.au ?_
  refine AllX.a0 ?_ rfl kR (by intro c z0 Φr Lr K;refine nrmX ?_;intro hK;refine OpK.call rfl rfl rfl rfl h1 oY (Mr:=_) oP ?_;rintro u Φ' Mc' ⟨v,rfl,rfl,rfl⟩;exact hK v)
  iterate 6 refine AllX.au ?_
  refine AllX.ai ?_ (by intro c z0 Φr Lr K;refine nrmX ?_;intro hK;refine OpK.bare (G.slice (c 7) ys ?_);intro a9 c9 e9 k9;refine OpK.back ?_;have hk:=hK (c 7);rw [e9] at hk ⊢;(first|refine sty ?_|refine st ?_|refine stz ?_|refine stq ?_);refine G.learn (fRp (.slice a9 ys.length c9) ys) ?_;exact hk)
  exact AllX.end)
 generalize c 14=v
 refine LW.bare (G.slice v ys ?_)
 intro a2 c2 e2 k2
 subst e2
 refine LW.back ?_
 repeat refine sq ?_;try intro
 exact G.fin rfl .nil (Φ':=[fRp (.slice a2 ys.length c2) ys]) (M':=[_]) oY oZ ⟨a2,c2,rfl,rfl,rfl⟩
end Go.Rail
namespace Go.Rail
open Go Go.Proofs Tryz
set_option maxHeartbeats 400000
set_option maxRecDepth 4000
attribute [local irreducible] OpK G W LW wpListIn Exit.then Exit.inBlock Post rounds opRun bodyPostM intOp
set_option maxHeartbeats 600000
instance:PartOf (α:=Word) (β:=UInt64) 0 Word.a where
 le:=by decide
 h:=fun I cs z h=>by rw [h];rfl
theorem num_low (w:Word):w.num%256=w.a.toNat%256:=by
 have:=w.a.toNat_lt;have:=w.b.toNat_lt;have:=w.c.toNat_lt;have:=w.d.toNat_lt
 simp only [Word.num];omega
theorem u8v (n:Nat) (h:n<256):Value.int .u8 ((n:Nat):Int)=GoFlat.val (UInt8.ofNat n):=by
 have e:(UInt8.ofNat n).toNat=n:=by rw [UInt8.toNat_ofNat'];omega
 show Value.int .u8 ((n:Nat):Int)=Value.int .u8 (((UInt8.ofNat n).toNat:Nat):Int)
 rw [e]
theorem ract8_spec (B:Nat) (f:Frm) (sv av:Value) (wrong:Int) (l:List Word) (hm:f.mem.length≤1048576) (h32:f.mem.length%32=0) (hl:1<l.length) :
  Fn prog 195 [.pointer (some ⟨B,0,none⟩)] [fRp av l] [(B,Ob (runC f sv av wrong) 188)] (RKeep B (runC (memF f (putF f.mem (numF (l.getD 0 .zero)) [UInt8.ofNat ((l.getD 1 .zero).num%256)])) sv av wrong)):=by
 have h3:=fun av=>rput_spec B f sv av wrong l [UInt8.ofNat (l[1].num%256)] hm h32 oI oM
 rw [getD_at l 1 hl]
 rw [num_low] at h3 ⊢
 refine Fn.enter func195 rfl ntmps195 oI (fun I0 w0 => ?_)
 refine W.bare (G.slice av l ?_)
 intro a1 c1 e1 k1
 subst e1
 repeat refine sq ?_;try intro
 refine o_indexP (off:=0) Word.a rfl rfl rfl rfl oE oE rfl ?_
 intro p'
 repeat refine sq ?_;try intro
 refine o_litV (xs:=[UInt8.ofNat (l[1].a.toNat%256)]) rfl rfl rfl (.cons (u8v _ (Nat.mod_lt _ oE)) .nil) oY oY rfl rfl ?_
 intro v
 repeat refine sq ?_;try intro
 refine OpK.call rfl rfl rfl rfl (h3 _) oY (Mr:=[]) (by rw [List.append_nil]) ?_
 rintro u Φ' Mc' ⟨rfl,rfl,rfl⟩
 refine nB ?_
 repeat refine sq ?_;try intro
 exact G.fin rfl .nil (Φ':=[]) (M':=[_]) oY oZ ⟨rfl,rfl,rfl⟩
end Go.Rail
