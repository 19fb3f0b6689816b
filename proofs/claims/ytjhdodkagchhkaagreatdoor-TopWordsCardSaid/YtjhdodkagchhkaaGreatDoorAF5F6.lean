/- slices.Values of texts; memory.Grow, Slice, Copy, Piece; gas.Exp. -/
import Derived.Test.YtjhdodkagchhkaaGreatDoorRailA
import Derived.Test.YtjhdodkagchhkaaGreatDoorRailI
import Derived.Test.YtjhdodkagchhkaaGreatDoorAP2F4
import Derived.Test.YtjhdodkagchhkaaGreatDoorAF1P1
import Derived.Test.YtjhdodkagchhkaaGreatDoorRailJ
set_option linter.unusedSimpArgs false
set_option linter.unusedVariables false
namespace Go.Rail
open Go Go.Proofs Tryz
set_option maxHeartbeats 400000
set_option maxRecDepth 4000
attribute [local irreducible] OpK G W LW wpListIn Exit.then Exit.inBlock Post rounds opRun bodyPostM intOp
set_option maxHeartbeats 1000000
attribute [local irreducible] addW cmpW Word.nat
theorem valuesS1_spec (b:Nat) (v:Value) (xs:List ByteArray) (h1:xs.length≤1000000):IterR prog 328 [.pointer (some ⟨b,0,none⟩)] (xs.map fun k=>[.string k]) [fBlk b [v] 69,fRp v xs]:=by
 intro l T Z hy s0 hs0
 have hy' : ∀ k (h:k<xs.length) s,T k s→FnY prog l [.string xs[k]] s.1 s.2 (YRr (T (k+1)) Z):=fun k h s hs=>by
  have:=hy k (by simpa using h) s hs
  simpa using this
 rw [List.length_map]
 show Fn _ _ _ (fBlk b [v] 69::fRp v xs::s0.1) _ _
 refine Fn.enter func328 rfl ntmps328 oI (fun I0 w0 => ?_)
 repeat refine sq ?_;try intro
 refine W.loopI (fun (s:Nat × St)=>(fBlk b [v] 69::fRp v xs::s.2.1,[(0,.func (.yield l) #[] #[]),(5,v),(6,.int .i64 xs.length),(7,.int .i64 s.1)],s.2.2)) (fun s=>s.1≤xs.length∧T s.1 s.2) (fun s=>xs.length-s.1) (0,s0) ⟨Nat.zero_le _,hs0⟩ ⟨fun I hp=>hp⟩ (lC rfl (lC rfl (lC rfl (lC rfl lN)))) oZ ?_
 rintro ⟨i,s1⟩ ⟨hi,hst⟩
 dsimp only at hi hst ⊢
 by_cases hi0:i=xs.length
 ·subst hi0
  repeat refine sq ?_;try intro
  exact G.fin rfl .nil (Φ':=s1.1) (M':=s1.2) ⟨fun I hp φ hφ=>hp φ (.tail _ (.tail _ hφ))⟩ oZ (.inl hst)
 ·have hi1:i<xs.length:=by omega
  repeat refine sq ?_;try intro
  refine o_yieldR (Mr:=[]) rfl rfl rfl rfl (hy' i hi1 s1 hst) (fun I hp φ hφ=>hp φ (by simp [hφ])) oI ?_ ?_
  ·intro st2 hst2
   repeat refine sq ?_;try intro
   refine G.again (S:=Nat × St) (i+1,st2) (by dsimp only;omega) ⟨by dsimp only;omega,hst2⟩ ⟨fun I hp φ hφ => ?_⟩ (lC rfl (lC rfl (lC rfl (lC rfl lN)))) oI
   rcases List.mem_cons.1 hφ with rfl|hφ
   ·exact hp _ oI
   ·rcases List.mem_cons.1 hφ with rfl|hφ
    ·exact hp _ oI
    ·exact hp _ (by simp [hφ])
  ·intro s hs
   repeat refine sq ?_;try intro
   exact G.ret rfl .nil (Φ':=s.1) (M':=s.2) ⟨fun I hp φ hφ=>hp φ (List.mem_append_left _ hφ)⟩ oI (.inr hs)
theorem valuesS_spec (v:Value) (xs:List ByteArray):Fn prog 283 [v] [fRp v xs] [] (fun u Φ' M' => ∃ b,u = .func (.func 328) #[] #[.pointer (some ⟨b,0,none⟩)]∧Φ'=[fBlk b [v] 69]∧M'=[]):=by
 refine Fn.enter func283 rfl ntmps283 oI (fun I0 w0 => ?_)
 refine W.bare (G.slice v xs ?_)
 intro a1 c1 e1 k1
 subst e1
 repeat refine sq ?_;try intro
 rename_i b
 refine o_func rfl rfl rfl rfl ?_
 repeat refine sq ?_;try intro
 refine G.give b (cs:=[.slice a1 xs.length c1]) (t:=69) ?_
 exact G.ret rfl (.cons (.tmp rfl) .nil) (Φ':=[fBlk b [.slice a1 xs.length c1] 69]) (M':=[]) oY oN ⟨b,rfl,rfl,rfl⟩
theorem joinedV_spec (b:Nat) (v:Value) (xs:List ByteArray) (ts:List (List UInt8)) (ht:xs=ts.map ba) (h1:ts.length≤1000000) (hx:ts.flatten.length≤100000000) :
  FnV prog 282 [.func (.func 328) #[] #[.pointer (some ⟨b,0,none⟩)]] [fBlk b [v] 69,fRp v xs] (.string (ba ts.flatten)):=by
 subst ht
 have hv:=valuesS1_spec b v (ts.map ba) (by simpa using h1)
 rw [List.map_map] at hv
 exact joined_spec 328 [.pointer (some ⟨b,0,none⟩)] ts _ hv hx
theorem grow_spec (m:List UInt8) (words:Int) (hm:m.length≤1048576) (h32:m.length%32=0) (h0:0≤words) (hw:words≤32768):FnV prog 206 [.string (ba m),.int .i64 words] [] (.tuple #[.string (ba (growF m words.toNat)),.int .i64 0]):=by
 have h1:=mmay_spec m oM
 rw [decide_eq_true ⟨hm,h32⟩] at h1
 have h2:=mwithin_spec words 32768 oE
 rw [show max 0 (min words 32768)=words from by omega] at h2
 have h3:=noughts_spec (words*32-m.length) oM
 rw [show (words*32-(m.length:Int)).toNat=words.toNat*32-m.length from by omega] at h3
 have hfl:[m,List.replicate (words.toNat*32-m.length) 0].flatten=growF m words.toNat:=by simp [growF]
 refine Fn.enter func206 rfl ntmps206 oI (fun I0 w0 => ?_)
 repeat refine sq ?_;try intro
 refine cV h1 ?_
 repeat refine sq ?_;try intro
 refine cV h2 ?_
 repeat refine sq ?_;try intro
 refine cV h3 ?_
 repeat refine sq ?_;try intro
 rename_i v
 refine OpK.call rfl rfl rfl rfl (valuesS_spec v [ba m,ba (List.replicate (words.toNat*32-m.length) 0)]) oY (Mr:=[]) oI ?_
 rintro u Φ' Mc' ⟨b,rfl,rfl,rfl⟩
 refine nA ?_
 repeat refine sq ?_;try intro
 refine cV (joinedV_spec b v [ba m,ba (List.replicate (words.toNat*32-m.length) 0)] [m,List.replicate (words.toNat*32-m.length) 0] rfl oI (by rw [hfl,growF];simp;omega)) ?_
 rw [hfl]
 repeat refine sq ?_;try intro
 refine G.retV ?_
 rfl
theorem mslice_spec (m:List UInt8) (at_ n:Nat) (hm:m.length≤1048576) (h32:m.length%32=0) (h:at_+n≤m.length):FnV prog 273 [.string (ba m),.int .i64 (at_:Int),.int .i64 (n:Int)] [] (.tuple #[.string (ba ((m.drop at_).take n)),.int .i64 0]):=by
 have h1:=there_spec m at_ n oM
 rw [decide_eq_true oM] at h1
 refine Fn.enter func273 rfl ntmps273 oI (fun I0 w0 => ?_)
 repeat refine sq ?_;try intro
 refine cV h1 ?_
 repeat refine sq ?_;try intro
 refine G.retV ?_
 refine congrArg (fun z=>Value.tuple #[.string (ba z),.int .i64 0]) ?_
 rw [List.drop_take,Nat.add_sub_cancel_left]
theorem mcopy_spec (m s:List UInt8) (at_:Nat) (hm:m.length≤1048576) (h32:m.length%32=0) (h:at_+s.length≤m.length):FnV prog 275 [.string (ba m),.int .i64 (at_:Int),.string (ba s)] [] (.tuple #[.string (ba (m.take at_++s++m.drop (at_+s.length))),.int .i64 0]):=by
 have h1:=there_spec m at_ s.length oM
 rw [decide_eq_true oM] at h1
 have hfl:[(m.take at_).drop 0,s,(m.take m.length).drop (at_+s.length)].flatten=m.take at_++s++m.drop (at_+s.length):=by simp
 refine Fn.enter func275 rfl ntmps275 oI (fun I0 w0 => ?_)
 repeat refine sq ?_;try intro
 refine cV h1 ?_
 repeat refine sq ?_;try intro
 refine W.drawA 10 [dq _,dq _,dq _,dq _,dq _,dq _,dq _,dq _,dq _,dq _] [[],[],[0,1],[],[],[],[],[6],[5,7],[4,8]] [2,3,9] (hrest:=fun c=>nrm ?_) (hops:=by
  iterate 2 refine AllQ.aq ?_
  refine AllQ.mk (by intro c z0 Φr Lr K;refine nrm ?_;intro hK;refine o_slT 0 at_ rfl rfl rfl bd0 ⟨_,_,rfl,rfl⟩ (Nat.zero_le _) oM ?_;exact hK z0) ?_
  iterate 6 refine AllQ.aq ?_
  refine AllQ.mk (by intro c z0 Φr Lr K;refine nrm ?_;intro hK;refine o_slT (at_+s.length) m.length rfl rfl rfl ⟨_,_,rfl,rfl⟩ bd0 oM (Nat.le_refl _) ?_;exact hK z0) ?_
  exact AllQ.nil)
 repeat refine sq ?_;try intro
 rename_i v
 refine OpK.call rfl rfl rfl rfl (valuesS_spec v [ba ((m.take at_).drop 0),ba s,ba ((m.take m.length).drop (at_+s.length))]) oY (Mr:=[]) oI ?_
 rintro u Φ' Mc' ⟨b,rfl,rfl,rfl⟩
 refine nA ?_
 repeat refine sq ?_;try intro
 refine cV (joinedV_spec b v [ba ((m.take at_).drop 0),ba s,ba ((m.take m.length).drop (at_+s.length))] [(m.take at_).drop 0,s,(m.take m.length).drop (at_+s.length)] rfl oI (by rw [hfl];simp;omega)) ?_
 rw [hfl]
 repeat refine sq ?_;try intro
 refine G.retV ?_
 rfl
theorem byN_ne (n:Nat):byN n≠[]:=by
 intro h
 have:=byN_len n
 rw [h] at this
 exact absurd this oE
theorem trimLeft_spec (l:List UInt8) (h0:l≠[]) (hl:l.length≤1000000):FnV prog 55 [.string (ba l),.string (ba [0])] [] (.string (ba (trimF l))):=by
 have h:=trimB_spec l hl
 refine Fn.enter func55 rfl ntmps55 oI (fun I0 w0 => ?_)
 repeat refine sq ?_;try intro
 refine o_ixT 0 rfl rfl rfl rfl rfl oE ?_
 repeat refine sq ?_;try intro
 refine o_ixT 0 rfl rfl rfl rfl rfl oE ?_
 repeat refine sq ?_;try intro
 refine cV h ?_
 repeat refine sq ?_;try intro
 refine G.retV ?_
 rfl
theorem gexp_spec (w:Word):FnV prog 97 [w.v] [] (.int .i64 ((50*(trimF (byN w.num)).length:Nat):Int)):=by
 have h1:=wbytes_spec w
 have h2:=trimLeft_spec (byN w.num) (byN_ne _) (by rw [byN_len];decide)
 have h3:(trimF (byN w.num)).length≤32:=by
  have:=(List.dropWhile_sublist (l:=byN w.num) (· == 0)).length_le
  rw [byN_len] at this
  exact this
 refine Fn.enter func97 rfl ntmps97 oI (fun I0 w0 => ?_)
 repeat refine sq ?_;try intro
 refine cV h1 ?_
 repeat refine sq ?_;try intro
 refine cV h2 ?_
 generalize (trimF (byN w.num))=t at h3 ⊢
 repeat refine sq ?_;try intro
 refine G.retV ?_
 refine congrArg (Value.int .i64) ?_
 omega
theorem mpiece_spec (s:List UInt8) (a:Word) (n:Nat) (hs:s.length≤1000000000):FnV prog 272 [.string (ba s),a.v,.int .i64 (n:Int)] [] (.tuple #[.string (ba (partF s a n)),.int .i64 (if n≤1048576 then 0 else 1)]):=by
 by_cases hn:n≤1048576
 ·have h1:=mwithin_spec (n:Int) 1048576 oE
  rw [show max 0 (min (n:Int) 1048576)=n from by omega] at h1
  have h2:=wint_spec a
  rw [if_pos hn]
  unfold partF
  rw [if_neg oM]
  by_cases ha:a.num<s.length
  ·rw [if_pos oM,decide_eq_true oM] at h2
   rw [if_pos ha]
   generalize a.num=f at h2 ha ⊢
   have hd:((s.take s.length).drop f).length=s.length-f:=by simp
   have hd2:(s.take s.length).drop f=s.drop f:=by rw [List.take_length]
   refine Fn.enter func272 rfl ntmps272 oI (fun I0 w0 => ?_)
   repeat refine sq ?_;try intro
   refine cV h1 ?_
   repeat refine sq ?_;try intro
   refine cV h2 ?_
   repeat refine sq ?_;try intro
   refine o_slT 0 (min n (s.length-f)) rfl rfl rfl bd0 ⟨_,_,rfl,by rw [hd];split<;>omega⟩ (Nat.zero_le _) (by rw [hd];omega) ?_
   have hT2:(((s.take s.length).drop f).take (min n (s.length-f))).drop 0=(s.drop f).take n:=by
    rw [hd2,List.drop_zero,List.take_eq_take_iff]
    simp
   rw [hT2]
   have hT3:((s.drop f).take n).length≤n:=List.length_take_le _ _
   generalize (s.drop f).take n=t at hT3 ⊢
   have h3:=noughts_spec ((n-t.length:Nat):Int) oM
   rw [Int.toNat_natCast] at h3
   repeat refine sq ?_;try intro
   refine cV h3 ?_
   repeat refine sq ?_;try intro
   refine G.retV ?_
   rfl
  ·rw [if_neg ha]
   by_cases hi:a.num≤4611686018427387903
   ·rw [if_pos hi,decide_eq_true hi] at h2
    generalize a.num=f at h2 ha ⊢
    refine Fn.enter func272 rfl ntmps272 oI (fun I0 w0 => ?_)
    repeat refine sq ?_;try intro
    refine cV h1 ?_
    repeat refine sq ?_;try intro
    refine cV h2 ?_
    repeat refine sq ?_;try intro
    refine o_slT (s:=[]) 0 0 rfl rfl rfl bd0 ⟨_,_,rfl,by split<;>(try simp only [List.length_nil] at *)<;>omega⟩ (Nat.le_refl _) (Nat.le_refl _) ?_
    have hz:(List.drop 0 (List.take 0 ([]:List UInt8))).length=0:=rfl
    generalize hq:List.drop 0 (List.take 0 ([]:List UInt8))=t at hz ⊢
    have h3:=noughts_spec ((n-t.length:Nat):Int) oM
    rw [Int.toNat_natCast] at h3
    repeat refine sq ?_;try intro
    refine cV h3 ?_
    repeat refine sq ?_;try intro
    refine G.retV ?_
    subst hq
    rfl
   ·rw [if_neg hi,decide_eq_false hi] at h2
    refine Fn.enter func272 rfl ntmps272 oI (fun I0 w0 => ?_)
    repeat refine sq ?_;try intro
    refine cV h1 ?_
    repeat refine sq ?_;try intro
    refine cV h2 ?_
    repeat refine sq ?_;try intro
    refine o_slT (s:=[]) 0 0 rfl rfl rfl bd0 ⟨_,_,rfl,by split<;>(try simp only [List.length_nil] at *)<;>omega⟩ (Nat.le_refl _) (Nat.le_refl _) ?_
    have hz:(List.drop 0 (List.take 0 ([]:List UInt8))).length=0:=rfl
    generalize hq:List.drop 0 (List.take 0 ([]:List UInt8))=t at hz ⊢
    have h3:=noughts_spec ((n-t.length:Nat):Int) oM
    rw [Int.toNat_natCast] at h3
    repeat refine sq ?_;try intro
    refine cV h3 ?_
    repeat refine sq ?_;try intro
    refine G.retV ?_
    subst hq
    rfl
 ·have h1:=mwithin_spec (n:Int) 1048576 oE
  rw [show max 0 (min (n:Int) 1048576)=1048576 from by omega] at h1
  rw [if_neg hn]
  unfold partF
  rw [if_pos oM]
  refine Fn.enter func272 rfl ntmps272 oI (fun I0 w0 => ?_)
  repeat refine sq ?_;try intro
  refine cV h1 ?_
  repeat refine sq ?_;try intro
  refine G.retV ?_
  rfl
end Go.Rail
namespace Go.Rail
open Go Go.Proofs Tryz
set_option maxHeartbeats 400000
set_option maxRecDepth 4000
attribute [local irreducible] OpK G W LW wpListIn Exit.then Exit.inBlock Post rounds opRun bodyPostM intOp
set_option maxHeartbeats 1000000
def RFrm (f:Frm):Value→List Fa→Own→Prop:=fun u Φ' M' => ∃ v o,IsOwn (GoTy.sz Word) v f.stack.length o∧u=frmV f v∧Φ'=[fRow (ocells o) f.stack]∧M'=ownM 24 o
theorem own_spec (f:Frm) (sv:Value) (hs:f.stack.length≤1000000):Fn prog 21 [frmV f sv] [fRp sv f.stack] [] (RFrm f):=by
 have hc:=fun w=>cloneW_spec w f.stack hs
 refine Fn.enter func21 rfl ntmps21 oI (fun I0 w0 => ?_)
 refine W.bare (G.slice sv f.stack ?_)
 intro a1 c1 e1 k1
 subst e1
 repeat refine sq ?_;try intro
 refine o_callO rfl rfl rfl rfl (hc _) ?_
 intro v o hv
 obtain ⟨a2,c2,rfl⟩:=own_open hv
 refine nA ?_
 repeat refine sq ?_;try intro

 exact G.ret rfl (.cons (.cellA rfl rfl) .nil) (Φ':=[fRow (ocells o) f.stack]) (M':=ownM 24 o) oY (by first|exact List.Sublist.refl _|simp) ⟨_,o,hv,rfl,rfl,rfl⟩
theorem fail_spec (f:Frm) (e:Int) (sv:Value) (hs:f.stack.length≤1000000):Fn prog 103 [frmV f sv,.int .i64 e] [fRp sv f.stack] [] (RFrm (failF f e)):=by
 have hc:=own_spec f sv hs
 refine Fn.enter func103 rfl ntmps103 oI (fun I0 w0 => ?_)
 refine W.bare (G.slice sv f.stack ?_)
 intro a1 c1 e1 k1
 subst e1
 repeat refine sq ?_;try intro
 refine OpK.call rfl rfl rfl rfl hc oY oP ?_
 rintro u Φ' Mc' ⟨v,o,hv,rfl,rfl,rfl⟩
 refine G.perm ?_ oH
 obtain ⟨a2,c2,rfl⟩:=own_open hv
 refine nA ?_
 repeat refine sq ?_;try intro
 exact G.ret rfl (.cons (.cellA rfl rfl) .nil) (Φ':=[fRow (ocells o) f.stack]) (M':=ownM 24 o) oY (by first|exact List.Sublist.refl _|simp) ⟨_,o,hv,rfl,rfl,rfl⟩
theorem fright_spec (f:Frm) (sv:Value) (hr:rightF f=true):FnV prog 20 [frmV f sv] [fRp sv f.stack] (.bool true):=by
 have hr':=right_Rt.1 hr
 obtain ⟨h1,h2,h3,h4,h5,h6,h7,h8,h9,h10,h11,h12,h13,h14,h15⟩:=hr'
 clear hr
 obtain ⟨code,input,pc,stack,mem,gas,ret,status,errno,out⟩:=f
 dsimp only at *
 by_cases e4:status=4
 ·subst e4
  have he:errno≠0:=h14.2 rfl
  have ho:out=[]:=by rcases h15 with h|h|h<;>first|exact h|omega
  subst ho
  refine Fn.enter func20 rfl ntmps20 oI (fun I0 w0 => ?_)
  refine W.bare (G.slice sv stack ?_)
  intro a1 c1 e1 k1
  subst e1
  repeat refine sq ?_;try intro
  refine o_max3 rfl rfl rfl rfl rfl rfl ?_
  repeat refine sq ?_;try intro
  refine G.retV ?_
  rfl
 have he:errno=0:=Decidable.byContradiction fun h=>e4 (h14.1 h)
 subst he
 by_cases e2:status=2
 ·subst e2
  refine Fn.enter func20 rfl ntmps20 oI (fun I0 w0 => ?_)
  refine W.bare (G.slice sv stack ?_)
  intro a1 c1 e1 k1
  subst e1
  by_cases ho:out=[]
  ·subst ho
   repeat refine sq ?_;try intro
   refine o_max3 rfl rfl rfl rfl rfl rfl ?_
   repeat refine sq ?_;try intro
   refine G.retV ?_
   rfl
  ·repeat refine sq ?_;try intro
   refine o_max3 rfl rfl rfl rfl rfl rfl ?_
   repeat refine sq ?_;try intro
   refine G.retV ?_
   rfl
 by_cases e3:status=3
 ·subst e3
  refine Fn.enter func20 rfl ntmps20 oI (fun I0 w0 => ?_)
  refine W.bare (G.slice sv stack ?_)
  intro a1 c1 e1 k1
  subst e1
  by_cases ho:out=[]
  ·subst ho
   repeat refine sq ?_;try intro
   refine o_max3 rfl rfl rfl rfl rfl rfl ?_
   repeat refine sq ?_;try intro
   refine G.retV ?_
   rfl
  ·repeat refine sq ?_;try intro
   refine o_max3 rfl rfl rfl rfl rfl rfl ?_
   repeat refine sq ?_;try intro
   refine G.retV ?_
   rfl
 have ho:out=[]:=by rcases h15 with h|h|h<;>first|exact h|omega
 subst ho
 refine Fn.enter func20 rfl ntmps20 oI (fun I0 w0 => ?_)
 refine W.bare (G.slice sv stack ?_)
 intro a1 c1 e1 k1
 subst e1
 repeat refine sq ?_;try intro
 refine o_max3 rfl rfl rfl rfl rfl rfl ?_
 repeat refine sq ?_;try intro
 refine G.retV ?_
 rfl
def bgF (code input:List UInt8) (gas:Int):Frm:=⟨code,input,0,[],[],gas,[],0,0,[]⟩
theorem begin_spec (code input:List UInt8) (gas:Int) (hr:rightF (bgF code input gas)=true):FnV prog 7 [.string (ba code),.string (ba input),.int .i64 gas] [] (.tuple #[frmV (bgF code input gas) (.slice none 0 0),.int .i64 0]):=by
 have h:FnV prog 20 [frmV (bgF code input gas) (.slice none 0 0)] [fRp (.slice none 0 0) ([]:List Word)] (.bool true):=fright_spec (bgF code input gas) (.slice none 0 0) hr
 refine Fn.enter func7 rfl ntmps7 oI (fun I0 w0 => ?_)
 repeat refine sq ?_;try intro
 refine cV h ?_
 repeat refine sq ?_;try intro
 exact G.ret rfl (.cons (.cellA rfl rfl) (.cons (.tmp rfl) .nil)) (Φ':=[]) (M':=[]) oY oN ⟨rfl,rfl,rfl⟩
end Go.Rail
