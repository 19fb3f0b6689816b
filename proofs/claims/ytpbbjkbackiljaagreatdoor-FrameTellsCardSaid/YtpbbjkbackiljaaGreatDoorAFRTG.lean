/- frame.Step, frame.Run. -/
import Derived.Test.YtpbbjkbackiljaaGreatDoorRailA
import Derived.Test.YtpbbjkbackiljaaGreatDoorRailI
import Derived.Test.YtpbbjkbackiljaaGreatDoorAFPFQ
import Derived.Test.YtpbbjkbackiljaaGreatDoorAFKFM
import Derived.Test.YtpbbjkbackiljaaGreatDoorAC18BF
import Derived.Test.YtpbbjkbackiljaaGreatDoorRailJ
import Derived.Test.YtpbbjkbackiljaaGreatDoorAT1C20
import Derived.Test.YtpbbjkbackiljaaGreatDoorATETF
import Derived.Test.YtpbbjkbackiljaaGreatDoorAFNTB
import Derived.Test.YtpbbjkbackiljaaGreatDoorADEQ1
set_option linter.unusedSimpArgs false
set_option linter.unusedVariables false
namespace Go.Rail
open Go Go.Proofs Tryz
set_option maxHeartbeats 400000
set_option maxRecDepth 4000
attribute [local irreducible] OpK G W LW wpListIn Exit.then Exit.inBlock Post rounds opRun bodyPostM intOp
set_option maxHeartbeats 2000000
def RStep (p:Frm × Int):Value→List Fa→Own→Prop:=fun u Φ' M' => ∃ a c,u = .tuple #[frmV p.1 (.slice a p.1.stack.length c),.int .i64 p.2]∧Φ'=[fRp (.slice a p.1.stack.length c) p.1.stack]∧M'=[]
theorem fStep_spec (f:Frm) (sv:Value) (hr:Rt f):Fn prog 18 [frmV f sv] [fRp sv f.stack,fKc] [] (RStep (stepL keccakL f)):=by
 have hrr:=right_Rt.2 hr
 have hr0:=hr
 obtain ⟨a1,a2,a3,a4,a5,a6,a7,a8,a9,a10,a11,a12,a13,a14,a15⟩:=hr
 have h1:=fun v=>fright_spec f v hrr
 have h2:=fun v=>own_spec f v oM
 unfold stepL
 rw [hrr,if_neg (show ¬ true=false by decide)]
 by_cases hs:f.status≠0
 ·rw [if_pos hs]
  refine Fn.enter func18 rfl ntmps18 oI (fun I0 w0 => ?_)
  refine W.bare (G.slice sv f.stack ?_)
  intro a1 c1 e1 k1
  subst e1
  repeat refine sq ?_;try intro
  refine cV (h1 _) ?_
  repeat refine sq ?_;try intro
  refine OpK.call rfl rfl rfl rfl (h2 _) oY (Mr:=_) oP ?_
  rintro u Φ' Mc' ⟨v5,o,hv,rfl,rfl,rfl⟩
  obtain ⟨a2,c2,rfl⟩:=own_open hv
  refine nA ?_
  refine G.giveOwn _ _ o 49 (Mr:=_) hv oY oP ?_
  repeat refine sq ?_;try intro
  exact G.ret rfl (.cons (.cellA rfl rfl) (.cons (.tmp rfl) .nil)) (Φ':=[fRp (.slice a2 _ c2) _]) (M':=[]) oY oN ⟨a2,c2,rfl,rfl,rfl⟩
 rw [if_neg hs]
 have hs0:f.status=0:=by omega
 by_cases hp:(f.code.length:Int)≤f.pc
 ·rw [if_pos hp]
  refine Fn.enter func18 rfl ntmps18 oI (fun I0 w0 => ?_)
  refine W.bare (G.slice sv f.stack ?_)
  intro a1 c1 e1 k1
  subst e1
  repeat refine sq ?_;try intro
  refine cV (h1 _) ?_
  repeat refine sq ?_;try intro
  refine OpK.call rfl rfl rfl rfl (h2 _) oY (Mr:=_) oP ?_
  rintro u Φ' Mc' ⟨v5,o,hv,rfl,rfl,rfl⟩
  obtain ⟨a2,c2,rfl⟩:=own_open hv
  refine nA ?_
  refine G.giveOwn _ _ o 49 (Mr:=_) hv oY oP ?_
  repeat refine sq ?_;try intro
  exact G.ret rfl (.cons (.cellA rfl rfl) (.cons (.tmp rfl) .nil)) (Φ':=[fRp (.slice a2 _ c2) _]) (M':=[]) oY oN ⟨a2,c2,rfl,rfl,rfl⟩
 rw [if_neg hp]
 have hlt:f.pc.toNat<f.code.length:=by omega
 have hix:f.code[f.pc.toNat]? = some (f.code.getD f.pc.toNat 0):=by
  rw [List.getD_eq_getElem?_getD,List.getElem?_eq_getElem hlt];rfl
 generalize f.code.getD f.pc.toNat 0=ch at hix ⊢
 have hch:ch.toNat<256:=UInt8.toNat_lt _
 have h3:=find_spec ch.toNat hch
 have h4:=local_spec ch.toNat hch
 by_cases hl:localF ch.toNat=false
 ·rw [if_pos hl]
  rw [hl] at h4
  refine Fn.enter func18 rfl ntmps18 oI (fun I0 w0 => ?_)
  refine W.bare (G.slice sv f.stack ?_)
  intro a1 c1 e1 k1
  subst e1
  repeat refine sq ?_;try intro
  refine cV (h1 _) ?_
  repeat refine sq ?_;try intro
  refine o_ixG f.pc.toNat ch rfl rfl rfl rfl oM hix ?_
  repeat refine sq ?_;try intro
  refine OpK.call rfl rfl rfl rfl h3 oY (Mr:=_) oP ?_
  rintro u Φ' Mc' ⟨v1,v2,v3,rfl,ho,rfl,ha⟩
  haveI:Whole (.agg #[v1,v2,v3]) 3:=⟨⟨[v1,v2,v3],rfl,rfl,ho⟩⟩
  rw [List.nil_append]
  refine G.weaken (Φ':=[fRp (.slice a1 f.stack.length c1) f.stack,fKc]) ?_ (fun φ hφ=>List.mem_append_right _ hφ) (fun _ _ h=>h) oZ
  repeat refine sq ?_;try intro
  refine cV h4 ?_
  repeat refine sq ?_;try intro
  refine OpK.call rfl rfl rfl rfl (h2 _) oY (Mr:=_) oP ?_
  rintro u Φ' Mc' ⟨v5,o,hv,rfl,rfl,rfl⟩
  obtain ⟨a2,c2,rfl⟩:=own_open hv
  refine nA ?_
  refine G.giveOwn _ _ o 49 (Mr:=_) hv oY oP ?_
  repeat refine sq ?_;try intro
  exact G.ret rfl (.cons (.cellA rfl rfl) (.cons (.tmp rfl) .nil)) (Φ':=[fRp (.slice a2 _ c2) _]) (M':=[]) oY oN ⟨a2,c2,rfl,rfl,rfl⟩
 ·rw [if_neg hl]
  have hl:localF ch.toNat=true:=by simpa using hl
  rw [hl] at h4
  refine Fn.enter func18 rfl ntmps18 oI (fun I0 w0 => ?_)
  refine W.bare (G.slice sv f.stack ?_)
  intro a1 c1 e1 k1
  subst e1
  repeat refine sq ?_;try intro
  refine cV (h1 _) ?_
  repeat refine sq ?_;try intro
  refine o_ixG f.pc.toNat ch rfl rfl rfl rfl oM hix ?_
  repeat refine sq ?_;try intro
  refine OpK.call rfl rfl rfl rfl h3 oY (Mr:=_) oP ?_
  rintro u Φ' Mc' ⟨v1,v2,v3,rfl,ho,rfl,ha⟩
  haveI:Whole (.agg #[v1,v2,v3]) 3:=⟨⟨[v1,v2,v3],rfl,rfl,ho⟩⟩
  have h5:=fun w=>step_spec f w ch.toNat v1 v2 v3 Φ' hch hr0 hs0 oM hl ho ha
  rw [List.nil_append]
  refine G.weaken (Φ':=fRp (.slice a1 f.stack.length c1) f.stack::fKc::Φ') ?_ (fun φ hφ => ?_) (fun _ _ h=>h) oZ
  ·repeat refine sq ?_;try intro
   refine o_callV rfl rfl rfl rfl h4 rfl (hΦ:=⟨fun I hp φ hφ=>(List.not_mem_nil hφ).elim⟩) ?_
   repeat refine sq ?_;try intro
   refine OpK.call rfl rfl rfl rfl (h5 _) ⟨fun I hp=>hp⟩ (Mr:=_) oP ?_
   rintro u Φ2 Mc' ⟨a2,c2,rfl,rfl,rfl⟩
   refine nA ?_
   repeat refine sq ?_;try intro
   exact G.ret rfl (.cons (.cellA rfl rfl) (.cons (.tmp rfl) .nil)) (Φ':=[fRp (.slice a2 _ c2) _]) (M':=[]) oY oN ⟨a2,c2,rfl,rfl,rfl⟩
  ·rcases List.mem_cons.1 hφ with rfl|hφ
   ·exact List.mem_append_right _ (.head _)
   ·rcases List.mem_cons.1 hφ with rfl|hφ
    ·exact List.mem_append_right _ (.tail _ (.head _))
    ·exact List.mem_append_left _ hφ
end Go.Rail
namespace Go.Rail
open Go Go.Proofs Tryz
set_option maxHeartbeats 400000
set_option maxRecDepth 4000
attribute [local irreducible] OpK G W LW wpListIn Exit.then Exit.inBlock Post rounds opRun bodyPostM intOp
set_option maxHeartbeats 2000000
def RRuns (p:Frm × Nat):Value→List Fa→Own→Prop:=fun u Φ' M' => ∃ a c,u = .tuple #[frmV p.1 (.slice a p.1.stack.length c),.int .i64 (p.2:Int),.int .i64 0]∧Φ'=[fRp (.slice a p.1.stack.length c) p.1.stack]∧M'=[]
structure RnSt where
 i:Nat
 g:Frm
 a:Option Addr
 c:Nat
theorem fRun_spec (f:Frm) (sv:Value) (m:Nat) (hm:m≤100000) (hr:Rt f):Fn prog 22 [frmV f sv,.int .i64 (m:Int)] [fRp sv f.stack,fKc] [] (RRuns (runL keccakL m f)):=by
 have h1:=fun v=>fright_spec f v (right_Rt.2 hr)
 have h2:=fun v=>own_spec f v (by have:=hr.2.2.2.2.2.2.2.2.1;omega)
 refine Fn.enter func22 rfl ntmps22 oI (fun I0 w0 => ?_)
 refine W.bare (G.slice sv f.stack ?_)
 intro a1 c1 e1 k1
 subst e1
 repeat refine sq ?_;try intro
 rename_i b2 b4
 refine OpK.call rfl rfl rfl rfl (h2 _) oY (Mr:=_) oP ?_
 rintro u Φ' Mc' ⟨v5,o,hv,rfl,rfl,rfl⟩
 obtain ⟨a2,c2,rfl⟩:=own_open hv
 refine nA ?_
 refine G.giveOwn _ _ o 49 (Mr:=_) hv oY oP ?_
 repeat refine sq ?_;try intro
 refine cV (h1 _) ?_
 repeat refine sq ?_;try intro
 refine W.lp (S:=RnSt) (fun s=>([fRp (.slice s.a s.g.stack.length s.c) s.g.stack,fKc],[(25,.int .i64 (s.i:Int)),(24,.int .i64 (m:Int)),(1,.int .i64 (m:Int)),(2,.pointer (some ⟨b2,0,none⟩)),(4,.pointer (some ⟨b4,0,none⟩))],[(b4,Ob (frmC (bgF [] [] 0) (.slice none 0 0)) 26),(b2,Ob (frmC s.g (.slice s.a s.g.stack.length s.c)) 26)])) (fun s=>s.i≤m∧Rt s.g∧runL keccakL m f=((runL keccakL (m-s.i) s.g).1,(runL keccakL (m-s.i) s.g).2+s.i)) (fun s=>m-s.i) ⟨0,f,a2,c2⟩ ?_ (h0:=⟨Nat.zero_le _,hr,rfl⟩)
 rintro ⟨i,g,ag,cg⟩ ⟨hi,hrg,hrun⟩
 dsimp only at hi hrg hrun ⊢
 rw [hrun]
 by_cases he:i=m
 ·subst he
  rw [Nat.sub_self,show runL keccakL 0 g=(g,0) from rfl,Nat.zero_add]
  repeat refine sq ?_;try intro
  exact G.ret rfl (.cons (.cellA rfl rfl) (.cons (.tmp rfl) (.cons (.tmp rfl) .nil))) (Φ':=[fRp (.slice ag _ cg) _]) (M':=[]) oY oN ⟨ag,cg,rfl,rfl,rfl⟩
 ·have h3:=fun v=>fStep_spec g v hrg
  obtain ⟨k,hk⟩ : ∃ k,m-i=k+1:=⟨m-i-1,by omega⟩
  have hk2:m-(i+1)=k:=by omega
  have hlaw:=stepL_law keccakL hrg
  rw [hk,runL_s]
  rw [hk,runL_s] at hrun
  generalize hq:stepL keccakL g=q at h3 hrun hlaw ⊢
  obtain ⟨g2,e⟩:=q
  dsimp only at hlaw hrun ⊢
  by_cases hz:e≠0
  ·rw [if_pos hz,Nat.zero_add]
   repeat refine sq ?_;try intro
   refine OpK.call rfl rfl rfl rfl (h3 _) oY (Mr:=_) oP ?_
   rintro u Φ' Mc' ⟨a3,c3,rfl,rfl,rfl⟩
   refine nA ?_
   repeat refine sq ?_;try intro
   exact G.ret rfl (.cons (.cellA rfl rfl) (.cons (.tmp rfl) (.cons (.tmp rfl) .nil))) (Φ':=[fRp (.slice ag _ cg) _]) (M':=[]) oY oN ⟨ag,cg,rfl,rfl,rfl⟩
  ·obtain rfl:e=0:=by omega
   rw [if_neg hz] at hrun ⊢
   obtain ⟨_,hrt,_⟩:=hlaw rfl
   repeat refine sq ?_;try intro
   refine OpK.call rfl rfl rfl rfl (h3 _) oY (Mr:=_) oP ?_
   rintro u Φ' Mc' ⟨a3,c3,rfl,rfl,rfl⟩
   refine nA ?_
   repeat refine sq ?_;try intro
   refine G.ag (S:=RnSt) ⟨i+1,g2,a3,c3⟩ (hpre:=⟨by dsimp only;omega,hrt,?_⟩) (hM := .cons _ oZ)
   dsimp only
   rw [hk2,Nat.add_assoc,Nat.add_comm 1 i]
end Go.Rail
namespace Go.Rail
open Go Go.Proofs
set_option maxHeartbeats 400000
set_option maxRecDepth 4000
attribute [local irreducible] OpK G W LW wpListIn Exit.then Exit.inBlock Post rounds opRun bodyPostM intOp
set_option maxHeartbeats 4000000
def u8I (n:Int):UInt8:=UInt8.ofNat n.toNat
def okR (a:Int × Int):Prop:=(-9223372036854775808≤a.1∧a.1≤9223372036854775807)∧(-9223372036854775808≤a.2∧a.2≤9223372036854775807)
theorem u8I_nat (n:Int) (h0:0≤n) (h:n<256):((u8I n).toNat:Int)=n:=by
 rw [u8I,UInt8.toNat_ofNat',Nat.mod_eq_of_lt oM];omega
structure CdSt where
 i:Nat
 xs:List UInt8
 w:Value
 o:OR
end Go.Rail
namespace Go.Rail
open Go Go.Proofs Tryz
set_option maxHeartbeats 400000
set_option maxRecDepth 4000
attribute [local irreducible] OpK G W LW wpListIn Exit.then Exit.inBlock Post rounds opRun bodyPostM intOp
set_option maxHeartbeats 4000000
theorem pick17_spec (c n:Int) (h1 : -9223372036854775808≤c) (hn:0<n):FnV prog 11 [.int .i64 c,.int .i64 n] [] (.int .i64 (pickI c n)):=by
 refine Fn.enter func11 rfl ntmps11 oI (fun I0 w0 => ?_)
 unfold pickI
 by_cases hc:c<0
 ·rw [if_pos hc]
  repeat refine sq ?_;try intro
  refine G.retV ?_
  rfl
 ·rw [if_neg hc]
  repeat refine sq ?_;try intro
  refine G.retV ?_
  rfl
def locB:List UInt8:=[0x01,0x02,0x03,0x04,0x06,0x0a,0x10,0x14,0x15,0x16,0x19,0x1b,0x20,0x35,0x36,0x37,0x38,0x39,0x3d,0x3e,0x50,0x51,0x52,0x53,0x56,0x57,0x58,0x59,0x5a,0x5b,0x5b,0x5f,0x80,0x81,0x82,0x90,0x91,0xf3,0xfd,0x00,0xfe,0x0c]
def progP (a:Int × Int):List UInt8 :=
 if pickI a.1 5=0∨pickI a.1 5=1 then [96,u8I (pickI a.2 80)]
 else if pickI a.1 5=2 then [97,u8I (pickI a.2 3),u8I (pickI (a.2.tdiv 7) 256)]
 else [locB.getD (pickI a.2 42).toNat 0]
theorem progP_len (a:Int × Int):(progP a).length≤3:=by
 unfold progP
 split
 ·simp
 ·split<;>simp
def progT (raw:List (Int × Int)) (i:Nat):List UInt8:=(raw.take i).flatMap progP
def progR (raw:List (Int × Int)):List UInt8:=progT raw 40
theorem progT_len (raw:List (Int × Int)) : ∀ i,(progT raw i).length≤3*i:=by
 have h : ∀ l:List (Int × Int),(l.flatMap progP).length≤3*l.length:=by
  intro l
  induction l with
  | nil=>exact Nat.zero_le _
  | cons a l ih =>
   have:=progP_len a
   rw [List.flatMap_cons,List.length_append,List.length_cons]
   omega
 intro i
 have:=h (raw.take i)
 rw [List.length_take] at this
 unfold progT
 omega
theorem progT_step (raw:List (Int × Int)) (i:Nat) (h:i<raw.length):progT raw (i+1)=progT raw i++progP raw[i]:=by
 rw [progT,List.take_succ_eq_append_getElem h,List.flatMap_append]
 simp [progT]
theorem progT_end (raw:List (Int × Int)) (i:Nat) (h:raw.length≤i) (h2:i≤40):progR raw=progT raw i:=by
 rw [progR,progT,progT,List.take_of_length_le h,List.take_of_length_le oM]
theorem tdiv7 (n:Int) (h1 : -9223372036854775808≤n) (h2:n≤9223372036854775807) : -4000000000000000000≤n.tdiv 7∧n.tdiv 7≤4000000000000000000:=by
 rw [Int.tdiv_eq_ediv]
 have h3:(7:Int).sign=1:=rfl
 rw [h3]
 split<;>omega
theorem u8g (n:Int) (h0:0≤n) (h:n<256):Value.int .u8 n=GoFlat.val (u8I n):=by
 show Value.int .u8 n=Value.int .u8 (((u8I n).toNat:Nat):Int)
 rw [u8I_nat n h0 h]
theorem program_spec (v:Value) (raw:List (Int × Int)) (hok : ∀ a∈raw,okR a):FnV prog 33 [v] [fRp v raw] (.string (ba (progR raw))):=by
 refine Fn.enter func33 rfl ntmps33 oI (fun I0 w0 => ?_)
 refine W.bare (G.slice v raw ?_);intro ad cap e1 k1;subst e1
 refine G.code ?_
 repeat refine sq ?_;try intro
 refine o_litV (xs:=locB) rfl rfl rfl (by unfold locB;repeat (first|exact FVs.nil|refine FVs.cons rfl ?_)) oY oY rfl rfl ?_
 intro vl
 refine G.slice vl locB ?_
 intro al cl el kl
 subst el
 rw [show locB.length=42 from rfl]
 repeat refine sq ?_;try intro
 refine W.lp (S:=CdSt) (fun s=>([fRow (ocells s.o) s.xs,fRp (.slice ad raw.length cap) raw,fRp (.slice al 42 cl) locB],[(5,.int .i64 (s.i:Int)),(3,s.w),(4,.slice al 42 cl),(0,.slice ad raw.length cap)],ownM 5 s.o)) (fun s=>s.i≤raw.length∧s.i≤40∧s.xs=progT raw s.i∧IsOwn 1 s.w s.xs.length s.o) (fun s=>40-s.i) ⟨0,[],.slice none 0 0,none⟩ ?_ (h0:=⟨Nat.zero_le _,Nat.zero_le _,rfl,⟨rfl,rfl⟩⟩)
 rintro ⟨i,xs,w,o⟩ ⟨hi,hi40,hxs,hown⟩
 dsimp only at hi hi40 hxs hown ⊢
 have hlen:=progT_len raw i
 rw [← hxs] at hlen
 by_cases hil:i<raw.length∧i<40
 ·obtain ⟨hil,hi4⟩:=hil
  have hst:=progT_step raw i hil
  rw [← hxs] at hst
  have ho:=hok _ (List.getElem_mem hil)
  unfold okR at ho
  obtain ⟨⟨o1,o2⟩,o3,o4⟩:=ho
  have hp5:=pick17_spec raw[i].1 5 o1 oE
  have p5:=pickI_nn raw[i].1 5 oE
  repeat refine sq ?_;try intro
  refine o_indexP (off:=1) Prod.snd rfl rfl rfl rfl oM oM rfl ?_;intro q
  repeat refine sq ?_;try intro
  refine o_indexP (off:=0) Prod.fst rfl rfl rfl rfl oM oM rfl ?_;intro q
  repeat refine sq ?_;try intro
  refine cV hp5 ?_
  generalize hra:raw[i]=a at *
  unfold progP at hst
  by_cases h01:pickI a.1 5=0∨pickI a.1 5=1
  ·rw [if_pos h01] at hst
   have hp80:=pick17_spec a.2 80 o3 oE
   have p80:=pickI_nn a.2 80 oE
   have hu:=u8g (pickI a.2 80) oM oM
   rcases h01 with h0|h0
   all_goals
    repeat refine sq ?_;try intro
    refine cV hp80 ?_
    repeat refine sq ?_;try intro
    refine o_litV (xs:=[(96:UInt8),u8I (pickI a.2 80)]) rfl rfl rfl (.cons rfl (.cons hu .nil)) oY oY rfl rfl ?_
    intro u1
    repeat refine sq ?_;try intro
    refine o_app2 (Mr:=[]) o (xs:=xs) (ys:=[(96:UInt8),u8I (pickI a.2 80)]) hown ⟨by simp;omega,by simp;omega,rfl⟩ rfl rfl rfl rfl oY oY oP ?_
    intro w1 o1 hown1
    dsimp only [List.nil_append]
    rw [← hst] at hown1 ⊢
    repeat refine sq ?_;try intro
    exact G.ag (S:=CdSt) ⟨i+1,progT raw (i+1),w1,o1⟩ (hpre:=⟨by dsimp only;omega,by dsimp only;omega,rfl,hown1⟩)
  ·rw [if_neg h01] at hst
   by_cases h2:pickI a.1 5=2
   ·rw [if_pos h2] at hst
    have t7:=tdiv7 a.2 o3 o4
    have hp3:=pick17_spec a.2 3 o3 oE
    have p3:=pickI_nn a.2 3 oE
    have hu3:=u8g (pickI a.2 3) oM oM
    have hp256:=pick17_spec (a.2.tdiv 7) 256 oM oE
    have p256:=pickI_nn (a.2.tdiv 7) 256 oE
    have hu256:=u8g (pickI (a.2.tdiv 7) 256) oM oM
    repeat refine sq ?_;try intro
    refine cV hp3 ?_
    repeat refine sq ?_;try intro
    refine o_int rfl rfl rfl rfl (i_quoI oE oM oM) ?_
    repeat refine sq ?_;try intro
    refine cV hp256 ?_
    repeat refine sq ?_;try intro
    refine o_litV (xs:=[(97:UInt8),u8I (pickI a.2 3),u8I (pickI (a.2.tdiv 7) 256)]) rfl rfl rfl (.cons rfl (.cons hu3 (.cons hu256 .nil))) oY oY rfl rfl ?_
    intro u1
    repeat refine sq ?_;try intro
    refine o_app2 (Mr:=[]) o (xs:=xs) (ys:=[(97:UInt8),u8I (pickI a.2 3),u8I (pickI (a.2.tdiv 7) 256)]) hown ⟨by simp;omega,by simp;omega,rfl⟩ rfl rfl rfl rfl oY oY oP ?_
    intro w1 o1 hown1
    dsimp only [List.nil_append]
    rw [← hst] at hown1 ⊢
    repeat refine sq ?_;try intro
    exact G.ag (S:=CdSt) ⟨i+1,progT raw (i+1),w1,o1⟩ (hpre:=⟨by dsimp only;omega,by dsimp only;omega,rfl,hown1⟩)
   ·rw [if_neg h2] at hst
    have hp42:=pick17_spec a.2 42 o3 oE
    have p42:=pickI_nn a.2 42 oE
    have hlt:(pickI a.2 42).toNat<locB.length:=by show _<42;omega
    have hgd:locB.getD (pickI a.2 42).toNat 0=locB[(pickI a.2 42).toNat]'hlt:=by
     rw [List.getD_eq_getElem?_getD,List.getElem?_eq_getElem hlt];rfl
    rw [hgd] at hst
    repeat refine sq ?_;try intro
    refine cV hp42 ?_
    repeat refine sq ?_;try intro
    refine o_app2 (Mr:=[]) o (xs:=xs) (ys:=[locB[(pickI a.2 42).toNat]'hlt]) hown ⟨by simp;omega,by simp;omega,rfl⟩ rfl rfl rfl rfl oY oY oP ?_
    intro w1 o1 hown1
    dsimp only [List.nil_append]
    rw [← hst] at hown1 ⊢
    repeat refine sq ?_;try intro
    exact G.ag (S:=CdSt) ⟨i+1,progT raw (i+1),w1,o1⟩ (hpre:=⟨by dsimp only;omega,by dsimp only;omega,rfl,hown1⟩)
 ·have e:progR raw=xs:=by
   rw [hxs]
   by_cases h:i=40
   ·subst h;rfl
   ·exact progT_end raw i oM hi40
  rw [e]
  have hil2:i=raw.length∨(i<raw.length∧i=40):=by omega
  refine W.bare (G.giveOwn2 (Mr:=[]) w xs o 5 hown oY oP ?_)
  refine G.code ?_
  rcases hil2 with h|⟨h,h2⟩
  ·repeat refine sq ?_;try intro
   refine G.retV ?_
   rfl
  ·repeat refine sq ?_;try intro
   refine G.retV ?_
   rfl
def frmR (raw:List (Int × Int)) (input:List UInt8) (gas:Int):Frm:=⟨progR raw,input.take 60,0,[],[],pickI gas 4000,(input.take 60).drop ((input.take 60).length/2),0,0,[]⟩
theorem new_Rt {code input ret:List UInt8} {gas:Int} (h1:code.length≤49152) (h2:input.length≤1048576) (h3:ret.length≤1048576) (h4:0≤gas) (h5:gas≤2000000):Rt ⟨code,input,0,[],[],gas,ret,0,0,[]⟩ :=
 ⟨h1,h2,h3,Nat.zero_le _,Int.le_refl _,(by decide:(0:Int)≤9007199254740992),h4,h5,Nat.zero_le _,Nat.zero_le _,rfl,Int.le_refl _,(by decide:(0:Int)≤4),(by decide:(0:Int)≠0↔(0:Int)=4),.inl rfl⟩
theorem frmR_Rt (raw:List (Int × Int)) (input:List UInt8) (gas:Int):Rt (frmR raw input gas):=by
 have h1:=progT_len raw 40
 have h2:=pickI_nn gas 4000 oE
 exact new_Rt (by show (progT raw 40).length≤_;omega) (by rw [List.length_take];omega) (by rw [List.length_drop,List.length_take];omega) h2.1 oM
theorem frameR_spec (v:Value) (raw:List (Int × Int)) (input:List UInt8) (gas:Int) (hok : ∀ a∈raw,okR a) (hg : -9223372036854775808≤gas) (hi:input.length≤4611686018427387904):FnV prog 14 [v,.string (ba input),.int .i64 gas] [fRp v raw] (frmV (frmR raw input gas) (.slice none 0 0)):=by
 have h1:=program_spec v raw hok
 have h2:=pick17_spec gas 4000 hg oE
 unfold frmR
 generalize progR raw=code at h1 ⊢
 generalize pickI gas 4000=g at h2 ⊢
 obtain ⟨n60,hn60⟩ : ∃ n,n=min input.length 60:=⟨_,rfl⟩
 have hin:(input.take n60).drop 0=input.take 60:=by
  rw [List.drop_zero,hn60]
  by_cases h:input.length≤60
  ·rw [Nat.min_eq_left h,List.take_of_length_le h,List.take_of_length_le (Nat.le_refl _)]
  ·rw [Nat.min_eq_right oM]
 have hil:(input.take 60).length≤60:=by rw [List.length_take];omega
 generalize input.take 60=inp at hin hil ⊢
 refine Fn.enter func14 rfl ntmps14 oI (fun I0 w0 => ?_)
 refine W.bare (G.slice v raw ?_);intro ad cap e1 k1;subst e1
 refine G.code ?_
 repeat refine sq ?_;try intro
 rename_i b6
 refine W.drawAl 11 10 26 [dq _,dq _,dq _,dq _,dq _,dq _,dq _,dq _,dq _,dq _,dp] [[],[0],[],[],[3],[4],[2,5],[],[7],[1,6,8],[]] [9,10] (hrest:=fun c=>nrmX ?_) (hops:=by
  iterate 1 refine AllX.au ?_
  refine AllX.a01 ?_ rfl (by intro c z0 Φr Lr K;refine nrmX ?_;intro hK;refine cV h1 ?_;exact hK z0) (by intro c z0 Φr Lr K;refine nrmX ?_;intro hK;refine cV h1 ?_;exact hK z0)
  iterate 3 refine AllX.au ?_
  refine AllX.a01 ?_ rfl (by intro c z0 Φr Lr K;refine nrmX ?_;intro hK;refine o_min rfl rfl rfl rfl (v := .int .i64 ((n60:Nat):Int)) (by rw [hn60];congr 1;split<;>omega) ?_;exact hK z0) (by intro c z0 Φr Lr K;refine nrmX ?_;intro hK;refine o_min rfl rfl rfl rfl (v := .int .i64 ((n60:Nat):Int)) (by rw [hn60];congr 1;split<;>omega) ?_;exact hK z0)
  refine AllX.a01 ?_ rfl (by intro c z0 Φr Lr K;refine nrmX ?_;intro hK;refine o_slT 0 n60 rfl rfl rfl bd0 (bdS rfl) oM oM ?_;rw [hin];exact hK z0) (by intro c z0 Φr Lr K;refine nrmX ?_;intro hK;refine o_slT 0 n60 rfl rfl rfl bd0 (bdS rfl) oM oM ?_;rw [hin];exact hK z0)
  iterate 1 refine AllX.au ?_
  refine AllX.a01 ?_ rfl (by intro c z0 Φr Lr K;refine nrmX ?_;intro hK;refine cV h2 ?_;exact hK z0) (by intro c z0 Φr Lr K;refine nrmX ?_;intro hK;refine cV h2 ?_;exact hK z0)
  iterate 2 refine AllX.au ?_
  exact AllX.end)
 repeat refine sq ?_;try intro
 refine G.retV ?_
 rw [List.take_length]
 rfl
theorem rsame_spec (f:Frm) (sv tv:Value) (hs:f.stack.length≤1000000):FnV prog 17 [frmV f sv,frmV f tv] [fRp sv f.stack,fRp tv f.stack] (.bool true):=by
 have h1:=fun v u=>samew_spec v u f.stack f.stack hs
 rw [decide_eq_true (show f.stack=f.stack from rfl)] at h1
 refine Fn.enter func17 rfl ntmps17 oI (fun I0 w0 => ?_)
 refine W.bare (G.slice sv f.stack ?_);intro a1 c1 e1 k1;subst e1
 refine G.slice tv f.stack ?_;intro a2 c2 e2 k2;subst e2
 refine G.code ?_
 have e1:f.code=f.code:=rfl
 have e2:f.input=f.input:=rfl
 have e3:f.mem=f.mem:=rfl
 have e4:f.ret=f.ret:=rfl
 have e5:f.out=f.out:=rfl
 have e6:decide (f.pc=f.pc)=true:=decide_eq_true rfl
 repeat refine sq ?_;try intro
 refine cV (h1 _ _) ?_
 repeat refine sq ?_;try intro
 refine G.retV ?_
 rfl
end Go.Rail
namespace Go.Rail
open Go Go.Proofs Tryz
set_option maxHeartbeats 400000
set_option maxRecDepth 4000
attribute [local irreducible] OpK G W LW wpListIn Exit.then Exit.inBlock Post rounds opRun bodyPostM intOp
set_option maxHeartbeats 2000000
structure JpSt where
 k:Nat
 p:Nat
 f:Nat
 w:Value
 o:OR
theorem jumps14_spec (l:List UInt8) (hl:l.length≤100000):Fn prog 73 [.string (ba l)] [] [] (ROwn 3 (jmL l)):=by
 refine Fn.enter func73 rfl ntmps73 oI (fun I0 w0 => ?_)
 repeat refine sq ?_;try intro
 refine W.lp (S:=JpSt) (fun s=>([fRow (ocells s.o) (jmT l s.k)],[(4,.int .i64 (s.p:Int)),(3,s.w),(0,.string (ba l))],ownM 3 s.o)) (fun s=>l.length≤s.f+s.p∧s.k≤(plc l).length∧(plc l).drop s.k=plcF l s.f s.p∧s.p≤l.length+100∧IsOwn 1 s.w (jmT l s.k).length s.o) (fun s=>(plc l).length-s.k) ⟨0,0,l.length,.slice none 0 0,none⟩ ?_ (h0:=⟨by dsimp only;omega,Nat.zero_le _,rfl,by dsimp only;omega,rfl,rfl⟩) (hΦ:=by show Ents _ [fRow [] ([]:List Int)];infer_instance)
 rintro ⟨k,p,f,w,o⟩ ⟨hf,hk,hd,hp100,hown⟩
 dsimp only at hf hk hd hp100 hown ⊢
 by_cases hp:p<l.length
 ·obtain ⟨g,rfl,hg1,hg2⟩:=plcF_step hf hp
  rw [hg1] at hd
  have hkl:k<(plc l).length:=by
   rcases Nat.lt_or_ge k (plc l).length with h|h
   ·exact h
   ·rw [List.drop_eq_nil_of_le h] at hd;cases hd
  have hkp:(plc l)[k]? = some p:=by
   have:=congrArg List.head? hd
   rw [List.head?_drop] at this;exact this
  have hd2:(plc l).drop (k+1)=plcF l g (p+1+behN (l.getD p 0).toNat):=by
   have:=congrArg List.tail hd
   rwa [List.tail_drop] at this
  have hst:=jmT_step l k p hkp
  have hlen:=jmT_len l k
  have hgd:l.getD p 0=l[p]:=by rw [List.getD_eq_getElem?_getD,List.getElem?_eq_getElem hp];rfl
  rw [hgd] at hd2 hst hg2
  have hch:l[p].toNat<256:=UInt8.toNat_lt _
  have hb:=rbehind_spec l[p].toNat hch
  have hb2:behN l[p].toNat≤32:=by unfold behN;split<;>omega
  by_cases h91:l[p].toNat=91
  ·rw [if_pos h91] at hst
   repeat refine sq ?_;try intro
   refine o_app2 (Mr:=[]) o (xs:=jmT l k) (ys:=[(p:Int)]) hown ⟨by simp;omega,by simp;omega,rfl⟩ rfl rfl rfl rfl oY oY oP ?_
   intro w2 o2 hown2
   rw [← hst] at hown2 ⊢
   dsimp only [List.nil_append]
   repeat refine sq ?_;try intro
   refine cV hb ?_
   repeat refine sq ?_;try intro
   exact G.ag (S:=JpSt) ⟨k+1,p+1+behN l[p].toNat,g,w2,o2⟩ (hpre:=⟨hg2,hkl,hd2,by dsimp only;omega,hown2⟩)
  ·rw [if_neg h91,List.append_nil] at hst
   repeat refine sq ?_;try intro
   refine cV hb ?_
   repeat refine sq ?_;try intro
   rw [← hst] at hown ⊢
   exact G.ag (S:=JpSt) ⟨k+1,p+1+behN l[p].toNat,g,w,o⟩ (hpre:=⟨hg2,hkl,hd2,by dsimp only;omega,hown⟩)
 ·have hd':=hd
  rw [plcF_done oM] at hd'
  have hke:k=(plc l).length:=by
   have:=List.drop_eq_nil_iff.1 hd'
   omega
  subst hke
  rw [jmT_all] at hown ⊢
  repeat refine sq ?_;try intro
  exact G.ret rfl (.cons (.tmp rfl) .nil) (Φ':=[fRow (ocells o) (jmL l)]) (M':=ownM 3 o) oY oZ ⟨o,hown,rfl,rfl⟩
theorem in17_spec (v:Value) (m:Nat) (f:Nat→Int) (n:Int) (hm:m≤1000000):FnV prog 72 [v,.int .i64 n] [fRp v (rowZ m f)] (.bool (decide (n∈rowZ m f))):=by
 have hmem:n∈rowZ m f ↔ ∃ i,i<m∧f i=n:=by
  unfold rowZ
  rw [List.mem_map]
  constructor
  ·rintro ⟨i,hi,rfl⟩;exact ⟨i,List.mem_range.1 hi,rfl⟩
  ·rintro ⟨i,hi,rfl⟩;exact ⟨i,List.mem_range.2 hi,rfl⟩
 have hlen:(rowZ m f).length=m:=rowZ_length m f
 refine Fn.enter func72 rfl ntmps72 oI (fun I0 w0 => ?_)
 refine W.bare (G.slice v (rowZ m f) ?_);intro a1 c1 e1 k1;subst e1
 rw [rowZ_length]
 refine G.code ?_
 repeat refine sq ?_;try intro
 refine W.lp (S:=Nat) (fun i=>([fRp (.slice a1 m c1) (rowZ m f)],[(5,.int .i64 (i:Int)),(1,.int .i64 n),(0,.slice a1 m c1)],[])) (fun i=>i≤m ∧ ∀ k<i,f k≠n) (fun i=>m-i) 0 ?_ (h0:=⟨Nat.zero_le _,fun k h=>absurd h (Nat.not_lt_zero _)⟩)
 rintro i ⟨hi,hno⟩
 dsimp only
 by_cases he:i=m
 ·subst he
  rw [decide_eq_false (fun h=>by obtain ⟨k,hk,e⟩:=hmem.1 h;exact hno k hk e)]
  repeat refine sq ?_;try intro
  refine G.retV ?_
  rfl
 ·by_cases hf:f i=n
  ·rw [decide_eq_true (hmem.2 ⟨i,by omega,hf⟩)]
   repeat refine sq ?_;try intro
   refine G.retV ?_
   rfl
  ·repeat refine sq ?_;try intro
   exact G.ag (S:=Nat) (i+1) (hpre:=⟨by omega,fun k hk=>by
    by_cases e:k=i
    ·subst e;exact hf
    ·exact hno k oM⟩)
theorem num17_spec (w:Word) (h:w.num≤4611686018427387903):FnV prog 79 [w.v] [] (.int .i64 ((w.num:Nat):Int)):=by
 have h1:=rint_spec w
 rw [if_pos h,decide_eq_true h] at h1
 refine Fn.enter func79 rfl ntmps79 oI (fun I0 w0 => ?_)
 repeat refine sq ?_;try intro
 refine cV h1 ?_
 repeat refine sq ?_;try intro
 refine G.retV ?_
 rfl
theorem Num17_spec (w:Word):FnV prog 68 [w.v] [] (.int .i64 ((numF w:Nat):Int)):=by
 have h:=rint_spec w
 unfold numF
 by_cases h1:w.num≤4611686018427387903
 ·rw [if_pos h1,decide_eq_true h1] at h
  generalize w.num=n at h h1 ⊢
  by_cases h2:n≤1099511627776
  ·rw [Nat.min_eq_left h2]
   refine Fn.enter func68 rfl ntmps68 oI (fun I0 w0 => ?_)
   repeat refine sq ?_;try intro
   refine cV h ?_
   repeat refine sq ?_;try intro
   refine G.retV ?_
   rfl
  ·rw [Nat.min_eq_right oM]
   refine Fn.enter func68 rfl ntmps68 oI (fun I0 w0 => ?_)
   repeat refine sq ?_;try intro
   refine cV h ?_
   repeat refine sq ?_;try intro
   refine G.retV ?_
   rfl
 ·rw [if_neg h1,decide_eq_false h1] at h
  rw [Nat.min_eq_right oM]
  refine Fn.enter func68 rfl ntmps68 oI (fun I0 w0 => ?_)
  repeat refine sq ?_;try intro
  refine cV h ?_
  repeat refine sq ?_;try intro
  refine G.retV ?_
  rfl
theorem own17_spec (f:Frm) (sv:Value) (hs:f.stack.length≤1000000):Fn prog 36 [frmV f sv] [fRp sv f.stack] [] (RFrm f):=by
 refine Fn.enter func36 rfl ntmps36 oI (fun I0 w0 => ?_)
 refine W.bare (G.slice sv f.stack ?_)
 intro a1 c1 e1 k1
 subst e1
 repeat refine sq ?_;try intro
 refine o_app2 (α:=Word) (Mr:=_) none (xs:=[]) (ys:=f.stack) ⟨rfl,rfl⟩ ⟨by simp;omega,by simp;omega,rfl⟩ rfl rfl rfl rfl (show Ent' _ (fRow [] ([]:List Word)) from oY) oY (by rw [show ownM 49 none=[] from rfl,List.append_nil]) ?_
 intro w o ho
 rw [List.nil_append] at ho ⊢
 obtain ⟨a2,c2,rfl⟩:=own_open ho
 refine nA ?_
 repeat refine sq ?_;try intro
 exact G.ret rfl (.cons (.cellA rfl rfl) .nil) (Φ':=[fRow (ocells o) f.stack]) (M':=ownM 49 o) oY (.cons _ (.cons _ (.refl _))) ⟨_,o,ho,rfl,rfl,rfl⟩
theorem Fail17_spec (f:Frm) (e:Int) (a:Option Addr) (n c:Nat):FnV prog 38 [frmV f (.slice a n c),.int .i64 e] [] (frmV (failF f e) (.slice a n c)):=by
 refine Fn.enter func38 rfl ntmps38 oI (fun I0 w0 => ?_)
 repeat refine sq ?_;try intro
 refine G.retV ?_
 rfl
end Go.Rail
