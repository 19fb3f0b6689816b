/- keccak: Permute, low, Pad, slices.Chunk. -/
import Derived.Test.YtjhdodkagchhkaaGreatDoorRailA
import Derived.Test.YtjhdodkagchhkaaGreatDoorRailI
import Derived.Test.YtjhdodkagchhkaaGreatDoorAK1K2
import Derived.Test.YtjhdodkagchhkaaGreatDoorRailJ
set_option linter.unusedSimpArgs false
set_option linter.unusedVariables false
namespace Go.Rail
open Go Go.Proofs Tryz
set_option maxHeartbeats 400000
set_option maxRecDepth 4000
attribute [local irreducible] OpK G W LW wpListIn Exit.then Exit.inBlock Post rounds opRun bodyPostM intOp
set_option maxHeartbeats 1000000
def kcL:List Nat:=[0x0000000000000001,0x0000000000008082,0x800000000000808a,0x8000000080008000,0x000000000000808b,0x0000000080000001,0x8000000080008081,0x8000000000008009,0x000000000000008a,0x0000000000000088,0x0000000080008009,0x000000008000000a,0x000000008000808b,0x800000000000008b,0x8000000000008089,0x8000000000008003,0x8000000000008002,0x8000000000000080,0x000000000000800a,0x800000008000000a,0x8000000080008081,0x8000000000008080,0x0000000080000001,0x8000000080008008]
def kcN (i:Nat):Nat:=kcL.getD i 0
theorem kcN_lt (i:Nat):kcN i<18446744073709551616:=by
 unfold kcN
 by_cases h:i<kcL.length
 ·have : ∀ j<kcL.length,kcL.getD j 0<18446744073709551616:=of_decide_eq_true kR
  exact this i h
 ·rw [List.getD_eq_getElem?_getD,List.getElem?_eq_none oM];decide
abbrev fKc:Fa:=fBlkE 0 (cU 24 kcN)
def rdN (a:Nat→Nat):Nat→Nat:=chA (tuL (thA a 25) 24) 25
theorem rdN_lt (a:Nat→Nat) (ha : ∀ k,a k<18446744073709551616) (k:Nat):rdN a k<18446744073709551616:=chA_lt _ (tuL_lt _ (thA_lt _ ha 25) 24) 25 k
def peL (a:Nat→Nat):Nat→Nat→Nat
 | 0=>a
 | i+1=>fun k=>if k=0 then rdN (peL a i) 0^^^kcN i else rdN (peL a i) k
theorem peL_lt (a:Nat→Nat) (ha : ∀ k,a k<18446744073709551616) : ∀ i k,peL a i k<18446744073709551616
 | 0,k=>ha k
 | i+1,k=>by
  unfold peL
  split
  ·exact Nat.xor_lt_two_pow (n:=64) (rdN_lt _ (peL_lt a ha i) 0) (kcN_lt i)
  ·exact rdN_lt _ (peL_lt a ha i) k
theorem cU_at (n:Nat) (f:Nat→Nat) (i:Nat) (h:i<n):(cU n f)[i]? = some (.int .u64 ((f i:Nat):Int)):=by simp [cU,h]
section
variable {x:Cx} {Q:Exit→Act→World→Prop} {Φ:List Fa} {L:Env} {M:Own} {ops:Array Oper} {K:Act→World→Prop}
variable {d:Nat} {ty:TypeId} {pos:String} {af:Array Edge} {g:Option (Nat × Bool)}
theorem cU_ones (n:Nat) (f:Nat→Nat):ones (cU n f)=true:=by simp [ones,cU,Value.oneCell']
theorem o_loadCU {t:TypeId} {y:Operand} {b n:Nat} {f:Nat→Nat} {e:TypeId} [ha:IsAg x.P t true] [hs:Siz x.P t n] [hh:Holds Φ M b (cU n f) e] (hdN:Nat.blt d x.N=true) (hg:gd ops L g=some true) (hy:ev L y=some (.pointer (some ⟨b,0,none⟩)))
  (h:G x Φ ((d,.agg (cU n f).toArray)::L) M K):OpK x ops Q ⟨some d,.load t y,ty,pos,af,g⟩ Φ L M K :=
 o_loadA (hh:=hh) hdN hg hy (by rw [cU_length];omega) (by rw [List.drop_zero,List.take_of_length_le (by rw [cU_length];omega)]) h
theorem o_storeCU {t:TypeId} {y z:Operand} {b n:Nat} {f f':Nat→Nat} {e:TypeId} {M':Own} [hs:Siz x.P t n] (hg:gd ops L g=some true) (hy:ev L y=some (.pointer (some ⟨b,0,none⟩))) (hz:ev L z=some (.agg (cU n f').toArray))
  [hm:MGet M b (Ob (cU n f) e)] (hm':MSet M b (Ob (cU n f) e) (Ob (cU n f') e) M') (h:G x Φ L M' K):OpK x ops Q ⟨none,.store t y z,ty,pos,af,g⟩ Φ L M K :=
 o_store (vs:=cU n f') (cs':=cU n f') (hm:=hm) hg hy hz rfl (cU_length _ _) (by rw [cU_length];omega) (cU_ones _ _) (by rw [List.take_zero,Nat.zero_add,List.drop_eq_nil_of_le (by rw [cU_length];exact Nat.le_refl _)];simp) (hm':=hm') h
theorem stu {p q:Prop} (hp:p) (s:p→q:=by
 first
  | (apply kf_op;apply kf_load;first|exact o_loadCU rfl rfl rfl|exact o_loadU rfl rfl rfl oG)
  | (apply kf_op;apply kf_store;first|exact o_storeCU rfl rfl rfl oY|exact o_storeU rfl rfl rfl oG)):q:=s hp
end
theorem permute_spec (a:Nat→Nat) (ha : ∀ k,a k<18446744073709551616):FnV prog 44 [.agg (cU 25 a).toArray] [fKc] (.agg (cU 25 (peL a 24)).toArray):=by
 refine Fn.enter func44 rfl ntmps44 oI (fun I0 w0 => ?_)
 refine W.bare (G.openE 0 (cU 24 kcN) ?_)
 intro tK
 refine G.code ?_
 repeat (first|refine stu ?_|(refine sty ?_;try intro _)|(refine st ?_;try intro _)|(refine stz ?_;try intro _)|(refine stq ?_;try intro _))
 rename_i b1 b2
 refine W.lp (S:=Nat) (fun i=>([],[(6,.int .i64 (i:Int)),(5,.agg (cU 24 kcN).toArray),(1,.pointer (some ⟨b1,0,none⟩)),(2,.pointer (some ⟨b2,0,none⟩))],[(b2,Ob (cU 25 (fun _=>0)) 89),(b1,Ob (cU 25 (peL a i)) 89)])) (fun i=>i≤24) (fun i=>24-i) 0 ?_ (h0:=Nat.zero_le _)
 intro i hi
 dsimp only
 by_cases he:i=24
 ·subst he
  repeat (first|refine stu ?_|(refine sty ?_;try intro _)|(refine st ?_;try intro _)|(refine stz ?_;try intro _)|(refine stq ?_;try intro _))
  refine G.retV ?_
  rfl
 ·have h1:=theta_spec (peL a i) (peL_lt a ha i)
  have h2:=turn_spec (thA (peL a i) 25) (thA_lt _ (peL_lt a ha i) 25)
  have h3:=chi_spec (tuL (thA (peL a i) 25) 24) (tuL_lt _ (thA_lt _ (peL_lt a ha i) 25) 24)
  have h4:=rdN_lt (peL a i) (peL_lt a ha i) 0
  have h5:=kcN_lt i
  have hs:peL a (i+1)=fun k=>if k=0 then rdN (peL a i) 0^^^kcN i else rdN (peL a i) k:=rfl
  rw [show rdN (peL a i)=chA (tuL (thA (peL a i) 25) 24) 25 from rfl] at hs h4
  have hq:peL a (i+1)=peL a (i+1):=rfl
  generalize hq':peL a (i+1)=q' at hs
  generalize peL a i=q at h1 h2 h3 h4 hs ⊢
  generalize thA q 25=q1 at h1 h2 h3 h4 hs
  generalize tuL q1 24=q2 at h2 h3 h4 hs
  generalize chA q2 25=q3 at h3 h4 hs
  repeat (first|refine stu ?_|(refine sty ?_;try intro _)|(refine st ?_;try intro _)|(refine stz ?_;try intro _)|(refine stq ?_;try intro _))
  refine o_indexV rfl rfl rfl rfl oM (cU_at 24 kcN i oM) ?_
  repeat (first|refine stu ?_|(refine sty ?_;try intro _)|(refine st ?_;try intro _)|(refine stz ?_;try intro _)|(refine stq ?_;try intro _))
  refine cV h1 ?_
  repeat (first|refine stu ?_|(refine sty ?_;try intro _)|(refine st ?_;try intro _)|(refine stz ?_;try intro _)|(refine stq ?_;try intro _))
  refine cV h2 ?_
  repeat (first|refine stu ?_|(refine sty ?_;try intro _)|(refine st ?_;try intro _)|(refine stz ?_;try intro _)|(refine stq ?_;try intro _))
  refine cV h3 ?_
  repeat (first|refine stu ?_|(refine sty ?_;try intro _)|(refine st ?_;try intro _)|(refine stz ?_;try intro _)|(refine stq ?_;try intro _))
  rw [← hs,← hq']
  exact G.ag (S:=Nat) (i+1)
def lowS (l:List UInt8):Nat→Nat
 | 0=>0
 | i+1=>lowS l i|||(l.getD i 0).toNat*2^(8*i)%18446744073709551616
theorem lowS_lt (l:List UInt8) : ∀ i,lowS l i<18446744073709551616
 | 0=>(by decide:(0:Nat)<18446744073709551616)
 | i+1=>Nat.or_lt_two_pow (n:=64) (lowS_lt l i) (Nat.mod_lt _ oE)
theorem klow_spec (v:Value) (l:List UInt8) (hl:l.length≤8):FnV prog 43 [v] [fRp v l] (.int .u64 ((lowS l l.length:Nat):Int)):=by
 refine Fn.enter func43 rfl ntmps43 oI (fun I0 w0 => ?_)
 refine W.bare (G.slice v l ?_)
 intro a1 c1 e1 k1
 subst e1
 repeat refine sq ?_;try intro
 refine W.lp (S:=Nat) (fun i=>([fRp (.slice a1 l.length c1) l],[(7,.int .i64 (i:Int)),(6,.int .i64 (l.length:Int)),(5,.slice a1 l.length c1),(2,.int .u64 ((lowS l i:Nat):Int))],[])) (fun i=>i≤l.length) (fun i=>l.length-i) 0 ?_ (h0:=Nat.zero_le _)
 intro i hi
 dsimp only
 by_cases he:i=l.length
 ·subst he
  repeat refine sq ?_;try intro
  refine G.retV ?_
  rfl
 ·have h1:=lowS_lt l i
  have h2:(l.getD i 0).toNat*2^(8*i)%18446744073709551616<18446744073709551616:=Nat.mod_lt _ oE
  have hg:l.getD i 0=l[i]'(by omega):=by rw [List.getD_eq_getElem?_getD,List.getElem?_eq_getElem oM];rfl
  have hs:lowS l (i+1)=lowS l i|||(l.getD i 0).toNat*2^(8*i)%18446744073709551616:=rfl
  rw [hg] at h2 hs
  have h3:(l[i]'(by omega)).toNat<256:=UInt8.toNat_lt _
  repeat refine sq ?_;try intro
  rw [← hs]
  exact G.ag (S:=Nat) (i+1)
def padZ (n:Nat):Nat:=(136-(n+1)%136)%136
def padB (s:List UInt8) (k:Nat):List UInt8:=s++1::List.replicate k 0
def padL (s:List UInt8):List UInt8:=(padB s (padZ s.length)).set ((padB s (padZ s.length)).length-1) (((padB s (padZ s.length)).getD ((padB s (padZ s.length)).length-1) 0)|||128)
theorem padB_len (s:List UInt8) (k:Nat):(padB s k).length=s.length+1+k:=by simp [padB];omega
theorem padB_s (s:List UInt8) (k:Nat):padB s k++[0]=padB s (k+1):=by
 unfold padB
 rw [List.append_assoc,List.cons_append,List.replicate_succ']
theorem padL_len (s:List UInt8):(padL s).length=s.length+1+padZ s.length:=by unfold padL;rw [List.length_set,padB_len]
theorem padL_mod (s:List UInt8):(padL s).length%136=0:=by rw [padL_len];unfold padZ;omega
structure PdSt where
 k:Nat
 m:Bool
 b:Nat
 ex:List Value
theorem kpad_spec (s:List UInt8) (hs:s.length≤10000000):FnV prog 42 [.string (ba s)] [] (.string (ba (padL s))):=by
 refine Fn.enter func42 rfl ntmps42 oI (fun I0 w0 => ?_)
 repeat refine sq ?_;try intro
 refine o_toBm rfl rfl rfl ?_
 intro b ex
 repeat refine sq ?_;try intro
 refine o_litV (xs:=[(1:UInt8)]) rfl rfl rfl (.cons rfl .nil) oY oY rfl rfl ?_
 intro u1
 repeat refine sq ?_;try intro
 refine o_appKd (ys:=[1]) (bytes:=1) (Mr:=[]) ⟨by simp;omega,by simp;omega,rfl⟩ rfl rfl rfl rfl oY oP ?_
 intro mk1 b1 ex1
 repeat refine sq ?_;try intro
 have hz:padZ s.length<136:=Nat.mod_lt _ oE
 refine W.lp (S:=PdSt) (fun i=>([],[(3,.slice (some ⟨i.b,0,none⟩) (padB s i.k).length ((padB s i.k).length+i.ex.length))],[(i.b,Okd i.m (bvs (padB s i.k)++i.ex) 5)])) (fun i=>i.k≤padZ s.length) (fun i=>padZ s.length-i.k) ⟨0,mk1,b1,ex1⟩ ?_ (h0:=Nat.zero_le _)
 rintro ⟨k,m,b,ex⟩ hk
 dsimp only at hk ⊢
 have hlen:=padB_len s k
 by_cases he:k=padZ s.length
 ·subst he
  have hmod:(padB s (padZ s.length)).length%136=0:=by rw [hlen];unfold padZ;omega
  unfold padL
  generalize padB s (padZ s.length)=q at hlen hmod ⊢
  have hq:q.length-1<q.length:=by omega
  have hg:q.getD (q.length-1) 0=q[q.length-1]:=by rw [List.getD_eq_getElem?_getD,List.getElem?_eq_getElem hq];rfl
  rw [hg]
  repeat refine sq ?_;try intro
  refine o_loadKd rfl rfl rfl hq ?_
  repeat refine sq ?_;try intro
  refine o_int rfl rfl rfl rfl (b_or _ 128 (UInt8.toNat_lt _) oE) ?_
  repeat refine sq ?_;try intro
  refine o_storeKd (c:=q[q.length-1]|||128) (Mr:=[]) rfl rfl rfl (by rw [UInt8.toNat_or];rfl) hq oP ?_
  refine G.giveB b 5 m (q.set (q.length-1) (q[q.length-1]|||128)) ex (Mr:=[]) oP ?_
  rw [List.length_set]
  repeat refine sq ?_;try intro
  refine G.retV ?_
  rfl
 ·have hmod:(padB s k).length%136≠0:=by rw [hlen];unfold padZ at hk he;omega
  have hpb:=padB_s s k
  have hlen2:=padB_len s (k+1)
  generalize padB s k=q at hlen hmod hpb ⊢
  repeat refine sq ?_;try intro
  refine o_litV (xs:=[(0:UInt8)]) rfl rfl rfl (.cons rfl .nil) oY oY rfl rfl ?_
  intro u1
  repeat refine sq ?_;try intro
  refine o_appKd (ys:=[0]) (bytes:=1) (Mr:=[]) ⟨by simp;omega,by simp;omega,rfl⟩ rfl rfl rfl rfl oY oP ?_
  intro mk1 b1 ex1
  rw [hpb]
  repeat refine sq ?_;try intro
  exact G.ag (S:=PdSt) ⟨k+1,mk1,b1,ex1⟩
def chE (ad:Addr) (l:List UInt8):List (List Value):=(List.range (l.length/136)).map fun i=>[.slice (some ⟨ad.block,ad.off+i*136,none⟩) 136 136]
theorem chE_len (ad:Addr) (l:List UInt8):(chE ad l).length=l.length/136:=by simp [chE]
theorem chE_one (ad:Addr) (l:List UInt8) : ∀ vs∈chE ad l,vs.length=1:=by
 intro vs h
 obtain ⟨p,_,rfl⟩:=List.mem_map.1 h
 rfl
theorem chE_at (b off:Nat) (l:List UInt8) (k:Nat) (h:k<(chE ⟨b,off,none⟩ l).length):(chE ⟨b,off,none⟩ l)[k]=[.slice (some ⟨b,off+k*136,none⟩) 136 136]:=by simp [chE]
structure ChSt where
 k:Nat
 s:St
theorem kchunk1_spec (b0 b2 b3 off cap:Nat) (l:List UInt8) (hl:l.length%136=0) (hn:l.length≤100000000) (hc:l.length≤cap):IterR prog 77 [.pointer (some ⟨b2,0,none⟩),.pointer (some ⟨b3,0,none⟩)] (chE ⟨b0,off,none⟩ l) [fBlk b2 [.slice (some ⟨b0,off,none⟩) l.length cap] 26,fBlk b3 [.int .i64 136] 3]:=by
 intro y T Z hy s0 hs0
 rw [chE_len]
 show Fn _ _ _ (fBlk b2 [.slice (some ⟨b0,off,none⟩) l.length cap] 26::fBlk b3 [.int .i64 136] 3::s0.1) _ _
 refine Fn.enter func77 rfl ntmps77 oI (fun I0 w0 => ?_)
 repeat refine sq ?_;try intro
 refine W.lp (S:=ChSt) (fun i=>(fBlk b2 [.slice (some ⟨b0,off,none⟩) l.length cap] 26::fBlk b3 [.int .i64 136] 3::i.s.1,[(4,.int .i64 ((136*i.k:Nat):Int)),(0,.func (.yield y) #[] #[]),(1,.pointer (some ⟨b2,0,none⟩)),(2,.pointer (some ⟨b3,0,none⟩))],i.s.2)) (fun i=>i.k≤l.length/136∧T i.k i.s) (fun i=>l.length/136-i.k) ⟨0,s0⟩ ?_ (h0:=⟨Nat.zero_le _,hs0⟩) (hΦ:=⟨fun I hp φ hφ=>hp φ hφ⟩) (hM:=List.Sublist.refl _)
 rintro ⟨k,sa⟩ ⟨hk,hT⟩
 dsimp only at hk hT ⊢
 by_cases hke:k=l.length/136
 ·subst hke
  repeat refine sq ?_;try intro
  exact G.fin rfl .nil (Φ':=sa.1) (M':=sa.2) ⟨fun I hp φ hφ=>hp φ (.tail _ (.tail _ hφ))⟩ oZ (.inl hT)
 ·have hyk:=hy k (by rw [chE_len];omega) sa hT
  rw [chE_at] at hyk
  repeat refine sq ?_;try intro
  refine W.drawA 6 [dq _,dq _,dq _,dq _,dq _,dq _] [[],[],[],[1,2],[3],[0,4]] [5] (hrest:=fun c=>nrm ?_) (hops:=by
   iterate 3 refine AllQ.aq ?_
   refine AllQ.mk (by intro c z0 Φr Lr K;refine nrm ?_;intro hK;refine o_tailO (136*k) (off+136*k) rfl rfl rfl rfl rfl oM oM hc oM ?_;exact hK z0) ?_
   refine AllQ.mk (by intro c z0 Φr Lr K;refine nrm ?_;intro hK;refine o_lenS rfl rfl rfl ?_;exact hK z0) ?_
   refine AllQ.mk (by intro c z0 Φr Lr K;refine nrm ?_;intro hK;refine o_min rfl rfl rfl rfl (v := .int .i64 136) (by congr 1;omega) ?_;exact hK z0) ?_
   exact AllQ.nil)
  repeat refine sq ?_;try intro
  refine o_slice3 (l:=136*k) (h:=136*k+136) (m:=136*k+136) rfl rfl rfl rfl rfl rfl oM oM oM oM ?_
  rw [show off+136*k*1=off+k*136 from by omega,show 136*k+136-136*k=136 from by omega]
  repeat refine sq ?_;try intro
  refine o_yieldR (Mr:=[]) rfl rfl rfl rfl hyk (fun I hp φ hφ=>hp φ (.tail _ (.tail _ hφ))) oI ?_ ?_
  ·intro st2 hst2
   rw [List.append_nil]
   refine G.weaken (Φ':=fBlk b2 [.slice (some ⟨b0,off,none⟩) l.length cap] 26::fBlk b3 [.int .i64 136] 3::st2.1) ?_ (fun φ hφ => ?_) (fun _ _ h=>h) oZ
   ·repeat refine sq ?_;try intro
    exact G.ag (S:=ChSt) ⟨k+1,st2⟩ (hpre:=⟨by dsimp only;omega,hst2⟩) (hΦ:=⟨fun I hp φ hφ=>hp φ hφ⟩) (hM:=List.Sublist.refl _)
   ·rcases List.mem_cons.1 hφ with rfl|hφ
    ·exact List.mem_append_right _ (.head _)
    ·rcases List.mem_cons.1 hφ with rfl|hφ
     ·exact List.mem_append_right _ (.tail _ (.head _))
     ·exact List.mem_append_left _ hφ
  ·intro s hs
   rw [List.append_nil]
   repeat refine sq ?_;try intro
   exact G.ret rfl .nil (Φ':=s.1) (M':=s.2) ⟨fun I hp φ hφ=>hp φ (List.mem_append_left _ hφ)⟩ oZ (.inr hs)
theorem kchunk_spec (v:Value) (l:List UInt8):Fn prog 41 [v,.int .i64 136] [fRp v l] [] (fun u Φ' M' => ∃ b2 b3,u = .func (.func 77) #[] #[.pointer (some ⟨b2,0,none⟩),.pointer (some ⟨b3,0,none⟩)]∧Φ'=[fBlk b2 [v] 26,fBlk b3 [.int .i64 136] 3]∧M'=[]):=by
 refine Fn.enter func41 rfl ntmps41 oI (fun I0 w0 => ?_)
 refine W.bare (G.slice v l ?_)
 intro a1 c1 e1 k1
 subst e1
 repeat refine sq ?_;try intro
 rename_i b2 b3
 refine o_func rfl rfl rfl rfl ?_
 repeat refine sq ?_;try intro
 refine G.give b3 (cs:=[.int .i64 136]) (t:=3) ?_
 refine G.give b2 (cs:=[.slice a1 l.length c1]) (t:=26) ?_
 exact G.ret rfl (.cons (.tmp rfl) .nil) (Φ':=[fBlk b2 [.slice a1 l.length c1] 26,fBlk b3 [.int .i64 136] 3]) (M':=[]) oY oN ⟨b2,b3,rfl,rfl,rfl⟩
end Go.Rail
