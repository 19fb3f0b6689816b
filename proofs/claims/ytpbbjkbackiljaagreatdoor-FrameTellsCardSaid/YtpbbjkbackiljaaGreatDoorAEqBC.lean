/- How words, addresses and keys compare. -/
import Derived.Test.YtpbbjkbackiljaaGreatDoorRailA
import Derived.Test.YtpbbjkbackiljaaGreatDoorRailB
import Derived.Test.YtpbbjkbackiljaaGreatDoorAFacts
import Derived.Test.YtpbbjkbackiljaaGreatDoorRailI
import Derived.Test.YtpbbjkbackiljaaGreatDoorRailH
import Derived.Test.YtpbbjkbackiljaaGreatDoorRailG
import Derived.Test.YtpbbjkbackiljaaGreatDoorRailF
set_option linter.unusedSimpArgs false
set_option linter.unusedVariables false
namespace Go.Rail
open Go Go.Proofs Tryz
theorem info_some {P:Program} {t:TypeId} (h:(P.info? t).isSome=true) : ∃ i,P.info? t=some i:=Option.isSome_iff_exists.1 h

theorem eq_word (d:Nat) (x y:Word) (w:World):(Op.equalIn (d+2) 49 x.v y.v).run prog w = .ok (decide (x=y)) w:=by
 obtain ⟨i,hi⟩:=info_some (P:=prog) (t:=47) kR
 have h:=run_equalIn_ints (P:=prog) (d:=d) (k := .u64) underlying49 underlying47 hi kR isAgg47 (x.parts.map fun u=>(u.toNat:Int)) (y.parts.map fun u=>(u.toNat:Int)) rfl rfl w
 have e:(x.parts.map fun u=>(u.toNat:Int))=(y.parts.map fun u=>(u.toNat:Int))↔x=y:=by
  cases x;cases y
  simp only [Word.parts,List.map_cons,List.map_nil,List.cons.injEq,Int.natCast_inj,UInt64.toNat_inj,and_true,Word.mk.injEq]
 have e2:decide ((x.parts.map fun u=>(u.toNat:Int))=(y.parts.map fun u=>(u.toNat:Int)))=decide (x=y):=decide_eq_decide.2 e
 rw [← e2];exact h
instance (x y:Word):EqOn prog 49 x.v y.v (decide (x=y)) where
 eq:=fun w=>by
  have h:(Op.equalIn 10000 49 x.v y.v).run prog w=_:=eq_word 9998 x y w
  unfold Word.v at h ⊢
  rw [run_eql_struct,h];simp only [Result.andThen_ok]
 ne:=fun w=>by
  have h:(Op.equalIn 10000 49 x.v y.v).run prog w=_:=eq_word 9998 x y w
  unfold Word.v at h ⊢
  rw [run_neq_struct,h];simp only [Result.andThen_ok]
 guard:=fun op p q w=>by simp only [Word.v];exact run_eqGuard_agg _ _ _ _ _ _ _ kR

instance (a b:Bool):EqOn prog 4 (.bool a) (.bool b) (a==b) where
 eq:=fun w=>by
  have h:(Op.equalIn 10000 4 (.bool a) (.bool b)).run prog w = .ok (a==b) w:=run_equalIn_bool' w 9999 4 a b underlying4
  have e:binOp .eql 4 (.bool a) (.bool b)=(do pure (Value.bool (← Op.equalIn 10000 4 (.bool a) (.bool b)))):=rfl
  rw [e,Sem.run_bind,h];simp only [Result.andThen_ok,Sem.run_pure]
 ne:=fun w=>by
  have h:(Op.equalIn 10000 4 (.bool a) (.bool b)).run prog w = .ok (a==b) w:=run_equalIn_bool' w 9999 4 a b underlying4
  have e:binOp .neq 4 (.bool a) (.bool b)=(do pure (Value.bool (!(← Op.equalIn 10000 4 (.bool a) (.bool b))))):=rfl
  rw [e,Sem.run_bind,h];simp only [Result.andThen_ok,Sem.run_pure]
 guard:=fun op p q w=>run_eqGuard_bool w
end Go.Rail
namespace Go.Rail
open Go Go.Proofs Tryz
set_option maxHeartbeats 400000
set_option maxRecDepth 4000
attribute [local irreducible] OpK G W LW wpListIn Exit.then Exit.inBlock Post rounds opRun bodyPostM intOp
set_option maxHeartbeats 4000000
instance ptB:PtTy prog 179 181:=⟨underlying179⟩
instance ptU:PtTy prog 243 5:=⟨underlying243⟩
instance unP:UnTy prog 272:=⟨underlying272⟩
instance rmB:Rm prog 181:=Rm.of kR
instance exNE:ExtF prog 312 Extern.AbiNoEscape.same:=⟨fun args w=>run_callFunc_extern func312 kR kR kR kR args w⟩
def bldM (B:Nat) (a:Option Addr) (v:Value) (xs:List UInt8) (o:BO):Own:=(B,Ob [.pointer a,v] 181)::bufM 5 xs o
theorem copyCheck_spec (B:Nat) (a:Option Addr) (ha:a=none∨a=some ⟨B,0,none⟩) (v:Value):Fn prog 262 [.pointer (some ⟨B,0,none⟩)] [] [(B,Ob [.pointer a,v] 181)] (fun u Φ' M'=>Φ'=[]∧M'=[(B,Ob [.pointer (some ⟨B,0,none⟩),v] 181)]):=by
 rcases ha with rfl|rfl
 ·refine Fn.enter func262 rfl ntmps262 oI (fun I0 w0 => ?_)
  repeat refine sq ?_;try intro
  exact G.fin rfl .nil (Φ':=[]) (M':=[(B,Ob [.pointer (some ⟨B,0,none⟩),v] 181)]) oY oZ ⟨rfl,rfl⟩
 ·refine Fn.enter func262 rfl ntmps262 oI (fun I0 w0 => ?_)
  repeat refine sq ?_;try intro
  exact G.fin rfl .nil (Φ':=[]) (M':=[(B,Ob [.pointer (some ⟨B,0,none⟩),v] 181)]) oY oZ ⟨rfl,rfl⟩
def RBld (B:Nat) (r:Value) (xs:List UInt8):Value→List Fa→Own→Prop:=fun u Φ' M' => ∃ v' o',IsBuf v' xs o'∧u=r∧Φ'=[]∧M'=bldM B (some ⟨B,0,none⟩) v' xs o'
theorem writeString_spec (B:Nat) (a:Option Addr) (ha:a=none∨a=some ⟨B,0,none⟩) (v:Value) (xs ys:List UInt8) (o:BO) (hv:IsBuf v xs o) (hl:2*(xs.length+ys.length)+200≤281474976710656) :
  Fn prog 180 [.pointer (some ⟨B,0,none⟩),.string (ba ys)] [] (bldM B a v xs o) (RBld B (.tuple #[.int .i64 (ys.length:Int),.nilIface]) (xs++ys)):=by
 have hc:=copyCheck_spec B a ha v
 unfold bldM
 refine Fn.enter func180 rfl ntmps180 oI (fun I0 w0 => ?_)
 repeat refine sq ?_;try intro
 refine OpK.call rfl rfl rfl rfl hc oY (Mr:=bufM 5 xs o) oP ?_
 rintro u Φ' Mc' ⟨rfl,rfl⟩
 refine nA ?_
 repeat refine sq ?_;try intro
 refine o_appB (Mr:=[(B,Ob [.pointer (some ⟨B,0,none⟩),v] 181)]) (xs:=xs) (ys:=ys) o hv hl rfl rfl rfl rfl (List.perm_append_singleton _ _).symm ?_
 intro v' o' hv'
 refine G.perm ?_ (List.perm_append_singleton _ _)
 repeat refine sq ?_;try intro
 refine o_store (vs:=[v']) rfl rfl rfl (buf_cell hv').1 rfl (Nat.le_refl _) (buf_cell hv').2 rfl ?_
 repeat refine sq ?_;try intro
 exact G.ret rfl (.cons (.tmp rfl) (.cons (.tmp rfl) .nil)) (Φ':=[]) (M':=(B,Ob [.pointer (some ⟨B,0,none⟩),v'] 181)::bufM 5 (xs++ys) o') oY oZ ⟨v',o',hv',rfl,rfl,rfl⟩
theorem bString_spec (B:Nat) (a:Option Addr) (v:Value) (xs:List UInt8) (o:BO) (hv:IsBuf v xs o) (hl:xs.length≤9223372036854775807) :
  Fn prog 182 [.pointer (some ⟨B,0,none⟩)] [] (bldM B a v xs o) (fun u Φ' M' => ∃ o',IsBuf v xs o'∧u = .string (ba xs)∧Φ'=[]∧M'=bldM B a v xs o'):=by
 unfold bldM
 cases o with
 | none =>
  obtain ⟨rfl,rfl⟩:=hv
  unfold bufM
  refine Fn.enter func182 rfl ntmps182 oI (fun I0 w0 => ?_)
  repeat refine sq ?_;try intro
  refine W.drawA 10 [dq _,dq _,dq _,dq _,dq _,dq _,dq _,dq _,dq _,dq _] [[],[0],[1],[2],[3],[],[5],[6],[7],[8]] [4,9] (hrest:=fun c=>nrm ?_) (hops:=by
   iterate 10 refine AllQ.aq ?_
   exact AllQ.nil)
  repeat refine sq ?_;try intro
  refine o_unsafeString0 rfl rfl rfl rfl ?_
  repeat refine sq ?_;try intro
  exact G.ret rfl (.cons (.tmp rfl) .nil) (Φ':=[]) (M':=[(B,Ob [.pointer a,.slice none 0 0] 181)]) oY oZ ⟨none,⟨rfl,rfl⟩,rfl,rfl,rfl⟩
 | some q =>
  obtain ⟨b,ex,k⟩:=q
  obtain ⟨rfl,hk1,hk2⟩:=hv
  unfold bufM
  refine Fn.enter func182 rfl ntmps182 oI (fun I0 w0 => ?_)
  repeat refine sq ?_;try intro
  refine W.drawA 10 [dq _,dq _,dq _,dq _,dq _,dq _,dq _,dq _,dq _,dq _] [[],[0],[1],[2],[3],[],[5],[6],[7],[8]] [4,9] (hrest:=fun c=>nrm ?_) (hops:=by
   iterate 10 refine AllQ.aq ?_
   exact AllQ.nil)
  repeat refine sq ?_;try intro
  refine o_unsafeString kR hk1 hl rfl rfl rfl rfl ?_
  repeat refine sq ?_;try intro
  exact G.ret rfl (.cons (.tmp rfl) .nil) (Φ':=[]) (M':=[(B,Ob [.pointer a,.slice (some ⟨b,0,none⟩) xs.length (xs.length+ex.length)] 181),(b,bufO 5 xs ex xs.length)]) oY oZ ⟨some (b,ex,xs.length),⟨rfl,Nat.le_refl _,hk2⟩,rfl,rfl,rfl⟩
end Go.Rail
namespace Go.Rail
open Go Go.Proofs Tryz
set_option maxHeartbeats 400000
set_option maxRecDepth 4000
attribute [local irreducible] OpK G W LW wpListIn Exit.then Exit.inBlock Post rounds opRun bodyPostM intOp
set_option maxHeartbeats 4000000
instance exIB:ExtF prog 340 Extern.BytealgIndexByte.indexByte:=⟨fun args w=>run_callFunc_extern func340 kR kR kR kR args w⟩
end Go.Rail
namespace Go.Rail
open Go Go.Proofs Tryz
set_option maxHeartbeats 400000
set_option maxRecDepth 4000
attribute [local irreducible] OpK G W LW wpListIn Exit.then Exit.inBlock Post rounds opRun bodyPostM intOp
set_option maxHeartbeats 4000000
def digsL:List UInt8:=[48,49,50,51,52,53,54,55,56,57,97,98,99,100,101,102]
def hx1 (n:Nat):UInt8:=digsL.getD n 0
def hx2 (c:UInt8):List UInt8:=[hx1 (c.toNat/16),hx1 (c.toNat%16)]
def behN (n:Nat):Nat:=if 96≤n∧n≤127 then n-95 else 0
theorem behN_le (n:Nat):behN n≤32:=by unfold behN;split<;>omega
theorem behind_spec (n:Nat) (hn:n<256):FnV prog 321 [.int .u8 (n:Int)] [] (.int .i64 ((behN n:Nat):Int)):=by
 refine Fn.enter func321 rfl ntmps321 oI (fun I0 w0 => ?_)
 unfold behN
 by_cases h:96≤n∧n≤127
 ·rw [if_pos h]
  repeat refine sq ?_;try intro
  refine G.retV ?_
  refine congrArg (Value.int .i64) ?_
  omega
 ·rw [if_neg h]
  by_cases h1:96≤n
  ·repeat refine sq ?_;try intro
   refine G.retV ?_
   rfl
  ·repeat refine sq ?_;try intro
   refine G.retV ?_
   rfl
end Go.Rail
namespace Go.Rail
open Go Go.Proofs Tryz
set_option maxHeartbeats 400000
set_option maxRecDepth 4000
attribute [local irreducible] OpK G W LW wpListIn Exit.then Exit.inBlock Post rounds opRun bodyPostM intOp
set_option maxHeartbeats 4000000
def plcF (l:List UInt8):Nat→Nat→List Nat
 | 0,_=>[]
 | f+1,p=>if p<l.length then p::plcF l f (p+1+behN (l.getD p 0).toNat) else []
def plc (l:List UInt8):List Nat:=plcF l l.length 0
theorem plcF_done {l:List UInt8} {f p:Nat} (h:l.length≤p):plcF l f p=[]:=by
 cases f with
 | zero=>rfl
 | succ f=>unfold plcF;rw [if_neg oM]
theorem plcF_step {l:List UInt8} {f p:Nat} (hf:l.length≤f+p) (h:p<l.length) : ∃ g,f=g+1∧plcF l f p=p::plcF l g (p+1+behN (l.getD p 0).toNat)∧l.length≤g+(p+1+behN (l.getD p 0).toNat):=by
 cases f with
 | zero=>omega
 | succ g=>exact ⟨g,rfl,by conv=>lhs;unfold plcF;rw [if_pos h],by omega⟩
def plE (l:List UInt8):List (List Value):=(plc l).map fun (p:Nat)=>[.int .i64 (p:Int),.int .u8 (((l.getD p 0).toNat:Nat):Int)]
theorem plE_len (l:List UInt8):(plE l).length=(plc l).length:=by simp [plE]
theorem plE_two (l:List UInt8) : ∀ vs∈plE l,vs.length=2:=by
 intro vs h
 obtain ⟨p,_,rfl⟩:=List.mem_map.1 h
 rfl
theorem plE_at (l:List UInt8) (k p:Nat) (h:k<(plE l).length) (hp:(plc l)[k]? = some p):(plE l)[k]=[.int .i64 (p:Int),.int .u8 (((l.getD p 0).toNat:Nat):Int)]:=by
 obtain ⟨h1,h2⟩:=List.getElem?_eq_some_iff.1 hp
 simp [plE,h2]
structure PlSt where
 k:Nat
 p:Nat
 f:Nat
 s:St
theorem places1_spec (b:Nat) (l:List UInt8) (hl:l.length≤1000000000):IterR prog 320 [.pointer (some ⟨b,0,none⟩)] (plE l) [fBlk b [.string (ba l)] 9]:=by
 intro y T Z hy s0 hs0
 rw [plE_len]
 show Fn _ _ _ (fBlk b [.string (ba l)] 9::s0.1) _ _
 refine Fn.enter func320 rfl ntmps320 oI (fun I0 w0 => ?_)
 repeat refine sq ?_;try intro
 refine W.lp (S:=PlSt) (fun i=>(fBlk b [.string (ba l)] 9::i.s.1,[(0,.func (.yield y) #[] #[]),(1,.pointer (some ⟨b,0,none⟩)),(3,.int .i64 (i.p:Int))],i.s.2)) (fun i=>l.length≤i.f+i.p∧i.k≤(plc l).length∧(plc l).drop i.k=plcF l i.f i.p∧i.p≤l.length+100∧T i.k i.s) (fun i=>(plc l).length-i.k) ⟨0,0,l.length,s0⟩ ?_ (h0:=⟨by dsimp only;omega,Nat.zero_le _,rfl,by dsimp only;omega,hs0⟩) (hΦ:=⟨fun I hp φ hφ=>hp φ hφ⟩)
 rintro ⟨k,p,f,sa⟩ ⟨hf,hk,hd,hp100,hT⟩
 dsimp only at hf hk hd hp100 hT ⊢
 by_cases hp:p<l.length
 ·obtain ⟨g,rfl,hg1,hg2⟩:=plcF_step hf hp
  rw [hg1] at hd
  have hkl:k<(plc l).length:=by
   rcases Nat.lt_or_ge k (plc l).length with h|h
   ·exact h
   ·rw [List.drop_eq_nil_of_le h] at hd;cases hd
  have hkp:(plc l)[k]? = some p:=by
   have:=congrArg List.head? hd
   rw [List.head?_drop] at this;exact this
  have hd2:(plc l).drop (k+1)=plcF l g (p+1+behN (l.getD p 0).toNat):=by
   have:=congrArg List.tail hd
   rwa [List.tail_drop] at this
  have hyk:=hy k (by rw [plE_len];exact hkl) sa hT
  rw [plE_at l k p (by rw [plE_len];exact hkl) hkp] at hyk
  have hlp:l[p]? = some (l.getD p 0):=by rw [List.getD_eq_getElem?_getD,List.getElem?_eq_getElem hp];rfl
  have hbh:=behind_spec (l.getD p 0).toNat (l.getD p 0).toNat_lt
  have hb32:=behN_le (l.getD p 0).toNat
  generalize behN (l.getD p 0).toNat=n at hg1 hg2 hd hd2 hbh hb32
  generalize l.getD p 0=ch at hyk hlp hbh
  obtain ⟨_,he⟩:=List.getElem?_eq_some_iff.1 hlp
  repeat refine sq ?_;try intro
  rw [he]
  refine o_yieldR (Mr:=[]) rfl rfl rfl rfl hyk (fun I hp φ hφ=>hp φ (by simp [hφ])) oI ?_ ?_
  ·intro st2 hst2
   rw [List.append_nil]
   refine G.weaken (Φ':=fBlk b [.string (ba l)] 9::st2.1) ?_ (fun φ hφ=>(List.mem_cons.1 hφ).elim (fun e=>List.mem_append_right _ (by rw [e];exact .head _)) (fun h=>List.mem_append_left _ h)) (fun _ _ h=>h) oZ
   repeat refine sq ?_;try intro
   rw [he]
   repeat refine sq ?_;try intro
   refine cV hbh ?_
   repeat refine sq ?_;try intro
   refine G.ag (S:=PlSt) ⟨k+1,p+(1+n),g,st2⟩ (hpre:=⟨by dsimp only;omega,by dsimp only;omega,by rw [← Nat.add_assoc];exact hd2,by dsimp only;omega,hst2⟩) (hΦ:=⟨fun I hp φ hφ => ?_⟩) (hM:=List.Sublist.refl _)
   exact hp φ hφ
  ·intro s hs
   rw [List.append_nil]
   repeat refine sq ?_;try intro
   exact G.ret rfl .nil (Φ':=s.1) (M':=s.2) ⟨fun I hp φ hφ=>hp φ (by simp [hφ])⟩ oZ (.inr hs)
 ·rw [plcF_done oM] at hd
  have hkl:k=(plc l).length:=by
   have:=congrArg List.length hd
   rw [List.length_drop] at this
   have h0:([]:List Nat).length=0:=rfl
   omega
  subst hkl
  repeat refine sq ?_;try intro
  exact G.fin rfl .nil (Φ':=sa.1) (M':=sa.2) ⟨fun I hp φ hφ=>hp φ (.tail _ hφ)⟩ oZ (.inl hT)
theorem places_spec (l:List UInt8):Fn prog 273 [.string (ba l)] [] [] (fun u Φ' M' => ∃ b,u = .func (.func 320) #[] #[.pointer (some ⟨b,0,none⟩)]∧Φ'=[fBlk b [.string (ba l)] 9]∧M'=[]):=by
 refine Fn.enter func273 rfl ntmps273 oI (fun I0 w0 => ?_)
 repeat refine sq ?_;try intro
 rename_i b
 refine o_func rfl rfl rfl rfl ?_
 repeat refine sq ?_;try intro
 refine G.give b (cs:=[.string (ba l)]) (t:=9) ?_
 exact G.ret rfl (.cons (.tmp rfl) .nil) (Φ':=[fBlk b [.string (ba l)] 9]) (M':=[]) oY oN ⟨b,rfl,rfl,rfl⟩
end Go.Rail
namespace Go.Rail
open Go Go.Proofs Tryz
set_option maxHeartbeats 400000
set_option maxRecDepth 4000
attribute [local irreducible] OpK G W LW wpListIn Exit.then Exit.inBlock Post rounds opRun bodyPostM intOp
set_option maxHeartbeats 4000000
theorem plcF_len (l:List UInt8) : ∀ f p,(plcF l f p).length≤f
 | 0,_=>Nat.le_refl _
 | f+1,p=>by
  unfold plcF
  split
  ·rw [List.length_cons];have:=plcF_len l f (p+1+behN (l.getD p 0).toNat);omega
  ·exact Nat.zero_le _
def jmT (l:List UInt8) (k:Nat):List Int:=(((plc l).take k).filter fun (p:Nat)=>decide ((l.getD p 0).toNat=91)).map fun (p:Nat)=>(p:Int)
def jmL (l:List UInt8):List Int:=((plc l).filter fun (p:Nat)=>decide ((l.getD p 0).toNat=91)).map fun (p:Nat)=>(p:Int)
theorem jmT_all (l:List UInt8):jmT l (plc l).length=jmL l:=by rw [jmT,jmL,List.take_length]
theorem jmT_len (l:List UInt8) (k:Nat):(jmT l k).length≤l.length:=by
 rw [jmT,List.length_map]
 have h1:=List.length_filter_le (fun (p:Nat)=>decide ((l.getD p 0).toNat=91)) ((plc l).take k)
 have h2:=plcF_len l l.length 0
 have h3:((plc l).take k).length≤(plc l).length:=by rw [List.length_take];omega
 rw [plc] at h3
 rw [plc] at h1 ⊢
 omega
theorem jmT_step (l:List UInt8) (k p:Nat) (hp:(plc l)[k]? = some p):jmT l (k+1)=jmT l k++(if (l.getD p 0).toNat=91 then [(p:Int)] else []):=by
 obtain ⟨h1,h2⟩:=List.getElem?_eq_some_iff.1 hp
 rw [jmT,jmT,List.take_succ_eq_append_getElem h1,h2,List.filter_append,List.map_append]
 by_cases h:(l.getD p 0).toNat=91
 ·rw [if_pos h,List.filter_cons_of_pos (by simpa using h)];rfl
 ·rw [if_neg h,List.filter_cons_of_neg (by simpa using h)];rfl
theorem jumpsO_spec (l:List UInt8) (hl:l.length≤100000):Fn prog 193 [.string (ba l)] [] [] (ROwn 3 (jmL l)):=by
 have hpl:=places_spec l
 refine Fn.enter func193 rfl ntmps193 oI (fun I0 w0 => ?_)
 repeat refine sq ?_;try intro
 rename_i b2
 refine OpK.call rfl rfl rfl rfl hpl oY (Mr:=_) oP ?_
 rintro u Φ' Mc' ⟨b,rfl,rfl,rfl⟩
 refine nA ?_
 repeat refine sq ?_;try intro
 refine W.rangeFuncR (enc:=plE l) (ps:=[7,8]) (Φi:=[fBlk b [.string (ba l)] 9]) (Mr:=[]) (fun k s => ∃ w o,IsOwn 1 w (jmT l k).length o∧s=([fRow (ocells o) (jmT l k)],(b2,Ob [w] 38)::ownM 3 o)) (fun _ _=>False) rfl (places1_spec b l oM) oE (plE_two l) oY ([fRow ([]:List Value) ([]:List Int)],[(b2,Ob [.slice none 0 0] 38)]) ⟨_,none,⟨rfl,rfl⟩,rfl⟩ oY oP ?_ ?_ ?_
 ·rintro y rec I0' w0' k hk _ ⟨w,o,hown,rfl⟩
  rw [plE_len] at hk
  obtain ⟨p,hp⟩ : ∃ p,(plc l)[k]? = some p:=⟨_,List.getElem?_eq_getElem hk⟩
  have hst:=jmT_step l k p hp
  have hlen:=jmT_len l k
  dsimp only
  rw [plE_at l k p (by rw [plE_len];exact hk) hp]
  generalize l.getD p 0=ch at hst ⊢
  show W _ _ _ _ ((8,.int .u8 ((ch.toNat:Nat):Int))::(7,.int .i64 (p:Int))::_) _
  repeat refine sq ?_;try intro
  refine G.begin (by rfl) ?_
  by_cases h91:ch.toNat=91
  ·rw [if_pos h91] at hst
   repeat refine sq ?_;try intro
   refine o_app2 (Mr:=[_,_]) o (xs:=jmT l k) (ys:=[(p:Int)]) hown ⟨by simp;omega,by simp;omega,rfl⟩ rfl rfl rfl rfl oY oY oP ?_
   intro w' o' hown'
   rw [← hst] at hown' ⊢
   refine nA ?_
   repeat refine sq ?_;try intro
   refine o_store (vs:=[w']) (cs':=[w']) rfl rfl rfl (own_cell hown').1 rfl (Nat.le_of_ble_eq_true rfl) (own_cell hown').2 rfl ?_
   repeat refine sq ?_;try intro
   refine G.roundEnd oY (Φ':=[fRow (ocells o') (jmT l (k+1))]) (M'':=(b2,Ob [w'] 38)::ownM 3 o') ?_ oY (by first|exact List.Sublist.refl _|exact .cons _ oZ)
   exact Or.inl ⟨rfl,([fRow (ocells o') (jmT l (k+1))],(b2,Ob [w'] 38)::ownM 3 o'),⟨w',o',hown',rfl⟩,rfl⟩
  ·rw [if_neg h91,List.append_nil] at hst
   rw [← hst] at hown ⊢
   repeat refine sq ?_;try intro
   refine G.roundEnd oY (Φ':=[fRow (ocells o) (jmT l (k+1))]) (M'':=(b2,Ob [w] 38)::ownM 3 o) ?_ oY (by first|exact List.Sublist.refl _|exact .cons _ oZ)
   exact Or.inl ⟨rfl,([fRow (ocells o) (jmT l (k+1))],(b2,Ob [w] 38)::ownM 3 o),⟨w,o,hown,rfl⟩,rfl⟩
 ·rintro D _ ⟨w,o,hown,rfl⟩
  rw [plE_len,jmT_all] at hown ⊢
  refine G.perm ?_ oH
  refine nA ?_
  repeat refine sq ?_;try intro
  refine o_store (vs:=[w]) (cs':=[w]) rfl rfl rfl (own_cell hown).1 rfl (Nat.le_of_ble_eq_true rfl) (own_cell hown).2 rfl ?_
  repeat refine sq ?_;try intro
  refine G.unmark oY ?_
  refine G.give b2 (cs:=[w]) (t:=38) ?_
  exact G.ret rfl (.cons (.cell1 rfl) .nil) (Φ':=[fRow (ocells o) (jmL l)]) (M':=ownM 3 o) oY oZ ⟨o,hown,rfl,rfl⟩
 ·intro D c s h
  exact h.elim
end Go.Rail
namespace Go.Rail
open Go Go.Proofs Tryz
set_option maxHeartbeats 400000
set_option maxRecDepth 4000
attribute [local irreducible] OpK G W LW wpListIn Exit.then Exit.inBlock Post rounds opRun bodyPostM intOp
set_option maxHeartbeats 16000000
set_option maxRecDepth 20000
theorem low_spec:Fn prog 50 [] [] [] (RMapV (rowsV rowsLow)):=by
 refine Fn.enter func50 rfl ntmps50 oI (fun I0 w0 => ?_)
 repeat refine st ?_;try intro
 refine o_makeMapV rfl rfl ?_
 intro b
 repeat (first|refine st ?_|refine o_insV rfl rfl rfl rfl kR ?_)
 exact G.ret rfl (.cons (.tmp rfl) .nil) (Φ':=[]) (M':=[(b,MapV (rowsV rowsLow))]) oY oZ ⟨b,rfl,rfl,rfl⟩
theorem high_spec:Fn prog 51 [] [] [] (RMapV (rowsV rowsHigh)):=by
 refine Fn.enter func51 rfl ntmps51 oI (fun I0 w0 => ?_)
 repeat refine st ?_;try intro
 refine o_makeMapV rfl rfl ?_
 intro b
 repeat (first|refine st ?_|refine o_insV rfl rfl rfl rfl kR ?_)
 exact G.ret rfl (.cons (.tmp rfl) .nil) (Φ':=[]) (M':=[(b,MapV (rowsV rowsHigh))]) oY oZ ⟨b,rfl,rfl,rfl⟩
theorem lookup_spec (n b b1 b2:Nat) (l1 l2:List (Nat × Row)):Fn prog 49 [.int .u8 (n:Int),.slice (some ⟨b,0,none⟩) 2 2] [fBlk b [.map (some b1),.map (some b2)] 89] [(b1,MapV (rowsV l1)),(b2,MapV (rowsV l2))]
  (fun u Φ' M'=>u = .tuple #[rowV (((findR l1 n).or (findR l2 n)).getD noRow),.bool ((findR l1 n).or (findR l2 n)).isSome]∧Φ'=[]∧M'=[]):=by
 have g1:=getV_rows l1 n
 have g2:=getV_rows l2 n
 refine Fn.enter func49 rfl ntmps49 oI (fun I0 w0 => ?_)
 repeat refine st ?_;try intro
 refine W.loopN 3 ?_
 repeat refine st ?_;try intro
 refine o_idxO rfl rfl rfl rfl oE oE (o':=0) oE ?_
 repeat refine st ?_;try intro
 cases h1:findR l1 n with
 | some r =>
  rw [h1] at g1
  refine o_lookV (l:=rowsV l1) rfl rfl rfl rfl oI (by rw [g1]) (by rw [g1]) ?_
  repeat refine st ?_;try intro
  refine G.ret rfl (.cons (.cellA rfl rfl) (.cons (.tmp rfl) .nil)) (Φ':=[]) (M':=[]) oY oN ⟨?_,rfl,rfl⟩
  rfl
 | none =>
  rw [h1] at g1
  refine o_lookV (l:=rowsV l1) rfl rfl rfl rfl oI (by rw [g1]) (by rw [g1]) ?_
  repeat refine st ?_;try intro
  refine o_idxO rfl rfl rfl rfl oE oE (o':=1) oE ?_
  repeat refine st ?_;try intro
  cases h2:findR l2 n with
  | some r =>
   rw [h2] at g2
   refine o_lookV (l:=rowsV l2) rfl rfl rfl rfl oI (by rw [g2]) (by rw [g2]) ?_
   repeat refine st ?_;try intro
   refine G.ret rfl (.cons (.cellA rfl rfl) (.cons (.tmp rfl) .nil)) (Φ':=[]) (M':=[]) oY oN ⟨?_,rfl,rfl⟩
   rfl
  | none =>
   rw [h2] at g2
   refine o_lookV (l:=rowsV l2) rfl rfl rfl rfl oI (by rw [g2]) (by rw [g2]) ?_
   repeat refine st ?_;try intro
   refine G.ret rfl (.cons (.cellA rfl rfl) (.cons (.tmp rfl) .nil)) (Φ':=[]) (M':=[]) oY oN ⟨?_,rfl,rfl⟩
   rfl
theorem ssmall_spec (n:Nat) (hn:n<100):FnV prog 297 [.int .i64 (n:Int)] [] (.string (ba (decN n))):=by
 refine Fn.enter func297 rfl ntmps297 oI (fun I0 w0 => ?_)
 unfold decN
 by_cases h:n<10
 ·rw [if_pos h]
  repeat refine st ?_;try intro
  refine G.retV ?_
  refine congrArg (fun l=>Value.string (ba l)) ?_
  clear I0 w0
  revert n
  exact of_decide_eq_true kR
 ·rw [if_neg h]
  repeat refine st ?_;try intro
  refine G.retV ?_
  refine congrArg (fun l=>Value.string (ba l)) ?_
  clear I0 w0
  revert n
  exact of_decide_eq_true kR
theorem fmt_spec (n:Nat) (hn:n<100):FnV prog 228 [.int .i64 (n:Int),.int .i64 10] [] (.string (ba (decN n))):=by
 have hs:=ssmall_spec n hn
 refine Fn.enter func228 rfl ntmps228 oI (fun I0 w0 => ?_)
 repeat refine st ?_;try intro
 refine cV hs ?_
 repeat refine st ?_;try intro
 refine G.retV ?_
 rfl
theorem itoa2_spec (n:Nat) (hn:n<100):FnV prog 136 [.int .i64 (n:Int)] [] (.string (ba (decN n))):=by
 have hs:=fmt_spec n hn
 refine Fn.enter func136 rfl ntmps136 oI (fun I0 w0 => ?_)
 repeat refine st ?_;try intro
 refine cV hs ?_
 repeat refine st ?_;try intro
 refine G.retV ?_
 rfl
theorem itoa_spec (n:Nat) (hn:n<100):FnV prog 81 [.int .i64 (n:Int)] [] (.string (ba (decN n))):=by
 have hs:=itoa2_spec n hn
 refine Fn.enter func81 rfl ntmps81 oI (fun I0 w0 => ?_)
 repeat refine st ?_;try intro
 refine cV hs ?_
 repeat refine st ?_;try intro
 refine G.retV ?_
 rfl
theorem decN_len (n:Nat):(decN n).length≤2:=by unfold decN;split<;>simp
theorem numbered_spec (l:List UInt8) (n:Nat) (hn:n<100) (hl:l.length≤10):FnV prog 48 [.string (ba l),.int .i64 (n:Int)] [] (.string (ba (l++decN n))):=by
 have hs:=itoa_spec n hn
 have:=decN_len n
 refine Fn.enter func48 rfl ntmps48 oI (fun I0 w0 => ?_)
 repeat refine st ?_;try intro
 refine cV hs ?_
 repeat refine st ?_;try intro
 refine G.retV ?_
 rfl
theorem info_spec (n:Nat) (hn:n<256):FnV prog 30 [.int .u8 (n:Int)] [] (infoV n):=by
 refine Fn.enter func30 rfl ntmps30 oI (fun I0 w0 => ?_)
 unfold infoV infoN
 by_cases h1:96≤n∧n≤127
 ·rw [if_pos h1]
  have hs:=numbered_spec [80,85,83,72] (n-95) oM oE
  repeat refine st ?_;try intro
  refine cV hs ?_
  repeat refine st ?_;try intro
  refine G.retV ?_
  rfl
 rw [if_neg h1]
 by_cases h2:128≤n∧n≤143
 ·rw [if_pos h2]
  have hs:=numbered_spec [68,85,80] (n-127) oM oE
  repeat refine st ?_;try intro
  refine cV hs ?_
  repeat refine st ?_;try intro
  refine G.retV ?_
  rw [show n-126=n-127+1 from by omega]
  rfl
 rw [if_neg h2]
 by_cases h3:144≤n∧n≤159
 ·rw [if_pos h3]
  have hs:=numbered_spec [83,87,65,80] (n-143) oM oE
  repeat refine st ?_;try intro
  refine cV hs ?_
  repeat refine st ?_;try intro
  refine G.retV ?_
  rw [show n-142=n-143+1 from by omega]
  rfl
 rw [if_neg h3]
 by_cases h4:160≤n∧n≤164
 ·rw [if_pos h4]
  have hs:=numbered_spec [76,79,71] (n-160) oM oE
  repeat refine st ?_;try intro
  refine cV hs ?_
  repeat refine st ?_;try intro
  refine G.retV ?_
  rw [show n-158=n-160+2 from by omega,show n-159=n-160+1 from by omega]
  rfl
 rw [if_neg h4]
 unfold tabN
 have h5:n<96∨164<n:=by omega
 have hl:=fun b b1 b2=>lookup_spec n b b1 b2 rowsLow rowsHigh
 generalize (findR rowsLow n).or (findR rowsHigh n)=R at hl ⊢
 rcases h5 with h5|h5
 ·repeat refine st ?_;try intro
  refine o_callM rfl rfl rfl rfl low_spec ?_
  intro b1
  repeat refine st ?_;try intro
  refine o_callM rfl rfl rfl rfl high_spec ?_
  intro b2
  repeat refine st ?_;try intro
  refine o_litN (cs:=[.map (some b1),.map (some b2)]) rfl rfl rfl rfl rfl rfl rfl ?_
  intro b3
  repeat refine st ?_;try intro
  refine OpK.call rfl rfl rfl rfl (hl b3 b1 b2) oY (Mr:=_) (.swap _ _ _) ?_
  rintro u Φ' Mc' ⟨rfl,rfl,rfl⟩
  refine nA ?_
  repeat refine st ?_;try intro
  refine G.ret rfl (.cons (.cellA rfl rfl) (.cons (.tmp rfl) .nil)) (Φ':=[]) (M':=[]) oY oN ⟨?_,rfl,rfl⟩
  rfl
 ·repeat refine st ?_;try intro
  refine o_callM rfl rfl rfl rfl low_spec ?_
  intro b1
  repeat refine st ?_;try intro
  refine o_callM rfl rfl rfl rfl high_spec ?_
  intro b2
  repeat refine st ?_;try intro
  refine o_litN (cs:=[.map (some b1),.map (some b2)]) rfl rfl rfl rfl rfl rfl rfl ?_
  intro b3
  repeat refine st ?_;try intro
  refine OpK.call rfl rfl rfl rfl (hl b3 b1 b2) oY (Mr:=_) (.swap _ _ _) ?_
  rintro u Φ' Mc' ⟨rfl,rfl,rfl⟩
  refine nA ?_
  repeat refine st ?_;try intro
  refine G.ret rfl (.cons (.cellA rfl rfl) (.cons (.tmp rfl) .nil)) (Φ':=[]) (M':=[]) oY oN ⟨?_,rfl,rfl⟩
  rfl
end Go.Rail
namespace Go.Rail
open Go Go.Proofs
set_option maxHeartbeats 400000
set_option maxRecDepth 4000
attribute [local irreducible] OpK G W LW wpListIn Exit.then Exit.inBlock Post rounds opRun bodyPostM intOp
set_option maxHeartbeats 4000000
theorem plcF_lt (l:List UInt8) : ∀ f p,∀ q∈plcF l f p,q<l.length
 | 0,_,q,h=>by cases h
 | f+1,p,q,h=>by
  unfold plcF at h
  split at h
  ·rcases List.mem_cons.1 h with rfl|h
   ·assumption
   ·exact plcF_lt l f _ q h
  ·cases h
end Go.Rail
namespace Go.Rail
open Go Go.Proofs Tryz
set_option maxHeartbeats 400000
set_option maxRecDepth 4000
attribute [local irreducible] OpK G W LW wpListIn Exit.then Exit.inBlock Post rounds opRun bodyPostM intOp
set_option maxHeartbeats 4000000
theorem rbehind_spec (n:Nat) (hn:n<256):FnV prog 24 [.int .u8 (n:Int)] [] (.int .i64 ((behN n:Nat):Int)):=by
 refine Fn.enter func24 rfl ntmps24 oI (fun I0 w0 => ?_)
 unfold behN
 by_cases h:96≤n∧n≤127
 ·rw [if_pos h]
  repeat refine sq ?_;try intro
  refine G.retV ?_
  refine congrArg (Value.int .i64) ?_
  omega
 ·rw [if_neg h]
  by_cases h1:96≤n
  ·repeat refine sq ?_;try intro
   refine G.retV ?_
   rfl
  ·repeat refine sq ?_;try intro
   refine G.retV ?_
   rfl
end Go.Rail
