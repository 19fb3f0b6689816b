/- opcode: digits, what stands behind, places. -/
import Derived.Test.YtjhdodkagchhkaaGreatDoorRailA
import Derived.Test.YtjhdodkagchhkaaGreatDoorRailI
import Derived.Test.YtjhdodkagchhkaaGreatDoorAC19B3
import Derived.Test.YtjhdodkagchhkaaGreatDoorAC14C15
set_option linter.unusedSimpArgs false
set_option linter.unusedVariables false
namespace Go.Rail
open Go Go.Proofs Tryz
set_option maxHeartbeats 400000
set_option maxRecDepth 4000
attribute [local irreducible] OpK G W LW wpListIn Exit.then Exit.inBlock Post rounds opRun bodyPostM intOp
set_option maxHeartbeats 4000000
def digsL:List UInt8:=[48,49,50,51,52,53,54,55,56,57,97,98,99,100,101,102]
def hx1 (n:Nat):UInt8:=digsL.getD n 0
def hx2 (c:UInt8):List UInt8:=[hx1 (c.toNat/16),hx1 (c.toNat%16)]
def hexL (l:List UInt8):List UInt8:=l.flatMap hx2
theorem hexL_len (l:List UInt8):(hexL l).length=2*l.length:=by
 induction l with
 | nil=>rfl
 | cons a l ih=>simp only [hexL,List.flatMap_cons,List.length_append,List.length_cons] at ih ⊢;rw [ih];simp [hx2];omega
theorem hex_take (l:List UInt8) (i:Nat) (h:i<l.length):hexL (l.take (i+1))=hexL (l.take i)++hx2 l[i]:=by
 unfold hexL;rw [List.take_succ_eq_append_getElem h,List.flatMap_append];simp
def behN (n:Nat):Nat:=if 96≤n∧n≤127 then n-95 else 0
theorem behN_le (n:Nat):behN n≤32:=by unfold behN;split<;>omega
theorem behind_spec (n:Nat) (hn:n<256):FnV prog 38 [.int .u8 (n:Int)] [] (.int .i64 ((behN n:Nat):Int)):=by
 refine Fn.enter func38 rfl ntmps38 oI (fun I0 w0 => ?_)
 unfold behN
 by_cases h:96≤n∧n≤127
 ·rw [if_pos h]
  repeat refine sq ?_;try intro
  refine G.retV ?_
  refine congrArg (Value.int .i64) ?_
  omega
 ·rw [if_neg h]
  by_cases h1:96≤n
  ·repeat refine sq ?_;try intro
   refine G.retV ?_
   rfl
  ·repeat refine sq ?_;try intro
   refine G.retV ?_
   rfl
theorem hx1_at (n:Nat) (h:n<16):digsL[n]? = some (hx1 n):=by
 have hl:n<digsL.length:=h
 unfold hx1
 rw [List.getD_eq_getElem?_getD,List.getElem?_eq_getElem hl];rfl
theorem hex_spec (l:List UInt8) (hl:l.length≤1000000):FnV prog 39 [.string (ba l)] [] (.string (ba ([48,120]++hexL l))):=by
 refine Fn.enter func39 rfl ntmps39 oI (fun I0 w0 => ?_)
 repeat refine sq ?_;try intro
 rename_i B
 refine W.lp (S:=Nat × Option Addr × Value × BO) (fun s=>([],[(7,.int .i64 (s.1:Int)),(6,.int .i64 (l.length:Int)),(3,.pointer (some ⟨B,0,none⟩)),(0,.string (ba l))],bldM B s.2.1 s.2.2.1 (hexL (l.take s.1)) s.2.2.2)) (fun s=>s.1≤l.length∧(s.2.1=none∨s.2.1=some ⟨B,0,none⟩)∧IsBuf s.2.2.1 (hexL (l.take s.1)) s.2.2.2) (fun s=>l.length-s.1) (0,none,.slice none 0 0,none) ?_ (h0:=⟨Nat.zero_le _,.inl rfl,rfl,rfl⟩)
 rintro ⟨i,a,v,o⟩ ⟨hi,ha,hb⟩
 dsimp only at hi ha hb ⊢
 by_cases hil:i=l.length
 ·subst hil
  rw [List.take_length] at hb ⊢
  have hs:=bString_spec B a v (hexL l) o hb (by rw [hexL_len];omega)
  have hlen:=hexL_len l
  repeat refine sq ?_;try intro
  refine OpK.call rfl rfl rfl rfl hs oY (Mr:=[]) (by rw [List.append_nil]) ?_
  rintro u Φ' Mc' ⟨o',hb',rfl,rfl,rfl⟩
  repeat refine sq ?_;try intro
  refine G.retV ?_
  rfl
 ·have hil':i<l.length:=by omega
  have e1:=hx1_at (l[i].toNat/16) (by have:=l[i].toNat_lt;omega)
  have e2:=hx1_at (l[i].toNat%16) (Nat.mod_lt _ oE)
  have e3:l[i]? = some l[i]:=List.getElem?_eq_getElem hil'
  have e4:=hex_take l i hil'
  have hlen:=hexL_len (l.take i)
  rw [List.length_take,Nat.min_eq_left hi] at hlen
  unfold hx2 at e4
  generalize l[i]=ch at e1 e2 e3 e4
  generalize hx1 (ch.toNat/16)=d1 at e1 e4
  generalize hx1 (ch.toNat%16)=d2 at e2 e4
  generalize hexL (l.take i)=xs at hb e4 hlen ⊢
  have hw:=writeString_spec B a ha v xs [d1,d2] o hb (by simp only [List.length_cons,List.length_nil];omega)
  repeat refine sq ?_;try intro
  refine W.drawA 10 [dq _,dq _,dq _,dq _,dq _,dq _,dq _,dq _,dq _,dq _] [[],[],[0,1],[2],[3],[],[],[5,6],[7],[8]] [4,9] (hrest:=fun c=>nrm ?_) (hops:=by
   iterate 2 refine AllQ.aq ?_
   refine AllQ.mk (by intro c z0 Φr Lr K;refine nrm ?_;intro hK;refine o_ixG i ch rfl rfl rfl rfl rfl e3 ?_;exact hK z0) ?_
   refine AllQ.mk (by intro c z0 Φr Lr K;refine nrm ?_;intro hK;refine o_shr rfl rfl rfl rfl oE (b_shr4 ch) ?_;exact hK z0) ?_
   refine AllQ.mk (by intro c z0 Φr Lr K;refine nrm ?_;intro hK;refine o_ixG (l:=digsL) (ch.toNat/16) d1 rfl rfl rfl rfl rfl e1 ?_;exact hK z0) ?_
   iterate 2 refine AllQ.aq ?_
   refine AllQ.mk (by intro c z0 Φr Lr K;refine nrm ?_;intro hK;refine o_ixG i ch rfl rfl rfl rfl rfl e3 ?_;exact hK z0) ?_
   refine AllQ.mk (by intro c z0 Φr Lr K;refine nrm ?_;intro hK;refine o_int rfl rfl rfl rfl (b_and15 ch) ?_;exact hK z0) ?_
   refine AllQ.mk (by intro c z0 Φr Lr K;refine nrm ?_;intro hK;refine o_ixG (l:=digsL) (ch.toNat%16) d2 rfl rfl rfl rfl rfl e2 ?_;exact hK z0) ?_
   exact AllQ.nil)
  repeat refine sq ?_;try intro
  refine OpK.call rfl rfl rfl rfl hw oY (Mr:=[]) (by rw [List.append_nil]) ?_
  rintro u Φ' Mc' ⟨v',o',hb',rfl,rfl,rfl⟩
  rw [← e4] at hb' ⊢
  dsimp only [List.nil_append]
  rw [List.append_nil]
  repeat refine sq ?_;try intro
  exact G.ag (S:=Nat × Option Addr × Value × BO) (i+1,some ⟨B,0,none⟩,v',o') (hpre:=⟨by dsimp only;omega,.inr rfl,hb'⟩)
end Go.Rail
namespace Go.Rail
open Go Go.Proofs Tryz
set_option maxHeartbeats 400000
set_option maxRecDepth 4000
attribute [local irreducible] OpK G W LW wpListIn Exit.then Exit.inBlock Post rounds opRun bodyPostM intOp
set_option maxHeartbeats 4000000
def plcF (l:List UInt8):Nat→Nat→List Nat
 | 0,_=>[]
 | f+1,p=>if p<l.length then p::plcF l f (p+1+behN (l.getD p 0).toNat) else []
def plc (l:List UInt8):List Nat:=plcF l l.length 0
theorem plcF_done {l:List UInt8} {f p:Nat} (h:l.length≤p):plcF l f p=[]:=by
 cases f with
 | zero=>rfl
 | succ f=>unfold plcF;rw [if_neg oM]
theorem plcF_step {l:List UInt8} {f p:Nat} (hf:l.length≤f+p) (h:p<l.length) : ∃ g,f=g+1∧plcF l f p=p::plcF l g (p+1+behN (l.getD p 0).toNat)∧l.length≤g+(p+1+behN (l.getD p 0).toNat):=by
 cases f with
 | zero=>omega
 | succ g=>exact ⟨g,rfl,by conv=>lhs;unfold plcF;rw [if_pos h],by omega⟩
def plE (l:List UInt8):List (List Value):=(plc l).map fun (p:Nat)=>[.int .i64 (p:Int),.int .u8 (((l.getD p 0).toNat:Nat):Int)]
theorem plE_len (l:List UInt8):(plE l).length=(plc l).length:=by simp [plE]
theorem plE_two (l:List UInt8) : ∀ vs∈plE l,vs.length=2:=by
 intro vs h
 obtain ⟨p,_,rfl⟩:=List.mem_map.1 h
 rfl
theorem plE_at (l:List UInt8) (k p:Nat) (h:k<(plE l).length) (hp:(plc l)[k]? = some p):(plE l)[k]=[.int .i64 (p:Int),.int .u8 (((l.getD p 0).toNat:Nat):Int)]:=by
 obtain ⟨h1,h2⟩:=List.getElem?_eq_some_iff.1 hp
 simp [plE,h2]
structure PlSt where
 k:Nat
 p:Nat
 f:Nat
 s:St
theorem places1_spec (b:Nat) (l:List UInt8) (hl:l.length≤1000000000):IterR prog 76 [.pointer (some ⟨b,0,none⟩)] (plE l) [fBlk b [.string (ba l)] 9]:=by
 intro y T Z hy s0 hs0
 rw [plE_len]
 show Fn _ _ _ (fBlk b [.string (ba l)] 9::s0.1) _ _
 refine Fn.enter func76 rfl ntmps76 oI (fun I0 w0 => ?_)
 repeat refine sq ?_;try intro
 refine W.lp (S:=PlSt) (fun i=>(fBlk b [.string (ba l)] 9::i.s.1,[(0,.func (.yield y) #[] #[]),(1,.pointer (some ⟨b,0,none⟩)),(3,.int .i64 (i.p:Int))],i.s.2)) (fun i=>l.length≤i.f+i.p∧i.k≤(plc l).length∧(plc l).drop i.k=plcF l i.f i.p∧i.p≤l.length+100∧T i.k i.s) (fun i=>(plc l).length-i.k) ⟨0,0,l.length,s0⟩ ?_ (h0:=⟨by dsimp only;omega,Nat.zero_le _,rfl,by dsimp only;omega,hs0⟩) (hΦ:=⟨fun I hp φ hφ=>hp φ hφ⟩)
 rintro ⟨k,p,f,sa⟩ ⟨hf,hk,hd,hp100,hT⟩
 dsimp only at hf hk hd hp100 hT ⊢
 by_cases hp:p<l.length
 ·obtain ⟨g,rfl,hg1,hg2⟩:=plcF_step hf hp
  rw [hg1] at hd
  have hkl:k<(plc l).length:=by
   rcases Nat.lt_or_ge k (plc l).length with h|h
   ·exact h
   ·rw [List.drop_eq_nil_of_le h] at hd;cases hd
  have hkp:(plc l)[k]? = some p:=by
   have:=congrArg List.head? hd
   rw [List.head?_drop] at this;exact this
  have hd2:(plc l).drop (k+1)=plcF l g (p+1+behN (l.getD p 0).toNat):=by
   have:=congrArg List.tail hd
   rwa [List.tail_drop] at this
  have hyk:=hy k (by rw [plE_len];exact hkl) sa hT
  rw [plE_at l k p (by rw [plE_len];exact hkl) hkp] at hyk
  have hlp:l[p]? = some (l.getD p 0):=by rw [List.getD_eq_getElem?_getD,List.getElem?_eq_getElem hp];rfl
  have hbh:=behind_spec (l.getD p 0).toNat (l.getD p 0).toNat_lt
  have hb32:=behN_le (l.getD p 0).toNat
  generalize behN (l.getD p 0).toNat=n at hg1 hg2 hd hd2 hbh hb32
  generalize l.getD p 0=ch at hyk hlp hbh
  obtain ⟨_,he⟩:=List.getElem?_eq_some_iff.1 hlp
  repeat refine sq ?_;try intro
  rw [he]
  refine o_yieldR (Mr:=[]) rfl rfl rfl rfl hyk (fun I hp φ hφ=>hp φ (by simp [hφ])) oI ?_ ?_
  ·intro st2 hst2
   rw [List.append_nil]
   refine G.weaken (Φ':=fBlk b [.string (ba l)] 9::st2.1) ?_ (fun φ hφ=>(List.mem_cons.1 hφ).elim (fun e=>List.mem_append_right _ (by rw [e];exact .head _)) (fun h=>List.mem_append_left _ h)) (fun _ _ h=>h) oZ
   repeat refine sq ?_;try intro
   rw [he]
   repeat refine sq ?_;try intro
   refine cV hbh ?_
   repeat refine sq ?_;try intro
   refine G.ag (S:=PlSt) ⟨k+1,p+(1+n),g,st2⟩ (hpre:=⟨by dsimp only;omega,by dsimp only;omega,by rw [← Nat.add_assoc];exact hd2,by dsimp only;omega,hst2⟩) (hΦ:=⟨fun I hp φ hφ => ?_⟩) (hM:=List.Sublist.refl _)
   exact hp φ hφ
  ·intro s hs
   rw [List.append_nil]
   repeat refine sq ?_;try intro
   exact G.ret rfl .nil (Φ':=s.1) (M':=s.2) ⟨fun I hp φ hφ=>hp φ (by simp [hφ])⟩ oZ (.inr hs)
 ·rw [plcF_done oM] at hd
  have hkl:k=(plc l).length:=by
   have:=congrArg List.length hd
   rw [List.length_drop] at this
   have h0:([]:List Nat).length=0:=rfl
   omega
  subst hkl
  repeat refine sq ?_;try intro
  exact G.fin rfl .nil (Φ':=sa.1) (M':=sa.2) ⟨fun I hp φ hφ=>hp φ (.tail _ hφ)⟩ oZ (.inl hT)
theorem places_spec (l:List UInt8):Fn prog 36 [.string (ba l)] [] [] (fun u Φ' M' => ∃ b,u = .func (.func 76) #[] #[.pointer (some ⟨b,0,none⟩)]∧Φ'=[fBlk b [.string (ba l)] 9]∧M'=[]):=by
 refine Fn.enter func36 rfl ntmps36 oI (fun I0 w0 => ?_)
 repeat refine sq ?_;try intro
 rename_i b
 refine o_func rfl rfl rfl rfl ?_
 repeat refine sq ?_;try intro
 refine G.give b (cs:=[.string (ba l)]) (t:=9) ?_
 exact G.ret rfl (.cons (.tmp rfl) .nil) (Φ':=[fBlk b [.string (ba l)] 9]) (M':=[]) oY oN ⟨b,rfl,rfl,rfl⟩
end Go.Rail
namespace Go.Rail
open Go Go.Proofs Tryz
set_option maxHeartbeats 400000
set_option maxRecDepth 4000
attribute [local irreducible] OpK G W LW wpListIn Exit.then Exit.inBlock Post rounds opRun bodyPostM intOp
set_option maxHeartbeats 4000000
theorem plcF_len (l:List UInt8) : ∀ f p,(plcF l f p).length≤f
 | 0,_=>Nat.le_refl _
 | f+1,p=>by
  unfold plcF
  split
  ·rw [List.length_cons];have:=plcF_len l f (p+1+behN (l.getD p 0).toNat);omega
  ·exact Nat.zero_le _
def jmT (l:List UInt8) (k:Nat):List Int:=(((plc l).take k).filter fun (p:Nat)=>decide ((l.getD p 0).toNat=91)).map fun (p:Nat)=>(p:Int)
def jmL (l:List UInt8):List Int:=((plc l).filter fun (p:Nat)=>decide ((l.getD p 0).toNat=91)).map fun (p:Nat)=>(p:Int)
theorem jmT_all (l:List UInt8):jmT l (plc l).length=jmL l:=by rw [jmT,jmL,List.take_length]
theorem jmT_len (l:List UInt8) (k:Nat):(jmT l k).length≤l.length:=by
 rw [jmT,List.length_map]
 have h1:=List.length_filter_le (fun (p:Nat)=>decide ((l.getD p 0).toNat=91)) ((plc l).take k)
 have h2:=plcF_len l l.length 0
 have h3:((plc l).take k).length≤(plc l).length:=by rw [List.length_take];omega
 rw [plc] at h3
 rw [plc] at h1 ⊢
 omega
theorem jmT_step (l:List UInt8) (k p:Nat) (hp:(plc l)[k]? = some p):jmT l (k+1)=jmT l k++(if (l.getD p 0).toNat=91 then [(p:Int)] else []):=by
 obtain ⟨h1,h2⟩:=List.getElem?_eq_some_iff.1 hp
 rw [jmT,jmT,List.take_succ_eq_append_getElem h1,h2,List.filter_append,List.map_append]
 by_cases h:(l.getD p 0).toNat=91
 ·rw [if_pos h,List.filter_cons_of_pos (by simpa using h)];rfl
 ·rw [if_neg h,List.filter_cons_of_neg (by simpa using h)];rfl
theorem jumpsO_spec (l:List UInt8) (hl:l.length≤100000):Fn prog 277 [.string (ba l)] [] [] (ROwn 3 (jmL l)):=by
 have hpl:=places_spec l
 refine Fn.enter func277 rfl ntmps277 oI (fun I0 w0 => ?_)
 repeat refine sq ?_;try intro
 rename_i b2
 refine OpK.call rfl rfl rfl rfl hpl oY (Mr:=_) oP ?_
 rintro u Φ' Mc' ⟨b,rfl,rfl,rfl⟩
 refine nA ?_
 repeat refine sq ?_;try intro
 refine W.rangeFuncR (enc:=plE l) (ps:=[7,8]) (Φi:=[fBlk b [.string (ba l)] 9]) (Mr:=[]) (fun k s => ∃ w o,IsOwn 1 w (jmT l k).length o∧s=([fRow (ocells o) (jmT l k)],(b2,Ob [w] 301)::ownM 3 o)) (fun _ _=>False) rfl (places1_spec b l oM) oE (plE_two l) oY ([fRow ([]:List Value) ([]:List Int)],[(b2,Ob [.slice none 0 0] 301)]) ⟨_,none,⟨rfl,rfl⟩,rfl⟩ oY oP ?_ ?_ ?_
 ·rintro y rec I0' w0' k hk _ ⟨w,o,hown,rfl⟩
  rw [plE_len] at hk
  obtain ⟨p,hp⟩ : ∃ p,(plc l)[k]? = some p:=⟨_,List.getElem?_eq_getElem hk⟩
  have hst:=jmT_step l k p hp
  have hlen:=jmT_len l k
  dsimp only
  rw [plE_at l k p (by rw [plE_len];exact hk) hp]
  generalize l.getD p 0=ch at hst ⊢
  show W _ _ _ _ ((8,.int .u8 ((ch.toNat:Nat):Int))::(7,.int .i64 (p:Int))::_) _
  repeat refine sq ?_;try intro
  refine G.begin (by rfl) ?_
  by_cases h91:ch.toNat=91
  ·rw [if_pos h91] at hst
   repeat refine sq ?_;try intro
   refine o_app2 (Mr:=[_,_]) o (xs:=jmT l k) (ys:=[(p:Int)]) hown ⟨by simp;omega,by simp;omega,rfl⟩ rfl rfl rfl rfl oY oY oP ?_
   intro w' o' hown'
   rw [← hst] at hown' ⊢
   refine nA ?_
   repeat refine sq ?_;try intro
   refine o_store (vs:=[w']) (cs':=[w']) rfl rfl rfl (own_cell hown').1 rfl (Nat.le_of_ble_eq_true rfl) (own_cell hown').2 rfl ?_
   repeat refine sq ?_;try intro
   refine G.roundEnd oY (Φ':=[fRow (ocells o') (jmT l (k+1))]) (M'':=(b2,Ob [w'] 301)::ownM 3 o') ?_ oY (by first|exact List.Sublist.refl _|exact .cons _ oZ)
   exact Or.inl ⟨rfl,([fRow (ocells o') (jmT l (k+1))],(b2,Ob [w'] 301)::ownM 3 o'),⟨w',o',hown',rfl⟩,rfl⟩
  ·rw [if_neg h91,List.append_nil] at hst
   rw [← hst] at hown ⊢
   repeat refine sq ?_;try intro
   refine G.roundEnd oY (Φ':=[fRow (ocells o) (jmT l (k+1))]) (M'':=(b2,Ob [w] 301)::ownM 3 o) ?_ oY (by first|exact List.Sublist.refl _|exact .cons _ oZ)
   exact Or.inl ⟨rfl,([fRow (ocells o) (jmT l (k+1))],(b2,Ob [w] 301)::ownM 3 o),⟨w,o,hown,rfl⟩,rfl⟩
 ·rintro D _ ⟨w,o,hown,rfl⟩
  rw [plE_len,jmT_all] at hown ⊢
  refine G.perm ?_ oH
  refine nA ?_
  repeat refine sq ?_;try intro
  refine o_store (vs:=[w]) (cs':=[w]) rfl rfl rfl (own_cell hown).1 rfl (Nat.le_of_ble_eq_true rfl) (own_cell hown).2 rfl ?_
  repeat refine sq ?_;try intro
  refine G.unmark oY ?_
  refine G.give b2 (cs:=[w]) (t:=301) ?_
  exact G.ret rfl (.cons (.cell1 rfl) .nil) (Φ':=[fRow (ocells o) (jmL l)]) (M':=ownM 3 o) oY oZ ⟨o,hown,rfl,rfl⟩
 ·intro D c s h
  exact h.elim
end Go.Rail
namespace Go.Rail
open Go Go.Proofs Tryz
set_option maxHeartbeats 400000
set_option maxRecDepth 4000
attribute [local irreducible] OpK G W LW wpListIn Exit.then Exit.inBlock Post rounds opRun bodyPostM intOp
set_option maxHeartbeats 4000000
def nameL (ch:UInt8):List UInt8:=match infoN ch.toNat with
 | some r=>r.name
 | none=>[48,120]++hexL [ch]
theorem name_spec (ch:UInt8):FnV prog 37 [.int .u8 ((ch.toNat:Nat):Int)] [] (.string (ba (nameL ch))):=by
 have hi:=info_spec ch.toNat ch.toNat_lt
 have hx:=hex_spec [ch] (Nat.le_of_ble_eq_true rfl)
 unfold infoV at hi
 unfold nameL
 cases h:infoN ch.toNat with
 | some r =>
  rw [h] at hi
  dsimp only [Option.getD_some,Option.isSome_some] at hi ⊢
  refine Fn.enter func37 rfl ntmps37 oI (fun I0 w0 => ?_)
  repeat refine sq ?_;try intro
  refine cV hi ?_
  repeat refine sq ?_;try intro
  refine G.retV ?_
  rfl
 | none =>
  rw [h] at hi
  dsimp only [Option.getD_none,Option.isSome_none] at hi ⊢
  refine Fn.enter func37 rfl ntmps37 oI (fun I0 w0 => ?_)
  repeat refine sq ?_;try intro
  refine cV hi ?_
  repeat refine sq ?_;try intro
  refine cV hx ?_
  repeat refine sq ?_;try intro
  refine G.retV ?_
  rfl
end Go.Rail
