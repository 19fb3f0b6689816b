/- opcode.Text: a code's lines. -/
import Derived.Test.YtjhdodkagchhkaaGreatDoorRailA
import Derived.Test.YtjhdodkagchhkaaGreatDoorRailI
import Derived.Test.YtjhdodkagchhkaaGreatDoorAB4B7
set_option linter.unusedSimpArgs false
set_option linter.unusedVariables false
namespace Go.Rail
open Go Go.Proofs Tryz
set_option maxHeartbeats 400000
set_option maxRecDepth 4000
attribute [local irreducible] OpK G W LW wpListIn Exit.then Exit.inBlock Post rounds opRun bodyPostM intOp
set_option maxHeartbeats 4000000
theorem nameL_all:((List.range 256).all fun n=>decide ((nameL (UInt8.ofNat n)).length≤20))=true:=by kernel_rfl
theorem nameL_len (ch:UInt8):(nameL ch).length≤20:=by
 have h:=List.all_eq_true.1 nameL_all ch.toNat (List.mem_range.2 ch.toNat_lt)
 rw [UInt8.ofNat_toNat] at h
 exact of_decide_eq_true h
def tailB (l:List UInt8) (p n:Nat):List UInt8:=(l.take (min (p+1+n) l.length)).drop (p+1)
theorem tailB_len (l:List UInt8) (p n:Nat):(tailB l p n).length≤n:=by
 rw [tailB,List.length_drop,List.length_take];omega
def txE (l:List UInt8) (p:Nat):List UInt8:=nameL (l.getD p 0)++((if 0<behN (l.getD p 0).toNat then [32]++([48,120]++hexL (tailB l p (behN (l.getD p 0).toNat))) else [])++[10])
theorem txE_len (l:List UInt8) (p:Nat):(txE l p).length≤100:=by
 have h1:=nameL_len (l.getD p 0)
 have h2:=tailB_len l p (behN (l.getD p 0).toNat)
 have h3:=behN_le (l.getD p 0).toNat
 rw [txE,List.length_append,List.length_append]
 split
 ·rw [List.length_append,List.length_append,hexL_len]
  simp only [List.length_cons,List.length_nil]
  omega
 ·simp only [List.length_cons,List.length_nil]
  omega
def txT (l:List UInt8) (k:Nat):List UInt8:=((plc l).take k).flatMap (txE l)
def txL (l:List UInt8):List UInt8:=(plc l).flatMap (txE l)
theorem txT_all (l:List UInt8):txT l (plc l).length=txL l:=by rw [txT,txL,List.take_length]
theorem flat_len {α:Type} (f:α→List UInt8) (h : ∀ a,(f a).length≤100) (l:List α):(l.flatMap f).length≤100*l.length:=by
 induction l with
 | nil=>exact Nat.zero_le _
 | cons a l ih=>have:=h a;rw [List.flatMap_cons,List.length_append,List.length_cons];omega
theorem txT_len (l:List UInt8) (k:Nat):(txT l k).length≤100*l.length:=by
 have h1:=flat_len (txE l) (txE_len l) ((plc l).take k)
 have h2:=plcF_len l l.length 0
 have h3:((plc l).take k).length≤(plc l).length:=by rw [List.length_take];omega
 rw [plc] at h3
 rw [txT]
 rw [plc] at h1 ⊢
 omega
theorem txT_step (l:List UInt8) (k p:Nat) (hp:(plc l)[k]? = some p):txT l (k+1)=txT l k++txE l p:=by
 obtain ⟨h1,h2⟩:=List.getElem?_eq_some_iff.1 hp
 rw [txT,txT,List.take_succ_eq_append_getElem h1,h2,List.flatMap_append]
 simp
theorem plcF_lt (l:List UInt8) : ∀ f p,∀ q∈plcF l f p,q<l.length
 | 0,_,q,h=>by cases h
 | f+1,p,q,h=>by
  unfold plcF at h
  split at h
  ·rcases List.mem_cons.1 h with rfl|h
   ·assumption
   ·exact plcF_lt l f _ q h
  ·cases h
theorem plc_lt (l:List UInt8) (k p:Nat) (hp:(plc l)[k]? = some p):p<l.length:=plcF_lt l _ _ p (List.mem_of_getElem? hp)
theorem text_spec (l:List UInt8) (hl:l.length≤100000):FnV prog 11 [.string (ba l)] [] (.string (ba (txL l))):=by
 have hpl:=places_spec l
 refine Fn.enter func11 rfl ntmps11 oI (fun I0 w0 => ?_)
 repeat refine sq ?_;try intro
 rename_i b1 B
 refine OpK.call rfl rfl rfl rfl hpl oY (Mr:=_) oP ?_
 rintro u Φ' Mc' ⟨b,rfl,rfl,rfl⟩
 refine nA ?_
 repeat refine sq ?_;try intro
 refine W.rangeFuncR (enc:=plE l) (ps:=[9,10]) (Φi:=[fBlk b [.string (ba l)] 9]) (Mr:=[]) (fun k s => ∃ a v o,(a=none∨a=some ⟨B,0,none⟩)∧IsBuf v (txT l k) o∧s=([],(b1,Ob [.string (ba l)] 9)::bldM B a v (txT l k) o)) (fun _ _=>False) rfl (places1_spec b l oM) oE (plE_two l) oY ([],(b1,Ob [.string (ba l)] 9)::bldM B none (.slice none 0 0) [] none) ⟨_,_,none,.inl rfl,⟨rfl,rfl⟩,rfl⟩ oY (List.Perm.swap _ _ _) ?_ ?_ ?_
 ·rintro y rec I0' w0' k hk _ ⟨a,v,o,ha,hb,rfl⟩
  rw [plE_len] at hk
  obtain ⟨p,hp⟩ : ∃ p,(plc l)[k]? = some p:=⟨_,List.getElem?_eq_getElem hk⟩
  have hst:=txT_step l k p hp
  have hlen:=txT_len l k
  have hpl:=plc_lt l k p hp
  have htl:=tailB_len l p (behN (l.getD p 0).toNat)
  have hb32:=behN_le (l.getD p 0).toNat
  have hbh:=behind_spec (l.getD p 0).toNat (l.getD p 0).toNat_lt
  have hnm:=name_spec (l.getD p 0)
  have hnl:=nameL_len (l.getD p 0)
  unfold txE at hst
  dsimp only
  rw [plE_at l k p (by rw [plE_len];exact hk) hp]
  generalize l.getD p 0=ch at hst htl hb32 hbh hnm hnl ⊢
  generalize behN ch.toNat=n at hst htl hb32 hbh
  generalize txT l k=xs at hst hlen hb ⊢
  generalize txT l (k+1)=xs' at hst ⊢
  generalize nameL ch=nm at hst hnm hnl
  have hw:=writeString_spec B a ha v xs nm o hb oM
  show W _ _ _ _ ((10,.int .u8 ((ch.toNat:Nat):Int))::(9,.int .i64 (p:Int))::_) _
  repeat refine sq ?_;try intro
  refine G.begin (by rfl) ?_
  repeat refine sq ?_;try intro
  refine cV hnm ?_
  repeat refine sq ?_;try intro
  refine OpK.call rfl rfl rfl rfl hw oY (Mr:=[_,_]) (oH (l₁:=[_,_])) ?_
  rintro u Φ' Mc' ⟨v2,o2,hb2,rfl,rfl,rfl⟩
  refine G.perm ?_ oH
  refine nA ?_
  repeat refine sq ?_;try intro
  refine cV hbh ?_
  repeat refine sq ?_;try intro
  by_cases hn0:0<n
  ·rw [if_pos hn0] at hst
   have hx:=hex_spec (tailB l p n) oM
   have hxl:=hexL_len (tailB l p n)
   unfold tailB at hx hxl hst htl
   repeat refine sq ?_;try intro
   refine o_slT (p+1) (min (p+1+n) l.length) rfl rfl rfl ⟨_,_,rfl,rfl⟩ ⟨_,_,rfl,by split<;>omega⟩ oM oM ?_
   generalize (l.take (min (p+1+n) l.length)).drop (p+1)=t at hx hxl hst htl ⊢
   generalize hexL t=ht at hx hxl hst
   have hw2:=writeString_spec B (some ⟨B,0,none⟩) (.inr rfl) v2 (xs++nm) ([32]++([48,120]++ht)) o2 hb2 (by simp only [List.length_append,List.length_cons,List.length_nil];omega)
   repeat refine sq ?_;try intro
   refine cV hx ?_
   repeat refine sq ?_;try intro
   repeat refine sq ?_;try intro
   refine OpK.call rfl rfl rfl rfl hw2 oY (Mr:=[_,_]) (oH (l₁:=[_,_])) ?_
   rintro u Φ' Mc' ⟨v4,o4,hb4,rfl,rfl,rfl⟩
   refine G.perm ?_ oH
   refine nA ?_
   have hw3:=writeByte_spec B (some ⟨B,0,none⟩) (.inr rfl) v4 _ 10 o4 hb4 (by simp only [List.length_append,List.length_cons,List.length_nil];omega)
   repeat refine sq ?_;try intro
   refine OpK.call rfl rfl rfl rfl hw3 oY (Mr:=[_,_]) (oH (l₁:=[_,_])) ?_
   rintro u Φ' Mc' ⟨v3,o3,hb3,rfl,rfl,rfl⟩
   refine G.perm ?_ oH
   have e:xs++nm++([32]++([48,120]++ht))++[10]=xs':=by rw [hst];simp
   rw [e] at hb3 ⊢
   refine nA ?_
   repeat refine sq ?_;try intro
   refine G.roundEnd oY (Φ':=[]) (M'':=(b1,Ob [.string (ba l)] 9)::bldM B (some ⟨B,0,none⟩) v3 xs' o3) ?_ oY (by first|exact List.Sublist.refl _|exact .cons _ oZ)
   exact Or.inl ⟨rfl,([],(b1,Ob [.string (ba l)] 9)::bldM B (some ⟨B,0,none⟩) v3 xs' o3),⟨_,v3,o3,.inr rfl,hb3,rfl⟩,rfl⟩
  ·rw [if_neg hn0] at hst
   have hw3:=writeByte_spec B (some ⟨B,0,none⟩) (.inr rfl) v2 (xs++nm) 10 o2 hb2 (by rw [List.length_append];omega)
   repeat refine sq ?_;try intro
   refine OpK.call rfl rfl rfl rfl hw3 oY (Mr:=[_,_]) (oH (l₁:=[_,_])) ?_
   rintro u Φ' Mc' ⟨v3,o3,hb3,rfl,rfl,rfl⟩
   refine G.perm ?_ oH
   have e:xs++nm++[10]=xs':=by rw [hst];simp
   rw [e] at hb3 ⊢
   refine nA ?_
   repeat refine sq ?_;try intro
   refine G.roundEnd oY (Φ':=[]) (M'':=(b1,Ob [.string (ba l)] 9)::bldM B (some ⟨B,0,none⟩) v3 xs' o3) ?_ oY (by first|exact List.Sublist.refl _|exact .cons _ oZ)
   exact Or.inl ⟨rfl,([],(b1,Ob [.string (ba l)] 9)::bldM B (some ⟨B,0,none⟩) v3 xs' o3),⟨_,v3,o3,.inr rfl,hb3,rfl⟩,rfl⟩
 ·rintro D _ ⟨a,v,o,ha,hb,rfl⟩
  rw [plE_len,txT_all] at hb ⊢
  have hlen:=txT_len l (plc l).length
  rw [txT_all] at hlen
  have hs:=bString_spec B a v (txL l) o hb oM
  refine G.perm ?_ oH
  refine nA ?_
  repeat refine sq ?_;try intro
  refine OpK.call rfl rfl rfl rfl hs oY (Mr:=[_,_]) (oH (l₁:=[_,_])) ?_
  rintro u Φ' Mc' ⟨o',hb',rfl,rfl,rfl⟩
  refine G.perm ?_ oH
  refine nA ?_
  repeat refine sq ?_;try intro
  refine G.unmark oY ?_
  refine G.retV ?_
  rfl
 ·intro D c s h
  exact h.elim
end Go.Rail
namespace Go.Rail
open Go Go.Proofs Tryz
set_option maxHeartbeats 400000
set_option maxRecDepth 4000
attribute [local irreducible] OpK G W LW wpListIn Exit.then Exit.inBlock Post rounds opRun bodyPostM intOp
set_option maxHeartbeats 4000000
def unhP:List UInt8→Option (List UInt8)
 | []=>some []
 | [_]=>none
 | a::b::r=>if idxB digsL a<16∧idxB digsL b<16 then (unhP r).map (UInt8.ofNat (16*idxB digsL a+idxB digsL b) :: ·) else none
theorem unhP_odd : ∀ l:List UInt8,l.length%2=1→unhP l=none
 | [],h=>by cases h
 | [_],_=>rfl
 | a::b::r,h=>by
  have ih:=unhP_odd r (by simp only [List.length_cons] at h;omega)
  unfold unhP;rw [ih];split<;>rfl
def unhL (l:List UInt8):Option (List UInt8):=if [48,120].isPrefixOf l then unhP (l.drop 2) else none
theorem or4_all:((List.range 16).all fun a=>(List.range 16).all fun b=>decide (bits .or .i64 ((16*a:Nat):Int) (b:Int)=((16*a+b:Nat):Int)))=true:=by kernel_rfl
theorem i_or4 (a b:Nat) (ha:a<16) (hb:b<16):intOp .or .i64 ((16*a:Nat):Int) (b:Int)=some (.int .i64 ((16*a+b:Nat):Int)):=by
 have h:=of_decide_eq_true (List.all_eq_true.1 (List.all_eq_true.1 or4_all a (List.mem_range.2 ha)) b (List.mem_range.2 hb))
 unfold intOp;exact congrArg (fun v=>some (Value.int .i64 v)) h
theorem shl4_all:((List.range 16).all fun a=>decide (IntKind.i64.wrap ((a:Int)*2^(min (4:Int).toNat IntKind.i64.bits))=((16*a:Nat):Int)))=true:=by kernel_rfl
theorem i_shl4 (a:Nat) (ha:a<16):Value.int .i64 (IntKind.i64.wrap ((a:Int)*2^(min (4:Int).toNat IntKind.i64.bits))) = .int .i64 ((16*a:Nat):Int) :=
 congrArg (Value.int .i64) (of_decide_eq_true (List.all_eq_true.1 shl4_all a (List.mem_range.2 ha)))
def unV (r:Option (List UInt8)):Value := .tuple #[.string (ba (r.getD [])),.bool r.isSome]
structure UhSt where
 j:Nat
 xs:List UInt8
 w:Value
 o:OR
theorem unhP_step (r:List UInt8) (i:Nat) (a b:UInt8) (ha:r[i]? = some a) (hb:r[i+1]? = some b):unhP (r.drop i)=if idxB digsL a<16∧idxB digsL b<16 then (unhP (r.drop (i+2))).map (UInt8.ofNat (16*idxB digsL a+idxB digsL b) :: ·) else none:=by
 obtain ⟨h1,e1⟩:=List.getElem?_eq_some_iff.1 ha
 obtain ⟨h2,e2⟩:=List.getElem?_eq_some_iff.1 hb
 rw [List.drop_eq_getElem_cons h1,List.drop_eq_getElem_cons h2,e1,e2]
 conv=>lhs;unfold unhP
theorem idx_dig (a:UInt8):(∃ x,x<16∧idxB digsL a=x∧Lib.indexByte digsL a=(x:Int))∨(¬ idxB digsL a<16∧Lib.indexByte digsL a = -1):=by
 rw [indexByte_eq,show digsL.length=16 from rfl]
 by_cases h:idxB digsL a<16
 ·exact .inl ⟨_,h,rfl,by rw [if_pos h]⟩
 ·exact .inr ⟨h,by rw [if_neg h]⟩
theorem unhex_spec (l:List UInt8) (hl:l.length≤1000000):FnV prog 74 [.string (ba l)] [] (unV (unhL l)):=by
 have hcp:=sCutPrefix_spec l [48,120] oM
 have hd:(if [48,120].isPrefixOf l then l.drop ([48,120]:List UInt8).length else l).length≤l.length:=by split<;>simp
 unfold unhL unV
 refine Fn.enter func74 rfl ntmps74 oI (fun I0 w0 => ?_)
 cases hp:[48,120].isPrefixOf l with
 | false =>
  rw [hp] at hcp
  repeat refine sq ?_;try intro
  refine cV hcp ?_
  repeat refine sq ?_;try intro
  refine G.retV ?_
  rfl
 | true =>
  rw [hp,if_pos rfl] at hcp
  rw [if_pos rfl]
  have hlr:(l.drop 2).length≤l.length:=by simp
  change FnV _ _ _ _ (.tuple #[.string (ba (l.drop 2)),_]) at hcp
  generalize l.drop 2=r at hcp hlr ⊢
  by_cases hodd:r.length%2=1
  ·rw [unhP_odd r hodd]
   repeat refine sq ?_;try intro
   refine cV hcp ?_
   repeat refine sq ?_;try intro
   refine G.retV ?_
   rfl
  ·repeat refine sq ?_;try intro
   refine cV hcp ?_
   repeat refine sq ?_;try intro
   refine W.lp (S:=UhSt) (fun s=>([fRow (ocells s.o) s.xs],[(6,.int .i64 ((2*s.j:Nat):Int)),(5,s.w),(0,.string (ba r))],ownM 5 s.o)) (fun s=>2*s.j≤r.length∧s.xs.length=s.j∧IsOwn 1 s.w s.xs.length s.o∧unhP r=(unhP (r.drop (2*s.j))).map (s.xs ++ ·)) (fun s=>r.length-2*s.j) ⟨0,[],.slice none 0 0,none⟩ ?_ (h0:=⟨Nat.zero_le _,rfl,⟨rfl,rfl⟩,by simp⟩)
   rintro ⟨j,xs,w,o⟩ ⟨hj,hxs,hown,hu⟩
   dsimp only at hj hxs hown hu ⊢
   by_cases hje:2*j=r.length
   ·rw [hje,List.drop_length] at hu
    change unhP r=some (xs++[]) at hu
    rw [List.append_nil] at hu
    rw [hu]
    refine W.bare (G.giveOwn2 (Mr:=[]) w xs o 5 hown oY oP ?_)
    refine G.code ?_
    repeat refine sq ?_;try intro
    refine G.retV ?_
    rfl
   ·obtain ⟨a,ha⟩ : ∃ a,r[2*j]? = some a:=⟨_,List.getElem?_eq_getElem oM⟩
    obtain ⟨b,hb⟩ : ∃ b,r[2*j+1]? = some b:=⟨_,List.getElem?_eq_getElem oM⟩
    rw [unhP_step r (2*j) a b ha hb] at hu
    have hia:=sIndexByte_spec digsL a
    have hib:=sIndexByte_spec digsL b
    rcases idx_dig a with ⟨xa,hxa,ea,ea2⟩|⟨hna,ea2⟩
    ·rcases idx_dig b with ⟨xb,hxb,eb,eb2⟩|⟨hnb,eb2⟩
     ·rw [ea,eb,if_pos ⟨hxa,hxb⟩] at hu
      rw [ea2] at hia
      rw [eb2] at hib
      clear ea ea2 eb eb2
      repeat refine sq ?_;try intro
      refine W.drawA 8 [dq _,dq _,dq _,dq _,dq _,dq _,dq _,dq _] [[],[],[0,1],[2],[],[],[5],[4,6]] [3,7] (hrest:=fun c=>nrm ?_) (hops:=by
       iterate 2 refine AllQ.aq ?_
       refine AllQ.mk (by intro c z0 Φr Lr K;refine nrm ?_;intro hK;refine o_ixG (2*j) a rfl rfl rfl rfl rfl ha ?_;exact hK z0) ?_
       refine AllQ.mk (by intro c z0 Φr Lr K;refine nrm ?_;intro hK;refine cV hia ?_;exact hK z0) ?_
       iterate 3 refine AllQ.aq ?_
       refine AllQ.mk (by intro c z0 Φr Lr K;refine nrm ?_;intro hK;refine o_ixG (2*j+1) b rfl rfl rfl rfl rfl hb ?_;exact hK z0) ?_
       exact AllQ.nil)
      repeat refine sq ?_;try intro
      refine cV hib ?_
      repeat refine sq ?_;try intro
      refine o_shl rfl rfl rfl rfl oE (i_shl4 xa hxa) ?_
      repeat refine sq ?_;try intro
      refine o_int rfl rfl rfl rfl (i_or4 xa xb hxa hxb) ?_
      have e8:(UInt8.ofNat (16*xa+xb)).toNat=16*xa+xb:=by rw [UInt8.toNat_ofNat'];omega
      generalize UInt8.ofNat (16*xa+xb)=ch at hu e8
      rw [← e8]
      repeat refine sq ?_;try intro
      refine o_app2 (Mr:=[]) o (xs:=xs) (ys:=[ch]) hown ⟨by simp;omega,by simp;omega,rfl⟩ rfl rfl rfl rfl oY oY oP ?_
      intro w' o' hown'
      dsimp only [List.nil_append]
      repeat refine sq ?_;try intro
      refine G.ag (S:=UhSt) ⟨j+1,xs++[ch],w',o'⟩ (hpre:=⟨by dsimp only;omega,by rw [List.length_append,hxs];rfl,hown',?_⟩)
      rw [hu,Option.map_map]
      congr 1
      funext t
      simp
     ·rw [if_neg (fun h=>hnb h.2)] at hu
      rw [ea2] at hia
      rw [eb2] at hib
      clear ea ea2 eb2
      repeat refine sq ?_;try intro
      refine W.drawA 8 [dq _,dq _,dq _,dq _,dq _,dq _,dq _,dq _] [[],[],[0,1],[2],[],[],[5],[4,6]] [3,7] (hrest:=fun c=>nrm ?_) (hops:=by
       iterate 2 refine AllQ.aq ?_
       refine AllQ.mk (by intro c z0 Φr Lr K;refine nrm ?_;intro hK;refine o_ixG (2*j) a rfl rfl rfl rfl rfl ha ?_;exact hK z0) ?_
       refine AllQ.mk (by intro c z0 Φr Lr K;refine nrm ?_;intro hK;refine cV hia ?_;exact hK z0) ?_
       iterate 3 refine AllQ.aq ?_
       refine AllQ.mk (by intro c z0 Φr Lr K;refine nrm ?_;intro hK;refine o_ixG (2*j+1) b rfl rfl rfl rfl rfl hb ?_;exact hK z0) ?_
       exact AllQ.nil)
      repeat refine sq ?_;try intro
      refine cV hib ?_
      repeat refine sq ?_;try intro
      rw [hu]
      refine G.retV ?_
      rfl
    ·rw [if_neg (fun h=>hna h.1)] at hu
     rw [ea2] at hia
     clear ea2
     generalize Lib.indexByte digsL b=xb at hib
     repeat refine sq ?_;try intro
     refine W.drawA 8 [dq _,dq _,dq _,dq _,dq _,dq _,dq _,dq _] [[],[],[0,1],[2],[],[],[5],[4,6]] [3,7] (hrest:=fun c=>nrm ?_) (hops:=by
      iterate 2 refine AllQ.aq ?_
      refine AllQ.mk (by intro c z0 Φr Lr K;refine nrm ?_;intro hK;refine o_ixG (2*j) a rfl rfl rfl rfl rfl ha ?_;exact hK z0) ?_
      refine AllQ.mk (by intro c z0 Φr Lr K;refine nrm ?_;intro hK;refine cV hia ?_;exact hK z0) ?_
      iterate 3 refine AllQ.aq ?_
      refine AllQ.mk (by intro c z0 Φr Lr K;refine nrm ?_;intro hK;refine o_ixG (2*j+1) b rfl rfl rfl rfl rfl hb ?_;exact hK z0) ?_
      exact AllQ.nil)
     repeat refine sq ?_;try intro
     refine cV hib ?_
     repeat refine sq ?_;try intro
     rw [hu]
     refine G.retV ?_
     rfl
end Go.Rail
namespace Go.Rail
open Go Go.Proofs Tryz
set_option maxHeartbeats 400000
set_option maxRecDepth 4000
attribute [local irreducible] OpK G W LW wpListIn Exit.then Exit.inBlock Post rounds opRun bodyPostM intOp
set_option maxHeartbeats 4000000
def namesL (k:Nat):List (List UInt8 × Value):=(List.range k).map fun (i:Nat)=>(nameL (UInt8.ofNat i),.int .i64 (i:Int))
theorem namesL_succ (k:Nat):namesL (k+1)=namesL k++[(nameL (UInt8.ofNat k),.int .i64 (k:Int))]:=by simp [namesL,List.range_succ]
theorem getT_none (l:List (List UInt8 × Value)) (k:List UInt8) (h:(l.all fun e=>decide (e.1≠k))=true):getT l k=none:=by
 induction l with
 | nil=>rfl
 | cons e r ih =>
  simp only [List.all_cons,Bool.and_eq_true,decide_eq_true_eq] at h
  rw [getT,if_neg (fun e'=>h.1 e'.symm)]
  exact ih (by simpa using h.2)
def allNames:List (List UInt8):=(List.range 256).map fun (i:Nat)=>nameL (UInt8.ofNat i)
def fresh:List (List UInt8)→List (List UInt8)→Bool
 | _,[]=>true
 | seen,n::r=>(seen.all fun m=>decide (m≠n))&&fresh (seen++[n]) r
theorem fresh_all:fresh [] allNames=true:=by kernel_rfl
theorem fresh_at : ∀ (r seen:List (List UInt8)) (i:Nat) (n:List UInt8),fresh seen r=true→r[i]? = some n→((seen++r.take i).all fun m=>decide (m≠n))=true
 | [],_,_,_,_,h=>by simp at h
 | a::r,seen,0,n,hf,h=>by
  simp only [List.getElem?_cons_zero,Option.some.injEq] at h
  subst h
  simp only [fresh,Bool.and_eq_true] at hf
  rw [List.take_zero,List.append_nil];exact hf.1
 | a::r,seen,i+1,n,hf,h=>by
  simp only [fresh,Bool.and_eq_true] at hf
  have:=fresh_at r (seen++[a]) i n hf.2 (by simpa using h)
  rwa [List.append_assoc] at this
theorem names_new (i:Nat) (h:i<256):getT (namesL i) (nameL (UInt8.ofNat i))=none:=by
 have:=fresh_at allNames [] i (nameL (UInt8.ofNat i)) fresh_all (by simp [allNames,h])
 refine getT_none _ _ ?_
 rw [List.nil_append,allNames,← List.map_take,List.take_range,show min i 256=i from by omega,List.all_map] at this
 rw [namesL,List.all_map]
 exact this
def RMapT (l:List (List UInt8 × Value)):Value→List Fa→Own→Prop:=fun u Φ' M' => ∃ b,u = .map (some b)∧Φ'=[]∧M'=[(b,MapT l)]
theorem names_spec:Fn prog 32 [] [] [] (RMapT (namesL 256)):=by
 refine Fn.enter func32 rfl ntmps32 oI (fun I0 w0 => ?_)
 repeat refine sq ?_;try intro
 refine o_makeMapT rfl rfl ?_
 intro b
 repeat refine sq ?_;try intro
 refine W.lp (S:=Nat) (fun i=>([],[(4,.int .i64 (i:Int)),(1,.map (some b))],[(b,MapT (namesL i))])) (fun i=>i≤256) (fun i=>256-i) 0 ?_ (h0:=Nat.zero_le _)
 intro i hi
 dsimp only at hi ⊢
 by_cases hie:i=256
 ·subst hie
  repeat refine sq ?_;try intro
  exact G.ret rfl (.cons (.tmp rfl) .nil) (Φ':=[]) (M':=[(b,MapT (namesL 256))]) oY oZ ⟨b,rfl,rfl,rfl⟩
 ·have hn:=name_spec (UInt8.ofNat i)
  have e:(UInt8.ofNat i).toNat=i:=by rw [UInt8.toNat_ofNat'];omega
  rw [e] at hn
  have hnew:=names_new i oM
  have hs:=namesL_succ i
  repeat refine sq ?_;try intro
  refine cV hn ?_
  repeat refine sq ?_;try intro
  refine o_updT rfl rfl rfl rfl hnew ?_
  rw [← hs]
  repeat refine sq ?_;try intro
  exact G.ag (S:=Nat) (i+1) (hpre:=by omega)
end Go.Rail
