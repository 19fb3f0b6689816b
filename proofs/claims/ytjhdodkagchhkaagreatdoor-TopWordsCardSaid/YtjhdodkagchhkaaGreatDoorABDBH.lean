/- opcode.line: one line read. -/
import Derived.Test.YtjhdodkagchhkaaGreatDoorRailA
import Derived.Test.YtjhdodkagchhkaaGreatDoorRailI
import Derived.Test.YtjhdodkagchhkaaGreatDoorAB8BA
import Derived.Test.YtjhdodkagchhkaaGreatDoorRailJ
import Derived.Test.YtjhdodkagchhkaaGreatDoorAC1Mul
import Derived.Test.YtjhdodkagchhkaaGreatDoorRailD
set_option linter.unusedSimpArgs false
set_option linter.unusedVariables false
namespace Go.Rail
open Go Go.Proofs Tryz
set_option maxHeartbeats 400000
set_option maxRecDepth 4000
attribute [local irreducible] OpK G W LW wpListIn Exit.then Exit.inBlock Post rounds opRun bodyPostM intOp
set_option maxHeartbeats 4000000
def numN (k:List UInt8):Option Nat:=(List.range 256).find? fun i=>decide (k=nameL (UInt8.ofNat i))
theorem getT_find (r:List Nat) (k:List UInt8):getT (r.map fun (i:Nat)=>(nameL (UInt8.ofNat i),Value.int .i64 (i:Int))) k=(r.find? fun i=>decide (k=nameL (UInt8.ofNat i))).map fun (i:Nat)=>Value.int .i64 (i:Int):=by
 induction r with
 | nil=>rfl
 | cons a r ih =>
  rw [List.map_cons,getT,List.find?_cons,ih]
  by_cases h:k=nameL (UInt8.ofNat a)
  ·rw [if_pos h,decide_eq_true h];rfl
  ·rw [if_neg h,decide_eq_false h]
theorem getT_num (k:List UInt8):getT (namesL 256) k=(numN k).map fun (i:Nat)=>Value.int .i64 (i:Int):=getT_find _ _
theorem numN_lt (k:List UInt8) (n:Nat) (h:numN k=some n):n<256:=List.mem_range.1 (List.mem_of_find?_eq_some h)
def lineR (l:List UInt8) (last:Bool):List UInt8 × Int :=
 match numN (cutB l 32).1 with
 | none=>([],42)
 | some n =>
  if behN n=0 then (if (cutB l 32).2.2 then ([],3) else ([UInt8.ofNat n],0))
  else match unhL (cutB l 32).2.1 with
   | none=>([],3)
   | some r=>if behN n<r.length∨(r.length<behN n∧last=false) then ([],3) else ([UInt8.ofNat n]++r,0)
def RLine (b:Nat) (p:List UInt8 × Int):Value→List Fa→Own→Prop:=fun u Φ' M'=>u = .tuple #[.string (ba p.1),.int .i64 p.2]∧Φ'=[]∧M'=[(b,MapT (namesL 256))]
theorem line_spec (b:Nat) (l:List UInt8) (last:Bool) (hl:l.length≤1000000):Fn prog 33 [.string (ba l),.map (some b),.bool last] [] [(b,MapT (namesL 256))] (RLine b (lineR l last)):=by
 have hc:=sCut_spec l 32 oM
 have hl2:(cutB l 32).2.1.length≤l.length:=by unfold cutB;split<;>simp
 unfold lineR
 unfold cutV at hc
 obtain ⟨⟨k,r,o⟩,hk⟩ : ∃ p,p=cutB l 32:=⟨_,rfl⟩
 rw [← hk] at hc hl2 ⊢
 dsimp only at hc hl2 ⊢
 have hg:=getT_num k
 refine Fn.enter func33 rfl ntmps33 oI (fun I0 w0 => ?_)
 repeat refine sq ?_;try intro
 refine cV hc ?_
 repeat refine sq ?_;try intro
 cases hn:numN k with
 | none =>
  rw [hn] at hg
  refine o_lookT (l:=namesL 256) rfl rfl rfl rfl oI (by rw [hg]) (by rw [hg]) ?_
  repeat refine sq ?_;try intro
  exact G.ret rfl (.cons (.tmp rfl) (.cons (.tmp rfl) .nil)) (Φ':=[]) (M':=[(b,MapT (namesL 256))]) oY oZ ⟨rfl,rfl,rfl⟩
 | some n =>
  rw [hn] at hg
  have hn256:=numN_lt k n hn
  have hbh:=behind_spec n hn256
  refine o_lookT (l:=namesL 256) (is:=true) (v := .int .i64 (n:Int)) rfl rfl rfl rfl oI (by rw [hg];rfl) (by rw [hg];rfl) ?_
  repeat refine sq ?_;try intro
  have e8:(UInt8.ofNat n).toNat=n:=by rw [UInt8.toNat_ofNat'];omega
  generalize UInt8.ofNat n=ch at e8 ⊢
  subst e8
  refine W.drawA 7 [dq _,dq _,dk fun _ z=>fRp z [ch],dq _,dq _,dq _,dq _] [[],[0],[1],[2],[],[4],[5]] [3,6] (hrest:=fun c=>nrm ?_) (hops:=by
   iterate 2 refine AllQ.aq ?_
   refine AllQ.mk (by intro c z0 Φr Lr K;refine nrm ?_;intro hK;(first|refine sty ?_|refine st ?_|refine stz ?_|refine stq ?_);intro p;exact hK p) ?_
   iterate 3 refine AllQ.aq ?_
   refine AllQ.mk (by intro c z0 Φr Lr K;refine nrm ?_;intro hK;refine cV hbh ?_;exact hK z0) ?_
   exact AllQ.nil)
  have hx:=unhex_spec r oM
  by_cases h0:behN ch.toNat=0
  ·rw [if_pos h0]
   cases o with
   | true =>
    repeat refine sq ?_;try intro
    exact G.ret rfl (.cons (.tmp rfl) (.cons (.tmp rfl) .nil)) (Φ':=[]) (M':=[(b,MapT (namesL 256))]) oY oZ ⟨rfl,rfl,rfl⟩
   | false =>
    repeat refine sq ?_;try intro
    exact G.ret rfl (.cons (.tmp rfl) (.cons (.tmp rfl) .nil)) (Φ':=[]) (M':=[(b,MapT (namesL 256))]) oY oZ ⟨by rw [UInt8.ofNat_toNat];rfl,rfl,rfl⟩
  ·rw [if_neg h0]
   have hb32:=behN_le ch.toNat
   generalize behN ch.toNat=m at h0 hb32 ⊢
   repeat refine sq ?_;try intro
   unfold unV at hx
   cases hu:unhL r with
   | none =>
    rw [hu] at hx
    refine cV hx ?_
    repeat refine sq ?_;try intro
    exact G.ret rfl (.cons (.tmp rfl) (.cons (.tmp rfl) .nil)) (Φ':=[]) (M':=[(b,MapT (namesL 256))]) oY oZ ⟨rfl,rfl,rfl⟩
   | some t =>
    rw [hu] at hx
    dsimp only [Option.getD_some,Option.isSome_some] at hx
    dsimp only
    by_cases h1:m<t.length
    ·rw [if_pos (Or.inl h1)]
     refine cV hx ?_
     repeat refine sq ?_;try intro
     exact G.ret rfl (.cons (.tmp rfl) (.cons (.tmp rfl) .nil)) (Φ':=[]) (M':=[(b,MapT (namesL 256))]) oY oZ ⟨rfl,rfl,rfl⟩
    ·by_cases h2:t.length<m
     ·cases last with
      | false =>
       rw [if_pos (Or.inr ⟨h2,rfl⟩)]
       refine cV hx ?_
       repeat refine sq ?_;try intro
       exact G.ret rfl (.cons (.tmp rfl) (.cons (.tmp rfl) .nil)) (Φ':=[]) (M':=[(b,MapT (namesL 256))]) oY oZ ⟨rfl,rfl,rfl⟩
      | true =>
       rw [if_neg oX]
       refine cV hx ?_
       repeat refine sq ?_;try intro
       exact G.ret rfl (.cons (.tmp rfl) (.cons (.tmp rfl) .nil)) (Φ':=[]) (M':=[(b,MapT (namesL 256))]) oY oZ ⟨by rw [UInt8.ofNat_toNat];rfl,rfl,rfl⟩
     ·rw [if_neg oM]
      refine cV hx ?_
      repeat refine sq ?_;try intro
      exact G.ret rfl (.cons (.tmp rfl) (.cons (.tmp rfl) .nil)) (Φ':=[]) (M':=[(b,MapT (namesL 256))]) oY oZ ⟨by rw [UInt8.ofNat_toNat];rfl,rfl,rfl⟩
end Go.Rail
namespace Go.Rail
open Go Go.Proofs Tryz
set_option maxHeartbeats 400000
set_option maxRecDepth 4000
attribute [local irreducible] OpK G W LW wpListIn Exit.then Exit.inBlock Post rounds opRun bodyPostM intOp
set_option maxHeartbeats 4000000
instance exMZ:ExtF prog 364 (Extern.BytealgMakeNoZero.makeNoZero #[3] #[26]):=⟨fun args w=>run_callFunc_extern func364 kR kR kR kR args w⟩
theorem bgrow_spec (B:Nat) (a:Option Addr) (n:Nat) (hn0:0<n) (hn:n≤1000000000):Fn prog 321 [.pointer (some ⟨B,0,none⟩),.int .i64 (n:Int)] [] (bldM B a (.slice none 0 0) [] none)
  (fun u Φ' M' => ∃ v o,IsBuf v [] o∧Φ'=[]∧M'=bldM B a v [] o):=by
 unfold bldM bufM
 refine Fn.enter func321 rfl ntmps321 oI (fun I0 w0 => ?_)
 repeat refine sq ?_;try intro
 refine W.drawNb 14 8 5 [dq _,dq _,dq _,dq _,dq _,dq _,dq _,dq _,⟨fun _ z => .slice (some ⟨nbB z,0,none⟩) n (nbC z).length,fun _ z=>[fPure (n≤(nbC z).length)]⟩,dq _,dq _,dq _,dq _,dq _] [[],[0],[1],[2],[3],[4],[],[5,6],[7],[],[9],[10],[11],[12]] [8,13] (hrest:=fun c=>nrmX ?_) (hops:=by
  iterate 4 refine AllX.au ?_
  refine AllX.a0 ?_ rfl kR (by intro c z0 Φr Lr K;refine nrmX ?_;intro hK;refine o_cap rfl rfl rfl ?_;exact hK z0)
  iterate 2 refine AllX.au ?_
  refine AllX.a0 ?_ rfl kR (by intro c z0 Φr Lr K;refine nrmX ?_;intro hK;refine o_int rfl rfl rfl rfl (n_addi oM) ?_;rw [show 2*0+n=n from by omega];exact hK z0)
  refine AllX.ai ?_ (by intro c z0 Φr Lr K;refine nrmX ?_;intro hK;refine o_makeNoZero (n:=n) oM rfl rfl rfl rfl ?_;intro b cs hcs;refine G.learn (fPure (n≤cs.length)) (e:=⟨fun _ _=>hcs⟩) ?_;exact hK (nbV b cs))
  iterate 5 refine AllX.au ?_
  exact AllX.end)
 refine LW.bare (G.use (p:=n≤(nbC (c 8)).length) (fun I hp=>hp (fPure _) (.head _)) ?_)
 intro hc
 generalize nbB (c 8)=b
 generalize nbC (c 8)=cs at hc ⊢
 dsimp only [List.drop_succ_cons,List.drop_zero]
 repeat refine sq ?_;try intro
 refine o_cutO 0 rfl rfl rfl ⟨_,_,rfl,rfl⟩ oM ?_
 repeat refine sq ?_;try intro
 refine o_copyNil rfl rfl rfl rfl ?_
 repeat refine sq ?_;try intro
 refine G.perm ?_ (List.Perm.swap _ _ _)
 exact G.fin rfl .nil (Φ':=[]) (M':=[(B,Ob [.pointer a,.slice (some ⟨b,0,none⟩) 0 cs.length] 75),(b,Ob cs 5)]) oY oZ ⟨.slice (some ⟨b,0,none⟩) 0 cs.length,some (b,cs,0),⟨by simp,Nat.le_refl _,by simp;omega⟩,rfl,rfl⟩
theorem bGrow_spec (B:Nat) (n:Nat) (hn0:0<n) (hn:n≤1000000000):Fn prog 266 [.pointer (some ⟨B,0,none⟩),.int .i64 (n:Int)] [] (bldM B none (.slice none 0 0) [] none)
  (fun u Φ' M' => ∃ v o,IsBuf v [] o∧Φ'=[]∧M'=bldM B (some ⟨B,0,none⟩) v [] o):=by
 have hc:=copyCheck_spec B none (.inl rfl) (.slice none 0 0)
 have hg:=bgrow_spec B (some ⟨B,0,none⟩) n hn0 hn
 unfold bldM bufM at *
 refine Fn.enter func266 rfl ntmps266 oI (fun I0 w0 => ?_)
 repeat refine sq ?_;try intro
 refine OpK.call rfl rfl rfl rfl hc oY (Mr:=[]) oP ?_
 rintro u Φ' Mc' ⟨rfl,rfl⟩
 refine nA ?_
 repeat refine sq ?_;try intro
 refine W.drawA 12 [dq _,dq _,dq _,dq _,dq _,dq _,dq _,dq _,dq _,dq _,dq _,dq _] [[],[0],[1],[2],[3],[],[5],[6],[7],[8],[4,9],[]] [10,11] (hrest:=fun c=>nrm ?_) (hops:=by
  iterate 4 refine AllQ.aq ?_
  refine AllQ.mk (by intro c z0 Φr Lr K;refine nrm ?_;intro hK;refine o_cap rfl rfl rfl ?_;exact hK z0) ?_
  iterate 7 refine AllQ.aq ?_
  exact AllQ.nil)
 repeat refine sq ?_;try intro
 refine OpK.call rfl rfl rfl rfl hg oY (Mr:=[]) oP ?_
 rintro u Φ' Mc' ⟨v,o,hb,rfl,rfl⟩
 refine G.perm ?_ (.of_eq (List.append_nil _))
 repeat refine sq ?_;try intro
 exact G.fin rfl .nil (Φ':=[]) (M':=(B,Ob [.pointer (some ⟨B,0,none⟩),v] 75)::bufM 5 [] o) oY oZ ⟨v,o,hb,rfl,rfl⟩
theorem bLen_spec (B:Nat) (a:Option Addr) (v:Value) (xs:List UInt8) (o:BO) (hv:IsBuf v xs o) :
  Fn prog 267 [.pointer (some ⟨B,0,none⟩)] [] (bldM B a v xs o) (fun u Φ' M'=>u = .int .i64 (xs.length:Int)∧Φ'=[]∧M'=bldM B a v xs o):=by
 unfold bldM
 cases o with
 | none =>
  obtain ⟨rfl,rfl⟩:=hv
  refine Fn.enter func267 rfl ntmps267 oI (fun I0 w0 => ?_)
  repeat refine sq ?_;try intro
  exact G.ret rfl (.cons (.tmp rfl) .nil) (Φ':=[]) (M':=(B,Ob [.pointer a,.slice none 0 0] 75)::bufM 5 [] none) oY oZ ⟨rfl,rfl,rfl⟩
 | some q =>
  obtain ⟨b,ex,k⟩:=q
  obtain ⟨rfl,hk1,hk2⟩:=hv
  refine Fn.enter func267 rfl ntmps267 oI (fun I0 w0 => ?_)
  repeat refine sq ?_;try intro
  exact G.ret rfl (.cons (.tmp rfl) .nil) (Φ':=[]) (M':=(B,Ob [.pointer a,.slice (some ⟨b,0,none⟩) xs.length (xs.length+ex.length)] 75)::bufM 5 xs (some (b,ex,k))) oY oZ ⟨rfl,rfl,rfl⟩
theorem mul_spec (n:Nat) (hn:n≤1000000000):FnV prog 264 [.int .u64 1,.int .u64 (n:Int)] [] (.tuple #[.int .u64 0,.int .u64 (n:Int)]):=by
 have h:=mul64_spec 1 n oE oM
 rw [show 1*n/18446744073709551616=0 from by omega,show 1*n%18446744073709551616=n from by omega] at h
 refine Fn.enter func264 rfl ntmps264 oI (fun I0 w0 => ?_)
 repeat refine sq ?_;try intro
 refine cV h ?_
 repeat refine sq ?_;try intro
 refine G.retV ?_
 rfl
structure RpSt where
 k:Nat
 v:Value
 o:BO
theorem repeat_spec (n:Nat) (hn:n≤100000000):FnV prog 175 [.string (ba [0]),.int .i64 (n:Int)] [] (.string (ba (List.replicate n 0))):=by
 have hm:=mul_spec n oM
 refine Fn.enter func175 rfl ntmps175 oI (fun I0 w0 => ?_)
 by_cases h0:n=0
 ·subst h0
  repeat refine sq ?_;try intro
  refine G.retV ?_
  rfl
 by_cases h1:n=1
 ·subst h1
  repeat refine sq ?_;try intro
  refine G.retV ?_
  rfl
 repeat refine sq ?_;try intro
 refine cV hm ?_
 repeat refine sq ?_;try intro
 refine o_ixG (l:=[0]) 0 0 rfl rfl rfl rfl rfl rfl ?_
 repeat refine sq ?_;try intro
 refine W.cutE (S:=Unit) (fun _=>([],[(8,.int .i64 ((min n 8192:Nat):Int)),(7,.int .i64 (n:Int)),(0,.string (ba [0]))],[])) (fun _=>True) ?_ ?_
 ·by_cases hn8:8192<n
  ·rw [show min n 8192=8192 from by omega]
   repeat refine sq ?_;try intro
   refine o_int rfl rfl rfl rfl (show intOp .mul .i64 ((8192/1:Nat):Int) ((1:Nat):Int)=some (.int .i64 8192) from by kernel_rfl) ?_
   repeat refine sq ?_;try intro
   exact G.kpE () trivial (show Ents _ [] from oY) (lC rfl (lC rfl (lC rfl lN))) oZ
  ·rw [show min n 8192=n from by omega]
   repeat refine sq ?_;try intro
   exact G.kpE () trivial (show Ents _ [] from oY) (lC rfl (lC rfl (lC rfl lN))) oZ
 rintro ⟨⟩ -
 dsimp only
 repeat refine sq ?_;try intro
 rename_i B
 have hgr:=bGrow_spec B n oM oM
 refine OpK.call rfl rfl rfl rfl hgr oY (Mr:=[]) oP ?_
 rintro u Φ' Mc' ⟨v,o,hb,rfl,rfl⟩
 rw [List.append_nil]
 dsimp only [List.nil_append]
 repeat refine sq ?_;try intro
 have hw:=writeString_spec B (some ⟨B,0,none⟩) (.inr rfl) v [] [0] o hb oI
 refine OpK.call rfl rfl rfl rfl hw oY (Mr:=[]) (by rw [List.append_nil]) ?_
 rintro u Φ' Mc' ⟨v,o,hb,rfl,rfl,rfl⟩
 rw [List.append_nil]
 dsimp only [List.nil_append]
 repeat refine sq ?_;try intro
 refine W.lp (S:=RpSt) (fun s=>([],[(9,.pointer (some ⟨B,0,none⟩)),(8,.int .i64 (min n 8192:Nat)),(7,.int .i64 (n:Int))],bldM B (some ⟨B,0,none⟩) s.v (List.replicate s.k 0) s.o)) (fun s=>0<s.k∧s.k≤n∧IsBuf s.v (List.replicate s.k 0) s.o) (fun s=>n-s.k) ⟨1,v,o⟩ ?_ (h0:=⟨Nat.zero_lt_one,by dsimp only;omega,hb⟩)
 rintro ⟨k,v,o⟩ ⟨hk0,hkn,hb⟩
 dsimp only at hk0 hkn hb ⊢
 have hxl:(List.replicate k (0:UInt8)).length=k:=List.length_replicate
 have hlen:=bLen_spec B (some ⟨B,0,none⟩) v (List.replicate k 0) o hb
 have hstr:=bString_spec B (some ⟨B,0,none⟩) v (List.replicate k 0) o hb oM
 rw [hxl] at hlen
 by_cases hke:k=n
 ·subst hke
  repeat refine sq ?_;try intro
  refine OpK.call rfl rfl rfl rfl hlen oY (Mr:=[]) (by rw [List.append_nil]) ?_
  rintro u Φ' Mc' ⟨rfl,rfl,rfl⟩
  rw [List.append_nil]
  dsimp only [List.nil_append]
  repeat refine sq ?_;try intro
  refine OpK.call rfl rfl rfl rfl hstr oY (Mr:=[]) (by rw [List.append_nil]) ?_
  rintro u Φ' Mc' ⟨o',hb',rfl,rfl,rfl⟩
  rw [List.append_nil]
  dsimp only [List.nil_append]
  repeat refine sq ?_;try intro
  refine G.retV ?_
  rfl
 ·repeat refine sq ?_;try intro
  refine OpK.call rfl rfl rfl rfl hlen oY (Mr:=[]) (by rw [List.append_nil]) ?_
  rintro u Φ' Mc' ⟨rfl,rfl,rfl⟩
  rw [List.append_nil]
  dsimp only [List.nil_append]
  repeat refine sq ?_;try intro
  refine OpK.call rfl rfl rfl rfl hlen oY (Mr:=[]) (by rw [List.append_nil]) ?_
  rintro u Φ' Mc' ⟨rfl,rfl,rfl⟩
  rw [List.append_nil]
  dsimp only [List.nil_append]
  repeat refine sq ?_;try intro
  refine OpK.call rfl rfl rfl rfl hlen oY (Mr:=[]) (by rw [List.append_nil]) ?_
  rintro u Φ' Mc' ⟨rfl,rfl,rfl⟩
  rw [List.append_nil]
  dsimp only [List.nil_append]
  repeat refine sq ?_;try intro
  obtain ⟨m,hm⟩ : ∃ m:Nat,m=min (n-k) (min k (min n 8192)):=⟨_,rfl⟩
  refine o_min3 rfl rfl rfl rfl rfl (v := .int .i64 (m:Int)) (congrArg (Value.int .i64) oM) ?_
  repeat refine sq ?_;try intro
  refine OpK.call rfl rfl rfl rfl hstr oY (Mr:=[]) oI ?_
  rintro u Φ' Mc' ⟨o',hb',rfl,rfl,rfl⟩
  rw [List.append_nil]
  dsimp only [List.nil_append]
  repeat refine sq ?_;try intro
  have e:((List.replicate k (0:UInt8)).take m).drop 0=List.replicate m 0:=by rw [List.drop_zero,List.take_replicate,Nat.min_eq_left oM]
  rw [e]
  have hw2:=writeString_spec B (some ⟨B,0,none⟩) (.inr rfl) v (List.replicate k 0) (List.replicate m 0) o' hb' (by rw [List.length_replicate,List.length_replicate];omega)
  refine OpK.call rfl rfl rfl rfl hw2 oY (Mr:=[]) oI ?_
  rintro u Φ' Mc' ⟨v2,o2,hb2,rfl,rfl,rfl⟩
  rw [List.append_nil]
  dsimp only [List.nil_append]
  rw [List.replicate_append_replicate] at hb2 ⊢
  repeat refine sq ?_;try intro
  exact G.ag (S:=RpSt) ⟨k+m,v2,o2⟩ (hpre:=⟨by dsimp only;omega,by dsimp only;omega,hb2⟩)
end Go.Rail
