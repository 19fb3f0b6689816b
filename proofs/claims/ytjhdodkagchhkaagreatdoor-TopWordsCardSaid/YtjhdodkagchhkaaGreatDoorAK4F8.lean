/- keccak.Sum. -/
import Derived.Test.YtjhdodkagchhkaaGreatDoorRailA
import Derived.Test.YtjhdodkagchhkaaGreatDoorRailI
import Derived.Test.YtjhdodkagchhkaaGreatDoorAK3
import Derived.Test.YtjhdodkagchhkaaGreatDoorRailL
import Derived.Test.YtjhdodkagchhkaaGreatDoorRailJ
import Derived.Test.YtjhdodkagchhkaaGreatDoorAF5F6
set_option linter.unusedSimpArgs false
set_option linter.unusedVariables false
namespace Go.Rail
open Go Go.Proofs Tryz
set_option maxHeartbeats 400000
set_option maxRecDepth 4000
attribute [local irreducible] OpK G W LW wpListIn Exit.then Exit.inBlock Post rounds opRun bodyPostM intOp
set_option maxHeartbeats 1000000
def abL (a:Nat→Nat) (c:List UInt8):Nat→Nat→Nat
 | 0=>a
 | i+1=>fun k=>if k=i then abL a c i i^^^lowS ((c.take (8*i+8)).drop (8*i)) 8 else abL a c i k
theorem abL_lt (a:Nat→Nat) (c:List UInt8) (ha : ∀ k,a k<18446744073709551616) : ∀ i k,abL a c i k<18446744073709551616
 | 0,k=>ha k
 | i+1,k=>by
  unfold abL
  split
  ·exact Nat.xor_lt_two_pow (n:=64) (abL_lt a c ha i i) (lowS_lt _ _)
  ·exact abL_lt a c ha i k
def smL (l:List UInt8):Nat→Nat→Nat
 | 0=>fun _=>0
 | k+1=>peL (abL (smL l k) ((l.take (136*k+136)).drop (136*k)) 17) 24
theorem smL_lt (l:List UInt8) : ∀ i k,smL l i k<18446744073709551616
 | 0,k=>(by decide:(0:Nat)<18446744073709551616)
 | i+1,k=>by
  unfold smL
  exact peL_lt _ (abL_lt _ _ (smL_lt l i) 17) 24 k
def outL (a:Nat→Nat) (i:Nat):UInt8:=UInt8.ofNat (a (i/8)/2^(8*(i%8))%256)
def hashL (a:Nat→Nat):List UInt8:=(List.range 32).map (outL a)
def keccakL (s:List UInt8):List UInt8:=hashL (smL (padL s) ((padL s).length/136))
theorem keccakL_len (s:List UInt8):(keccakL s).length=32:=by simp [keccakL,hashL]
def outP (a:Nat→Nat) (i:Nat):List UInt8:=(List.range i).map (outL a)++List.replicate (32-i) 0
theorem outP_len (a:Nat→Nat) (i:Nat) (h:i≤32):(outP a i).length=32:=by simp [outP];omega
theorem outP_set (a:Nat→Nat) (i:Nat) (h:i<32):(outP a i).set i (outL a i)=outP a (i+1):=by
 unfold outP
 rw [List.set_append_right _ _ oI,List.range_succ,List.map_append]
 simp only [List.length_map,List.length_range,Nat.sub_self]
 obtain ⟨m,hm⟩ : ∃ m,32-i=m+1:=⟨31-i,by omega⟩
 rw [hm,show 32-(i+1)=m from by omega,List.replicate_succ]
 simp
theorem ksum_spec (s:List UInt8) (hs:s.length≤1048576):FnV prog 12 [.string (ba s)] [fKc] (.tuple #[.string (ba (keccakL s)),.int .i64 0]):=by
 have hp:=kpad_spec s oM
 have hm:=padL_mod s
 have hl:(padL s).length≤1048576+200:=by rw [padL_len];have:padZ s.length<136:=Nat.mod_lt _ oE;omega
 have hl1:136≤(padL s).length:=by have:=padL_len s;omega
 unfold keccakL
 generalize padL s=l at hp hm hl hl1 ⊢
 refine Fn.enter func12 rfl ntmps12 oI (fun I0 w0 => ?_)
 repeat refine sq ?_;try intro
 rename_i b4
 refine cV hp ?_
 repeat refine sq ?_;try intro
 refine o_toB rfl rfl rfl ?_
 intro v
 repeat refine sq ?_;try intro
 refine OpK.call rfl rfl rfl rfl (kchunk_spec v l) oY (Mr:=_) oP ?_
 rintro u Φ' Mc' ⟨b2,b3,rfl,rfl,rfl⟩
 refine nB ?_
 repeat refine sq ?_;try intro
 have hne:l≠[]:=by intro e;rw [e] at hl1;simp at hl1
 refine W.bare (G.sliceB v l hne ?_)
 intro b0 off cap e1 k1
 subst e1
 refine G.code ?_
 have hit:=kchunk1_spec b0 b2 b3 off cap l hm oM k1
 refine W.rangeFuncR (enc:=chE ⟨b0,off,none⟩ l) (ps:=[16]) (Mr:=[]) (fun k s=>s=([fKc,fRp (.slice (some ⟨b0,off,none⟩) l.length cap) l],[(b4,Ob (cU 25 (smL l k)) 89)])) (fun _ _=>False) rfl hit oE (chE_one _ _) oY ([fKc,fRp (.slice (some ⟨b0,off,none⟩) l.length cap) l],[(b4,Ob (cU 25 (smL l 0)) 89)]) rfl oY oP ?_ ?_ ?_
 ·rintro y rec I0' w0' k hk _ rfl
  rw [chE_len] at hk
  dsimp only
  rw [chE_at b0 off l k (by rw [chE_len];exact hk)]
  show W _ _ _ _ ((16,.slice (some ⟨b0,off+k*136,none⟩) 136 136)::_) _
  have hlt:=smL_lt l k
  have hsm:smL l (k+1)=peL (abL (smL l k) ((l.take (136*k+136)).drop (136*k)) 17) 24:=rfl
  generalize smL l (k+1)=q1 at hsm ⊢
  generalize smL l k=q at hlt hsm ⊢
  have hck:((l.take (136*k+136)).drop (136*k)).length=136:=by simp;omega
  refine W.bare (G.part (b:=b0) (off:=off) (n:=l.length) (cap:=cap) l (136*k) (136*k+136) 136 (off+k*136) oM oM oM (by show off+136*k*1=_;omega) ?_)
  rw [show 136*k+136-136*k=136 from by omega]
  generalize (l.take (136*k+136)).drop (136*k)=ck at hck hsm ⊢
  refine G.code ?_
  repeat refine sq ?_;try intro
  refine G.begin (by rfl) ?_
  repeat refine sq ?_;try intro
  refine W.lp (S:=Nat) (fun i=>([fRp (.slice (some ⟨b0,off+k*136,none⟩) 136 136) ck,fKc,fRp (.slice (some ⟨b0,off,none⟩) l.length cap) l],[(17,.int .i64 (i:Int)),(5,.slice (some ⟨b0,off+k*136,none⟩) 136 136),(4,.pointer (some ⟨b4,0,none⟩))],[(y,Obj.loop {rec with state := .busy,pending:=none}),(b4,Ob (cU 25 (abL q ck i)) 89)])) (fun i=>i≤17) (fun i=>17-i) 0 ?_ (h0:=Nat.zero_le _)
  intro i hi
  dsimp only
  by_cases he:i=17
  ·subst he
   have hpe:=permute_spec (abL q ck 17) (abL_lt q ck hlt 17)
   rw [← hsm] at hpe
   generalize abL q ck 17=q2 at hpe ⊢
   repeat (first|refine stu ?_|(refine sty ?_;try intro _)|(refine st ?_;try intro _)|(refine stz ?_;try intro _)|(refine stq ?_;try intro _))
   refine cV hpe ?_
   repeat (first|refine stu ?_|(refine sty ?_;try intro _)|(refine st ?_;try intro _)|(refine stz ?_;try intro _)|(refine stq ?_;try intro _))
   refine G.roundEnd (r:={rec with state := .busy,pending:=none}) (inferInstanceAs (MDel ((y,Obj.loop {rec with state := .busy,pending:=none})::_) y _ _)) (Φ':=[fKc,fRp (.slice (some ⟨b0,off,none⟩) l.length cap) l]) (M'':=[(b4,Ob (cU 25 q1) 89)]) ?_ oY oZ
   exact Or.inl ⟨rfl,([fKc,fRp (.slice (some ⟨b0,off,none⟩) l.length cap) l],[(b4,Ob (cU 25 q1) 89)]),rfl,rfl⟩
  ·have hs:abL q ck (i+1)=fun k=>if k=i then abL q ck i i^^^lowS ((ck.take (8*i+8)).drop (8*i)) 8 else abL q ck i k:=rfl
   have h1:=abL_lt q ck hlt i i
   have h2:=lowS_lt ((ck.take (8*i+8)).drop (8*i)) 8
   have hcl:((ck.take (8*i+8)).drop (8*i)).length=8:=by simp;omega
   have hlow:=fun v=>klow_spec v ((ck.take (8*i+8)).drop (8*i)) oM
   rw [hcl] at hlow
   generalize hq3:abL q ck (i+1)=q3 at hs
   generalize abL q ck i=q2 at h1 hs ⊢
   generalize hw:(ck.take (8*i+8)).drop (8*i)=w at h2 hcl hlow hs ⊢
   repeat refine sq ?_;try intro
   refine W.drawA 11 [dq _,dq _,dq _,dq _,dq _,dq _,dq _,dq _,dq _,dk fun _ z=>fRp z w,dq _] [[],[0],[1],[],[],[4],[],[6],[7],[3,5,8],[9]] [0,2,10] (hrest:=fun c=>nrm ?_) (hops:=by
    iterate 9 refine AllQ.aq ?_
    refine AllQ.mk (by intro c z0 Φr Lr K;refine nrm ?_;intro hK;refine o_slice (8*i) (8*i+8) rfl rfl rfl (bdS rfl) (bdS rfl) oM oM ?_;rw [hw];intro v';exact hK v') ?_
    refine AllQ.mk (by intro c z0 Φr Lr K;refine nrm ?_;intro hK;refine cV (hlow (c 9)) ?_;exact hK z0) ?_
    exact AllQ.nil)
   repeat refine sq ?_;try intro
   rw [← hs,← hq3]
   exact G.ag (S:=Nat) (i+1)
 ·rintro D _ rfl
  rw [chE_len]
  have hlt:=smL_lt l (l.length/136)
  generalize smL l (l.length/136)=q at hlt ⊢
  dsimp only [List.nil_append,List.cons_append]
  repeat refine sq ?_;try intro
  refine o_makeKd 32 rfl rfl rfl rfl rfl rfl oE ?_
  intro b5
  repeat refine sq ?_;try intro
  refine W.lp (S:=Nat) (fun i=>([],[(39,.int .i64 (i:Int)),(38,.int .i64 32),(7,.slice (some ⟨b5,0,none⟩) 32 32),(4,.pointer (some ⟨b4,0,none⟩))],[(b5,Okd false (bvs (outP q i)++[]) 5),(b4,Ob (cU 25 q) 89),(D,.deferred (some []))])) (fun i=>i≤32) (fun i=>32-i) 0 ?_ (h0:=Nat.zero_le _)
  intro i hi
  dsimp only
  by_cases he:i=32
  ·subst he
   refine W.bare (G.giveB b5 5 false (outP q 32) [] (Mr:=[(b4,Ob (cU 25 q) 89),(D,.deferred (some []))]) oP ?_)
   rw [outP_len q 32 (Nat.le_refl _)]
   refine G.code ?_
   repeat refine sq ?_;try intro
   refine G.unmark oY ?_
   refine G.retV ?_
   unfold hashL outP
   simp [tup]
  ·have hb:=hlt (i/8)
   have hlen:=outP_len q i hi
   have hset:=outP_set q i oM
   have hout:Value.int .u8 ((q (i/8)/2^(8*(i%8))%256:Nat):Int) = .int .u8 (((outL q i).toNat:Nat):Int):=by
    unfold outL
    rw [UInt8.toNat_ofNat',Nat.mod_mod_of_dvd _ oE]
   repeat refine sq ?_;try intro
   refine o_storeKd (c:=outL q i) rfl rfl rfl hout oM oP ?_
   rw [hset]
   repeat refine sq ?_;try intro
   exact G.ag (S:=Nat) (i+1)
 ·intro D c s h
  exact h.elim
end Go.Rail
namespace Go.Rail
open Go Go.Proofs
set_option maxHeartbeats 1000000
def frcL {α:Type}:List Nat→(List Nat→α)→α
 | [],k=>k []
 | a::l,k=>Ev.fN a fun a=>frcL l fun l=>k (a::l)
theorem frcL_eq {α:Type} : ∀ (l:List Nat) (k:List Nat→α),frcL l k=k l
 | [],k=>rfl
 | a::l,k=>by
  unfold frcL
  rw [Ev.fN_eq,frcL_eq l]
def gtL (l:List Nat) (k:Nat):Nat:=l.getD k 0
def tbL (f:Nat→Nat):List Nat:=(List.range 25).map f
theorem gtL_tb (f:Nat→Nat) (k:Nat) (h:k<25):gtL (tbL f) k=f k:=by
 unfold gtL tbL
 rw [List.getD_eq_getElem?_getD,List.getElem?_map,List.getElem?_range h]
 rfl
def EqB (a b:Nat→Nat):Prop:=∀ k,k<25→a k=b k
theorem gtL_eq {l:List Nat} {f g:Nat→Nat} (hl:l=tbL f) (h:EqB f g):EqB (gtL l) g:=fun k hk=>by rw [hl,gtL_tb f k hk,h k hk]
theorem thC_cg {a b:Nat→Nat} (h:EqB a b) : ∀ i,i≤25 → ∀ k,thC a i k=thC b i k
 | 0,_,k=>rfl
 | i+1,hi,k=>by
  unfold thC
  rw [thC_cg h i oM,thC_cg h i oM,h i oM]
theorem thA_cg {a b:Nat→Nat} (h:EqB a b) : ∀ i,i≤25→EqB (thA a i) (thA b i)
 | 0,_=>h
 | i+1,hi=>fun k hk=>by
  unfold thA
  rw [thA_cg h i oM i oM,thA_cg h i oM k hk,thC_cg h 25 oM,thC_cg h 25 oM]
theorem tuL_cg {a b:Nat→Nat} (h:EqB a b) : ∀ i,EqB (tuL a i) (tuL b i)
 | 0=>fun k hk=>by unfold tuL;rw [h 0 oE]
 | i+1=>fun k hk=>by
  obtain ⟨h1,h2⟩:=xyT_lt i
  unfold tuL
  rw [tuL_cg h i k hk,h (5*((xyT i).2%5)+(xyT i).1%5) oM]
theorem chA_cg {a b:Nat→Nat} (h:EqB a b) : ∀ i,i≤25→EqB (chA a i) (chA b i)
 | 0,_=>fun k hk=>rfl
 | i+1,hi=>fun k hk=>by
  unfold chA
  rw [chA_cg h i oM k hk,h i oM,h (5*(i/5%5)+(i%5+2)%5) oM,h (5*(i/5%5)+(i%5+1)%5) oM]
theorem abL_cg {a b:Nat→Nat} (c:List UInt8) (h:EqB a b) : ∀ i,i≤25→EqB (abL a c i) (abL b c i)
 | 0,_=>h
 | i+1,hi=>fun k hk=>by
  unfold abL
  rw [abL_cg c h i oM i oM,abL_cg c h i oM k hk]
def rdT {α:Type} (l:List Nat) (i:Nat) (c:List Nat→α):α:=frcL (tbL (thA (gtL l) 25)) fun l=>frcL (tbL (tuL (gtL l) 24)) fun l=>frcL (tbL fun k=>if k=0 then chA (gtL l) 25 0^^^kcN i else chA (gtL l) 25 k) c
def peT {α:Type}:Nat→Nat→List Nat→(List Nat→α)→α
 | 0,_,l,c=>c l
 | n+1,i,l,c=>rdT l i fun l=>peT n (i+1) l c
theorem rdT_ok {α:Type} {l:List Nat} {a:Nat→Nat} {i:Nat} {c:List Nat→α} (h:EqB (gtL l) (peL a i)) : ∃ l',rdT l i c=c l'∧EqB (gtL l') (peL a (i+1)):=by
 unfold rdT
 rw [frcL_eq,frcL_eq,frcL_eq]
 have h1:=gtL_eq rfl (thA_cg h 25 (Nat.le_refl _))
 have h2:=gtL_eq rfl (tuL_cg h1 24)
 have h3:=chA_cg h2 25 (Nat.le_refl _)
 refine ⟨_,rfl,fun k hk => ?_⟩
 rw [gtL_tb _ k hk]
 show (if k=0 then chA _ 25 0^^^kcN i else chA _ 25 k)=if k=0 then rdN (peL a i) 0^^^kcN i else rdN (peL a i) k
 unfold rdN
 rw [h3 0 oE,h3 k hk]
theorem peT_ok {α:Type} {a:Nat→Nat} {c:List Nat→α} : ∀ (n i:Nat) (l:List Nat),EqB (gtL l) (peL a i) → ∃ l',peT n i l c=c l'∧EqB (gtL l') (peL a (i+n))
 | 0,i,l,h=>⟨l,rfl,h⟩
 | n+1,i,l,h=>by
  obtain ⟨l1,e1,h1⟩:=rdT_ok (c:=fun l=>peT n (i+1) l c) h
  obtain ⟨l2,e2,h2⟩:=peT_ok n (i+1) l1 h1
  exact ⟨l2,by unfold peT;rw [e1,e2],by rw [show i+(n+1)=i+1+n from by omega];exact h2⟩
def smT {α:Type} (s:List UInt8):Nat→Nat→List Nat→(List Nat→α)→α
 | 0,_,l,c=>c l
 | n+1,i,l,c=>frcL (tbL (abL (gtL l) ((s.take (136*i+136)).drop (136*i)) 17)) fun l=>peT 24 0 l fun l=>smT s n (i+1) l c
theorem smT_ok {α:Type} {s:List UInt8} {c:List Nat→α} : ∀ (n i:Nat) (l:List Nat),EqB (gtL l) (smL s i) → ∃ l',smT s n i l c=c l'∧EqB (gtL l') (smL s (i+n))
 | 0,i,l,h=>⟨l,rfl,h⟩
 | n+1,i,l,h=>by
  have h1:=gtL_eq rfl (abL_cg ((s.take (136*i+136)).drop (136*i)) h 17 oE)
  obtain ⟨l1,e1,h2⟩:=peT_ok (c:=fun l=>smT s n (i+1) l c) 24 0 _ h1
  obtain ⟨l2,e2,h3⟩:=smT_ok (c:=c) n (i+1) l1 h2
  refine ⟨l2,?_,by rw [show i+(n+1)=i+1+n from by omega];exact h3⟩
  unfold smT
  rw [frcL_eq,e1,e2]
def keccakT (s:List UInt8):List UInt8:=smT (padL s) ((padL s).length/136) 0 (tbL fun _=>0) fun l=>(List.range 32).map (outL (gtL l))
theorem keccakT_eq (s:List UInt8):keccakT s=keccakL s:=by
 obtain ⟨l,e,h⟩:=smT_ok (s:=padL s) (c:=fun l=>(List.range 32).map (outL (gtL l))) ((padL s).length/136) 0 (tbL fun _=>0) (gtL_eq rfl fun k hk=>rfl)
 rw [Nat.zero_add] at h
 unfold keccakT keccakL hashL
 rw [e]
 refine List.map_congr_left fun i hi => ?_
 have:=List.mem_range.1 hi
 unfold outL
 rw [h (i/8) oM]
def frcB {α:Type}:List UInt8→(List UInt8→α)→α
 | [],k=>k []
 | a::l,k=>Ev.fN a.toNat fun a=>frcB l fun l=>k (UInt8.ofNat a::l)
theorem frcB_eq {α:Type} : ∀ (l:List UInt8) (k:List UInt8→α),frcB l k=k l
 | [],k=>rfl
 | a::l,k=>by
  unfold frcB
  rw [Ev.fN_eq,frcB_eq l,UInt8.ofNat_toNat]
end Go.Rail
namespace Go.Rail
open Go Go.Proofs Tryz
set_option maxHeartbeats 400000
set_option maxRecDepth 4000
attribute [local irreducible] OpK G W LW wpListIn Exit.then Exit.inBlock Post rounds opRun bodyPostM intOp
set_option maxHeartbeats 1000000
abbrev runC (f:Frm) (sv av:Value) (wrong:Int):List Value:=[.string (ba f.code),.string (ba f.input),.int .i64 f.pc,sv,.string (ba f.mem),.int .i64 f.gas,.string (ba f.ret),.int .i64 f.status,.int .i64 f.errno,.string (ba f.out),av,.int .i64 wrong]
def RRun (B:Nat) (f:Frm) (av:Value) (wrong:Int):Value→List Fa→Own→Prop:=fun u Φ' M' => ∃ a c,u = .tuple #[]∧Φ'=[fRp (.slice a f.stack.length c) f.stack]∧M'=[(B,Ob (runC f (.slice a f.stack.length c) av wrong) 188)]
theorem rpush_spec (B:Nat) (f:Frm) (sv av:Value) (wrong:Int) (o:OR) (w:Word) (hs:f.stack.length≤1000000) (ho:IsOwn (GoTy.sz Word) sv f.stack.length o) :
  Fn prog 99 [.pointer (some ⟨B,0,none⟩),w.v] [fRow (ocells o) f.stack] ((B,Ob (runC f sv av wrong) 188)::ownM 24 o) (RRun B {f with stack:=f.stack++[w]} av wrong):=by
 refine Fn.enter func99 rfl ntmps99 oI (fun I0 w0 => ?_)
 obtain ⟨a0,c0,rfl⟩:=own_open ho
 repeat refine sq ?_;try intro
 rename_i b3
 refine W.drawMx 9 8 (fun z=>(b3,Ob (cellsL w.v) 24)::(B,Ob (runC f (.slice a0 f.stack.length c0) av wrong) 188)::ownM 24 (co z)) [dq _,dq _,dq _,dq _,dq _,dq _,dq _,dk fun _ z=>fRp z [w],⟨fun _ z=>cv z,fun _ z=>[fPure (IsOwn (GoTy.sz Word) (cv z) (f.stack++[w]).length (co z)),fRow (ocells (co z)) (f.stack++[w])]⟩] [[],[],[1],[2],[3],[4],[],[6],[5,7]] [0,8] (hrest:=fun c=>nrmX ?_) (hops:=by
  iterate 7 refine AllX.au ?_
  refine AllX.a0 ?_ rfl kR (by intro c z0 Φr Lr K;refine nrmX ?_;intro hK;(first|refine sty ?_|refine st ?_|refine stz ?_|refine stq ?_);intro p;exact hK p)
  refine AllX.ai ?_ (by intro c z0 Φr Lr K;refine nrmX ?_;intro hK;refine o_app2 (Mr:=[_,_]) o (xs:=f.stack) (ys:=[w]) ho ⟨by simp;omega,by simp;omega,rfl⟩ rfl rfl rfl rfl oY oY oP ?_;intro v' o' hown';have hk:=hK (codeO v' o');simp only [cv_code,co_code] at hk;refine G.learn (fPure (IsOwn (GoTy.sz Word) v' _ o')) (e:=⟨fun _ _=>hown'⟩) ?_;exact hk)
  exact AllX.end)
 refine LW.bare (G.use (p:=IsOwn (GoTy.sz Word) (cv (c 8)) (f.stack++[w]).length (co (c 8))) (fun I hp=>hp (fPure _) (.head _)) ?_)
 intro hown
 generalize cv (c 8)=v1 at hown ⊢
 generalize co (c 8)=o1 at hown ⊢
 obtain ⟨a1,c1,rfl⟩:=own_open hown
 repeat refine sq ?_;try intro
 refine G.giveOwn2 (.slice a1 (f.stack++[w]).length c1) (f.stack++[w]) o1 24 (Mr:=[_,_]) hown oY oP ?_
 exact G.fin rfl .nil (Φ':=[fRp (.slice a1 (f.stack++[w]).length c1) (f.stack++[w])]) (M':=[_]) oY (.cons _ oZ) ⟨a1,c1,rfl,rfl,rfl⟩
end Go.Rail
namespace Go.Rail
open Go Go.Proofs Tryz
set_option maxHeartbeats 400000
set_option maxRecDepth 4000
attribute [local irreducible] OpK G W LW wpListIn Exit.then Exit.inBlock Post rounds opRun bodyPostM intOp
set_option maxHeartbeats 1000000
abbrev memF (f:Frm) (m:List UInt8):Frm:={f with mem:=m}
theorem mslice_gen (m:List UInt8) (at_ n:Nat) (hm:m.length≤1048576) (h32:m.length%32=0):FnV prog 273 [.string (ba m),.int .i64 (at_:Int),.int .i64 (n:Int)] [] (.tuple #[.string (ba (if at_+n≤m.length then (m.drop at_).take n else [])),.int .i64 (if at_+n≤m.length then 0 else 1)]):=by
 by_cases h:at_+n≤m.length
 ·rw [if_pos h,if_pos h];exact mslice_spec m at_ n hm h32 h
 rw [if_neg h,if_neg h]
 have h1:=there_spec m at_ n oM
 rw [decide_eq_false oM] at h1
 refine Fn.enter func273 rfl ntmps273 oI (fun I0 w0 => ?_)
 repeat refine sq ?_;try intro
 refine cV h1 ?_
 repeat refine sq ?_;try intro
 refine G.retV ?_
 rfl
theorem mcopy_gen (m s:List UInt8) (at_:Nat) (hm:m.length≤1048576) (h32:m.length%32=0) (hs:s.length≤1000000000):FnV prog 275 [.string (ba m),.int .i64 (at_:Int),.string (ba s)] [] (.tuple #[.string (ba (if at_+s.length≤m.length then m.take at_++s++m.drop (at_+s.length) else m)),.int .i64 (if at_+s.length≤m.length then 0 else 1)]):=by
 by_cases h:at_+s.length≤m.length
 ·rw [if_pos h,if_pos h];exact mcopy_spec m s at_ hm h32 h
 rw [if_neg h,if_neg h]
 have h1:=there_spec m at_ s.length oM
 rw [decide_eq_false oM] at h1
 refine Fn.enter func275 rfl ntmps275 oI (fun I0 w0 => ?_)
 repeat refine sq ?_;try intro
 refine cV h1 ?_
 repeat refine sq ?_;try intro
 refine G.retV ?_
 rfl
def RKeep (B:Nat) (cs:List Value):Value→List Fa→Own→Prop:=fun u Φ' M'=>u = .tuple #[]∧Φ'=[]∧M'=[(B,Ob cs 188)]
theorem rstop_spec (B:Nat) (f:Frm) (sv av:Value) (wrong:Int) (h1:0≤f.pc) (h2:f.pc≤9223372036854775806) :
  Fn prog 176 [.pointer (some ⟨B,0,none⟩)] [] [(B,Ob (runC f sv av wrong) 188)] (RKeep B (runC {f with status:=1,pc:=f.pc-1} sv av wrong)):=by
 refine Fn.enter func176 rfl ntmps176 oI (fun I0 w0 => ?_)
 repeat refine sq ?_;try intro
 exact G.fin rfl .nil (Φ':=[]) (M':=[_]) oY oZ ⟨rfl,rfl,rfl⟩
theorem rat_spec (B:Nat) (f:Frm) (sv av:Value) (wrong:Int) (w:Word) (n:Nat) (hm:f.mem.length≤1048576) (h32:f.mem.length%32=0) (hn:n≤1099511627776) :
  Fn prog 191 [.pointer (some ⟨B,0,none⟩),w.v,.int .i64 (n:Int)] [] [(B,Ob (runC f sv av wrong) 188)] (fun u Φ' M'=>u = .string (ba (pieceF f.mem w n))∧Φ'=[]∧M'=[(B,Ob (runC f sv av wrong) 188)]):=by
 have h1:=number_spec w
 have h2:=mslice_gen f.mem (numF w) n hm h32
 unfold pieceF
 generalize numF w=a at h1 h2 ⊢
 by_cases h0:n=0
 ·subst h0
  rw [if_pos rfl]
  refine Fn.enter func191 rfl ntmps191 oI (fun I0 w0 => ?_)
  repeat refine sq ?_;try intro
  exact G.ret rfl (.cons (.tmp rfl) .nil) (Φ':=[]) (M':=[_]) oY (by first|exact List.Sublist.refl _|exact .cons _ oZ) ⟨rfl,rfl,rfl⟩
 ·rw [if_neg h0]
  generalize hq:(if a+n≤f.mem.length then (f.mem.drop a).take n else [])=q at h2 ⊢
  refine Fn.enter func191 rfl ntmps191 oI (fun I0 w0 => ?_)
  repeat refine sq ?_;try intro
  refine W.drawA 13 [dq _,dq _,dq _,dq _,dq _,dq _,dq _,dq _,dq _,dq _,dq _,dq _,dq _] [[],[0],[1],[2],[3],[],[5],[],[4,6,7],[8],[9],[9],[10]] [11,12] (hrest:=fun c=>nrm ?_) (hops:=by
   iterate 6 refine AllQ.aq ?_
   refine AllQ.mk (by intro c z0 Φr Lr K;refine nrm ?_;intro hK;refine cV h1 ?_;exact hK z0) ?_
   iterate 1 refine AllQ.aq ?_
   refine AllQ.mk (by intro c z0 Φr Lr K;refine nrm ?_;intro hK;refine cV h2 ?_;exact hK z0) ?_
   iterate 4 refine AllQ.aq ?_
   exact AllQ.nil)
  repeat refine sq ?_;try intro
  exact G.ret rfl (.cons (.tmp rfl) .nil) (Φ':=[]) (M':=[_]) oY (by first|exact List.Sublist.refl _|exact .cons _ oZ) ⟨rfl,rfl,rfl⟩
theorem rput_spec (B:Nat) (f:Frm) (sv av:Value) (wrong:Int) (l:List Word) (s:List UInt8) (hm:f.mem.length≤1048576) (h32:f.mem.length%32=0) (hs:s.length≤1000000000) (hl:0<l.length) :
  Fn prog 194 [.pointer (some ⟨B,0,none⟩),.string (ba s)] [fRp av l] [(B,Ob (runC f sv av wrong) 188)] (RKeep B (runC {f with mem:=putF f.mem (numF (l.getD 0 .zero)) s} sv av wrong)):=by
 have e0:l.getD 0 .zero=l[0]:=by rw [List.getD_eq_getElem?_getD,List.getElem?_eq_getElem hl];rfl
 rw [e0]
 have h1:=number_spec l[0]
 have h2:=mcopy_gen f.mem s (numF l[0]) hm h32 hs
 unfold putF
 generalize numF l[0]=a at h1 h2 ⊢
 by_cases h0:s=[]
 ·subst h0
  rw [if_pos rfl]
  refine Fn.enter func194 rfl ntmps194 oI (fun I0 w0 => ?_)
  repeat refine sq ?_;try intro
  exact G.fin rfl .nil (Φ':=[]) (M':=[_]) oY oZ ⟨rfl,rfl,rfl⟩
 ·rw [if_neg h0]
  generalize hq:(if a+s.length≤f.mem.length then f.mem.take a++s++f.mem.drop (a+s.length) else f.mem)=q at h2 ⊢
  refine Fn.enter func194 rfl ntmps194 oI (fun I0 w0 => ?_)
  refine W.bare (G.slice av l ?_)
  intro a1 c1 e1 k1
  subst e1
  repeat refine sq ?_;try intro
  refine W.drawSt 22 21 B (Ob (runC (memF f q) sv (.slice a1 l.length c1) wrong) 188) [dq _,dq _,dq _,dq _,dq _,dq _,dq _,dq _,dq _,dq _,dk _,dq _,dq _,dq _,dq _,dq _,dq _,dq _,dq _,dq _,dq _,(dq fun _ _ => .bool false)] [[],[],[1],[2],[3],[4],[],[6],[7],[8],[9],[10],[11],[],[5,12,13],[14],[15],[15],[0],[18],[19],[16,20]] [] (hrest:=fun c=>nrmX ?_) (hops:=by
   iterate 12 refine AllX.au ?_
   refine AllX.a0 ?_ rfl kR (by intro c z0 Φr Lr K;refine nrmX ?_;intro hK;refine cV h1 ?_;exact hK z0)
   iterate 1 refine AllX.au ?_
   refine AllX.a0 ?_ rfl kR (by intro c z0 Φr Lr K;refine nrmX ?_;intro hK;refine cV h2 ?_;exact hK z0)
   iterate 7 refine AllX.au ?_
   exact AllX.end)
  repeat refine sq ?_;try intro
  exact G.fin rfl .nil (Φ':=[]) (M':=[_]) oY oZ ⟨rfl,rfl,rfl⟩
end Go.Rail
