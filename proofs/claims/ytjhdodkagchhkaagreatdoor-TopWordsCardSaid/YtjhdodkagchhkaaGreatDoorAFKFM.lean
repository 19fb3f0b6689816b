/- slices.BinarySearch over whole numbers; jump, jumpIf. -/
import Derived.Test.YtjhdodkagchhkaaGreatDoorRailA
import Derived.Test.YtjhdodkagchhkaaGreatDoorRailI
import Derived.Test.YtjhdodkagchhkaaGreatDoorRailJ
import Derived.Test.YtjhdodkagchhkaaGreatDoorAFGFJ
import Derived.Test.YtjhdodkagchhkaaGreatDoorAK4F8
import Derived.Test.YtjhdodkagchhkaaGreatDoorAF1P1
set_option linter.unusedSimpArgs false
set_option linter.unusedVariables false
namespace Go.Rail
open Go Go.Proofs Tryz
set_option maxHeartbeats 400000
set_option maxRecDepth 4000
attribute [local irreducible] OpK G W LW wpListIn Exit.then Exit.inBlock Post rounds opRun bodyPostM intOp
set_option maxHeartbeats 1000000
theorem snan_spec (n:Int):FnV prog 325 [.int .i64 n] [] (.bool false):=by
 refine Fn.enter func325 rfl ntmps325 oI (fun I0 w0 => ?_)
 repeat refine sq ?_;try intro
 refine G.retV ?_
 simp [tup]
theorem cless_spec (m n:Int):FnV prog 324 [.int .i64 m,.int .i64 n] [] (.bool (decide (m<n))):=by
 have h1:=nan_spec m
 refine Fn.enter func324 rfl ntmps324 oI (fun I0 w0 => ?_)
 repeat refine sq ?_;try intro
 refine cV h1 ?_
 by_cases h:m<n
 ·rw [decide_eq_true h]
  repeat refine sq ?_;try intro
  refine G.retV ?_
  rfl
 ·rw [decide_eq_false h]
  repeat refine sq ?_;try intro
  refine G.retV ?_
  rfl
theorem bsearch_spec (v:Value) (xs:List Int) (t:Int) (hs:xs.Pairwise (· < ·)) (hl:xs.length≤1000000) :
  Fn prog 276 [v,.int .i64 t] [fRp v xs] [] (fun u Φ' M' => ∃ i:Nat,u = .tuple #[.int .i64 (i:Int),.bool (decide (t∈xs))]∧Φ'=[]∧M'=[]):=by
 refine Fn.enter func276 rfl ntmps276 oI (fun I0 w0 => ?_)
 refine W.bare (G.slice v xs ?_)
 intro a1 c1 e1 k1
 subst e1
 repeat refine sq ?_;try intro
 refine W.lp (S:=Nat × Nat) (fun s=>([fRp (.slice a1 xs.length c1) xs],[(6,.int .i64 (xs.length:Int)),(7,.int .i64 (s.1:Int)),(8,.int .i64 (s.2:Int)),(0,.slice a1 xs.length c1),(1,.int .i64 t)],[])) (fun s=>s.1≤s.2∧s.2≤xs.length∧(∀ k (h:k<xs.length),k<s.1→xs[k]<t)∧(∀ k (h:k<xs.length),s.2≤k→t≤xs[k])) (fun s=>s.2-s.1) (0,xs.length) ?_ (h0:=⟨Nat.zero_le _,Nat.le_refl _,fun k _ h=>absurd h (Nat.not_lt_zero _),fun k h h2=>absurd h (by dsimp only at h2;omega)⟩)
 rintro ⟨i,j⟩ ⟨hij,hj,hlo,hhi⟩
 dsimp only at hij hj hlo hhi ⊢
 by_cases he:i=j
 ·subst he
  by_cases hi:i<xs.length
  ·by_cases ht:xs[i]=t
   ·have hm:t∈xs:=ht▸List.getElem_mem hi
    rw [decide_eq_true hm]
    repeat refine sq ?_;try intro
    exact G.ret rfl (.cons (.tmp rfl) (.cons (.tmp rfl) .nil)) (Φ':=[]) (M':=[]) oY oN ⟨i,rfl,rfl,rfl⟩
   ·have hm:t∉xs:=by
     intro hm
     obtain ⟨k,hk,hkt⟩:=List.mem_iff_getElem.1 hm
     have h1:=hhi i hi (Nat.le_refl _)
     rcases Nat.lt_trichotomy k i with h|h|h
     ·have:=hlo k hk h;omega
     ·subst h;exact ht hkt
     ·have:=List.pairwise_iff_getElem.1 hs i k hi hk h;omega
    rw [decide_eq_false hm]
    repeat refine sq ?_;try intro
    refine cV (snan_spec xs[i]) ?_
    repeat refine sq ?_;try intro
    exact G.ret rfl (.cons (.tmp rfl) (.cons (.tmp rfl) .nil)) (Φ':=[]) (M':=[]) oY oN ⟨i,rfl,rfl,rfl⟩
  ·have hm:t∉xs:=by
    intro hm
    obtain ⟨k,hk,hkt⟩:=List.mem_iff_getElem.1 hm
    have:=hlo k hk oM;omega
   rw [decide_eq_false hm]
   repeat refine sq ?_;try intro
   exact G.ret rfl (.cons (.tmp rfl) (.cons (.tmp rfl) .nil)) (Φ':=[]) (M':=[]) oY oN ⟨i,rfl,rfl,rfl⟩
 ·have hlt:i<j:=by omega
  have hmid:(i+j)/2<xs.length:=by omega
  have hm1:(i+j)/2<j:=by omega
  have hm2:i≤(i+j)/2:=by omega
  have hc:=cless_spec xs[(i+j)/2] t
  have mono : ∀ p q (hp:p<xs.length) (hq:q<xs.length),p≤q→xs[p]≤xs[q]:=by
   intro p q hp hq h
   rcases Nat.lt_or_ge p q with h1|h1
   ·exact Int.le_of_lt (List.pairwise_iff_getElem.1 hs p q hp hq h1)
   ·have:p=q:=by omega
    subst this;exact Int.le_refl _
  by_cases hlt2:xs[(i+j)/2]<t
  ·rw [decide_eq_true hlt2] at hc
   repeat refine sq ?_;try intro
   refine cV hc ?_
   repeat refine sq ?_;try intro
   exact G.ag (S:=Nat × Nat) ((i+j)/2+1,j) (hpre:=⟨by dsimp only;omega,hj,fun k hk h=>by have:=mono k _ hk hmid (by dsimp only at h;omega);omega,hhi⟩)
  ·rw [decide_eq_false hlt2] at hc
   repeat refine sq ?_;try intro
   refine cV hc ?_
   repeat refine sq ?_;try intro
   exact G.ag (S:=Nat × Nat) (i,(i+j)/2) (hpre:=⟨by dsimp only;omega,by dsimp only;omega,hlo,fun k hk h=>by have:=mono _ k hmid hk (by dsimp only at h;omega);omega⟩)
theorem plcF_ge (l:List UInt8) : ∀ (f p:Nat),(∀ q∈plcF l f p,p≤q)∧(plcF l f p).Pairwise (· < ·)
 | 0,p=>⟨fun q h=>(List.not_mem_nil h).elim,List.Pairwise.nil⟩
 | f+1,p=>by
  unfold plcF
  split
  ·obtain ⟨h1,h2⟩:=plcF_ge l f (p+1+behN (l.getD p 0).toNat)
   refine ⟨fun q hq => ?_,List.pairwise_cons.2 ⟨fun q hq=>by have:=h1 q hq;omega,h2⟩⟩
   rcases List.mem_cons.1 hq with rfl|hq
   ·exact Nat.le_refl _
   ·have:=h1 q hq;omega
  ·exact ⟨fun q h=>(List.not_mem_nil h).elim,List.Pairwise.nil⟩
theorem jmL_sorted (l:List UInt8):(jmL l).Pairwise (· < ·):=by
 unfold jmL
 refine List.Pairwise.map _ (fun a b h => ?_) (List.Pairwise.filter _ (plcF_ge l l.length 0).2)
 exact Int.ofNat_lt.2 h
theorem jmL_len (l:List UInt8):(jmL l).length≤l.length:=by
 rw [← jmT_all];exact jmT_len _ _
def RJmp (B:Nat) (sv av:Value) (p:Frm × Int):Value→List Fa→Own→Prop:=fun u Φ' M'=>u = .tuple #[]∧Φ'=[]∧M'=[(B,Ob (runC p.1 sv av p.2) 188)]
theorem rjump_spec (B:Nat) (f:Frm) (sv av:Value) (l:List Word) (hc:f.code.length≤100000) (hl:0<l.length) :
  Fn prog 196 [.pointer (some ⟨B,0,none⟩)] [fRp av l] [(B,Ob (runC f sv av 0) 188)] (RJmp B sv av (jumpF f (numF (l.getD 0 .zero)))):=by
 have h1:=number_spec l[0]
 have h2:=jumpsO_spec f.code hc
 rw [getD_at l 0 hl]
 have hjl:=jmL_len f.code
 generalize numF l[0]=to at h1 ⊢
 have h3:=fun v=>bsearch_spec v (jmL f.code) (to:Int) (jmL_sorted _) oM
 unfold jumpF
 by_cases hm:(to:Int)∈jmL f.code
 ·rw [if_pos hm]
  rw [decide_eq_true hm] at h3
  generalize jmL f.code=js at h2 h3
  refine Fn.enter func196 rfl ntmps196 oI (fun I0 w0 => ?_)
  refine W.bare (G.slice av l ?_)
  intro a1 c1 e1 k1
  subst e1
  repeat refine sq ?_;try intro
  refine cV h1 ?_
  repeat refine sq ?_;try intro
  refine o_callO rfl rfl rfl rfl h2 ?_
  intro v o hv
  refine G.giveOwn2 v js o 3 (Mr:=[_]) hv oY oP ?_
  repeat refine sq ?_;try intro
  refine OpK.call rfl rfl rfl rfl (h3 v) oY (Mr:=_) oP ?_
  rintro u Φ' Mc' ⟨i,rfl,rfl,rfl⟩
  refine nB ?_
  repeat refine sq ?_;try intro
  exact G.fin rfl .nil (Φ':=[]) (M':=[_]) oY oZ ⟨rfl,rfl,rfl⟩
 ·rw [if_neg hm]
  rw [decide_eq_false hm] at h3
  generalize jmL f.code=js at h2 h3
  refine Fn.enter func196 rfl ntmps196 oI (fun I0 w0 => ?_)
  refine W.bare (G.slice av l ?_)
  intro a1 c1 e1 k1
  subst e1
  repeat refine sq ?_;try intro
  refine cV h1 ?_
  repeat refine sq ?_;try intro
  refine o_callO rfl rfl rfl rfl h2 ?_
  intro v o hv
  refine G.giveOwn2 v js o 3 (Mr:=[_]) hv oY oP ?_
  repeat refine sq ?_;try intro
  refine OpK.call rfl rfl rfl rfl (h3 v) oY (Mr:=_) oP ?_
  rintro u Φ' Mc' ⟨i,rfl,rfl,rfl⟩
  refine nB ?_
  repeat refine sq ?_;try intro
  exact G.ret rfl .nil (Φ':=[]) (M':=[_]) oY oZ ⟨rfl,rfl,rfl⟩
theorem rjumpIf_spec (B:Nat) (f:Frm) (sv av:Value) (l:List Word) (hc:f.code.length≤100000) (hl:1<l.length) :
  Fn prog 197 [.pointer (some ⟨B,0,none⟩)] [fRp av l] [(B,Ob (runC f sv av 0) 188)] (RJmp B sv av (if l.getD 1 .zero = .zero then (f,0) else jumpF f (numF (l.getD 0 .zero)))):=by
 have h1:=fun av=>rjump_spec B f sv av l hc oM
 rw [getD_at l 1 hl]
 by_cases hz:l[1] = .zero
 ·rw [if_pos hz]
  refine Fn.enter func197 rfl ntmps197 oI (fun I0 w0 => ?_)
  refine W.bare (G.slice av l ?_)
  intro a1 c1 e1 k1
  subst e1
  repeat refine sq ?_;try intro
  exact G.fin rfl .nil (Φ':=[]) (M':=[_]) oY oZ ⟨rfl,rfl,rfl⟩
 ·rw [if_neg hz]
  refine Fn.enter func197 rfl ntmps197 oI (fun I0 w0 => ?_)
  refine W.bare (G.slice av l ?_)
  intro a1 c1 e1 k1
  subst e1
  repeat refine sq ?_;try intro
  refine OpK.call rfl rfl rfl rfl (h1 _) oY (Mr:=[]) (by rw [List.append_nil]) ?_
  rintro u Φ' Mc' ⟨rfl,rfl,rfl⟩
  refine nB ?_
  repeat refine sq ?_;try intro
  exact G.fin rfl .nil (Φ':=[]) (M':=[_]) oY oZ ⟨rfl,rfl,rfl⟩
abbrev enA (f:Frm) (so:Int):Frm:={f with status:=so}
abbrev enB (f:Frm) (so:Int) (q:List UInt8):Frm:={f with status:=so,out:=q}
theorem rend_spec (B:Nat) (f:Frm) (sv av:Value) (so:Int) (l:List Word) (hm:f.mem.length≤1048576) (h32:f.mem.length%32=0) (hl:1<l.length) (hp1:0≤f.pc) (hp2:f.pc≤1000000000000000000) :
  Fn prog 203 [.pointer (some ⟨B,0,none⟩),.int .i64 so] [fRp av l] [(B,Ob (runC f sv av 0) 188)] (RJmp B sv av (endF f so l)):=by
 have h1:=number_spec l[1]
 have hb1:numF l[1]≤1099511627776:=Nat.min_le_right _ _
 unfold endF
 rw [getD_at l 1 hl,getD_at l 0 oM]
 generalize numF l[1]=n at h1 hb1 ⊢
 have h2:=fun av=>rat_spec B f sv av 0 l[0] n hm h32 hb1
 generalize pieceF f.mem l[0] n=q at h2 ⊢
 refine Fn.enter func203 rfl ntmps203 oI (fun I0 w0 => ?_)
 refine W.bare (G.slice av l ?_)
 intro a1 c1 e1 k1
 subst e1
 refine G.code ?_
 refine W.drawCh 33 {j:=32,k:=[32],M:=fun _=>[(B,Ob (runC (enB f so q) sv (.slice a1 l.length c1) 0) 188)]} [{j:=28,k:=[28],M:=fun _=>[(B,Ob (runC (enA f so) sv (.slice a1 l.length c1) 0) 188)]}] (dq _::dq _::dq _::dq _::dq _::dq _::dq _::dq _::dq _::dk _::dq _::dq _::dq _::dq _::dq _::dk _::dq _::dq _::dq _::dq _::dq _::dq _::dq _::dq _::dq _::dq _::dq _::dq _::(dq fun _ _ => .bool false)::dq _::dq _::dq _::(dq fun _ _ => .bool false)::[]) ([]::[]::[]::[]::[]::[]::[5]::[6]::[7]::[8]::[9]::[]::[11]::[12]::[13]::[14]::[15]::[16]::[4,10,17]::[]::[19]::[20]::[21]::[22]::[23]::[0]::[25]::[26]::[3,27]::[1]::[29]::[30]::[18,31]::[]) [2,24] (hrest:=fun c=>nrmC ?_) (hops:=by
  iterate 17 refine AllX.cu ?_
  refine AllX.ch ?_ ?_;rotate_left
  focus (refine ⟨⟨rfl,kR⟩,.inl kR,.inr (⟨⟨rfl,kR⟩,.inl kR,.inr (?_)⟩)⟩;all_goals (intro c z0 Φr Lr K;refine nrmC ?_;intro hK;refine cV h1 ?_;exact hK z0))
  refine AllX.ch ?_ ?_;rotate_left
  focus (refine ⟨⟨rfl,kR⟩,.inl kR,.inr (⟨⟨rfl,kR⟩,.inl kR,.inr (?_)⟩)⟩;all_goals (intro c z0 Φr Lr K;refine nrmC ?_;intro hK;refine OpK.call rfl rfl rfl rfl (h2 _) oY (Mr:=[]) (by rw [List.append_nil]) ?_;rintro u Φ' Mc' ⟨rfl,rfl,rfl⟩;exact hK z0))
  iterate 14 refine AllX.cu ?_
  exact AllX.end)
 repeat refine sq ?_;try intro
 exact G.fin rfl .nil (Φ':=[]) (M':=[_]) oY oZ ⟨rfl,rfl,rfl⟩
theorem ract13_spec (B:Nat) (f:Frm) (sv av:Value) (l:List Word) (hm:f.mem.length≤1048576) (h32:f.mem.length%32=0) (hl:1<l.length) (hp1:0≤f.pc) (hp2:f.pc≤1000000000000000000) :
  Fn prog 202 [.pointer (some ⟨B,0,none⟩)] [fRp av l] [(B,Ob (runC f sv av 0) 188)] (RJmp B sv av (endF f 2 l)):=by
 have h1:=rend_spec B f sv av 2 l hm h32 hl hp1 hp2
 generalize endF f 2 l=p at h1 ⊢
 refine Fn.enter func202 rfl ntmps202 oI (fun I0 w0 => ?_)
 repeat refine sq ?_;try intro
 refine OpK.call rfl rfl rfl rfl h1 oY (Mr:=[]) (by rw [List.append_nil]) ?_
 rintro u Φ' Mc' ⟨rfl,rfl,rfl⟩
 refine nB ?_
 repeat refine sq ?_;try intro
 exact G.fin rfl .nil (Φ':=[]) (M':=[_]) oY oZ ⟨rfl,rfl,rfl⟩
theorem ract14_spec (B:Nat) (f:Frm) (sv av:Value) (l:List Word) (hm:f.mem.length≤1048576) (h32:f.mem.length%32=0) (hl:1<l.length) (hp1:0≤f.pc) (hp2:f.pc≤1000000000000000000) :
  Fn prog 204 [.pointer (some ⟨B,0,none⟩)] [fRp av l] [(B,Ob (runC f sv av 0) 188)] (RJmp B sv av (endF f 3 l)):=by
 have h1:=rend_spec B f sv av 3 l hm h32 hl hp1 hp2
 generalize endF f 3 l=p at h1 ⊢
 refine Fn.enter func204 rfl ntmps204 oI (fun I0 w0 => ?_)
 repeat refine sq ?_;try intro
 refine OpK.call rfl rfl rfl rfl h1 oY (Mr:=[]) (by rw [List.append_nil]) ?_
 rintro u Φ' Mc' ⟨rfl,rfl,rfl⟩
 refine nB ?_
 repeat refine sq ?_;try intro
 exact G.fin rfl .nil (Φ':=[]) (M':=[_]) oY oZ ⟨rfl,rfl,rfl⟩
end Go.Rail
namespace Go.Rail
open Go Go.Proofs Tryz
set_option maxHeartbeats 400000
set_option maxRecDepth 4000
attribute [local irreducible] OpK G W LW wpListIn Exit.then Exit.inBlock Post rounds opRun bodyPostM intOp
set_option maxHeartbeats 1000000
theorem rhash_spec (B:Nat) (f:Frm) (sv av:Value) (wrong:Int) (o:OR) (l:List Word) (hs:f.stack.length≤1000000) (ho:IsOwn (GoTy.sz Word) sv f.stack.length o) (hm:f.mem.length≤1048576) (h32:f.mem.length%32=0) (hl:1<l.length) :
  Fn prog 177 [.pointer (some ⟨B,0,none⟩)] [fRow (ocells o) f.stack,fRp av l,fKc] ((B,Ob (runC f sv av wrong) 188)::ownM 24 o) (RRun B (stkF f (f.stack++[wordB (keccakL (pieceF f.mem l[0] (numF l[1])))])) av wrong):=by
 have h1:=number_spec l[1]
 have hb1:numF l[1]≤1099511627776:=Nat.min_le_right _ _
 generalize numF l[1]=n at h1 hb1 ⊢
 have h2:=fun av=>rat_spec B f sv av wrong l[0] n hm h32 hb1
 have hpl:=pieceF_len f.mem l[0] n
 generalize pieceF f.mem l[0] n=q at h2 hpl ⊢
 have h3:=ksum_spec q oM
 have h4:=wfb_spec (keccakL q) (by rw [keccakL_len];decide)
 generalize keccakL q=q2 at h3 h4 ⊢
 refine Fn.enter func177 rfl ntmps177 oI (fun I0 w0 => ?_)
 refine W.bare (G.slice av l ?_)
 intro a1 c1 e1 k1
 subst e1
 repeat refine sq ?_;try intro
 refine W.drawA 20 [dq _,dq _,dq _,dq _,dq _,dk _,dq _,dq _,dq _,dq _,dq _,dk _,dq _,dq _,dq _,dq _,dq _,dq _,dq _,dq _] [[],[],[1],[2],[3],[4],[5],[],[7],[8],[9],[10],[11],[12],[0,6,13],[14],[15],[16],[16],[17]] [18,19] (hrest:=fun c=>nrm ?_) (hops:=by
  iterate 13 refine AllQ.aq ?_
  refine AllQ.mk (by intro c z0 Φr Lr K;refine nrm ?_;intro hK;refine cV h1 ?_;exact hK z0) ?_
  refine AllQ.mk (by intro c z0 Φr Lr K;refine nrm ?_;intro hK;refine OpK.call rfl rfl rfl rfl (h2 _) oY (Mr:=ownM 24 o) oP ?_;rintro u Φ' Mc' ⟨rfl,rfl,rfl⟩;exact hK z0) ?_
  refine AllQ.mk (by intro c z0 Φr Lr K;refine nrm ?_;intro hK;refine cV h3 ?_;exact hK z0) ?_
  iterate 4 refine AllQ.aq ?_
  exact AllQ.nil)
 repeat refine sq ?_;try intro
 refine cV h4 ?_
 repeat refine sq ?_;try intro
 refine OpK.call rfl rfl rfl rfl (rpush_spec B f sv (.slice a1 l.length c1) wrong o (wordB q2) hs ho) oY (Mr:=[]) (by rw [List.append_nil]) ?_
 rintro u Φ' Mc' ⟨a,c,rfl,rfl,rfl⟩
 refine nB ?_
 repeat refine sq ?_;try intro
 exact G.fin rfl .nil (Φ':=[fRp (.slice a _ c) _]) (M':=[_]) oY oZ ⟨a,c,rfl,rfl,rfl⟩
end Go.Rail
namespace Go.Rail
open Go Go.Proofs Tryz
set_option maxHeartbeats 400000
set_option maxRecDepth 4000
attribute [local irreducible] OpK G W LW wpListIn Exit.then Exit.inBlock Post rounds opRun bodyPostM intOp
set_option maxHeartbeats 4000000
def actsT (c:Nat→Nat):List (Int × Value) :=
  [(0,.agg #[.func (.func 176) #[] #[],.nilFunc,.nilFunc]),
   (32,.agg #[.func (.func 177) #[] #[],.func (.func 269) #[] #[.pointer (some ⟨c 0,0,none⟩),.pointer (some ⟨c 1,0,none⟩)],.func (.func 271) #[] #[.pointer (some ⟨c 2,0,none⟩),.pointer (some ⟨c 3,0,none⟩)]]),
   (53,.agg #[.func (.func 181) #[] #[],.nilFunc,.nilFunc]),
   (54,.agg #[.func (.func 182) #[] #[],.nilFunc,.nilFunc]),
   (55,.agg #[.func (.func 183) #[] #[],.func (.func 269) #[] #[.pointer (some ⟨c 4,0,none⟩),.pointer (some ⟨c 5,0,none⟩)],.func (.func 271) #[] #[.pointer (some ⟨c 6,0,none⟩),.pointer (some ⟨c 7,0,none⟩)]]),
   (56,.agg #[.func (.func 186) #[] #[],.nilFunc,.nilFunc]),
   (57,.agg #[.func (.func 187) #[] #[],.func (.func 269) #[] #[.pointer (some ⟨c 8,0,none⟩),.pointer (some ⟨c 9,0,none⟩)],.func (.func 271) #[] #[.pointer (some ⟨c 10,0,none⟩),.pointer (some ⟨c 11,0,none⟩)]]),
   (61,.agg #[.func (.func 188) #[] #[],.nilFunc,.nilFunc]),
   (62,.agg #[.func (.func 189) #[] #[],.func (.func 269) #[] #[.pointer (some ⟨c 12,0,none⟩),.pointer (some ⟨c 13,0,none⟩)],.func (.func 271) #[] #[.pointer (some ⟨c 14,0,none⟩),.pointer (some ⟨c 15,0,none⟩)]]),
   (81,.agg #[.func (.func 190) #[] #[],.nilFunc,.func (.func 274) #[] #[.pointer (some ⟨c 16,0,none⟩)]]),
   (82,.agg #[.func (.func 193) #[] #[],.nilFunc,.func (.func 274) #[] #[.pointer (some ⟨c 17,0,none⟩)]]),
   (83,.agg #[.func (.func 195) #[] #[],.nilFunc,.func (.func 274) #[] #[.pointer (some ⟨c 18,0,none⟩)]]),
   (86,.agg #[.func (.func 196) #[] #[],.nilFunc,.nilFunc]),
   (87,.agg #[.func (.func 197) #[] #[],.nilFunc,.nilFunc]),
   (88,.agg #[.func (.func 198) #[] #[],.nilFunc,.nilFunc]),
   (89,.agg #[.func (.func 199) #[] #[],.nilFunc,.nilFunc]),
   (90,.agg #[.func (.func 200) #[] #[],.nilFunc,.nilFunc]),
   (91,.agg #[.func (.func 201) #[] #[],.nilFunc,.nilFunc]),
   (243,.agg #[.func (.func 202) #[] #[],.nilFunc,.func (.func 271) #[] #[.pointer (some ⟨c 19,0,none⟩),.pointer (some ⟨c 20,0,none⟩)]]),
   (253,.agg #[.func (.func 204) #[] #[],.nilFunc,.func (.func 271) #[] #[.pointer (some ⟨c 21,0,none⟩),.pointer (some ⟨c 22,0,none⟩)]])]
abbrev actsF (c:Nat→Nat):List Fa :=
  [fBlk (c 21) [.int .i64 0] 3,fBlk (c 22) [.int .i64 1] 3,
   fBlk (c 19) [.int .i64 0] 3,fBlk (c 20) [.int .i64 1] 3,
   fBlk (c 18) [.int .i64 1] 3,
   fBlk (c 17) [.int .i64 32] 3,
   fBlk (c 16) [.int .i64 32] 3,
   fBlk (c 14) [.int .i64 0] 3,fBlk (c 15) [.int .i64 2] 3,
   fBlk (c 12) [.func (.func 185) #[] #[]] 237,fBlk (c 13) [.int .i64 2] 3,
   fBlk (c 10) [.int .i64 0] 3,fBlk (c 11) [.int .i64 2] 3,
   fBlk (c 8) [.func (.func 185) #[] #[]] 237,fBlk (c 9) [.int .i64 2] 3,
   fBlk (c 6) [.int .i64 0] 3,fBlk (c 7) [.int .i64 2] 3,
   fBlk (c 4) [.func (.func 185) #[] #[]] 237,fBlk (c 5) [.int .i64 2] 3,
   fBlk (c 2) [.int .i64 0] 3,fBlk (c 3) [.int .i64 1] 3,
   fBlk (c 0) [.func (.func 179) #[] #[]] 237,fBlk (c 1) [.int .i64 1] 3]
def cOf (l:List Nat) (i:Nat):Nat:=l.getD i 0
theorem acts_spec:Fn prog 101 [] [] [] (fun u Φ' M' => ∃ b l,u = .map (some b)∧Φ'=fObj b (MapV (actsT (cOf l)))::actsF (cOf l)∧M'=[]):=by
 refine Fn.enter func101 rfl ntmps101 oI (fun I0 w0 => ?_)
 repeat refine sq ?_;try intro
 refine o_makeMapV rfl rfl ?_
 intro b
 repeat (first
  | (refine st ?_;try intro _)
  | refine o_insV rfl rfl rfl rfl kR ?_
  | (refine OpK.call rfl rfl rfl rfl (fof_spec _ _) oY (Mr:=_) oP ?_;rintro _ _ _ ⟨_,_,rfl,rfl,rfl⟩;dsimp only [List.cons_append,List.nil_append,List.append_nil])
  | (refine OpK.call rfl rfl rfl rfl (fpiece_spec _ _) oY (Mr:=_) oP ?_;rintro _ _ _ ⟨_,_,rfl,rfl,rfl⟩;dsimp only [List.cons_append,List.nil_append,List.append_nil])
  | (refine OpK.call rfl rfl rfl rfl (ffixed_spec _) oY (Mr:=_) oP ?_;rintro _ _ _ ⟨_,rfl,rfl,rfl⟩;dsimp only [List.cons_append,List.nil_append,List.append_nil]))
 rename_i c0 c1 c2 c3 c4 c5 c6 c7 c8 c9 c10 c11 c12 c13 c14 c15 c16 c17 c18 c19 c20 c21 c22
 refine G.giveObj b (MapV (actsT (cOf [c0,c1,c2,c3,c4,c5,c6,c7,c8,c9,c10,c11,c12,c13,c14,c15,c16,c17,c18,c19,c20,c21,c22]))) (m:=MDel.head) ?_
 exact G.ret rfl (.cons (.tmp rfl) .nil) (Φ':=fObj b (MapV (actsT (cOf [c0,c1,c2,c3,c4,c5,c6,c7,c8,c9,c10,c11,c12,c13,c14,c15,c16,c17,c18,c19,c20,c21,c22])))::actsF (cOf [c0,c1,c2,c3,c4,c5,c6,c7,c8,c9,c10,c11,c12,c13,c14,c15,c16,c17,c18,c19,c20,c21,c22])) (M':=[]) ⟨fun I hp=>hp⟩ oN ⟨b,[c0,c1,c2,c3,c4,c5,c6,c7,c8,c9,c10,c11,c12,c13,c14,c15,c16,c17,c18,c19,c20,c21,c22],rfl,rfl,rfl⟩
def RDo (B:Nat) (av:Value) (p:Frm × Int):Value→List Fa→Own→Prop:=fun u Φ' M' => ∃ a c,u = .tuple #[]∧Φ'=[fRp (.slice a p.1.stack.length c) p.1.stack]∧M'=[(B,Ob (runC p.1 (.slice a p.1.stack.length c) av p.2) 188)]
def DoOK (op:Nat) (fd:FuncId) (cd:List Value) (Φx:List Fa):Prop:=∀ (B:Nat) (f:Frm) (sv av:Value) (l:List Word) (o:OR),Paid f op→l.length=popsN op→(isC op=false → ∃ r,infoN op=some r)→IsOwn (GoTy.sz Word) sv f.stack.length o →
 Fn prog fd ([.pointer (some ⟨B,0,none⟩)]++cd) (fRow (ocells o) f.stack::fRp av l::fKc::Φx) ((B,Ob (runC f sv av 0) 188)::ownM 24 o) (RDo B av (doF keccakL op f l))
def MoreOK (op:Nat) (v:Value) (Φx:List Fa):Prop:=(v = .nilFunc ∧ ∀ l,moreF op l=0) ∨ ∃ g cg,v = .func (.func g) #[] cg.toArray∧HasFn prog g ∧ ∀ (av:Value) (l:List Word),l.length=popsN op→FnV prog g ([av]++cg) (fRp av l::Φx) (.int .i64 ((moreF op l:Nat):Int))
def ReachOK (op:Nat) (v:Value) (Φx:List Fa):Prop:=(v = .nilFunc ∧ ∀ l,spanF op l=[]) ∨ ∃ g cg,v = .func (.func g) #[] cg.toArray∧HasFn prog g ∧ ∀ (av:Value) (l:List Word),l.length=popsN op → ∃ s:Spn,spanF op l=[(s.at_,s.n)]∧FnV prog g ([av]++cg) (fRp av l::Φx) s.v
def ActOK (op:Nat) (x:Value) (Φx:List Fa):Prop:=∃ fd cd more reach,x = .agg #[.func (.func fd) #[] cd.toArray,more,reach]∧HasFn prog fd∧DoOK op fd cd Φx∧MoreOK op more Φx∧ReachOK op reach Φx
theorem Fn.lay {P:Program} {f:FuncId} {args:List Value} {Φ Φ1 ψ:List Fa} {M M1:Own} {R:Value→List Fa→Own→Prop} (h:Fn P f args Φ1 M1 R)
  (hl : ∀ I w,(∀ φ∈Φ,φ.p I)→Wd ⟨I,doms M,w⟩ I M w → ∃ I1,(∀ φ∈Φ1,φ.p I1)∧(∀ φ∈ψ,φ.p I1)∧Wd ⟨I,doms M,w⟩ I1 M1 w):Fn P f args Φ M (fun u Φ' M' => ∃ Φ2,R u Φ2 M'∧Φ'=Φ2++ψ):=by
 intro I w hp hw
 obtain ⟨I1,h1,h2,h3⟩:=hl I w hp hw
 refine (h I1 w h1 (h3.start oZ)).mono ?_
 rintro e w' ⟨v,Φ2,M2,I2,rfl,hR,hf,hwd⟩
 have hb:=Wd.back (Mr:=[]) (by rw [List.append_nil];exact h3) hwd
 rw [List.append_nil] at hb
 refine ⟨v,Φ2++ψ,M2,I2,rfl,⟨Φ2,hR,rfl⟩,fun φ hφ => ?_,hb⟩
 rcases List.mem_append.1 hφ with hφ|hφ
 ·exact hf φ hφ
 ·exact φ.mono _ _ hwd.up (h2 φ hφ)
end Go.Rail
