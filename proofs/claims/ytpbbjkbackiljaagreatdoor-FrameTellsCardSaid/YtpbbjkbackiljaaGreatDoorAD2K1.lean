/- The document's numbers: of digits. -/
import Derived.Test.YtpbbjkbackiljaaGreatDoorRailA
import Derived.Test.YtpbbjkbackiljaaGreatDoorRailI
import Derived.Test.YtpbbjkbackiljaaGreatDoorAMulD1
import Derived.Test.YtpbbjkbackiljaaGreatDoorAEqBC
set_option linter.unusedSimpArgs false
set_option linter.unusedVariables false
namespace Go.Rail
open Go Go.Proofs Tryz
set_option maxHeartbeats 400000
set_option maxRecDepth 4000
attribute [local irreducible] OpK G W LW wpListIn Exit.then Exit.inBlock Post rounds opRun bodyPostM intOp
set_option maxHeartbeats 4000000
def stF (g:Nat→Nat) (s j:Nat):Nat:=sumB 256 (fun k=>g (max s (8*j)+k)) (8*j+8-max s (8*j))
theorem stF_step (g:Nat→Nat) (m:Nat):stF g m=fun j=>if j=m/8 then stF g (m+1) (m/8)*256+g m else stF g (m+1) j:=by
 funext j
 by_cases h:j=m/8
 ·subst h
  rw [if_pos rfl]
  unfold stF
  rw [Nat.max_eq_left oM,Nat.max_eq_left oM,show 8*(m/8)+8-m=1+(8*(m/8)+8-(m+1)) from by omega,sumB_split]
  simp only [sumB,Nat.pow_zero,Nat.mul_one,Nat.zero_add,Nat.pow_one,Nat.add_zero]
  rw [Nat.add_comm,Nat.mul_comm]
  congr 2
  exact sumB_congr (fun i _=>by rw [show m+(1+i)=m+1+i from by omega])
 ·rw [if_neg h]
  unfold stF
  by_cases h2:m/8<j
  ·rw [Nat.max_eq_right oM,Nat.max_eq_right oM]
  ·rw [show 8*j+8-max m (8*j)=0 from by omega,show 8*j+8-max (m+1) (8*j)=0 from by omega];rfl
theorem stF_lt {g:Nat→Nat} (hg : ∀ i<32,g i<256) {s j:Nat} (hj:j<4):stF g s j<256^(8*j+8-max s (8*j)):=by
 unfold stF
 refine sumB_lt oE (fun i hi=>hg _ oM)
theorem pow_le7 {n:Nat} (h:n≤7):(256:Nat)^n≤72057594037927936:=Nat.pow_le_pow_right (n:=256) oE h
theorem stF_word (g:Nat→Nat) (hg : ∀ i<32,g i<256) : .agg (cU 4 (stF g 0)).toArray=(Word.nat (sumB 256 g 32)).v:=by
 have h0:=stF_lt hg (s:=0) (j:=0) oE
 have h1:=stF_lt hg (s:=0) (j:=1) oE
 have h2:=stF_lt hg (s:=0) (j:=2) oE
 have h3:=stF_lt hg (s:=0) (j:=3) oE
 have hl:=sumB_lt (b:=256) oE hg
 refine Word.v_nat ?_ h0 h1 h2 h3
 rw [Nat.mod_eq_of_lt (Nat.lt_of_lt_of_eq hl kR),show (32:Nat)=8+24 from rfl,sumB_split,show (24:Nat)=8+16 from rfl,sumB_split,show (16:Nat)=8+8 from rfl,sumB_split]
 simp only [stF,Nat.mul_zero,Nat.max_self,Nat.zero_add,Nat.sub_zero,Nat.mul_one,Nat.zero_max,Nat.reduceMul,Nat.reduceAdd,Nat.reduceSub,Nat.reducePow,Nat.max_eq_right (Nat.zero_le _)]
 simp only [← Nat.add_assoc,Nat.reduceAdd]
 have e:sumB 256 (fun k=>g k) 8=sumB 256 g 8:=rfl
 rw [e]
 omega
def iV (s:Nat):Value:=match s with
 | 0 => .int .i64 (-1)
 | m+1 => .int .i64 (m:Int)
theorem fromDigits_spec (v:Value) (g:Nat→Nat) (hg : ∀ i<32,g i<256):FnV prog 80 [v] [fRp v (rowN 32 g)] (Word.nat (sumB 256 g 32)).v:=by
 refine Fn.enter func80 rfl ntmps80 oI (fun I0 w0 => ?_)
 refine W.bare (G.slice v (rowN 32 g) ?_);intro a1 c1 e1 k1;subst e1
 rw [rowZ_length] at k1 ⊢
 refine G.code ?_
 repeat refine sq ?_;try intro
 rename_i b2 b3
 refine W.lp (fun (s:Nat)=>([fRp (.slice a1 32 c1) (rowN 32 g)],[(4,iV s),(3,.pointer (some ⟨b3,0,none⟩)),(2,.pointer (some ⟨b2,0,none⟩)),(0,.slice a1 32 c1)],[(b3,Ob (cU 4 (stF g s)) 49),(b2,Ob Word.zero.cells 49)])) (fun s=>s≤32) (fun s=>s) 32 ?_
 intro s hs
 dsimp only
 cases s with
 | zero =>
  dsimp only [iV]
  repeat refine sq ?_;try intro
  refine G.retV ?_
  exact stF_word g hg
 | succ m =>
  dsimp only [iV]
  have h1:=stF_lt hg (s:=m+1) (j:=m/8) oM
  have h2:=hg m oM
  have h3:=pow_le7 (n:=8*(m/8)+8-(m+1)) oM
  rw [Nat.max_eq_left oM] at h1
  repeat refine sq ?_;try intro
  refine W.drawA 13 [dq _,dq _,dq _,dq _,dq _,dq _,dq _,dq _,dq _,dk _,dq _,dq _,dq _] [[],[0],[],[2],[3],[4],[5],[],[],[7,8],[9],[10],[6,11]] [1,12] (hrest:=fun c=>nrm ?_) (hops:=by
   iterate 13 refine AllQ.az ?_
   exact AllQ.nil)
  repeat refine sq ?_;try intro
  rw [← stF_step]
  repeat refine sq ?_;try intro
  cases m with
  | zero=>exact G.ag 0
  | succ m =>
   rw [show ((m+1:Nat):Int)-1=(m:Int) from by omega]
   exact G.ag (m+1)
theorem carried_spec (v:Value) (f:Nat→Int) (hf : ∀ i<32,-4503599627370496≤f i∧f i≤4503599627370496):FnD prog 277 [v] [fRp v (rowZ 32 f)] (fun u=>[fRp u (rowN 32 (cD f))]):=by
 refine Fn.enter func277 rfl ntmps277 oI (fun I0 w0 => ?_)
 refine W.bare (G.slice v (rowZ 32 f) ?_);intro a1 c1 e1 k1;subst e1
 rw [rowZ_length] at k1 ⊢
 refine G.code ?_
 repeat refine sq ?_;try intro
 refine W.lp (S:=Nat × Value × OR) (fun s=>([fRow (ocells s.2.2) (rowN s.1 (cD f)),fRp (.slice a1 32 c1) (rowZ 32 f)],[(5,.int .i64 (s.1:Int)),(4,.int .i64 (cR f s.1)),(3,s.2.1),(0,.slice a1 32 c1)],ownM 3 s.2.2)) (fun s=>s.1≤32∧IsOwn 1 s.2.1 s.1 s.2.2) (fun s=>32-s.1) (0,.slice none 0 0,none) ?_ (h0:=⟨Nat.zero_le _,rfl,rfl⟩)
 rintro ⟨i,w,o⟩ ⟨hi,hown⟩
 dsimp only at hi hown ⊢
 by_cases hi32:i=32
 ·subst hi32
  refine W.bare (G.giveOwn2 (Mr:=[]) w (rowN 32 (cD f)) o 3 (by rw [rowZ_length];exact hown) oY oP ?_)
  refine G.code ?_
  repeat refine sq ?_;try intro
  exact G.retD rfl rfl
 ·have h1:=hf i oM
  have h2:=cR_le (f:=f) (B:=4503599627370496) oE (n:=i) (fun j hj=>hf j oM)
  obtain ⟨n,hn⟩ : ∃ n,n=f i+cR f i:=⟨_,rfl⟩
  have hc1:cR f (i+1)=n/256:=by rw [hn];rfl
  have hd1:((cD f i:Nat):Int)=n%256:=by unfold cD;rw [hn];omega
  have hs:rowN (i+1) (cD f)=rowN i (cD f)++[n%256]:=by rw [rowN,rowZ_succ,hd1]
  have hq:intOp .quo .i64 (n-n%256) 256=some (.int .i64 (cR f (i+1))):=by
   have e:(n-n%256).tdiv 256=n/256:=by
    rw [show n-n%256=256*(n/256) from by omega,Int.mul_tdiv_cancel_left _ oE]
   rw [i_quoI oE (by rw [e];omega) (by rw [e];omega),e,hc1]
  repeat refine sq ?_;try intro
  rw [← hn]
  by_cases h0:0≤n
  ·rw [Int.tmod_eq_emod_of_nonneg h0]
   repeat refine sq ?_;try intro
   refine o_app2 (Mr:=[]) o (xs:=rowN i (cD f)) (ys:=[n%256]) (by rw [rowZ_length];exact hown) ⟨by simp [rowZ_length];omega,by simp [rowZ_length];omega,rfl⟩ rfl rfl rfl rfl oY oY oP ?_
   intro w' o' hown'
   rw [← hs] at hown' ⊢
   rw [rowZ_length] at hown'
   dsimp only [List.nil_append]
   repeat refine sq ?_;try intro
   refine o_int rfl rfl rfl rfl hq ?_
   repeat refine sq ?_;try intro
   exact G.ag (S:=Nat × Value × OR) (i+1,w',o') (hpre:=⟨by dsimp only;omega,hown'⟩)
  ·have e:n.tmod 256 = -((-n)%256):=by
    rw [← Int.tmod_eq_emod_of_nonneg (a := -n) oM,← Int.neg_tmod,Int.neg_neg]
   rw [e]
   by_cases h7 : -((-n)%256)<0
   ·repeat refine sq ?_;try intro
    rw [show -((-n)%256)+256=n%256 from by omega]
    refine o_app2 (Mr:=[]) o (xs:=rowN i (cD f)) (ys:=[n%256]) (by rw [rowZ_length];exact hown) ⟨by simp [rowZ_length];omega,by simp [rowZ_length];omega,rfl⟩ rfl rfl rfl rfl oY oY oP ?_
    intro w' o' hown'
    rw [← hs] at hown' ⊢
    rw [rowZ_length] at hown'
    dsimp only [List.nil_append]
    repeat refine sq ?_;try intro
    refine o_int rfl rfl rfl rfl hq ?_
    repeat refine sq ?_;try intro
    exact G.ag (S:=Nat × Value × OR) (i+1,w',o') (hpre:=⟨by dsimp only;omega,hown'⟩)
   ·rw [show -((-n)%256)=n%256 from by omega]
    repeat refine sq ?_;try intro
    refine o_app2 (Mr:=[]) o (xs:=rowN i (cD f)) (ys:=[n%256]) (by rw [rowZ_length];exact hown) ⟨by simp [rowZ_length];omega,by simp [rowZ_length];omega,rfl⟩ rfl rfl rfl rfl oY oY oP ?_
    intro w' o' hown'
    rw [← hs] at hown' ⊢
    rw [rowZ_length] at hown'
    dsimp only [List.nil_append]
    repeat refine sq ?_;try intro
    refine o_int rfl rfl rfl rfl hq ?_
    repeat refine sq ?_;try intro
    exact G.ag (S:=Nat × Value × OR) (i+1,w',o') (hpre:=⟨by dsimp only;omega,hown'⟩)
end Go.Rail
namespace Go.Rail
open Go Go.Proofs Tryz
set_option maxHeartbeats 400000
set_option maxRecDepth 4000
attribute [local irreducible] OpK G W LW wpListIn Exit.then Exit.inBlock Post rounds opRun bodyPostM intOp
set_option maxHeartbeats 4000000
def byG (l:List UInt8) (k:Nat):Nat:=(l.reverse.getD k 0).toNat
def wordB (l:List UInt8):Word:=Word.nat (sumB 256 (byG l) 32)
theorem byG_lt (l:List UInt8) (k:Nat):byG l k<256:=(l.reverse.getD k 0).toNat_lt
theorem byG_zero (l:List UInt8) (k:Nat) (h:l.length≤k):byG l k=0:=by
 unfold byG
 rw [List.getD_eq_getElem?_getD,List.getElem?_eq_none (by rw [List.length_reverse];exact h)];rfl
def pF (g:Nat→Nat) (i j:Nat):Nat:=sumB 256 (fun k=>g (8*j+k)) (min 8 (i-8*j))
theorem pF_step (g:Nat→Nat) (m:Nat):pF g (m+1)=fun j=>if j=m/8 then pF g m (m/8)+g m*256^(m%8) else pF g m j:=by
 funext j
 by_cases h:j=m/8
 ·subst h
  rw [if_pos rfl]
  unfold pF
  rw [show min 8 (m+1-8*(m/8))=m%8+1 from by omega,show min 8 (m-8*(m/8))=m%8 from by omega,sumB,show 8*(m/8)+m%8=m from by omega]
 ·rw [if_neg h]
  unfold pF
  congr 1
  omega
theorem sumB_nil {b:Nat} {f:Nat→Nat} : ∀ {n:Nat},(∀ i<n,f i=0)→sumB b f n=0
 | 0,_=>rfl
 | n+1,h=>by simp only [sumB];rw [sumB_nil (fun i hi=>h i oM),h n oM];omega
theorem pF_all (g:Nat→Nat) (n:Nat) (hz : ∀ k,n≤k→k<32→g k=0) (j:Nat) (hj:j<4):pF g n j=stF g 0 j:=by
 unfold pF stF
 rw [Nat.zero_max,show 8*j+8-8*j=min 8 (n-8*j)+(8-min 8 (n-8*j)) from by omega,sumB_split,sumB_nil (n:=8-min 8 (n-8*j)) (fun i hi=>hz _ oM oM)]
 omega
theorem pF_lt {g:Nat→Nat} (hg : ∀ i<32,g i<256) {m:Nat} (hm:m<32):pF g m (m/8)<256^(m%8):=by
 unfold pF
 rw [show min 8 (m-8*(m/8))=m%8 from by omega]
 exact sumB_lt oE (fun i hi=>hg _ oM)
theorem or_top (a b k:Nat) (hk:k<8) (ha:a<256^k) (hb:b<256):a|||b*2^(k*8)%18446744073709551616=a+b*256^k:=by
 have e:(2:Nat)^(k*8)=256^k:=by rw [Nat.mul_comm,Nat.pow_mul]
 have h1:(256:Nat)^k≤256^7:=Nat.pow_le_pow_right oE oM
 have h2:b*256^k≤255*256^7:=Nat.mul_le_mul oM h1
 have h3:(255:Nat)*256^7<18446744073709551616:=by decide
 rw [e,Nat.mod_eq_of_lt oM,Nat.or_comm,← e,Nat.mul_comm b]
 rw [← e] at ha
 rw [← Nat.two_pow_add_eq_or_of_lt ha,Nat.add_comm]
theorem cU_congr {n:Nat} {f g:Nat→Nat} (h : ∀ i<n,f i=g i):cU n f=cU n g:=by
 unfold cU
 exact List.map_congr_left fun i hi=>by rw [h i (List.mem_range.1 hi)]
theorem wfb_spec (l:List UInt8) (hl:l.length≤1000000):FnV prog 92 [.string (ba l)] [] (wordB l).v:=by
 refine Fn.enter func92 rfl ntmps92 oI (fun I0 w0 => ?_)
 repeat refine sq ?_;try intro
 refine o_toB rfl rfl rfl ?_
 intro v1
 repeat refine sq ?_;try intro
 refine o_callD rfl rfl rfl rfl (last8_spec _ l hl) ?_
 intro v2
 repeat refine sq ?_;try intro
 refine o_callD rfl rfl rfl rfl (reversed8_spec _ (l.drop (l.length-32)) (by rw [List.length_drop];omega)) ?_
 intro v3
 have htl:(l.drop (l.length-32)).reverse.length≤32:=by rw [List.length_reverse,List.length_drop];omega
 have hte : ∀ k,k<(l.drop (l.length-32)).reverse.length→((l.drop (l.length-32)).reverse.getD k 0).toNat=byG l k:=by
  intro k hk
  unfold byG
  rw [List.length_reverse,List.length_drop] at hk
  rw [List.getD_eq_getElem?_getD,List.getD_eq_getElem?_getD,List.getElem?_reverse (by rw [List.length_drop];exact hk),List.getElem?_drop,List.length_drop,List.getElem?_reverse oM]
  congr 3;omega
 have hz : ∀ k,(l.drop (l.length-32)).reverse.length≤k→k<32→byG l k=0:=fun k h1 h2=>byG_zero l k (by rw [List.length_reverse,List.length_drop] at h1;omega)
 generalize (l.drop (l.length-32)).reverse=t at htl hte hz ⊢
 refine nA ?_
 refine G.slice v3 t ?_;intro ad cap e1 k1;subst e1
 repeat refine sq ?_;try intro
 rename_i b2
 refine W.lp (S:=Nat) (fun i=>([fRp (.slice ad t.length cap) t],[(10,.int .i64 (i:Int)),(9,.int .i64 (t.length:Int)),(8,.slice ad t.length cap),(2,.pointer (some ⟨b2,0,none⟩))],[(b2,Ob (cU 4 (pF (byG l) i)) 49)])) (fun i=>i≤t.length) (fun i=>t.length-i) 0 ?_ (h0:=Nat.zero_le _)
 intro i hi
 dsimp only
 by_cases hie:i=t.length
 ·subst hie
  repeat refine sq ?_;try intro
  refine G.retV ?_
  refine (congrArg (fun q=>Value.agg q.toArray) (cU_congr (g:=stF (byG l) 0) (fun j hj=>pF_all _ _ hz j hj))).trans ?_
  exact stF_word _ (fun i _=>byG_lt l i)
 ·have h1:=pF_lt (g:=byG l) (fun i _=>byG_lt l i) (m:=i) oM
  have h2:=byG_lt l i
  have h3:=or_top (pF (byG l) i (i/8)) (byG l i) (i%8) (Nat.mod_lt _ oE) h1 h2
  have h4:(256:Nat)^(i%8)≤256^7:=Nat.pow_le_pow_right oE oM
  have hg:t[i]? = some (t.getD i 0):=by rw [List.getD_eq_getElem?_getD,List.getElem?_eq_getElem oM];rfl
  have hb:=hte i oM
  generalize t.getD i 0=ch at hg hb
  obtain ⟨hlt,he⟩:=List.getElem?_eq_some_iff.1 hg
  repeat refine sq ?_;try intro
  refine W.drawA 10 [dq _,dq _,dq _,dq _,dq _,dq _,dq _,dq _,dq _,dq _] [[],[0],[1],[2],[],[4],[],[6],[7],[5,8]] [1,3,9] (hrest:=fun c=>nrm ?_) (hops:=by
   iterate 10 refine AllQ.aq ?_
   exact AllQ.nil)
  repeat refine sq ?_;try intro
  have hu:(u64 (ch.toNat:Int)).toNat=byG l i:=by
   have:=u64_toNat (ch.toNat:Int)
   rw [hb] at this ⊢
   omega
  rw [he,hu,h3,← pF_step]
  exact G.ag (i+1)
theorem fromDigitsN_spec (v:Value) (n:Nat) (g:Nat→Nat) (hn:n≤32) (hg : ∀ i<32,g i<256) (hz : ∀ k,n≤k→k<32→g k=0):FnV prog 80 [v] [fRp v (rowN n g)] (Word.nat (sumB 256 g 32)).v:=by
 have e0:Ob Word.zero.cells 49=Ob (cU 4 (stF g n)) 49:=by
  have:cU 4 (stF g n)=cU 4 (fun _=>0):=cU_congr (fun j hj=>sumB_nil (fun i hi=>hz _ oM oM))
  rw [this];rfl
 refine Fn.enter func80 rfl ntmps80 oI (fun I0 w0 => ?_)
 refine W.bare (G.slice v (rowN n g) ?_);intro a1 c1 e1 k1;subst e1
 rw [rowZ_length] at k1 ⊢
 refine G.code ?_
 repeat refine sq ?_;try intro
 rename_i b2 b3
 have hrl:(rowN n g).length=n:=rowZ_length _ _
 refine W.lp (fun (s:Nat)=>([fRp (.slice a1 n c1) (rowN n g)],[(4,iV s),(3,.pointer (some ⟨b3,0,none⟩)),(2,.pointer (some ⟨b2,0,none⟩)),(0,.slice a1 n c1)],[(b3,Ob (cU 4 (stF g s)) 49),(b2,Ob Word.zero.cells 49)])) (fun s=>s≤n) (fun s=>s) n ?_ (h0:=Nat.le_refl _) (hL:=lC (by cases n with
  | zero=>rfl
  | succ m=>exact congrArg (fun q=>some (Value.int .i64 q)) (by split<;>omega)) (lC rfl (lC rfl (lC rfl lN)))) (hM:=by dsimp only;rw [← e0];exact List.Sublist.refl _)
 intro s hs
 dsimp only
 cases s with
 | zero =>
  dsimp only [iV]
  repeat refine sq ?_;try intro
  refine G.retV ?_
  exact stF_word g hg
 | succ m =>
  dsimp only [iV]
  have h1:=stF_lt hg (s:=m+1) (j:=m/8) oM
  have h2:=hg m oM
  have h3:=pow_le7 (n:=8*(m/8)+8-(m+1)) oM
  rw [Nat.max_eq_left oM] at h1
  repeat refine sq ?_;try intro
  refine W.drawA 13 [dq _,dq _,dq _,dq _,dq _,dq _,dq _,dq _,dq _,dk _,dq _,dq _,dq _] [[],[0],[],[2],[3],[4],[5],[],[],[7,8],[9],[10],[6,11]] [1,12] (hrest:=fun c=>nrm ?_) (hops:=by
   iterate 13 refine AllQ.aq ?_
   exact AllQ.nil)
  repeat refine sq ?_;try intro
  rw [← stF_step]
  repeat refine sq ?_;try intro
  cases m with
  | zero=>exact G.ag 0
  | succ m =>
   rw [show ((m+1:Nat):Int)-1=(m:Int) from by omega]
   exact G.ag (m+1)
theorem own_open {n:Nat} {v:Value} {k:Nat} {o:OR} (h:IsOwn n v k o) : ∃ a c,v = .slice a k c:=by
 cases o with
 | none=>obtain ⟨rfl,rfl⟩:=h;exact ⟨_,_,rfl⟩
 | some q=>obtain ⟨b,cs⟩:=q;obtain ⟨cap,rfl,_⟩:=h;exact ⟨_,_,rfl⟩
structure FbSt where
 k:Nat
 v:Value
 o:OR
theorem rfb_spec (l:List UInt8) (hl:l.length≤1000000):FnV prog 44 [.string (ba l)] [] (wordB l).v:=by
 refine Fn.enter func44 rfl ntmps44 oI (fun I0 w0 => ?_)
 repeat refine sq ?_;try intro
 rename_i b2
 refine W.lp (S:=FbSt) (fun s=>([fRow (ocells s.o) (rowN s.k (byG l))],[(4,.int .i64 ((l.length:Int)-1-(s.k:Int))),(3,s.v),(2,.pointer (some ⟨b2,0,none⟩)),(0,.string (ba l))],(b2,Ob Word.zero.cells 49)::ownM 3 s.o)) (fun s=>s.k≤32∧s.k≤l.length∧IsOwn 1 s.v s.k s.o) (fun s=>32-s.k) ⟨0,.slice none 0 0,none⟩ ?_ (h0:=⟨Nat.zero_le _,Nat.zero_le _,⟨rfl,rfl⟩⟩) (hL:=lC (congrArg (fun q=>some (Value.int .i64 q)) (by dsimp only;omega)) (lC rfl (lC rfl (lC rfl lN))))
 rintro ⟨k,v,o⟩ ⟨hk,hkl,hown⟩
 dsimp only at hk hkl hown ⊢
 have hrl:(rowN k (byG l)).length=k:=rowZ_length _ _
 by_cases hke:k=32∨k=l.length
 ·refine W.bare (G.giveOwn2 (Mr:=[_]) v (rowN k (byG l)) o 3 (by rw [hrl];exact hown) oY oP ?_)
  refine G.code ?_
  have hfd:=fromDigitsN_spec v k (byG l) hk (fun i _=>byG_lt l i) (fun j h1 h2=>byG_zero l j oM)
  by_cases hk1:k=l.length
  ·repeat refine sq ?_;try intro
   refine cV hfd ?_
   repeat refine sq ?_;try intro
   refine G.retV ?_
   rfl
  ·repeat refine sq ?_;try intro
   refine cV hfd ?_
   repeat refine sq ?_;try intro
   refine G.retV ?_
   rfl
 ·obtain ⟨ch,hget,hch⟩ : ∃ ch,l[l.length-1-k]? = some ch∧byG l k=ch.toNat:=by
   refine ⟨l.reverse.getD k 0,?_,rfl⟩
   rw [List.getD_eq_getElem?_getD,List.getElem?_reverse oM,List.getElem?_eq_getElem oM];rfl
  have hst:rowN (k+1) (byG l)=rowN k (byG l)++[((byG l k:Nat):Int)]:=rowZ_succ _ _
  rw [hch] at hst
  have hlt:=ch.toNat_lt
  obtain ⟨a0,c0,rfl⟩:=own_open hown
  repeat refine sq ?_;try intro
  refine o_ixG (l.length-1-k) ch rfl rfl rfl rfl oM hget ?_
  repeat refine sq ?_;try intro
  refine o_app2 (Mr:=[_]) o (xs:=rowN k (byG l)) (ys:=[((ch.toNat:Nat):Int)]) (by rw [hrl];exact hown) ⟨by simp [hrl];omega,by simp [hrl];omega,rfl⟩ rfl rfl rfl rfl oY oY oP ?_
  intro w' o' hown'
  rw [← hst] at hown' ⊢
  rw [rowZ_length] at hown'
  dsimp only [List.nil_append,List.cons_append]
  repeat refine sq ?_;try intro
  exact G.ag (S:=FbSt) ⟨k+1,w',o'⟩ (hpre:=⟨by dsimp only;omega,by dsimp only;omega,hown'⟩) (hL:=lC (congrArg (fun q=>some (Value.int .i64 q)) (by dsimp only;omega)) (lC rfl (lC rfl (lC rfl lN))))
def opushL (l:List UInt8) (pc n:Int):Word :=
 if n<1∨32<n∨pc<0∨(l.length:Int)≤pc then .zero else wordB ((l.drop (pc.toNat+1)).take n.toNat++List.replicate (n.toNat-((l.drop (pc.toNat+1)).take n.toNat).length) 0)
theorem opush_spec (l:List UInt8) (pc n:Int) (hl:l.length≤1000000):FnV prog 59 [.string (ba l),.int .i64 pc,.int .i64 n] [] (opushL l pc n).v:=by
 unfold opushL
 by_cases h1:n<1
 ·rw [if_pos (.inl h1)]
  refine Fn.enter func59 rfl ntmps59 oI (fun I0 w0 => ?_)
  repeat refine sq ?_;try intro
  refine G.retV ?_
  rfl
 by_cases h2:32<n
 ·rw [if_pos (.inr (.inl h2))]
  refine Fn.enter func59 rfl ntmps59 oI (fun I0 w0 => ?_)
  repeat refine sq ?_;try intro
  refine G.retV ?_
  rfl
 by_cases h3:pc<0
 ·rw [if_pos (.inr (.inr (.inl h3)))]
  refine Fn.enter func59 rfl ntmps59 oI (fun I0 w0 => ?_)
  repeat refine sq ?_;try intro
  refine G.retV ?_
  rfl
 by_cases h4:(l.length:Int)≤pc
 ·rw [if_pos (.inr (.inr (.inr h4)))]
  refine Fn.enter func59 rfl ntmps59 oI (fun I0 w0 => ?_)
  repeat refine sq ?_;try intro
  refine G.retV ?_
  rfl
 rw [if_neg oM]
 obtain ⟨p,rfl⟩ : ∃ p:Nat,pc=(p:Int):=⟨pc.toNat,by omega⟩
 obtain ⟨m,rfl⟩ : ∃ m:Nat,n=(m:Int):=⟨n.toNat,by omega⟩
 rw [Int.toNat_natCast,Int.toNat_natCast]
 have hdl:(l.drop (p+1)).length=l.length-(p+1):=List.length_drop ..
 have htl:((l.drop (p+1)).take m).length=min m (l.length-(p+1)):=by rw [List.length_take,hdl]
 have hrp:=repeat_spec (m-((l.drop (p+1)).take m).length) oM
 have hwf:=wfb_spec ((l.drop (p+1)).take m++List.replicate (m-((l.drop (p+1)).take m).length) 0) (by rw [List.length_append,List.length_replicate];omega)
 refine Fn.enter func59 rfl ntmps59 oI (fun I0 w0 => ?_)
 repeat refine sq ?_;try intro
 have hlen:((l.take l.length).drop (p+1)).length=l.length-(p+1):=by rw [List.take_length,hdl]
 have e:((((l.take l.length).drop (p+1)).take (min m (l.length-(p+1)))).drop 0)=(l.drop (p+1)).take m:=by
  rw [List.take_length,List.drop_zero,List.take_eq_take_iff,hdl];omega
 refine o_slT 0 (min m (l.length-(p+1))) rfl rfl rfl bd0 ⟨_,_,rfl,by rw [hlen];split<;>omega⟩ (Nat.zero_le _) (by rw [hlen];omega) ?_
 rw [e]
 generalize (l.drop (p+1)).take m=t at htl hrp hwf ⊢
 repeat refine sq ?_;try intro
 refine cV hrp ?_
 repeat refine sq ?_;try intro
 refine cV hwf ?_
 repeat refine sq ?_;try intro
 refine G.retV ?_
 rfl
end Go.Rail
namespace Go.Rail
open Go Go.Proofs Tryz
set_option maxHeartbeats 400000
set_option maxRecDepth 4000
attribute [local irreducible] OpK G W LW wpListIn Exit.then Exit.inBlock Post rounds opRun bodyPostM intOp
set_option maxHeartbeats 2000000
theorem lane_spec (x y:Nat) (hx:x≤1000) (hy:y≤1000):FnV prog 334 [.int .i64 (x:Int),.int .i64 (y:Int)] [] (.int .i64 ((5*(y%5)+x%5:Nat):Int)):=by
 refine Fn.enter func334 rfl ntmps334 oI (fun I0 w0 => ?_)
 repeat refine sq ?_;try intro
 refine G.retV ?_
 rfl
def rotN (a k:Nat):Nat:=a*2^(k%64)%18446744073709551616|||a/2^(64-k%64)
theorem rotN_lt (a k:Nat) (ha:a<18446744073709551616):rotN a k<18446744073709551616:=by
 unfold rotN
 refine Nat.or_lt_two_pow (n:=64) (Nat.mod_lt _ oE) ?_
 exact Nat.lt_of_le_of_lt (Nat.div_le_self _ _) ha
theorem rotl_spec (a k:Nat) (ha:a<18446744073709551616) (hk:k≤1000) (h0:0<k%64):FnV prog 335 [.int .u64 (a:Int),.int .i64 (k:Int)] [] (.int .u64 ((rotN a k:Nat):Int)):=by
 have hd:a/2^(64-k%64)<18446744073709551616:=Nat.lt_of_le_of_lt (Nat.div_le_self _ _) ha
 have hm:a*2^(k%64)%18446744073709551616<18446744073709551616:=Nat.mod_lt _ oE
 have h63:k&&&63=k%64:=Nat.and_two_pow_sub_one_eq_mod k 6
 unfold rotN
 refine Fn.enter func335 rfl ntmps335 oI (fun I0 w0 => ?_)
 repeat refine sq ?_;try intro
 rw [h63]
 refine o_int rfl rfl rfl rfl (w_or hm hd) ?_
 repeat refine sq ?_;try intro
 refine G.retV ?_
 rfl
def pl25:List (List Value):=(List.range 25).map fun (i:Nat)=>[.int .i64 ((i%5:Nat):Int),.int .i64 ((i/5:Nat):Int)]
theorem pl25_len:pl25.length=25:=by simp [pl25]
theorem pl25_two : ∀ vs∈pl25,vs.length=2:=by
 intro vs h
 obtain ⟨p,_,rfl⟩:=List.mem_map.1 h
 rfl
theorem pl25_at (k:Nat) (h:k<pl25.length):pl25[k]=[.int .i64 ((k%5:Nat):Int),.int .i64 ((k/5:Nat):Int)]:=by simp [pl25]
theorem kplaces1_spec:IterR prog 339 [] pl25 []:=by
 intro y T Z hy s0 hs0
 rw [pl25_len]
 show Fn _ _ _ s0.1 _ _
 refine Fn.enter func339 rfl ntmps339 oI (fun I0 w0 => ?_)
 repeat refine sq ?_;try intro
 refine W.lp (S:=Nat × St) (fun i=>(i.2.1,[(3,.int .i64 (i.1:Int)),(0,.func (.yield y) #[] #[])],i.2.2)) (fun i=>i.1≤25∧T i.1 i.2) (fun i=>25-i.1) (0,s0) ?_ (h0:=⟨Nat.zero_le _,hs0⟩) (hΦ:=⟨fun I hp φ hφ=>hp φ hφ⟩) (hM:=List.Sublist.refl _)
 rintro ⟨k,sa⟩ ⟨hk,hT⟩
 dsimp only at hk hT ⊢
 by_cases hke:k=25
 ·subst hke
  repeat refine sq ?_;try intro
  exact G.fin rfl .nil (Φ':=sa.1) (M':=sa.2) ⟨fun I hp φ hφ=>hp φ hφ⟩ oZ (.inl hT)
 ·have hyk:=hy k (by rw [pl25_len];omega) sa hT
  rw [pl25_at] at hyk
  repeat refine sq ?_;try intro
  refine o_yieldR (Mr:=[]) rfl rfl rfl rfl hyk (fun I hp φ hφ=>hp φ hφ) oI ?_ ?_
  ·intro st2 hst2
   rw [List.append_nil]
   refine G.weaken (Φ':=st2.1) ?_ (fun φ hφ=>List.mem_append_left _ hφ) (fun _ _ h=>h) oZ
   repeat refine sq ?_;try intro
   exact G.ag (S:=Nat × St) (k+1,st2) (hpre:=⟨by dsimp only;omega,hst2⟩) (hΦ:=⟨fun I hp φ hφ=>hp φ hφ⟩) (hM:=List.Sublist.refl _)
  ·intro s hs
   rw [List.append_nil]
   repeat refine sq ?_;try intro
   exact G.ret rfl .nil (Φ':=s.1) (M':=s.2) ⟨fun I hp φ hφ=>hp φ (List.mem_append_left _ hφ)⟩ oZ (.inr hs)
theorem kplaces_spec:FnV prog 333 [] [] (.func (.func 339) #[] #[]):=by
 refine Fn.enter func333 rfl ntmps333 oI (fun I0 w0 => ?_)
 repeat refine sq ?_;try intro
 refine G.retV ?_
 rfl
def thC (a:Nat→Nat):Nat→Nat→Nat
 | 0=>fun _=>0
 | i+1=>fun k=>if k=i%5 then thC a i (i%5)^^^a i else thC a i k
def thA (a:Nat→Nat):Nat→Nat→Nat
 | 0=>a
 | i+1=>fun k=>if k=i then thA a i i^^^(thC a 25 ((i%5+5-1)%5)^^^rotN (thC a 25 ((i%5+1)%5)) 1) else thA a i k
theorem thC_lt (a:Nat→Nat) (ha : ∀ k,a k<18446744073709551616) : ∀ i k,thC a i k<18446744073709551616
 | 0,_=>(by decide:(0:Nat)<18446744073709551616)
 | i+1,k=>by
  unfold thC
  split
  ·exact Nat.xor_lt_two_pow (n:=64) (thC_lt a ha i _) (ha i)
  ·exact thC_lt a ha i k
theorem thA_lt (a:Nat→Nat) (ha : ∀ k,a k<18446744073709551616) : ∀ i k,thA a i k<18446744073709551616
 | 0,k=>ha k
 | i+1,k=>by
  unfold thA
  split
  ·exact Nat.xor_lt_two_pow (n:=64) (thA_lt a ha i _) (Nat.xor_lt_two_pow (n:=64) (thC_lt a ha 25 _) (rotN_lt _ _ (thC_lt a ha 25 _)))
  ·exact thA_lt a ha i k
theorem theta_spec (a:Nat→Nat) (ha : ∀ k,a k<18446744073709551616):FnV prog 317 [.agg (cU 25 a).toArray] [] (.agg (cU 25 (thA a 25)).toArray):=by
 refine Fn.enter func317 rfl ntmps317 oI (fun I0 w0 => ?_)
 repeat refine sq ?_;try intro
 refine cV kplaces_spec ?_
 repeat refine sq ?_;try intro
 rename_i b1 b2 b3
 refine W.rangeFuncR (enc:=pl25) (ps:=[9,10]) (Φi:=[]) (Mr:=[]) (fun k s=>s=([],[(b3,Ob (cU 5 (thC a k)) 293),(b2,Ob (cU 25 (fun _=>0)) 203),(b1,Ob (cU 25 a) 203)])) (fun _ _=>False) rfl kplaces1_spec oE pl25_two oY ([],[(b3,Ob (cU 5 (thC a 0)) 293),(b2,Ob (cU 25 (fun _=>0)) 203),(b1,Ob (cU 25 a) 203)]) rfl oY oP ?_ ?_ ?_
 ·rintro y rec I0' w0' k hk _ rfl
  rw [pl25_len] at hk
  have hl:=lane_spec (k%5) (k/5) oM oM
  rw [show 5*(k/5%5)+k%5%5=k from by omega] at hl
  have h1:=thC_lt a ha k (k%5)
  have h2:=ha k
  dsimp only
  rw [pl25_at k (by rw [pl25_len];exact hk)]
  show W _ _ _ _ ((10,.int .i64 ((k/5:Nat):Int))::(9,.int .i64 ((k%5:Nat):Int))::_) _
  repeat refine sq ?_;try intro
  refine G.begin (by rfl) ?_
  repeat refine sq ?_;try intro
  refine W.drawA 8 [dq _,dq _,dq _,dq _,dq _,dq _,dq _,dq _] [[],[0],[1],[],[],[3,4],[5],[6]] [0,2,7] (hrest:=fun c=>nrm ?_) (hops:=by
   iterate 5 refine AllQ.aq ?_
   refine AllQ.mk (by intro c z0 Φr Lr K;refine nrm ?_;intro hK;refine cV hl ?_;exact hK z0) ?_
   iterate 2 refine AllQ.aq ?_
   exact AllQ.nil)
  repeat refine sq ?_;try intro
  refine G.roundEnd oY (Φ':=[]) (M'':=[(b3,Ob (cU 5 (thC a (k+1))) 293),(b2,Ob (cU 25 (fun _=>0)) 203),(b1,Ob (cU 25 a) 203)]) ?_ oY (by first|exact List.Sublist.refl _|exact .cons _ oZ)
  exact Or.inl ⟨rfl,([],[(b3,Ob (cU 5 (thC a (k+1))) 293),(b2,Ob (cU 25 (fun _=>0)) 203),(b1,Ob (cU 25 a) 203)]),rfl,rfl⟩
 ·rintro D _ rfl
  rw [pl25_len]
  dsimp only [List.nil_append,List.cons_append]
  repeat refine sq ?_;try intro
  refine cV kplaces_spec ?_
  repeat refine sq ?_;try intro
  refine W.rangeFuncR (enc:=pl25) (ps:=[22,23]) (Φi:=[]) (Mr:=[(D,.deferred (some []))]) (fun k s=>s=([],[(b3,Ob (cU 5 (thC a 25)) 293),(b2,Ob (cU 25 (fun _=>0)) 203),(b1,Ob (cU 25 (thA a k)) 203)])) (fun _ _=>False) rfl kplaces1_spec oE pl25_two oY ([],[(b3,Ob (cU 5 (thC a 25)) 293),(b2,Ob (cU 25 (fun _=>0)) 203),(b1,Ob (cU 25 (thA a 0)) 203)]) rfl oY oP ?_ ?_ ?_
  ·rintro y rec I0' w0' k hk _ rfl
   rw [pl25_len] at hk
   have hl:=lane_spec (k%5) (k/5) oM oM
   rw [show 5*(k/5%5)+k%5%5=k from by omega] at hl
   have h1:=thC_lt a ha 25 ((k%5+5-1)%5)
   have h2:=thA_lt a ha k k
   have h3:=thC_lt a ha 25 ((k%5+1)%5)
   have hr:=rotl_spec (thC a 25 ((k%5+1)%5)) 1 h3 oE oE
   rw [show ((1:Nat):Int)=1 from rfl] at hr
   have h4:=rotN_lt (thC a 25 ((k%5+1)%5)) 1 h3
   have h5:thC a 25 ((k%5+5-1)%5)^^^rotN (thC a 25 ((k%5+1)%5)) 1<18446744073709551616:=Nat.xor_lt_two_pow (n:=64) h1 h4
   dsimp only
   rw [pl25_at k (by rw [pl25_len];exact hk)]
   show W _ _ _ _ ((23,.int .i64 ((k/5:Nat):Int))::(22,.int .i64 ((k%5:Nat):Int))::_) _
   repeat refine sq ?_;try intro
   refine G.begin (by rfl) ?_
   repeat refine sq ?_;try intro
   refine W.drawA 18 [dq _,dq _,dq _,dq _,dq _,dq _,dq _,dq _,dq _,dq _,dq _,dq _,dq _,dq _,dq _,dq _,dq _,dq _] [[],[],[0,1],[2],[3],[],[5],[6],[7],[8],[9],[],[11],[12],[13],[14],[15],[10,16]] [2,4,17] (hrest:=fun c=>nrm ?_) (hops:=by
    iterate 2 refine AllQ.aq ?_
    refine AllQ.mk (by intro c z0 Φr Lr K;refine nrm ?_;intro hK;refine cV hl ?_;exact hK z0) ?_
    iterate 13 refine AllQ.aq ?_
    refine AllQ.mk (by intro c z0 Φr Lr K;refine nrm ?_;intro hK;refine cV hr ?_;exact hK z0) ?_
    iterate 1 refine AllQ.aq ?_
    exact AllQ.nil)
   repeat refine sq ?_;try intro
   refine G.roundEnd oY (Φ':=[]) (M'':=[(b3,Ob (cU 5 (thC a 25)) 293),(b2,Ob (cU 25 (fun _=>0)) 203),(b1,Ob (cU 25 (thA a (k+1))) 203)]) ?_ oY (by first|exact List.Sublist.refl _|exact .cons _ oZ)
   exact Or.inl ⟨rfl,([],[(b3,Ob (cU 5 (thC a 25)) 293),(b2,Ob (cU 25 (fun _=>0)) 203),(b1,Ob (cU 25 (thA a (k+1))) 203)]),rfl,rfl⟩
  ·rintro D2 _ rfl
   rw [pl25_len]
   dsimp only [List.nil_append,List.cons_append]
   repeat refine sq ?_;try intro
   refine G.unmark oY ?_
   refine G.unmark oY ?_
   refine G.retV ?_
   rfl
  ·intro D c s h
   exact h.elim
 ·intro D c s h
  exact h.elim
end Go.Rail
