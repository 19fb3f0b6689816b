/- bit: the places of bits that are set; shifts. -/
import Derived.Test.YtjhdodkagchhkaaGreatDoorRailA
import Derived.Test.YtjhdodkagchhkaaGreatDoorAC12
set_option linter.unusedSimpArgs false
set_option linter.unusedVariables false
namespace Go.Rail
open Go Go.Proofs Tryz
set_option maxHeartbeats 400000
set_option maxRecDepth 4000
attribute [local irreducible] OpK G W LW wpListIn Exit.then Exit.inBlock Post rounds opRun bodyPostM intOp
set_option maxHeartbeats 4000000
attribute [local irreducible] lexN cmpW Word.nat subW mulW
def posL (n i j:Nat):List Nat:=(List.range' i (j-i)).filter fun k=>decide (n/2^k%2=1)
theorem posL_self (n i:Nat):posL n i i=[]:=by simp [posL]
theorem posL_succ (n i j:Nat) (h:i≤j):posL n i (j+1)=if n/2^j%2=1 then posL n i j++[j] else posL n i j:=by
 unfold posL
 rw [show j+1-i=(j-i)+1 from by omega,List.range'_concat,List.filter_append,show i+1*(j-i)=j from by omega]
 by_cases hb:n/2^j%2=1<;>simp [hb]
theorem posL_pre (n i k:Nat) (h:i≤k) : ∀ d,∃ r,posL n i (k+d)=posL n i k++r
 | 0=>⟨[],by simp⟩
 | d+1=>by
  obtain ⟨r,hr⟩:=posL_pre n i k h d
  rw [← Nat.add_assoc,posL_succ n i (k+d) oM,hr]
  by_cases hb:n/2^(k+d)%2=1
  ·exact ⟨r++[k+d],by rw [if_pos hb];simp⟩
  ·exact ⟨r,by rw [if_neg hb]⟩
theorem posL_at (n i j k:Nat) (h:i≤k) (hk:k<j) (hb:n/2^k%2=1):(posL n i j)[(posL n i k).length]? = some k:=by
 obtain ⟨r,hr⟩:=posL_pre n i (k+1) oM (j-(k+1))
 rw [show k+1+(j-(k+1))=j from by omega,posL_succ n i k h,if_pos hb] at hr
 rw [hr];simp
def posE (l:List Nat):List (List Value):=l.map fun (k:Nat)=>[.int .i64 (k:Int)]
theorem posE_one (l:List Nat) : ∀ vs∈posE l,vs.length=1:=by
 intro vs h
 obtain ⟨j,_,rfl⟩:=List.mem_map.1 h
 rfl
theorem set1_spec (b1 b2 b3 n i j:Nat) (hij:i≤j) (hj:j≤256):IterS prog 291 [.pointer (some ⟨b1,0,none⟩),.pointer (some ⟨b2,0,none⟩),.pointer (some ⟨b3,0,none⟩)] (posE (posL n i j)) [fBlk b1 [.int .i64 (i:Int)] 3,fBlk b2 [.int .i64 (j:Int)] 3,fBlk b3 (numC 4 n) 24]:=by
 intro l T Z hy
 have hy' : ∀ k,i≤k→k<j→n/2^k%2=1→FnY prog l [.int .i64 (k:Int)] (T (posL n i k).length).1 (T (posL n i k).length).2 (YR (T (posL n i (k+1)).length) Z):=fun k h1 h2 h3=>by
  have ha:=posL_at n i j k h1 h2 h3
  obtain ⟨hl,he⟩:=List.getElem?_eq_some_iff.1 ha
  have:=hy (posL n i k).length (by simpa [posE] using hl)
  simp only [posE,List.getElem_map,he] at this
  rwa [posL_succ n i k h1,if_pos h3,List.length_append]
 have hn : ∀ k,i≤k→n/2^k%2≠1→posL n i (k+1)=posL n i k:=fun k h1 h2=>by rw [posL_succ n i k h1,if_neg h2]
 rw [show (posE (posL n i j)).length=(posL n i j).length from by simp [posE]]
 clear hy
 show Fn _ _ _ (fBlk b1 [.int .i64 (i:Int)] 3::fBlk b2 [.int .i64 (j:Int)] 3::fBlk b3 (numC 4 n) 24::(T 0).1) _ _
 refine Fn.enter func291 rfl ntmps291 oI (fun I0 w0 => ?_)
 repeat refine st ?_;try intro
 refine W.lp (fun (k:Nat)=>(fBlk b1 [.int .i64 (i:Int)] 3::fBlk b2 [.int .i64 (j:Int)] 3::fBlk b3 (numC 4 n) 24::(T (posL n i k).length).1,[(0,.func (.yield l) #[] #[]),(1,.pointer (some ⟨b1,0,none⟩)),(2,.pointer (some ⟨b2,0,none⟩)),(3,.pointer (some ⟨b3,0,none⟩)),(5,.int .i64 (k:Int))],(T (posL n i k).length).2)) (fun k=>i≤k∧k≤j) (fun k=>j-k) i ?_ (hΦ:=⟨fun I hp φ hφ=>by rw [posL_self] at hφ;exact hp φ hφ⟩) (hM:=by rw [posL_self];exact List.Sublist.refl _)
 intro k hk
 dsimp only
 by_cases hkj:k=j
 ·subst hkj
  repeat refine st ?_;try intro
  exact G.fin rfl .nil (Φ':=(T (posL n i k).length).1) (M':=(T (posL n i k).length).2) ⟨fun I hp φ hφ=>hp φ (.tail _ (.tail _ (.tail _ hφ)))⟩ oZ (.inl ⟨rfl,rfl⟩)
 have hat:=atN_spec n k oM
 by_cases hb:n/2^k%2=1
 ·rw [decide_eq_true hb] at hat
  repeat refine st ?_;try intro
  refine cV hat ?_
  repeat refine st ?_;try intro
  refine o_yield (Mr:=[]) rfl rfl rfl rfl (hy' k hk.1 oM hb) (fun I hp φ hφ=>hp φ (.tail _ (.tail _ (.tail _ hφ)))) oI ?_ ?_
  ·repeat refine st ?_;try intro
   refine G.ag (k+1) (hΦ:=⟨fun I hp φ hφ => ?_⟩) (hM:=by simp)
   simp only [List.mem_cons] at hφ
   rcases hφ with rfl|rfl|rfl|hφ
   ·exact hp _ (List.mem_append_right _ (.head _))
   ·exact hp _ (List.mem_append_right _ (.tail _ (.head _)))
   ·exact hp _ (List.mem_append_right _ (.tail _ (.tail _ (.head _))))
   ·exact hp _ (List.mem_append_left _ hφ)
  ·intro s hs
   repeat refine st ?_;try intro
   exact G.ret rfl .nil (Φ':=s.1) (M':=s.2) ⟨fun I hp φ hφ=>hp φ (List.mem_append_left _ hφ)⟩ oI (.inr hs)
 ·rw [decide_eq_false hb] at hat
  repeat refine st ?_;try intro
  refine cV hat ?_
  repeat refine st ?_;try intro
  refine G.ag (k+1) (hΦ:=⟨fun I hp φ hφ=>by rw [hn k hk.1 hb] at hφ;exact hp φ hφ⟩) (hM:=by rw [hn k hk.1 hb];exact List.Sublist.refl _)
theorem tpow (k:Nat):(18446744073709551616:Nat)^k=2^(64*k):=by rw [Nat.pow_mul]
theorem bit_lo {o p k:Nat} (hk:k<p/64):pt (o+2^p) k=pt o k:=by
 unfold pt
 have e:2^p=2^(64*k)*(18446744073709551616*2^(p-64*(k+1))):=by
  rw [show (18446744073709551616:Nat)=2^64 from rfl,← Nat.pow_add,← Nat.pow_add];congr 1;omega
 rw [tpow,e,Nat.add_mul_div_left _ _ (Nat.pow_pos oE),Nat.add_mul_mod_self_left]
theorem bit_hi {o p k:Nat} (ho:o<2^p) (hk:p/64<k):pt (o+2^p) k=pt o k:=by
 unfold pt
 have e:2^(p+1)≤2^(64*k):=Nat.pow_le_pow_right oE oM
 rw [Nat.pow_succ] at e
 rw [tpow,Nat.div_eq_of_lt oM,Nat.div_eq_of_lt oM]
theorem bit_at {o p:Nat} (ho:o<2^p):o/2^(64*(p/64))%18446744073709551616|||1*2^(p%64)%18446744073709551616=pt (o+2^p) (p/64):=by
 unfold pt
 have e:2^p=2^(64*(p/64))*2^(p%64):=by rw [← Nat.pow_add,Nat.div_add_mod]
 have hq:0<2^(64*(p/64)):=Nat.pow_pos oE
 have h1:o/2^(64*(p/64))<2^(p%64):=(Nat.div_lt_iff_lt_mul hq).2 (by rw [Nat.mul_comm,← e];exact ho)
 have h2:2^(p%64+1)≤2^64:=Nat.pow_le_pow_right oE oM
 rw [Nat.pow_succ] at h2
 have hor:o/2^(64*(p/64))|||2^(p%64)=o/2^(64*(p/64))+2^(p%64):=by rw [Nat.or_comm,or_add (p%64) _ _ (Nat.mod_self _) h1,Nat.add_comm]
 rw [tpow,e,Nat.add_mul_div_left _ _ hq]
 generalize o/2^(64*(p/64))=x at *
 generalize 2^(p%64)=y at *
 have m1:x%18446744073709551616=x:=Nat.mod_eq_of_lt oM
 have m2:1*y%18446744073709551616=y:=by rw [Nat.one_mul];exact Nat.mod_eq_of_lt oM
 have m3:(x+y)%18446744073709551616=x+y:=Nat.mod_eq_of_lt oM
 rw [m1,m2,m3,hor]
theorem numC_len (len n:Nat):(numC len n).length=len:=by simp [numC]
theorem numC_put {len n n' i v:Nat} (hi:i<len) (hv:v=pt n' i) (ho : ∀ k,k≠i→pt n' k=pt n k):(numC len n).take i++[.int .u64 (v:Int)]++(numC len n).drop (i+1)=numC len n':=by
 apply List.ext_getElem?
 intro k
 have hlen : ∀ m,(numC len m).length=len:=fun m=>by simp [numC]
 by_cases hk:k<len
 ·have e:(numC len n')[k]? = some (.int .u64 ((pt n' k:Nat):Int)):=by simp [numC,hk]
  have e2:(numC len n)[k]? = some (.int .u64 ((pt n k:Nat):Int)):=by simp [numC,hk]
  rw [e]
  rcases Nat.lt_trichotomy k i with h|h|h
  ·rw [List.append_assoc,List.getElem?_append_left (by rw [List.length_take,hlen];omega),List.getElem?_take,if_pos h,e2,ho k oM]
  ·subst h
   rw [List.append_assoc,List.getElem?_append_right (by rw [List.length_take,hlen];omega),List.length_take,hlen,show k-min k len=0 from by omega,hv];rfl
  ·rw [List.getElem?_append_right (by simp [hlen];omega),List.getElem?_drop,show i+1+(k-((numC len n).take i++[Value.int IntKind.u64 (v:Int)]).length)=k from by simp [hlen];omega,e2,ho k oM]
 ·rw [List.getElem?_eq_none (by simp [hlen];omega),List.getElem?_eq_none (by rw [hlen];omega)]
def sumP (l:List Nat):Nat:=(l.map fun p=>2^p).sum
theorem sumP_take (l:List Nat) (k:Nat) (h:k<l.length):sumP (l.take (k+1))=sumP (l.take k)+2^l[k]:=by
 rw [List.take_succ_eq_append_getElem h];simp only [sumP,List.map_append,List.sum_append,List.map_cons,List.map_nil,List.sum_cons,List.sum_nil,Nat.add_zero]
theorem sumP_lt (l:List Nat) : ∀ (k m:Nat),k≤l.length→(∀ i (h:i<l.length),i<k→l[i]<m)→l.Pairwise (· < ·)→sumP (l.take k)<2^m
 | 0,m,_,_,_=>Nat.pow_pos oE
 | k+1,m,hk,hm,hp=>by
  have h1:=sumP_lt l k l[k] oM (fun i hi hik=>List.pairwise_iff_getElem.1 hp i k hi oM hik) hp
  have h5:2^(l[k]+1)≤2^m:=Nat.pow_le_pow_right oE (hm k oM oM)
  rw [Nat.pow_succ] at h5
  rw [sumP_take l k oM]
  omega
theorem posL_lt (n i j:Nat):(posL n i j).Pairwise (· < ·):=List.Pairwise.filter _ (List.pairwise_lt_range')
theorem posL_mem {n i j k:Nat} (h:k∈posL n i j):i≤k∧k<j:=by
 have:=List.mem_filter.1 h
 have:=List.mem_range'.1 this.1
 omega
theorem posL_sum (n i d:Nat):sumP (posL n i (i+d))=n/2^i%2^d*2^i:=by
 induction d with
 | zero=>rw [Nat.add_zero,posL_self];simp [sumP,Nat.mod_one]
 | succ d ih =>
  have e:n/2^i%2^(d+1)=n/2^i%2^d+2^d*(n/2^(i+d)%2):=by
   rw [Nat.pow_succ,Nat.mod_mul,Nat.div_div_eq_div_mul,← Nat.pow_add]
  rw [← Nat.add_assoc,posL_succ n i (i+d) oM,e,Nat.add_mul,← ih]
  by_cases hb:n/2^(i+d)%2=1
  ·rw [if_pos hb,hb]
   simp [sumP,Nat.pow_add,Nat.mul_comm]
  ·rw [if_neg hb,show n/2^(i+d)%2=0 from by omega];simp
theorem sumP_map (l:List Nat) (n:Nat):sumP (l.map (· + n))=sumP l*2^n:=by
 induction l with
 | nil=>simp [sumP]
 | cons a l ih=>simp only [sumP,List.map_cons,List.sum_cons] at ih ⊢;rw [ih,Nat.pow_add,Nat.add_mul]
theorem bset_spec (n i j:Nat):Fn prog 223 [.agg (numC 4 n).toArray,.int .i64 (i:Int),.int .i64 (j:Int)] [] [] (fun u Φ' M' => ∃ b1 b2 b3,u = .func (.func 291) #[] #[.pointer (some ⟨b1,0,none⟩),.pointer (some ⟨b2,0,none⟩),.pointer (some ⟨b3,0,none⟩)]∧Φ'=[fBlk b1 [.int .i64 (i:Int)] 3,fBlk b2 [.int .i64 (j:Int)] 3,fBlk b3 (numC 4 n) 24]∧M'=[]):=by
 refine Fn.enter func223 rfl ntmps223 oI (fun I0 w0 => ?_)
 repeat refine st ?_;try intro
 rename_i b3 b1 b2
 refine o_func rfl rfl rfl rfl ?_
 repeat refine st ?_;try intro
 refine G.give b1 (cs:=[.int .i64 (i:Int)]) (t:=3) ?_
 refine G.give b2 (cs:=[.int .i64 (j:Int)]) (t:=3) ?_
 refine G.give b3 (cs:=numC 4 n) (t:=24) ?_
 exact G.ret rfl (.cons (.tmp rfl) .nil) (Φ':=[fBlk b1 [.int .i64 (i:Int)] 3,fBlk b2 [.int .i64 (j:Int)] 3,fBlk b3 (numC 4 n) 24]) (M':=[]) oY oN ⟨b1,b2,b3,rfl,rfl,rfl⟩
theorem numC_zero:numC 4 (sumP [])=[.int .u64 0,.int .u64 0,.int .u64 0,.int .u64 0]:=rfl
def shlW (by_ a:Word):Word := .nat (a.num*2^min by_.num 256)
def shrW (by_ a:Word):Word := .nat (a.num/2^min by_.num 256)
theorem shl_cut (b:Word) (n:Nat) (hn:n≤256):numC 4 (b.num%2^(256-n)*2^n)=numC 4 (b.num*2^n):=by
 have h:(Word.nat (b.num%2^(256-n)*2^n)).v=(Word.nat (b.num*2^n)).v:=by
  congr 1
  apply Word.nat_eq
  rw [← Nat.mul_mod_mul_right,← Nat.pow_add,show 256-n+n=256 from by omega,show (2:Nat)^256=top256 from by decide]
  exact Nat.mod_mod _ _
 rw [v_nat,v_nat] at h
 simpa using h
theorem sumP_sub (l:List Nat) (n:Nat) (h : ∀ x∈l,n≤x):sumP (l.map (· - n))*2^n=sumP l:=by
 induction l with
 | nil=>simp [sumP]
 | cons a l ih =>
  have:=ih (fun x hx=>h x (by simp [hx]))
  have ha:=h a oI
  simp only [sumP,List.map_cons,List.sum_cons] at this ⊢
  rw [Nat.add_mul,this,← Nat.pow_add,show a-n+n=a from by omega]
theorem shr_cut (b:Word) (n:Nat) (hn:n≤256):sumP ((posL b.num n 256).map (· - n))=b.num/2^n:=by
 have h:=sumP_sub (posL b.num n 256) n (fun x hx=>(posL_mem hx).1)
 rw [show posL b.num n 256=posL b.num n (n+(256-n)) from by rw [show n+(256-n)=256 from by omega],posL_sum] at h
 have hb:=b.num_lt
 have h2:b.num/2^n<2^(256-n):=(Nat.div_lt_iff_lt_mul (Nat.pow_pos oE)).2 (by rw [← Nat.pow_add,show 256-n+n=256 from by omega];exact hb)
 rw [Nat.mod_eq_of_lt h2] at h
 rw [show posL b.num n 256=posL b.num n (n+(256-n)) from by rw [show n+(256-n)=256 from by omega]]
 exact Nat.eq_of_mul_eq_mul_right (Nat.pow_pos oE) h
theorem bshl_spec (a b:Word):FnV prog 128 [a.v,b.v] [] (shlW a b).v:=by
 have hl:=limit_spec a 256 oE
 obtain ⟨n,hn⟩ : ∃ n,n=min a.num 256:=⟨_,rfl⟩
 have hn2:n≤256:=by omega
 have hs:=bset_spec b.num 0 (256-n)
 rw [v_num b]
 unfold shlW
 rw [← hn] at hl ⊢
 refine Fn.enter func128 rfl ntmps128 oI (fun I0 w0 => ?_)
 repeat refine st ?_;try intro
 refine cV hl ?_
 repeat refine st ?_;try intro
 rename_i b2 b3 b4 b5
 refine OpK.call rfl rfl rfl rfl hs oY (Mr:=_) oP ?_
 rintro u Φ' Mc' ⟨c1,c2,c3,rfl,rfl,rfl⟩
 refine nA ?_
 repeat refine st ?_;try intro
 refine W.rangeFunc (enc:=posE (posL b.num 0 (256-n))) (ps:=[13]) (Φi:=[fBlk c1 [.int .i64 0] 3,fBlk c2 [.int .i64 ((256-n:Nat):Int)] 3,fBlk c3 (numC 4 b.num) 24]) (Mr:=[(b3,_),(b2,_)]) (fun k=>([],[(b5,Ob [.int .i64 (n:Int)] 3),(b4,Ob (numC 4 (sumP (((posL b.num 0 (256-n)).map (· + n)).take k))) 24)])) (fun _ _=>False) rfl (set1_spec c1 c2 c3 b.num 0 (256-n) oM oM) oE (posE_one _) oY oY (by dsimp only [List.take_zero];rw [numC_zero];exact List.Perm.refl _) ?_ ?_ ?_
 ·intro l rec I0' w0' k hk
  have hk2:k<(posL b.num 0 (256-n)).length:=by simpa [posE] using hk
  have hm:=posL_mem (List.getElem_mem hk2)
  have hk3:k<((posL b.num 0 (256-n)).map (· + n)).length:=by simpa using hk2
  have hlt:=sumP_lt ((posL b.num 0 (256-n)).map (· + n)) k ((posL b.num 0 (256-n))[k]+n) oM (fun i hi hik=>by
   have h1:=List.pairwise_iff_getElem.1 (posL_lt b.num 0 (256-n)) i k (by simpa using hi) hk2 hik
   have h2:=posL_mem (List.getElem_mem (show i<(posL b.num 0 (256-n)).length by simpa using hi))
   simp only [List.getElem_map];omega) (by
    rw [List.pairwise_map]
    refine List.Pairwise.imp_of_mem (fun {x y} hx hy h => ?_) (posL_lt b.num 0 (256-n))
    have:=posL_mem hx;have:=posL_mem hy;omega)
  have hnx:=sumP_take ((posL b.num 0 (256-n)).map (· + n)) k hk3
  rw [List.getElem_map] at hnx
  have he:(posE (posL b.num 0 (256-n)))[k]=[.int .i64 ((posL b.num 0 (256-n))[k]:Int)]:=by simp [posE]
  dsimp only
  rw [he,hnx]
  generalize (posL b.num 0 (256-n))[k]=p at hm hlt ⊢
  generalize sumP (((posL b.num 0 (256-n)).map (· + n)).take k)=o at hlt ⊢
  show W _ _ _ _ ((13,.int .i64 (p:Int))::_) _
  repeat refine st ?_;try intro
  refine G.begin (by rfl) ?_
  repeat refine st ?_;try intro
  -- the bit is laid
  refine W.drawA 11 [dq _,dq _,dq _,dq _,dq _,dq _,dq _,dq _,dq _,dq _,dq _] [[],[],[0,1],[2],[3],[4],[],[],[6,7],[8],[9]] [3,5,10] (hrest:=fun c=>nrm ?_)
  repeat refine st ?_;try intro
  refine o_store (cs':=numC 4 (o+2^(p+n))) rfl rfl rfl rfl rfl (by rw [numC_len];show _+1≤4;omega) rfl (numC_put oM (bit_at hlt) (fun k hk => ?_)) ?_
  ·rcases Nat.lt_or_gt_of_ne hk with h|h
   ·exact bit_lo h
   ·exact bit_hi hlt h
  repeat refine st ?_;try intro
  exact G.roundEnd oY (Φ':=[]) (M'':=[_,_]) (.inl ⟨rfl,rfl,rfl⟩) oY oZ
 ·intro D
  rw [show (posE (posL b.num 0 (256-n))).length=((posL b.num 0 (256-n)).map (· + n)).length from by simp [posE],List.take_length,sumP_map,show posL b.num 0 (256-n)=posL b.num 0 (0+(256-n)) from by rw [Nat.zero_add],posL_sum,Nat.pow_zero,Nat.div_one,Nat.mul_one,shl_cut b n hn2]
  refine nA ?_
  repeat refine st ?_;try intro
  refine G.unmark oY ?_
  refine G.ret rfl (.cons (.cellA rfl rfl) .nil) (Φ':=[]) (M':=[]) oY oN ⟨?_,rfl,rfl⟩
  exact (v_nat _).symm
 ·intro D c s h
  exact h.elim
theorem bshr_spec (a b:Word):FnV prog 129 [a.v,b.v] [] (shrW a b).v:=by
 have hl:=limit_spec a 256 oE
 obtain ⟨n,hn⟩ : ∃ n,n=min a.num 256:=⟨_,rfl⟩
 have hn2:n≤256:=by omega
 have hs:=bset_spec b.num n 256
 rw [v_num b]
 unfold shrW
 rw [← hn] at hl ⊢
 refine Fn.enter func129 rfl ntmps129 oI (fun I0 w0 => ?_)
 repeat refine st ?_;try intro
 refine cV hl ?_
 repeat refine st ?_;try intro
 rename_i b2 b3 b4 b5
 refine OpK.call rfl rfl rfl rfl hs oY (Mr:=_) oP ?_
 rintro u Φ' Mc' ⟨c1,c2,c3,rfl,rfl,rfl⟩
 refine nA ?_
 repeat refine st ?_;try intro
 refine W.rangeFunc (enc:=posE (posL b.num n 256)) (ps:=[12]) (Φi:=[fBlk c1 [.int .i64 (n:Int)] 3,fBlk c2 [.int .i64 256] 3,fBlk c3 (numC 4 b.num) 24]) (Mr:=[(b3,_),(b2,_)]) (fun k=>([],[(b5,Ob [.int .i64 (n:Int)] 3),(b4,Ob (numC 4 (sumP (((posL b.num n 256).map (· - n)).take k))) 24)])) (fun _ _=>False) rfl (set1_spec c1 c2 c3 b.num n 256 oM oM) oE (posE_one _) oY oY (by dsimp only [List.take_zero];rw [numC_zero];exact List.Perm.refl _) ?_ ?_ ?_
 ·intro l rec I0' w0' k hk
  have hk2:k<(posL b.num n 256).length:=by simpa [posE] using hk
  have hm:=posL_mem (List.getElem_mem hk2)
  have hk3:k<((posL b.num n 256).map (· - n)).length:=by simpa using hk2
  have hlt:=sumP_lt ((posL b.num n 256).map (· - n)) k ((posL b.num n 256)[k]-n) oM (fun i hi hik=>by
   have h1:=List.pairwise_iff_getElem.1 (posL_lt b.num n 256) i k (by simpa using hi) hk2 hik
   have h2:=posL_mem (List.getElem_mem (show i<(posL b.num n 256).length by simpa using hi))
   simp only [List.getElem_map];omega) (by
    rw [List.pairwise_map]
    refine List.Pairwise.imp_of_mem (fun {x y} hx hy h => ?_) (posL_lt b.num n 256)
    have:=posL_mem hx;have:=posL_mem hy;omega)
  have hnx:=sumP_take ((posL b.num n 256).map (· - n)) k hk3
  rw [List.getElem_map] at hnx
  have he:(posE (posL b.num n 256))[k]=[.int .i64 ((posL b.num n 256)[k]:Int)]:=by simp [posE]
  dsimp only
  rw [he,hnx]
  generalize (posL b.num n 256)[k]=p at hm hlt ⊢
  generalize sumP (((posL b.num n 256).map (· - n)).take k)=o at hlt ⊢
  show W _ _ _ _ ((12,.int .i64 (p:Int))::_) _
  repeat refine st ?_;try intro
  refine G.begin (by rfl) ?_
  repeat refine st ?_;try intro
  -- the bit is laid
  refine W.drawA 11 [dq _,dq _,dq _,dq _,dq _,dq _,dq _,dq _,dq _,dq _,dq _] [[],[],[0,1],[2],[3],[4],[],[],[6,7],[8],[9]] [3,5,10] (hrest:=fun c=>nrm ?_)
  repeat refine st ?_;try intro
  refine o_store (cs':=numC 4 (o+2^(p-n))) rfl rfl rfl rfl rfl (by rw [numC_len];show _+1≤4;omega) rfl (numC_put oM (bit_at hlt) (fun k hk => ?_)) ?_
  ·rcases Nat.lt_or_gt_of_ne hk with h|h
   ·exact bit_lo h
   ·exact bit_hi hlt h
  repeat refine st ?_;try intro
  exact G.roundEnd oY (Φ':=[]) (M'':=[_,_]) (.inl ⟨rfl,rfl,rfl⟩) oY oZ
 ·intro D
  rw [show (posE (posL b.num n 256)).length=((posL b.num n 256).map (· - n)).length from by simp [posE],List.take_length,shr_cut b n hn2]
  refine nA ?_
  repeat refine st ?_;try intro
  refine G.unmark oY ?_
  refine G.ret rfl (.cons (.cellA rfl rfl) .nil) (Φ':=[]) (M':=[]) oY oN ⟨?_,rfl,rfl⟩
  exact (v_nat _).symm
 ·intro D c s h
  exact h.elim
end Go.Rail
