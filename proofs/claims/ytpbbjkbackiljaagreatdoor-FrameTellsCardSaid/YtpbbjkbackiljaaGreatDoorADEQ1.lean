/- The document's opcodes that work on the stack alone: Is, Do. -/
import Derived.Test.YtpbbjkbackiljaaGreatDoorRailA
import Derived.Test.YtpbbjkbackiljaaGreatDoorRailI
import Derived.Test.YtpbbjkbackiljaaGreatDoorADCDD
import Derived.Test.YtpbbjkbackiljaaGreatDoorAD2K1
set_option linter.unusedSimpArgs false
set_option linter.unusedVariables false
namespace Go.Rail
open Go Go.Proofs Tryz
set_option maxHeartbeats 400000
set_option maxRecDepth 4000
attribute [local irreducible] OpK G W LW wpListIn Exit.then Exit.inBlock Post rounds opRun bodyPostM intOp
set_option maxHeartbeats 16000000
set_option maxRecDepth 20000
attribute [local irreducible] lexN cmpW Word.nat subW mulW addW divW modW sdivW smodW addmodW mulmodW expW andW orW xorW notW shlW shrW sarW byteW signW lessW Word.num
def isI (n:Nat):Bool:=decide (1≤n∧n≤11∨16≤n∧n≤29∨n=80∨128≤n∧n≤159)
theorem isI_eq (n:Nat) (hn:n<256):isC n=isI n:=by
 have h1:((List.range 256).all fun k=>isC k==isI k)=true:=by kernel_rfl
 have:=List.all_eq_true.1 h1 n (by simpa using hn)
 simpa using this
theorem is16_spec (n:Nat) (hn:n<256):FnV prog 32 [.int .u8 (n:Int)] [] (.bool (isC n)):=by
 rw [isI_eq n hn]
 obtain h|h|h|h|h|h|h|h:n=0∨(1≤n∧n≤11)∨(12≤n∧n≤15)∨(16≤n∧n≤29)∨(30≤n∧n≤127∧n≠80)∨n=80∨(128≤n∧n≤159)∨160≤n:=by omega
 all_goals
  refine Fn.enter func32 rfl ntmps32 oI (fun I0 w0 => ?_)
  repeat refine sq ?_;try intro
  refine G.retV ?_
  first
   | (rw [show isI n=true from decide_eq_true oM];rfl)
   | (rw [show isI n=false from decide_eq_false oM];rfl)
theorem made_sums : ∀ e∈sumsL,∀ l:List Word,madeL e.1 l=[e.2 (l.getD 0 .zero) (l.getD 1 .zero) (l.getD 2 .zero)]:=by
 simp only [sumsL,List.forall_mem_cons]
 refine ⟨?_,?_,?_,?_,?_,?_,?_,?_,?_,?_,?_,fun _ h=>by cases h⟩<;>exact fun l=>rfl
theorem made_bits : ∀ e∈bitsL,∀ l:List Word,madeL e.1 l=[e.2 (l.getD 0 .zero) (l.getD 1 .zero)]:=by
 simp only [bitsL,List.forall_mem_cons]
 refine ⟨?_,?_,?_,?_,?_,?_,?_,?_,?_,?_,?_,?_,?_,?_,fun _ h=>by cases h⟩<;>exact fun l=>rfl
theorem which_all:((List.range 128).all fun n => !(isC n)||Nat.beq n 80||(if Nat.ble n 11 then sumsL.any (fun e=>Nat.beq e.1 n) else bitsL.any (fun e=>Nat.beq e.1 n))&&Nat.ble 1 (popsN n))=true:=by kernel_rfl
theorem which (n:Nat) (hn:n<128) (h:isC n=true) (h80:n≠80):1≤popsN n∧(n≤11 → ∃ e∈sumsL,e.1=n)∧(11<n → ∃ e∈bitsL,e.1=n):=by
 have:=List.all_eq_true.1 which_all n (by simpa using hn)
 have hb:Nat.beq n 80=false:=by
  cases hb:Nat.beq n 80 with
  | false=>rfl
  | true=>exact absurd (Nat.eq_of_beq_eq_true hb) h80
 rw [h,hb] at this
 simp only [Bool.not_true,Bool.false_or,Bool.and_eq_true,Nat.ble_eq] at this
 refine ⟨this.2,fun h1 => ?_,fun h1 => ?_⟩
 ·rw [if_pos h1] at this
  obtain ⟨e,he,h2⟩:=List.any_eq_true.1 this.1
  exact ⟨e,he,Nat.eq_of_beq_eq_true h2⟩
 ·rw [if_neg oM] at this
  obtain ⟨e,he,h2⟩:=List.any_eq_true.1 this.1
  exact ⟨e,he,Nat.eq_of_beq_eq_true h2⟩
theorem get_two (l:List Word) (i:Nat) (h:i<(l++[Word.zero,Word.zero]).length):(l++[Word.zero,Word.zero])[i]? = some (l.getD i .zero):=by
 rw [List.getElem?_eq_getElem h]
 congr 1
 by_cases hi:i<l.length
 ·rw [List.getElem_append_left hi,List.getD_eq_getElem?_getD,List.getElem?_eq_getElem hi];rfl
 ·rw [List.getElem_append_right oM,List.getD_eq_getElem?_getD,List.getElem?_eq_none oM]
  simp only [List.length_append,List.length_cons,List.length_nil] at h
  obtain h1|h1:i-l.length=0∨i-l.length=1:=by omega
  ·simp only [h1];rfl
  ·simp only [h1];rfl
theorem sub_le1 {a b:Nat} (h1:1≤b) (h2:a≤1024) (h3:b≤a):a-b+1≤1024:=by omega
theorem push_one {rest:List Word} (x:Word) (h:rest.length+1≤1024):pushL rest [x]=(rest++[x],0):=by
 unfold pushL
 rw [if_neg oM,if_neg oX]
theorem do16_spec (n:Nat) (hn:n<256) (v:Value) (s:List Word) (hs:s.length≤100000):Fn prog 75 [.int .u8 (n:Int),v] [fRp v s] [] (RD (doC n s).2 (doC n s).1):=by
 have hi:=is16_spec n hn
 unfold doC
 refine Fn.enter func75 rfl ntmps75 oI (fun I0 w0 => ?_)
 refine W.bare (G.slice v s ?_);intro a1 c1 e1 k1;subst e1
 refine G.code ?_
 repeat refine sq ?_;try intro
 refine o_app2 (α:=Word) (Mr:=[]) none (xs:=[]) (ys:=s) ⟨rfl,rfl⟩ ⟨by simp;omega,by simp;omega,rfl⟩ rfl rfl rfl rfl (show Ent' _ (fRow [] ([]:List Word)) from oY) oY oP ?_
 intro w o ho
 rw [List.nil_append] at ho ⊢
 dsimp only [List.nil_append]
 refine G.giveOwn2 (Mr:=[]) w s o 49 ho oY oP ?_
 cases hc:isC n with
 | false =>
  rw [hc] at hi
  rw [if_pos rfl]
  repeat refine sq ?_;try intro
  refine cV hi ?_
  repeat refine sq ?_;try intro
  exact G.ret rfl (.cons (.tmp rfl) (.cons (.tmp rfl) .nil)) (Φ':=[fRp w s]) (M':=[]) oY oN ⟨_,rfl,rfl,rfl⟩
 | true =>
 rw [hc] at hi
 rw [if_neg oE]
 by_cases h1:1024<s.length
 ·rw [if_pos h1]
  repeat refine sq ?_;try intro
  refine cV hi ?_
  repeat refine sq ?_;try intro
  exact G.ret rfl (.cons (.tmp rfl) (.cons (.tmp rfl) .nil)) (Φ':=[fRp w s]) (M':=[]) oY oN ⟨_,rfl,rfl,rfl⟩
 rw [if_neg h1]
 by_cases h2:144≤n
 ·rw [if_pos h2]
  have hsw:=swap13_spec (.slice a1 s.length c1) s (n-143) oM hs
  generalize (swapL s (n-143)).1=r at hsw ⊢
  generalize (swapL s (n-143)).2=e at hsw ⊢
  repeat refine sq ?_;try intro
  refine cV hi ?_
  repeat refine sq ?_;try intro
  refine OpK.call rfl rfl rfl rfl hsw oY (Mr:=_) oP ?_
  rintro u Φ' Mc' ⟨sv,rfl,rfl,rfl⟩
  refine nA ?_
  unfold tupD
  repeat refine sq ?_;try intro
  exact G.ret rfl (.cons (.tmp rfl) (.cons (.tmp rfl) .nil)) (Φ':=[fRp sv _]) (M':=[]) oY oN ⟨_,rfl,rfl,rfl⟩
 rw [if_neg h2]
 by_cases h3:128≤n
 ·rw [if_pos h3]
  have hsw:=dup13_spec (.slice a1 s.length c1) s (n-127) oM hs
  generalize (dupL s (n-127)).1=r at hsw ⊢
  generalize (dupL s (n-127)).2=e at hsw ⊢
  repeat refine sq ?_;try intro
  refine cV hi ?_
  repeat refine sq ?_;try intro
  refine OpK.call rfl rfl rfl rfl hsw oY (Mr:=_) oP ?_
  rintro u Φ' Mc' ⟨sv,rfl,rfl,rfl⟩
  refine nA ?_
  unfold tupD
  repeat refine sq ?_;try intro
  exact G.ret rfl (.cons (.tmp rfl) (.cons (.tmp rfl) .nil)) (Φ':=[fRp sv _]) (M':=[]) oY oN ⟨_,rfl,rfl,rfl⟩
 rw [if_neg h3]
 obtain ⟨p1,-,-,-⟩:=pops_ok n oM hc
 have hin:=rinfo_spec n hn
 have hpop:=pop13_spec (.slice a1 s.length c1) s (popsN n) oM hs
 unfold infoV rowV at hin
 rw [show ((infoN n).getD noRow).pops=popsN n from rfl] at hin
 by_cases h4:(popL s (popsN n)).2.2=0
 ·rw [if_neg (by simpa using h4)]
  obtain ⟨q1,q2,q3⟩:=popL_ok h4
  have hlen:(popL s (popsN n)).2.1.length=popsN n:=by rw [q2];simp;omega
  have hlen1:(popL s (popsN n)).1.length=s.length-popsN n:=by rw [q1,List.length_take];omega
  rw [h4] at hpop
  generalize (popL s (popsN n)).1=rest at hpop hlen1 ⊢
  generalize (popL s (popsN n)).2.1=l at hpop hlen ⊢
  by_cases h80:n=80
  ·subst h80
   have hm:madeL 80 l=[]:=rfl
   have e:pushL rest []=(rest,0):=by
    unfold pushL
    rw [if_neg oM,if_neg oX,List.append_nil]
   rw [hm,e]
   generalize popsN 80=p at hin hpop
   repeat refine sq ?_;try intro
   refine cV hi ?_
   repeat refine sq ?_;try intro
   refine cV hin ?_
   repeat refine sq ?_;try intro
   rename_i b7
   refine OpK.call rfl rfl rfl rfl hpop oY (Mr:=_) oP ?_
   rintro u Φ' Mc' ⟨v1,v2,o1,o2,rfl,ho1,ho2,rfl,rfl⟩
   refine nA ?_
   refine G.perm ?_ (List.perm_append_singleton _ _)
   refine G.drop b7 ?_
   refine G.giveOwn2 (Mr:=ownM 49 o2) v1 rest o1 49 ho1 oY oH ?_
   repeat refine sq ?_;try intro
   exact G.ret rfl (.cons (.tmp rfl) (.cons (.tmp rfl) .nil)) (Φ':=[fRp v1 rest]) (M':=[]) oY oN ⟨_,rfl,rfl,rfl⟩
  ·obtain ⟨w1,w2,w3⟩:=which n oM hc h80
   have hr8:rest.length+1≤1024:=by
    rw [hlen1]
    exact sub_le1 w1 (Nat.le_of_not_lt h1) q3
   have e : ∀ x,pushL rest [x]=(rest++[x],0):=fun x=>push_one x hr8
   have hl7:l.length≤7:=by rw [hlen];exact p1
   have hl1:1≤l.length:=by rw [hlen];exact w1
   have hr7:rest.length≤1024:=Nat.le_of_succ_le hr8
   clear hlen1 q1 q2 q3 hlen w1
   have g0:=get_two l 0 oI
   have g1:=get_two l 1 oI
   have g2:=get_two l 2 oX
   by_cases h11:n≤11
   ·obtain ⟨q,hq1,hq2⟩:=w2 h11
    have hsu:=sums_spec q hq1 (l.getD 0 .zero) (l.getD 1 .zero) (l.getD 2 .zero)
    have hm:=made_sums q hq1 l
    rw [hq2] at hsu hm
    rw [hm,e]
    generalize q.2 (l.getD 0 .zero) (l.getD 1 .zero) (l.getD 2 .zero)=x at hsu ⊢
    clear hm
    generalize l.getD 0 .zero=x0 at g0 hsu
    generalize l.getD 1 .zero=x1 at g1 hsu
    generalize l.getD 2 .zero=x2 at g2 hsu
    generalize popsN n=p at hin hpop
    repeat refine sq ?_;try intro
    refine cV hi ?_
    repeat refine sq ?_;try intro
    refine cV hin ?_
    repeat refine sq ?_;try intro
    rename_i b7
    refine OpK.call rfl rfl rfl rfl hpop oY (Mr:=_) oP ?_
    rintro u Φ' Mc' ⟨v1,v2,o1,o2,rfl,ho1,ho2,rfl,rfl⟩
    refine nA ?_
    refine G.perm ?_ (List.perm_append_singleton _ _)
    refine G.drop b7 ?_
    repeat refine sq ?_;try intro
    refine o_app2 (α:=Word) (Mr:=ownM 49 o1) o2 (xs:=l) (ys:=[Word.zero,Word.zero]) ho2 ⟨by simp;omega,by simp;omega,rfl⟩ rfl rfl rfl rfl oY oY oP ?_
    intro v3 o3 ho3
    refine G.giveOwn2 (Mr:=ownM 49 o1) v3 (l++[Word.zero,Word.zero]) o3 49 ho3 oY oP ?_
    repeat refine sq ?_;try intro
    refine W.drawA 13 [dq _,dq _,dq _,dk _,dq _,dq _,dk _,dq _,dq _,dk _,dq _,dq _,dk _] [[],[],[],[2],[3],[],[5],[6],[],[8],[9],[1,4,7,10],[11]] [0,12] (hrest:=fun c=>nrm ?_) (hops:=by
     iterate 3 refine AllQ.az ?_
     refine AllQ.mk (by intro c z0 Φr Lr K;refine nrm ?_;intro hK;refine o_idxG 0 x0 rfl rfl rfl rfl rfl g0 ?_;exact hK) ?_
     iterate 2 refine AllQ.az ?_
     refine AllQ.mk (by intro c z0 Φr Lr K;refine nrm ?_;intro hK;refine o_idxG 1 x1 rfl rfl rfl rfl rfl g1 ?_;exact hK) ?_
     iterate 2 refine AllQ.az ?_
     refine AllQ.mk (by intro c z0 Φr Lr K;refine nrm ?_;intro hK;refine o_idxG 2 x2 rfl rfl rfl rfl rfl g2 ?_;exact hK) ?_
     iterate 1 refine AllQ.az ?_
     refine AllQ.mk (by intro c z0 Φr Lr K;refine nrm ?_;intro hK;refine cV hsu ?_;exact hK z0) ?_
     iterate 1 refine AllQ.az ?_
     exact AllQ.nil)
    refine LW.cons ?_
    refine o_app2 (α:=Word) (Mr:=[]) o1 (xs:=rest) (ys:=[x]) ho1 ⟨by simp;omega,by simp;omega,rfl⟩ rfl rfl rfl rfl oY oY oP ?_
    intro v4 o4 ho4
    refine G.giveOwn2 (Mr:=[]) v4 (rest++[x]) o4 49 ho4 oY oP ?_
    repeat refine sq ?_;try intro
    exact G.ret rfl (.cons (.tmp rfl) (.cons (.tmp rfl) .nil)) (Φ':=[fRp v4 (rest++[x])]) (M':=[]) oY oN ⟨_,rfl,rfl,rfl⟩
   ·obtain ⟨q,hq1,hq2⟩:=w3 oM
    have hsu:=bits16_spec q hq1 (l.getD 0 .zero) (l.getD 1 .zero)
    have hm:=made_bits q hq1 l
    rw [hq2] at hsu hm
    rw [hm,e]
    generalize q.2 (l.getD 0 .zero) (l.getD 1 .zero)=x at hsu ⊢
    clear hm
    generalize l.getD 0 .zero=x0 at g0 hsu
    generalize l.getD 1 .zero=x1 at g1 hsu
    generalize popsN n=p at hin hpop
    repeat refine sq ?_;try intro
    refine cV hi ?_
    repeat refine sq ?_;try intro
    refine cV hin ?_
    repeat refine sq ?_;try intro
    rename_i b7
    refine OpK.call rfl rfl rfl rfl hpop oY (Mr:=_) oP ?_
    rintro u Φ' Mc' ⟨v1,v2,o1,o2,rfl,ho1,ho2,rfl,rfl⟩
    refine nA ?_
    refine G.perm ?_ (List.perm_append_singleton _ _)
    refine G.drop b7 ?_
    repeat refine sq ?_;try intro
    refine o_app2 (α:=Word) (Mr:=ownM 49 o1) o2 (xs:=l) (ys:=[Word.zero,Word.zero]) ho2 ⟨by simp;omega,by simp;omega,rfl⟩ rfl rfl rfl rfl oY oY oP ?_
    intro v3 o3 ho3
    refine G.giveOwn2 (Mr:=ownM 49 o1) v3 (l++[Word.zero,Word.zero]) o3 49 ho3 oY oP ?_
    repeat refine sq ?_;try intro
    refine W.drawA 10 [dq _,dq _,dq _,dk _,dq _,dq _,dk _,dq _,dq _,dk _] [[],[],[],[2],[3],[],[5],[6],[1,4,7],[8]] [0,9] (hrest:=fun c=>nrm ?_) (hops:=by
     iterate 3 refine AllQ.az ?_
     refine AllQ.mk (by intro c z0 Φr Lr K;refine nrm ?_;intro hK;refine o_idxG 0 x0 rfl rfl rfl rfl rfl g0 ?_;exact hK) ?_
     iterate 2 refine AllQ.az ?_
     refine AllQ.mk (by intro c z0 Φr Lr K;refine nrm ?_;intro hK;refine o_idxG 1 x1 rfl rfl rfl rfl rfl g1 ?_;exact hK) ?_
     iterate 1 refine AllQ.az ?_
     refine AllQ.mk (by intro c z0 Φr Lr K;refine nrm ?_;intro hK;refine cV hsu ?_;exact hK z0) ?_
     iterate 1 refine AllQ.az ?_
     exact AllQ.nil)
    refine LW.cons ?_
    refine o_app2 (α:=Word) (Mr:=[]) o1 (xs:=rest) (ys:=[x]) ho1 ⟨by simp;omega,by simp;omega,rfl⟩ rfl rfl rfl rfl oY oY oP ?_
    intro v4 o4 ho4
    refine G.giveOwn2 (Mr:=[]) v4 (rest++[x]) o4 49 ho4 oY oP ?_
    repeat refine sq ?_;try intro
    exact G.ret rfl (.cons (.tmp rfl) (.cons (.tmp rfl) .nil)) (Φ':=[fRp v4 (rest++[x])]) (M':=[]) oY oN ⟨_,rfl,rfl,rfl⟩
 ·rw [if_pos h4]
  generalize (popL s (popsN n)).1=rest at hpop ⊢
  generalize (popL s (popsN n)).2.1=l at hpop
  generalize (popL s (popsN n)).2.2=e at h4 hpop ⊢
  generalize popsN n=p at hin hpop
  repeat refine sq ?_;try intro
  refine cV hi ?_
  repeat refine sq ?_;try intro
  refine cV hin ?_
  repeat refine sq ?_;try intro
  rename_i b7
  refine OpK.call rfl rfl rfl rfl hpop oY (Mr:=_) oP ?_
  rintro u Φ' Mc' ⟨v1,v2,o1,o2,rfl,ho1,ho2,rfl,rfl⟩
  refine nA ?_
  refine G.perm ?_ (List.perm_append_singleton _ _)
  refine G.drop b7 ?_
  refine G.giveOwn2 (Mr:=ownM 49 o2) v1 rest o1 49 ho1 oY oH ?_
  repeat refine sq ?_;try intro
  exact G.ret rfl (.cons (.tmp rfl) (.cons (.tmp rfl) .nil)) (Φ':=[fRp v1 rest]) (M':=[]) oY oN ⟨_,rfl,rfl,rfl⟩
end Go.Rail
namespace Go.Rail
open Go Go.Proofs Tryz
set_option maxHeartbeats 400000
set_option maxRecDepth 4000
attribute [local irreducible] OpK G W LW wpListIn Exit.then Exit.inBlock Post rounds opRun bodyPostM intOp
set_option maxHeartbeats 2000000
def pdS (d:List UInt8) (k:Nat):List UInt8:=(List.range k).map fun j=>d.getD j 0
theorem pdS_succ (d:List UInt8) (k:Nat):pdS d (k+1)=pdS d k++[d.getD k 0]:=by
 unfold pdS
 rw [List.range_succ,List.map_append]
 rfl
theorem pdS_len (d:List UInt8) (k:Nat):(pdS d k).length=k:=by simp [pdS]
theorem pdS_eq (d:List UInt8) (k:Nat):pdS d k=d.take k++List.replicate (k-(d.take k).length) 0:=by
 apply List.ext_getElem?
 intro i
 unfold pdS
 rw [List.getElem?_map,List.length_take]
 by_cases hi:i<k
 ·rw [List.getElem?_range hi]
  by_cases hd:i<d.length
  ·rw [List.getElem?_append_left (by rw [List.length_take];omega),List.getElem?_take,if_pos hi,List.getElem?_eq_getElem hd]
   simp [List.getD_eq_getElem?_getD,List.getElem?_eq_getElem hd]
  ·rw [List.getElem?_append_right (by rw [List.length_take];omega),List.length_take,List.getElem?_replicate,if_pos oM]
   simp [List.getD_eq_getElem?_getD,List.getElem?_eq_none (show d.length≤i by omega)]
 ·rw [List.getElem?_eq_none (by rw [List.length_range];omega),List.getElem?_eq_none (by rw [List.length_append,List.length_take,List.length_replicate];omega)]
  rfl
theorem rpush14_spec (l:List UInt8) (p m:Nat) (hl:l.length≤1000000) (hp:p<l.length) (hm:m≤32):FnV prog 25 [.string (ba l),.int .i64 (p:Int),.int .i64 (m:Int)] [] (opushL l (p:Int) (m:Int)).v:=by
 unfold opushL
 by_cases h1:m=0
 ·subst h1
  rw [if_pos (.inl oE)]
  refine Fn.enter func25 rfl ntmps25 oI (fun I0 w0 => ?_)
  repeat refine sq ?_;try intro
  refine G.retV ?_
  rfl
 rw [if_neg oM,Int.toNat_natCast,Int.toNat_natCast,← pdS_eq]
 obtain ⟨d,hd⟩ : ∃ d,d=l.drop (p+1):=⟨_,rfl⟩
 rw [← hd]
 have hdl:d.length=l.length-(p+1):=by rw [hd];exact List.length_drop ..
 have hfb:=rfb_spec (pdS d m) (by rw [pdS_len];omega)
 refine Fn.enter func25 rfl ntmps25 oI (fun I0 w0 => ?_)
 repeat refine sq ?_;try intro
 rename_i b6
 refine W.lp (S:=Nat) (fun k=>([],[(8,.int .i64 ((k+1:Nat):Int)),(7,.string (ba (pdS d k))),(6,.pointer (some ⟨b6,0,none⟩)),(2,.int .i64 (m:Int)),(1,.int .i64 (p:Int)),(0,.string (ba l))],[(b6,Ob Word.zero.cells 49)])) (fun k=>k≤m) (fun k=>m-k) 0 ?_ (h0:=Nat.zero_le _)
 intro k hk
 dsimp only at hk ⊢
 have hkl:=pdS_len d k
 by_cases hkm:k=m
 ·subst hkm
  repeat refine sq ?_;try intro
  refine cV hfb ?_
  repeat refine sq ?_;try intro
  refine G.retV ?_
  rfl
 ·have hst:=pdS_succ d k
  by_cases hin:p+1+k<l.length
  ·have e:(l.take (p+(k+1)+1)).drop (p+(k+1))=[d.getD k 0]:=by
    rw [List.drop_take,show p+(k+1)+1-(p+(k+1))=1 from by omega,show p+(k+1)=(p+1)+k from by omega,← List.drop_drop,← hd]
    rw [List.drop_eq_getElem_cons (show k<d.length by omega),List.take_succ_cons,List.take_zero]
    simp [List.getD_eq_getElem?_getD,List.getElem?_eq_getElem (show k<d.length by omega)]
   repeat refine sq ?_;try intro
   rw [e]
   rw [← hst]
   exact G.ag (S:=Nat) (k+1) (hpre:=by show k+1≤m;omega)
  ·have hz:d.getD k 0=0:=by rw [List.getD_eq_getElem?_getD,List.getElem?_eq_none oM];rfl
   rw [hz] at hst
   repeat refine sq ?_;try intro
   rw [show pdS d k++[0]=pdS d (k+1) from hst.symm]
   exact G.ag (S:=Nat) (k+1) (hpre:=by show k+1≤m;omega)
end Go.Rail
