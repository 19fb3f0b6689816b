/- Codes parted, and their lines: what is plain of layer 14. -/
import Derived.Test.YtjhdodkagchhkaaGreatDoorRailA
import Derived.Test.YtjhdodkagchhkaaGreatDoorAF0BE
set_option linter.unusedSimpArgs false
set_option linter.unusedVariables false
namespace Go.Rail
open Go Go.Proofs
set_option maxHeartbeats 4000000
abbrev Chk:=UInt8 × List UInt8
def chkF:Nat→List UInt8→List Chk
 | 0,_=>[]
 | _+1,[]=>[]
 | f+1,o::r=>(o,r.take (behN o.toNat))::chkF f (r.drop (behN o.toNat))
def chk (l:List UInt8):List Chk:=chkF l.length l
def bytC (p:Chk):List UInt8:=p.1::p.2
def bytesC (cs:List Chk):List UInt8:=cs.flatMap bytC
def linC (p:Chk):List UInt8:=nameL p.1++(if 0<behN p.1.toNat then [32]++([48,120]++hexL p.2) else [])
theorem chkF_fuel : ∀ (f g:Nat) (l:List UInt8),l.length≤f→l.length≤g→chkF f l=chkF g l
 | 0,g,l,hf,_=>by
  have:l=[]:=List.length_eq_zero_iff.1 oM
  subst this;cases g<;>rfl
 | f+1,0,l,_,hg=>by
  have:l=[]:=List.length_eq_zero_iff.1 oM
  subst this;rfl
 | f+1,g+1,[],_,_=>rfl
 | f+1,g+1,o::r,hf,hg=>by
  rw [List.length_cons] at hf hg
  unfold chkF
  rw [chkF_fuel f g _ (by rw [List.length_drop];omega) (by rw [List.length_drop];omega)]
theorem chk_nil:chk []=[]:=rfl
theorem chk_cons (o:UInt8) (r:List UInt8):chk (o::r)=(o,r.take (behN o.toNat))::chk (r.drop (behN o.toNat)):=by
 show chkF (r.length+1) (o::r)=_
 unfold chkF
 rw [chk,chkF_fuel r.length _ _ (by rw [List.length_drop];omega) (Nat.le_refl _)]
theorem chk_ind {p:List UInt8→Prop} (h0:p []) (h1 : ∀ o r,p (r.drop (behN o.toNat))→p (o::r)) : ∀ l,p l:=by
 have h : ∀ n,∀ l:List UInt8,l.length≤n→p l:=by
  intro n
  induction n with
  | zero=>intro l hl;rw [List.length_eq_zero_iff.1 (by omega:l.length=0)];exact h0
  | succ n ih =>
   intro l hl
   cases l with
   | nil=>exact h0
   | cons o r=>exact h1 o r (ih _ (by rw [List.length_drop];rw [List.length_cons] at hl;omega))
 exact fun l=>h l.length l (Nat.le_refl _)
theorem chk_bytes (l:List UInt8):bytesC (chk l)=l:=by
 refine chk_ind (p:=fun l=>bytesC (chk l)=l) rfl ?_ l
 intro o r ih
 show bytesC (chk (o::r))=o::r
 rw [chk_cons,bytesC,List.flatMap_cons]
 show (o::r.take _)++bytesC (chk (r.drop _))=_
 rw [ih,List.cons_append,List.take_append_drop]
theorem chk_good (l:List UInt8) : ∀ (i:Nat) (p:Chk),(chk l)[i]? = some p→p.2.length≤behN p.1.toNat∧(i+1<(chk l).length→p.2.length=behN p.1.toNat):=by
 refine chk_ind (p:=fun l => ∀ (i:Nat) (p:Chk),(chk l)[i]? = some p→p.2.length≤behN p.1.toNat∧(i+1<(chk l).length→p.2.length=behN p.1.toNat)) ?_ ?_ l
 ·intro i p h;simp [chk_nil] at h
 ·intro o r ih i p h
  rw [chk_cons] at h ⊢
  cases i with
  | zero =>
   simp only [List.getElem?_cons_zero,Option.some.injEq] at h
   subst h
   dsimp only
   refine ⟨by rw [List.length_take];omega,fun h2 => ?_⟩
   rw [List.length_cons] at h2
   rw [List.length_take]
   by_cases hn:behN o.toNat≤r.length
   ·omega
   ·rw [List.drop_eq_nil_of_le oM,chk_nil] at h2
    simp at h2
  | succ i =>
   rw [List.getElem?_cons_succ] at h
   obtain ⟨h1,h2⟩:=ih i p h
   refine ⟨h1,fun h3=>h2 ?_⟩
   rw [List.length_cons] at h3;omega
theorem tailB_eq (l:List UInt8) (p n:Nat):tailB l p n=(l.drop (p+1)).take n:=by
 apply List.ext_getElem?
 intro i
 rw [tailB,List.getElem?_drop,List.getElem?_take,List.getElem?_take,List.getElem?_drop]
 by_cases h:i<n
 ·rw [if_pos h]
  by_cases h2:p+1+i<l.length
  ·rw [if_pos oM]
  ·rw [List.getElem?_eq_none oM];split<;>rfl
 ·rw [if_neg h,if_neg oM]
theorem plcF_chk (l:List UInt8) : ∀ f p,l.length≤f+p→(plcF l f p).flatMap (txE l)=(chk (l.drop p)).flatMap (fun c=>linC c++[10])
 | 0,p,h=>by rw [List.drop_eq_nil_of_le oM];rfl
 | f+1,p,h=>by
  by_cases hp:p<l.length
  ·have e:l.drop p=l.getD p 0::l.drop (p+1):=by
    rw [List.drop_eq_getElem_cons hp,List.getD_eq_getElem?_getD,List.getElem?_eq_getElem hp];rfl
   unfold plcF
   rw [if_pos hp,List.flatMap_cons,plcF_chk l f _ oM,e,chk_cons,List.flatMap_cons,List.drop_drop,← tailB_eq]
   congr 1
   rw [txE,linC,List.append_assoc]
  ·rw [plcF_done oM,List.drop_eq_nil_of_le oM];rfl
def lns (cs:List Chk):List UInt8:=cs.flatMap fun c=>linC c++[10]
theorem txL_chk (l:List UInt8):txL l=lns (chk l):=plcF_chk l l.length 0 oM
theorem nameL_clean_all:((List.range 256).all fun n=>(nameL (UInt8.ofNat n)).all fun b=>decide (b≠10∧b≠32))=true:=by kernel_rfl
theorem nameL_clean (ch:UInt8) : ∀ b∈nameL ch,b≠10∧b≠32:=by
 have h:=List.all_eq_true.1 nameL_clean_all ch.toNat (List.mem_range.2 ch.toNat_lt)
 rw [UInt8.ofNat_toNat] at h
 exact fun b hb=>of_decide_eq_true (List.all_eq_true.1 h b hb)
theorem hx1_clean (n:Nat):hx1 n≠10:=by
 by_cases h:n<16
 ·revert n
  exact of_decide_eq_true kR
 ·unfold hx1
  rw [List.getD_eq_getElem?_getD,List.getElem?_eq_none (by show 16≤n;omega)]
  decide
theorem hexL_clean (l:List UInt8) : ∀ b∈hexL l,b≠10:=by
 intro b hb
 obtain ⟨a,_,ha⟩:=List.mem_flatMap.1 hb
 rcases List.mem_cons.1 ha with rfl|ha
 ·exact hx1_clean _
 ·rcases List.mem_cons.1 ha with rfl|ha
  ·exact hx1_clean _
  ·cases ha
theorem linC_clean (p:Chk) : ∀ b∈linC p,b≠10:=by
 intro b hb
 rcases List.mem_append.1 hb with hb|hb
 ·exact (nameL_clean _ b hb).1
 ·split at hb
  ·rcases List.mem_append.1 hb with hb|hb
   ·rw [List.mem_singleton.1 hb];decide
   ·rcases List.mem_append.1 hb with hb|hb
    ·rcases List.mem_cons.1 hb with rfl|hb
     ·decide
     ·rw [List.mem_singleton.1 hb];decide
    ·exact hexL_clean _ b hb
  ·cases hb
theorem splitB_app (q:UInt8) (r:List UInt8) : ∀ a:List UInt8,(∀ b∈a,b≠q)→splitB q (a++q::r)=a::splitB q r
 | [],_=>by
  rw [List.nil_append]
  conv=>lhs;unfold splitB
  rw [if_pos rfl]
 | x::a,h=>by
  rw [List.cons_append]
  conv=>lhs;unfold splitB
  rw [if_neg (h x (.head _)),splitB_app q r a (fun b hb=>h b (.tail _ hb))]
theorem splitB_flat (L:List (List UInt8)) (h : ∀ a∈L,∀ b∈a,b≠10) (r:List UInt8):splitB 10 (L.flatMap (fun a=>a++[10])++r)=L++splitB 10 r:=by
 induction L with
 | nil=>rfl
 | cons a L ih =>
  rw [List.flatMap_cons,List.append_assoc,List.append_assoc,List.singleton_append,splitB_app 10 _ a (h a (.head _)),ih (fun a ha=>h a (.tail _ ha)),List.cons_append]
theorem linesL_flat (L:List (List UInt8)) (h : ∀ a∈L,∀ b∈a,b≠10):linesL (L.flatMap (fun a=>a++[10]))=L:=by
 have e:=splitB_flat L h []
 rw [List.append_nil] at e
 unfold linesL
 rw [e,show splitB 10 []=[[]] from rfl,List.getLast?_concat,if_pos rfl,List.dropLast_concat]
theorem lns_flat (cs:List Chk):lns cs=(cs.map linC).flatMap (fun a=>a++[10]):=by
 rw [lns,List.flatMap_map]
theorem lin_all (cs:List Chk) : ∀ a∈cs.map linC,∀ b∈a,b≠10:=by
 intro a ha
 obtain ⟨p,_,rfl⟩:=List.mem_map.1 ha
 exact linC_clean p
theorem idxB_app (q:UInt8) (r:List UInt8) : ∀ a:List UInt8,(∀ b∈a,b≠q)→idxB (a++q::r) q=a.length
 | [],_=>idxB_eq q r
 | x::a,h=>by rw [List.cons_append,idxB_ne _ (h x (.head _)),idxB_app q r a (fun b hb=>h b (.tail _ hb)),List.length_cons]
theorem idxB_none (q:UInt8) : ∀ a:List UInt8,(∀ b∈a,b≠q)→idxB a q=a.length
 | [],_=>rfl
 | x::a,h=>by rw [idxB_ne _ (h x (.head _)),idxB_none q a (fun b hb=>h b (.tail _ hb)),List.length_cons]
theorem cutB_none (q:UInt8) (a:List UInt8) (h : ∀ b∈a,b≠q):cutB a q=(a,[],false):=by
 unfold cutB
 rw [idxB_none q a h,if_neg (Nat.lt_irrefl _)]
theorem cutB_app (q:UInt8) (a r:List UInt8) (h : ∀ b∈a,b≠q):cutB (a++q::r) q=(a,r,true):=by
 unfold cutB
 rw [idxB_app q r a h,if_pos (by rw [List.length_append,List.length_cons];omega),List.take_left,← List.drop_drop,List.drop_left]
 rfl
theorem dig_idx : ∀ n<16,idxB digsL (hx1 n)=n:=of_decide_eq_true kR
theorem unhP_hex (t:List UInt8):unhP (hexL t)=some t:=by
 induction t with
 | nil=>rfl
 | cons a t ih =>
  have h1:=a.toNat_lt
  have e1:=dig_idx (a.toNat/16) oM
  have e2:=dig_idx (a.toNat%16) (Nat.mod_lt _ oE)
  show unhP (hx1 (a.toNat/16)::hx1 (a.toNat%16)::hexL t)=_
  unfold unhP
  rw [e1,e2,if_pos ⟨by omega,by omega⟩,ih,show 16*(a.toNat/16)+a.toNat%16=a.toNat from by omega,UInt8.ofNat_toNat]
  rfl
theorem unhL_hex (t:List UInt8):unhL ([48,120]++hexL t)=some t:=by
 unfold unhL
 rw [if_pos (by simp [List.isPrefixOf])]
 exact unhP_hex t
theorem name_inj (i j:Nat) (hi:i<256) (hj:j<256) (h:nameL (UInt8.ofNat i)=nameL (UInt8.ofNat j)):i=j:=by
 have key : ∀ i j,i<j→j<256→nameL (UInt8.ofNat i)≠nameL (UInt8.ofNat j):=by
  intro i j hij hj
  have h1:=fresh_at allNames [] j (nameL (UInt8.ofNat j)) fresh_all (by simp [allNames,hj])
  rw [List.nil_append,allNames,← List.map_take,List.take_range,show min j 256=j from by omega,List.all_map] at h1
  exact of_decide_eq_true (List.all_eq_true.1 h1 i (List.mem_range.2 hij))
 rcases Nat.lt_trichotomy i j with h1|h1|h1
 ·exact absurd h (key i j h1 hj)
 ·exact h1
 ·exact absurd h.symm (key j i h1 hi)
theorem find_at {p:Nat→Bool} : ∀ (l:List Nat) (n:Nat),n∈l→p n=true→(∀ i∈l,p i=true→i=n)→l.find? p=some n
 | [],_,h,_,_=>by cases h
 | a::l,n,h,hp,hu=>by
  cases ha:p a with
  | true=>rw [List.find?_cons_of_pos ha,hu a (.head _) ha]
  | false =>
   rw [List.find?_cons_of_neg (by rw [ha];decide)]
   rcases List.mem_cons.1 h with rfl|h
   ·rw [hp] at ha;cases ha
   ·exact find_at l n h hp (fun i hi=>hu i (.tail _ hi))
theorem numN_name (ch:UInt8):numN (nameL ch)=some ch.toNat:=by
 have hlt:=ch.toNat_lt
 refine find_at _ _ (List.mem_range.2 hlt) (decide_eq_true (by rw [UInt8.ofNat_toNat])) ?_
 intro i hi h
 have h1:=of_decide_eq_true h
 rw [← UInt8.ofNat_toNat (x:=ch)] at h1
 exact (name_inj _ _ hlt (List.mem_range.1 hi) h1).symm
theorem lineR_chk (p:Chk) (last:Bool) (h1:p.2.length≤behN p.1.toNat) (h2:last=false→p.2.length=behN p.1.toNat):lineR (linC p) last=(bytC p,0):=by
 obtain ⟨o,t⟩:=p
 dsimp only at h1 h2
 unfold lineR linC bytC
 dsimp only
 have hcl:=nameL_clean o
 have hn:=numN_name o
 by_cases h0:0<behN o.toNat
 ·rw [if_pos h0,List.singleton_append,cutB_app 32 _ _ (fun b hb=>(hcl b hb).2)]
  dsimp only
  rw [hn]
  dsimp only
  rw [if_neg oM,unhL_hex]
  dsimp only
  rw [if_neg ?_,UInt8.ofNat_toNat]
  ·rfl
  ·rintro (h|⟨h,hl⟩)
   ·omega
   ·have:=h2 hl;omega
 ·rw [if_neg h0,List.append_nil,cutB_none 32 _ (fun b hb=>(hcl b hb).2)]
  dsimp only
  rw [hn]
  dsimp only
  rw [if_pos oM,UInt8.ofNat_toNat,List.length_eq_zero_iff.1 (by omega:t.length=0)]
  rfl
theorem parseF_ok (ls:List (List UInt8)) : ∀ (cs:List Chk) (i:Nat) (xs:List UInt8) (r:List (List UInt8)),(∀ j p,cs[j]? = some p→p.2.length≤behN p.1.toNat∧(i+j+1≠ls.length→p.2.length=behN p.1.toNat)) →
  parseF ls i xs (cs.map linC++r)=parseF ls (i+cs.length) (xs++bytesC cs) r
 | [],i,xs,r,_=>by simp [bytesC]
 | p::cs,i,xs,r,h=>by
  have h0:=h 0 p rfl
  have e:=lineR_chk p (decide (i+1=ls.length)) h0.1 (fun hl=>h0.2 (of_decide_eq_false hl))
  rw [List.map_cons,List.cons_append]
  conv=>lhs;unfold parseF
  rw [e]
  dsimp only
  rw [if_pos rfl,parseF_ok ls cs (i+1) _ r (fun j p hj=>by
   have:=h (j+1) p (by simpa using hj)
   rw [show i+(j+1)+1=i+1+j+1 from by omega] at this
   exact this)]
  rw [List.length_cons,show i+1+cs.length=i+(cs.length+1) from by omega,List.append_assoc]
  rfl
theorem parse_text (l:List UInt8):parseL (txL l)=(l,0,0):=by
 have hl:linesL (txL l)=(chk l).map linC:=by rw [txL_chk,lns_flat,linesL_flat _ (lin_all _)]
 unfold parseL
 rw [hl]
 have h:=parseF_ok ((chk l).map linC) (chk l) 0 [] [] (fun j p hj=>by
  obtain ⟨h1,h2⟩:=chk_good l j p hj
  refine ⟨h1,fun h3=>h2 ?_⟩
  have:=(List.getElem?_eq_some_iff.1 hj).1
  rw [List.length_map] at h3
  omega)
 rw [List.append_nil] at h
 rw [h,List.nil_append,chk_bytes]
 rfl
def jmS:Nat→Nat→List UInt8→List Int
 | _,_,[]=>[]
 | p,0,b::r=>if b.toNat=91 then (p:Int)::jmS (p+1) 0 r else jmS (p+1) (behN b.toNat) r
 | p,k+1,_::r=>jmS (p+1) k r
theorem jmS_z (p:Nat) (b:UInt8) (r:List UInt8):jmS p 0 (b::r)=if b.toNat=91 then (p:Int)::jmS (p+1) 0 r else jmS (p+1) (behN b.toNat) r:=rfl
theorem jmS_s (p k:Nat) (b:UInt8) (r:List UInt8):jmS p (k+1) (b::r)=jmS (p+1) k r:=rfl
theorem jmS_skip : ∀ (k p:Nat) (l:List UInt8),jmS p k l=jmS (p+k) 0 (l.drop k)
 | 0,p,l=>rfl
 | k+1,p,[]=>by simp [jmS]
 | k+1,p,b::r=>by
  rw [jmS_s,jmS_skip k (p+1) r,List.drop_succ_cons,show p+1+k=p+(k+1) from by omega]
theorem plcF_jmS (l:List UInt8) : ∀ f p,l.length≤f+p→((plcF l f p).filter fun (q:Nat)=>decide ((l.getD q 0).toNat=91)).map (fun (q:Nat)=>(q:Int))=jmS p 0 (l.drop p)
 | 0,p,h=>by rw [List.drop_eq_nil_of_le oM];rfl
 | f+1,p,h=>by
  by_cases hp:p<l.length
  ·have e:l.drop p=l.getD p 0::l.drop (p+1):=by
    rw [List.drop_eq_getElem_cons hp,List.getD_eq_getElem?_getD,List.getElem?_eq_getElem hp];rfl
   unfold plcF
   rw [if_pos hp,e,jmS_z]
   have ih:=plcF_jmS l f (p+1+behN (l.getD p 0).toNat) oM
   by_cases h91:(l.getD p 0).toNat=91
   ·rw [List.filter_cons_of_pos (by simpa using h91),List.map_cons,ih,if_pos h91,h91]
    simp [behN]
   ·rw [List.filter_cons_of_neg (by simpa using h91),ih,if_neg h91,jmS_skip (behN (l.getD p 0).toNat) (p+1),List.drop_drop]
  ·rw [plcF_done oM,List.drop_eq_nil_of_le oM];rfl
theorem jmL_jmS (l:List UInt8):jmL l=jmS 0 0 l:=plcF_jmS l l.length 0 oM
theorem jmS_at : ∀ (l:List UInt8) (p k:Nat),∀ q∈jmS p k l,∃ i:Nat,q=((p+i:Nat):Int) ∧ ∃ b,l[i]? = some b∧b.toNat=91
 | [],p,k,q,h=>by simp [jmS] at h
 | b::r,p,0,q,h=>by
  unfold jmS at h
  split at h
  ·rename_i hb
   rcases List.mem_cons.1 h with rfl|h
   ·exact ⟨0,rfl,b,rfl,hb⟩
   ·obtain ⟨i,hi,b',h1,h2⟩:=jmS_at r (p+1) 0 q h
    exact ⟨i+1,by rw [hi];congr 1;omega,b',by simpa using h1,h2⟩
  ·obtain ⟨i,hi,b',h1,h2⟩:=jmS_at r (p+1) _ q h
   exact ⟨i+1,by rw [hi];congr 1;omega,b',by simpa using h1,h2⟩
 | b::r,p,k+1,q,h=>by
  unfold jmS at h
  obtain ⟨i,hi,b',h1,h2⟩:=jmS_at r (p+1) k q h
  exact ⟨i+1,by rw [hi];congr 1;omega,b',by simpa using h1,h2⟩
end Go.Rail
