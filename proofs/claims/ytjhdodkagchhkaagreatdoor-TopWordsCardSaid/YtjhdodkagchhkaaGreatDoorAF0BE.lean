/- Frames: what is plain. -/
import Derived.Test.YtjhdodkagchhkaaGreatDoorRailA
import Derived.Test.YtjhdodkagchhkaaGreatDoorAC19B3
import Derived.Test.YtjhdodkagchhkaaGreatDoorAC14C15
import Derived.Test.YtjhdodkagchhkaaGreatDoorABIBJ
import Derived.Test.YtjhdodkagchhkaaGreatDoorRailI
import Derived.Test.YtjhdodkagchhkaaGreatDoorABDBH
import Derived.Test.YtjhdodkagchhkaaGreatDoorRailD
set_option linter.unusedSimpArgs false
set_option linter.unusedVariables false
namespace Go.Rail
open Go Go.Proofs
structure Frm where
 code:List UInt8
 input:List UInt8
 pc:Int
 stack:List Word
 mem:List UInt8
 gas:Int
 ret:List UInt8
 status:Int
 errno:Int
 out:List UInt8
abbrev frmV (f:Frm) (sv:Value):Value := .agg [.string (ba f.code),.string (ba f.input),.int .i64 f.pc,sv,.string (ba f.mem),.int .i64 f.gas,.string (ba f.ret),.int .i64 f.status,.int .i64 f.errno,.string (ba f.out)].toArray
def rightF (f:Frm):Bool:=decide (f.code.length≤49152∧f.input.length≤1048576∧f.ret.length≤1048576∧f.out.length≤1048576∧0≤f.pc∧f.pc≤9007199254740992∧0≤f.gas∧f.gas≤2000000 ∧
 f.stack.length≤1024∧f.mem.length≤1048576∧f.mem.length%32=0∧0≤f.status∧f.status≤4∧(f.errno≠0↔f.status=4)∧(f.out=[]∨f.status=2∨f.status=3))
def numF (w:Word):Nat:=min w.num 1099511627776
def costF (n:Nat):Nat:=3*min n 32768+min n 32768*min n 32768/512
def needF (a n:Word):Option Nat:=if n = .zero then some 0 else if (addW a n).num≤1048576∧a.num≤(addW a n).num then some (((addW a n).num+31)/32) else none
def manyF (n:Nat):Nat:=min n 1048576
def wordsF (n:Nat):Nat:=(manyF n+31)/32
def trimF (l:List UInt8):List UInt8:=l.dropWhile (· == 0)
def moreF (op:Nat) (l:List Word):Nat :=
 if op=10 then 50*(trimF (byN (l.getD 1 .zero).num)).length
 else if op=32 then 6*wordsF (numF (l.getD 1 .zero))
 else if op=55∨op=57∨op=62 then 3*wordsF (numF (l.getD 2 .zero)) else 0
def spanF (op:Nat) (l:List Word):List (Word × Word) :=
 if op=32∨op=243∨op=253 then [(l.getD 0 .zero,l.getD 1 .zero)]
 else if op=55∨op=57∨op=62 then [(l.getD 0 .zero,l.getD 2 .zero)]
 else if op=81∨op=82 then [(l.getD 0 .zero,.nat 32)]
 else if op=83 then [(l.getD 0 .zero,.nat 1)] else []
def tabF (op:Nat):Bool:=[0,32,53,54,55,56,57,61,62,81,82,83,86,87,88,89,90,91,243,253].contains op
def foundF (op:Nat):Bool:=isC op||decide (95≤op∧op≤127)||tabF op
def localF (op:Nat):Bool:=foundF op||(infoN op).isNone||decide (op=254)
def reachF (had:Nat):List (Word × Word)→Option Nat
 | []=>some had
 | s::r=>match needF s.1 s.2 with
  | none=>none
  | some n=>reachF (max had n) r
def gasN (n:Nat):Nat:=((infoN n).getD noRow).gas
def pushN' (n:Nat):Nat:=((infoN n).getD noRow).pushes
def takeF (s:List Word) (op:Nat):List Word × Int :=
 if infoN op=none∨op=254 then ([],42)
 else if (popL s (popsN op)).2.2=0∧1024+popsN op<s.length+pushN' op then ([],41)
 else ((popL s (popsN op)).2.1,(popL s (popsN op)).2.2)
def failF (f:Frm) (e:Int):Frm:={f with status:=4,errno:=e,gas:=0}
def growF (m:List UInt8) (words:Nat):List UInt8:=m++List.replicate (words*32-m.length) 0
def payF (f:Frm) (op:Nat) (more:Nat) (sp:List (Word × Word)):Option Frm :=
  match reachF (f.mem.length/32) sp with
  | none=>none
  | some words =>
    if f.gas<(costF words:Int)-(costF (f.mem.length/32):Int)+(gasN op:Int)+(more:Int) then none
    else some {f with gas:=f.gas-((costF words:Int)-(costF (f.mem.length/32):Int)+(gasN op:Int)+(more:Int)),mem:=growF f.mem words,
                       stack:=if isC op then f.stack else f.stack.take (f.stack.length-popsN op),pc:=f.pc+1}
def pieceF (m:List UInt8) (a:Word) (n:Nat):List UInt8:=if n=0 then [] else if numF a+n≤m.length then (m.drop (numF a)).take n else []
def partF (s:List UInt8) (a:Word) (n:Nat):List UInt8 :=
 if 1048576<n then [] else
  let t:=if a.num<s.length then (s.drop a.num).take n else []
  t++List.replicate (n-t.length) 0
def putF (m:List UInt8) (at_:Nat) (s:List UInt8):List UInt8:=if s=[] then m else if at_+s.length≤m.length then m.take at_++s++m.drop (at_+s.length) else m
def jumpF (f:Frm) (to:Nat):Frm × Int:=if (to:Int)∈jmL f.code then ({f with pc:=to},0) else (f,44)
def pushF (f:Frm) (w:Word):Frm × Int:=({f with stack:=f.stack++[w]},0)
def copyF (f:Frm) (s:List UInt8) (l:List Word):Frm × Int:=({f with mem:=putF f.mem (numF (l.getD 0 .zero)) (partF s (l.getD 1 .zero) (numF (l.getD 2 .zero)))},0)
def endF (f:Frm) (status:Int) (l:List Word):Frm × Int:=({f with status:=status,out:=pieceF f.mem (l.getD 0 .zero) (numF (l.getD 1 .zero)),pc:=f.pc-1},0)
def doF (hash:List UInt8→List UInt8) (op:Nat) (f:Frm) (l:List Word):Frm × Int :=
 if isC op then ({f with stack:=(doC op f.stack).1},0)
 else if 95≤op∧op≤127 then ({f with stack:=f.stack++[opushL f.code (f.pc-1) ((op-95:Nat):Int)],pc:=f.pc+((op-95:Nat):Int)},0)
 else if op=0 then ({f with status:=1,pc:=f.pc-1},0)
 else if op=32 then pushF f (wordB (hash (pieceF f.mem (l.getD 0 .zero) (numF (l.getD 1 .zero)))))
 else if op=53 then pushF f (wordB (partF f.input (l.getD 0 .zero) 32))
 else if op=54 then pushF f (.nat f.input.length)
 else if op=55 then copyF f f.input l
 else if op=56 then pushF f (.nat f.code.length)
 else if op=57 then copyF f f.code l
 else if op=61 then pushF f (.nat f.ret.length)
 else if op=62 then (if f.ret.length<numF (l.getD 1 .zero)+numF (l.getD 2 .zero) then (f,45) else copyF f f.ret l)
 else if op=81 then pushF f (wordB (pieceF f.mem (l.getD 0 .zero) 32))
 else if op=82 then ({f with mem:=putF f.mem (numF (l.getD 0 .zero)) (byN (l.getD 1 .zero).num)},0)
 else if op=83 then ({f with mem:=putF f.mem (numF (l.getD 0 .zero)) [UInt8.ofNat ((l.getD 1 .zero).num%256)]},0)
 else if op=86 then jumpF f (numF (l.getD 0 .zero))
 else if op=87 then (if l.getD 1 .zero = .zero then (f,0) else jumpF f (numF (l.getD 0 .zero)))
 else if op=88 then pushF f (.nat (f.pc-1).toNat)
 else if op=89 then pushF f (.nat f.mem.length)
 else if op=90 then pushF f (.nat f.gas.toNat)
 else if op=243 then endF f 2 l
 else if op=253 then endF f 3 l
 else (f,0)
def stepF (hash:List UInt8→List UInt8) (f:Frm) (op:Nat):Frm :=
 if (takeF f.stack op).2≠0 then failF f (takeF f.stack op).2
 else match payF f op (moreF op (takeF f.stack op).1) (spanF op (takeF f.stack op).1) with
  | none=>failF f 43
  | some p=>if (doF hash op p (takeF f.stack op).1).2≠0 then failF f (doF hash op p (takeF f.stack op).1).2 else (doF hash op p (takeF f.stack op).1).1
def stepL (hash:List UInt8→List UInt8) (f:Frm):Frm × Int :=
 if rightF f=false then (f,1) else if f.status≠0 then (f,50) else if (f.code.length:Int)≤f.pc then ({f with status:=1},0)
 else if localF (f.code.getD f.pc.toNat 0).toNat=false then (f,51) else (stepF hash f (f.code.getD f.pc.toNat 0).toNat,0)
def runL (hash:List UInt8→List UInt8):Nat→Frm→Frm × Nat
 | 0,f=>(f,0)
 | m+1,f=>if (stepL hash f).2≠0 then (f,0) else ((runL hash m (stepL hash f).1).1,(runL hash m (stepL hash f).1).2+1)
theorem runL_s (hash:List UInt8→List UInt8) (m:Nat) (f:Frm):runL hash (m+1) f=if (stepL hash f).2≠0 then (f,0) else ((runL hash m (stepL hash f).1).1,(runL hash m (stepL hash f).1).2+1):=rfl
end Go.Rail
namespace Go.Rail
open Go Go.Proofs Tryz
set_option maxHeartbeats 400000
set_option maxRecDepth 4000
attribute [local irreducible] OpK G W LW wpListIn Exit.then Exit.inBlock Post rounds opRun bodyPostM intOp
set_option maxHeartbeats 4000000
def linesL (l:List UInt8):List (List UInt8):=if (splitB 10 l).getLast? = some [] then (splitB 10 l).dropLast else splitB 10 l
def parseF (ls:List (List UInt8)):Nat→List UInt8→List (List UInt8)→List UInt8 × Int × Nat
 | _,xs,[]=>(xs,0,0)
 | i,xs,a::r=>if (lineR a (decide (i+1=ls.length))).2=0 then parseF ls (i+1) (xs++(lineR a (decide (i+1=ls.length))).1) r else ([],(lineR a (decide (i+1=ls.length))).2,i)
theorem parseF_cons (ls:List (List UInt8)) (i:Nat) (xs a:List UInt8) (r:List (List UInt8)):parseF ls i xs (a::r)=if (lineR a (decide (i+1=ls.length))).2=0 then parseF ls (i+1) (xs++(lineR a (decide (i+1=ls.length))).1) r else ([],(lineR a (decide (i+1=ls.length))).2,i):=rfl
def parseL (l:List UInt8):List UInt8 × Int × Nat:=parseF (linesL l) 0 [] (linesL l)
theorem splitB_le (q:UInt8) : ∀ (l:List UInt8),∀ a∈splitB q l,a.length≤l.length
 | [],a,h=>by rw [show splitB q []=[[]] from rfl,List.mem_singleton] at h;subst h;exact Nat.le_refl _
 | x::r,a,h=>by
  have ih:=splitB_le q r
  unfold splitB at h
  split at h
  ·rcases List.mem_cons.1 h with rfl|h
   ·exact Nat.zero_le _
   ·have:=ih a h;rw [List.length_cons];omega
  ·cases hs:splitB q r with
   | nil=>exact absurd hs (splitB_ne q r)
   | cons b t =>
    rw [hs] at h ih
    rcases List.mem_cons.1 h with rfl|h
    ·have:=ih b (.head _);rw [List.length_cons,List.length_cons];omega
    ·have:=ih a (.tail _ h);rw [List.length_cons];omega
theorem lineR_len (l:List UInt8) (last:Bool):(lineR l last).1.length≤33:=by
 unfold lineR
 split
 ·exact Nat.zero_le _
 ·rename_i n hn
  have hb:=behN_le n
  split
  ·split
   ·exact Nat.zero_le _
   ·exact (by decide:1≤33)
  ·split
   ·exact Nat.zero_le _
   ·split
    ·exact Nat.zero_le _
    ·rw [List.length_append,List.length_cons,List.length_nil];omega
structure PaSt where
 i:Nat
 xs:List UInt8
 a:Option Addr
 v:Value
 o:BO
theorem parse_spec (l:List UInt8) (hl:l.length≤1000000):FnV prog 10 [.string (ba l)] [] (.tuple #[.string (ba (parseL l).1),.int .i64 (parseL l).2.1,.int .i64 ((parseL l).2.2:Int)]):=by
 refine Fn.enter func10 rfl ntmps10 oI (fun I0 w0 => ?_)
 repeat refine sq ?_;try intro
 refine o_callD rfl rfl rfl rfl (sSplit_spec l 10 oM) ?_
 intro v
 have hne:0<(splitB 10 l).length:=by rw [splitB_len];omega
 have hle:(splitB 10 l).length≤l.length+1:=by rw [splitB_len];have:=List.count_le_length (a:=(10:UInt8)) (l:=l);omega
 have hall:=splitB_le 10 l
 unfold parseL linesL
 generalize splitB 10 l=ls at hne hle hall ⊢
 obtain ⟨ini,z,rfl⟩ : ∃ ini z,ls=ini++[z]:=⟨ls.dropLast,ls.getLast (fun h=>by rw [h] at hne;cases hne),(List.dropLast_concat_getLast _).symm⟩
 rw [List.getLast?_concat,List.dropLast_concat]
 have hall2 : ∀ a∈(if some z=some [] then ini else ini++[z]),a.length≤l.length:=by
  split
  ·exact fun a ha=>hall a (List.mem_append_left _ ha)
  ·exact hall
 have hle2:(if some z=some [] then ini else ini++[z]).length≤1000001:=by
  rw [List.length_append,List.length_cons,List.length_nil] at hle
  split
  ·omega
  ·rw [List.length_append,List.length_cons,List.length_nil];omega
 refine G.slice v ((ini++[z]).map ba) ?_;intro ad cap e1 k1;subst e1
 have hlen:((ini++[z]).map ba).length=ini.length+1:=by simp
 rw [hlen] at k1 ⊢
 rw [List.length_append,List.length_cons,List.length_nil] at hle
 repeat refine sq ?_;try intro
 refine W.cutE (S:=List (List UInt8) × Value) (fun s=>([fRp s.2 (s.1.map ba)],[(5,s.2)],[])) (fun s=>s.1=if some z=some [] then ini else ini++[z]) ?_ ?_
 ·by_cases hze:z=[]
  ·subst hze
   rw [if_pos rfl]
   refine W.cond_t rfl (decide_eq_true oI) ?_
   repeat refine sq ?_;try intro
   refine o_slice 0 ini.length rfl rfl rfl bd0 ⟨_,_,rfl,by simp⟩ (Nat.zero_le _) oI ?_
   intro v'
   have e:((ini++[([]:List UInt8)]).map ba).take ini.length=ini.map ba:=by simp
   rw [List.drop_zero,e]
   repeat refine sq ?_;try intro
   exact G.kpE (ini,v') rfl (show Ents _ [fRp v' (ini.map ba)] from oY) (lC rfl lN) oN
  ·rw [if_neg (fun h=>hze (Option.some.inj h))]
   refine W.cond_f rfl (decide_eq_false (by simpa using hze)) ?_
   repeat refine sq ?_;try intro
   exact G.kpE (ini++[z],(.slice ad (ini.length+1) cap)) rfl (show Ents _ [fRp (.slice ad (ini.length+1) cap) ((ini++[z]).map ba)] from oY) (lC rfl lN) oN
 rintro ⟨ls,v⟩ hls
 dsimp only at hls ⊢
 rw [← hls] at hall2 hle2 ⊢
 clear hls hall hne hle k1 hlen
 have hm:(ls.map ba).length=ls.length:=List.length_map _
 have hat : ∀ (i:Nat) (h:i<(ls.map ba).length) (h2:i<ls.length),(ls.map ba)[i]'h=ba (ls[i]'h2):=by intro i h h2;simp
 generalize ls.map ba=A at hm hat ⊢
 refine G.slice v A ?_;intro ad cap e1 k1;subst e1
 repeat refine sq ?_;try intro
 refine OpK.call rfl rfl rfl rfl names_spec oY (Mr:=[]) oP ?_
 rintro u Φ' Mc' ⟨b,rfl,rfl,rfl⟩
 refine nA ?_
 repeat refine sq ?_;try intro
 rename_i B
 refine W.bare (G.perm ?_ (List.Perm.swap _ _ _))
 refine G.code ?_
 refine W.lp (S:=PaSt) (fun s=>([fRp (.slice ad A.length cap) A],[(29,.int .i64 (s.i:Int)),(28,.int .i64 (A.length:Int)),(27,.slice ad A.length cap),(7,.pointer (some ⟨B,0,none⟩)),(6,.map (some b)),(5,.slice ad A.length cap)],(b,MapT (namesL 256))::bldM B s.a s.v s.xs s.o)) (fun s=>s.i≤ls.length∧s.xs.length≤33*s.i∧(s.a=none∨s.a=some ⟨B,0,none⟩)∧IsBuf s.v s.xs s.o∧parseF ls s.i s.xs (ls.drop s.i)=parseF ls 0 [] ls) (fun s=>ls.length-s.i) ⟨0,[],none,.slice none 0 0,none⟩ ?_ (h0:=⟨Nat.zero_le _,Nat.zero_le _,.inl rfl,⟨rfl,rfl⟩,rfl⟩)
 rintro ⟨i,xs,a,v,o⟩ ⟨hi,hxs,ha,hb,hpf⟩
 dsimp only at hi hxs ha hb hpf ⊢
 by_cases hie:i=ls.length
 ·subst hie
  rw [List.drop_length] at hpf
  rw [← hpf]
  have hs:=bString_spec B a v xs o hb oM
  repeat refine sq ?_;try intro
  refine OpK.call rfl rfl rfl rfl hs oY (Mr:=[_]) (oH (l₁:=[_])) ?_
  rintro u Φ' Mc' ⟨o',hb',rfl,rfl,rfl⟩
  refine nA ?_
  repeat refine sq ?_;try intro
  refine G.retV ?_
  rfl
 ·have hil:i<ls.length:=by omega
  rw [List.drop_eq_getElem_cons hil] at hpf
  rw [parseF_cons] at hpf
  have hln:=hall2 ls[i] (List.getElem_mem hil)
  have hline:=line_spec b ls[i] (decide (i+1=ls.length)) oM
  have hrl:=lineR_len ls[i] (decide (i+1=ls.length))
  have hget : ∀ h,A[i]'h=ba ls[i]:=fun h=>hat i h hil
  generalize ls[i]=z at hpf hln hline hrl hget
  generalize hlr:lineR z (decide (i+1=ls.length))=r at hpf hline hrl
  obtain ⟨r1,r2⟩:=r
  dsimp only at hpf hline hrl
  repeat refine sq ?_;try intro
  refine OpK.call (vs:=[.string (ba z),.map (some b),.bool (decide (i+1=ls.length))]) (cap:=[]) rfl rfl rfl ?_ hline oY (Mr:=bldM B a v xs o) oP ?_
  ·show some [Value.string A[i],Value.map (some b),Value.bool (decide _)]=_
   rw [hget]
   exact congrArg (fun q=>some [Value.string (ba z),Value.map (some b),Value.bool q]) (decide_eq_decide.2 oM)
  rintro u Φ' Mc' ⟨rfl,rfl,rfl⟩
  refine nA ?_
  by_cases h0:r2=0
  ·subst h0
   rw [if_pos rfl] at hpf
   have hw:=writeString_spec B a ha v xs r1 o hb oM
   repeat refine sq ?_;try intro
   refine OpK.call rfl rfl rfl rfl hw oY (Mr:=[_]) (oH (l₁:=[_])) ?_
   rintro u Φ' Mc' ⟨v2,o2,hb2,rfl,rfl,rfl⟩
   refine G.perm ?_ oH
   refine nA ?_
   repeat refine sq ?_;try intro
   exact G.ag (S:=PaSt) ⟨i+1,xs++r1,some ⟨B,0,none⟩,v2,o2⟩ (hpre:=⟨by dsimp only;omega,by dsimp only;rw [List.length_append];omega,.inr rfl,hb2,hpf⟩)
  ·rw [if_neg h0] at hpf
   rw [← hpf]
   repeat refine sq ?_;try intro
   refine G.retV ?_
   rfl
end Go.Rail
