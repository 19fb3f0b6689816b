/- compute.Do. -/
import Derived.Test.YtjhdodkagchhkaaGreatDoorRailA
import Derived.Test.YtjhdodkagchhkaaGreatDoorAC10C18
import Derived.Test.YtjhdodkagchhkaaGreatDoorRailI
import Derived.Test.YtjhdodkagchhkaaGreatDoorAEq
import Derived.Test.YtjhdodkagchhkaaGreatDoorRailH
set_option linter.unusedSimpArgs false
set_option linter.unusedVariables false
namespace Go.Rail
open Go Go.Proofs Tryz
set_option maxHeartbeats 400000
set_option maxRecDepth 4000
attribute [local irreducible] OpK G W LW wpListIn Exit.then Exit.inBlock Post rounds opRun bodyPostM intOp
set_option maxHeartbeats 16000000
set_option maxRecDepth 20000
attribute [local irreducible] lexN cmpW Word.nat subW mulW addW divW modW sdivW smodW addmodW mulmodW expW andW orW xorW notW shlW shrW sarW byteW signW lessW
def popsN (n:Nat):Nat:=((infoN n).getD noRow).pops
def doC (n:Nat) (s:List Word):List Word × Int :=
 if isC n=false then (s,42) else if 1024<s.length then (s,1)
 else if 144≤n then swapL s (n-143) else if 128≤n then dupL s (n-127)
 else if (popL s (popsN n)).2.2≠0 then ((popL s (popsN n)).1,(popL s (popsN n)).2.2)
 else pushL (popL s (popsN n)).1 (madeL n (popL s (popsN n)).2.1)
def chkP (n:Nat):Bool := !(isC n)||(Nat.ble (popsN n) 7&&(!(find2 ops1 n).isSome||Nat.ble 1 (popsN n))&&(!(find2 ops2 n).isSome||Nat.ble 2 (popsN n))&&(!(find2 ops3 n).isSome||Nat.ble 3 (popsN n))&&(infoN n).isSome)
theorem chkP_all:((List.range 128).all chkP)=true:=by kernel_rfl
theorem pops_ok (n:Nat) (hn:n<128) (h:isC n=true):popsN n≤7∧((find2 ops1 n).isSome→1≤popsN n)∧((find2 ops2 n).isSome→2≤popsN n)∧((find2 ops3 n).isSome→3≤popsN n):=by
 have:=List.all_eq_true.1 chkP_all n (by simpa using hn)
 simp only [chkP,h,Bool.not_true,Bool.false_or,Bool.and_eq_true,Bool.or_eq_true,Bool.not_eq_true',Nat.ble_eq] at this
 obtain ⟨⟨⟨⟨h1,h2⟩,h3⟩,h4⟩,_⟩:=this
 refine ⟨h1,fun h=>h2.resolve_left (by rw [h];decide),fun h=>h3.resolve_left (by rw [h];decide),fun h=>h4.resolve_left (by rw [h];decide)⟩
theorem popL_ok {s:List Word} {n:Nat} (h:(popL s n).2.2=0):(popL s n).1=s.take (s.length-n)∧(popL s n).2.1=(s.drop (s.length-n)).reverse∧n≤s.length:=by
 unfold popL at h ⊢
 by_cases hw:wrongL s n 0=0
 ·rw [if_pos hw]
  refine ⟨rfl,rfl,?_⟩
  unfold wrongL at hw
  by_cases h1:1024<s.length∨(n:Int)<0
  ·rw [if_pos h1] at hw;cases hw
  ·rw [if_neg h1] at hw
   by_cases h2:(s.length:Int)<n
   ·rw [if_pos h2] at hw;cases hw
   ·omega
 ·rw [if_neg hw] at h;exact absurd h hw
theorem do_spec (n:Nat) (hn:n<256) (v:Value) (s:List Word) (hs:s.length≤100000):Fn prog 9 [.int .u8 (n:Int),v] [fRp v s] [] (RD (doC n s).2 (doC n s).1):=by
 have hi:=is_spec n hn
 have hcl:=fun w=>Fn.given (cloneW_spec w s oM)
 unfold doC
 refine Fn.enter func9 rfl ntmps9 oI (fun I0 w0 => ?_)
 cases hc:isC n with
 | false =>
  rw [hc] at hi
  rw [if_pos rfl]
  repeat refine st ?_;try intro
  refine cV hi ?_
  repeat refine st ?_;try intro
  refine o_callD rfl rfl rfl rfl (hcl v) ?_
  intro r
  repeat refine st ?_;try intro
  exact G.ret rfl (.cons (.tmp rfl) (.cons (.tmp rfl) .nil)) (Φ':=[fRp r s]) (M':=[]) oY oN ⟨_,rfl,rfl,rfl⟩
 | true =>
 rw [hc] at hi
 rw [if_neg oE]
 by_cases h1:1024<s.length
 ·rw [if_pos h1]
  repeat refine st ?_;try intro
  refine cV hi ?_
  repeat refine st ?_;try intro
  refine o_callD rfl rfl rfl rfl (hcl v) ?_
  intro r
  repeat refine st ?_;try intro
  exact G.ret rfl (.cons (.tmp rfl) (.cons (.tmp rfl) .nil)) (Φ':=[fRp r s]) (M':=[]) oY oN ⟨_,rfl,rfl,rfl⟩
 rw [if_neg h1]
 by_cases h2:144≤n
 ·rw [if_pos h2]
  have hsw:=swap_spec v s (n-144+1) oM hs
  rw [show n-143=n-144+1 from by omega]
  repeat refine st ?_;try intro
  refine cV hi ?_
  repeat refine st ?_;try intro
  refine OpK.call rfl rfl rfl rfl hsw oY (Mr:=_) oP ?_
  rintro u Φ' Mc' ⟨sv,rfl,rfl,rfl⟩
  refine nA ?_
  unfold tupD
  repeat refine st ?_;try intro
  exact G.ret rfl (.cons (.tmp rfl) (.cons (.tmp rfl) .nil)) (Φ':=[fRp sv _]) (M':=[]) oY oN ⟨_,rfl,rfl,rfl⟩
 rw [if_neg h2]
 by_cases h3:128≤n
 ·rw [if_pos h3]
  have hsw:=dup_spec v s (n-128+1) oM hs
  rw [show n-127=n-128+1 from by omega]
  repeat refine st ?_;try intro
  refine cV hi ?_
  repeat refine st ?_;try intro
  refine OpK.call rfl rfl rfl rfl hsw oY (Mr:=_) oP ?_
  rintro u Φ' Mc' ⟨sv,rfl,rfl,rfl⟩
  refine nA ?_
  unfold tupD
  repeat refine st ?_;try intro
  exact G.ret rfl (.cons (.tmp rfl) (.cons (.tmp rfl) .nil)) (Φ':=[fRp sv _]) (M':=[]) oY oN ⟨_,rfl,rfl,rfl⟩
 rw [if_neg h3]
 obtain ⟨p1,p2,p3,p4⟩:=pops_ok n oM hc
 have hin:=info_spec n hn
 have hpop:=pop_spec v s (popsN n) oM hs
 unfold infoV rowV at hin
 rw [show ((infoN n).getD noRow).pops=popsN n from rfl] at hin
 by_cases h4:(popL s (popsN n)).2.2=0
 ·rw [if_neg (by simpa using h4)]
  obtain ⟨q1,q2,q3⟩:=popL_ok h4
  have hlen:(popL s (popsN n)).2.1.length=popsN n:=by rw [q2];simp;omega
  have hlen1:(popL s (popsN n)).1.length≤100000:=by rw [q1,List.length_take];omega
  rw [h4] at hpop
  generalize (popL s (popsN n)).1=rest at hpop hlen1 ⊢
  generalize (popL s (popsN n)).2.1=l at hpop hlen ⊢
  have hmd:=fun w=>made_spec n hn w l (fun h=>by rw [hlen];exact p2 h) (fun h=>by rw [hlen];exact p3 h) (fun h=>by rw [hlen];exact p4 h)
  have hml:(madeL n l).length≤100000:=by
   unfold madeL
   split
   ·simp
   ·split
    ·simp
    ·split<;>simp
  generalize popsN n=p at hin hpop
  repeat refine st ?_;try intro
  refine cV hi ?_
  repeat refine st ?_;try intro
  refine cV hin ?_
  repeat refine st ?_;try intro
  refine OpK.call rfl rfl rfl rfl hpop oY (Mr:=_) oP ?_
  rintro u Φ' Mc' ⟨v1,v2,rfl,rfl,rfl⟩
  refine nA ?_
  repeat refine st ?_;try intro
  refine o_callD rfl rfl rfl rfl (hmd v2) ?_
  intro u
  repeat refine st ?_;try intro
  refine OpK.call rfl rfl rfl rfl (push_spec v1 u rest (madeL n l) hlen1 hml) oY (Mr:=_) oP ?_
  rintro w Φ' Mc' ⟨sv,rfl,rfl,rfl⟩
  refine nA ?_
  unfold tupD
  repeat refine st ?_;try intro
  exact G.ret rfl (.cons (.tmp rfl) (.cons (.tmp rfl) .nil)) (Φ':=[fRp sv _]) (M':=[]) oY oN ⟨_,rfl,rfl,rfl⟩
 ·rw [if_pos h4]
  generalize (popL s (popsN n)).1=rest at hpop ⊢
  generalize (popL s (popsN n)).2.1=l at hpop
  generalize (popL s (popsN n)).2.2=e at h4 hpop ⊢
  generalize popsN n=p at hin hpop
  repeat refine st ?_;try intro
  refine cV hi ?_
  repeat refine st ?_;try intro
  refine cV hin ?_
  repeat refine st ?_;try intro
  refine OpK.call rfl rfl rfl rfl hpop oY (Mr:=_) oP ?_
  rintro u Φ' Mc' ⟨v1,v2,rfl,rfl,rfl⟩
  refine nA ?_
  repeat refine st ?_;try intro
  exact G.ret rfl (.cons (.tmp rfl) (.cons (.tmp rfl) .nil)) (Φ':=[fRp v1 _]) (M':=[]) oY oN ⟨_,rfl,rfl,rfl⟩
end Go.Rail
namespace Go.Rail
open Go Go.Proofs Tryz
set_option maxHeartbeats 400000
set_option maxRecDepth 4000
attribute [local irreducible] OpK G W LW wpListIn Exit.then Exit.inBlock Post rounds opRun bodyPostM intOp
set_option maxHeartbeats 4000000
instance ptB:PtTy prog 73 75:=⟨underlying73⟩
instance ptU:PtTy prog 162 5:=⟨underlying162⟩
instance unP:UnTy prog 215:=⟨underlying215⟩
instance rmB:Rm prog 75:=Rm.of kR
instance exNE:ExtF prog 141 Extern.AbiNoEscape.same:=⟨fun args w=>run_callFunc_extern func141 kR kR kR kR args w⟩
def bldM (B:Nat) (a:Option Addr) (v:Value) (xs:List UInt8) (o:BO):Own:=(B,Ob [.pointer a,v] 75)::bufM 5 xs o
theorem copyCheck_spec (B:Nat) (a:Option Addr) (ha:a=none∨a=some ⟨B,0,none⟩) (v:Value):Fn prog 75 [.pointer (some ⟨B,0,none⟩)] [] [(B,Ob [.pointer a,v] 75)] (fun u Φ' M'=>Φ'=[]∧M'=[(B,Ob [.pointer (some ⟨B,0,none⟩),v] 75)]):=by
 rcases ha with rfl|rfl
 ·refine Fn.enter func75 rfl ntmps75 oI (fun I0 w0 => ?_)
  repeat refine sq ?_;try intro
  exact G.fin rfl .nil (Φ':=[]) (M':=[(B,Ob [.pointer (some ⟨B,0,none⟩),v] 75)]) oY oZ ⟨rfl,rfl⟩
 ·refine Fn.enter func75 rfl ntmps75 oI (fun I0 w0 => ?_)
  repeat refine sq ?_;try intro
  exact G.fin rfl .nil (Φ':=[]) (M':=[(B,Ob [.pointer (some ⟨B,0,none⟩),v] 75)]) oY oZ ⟨rfl,rfl⟩
def RBld (B:Nat) (r:Value) (xs:List UInt8):Value→List Fa→Own→Prop:=fun u Φ' M' => ∃ v' o',IsBuf v' xs o'∧u=r∧Φ'=[]∧M'=bldM B (some ⟨B,0,none⟩) v' xs o'
theorem writeString_spec (B:Nat) (a:Option Addr) (ha:a=none∨a=some ⟨B,0,none⟩) (v:Value) (xs ys:List UInt8) (o:BO) (hv:IsBuf v xs o) (hl:2*(xs.length+ys.length)+200≤281474976710656) :
  Fn prog 34 [.pointer (some ⟨B,0,none⟩),.string (ba ys)] [] (bldM B a v xs o) (RBld B (.tuple #[.int .i64 (ys.length:Int),.nilIface]) (xs++ys)):=by
 have hc:=copyCheck_spec B a ha v
 unfold bldM
 refine Fn.enter func34 rfl ntmps34 oI (fun I0 w0 => ?_)
 repeat refine sq ?_;try intro
 refine OpK.call rfl rfl rfl rfl hc oY (Mr:=bufM 5 xs o) oP ?_
 rintro u Φ' Mc' ⟨rfl,rfl⟩
 refine nA ?_
 repeat refine sq ?_;try intro
 refine o_appB (Mr:=[(B,Ob [.pointer (some ⟨B,0,none⟩),v] 75)]) (xs:=xs) (ys:=ys) o hv hl rfl rfl rfl rfl (List.perm_append_singleton _ _).symm ?_
 intro v' o' hv'
 refine G.perm ?_ (List.perm_append_singleton _ _)
 repeat refine sq ?_;try intro
 refine o_store (vs:=[v']) rfl rfl rfl (buf_cell hv').1 rfl (Nat.le_refl _) (buf_cell hv').2 rfl ?_
 repeat refine sq ?_;try intro
 exact G.ret rfl (.cons (.tmp rfl) (.cons (.tmp rfl) .nil)) (Φ':=[]) (M':=(B,Ob [.pointer (some ⟨B,0,none⟩),v'] 75)::bufM 5 (xs++ys) o') oY oZ ⟨v',o',hv',rfl,rfl,rfl⟩
theorem writeByte_spec (B:Nat) (a:Option Addr) (ha:a=none∨a=some ⟨B,0,none⟩) (v:Value) (xs:List UInt8) (c:UInt8) (o:BO) (hv:IsBuf v xs o) (hl:2*(xs.length+1)+200≤281474976710656) :
  Fn prog 40 [.pointer (some ⟨B,0,none⟩),.int .u8 (c.toNat:Int)] [] (bldM B a v xs o) (RBld B .nilIface (xs++[c])):=by
 have hc:=copyCheck_spec B a ha v
 unfold bldM
 refine Fn.enter func40 rfl ntmps40 oI (fun I0 w0 => ?_)
 repeat refine sq ?_;try intro
 refine OpK.call rfl rfl rfl rfl hc oY (Mr:=bufM 5 xs o) oP ?_
 rintro u Φ' Mc' ⟨rfl,rfl⟩
 refine nA ?_
 repeat refine sq ?_;try intro
 refine o_appB (Mr:=[(B,Ob [.pointer (some ⟨B,0,none⟩),v] 75)]) (xs:=xs) (ys:=[c]) o hv hl rfl rfl rfl rfl (List.perm_append_singleton _ _).symm ?_
 intro v' o' hv'
 refine G.perm ?_ (List.perm_append_singleton _ _)
 repeat refine sq ?_;try intro
 refine o_store (vs:=[v']) rfl rfl rfl (buf_cell hv').1 rfl (Nat.le_refl _) (buf_cell hv').2 rfl ?_
 repeat refine sq ?_;try intro
 exact G.ret rfl (.cons (.tmp rfl) .nil) (Φ':=[]) (M':=(B,Ob [.pointer (some ⟨B,0,none⟩),v'] 75)::bufM 5 (xs++[c]) o') oY oZ ⟨v',o',hv',rfl,rfl,rfl⟩
theorem bString_spec (B:Nat) (a:Option Addr) (v:Value) (xs:List UInt8) (o:BO) (hv:IsBuf v xs o) (hl:xs.length≤9223372036854775807) :
  Fn prog 35 [.pointer (some ⟨B,0,none⟩)] [] (bldM B a v xs o) (fun u Φ' M' => ∃ o',IsBuf v xs o'∧u = .string (ba xs)∧Φ'=[]∧M'=bldM B a v xs o'):=by
 unfold bldM
 cases o with
 | none =>
  obtain ⟨rfl,rfl⟩:=hv
  unfold bufM
  refine Fn.enter func35 rfl ntmps35 oI (fun I0 w0 => ?_)
  repeat refine sq ?_;try intro
  refine W.drawA 10 [dq _,dq _,dq _,dq _,dq _,dq _,dq _,dq _,dq _,dq _] [[],[0],[1],[2],[3],[],[5],[6],[7],[8]] [4,9] (hrest:=fun c=>nrm ?_) (hops:=by
   iterate 10 refine AllQ.aq ?_
   exact AllQ.nil)
  repeat refine sq ?_;try intro
  refine o_unsafeString0 rfl rfl rfl rfl ?_
  repeat refine sq ?_;try intro
  exact G.ret rfl (.cons (.tmp rfl) .nil) (Φ':=[]) (M':=[(B,Ob [.pointer a,.slice none 0 0] 75)]) oY oZ ⟨none,⟨rfl,rfl⟩,rfl,rfl,rfl⟩
 | some q =>
  obtain ⟨b,ex,k⟩:=q
  obtain ⟨rfl,hk1,hk2⟩:=hv
  unfold bufM
  refine Fn.enter func35 rfl ntmps35 oI (fun I0 w0 => ?_)
  repeat refine sq ?_;try intro
  refine W.drawA 10 [dq _,dq _,dq _,dq _,dq _,dq _,dq _,dq _,dq _,dq _] [[],[0],[1],[2],[3],[],[5],[6],[7],[8]] [4,9] (hrest:=fun c=>nrm ?_) (hops:=by
   iterate 10 refine AllQ.aq ?_
   exact AllQ.nil)
  repeat refine sq ?_;try intro
  refine o_unsafeString kR hk1 hl rfl rfl rfl rfl ?_
  repeat refine sq ?_;try intro
  exact G.ret rfl (.cons (.tmp rfl) .nil) (Φ':=[]) (M':=[(B,Ob [.pointer a,.slice (some ⟨b,0,none⟩) xs.length (xs.length+ex.length)] 75),(b,bufO 5 xs ex xs.length)]) oY oZ ⟨some (b,ex,xs.length),⟨rfl,Nat.le_refl _,hk2⟩,rfl,rfl,rfl⟩
end Go.Rail
namespace Go.Rail
open Go Go.Proofs Tryz
set_option maxHeartbeats 400000
set_option maxRecDepth 4000
attribute [local irreducible] OpK G W LW wpListIn Exit.then Exit.inBlock Post rounds opRun bodyPostM intOp
set_option maxHeartbeats 4000000
instance exIB:ExtF prog 236 Extern.BytealgIndexByte.indexByte:=⟨fun args w=>run_callFunc_extern func236 kR kR kR kR args w⟩
instance exCS:ExtF prog 84 Extern.BytealgCount.count:=⟨fun args w=>run_callFunc_extern func84 kR kR kR kR args w⟩
theorem slIndexByte_spec (l:List UInt8) (c:UInt8):FnV prog 151 [.string (ba l),.int .u8 (c.toNat:Int)] [] (.int .i64 (Lib.indexByte l c)):=by
 refine Fn.enter func151 rfl ntmps151 oI (fun I0 w0 => ?_)
 repeat refine sq ?_;try intro
 refine o_idxByteT rfl rfl rfl rfl rfl ?_
 repeat refine sq ?_;try intro
 refine G.retV ?_
 rfl
theorem sIndexByte_spec (l:List UInt8) (c:UInt8):FnV prog 88 [.string (ba l),.int .u8 (c.toNat:Int)] [] (.int .i64 (Lib.indexByte l c)):=by
 have h:=slIndexByte_spec l c
 refine Fn.enter func88 rfl ntmps88 oI (fun I0 w0 => ?_)
 repeat refine sq ?_;try intro
 refine cV h ?_
 repeat refine sq ?_;try intro
 refine G.retV ?_
 rfl
theorem indexByte_one (c b:UInt8):Lib.indexByte [b] c=if b=c then 0 else -1:=by
 unfold Lib.indexByte
 by_cases h:b=c
 ·subst h;simp
 ·have h1:(b==c)=false:=by simpa using h
  rw [h1,if_neg h];rfl
theorem slIndex_spec (l:List UInt8) (c:UInt8):FnV prog 149 [.string (ba l),.string (ba [c])] [] (.int .i64 (Lib.indexByte l c)):=by
 have h:=slIndexByte_spec l c
 refine Fn.enter func149 rfl ntmps149 oI (fun I0 w0 => ?_)
 by_cases hl:[c]=l
 ·have e:Lib.indexByte l c=0:=by rw [← hl,indexByte_one,if_pos rfl]
  rw [e]
  repeat refine sq ?_;try intro
  refine G.retV ?_
  rfl
 ·repeat refine sq ?_;try intro
  refine o_ixT 0 rfl rfl rfl rfl rfl (Nat.zero_lt_succ _) ?_
  repeat refine sq ?_;try intro
  refine cV h ?_
  repeat refine sq ?_;try intro
  refine G.retV ?_
  rfl
theorem sIndex_spec (l:List UInt8) (c:UInt8):FnV prog 85 [.string (ba l),.string (ba [c])] [] (.int .i64 (Lib.indexByte l c)):=by
 have h:=slIndex_spec l c
 refine Fn.enter func85 rfl ntmps85 oI (fun I0 w0 => ?_)
 repeat refine sq ?_;try intro
 refine cV h ?_
 repeat refine sq ?_;try intro
 refine G.retV ?_
 rfl
theorem sCount_spec (l:List UInt8) (c:UInt8):FnV prog 50 [.string (ba l),.string (ba [c])] [] (.int .i64 ((l.count c:Nat):Int)):=by
 refine Fn.enter func50 rfl ntmps50 oI (fun I0 w0 => ?_)
 repeat refine sq ?_;try intro
 refine o_ixT 0 rfl rfl rfl rfl rfl (Nat.zero_lt_succ _) ?_
 repeat refine sq ?_;try intro
 refine o_countT rfl rfl rfl rfl rfl ?_
 repeat refine sq ?_;try intro
 refine G.retV ?_
 rfl
def cutB (l:List UInt8) (c:UInt8):List UInt8 × List UInt8 × Bool:=if idxB l c<l.length then (l.take (idxB l c),l.drop (idxB l c+1),true) else (l,[],false)
def cutV (p:List UInt8 × List UInt8 × Bool):Value := .tuple #[.string (ba p.1),.string (ba p.2.1),.bool p.2.2]
theorem slCut_spec (l:List UInt8) (c:UInt8) (hl:l.length≤4611686018427387904):FnV prog 139 [.string (ba l),.string (ba [c])] [] (cutV (cutB l c)):=by
 have h:=slIndex_spec l c
 rw [indexByte_eq] at h
 unfold cutV cutB
 refine Fn.enter func139 rfl ntmps139 oI (fun I0 w0 => ?_)
 by_cases hi:idxB l c<l.length
 ·rw [if_pos hi] at h ⊢
  repeat refine sq ?_;try intro
  refine cV h ?_
  repeat refine sq ?_;try intro
  refine W.drawA 10 [dq _,dq _,dq _,dq _,dq _,dq _,dq _,dq _,dq _,dq _] [[],[],[0,1],[],[],[],[5],[4,6],[3,7],[2]] [8,9] (hrest:=fun c=>nrm ?_) (hops:=by
   iterate 7 refine AllQ.aq ?_
   refine AllQ.mk (by intro c z0 Φr Lr K;refine nrm ?_;intro hK;refine o_int rfl rfl rfl rfl (n_addi oX) ?_;exact hK z0) ?_
   iterate 2 refine AllQ.aq ?_
   exact AllQ.nil)
  repeat refine sq ?_;try intro
  refine G.retV ?_
  simp [tup]
 ·rw [if_neg hi] at h ⊢
  repeat refine sq ?_;try intro
  refine cV h ?_
  repeat refine sq ?_;try intro
  refine G.retV ?_
  rfl
theorem sCut_spec (l:List UInt8) (c:UInt8) (hl:l.length≤4611686018427387904):FnV prog 73 [.string (ba l),.string (ba [c])] [] (cutV (cutB l c)):=by
 have h:=slCut_spec l c hl
 unfold cutV at h ⊢
 refine Fn.enter func73 rfl ntmps73 oI (fun I0 w0 => ?_)
 repeat refine sq ?_;try intro
 refine cV h ?_
 repeat refine sq ?_;try intro
 refine G.retV ?_
 rfl
theorem slHasPrefix_spec (l p:List UInt8) (hl:l.length≤4611686018427387904):FnV prog 295 [.string (ba l),.string (ba p)] [] (.bool (p.isPrefixOf l)):=by
 have hp:p.isPrefixOf l=decide (p.length≤l.length∧l.take p.length=p):=by
  rw [Bool.eq_iff_iff,List.isPrefixOf_iff_prefix,List.prefix_iff_eq_take]
  simp only [decide_eq_true_eq]
  constructor
  ·intro h
   refine ⟨?_,h.symm⟩
   rw [h,List.length_take];omega
  ·intro h;exact h.2.symm
 rw [hp]
 refine Fn.enter func295 rfl ntmps295 oI (fun I0 w0 => ?_)
 by_cases h1:p.length≤l.length
 ·repeat refine sq ?_;try intro
  refine G.retV ?_
  refine congrArg Value.bool (decide_eq_decide.2 ?_)
  simp [h1]
 ·rw [decide_eq_false (fun h=>h1 h.1)]
  repeat refine sq ?_;try intro
  refine G.retV ?_
  rfl
theorem slCutPrefix_spec (l p:List UInt8) (hl:l.length≤4611686018427387904):FnV prog 229 [.string (ba l),.string (ba p)] [] (.tuple #[.string (ba (if p.isPrefixOf l then l.drop p.length else l)),.bool (p.isPrefixOf l)]):=by
 have h:=slHasPrefix_spec l p hl
 have hp:p.isPrefixOf l=true→p.length≤l.length:=fun h=>by
  rw [List.isPrefixOf_iff_prefix] at h;exact h.length_le
 refine Fn.enter func229 rfl ntmps229 oI (fun I0 w0 => ?_)
 cases hb:p.isPrefixOf l
 ·rw [hb] at h
  repeat refine sq ?_;try intro
  refine cV h ?_
  repeat refine sq ?_;try intro
  refine G.retV ?_
  rfl
 ·have hp:=hp hb
  rw [hb] at h
  repeat refine sq ?_;try intro
  refine cV h ?_
  repeat refine sq ?_;try intro
  refine G.retV ?_
  simp [tup]
theorem sCutPrefix_spec (l p:List UInt8) (hl:l.length≤4611686018427387904):FnV prog 140 [.string (ba l),.string (ba p)] [] (.tuple #[.string (ba (if p.isPrefixOf l then l.drop p.length else l)),.bool (p.isPrefixOf l)]):=by
 have h:=slCutPrefix_spec l p hl
 refine Fn.enter func140 rfl ntmps140 oI (fun I0 w0 => ?_)
 repeat refine sq ?_;try intro
 refine cV h ?_
 repeat refine sq ?_;try intro
 refine G.retV ?_
 rfl
end Go.Rail
namespace Go.Rail
open Go Go.Proofs Tryz
set_option maxHeartbeats 400000
set_option maxRecDepth 4000
attribute [local irreducible] OpK G W LW wpListIn Exit.then Exit.inBlock Post rounds opRun bodyPostM intOp
set_option maxHeartbeats 4000000
structure SpSt where
 i:Nat
 r:List UInt8
 A:List ByteArray
theorem genSplit_spec (l:List UInt8) (c:UInt8) (hl:l.length≤1000000000):Fn prog 72 [.string (ba l),.string (ba [c]),.int .i64 0,.int .i64 (-1)] [] [] (fun u Φ' M'=>Φ'=[fRp u ((splitB c l).map ba)]∧M'=[]):=by
 have hcn:=sCount_spec l c
 have hix:=fun r=>sIndex_spec r c
 have hle:l.count c≤l.length:=List.count_le_length
 have hsl:=splitB_len c l
 refine Fn.enter func72 rfl ntmps72 oI (fun I0 w0 => ?_)
 repeat refine sq ?_;try intro
 refine cV hcn ?_
 obtain ⟨n,hcnt⟩ : ∃ n,l.count c=n:=⟨_,rfl⟩
 rw [hcnt] at hle hsl ⊢
 repeat refine sq ?_;try intro
 rw [show (if ((l.length+1:Nat):Int)<((n+1:Nat):Int) then ((l.length+1:Nat):Int) else ((n+1:Nat):Int))=((n+1:Nat):Int) from if_neg oM]
 refine o_make (α:=ByteArray) (n+1) (n+1) (ba []) rfl rfl rfl rfl rfl rfl (Nat.le_refl _) ⟨by omega,by omega,by simp only [roomBytes];omega⟩ rfl (fun _=>rfl) ?_
 intro b
 rw [cT_zeros]
 repeat refine sq ?_;try intro
 refine W.lp (S:=SpSt) (fun s=>([],[(10,.int .i64 (s.i:Int)),(9,.slice (some ⟨b,0,none⟩) (n+1) (n+1)),(3,.int .i64 (n:Int)),(2,.int .i64 0),(1,.string (ba [c])),(0,.string (ba s.r))],[(b,Ob (cT s.A) 9)])) (fun s=>s.i≤n∧s.r.count c=n-s.i∧s.A.length=n+1∧s.A.take s.i++(splitB c s.r).map ba=(splitB c l).map ba∧s.r.length≤l.length) (fun s=>n-s.i) ⟨0,l,List.replicate (n+1) (ba [])⟩ ?_ (h0:=⟨Nat.zero_le _,by simpa using hcnt,by simp,by simp,Nat.le_refl _⟩)
 rintro ⟨i,r,A⟩ ⟨hi,hct,hA,hsp,hrl⟩
 dsimp only at hi hct hA hsp hrl ⊢
 have hir:=hix r
 rw [indexByte_eq] at hir
 have hcc:=count_cut c r
 have hcu:=splitB_cut c r
 by_cases hd:idxB r c<r.length
 ·rw [if_pos hd] at hir hcc hcu
  have hlt:i<n:=by omega
  have hd2:=(idxB_at r c hd).1
  repeat refine sq ?_;try intro
  refine cV hir ?_
  repeat refine sq ?_;try intro
  refine o_storeT rfl rfl rfl oM ?_
  repeat refine sq ?_;try intro
  rw [show (([c].length:Nat):Int)=((1:Nat):Int) from rfl]
  repeat refine sq ?_;try intro
  simp only [List.take_length,List.drop_zero,Nat.add_zero]
  refine G.ag (S:=SpSt) ⟨i+1,r.drop (idxB r c+1),A.set i (ba (r.take (idxB r c)))⟩ (hpre:=⟨by dsimp only;omega,by dsimp only;omega,by simpa using hA,?_,by dsimp only;rw [List.length_drop];omega⟩)
  dsimp only
  rw [← hsp,hcu,List.take_succ_eq_append_getElem oX,List.take_set_of_le (Nat.le_refl _)]
  simp
 ·rw [if_neg hd] at hir hcc hcu
  have hin:i=n:=by omega
  subst hin
  repeat refine sq ?_;try intro
  refine o_storeT rfl rfl rfl oM ?_
  repeat refine sq ?_;try intro
  have hA2:A.set i (ba r)=(splitB c l).map ba:=by
   rw [← hsp,hcu,List.set_eq_take_append_cons_drop,if_pos oM,List.drop_eq_nil_of_le oM]
   simp
  rw [hA2]
  refine o_cutO (i+1) rfl rfl rfl ⟨_,_,rfl,rfl⟩ (Nat.le_refl _) ?_
  refine G.giveOwn2 (Mr:=[]) (.slice (some ⟨b,0,none⟩) (i+1) (i+1)) ((splitB c l).map ba) (some (b,cT ((splitB c l).map ba))) 9 ⟨i+1,by rw [List.length_map,hsl],by rw [cT_length,List.length_map,hsl];show _=(i+1)*1;omega,by rw [List.length_map,hsl];exact Nat.le_refl _⟩ Ent'.cT oP ?_
  repeat refine sq ?_;try intro
  exact G.retD rfl rfl
theorem sSplit_spec (l:List UInt8) (c:UInt8) (hl:l.length≤1000000000):FnD prog 31 [.string (ba l),.string (ba [c])] [] (fun u=>[fRp u ((splitB c l).map ba)]):=by
 have h:=genSplit_spec l c hl
 refine Fn.enter func31 rfl ntmps31 oI (fun I0 w0 => ?_)
 repeat refine sq ?_;try intro
 refine o_callD rfl rfl rfl rfl h ?_
 intro v
 repeat refine sq ?_;try intro
 exact G.retD rfl rfl
end Go.Rail
