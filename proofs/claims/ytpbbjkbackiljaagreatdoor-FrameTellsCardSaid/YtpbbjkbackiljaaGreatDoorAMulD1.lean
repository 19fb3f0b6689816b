/- math/bits: the product of two words of 64 bits, whole. -/
import Derived.Test.YtpbbjkbackiljaaGreatDoorRailA
import Derived.Test.YtpbbjkbackiljaaGreatDoorRailC
import Derived.Test.YtpbbjkbackiljaaGreatDoorAEqBC
import Derived.Lib.Mul64
import Derived.Laws.Bits64b
import Derived.Test.YtpbbjkbackiljaaGreatDoorRailI
import Derived.Test.YtpbbjkbackiljaaGreatDoorRailJ
import Derived.Test.YtpbbjkbackiljaaGreatDoorRailD
import Derived.Test.YtpbbjkbackiljaaGreatDoorRailH
set_option linter.unusedSimpArgs false
set_option linter.unusedVariables false
namespace Go.Rail
open Go Go.Proofs Tryz
set_option maxHeartbeats 400000
set_option maxRecDepth 4000
attribute [local irreducible] OpK G W LW wpListIn Exit.then Exit.inBlock Post rounds opRun bodyPostM intOp
theorem u_mask (a:Nat) (ha:a<18446744073709551616):intOp .and .u64 (a:Int) 4294967295=some (.int .u64 ((a%4294967296:Nat):Int)):=by
 have h:=bits_and_u64_nat a 4294967295 ha oM
 have e:a&&&4294967295=a%4294967296:=Nat.and_two_pow_sub_one_eq_mod a 32
 rw [e] at h
 unfold intOp
 exact congrArg (fun v=>some (Value.int .u64 v)) h
theorem u_mul (a b:Nat) (h:a*b<18446744073709551616):intOp .mul .u64 (a:Int) (b:Int)=some (.int .u64 ((a*b:Nat):Int)):=by
 unfold intOp
 refine congrArg (fun v=>some (Value.int .u64 v)) ?_
 rw [← Int.natCast_mul,IntKind.wrap_u64]
 omega
theorem u_mulw (a b:Nat):intOp .mul .u64 (a:Int) (b:Int)=some (.int .u64 ((a*b%18446744073709551616:Nat):Int)):=by
 unfold intOp
 refine congrArg (fun v=>some (Value.int .u64 v)) ?_
 rw [← Int.natCast_mul,IntKind.wrap_u64]
 omega
theorem u_add (a b:Nat) (h:a+b<18446744073709551616):intOp .add .u64 (a:Int) (b:Int)=some (.int .u64 ((a+b:Nat):Int)):=by
 unfold intOp
 refine congrArg (fun v=>some (Value.int .u64 v)) ?_
 rw [← Int.natCast_add,IntKind.wrap_u64]
 omega
theorem u_half (a:Nat):Value.int .u64 ((a:Int).fdiv (2^(min (32:Int).toNat IntKind.u64.bits))) = .int .u64 ((a/4294967296:Nat):Int):=by
 refine congrArg (Value.int .u64) ?_
 have e:(2:Int)^(min (32:Int).toNat IntKind.u64.bits)=4294967296:=by decide
 rw [e,Int.fdiv_eq_ediv_of_nonneg _ oM]
 omega
theorem mul64_spec (x y:Nat) (hx:x<18446744073709551616) (hy:y<18446744073709551616):FnV prog 232 [.int .u64 x,.int .u64 y] [] (.tuple #[.int .u64 ((x*y/18446744073709551616:Nat):Int),.int .u64 ((x*y%18446744073709551616:Nat):Int)]):=by
 obtain ⟨bd,bt,bw,hhi⟩:=Lib.mul64_hi x y hx hy
 have ba:=Lib.half_mul_le (a:=x/4294967296) (b:=y/4294967296) oM oM
 have bb:=Lib.half_mul_le (a:=x/4294967296) (b:=y%4294967296) oM oM
 have bc:=Lib.half_mul_le (a:=x%4294967296) (b:=y/4294967296) oM oM
 refine Fn.enter func232 rfl ntmps232 oI (fun I0 w0 => ?_)
 repeat refine s4 ?_;try intro
 refine o_int rfl rfl rfl rfl (u_mask x hx) ?_
 repeat refine s4 ?_;try intro
 refine o_shr rfl rfl rfl rfl oE (u_half x) ?_
 repeat refine s4 ?_;try intro
 refine o_int rfl rfl rfl rfl (u_mask y hy) ?_
 repeat refine s4 ?_;try intro
 refine o_shr rfl rfl rfl rfl oE (u_half y) ?_
 repeat refine s4 ?_;try intro
 refine o_int rfl rfl rfl rfl (u_mul _ _ oM) ?_
 repeat refine s4 ?_;try intro
 refine o_int rfl rfl rfl rfl (u_mul _ _ oM) ?_
 repeat refine s4 ?_;try intro
 refine o_shr rfl rfl rfl rfl oE (u_half _) ?_
 repeat refine s4 ?_;try intro
 refine o_int rfl rfl rfl rfl (u_add _ _ oM) ?_
 repeat refine s4 ?_;try intro
 refine o_int rfl rfl rfl rfl (u_mask _ oM) ?_
 repeat refine s4 ?_;try intro
 refine o_shr rfl rfl rfl rfl oE (u_half _) ?_
 repeat refine s4 ?_;try intro
 refine o_int rfl rfl rfl rfl (u_mul _ _ oM) ?_
 repeat refine s4 ?_;try intro
 refine o_int rfl rfl rfl rfl (u_add _ _ oM) ?_
 repeat refine s4 ?_;try intro
 refine o_int rfl rfl rfl rfl (u_mul _ _ oM) ?_
 repeat refine s4 ?_;try intro
 refine o_int rfl rfl rfl rfl (u_add _ _ oM) ?_
 repeat refine s4 ?_;try intro
 refine o_shr rfl rfl rfl rfl oE (u_half _) ?_
 repeat refine s4 ?_;try intro
 refine o_int rfl rfl rfl rfl (u_add _ _ oM) ?_
 repeat refine s4 ?_;try intro
 refine o_int rfl rfl rfl rfl (u_mulw x y) ?_
 repeat refine s4 ?_;try intro
 refine G.ret rfl (.cons (.tmp rfl) (.cons (.tmp rfl) .nil)) (Φ':=[]) (M':=[]) oY oN ⟨?_,rfl,rfl⟩
 rw [hhi];rfl
end Go.Rail
namespace Go.Rail
open Go Go.Proofs Tryz
set_option maxHeartbeats 400000
set_option maxRecDepth 4000
attribute [local irreducible] OpK G W LW wpListIn Exit.then Exit.inBlock Post rounds opRun bodyPostM intOp
set_option maxHeartbeats 4000000
instance exMZ:ExtF prog 313 (Extern.BytealgMakeNoZero.makeNoZero #[3] #[34]):=⟨fun args w=>run_callFunc_extern func313 kR kR kR kR args w⟩
theorem bgrow_spec (B:Nat) (a:Option Addr) (n:Nat) (hn0:0<n) (hn:n≤1000000000):Fn prog 263 [.pointer (some ⟨B,0,none⟩),.int .i64 (n:Int)] [] (bldM B a (.slice none 0 0) [] none)
  (fun u Φ' M' => ∃ v o,IsBuf v [] o∧Φ'=[]∧M'=bldM B a v [] o):=by
 unfold bldM bufM
 refine Fn.enter func263 rfl ntmps263 oI (fun I0 w0 => ?_)
 repeat refine sq ?_;try intro
 refine W.drawNb 14 8 5 [dq _,dq _,dq _,dq _,dq _,dq _,dq _,dq _,⟨fun _ z => .slice (some ⟨nbB z,0,none⟩) n (nbC z).length,fun _ z=>[fPure (n≤(nbC z).length)]⟩,dq _,dq _,dq _,dq _,dq _] [[],[0],[1],[2],[3],[4],[],[5,6],[7],[],[9],[10],[11],[12]] [8,13] (hrest:=fun c=>nrmX ?_) (hops:=by
  iterate 4 refine AllX.au ?_
  refine AllX.a0 ?_ rfl kR (by intro c z0 Φr Lr K;refine nrmX ?_;intro hK;refine o_cap rfl rfl rfl ?_;exact hK z0)
  iterate 2 refine AllX.au ?_
  refine AllX.a0 ?_ rfl kR (by intro c z0 Φr Lr K;refine nrmX ?_;intro hK;refine o_int rfl rfl rfl rfl (n_addi oM) ?_;rw [show 2*0+n=n from by omega];exact hK z0)
  refine AllX.ai ?_ (by intro c z0 Φr Lr K;refine nrmX ?_;intro hK;refine o_makeNoZero (n:=n) oM rfl rfl rfl rfl ?_;intro b cs hcs;refine G.learn (fPure (n≤cs.length)) (e:=⟨fun _ _=>hcs⟩) ?_;exact hK (nbV b cs))
  iterate 5 refine AllX.au ?_
  exact AllX.end)
 refine LW.bare (G.use (p:=n≤(nbC (c 8)).length) (fun I hp=>hp (fPure _) (.head _)) ?_)
 intro hc
 generalize nbB (c 8)=b
 generalize nbC (c 8)=cs at hc ⊢
 dsimp only [List.drop_succ_cons,List.drop_zero]
 repeat refine sq ?_;try intro
 refine o_cutO 0 rfl rfl rfl ⟨_,_,rfl,rfl⟩ oM ?_
 repeat refine sq ?_;try intro
 refine o_copyNil rfl rfl rfl rfl ?_
 repeat refine sq ?_;try intro
 refine G.perm ?_ (List.Perm.swap _ _ _)
 exact G.fin rfl .nil (Φ':=[]) (M':=[(B,Ob [.pointer a,.slice (some ⟨b,0,none⟩) 0 cs.length] 181),(b,Ob cs 5)]) oY oZ ⟨.slice (some ⟨b,0,none⟩) 0 cs.length,some (b,cs,0),⟨by simp,Nat.le_refl _,by simp;omega⟩,rfl,rfl⟩
theorem bGrow_spec (B:Nat) (n:Nat) (hn0:0<n) (hn:n≤1000000000):Fn prog 179 [.pointer (some ⟨B,0,none⟩),.int .i64 (n:Int)] [] (bldM B none (.slice none 0 0) [] none)
  (fun u Φ' M' => ∃ v o,IsBuf v [] o∧Φ'=[]∧M'=bldM B (some ⟨B,0,none⟩) v [] o):=by
 have hc:=copyCheck_spec B none (.inl rfl) (.slice none 0 0)
 have hg:=bgrow_spec B (some ⟨B,0,none⟩) n hn0 hn
 unfold bldM bufM at *
 refine Fn.enter func179 rfl ntmps179 oI (fun I0 w0 => ?_)
 repeat refine sq ?_;try intro
 refine OpK.call rfl rfl rfl rfl hc oY (Mr:=[]) oP ?_
 rintro u Φ' Mc' ⟨rfl,rfl⟩
 refine nA ?_
 repeat refine sq ?_;try intro
 refine W.drawA 12 [dq _,dq _,dq _,dq _,dq _,dq _,dq _,dq _,dq _,dq _,dq _,dq _] [[],[0],[1],[2],[3],[],[5],[6],[7],[8],[4,9],[]] [10,11] (hrest:=fun c=>nrm ?_) (hops:=by
  iterate 4 refine AllQ.aq ?_
  refine AllQ.mk (by intro c z0 Φr Lr K;refine nrm ?_;intro hK;refine o_cap rfl rfl rfl ?_;exact hK z0) ?_
  iterate 7 refine AllQ.aq ?_
  exact AllQ.nil)
 repeat refine sq ?_;try intro
 refine OpK.call rfl rfl rfl rfl hg oY (Mr:=[]) oP ?_
 rintro u Φ' Mc' ⟨v,o,hb,rfl,rfl⟩
 refine G.perm ?_ (.of_eq (List.append_nil _))
 repeat refine sq ?_;try intro
 exact G.fin rfl .nil (Φ':=[]) (M':=(B,Ob [.pointer (some ⟨B,0,none⟩),v] 181)::bufM 5 [] o) oY oZ ⟨v,o,hb,rfl,rfl⟩
theorem bLen_spec (B:Nat) (a:Option Addr) (v:Value) (xs:List UInt8) (o:BO) (hv:IsBuf v xs o) :
  Fn prog 181 [.pointer (some ⟨B,0,none⟩)] [] (bldM B a v xs o) (fun u Φ' M'=>u = .int .i64 (xs.length:Int)∧Φ'=[]∧M'=bldM B a v xs o):=by
 unfold bldM
 cases o with
 | none =>
  obtain ⟨rfl,rfl⟩:=hv
  refine Fn.enter func181 rfl ntmps181 oI (fun I0 w0 => ?_)
  repeat refine sq ?_;try intro
  exact G.ret rfl (.cons (.tmp rfl) .nil) (Φ':=[]) (M':=(B,Ob [.pointer a,.slice none 0 0] 181)::bufM 5 [] none) oY oZ ⟨rfl,rfl,rfl⟩
 | some q =>
  obtain ⟨b,ex,k⟩:=q
  obtain ⟨rfl,hk1,hk2⟩:=hv
  refine Fn.enter func181 rfl ntmps181 oI (fun I0 w0 => ?_)
  repeat refine sq ?_;try intro
  exact G.ret rfl (.cons (.tmp rfl) .nil) (Φ':=[]) (M':=(B,Ob [.pointer a,.slice (some ⟨b,0,none⟩) xs.length (xs.length+ex.length)] 181)::bufM 5 xs (some (b,ex,k))) oY oZ ⟨rfl,rfl,rfl⟩
theorem mul_spec (n:Nat) (hn:n≤1000000000):FnV prog 177 [.int .u64 1,.int .u64 (n:Int)] [] (.tuple #[.int .u64 0,.int .u64 (n:Int)]):=by
 have h:=mul64_spec 1 n oE oM
 rw [show 1*n/18446744073709551616=0 from by omega,show 1*n%18446744073709551616=n from by omega] at h
 refine Fn.enter func177 rfl ntmps177 oI (fun I0 w0 => ?_)
 repeat refine sq ?_;try intro
 refine cV h ?_
 repeat refine sq ?_;try intro
 refine G.retV ?_
 rfl
structure RpSt where
 k:Nat
 v:Value
 o:BO
theorem repeat_spec (n:Nat) (hn:n≤100000000):FnV prog 93 [.string (ba [0]),.int .i64 (n:Int)] [] (.string (ba (List.replicate n 0))):=by
 have hm:=mul_spec n oM
 refine Fn.enter func93 rfl ntmps93 oI (fun I0 w0 => ?_)
 by_cases h0:n=0
 ·subst h0
  repeat refine sq ?_;try intro
  refine G.retV ?_
  rfl
 by_cases h1:n=1
 ·subst h1
  repeat refine sq ?_;try intro
  refine G.retV ?_
  rfl
 repeat refine sq ?_;try intro
 refine cV hm ?_
 repeat refine sq ?_;try intro
 refine o_ixG (l:=[0]) 0 0 rfl rfl rfl rfl rfl rfl ?_
 repeat refine sq ?_;try intro
 refine W.cutE (S:=Unit) (fun _=>([],[(8,.int .i64 ((min n 8192:Nat):Int)),(7,.int .i64 (n:Int)),(0,.string (ba [0]))],[])) (fun _=>True) ?_ ?_
 ·by_cases hn8:8192<n
  ·rw [show min n 8192=8192 from by omega]
   repeat refine sq ?_;try intro
   refine o_int rfl rfl rfl rfl (show intOp .mul .i64 ((8192/1:Nat):Int) ((1:Nat):Int)=some (.int .i64 8192) from by kernel_rfl) ?_
   repeat refine sq ?_;try intro
   exact G.kpE () trivial (show Ents _ [] from oY) (lC rfl (lC rfl (lC rfl lN))) oZ
  ·rw [show min n 8192=n from by omega]
   repeat refine sq ?_;try intro
   exact G.kpE () trivial (show Ents _ [] from oY) (lC rfl (lC rfl (lC rfl lN))) oZ
 rintro ⟨⟩ -
 dsimp only
 repeat refine sq ?_;try intro
 rename_i B
 have hgr:=bGrow_spec B n oM oM
 refine OpK.call rfl rfl rfl rfl hgr oY (Mr:=[]) oP ?_
 rintro u Φ' Mc' ⟨v,o,hb,rfl,rfl⟩
 rw [List.append_nil]
 dsimp only [List.nil_append]
 repeat refine sq ?_;try intro
 have hw:=writeString_spec B (some ⟨B,0,none⟩) (.inr rfl) v [] [0] o hb oI
 refine OpK.call rfl rfl rfl rfl hw oY (Mr:=[]) (by rw [List.append_nil]) ?_
 rintro u Φ' Mc' ⟨v,o,hb,rfl,rfl,rfl⟩
 rw [List.append_nil]
 dsimp only [List.nil_append]
 repeat refine sq ?_;try intro
 refine W.lp (S:=RpSt) (fun s=>([],[(9,.pointer (some ⟨B,0,none⟩)),(8,.int .i64 (min n 8192:Nat)),(7,.int .i64 (n:Int))],bldM B (some ⟨B,0,none⟩) s.v (List.replicate s.k 0) s.o)) (fun s=>0<s.k∧s.k≤n∧IsBuf s.v (List.replicate s.k 0) s.o) (fun s=>n-s.k) ⟨1,v,o⟩ ?_ (h0:=⟨Nat.zero_lt_one,by dsimp only;omega,hb⟩)
 rintro ⟨k,v,o⟩ ⟨hk0,hkn,hb⟩
 dsimp only at hk0 hkn hb ⊢
 have hxl:(List.replicate k (0:UInt8)).length=k:=List.length_replicate
 have hlen:=bLen_spec B (some ⟨B,0,none⟩) v (List.replicate k 0) o hb
 have hstr:=bString_spec B (some ⟨B,0,none⟩) v (List.replicate k 0) o hb oM
 rw [hxl] at hlen
 by_cases hke:k=n
 ·subst hke
  repeat refine sq ?_;try intro
  refine OpK.call rfl rfl rfl rfl hlen oY (Mr:=[]) (by rw [List.append_nil]) ?_
  rintro u Φ' Mc' ⟨rfl,rfl,rfl⟩
  rw [List.append_nil]
  dsimp only [List.nil_append]
  repeat refine sq ?_;try intro
  refine OpK.call rfl rfl rfl rfl hstr oY (Mr:=[]) (by rw [List.append_nil]) ?_
  rintro u Φ' Mc' ⟨o',hb',rfl,rfl,rfl⟩
  rw [List.append_nil]
  dsimp only [List.nil_append]
  repeat refine sq ?_;try intro
  refine G.retV ?_
  rfl
 ·repeat refine sq ?_;try intro
  refine OpK.call rfl rfl rfl rfl hlen oY (Mr:=[]) (by rw [List.append_nil]) ?_
  rintro u Φ' Mc' ⟨rfl,rfl,rfl⟩
  rw [List.append_nil]
  dsimp only [List.nil_append]
  repeat refine sq ?_;try intro
  refine OpK.call rfl rfl rfl rfl hlen oY (Mr:=[]) (by rw [List.append_nil]) ?_
  rintro u Φ' Mc' ⟨rfl,rfl,rfl⟩
  rw [List.append_nil]
  dsimp only [List.nil_append]
  repeat refine sq ?_;try intro
  refine OpK.call rfl rfl rfl rfl hlen oY (Mr:=[]) (by rw [List.append_nil]) ?_
  rintro u Φ' Mc' ⟨rfl,rfl,rfl⟩
  rw [List.append_nil]
  dsimp only [List.nil_append]
  repeat refine sq ?_;try intro
  obtain ⟨m,hm⟩ : ∃ m:Nat,m=min (n-k) (min k (min n 8192)):=⟨_,rfl⟩
  refine o_min3 rfl rfl rfl rfl rfl (v := .int .i64 (m:Int)) (congrArg (Value.int .i64) oM) ?_
  repeat refine sq ?_;try intro
  refine OpK.call rfl rfl rfl rfl hstr oY (Mr:=[]) oI ?_
  rintro u Φ' Mc' ⟨o',hb',rfl,rfl,rfl⟩
  rw [List.append_nil]
  dsimp only [List.nil_append]
  repeat refine sq ?_;try intro
  have e:((List.replicate k (0:UInt8)).take m).drop 0=List.replicate m 0:=by rw [List.drop_zero,List.take_replicate,Nat.min_eq_left oM]
  rw [e]
  have hw2:=writeString_spec B (some ⟨B,0,none⟩) (.inr rfl) v (List.replicate k 0) (List.replicate m 0) o' hb' (by rw [List.length_replicate,List.length_replicate];omega)
  refine OpK.call rfl rfl rfl rfl hw2 oY (Mr:=[]) oI ?_
  rintro u Φ' Mc' ⟨v2,o2,hb2,rfl,rfl,rfl⟩
  rw [List.append_nil]
  dsimp only [List.nil_append]
  rw [List.replicate_append_replicate] at hb2 ⊢
  repeat refine sq ?_;try intro
  exact G.ag (S:=RpSt) ⟨k+m,v2,o2⟩ (hpre:=⟨by dsimp only;omega,by dsimp only;omega,hb2⟩)
end Go.Rail
namespace Go.Rail
open Go Go.Proofs Tryz
set_option maxHeartbeats 400000
set_option maxRecDepth 4000
attribute [local irreducible] OpK G W LW wpListIn Exit.then Exit.inBlock Post rounds opRun bodyPostM intOp
set_option maxHeartbeats 4000000
theorem clone8_spec (v:Value) (xs:List UInt8) (hx:xs.length≤1000000):Fn prog 258 [v] [fRp v xs] [] (ROwn 5 xs):=by
 refine Fn.enter func258 rfl ntmps258 oI (fun I0 w0 => ?_)
 refine W.bare (G.sliceN v xs ?_)
 intro a cap hv hc hnil
 subst hv
 cases a with
 | none =>
  have hx0:=hnil rfl
  subst hx0
  repeat refine sq ?_;try intro
  refine o_eqNil rfl rfl rfl rfl rfl ?_
  repeat refine sq ?_;try intro
  exact G.ret rfl (.cons (.tmp rfl) .nil) oY oN ⟨none,⟨rfl,rfl⟩,rfl,rfl⟩
 | some ad =>
  repeat refine sq ?_;try intro
  refine o_eqNil rfl rfl rfl rfl rfl ?_
  repeat refine sq ?_;try intro
  refine o_litM (xs:=xs.take 0) ⟨by simp,rfl,by decide⟩ rfl rfl rfl RpL.nil rfl ?_
  intro b cs hcs
  repeat refine sq ?_;try intro
  refine o_app2 (Mr:=[]) (some (b,cs)) (xs:=xs.take 0) (ys:=xs) ⟨0,rfl,by simpa using hcs,by simp⟩ ⟨by simp;omega,by simp;omega,rfl⟩ rfl rfl rfl rfl (show Ent' _ (fRow cs (xs.take 0)) from oY) oY oP ?_
  intro v' o' hown'
  rw [show xs.take 0++xs=xs from rfl] at hown' ⊢
  repeat refine sq ?_;try intro
  exact G.ret rfl (.cons (.tmp rfl) .nil) oY oZ ⟨o',hown',rfl,rfl⟩
structure RevSt8 where
 i:Nat
 cs:List Value
 ys:List UInt8
def RevAt8 (xs ys:List UInt8) (i:Nat):Prop:=ys.length=xs.length ∧ ∀ k,k<xs.length→ys[k]? = if k<i∨xs.length-i≤k then xs[xs.length-1-k]? else xs[k]?
theorem RevAt8.step {xs ys:List UInt8} {i:Nat} (h:RevAt8 xs ys i) (hi:2*i+1<xs.length) (h1:i<ys.length) (h2:xs.length-1-i<ys.length):RevAt8 xs ((ys.set i ys[xs.length-1-i]).set (xs.length-1-i) ys[i]) (i+1):=by
 obtain ⟨hl,h⟩:=h
 refine ⟨by simp [hl],fun k hk => ?_⟩
 have e1:=h i oM
 have e2:=h (xs.length-1-i) oM
 rw [if_neg oM,List.getElem?_eq_getElem h1] at e1
 rw [if_neg oM,List.getElem?_eq_getElem h2] at e2
 by_cases a:k=xs.length-1-i
 ·subst a
  rw [List.getElem?_set_self oX,if_pos oM,e1]
  congr 1;omega
 ·rw [List.getElem?_set_ne (Ne.symm a)]
  by_cases c:k=i
  ·subst c
   rw [List.getElem?_set_self h1,if_pos oM,e2]
  ·rw [List.getElem?_set_ne (Ne.symm c),h k hk]
   by_cases q:k<i∨xs.length-i≤k
   ·rw [if_pos q,if_pos oM]
   ·rw [if_neg q,if_neg oM]
theorem RevAt8.done {xs ys:List UInt8} {i:Nat} (h:RevAt8 xs ys i) (hi:xs.length≤2*i+1) (hi2:i≤xs.length):ys=xs.reverse:=by
 obtain ⟨hl,h⟩:=h
 apply List.ext_getElem?
 intro k
 by_cases hk:k<xs.length
 ·rw [h k hk,List.getElem?_reverse hk]
  by_cases q:k<i∨xs.length-i≤k
  ·rw [if_pos q]
  ·rw [if_neg q];congr 1;omega
 ·rw [List.getElem?_eq_none oM,List.getElem?_eq_none oX]
theorem reverse8_spec (v:Value) (xs:List UInt8) (o:OR) (hx:xs.length≤1000000) (ho:IsOwn 1 v xs.length o):Fn prog 259 [v] [fRow (ocells o) xs] (ownM 5 o) (RIn 5 v xs.reverse):=by
 cases o with
 | none =>
  obtain ⟨rfl,hx0⟩:=ho
  have hxs:xs=[]:=List.length_eq_zero_iff.1 hx0
  subst hxs
  refine Fn.enter func259 rfl ntmps259 oI (fun I0 w0 => ?_)
  repeat refine sq ?_;try intro
  refine W.loopN 1 ?_
  repeat refine sq ?_;try intro
  exact G.fin rfl .nil (Φ':=[fRow [] ([]:List UInt8)]) oY oN ⟨none,⟨rfl,rfl⟩,rfl,rfl⟩
 | some q =>
  obtain ⟨b,cs0⟩:=q
  obtain ⟨cap,rfl,hcs0,hcap⟩:=ho
  refine Fn.enter func259 rfl ntmps259 oI (fun I0 w0 => ?_)
  repeat refine sq ?_;try intro
  refine W.loopI (fun (s:RevSt8)=>([fRow s.cs s.ys],[(0,.slice (some ⟨b,0,none⟩) xs.length cap),(2,.int .i64 s.i),(3,.int .i64 ((xs.length:Int)-1-s.i))],[(b,Ob s.cs 5)])) (fun s=>s.i≤xs.length∧s.cs.length=cs0.length∧RevAt8 xs s.ys s.i) (fun s=>xs.length-s.i) ⟨0,cs0,xs⟩ ⟨by simp,rfl,rfl,fun k hk=>by rw [if_neg (by dsimp only;omega)]⟩ ⟨fun I hp φ hφ => ?_⟩ (lC rfl (lC rfl (lC ?_ lN))) oZ ?_
  ·rcases List.mem_cons.1 hφ with rfl|h
   ·exact hp _ (.head _)
   ·cases h
  ·exact congrArg (fun n=>some (Value.int .i64 n)) (by dsimp only;omega)
  rintro ⟨i,cs,ys⟩ ⟨hi,hcs,hr⟩
  dsimp only at hi hcs hr ⊢
  have hl:=hr.1
  by_cases hd:xs.length≤2*i+1
  ·repeat refine sq ?_;try intro
   have e:=hr.done hd hi
   subst e
   exact G.fin rfl .nil (Φ':=[fRow cs xs.reverse]) oY oZ ⟨some (b,cs),⟨cap,by simp,by rw [hcs];exact hcs0,by simpa using hcap⟩,rfl,rfl⟩
  ·have h1:i<ys.length:=by omega
   have h2:xs.length-1-i<ys.length:=by omega
   repeat refine sq ?_;try intro
   refine W.drawX 16 (fun D c=>[(b,Ob (bif D 15 then cellsL (c 15) else bif D 13 then cellsL (c 13) else cs) 5)]) [⟨?v0_1,fun _ z=>[]⟩,⟨?v1_1,fun _ z=>[]⟩,⟨?v2_1,fun _ z=>[]⟩,⟨?v3_1,fun _ z=>[]⟩,⟨?v4_1,fun _ z=>[]⟩,⟨?v5_1,fun _ z=>[]⟩,⟨?v6_1,fun _ z=>[]⟩,⟨?v7_1,fun _ z=>[]⟩,⟨?v8_1,fun _ z=>[]⟩,⟨?v9_1,fun _ z=>[]⟩,⟨?v10_1,fun _ z=>[]⟩,⟨?v11_1,fun _ z=>[]⟩,⟨?v12_1,fun _ z=>[]⟩,⟨fun _ z=>z,fun _ z=>[fPure ((cellsL z).length=cs.length),fRow (cellsL z) (ys.set i ys[xs.length-1-i])]⟩,⟨?v14_1,fun _ z=>[]⟩,⟨fun _ z=>z,fun _ z=>[fPure ((cellsL z).length=cs.length),fRow (cellsL z) ((ys.set i ys[xs.length-1-i]).set (xs.length-1-i) ys[i])]⟩] [[],[],[],[],[],[],[4,5],[6],[],[],[8,9],[10],[0,1],[7,12],[2,3],[11,13,14]] [15] kR kR kR kR ?loc_1 ?hz_1 ?ops_1 ?rest_1
   case ops_1 =>
    simp only [AllX,Nat.reduceAdd,and_true]
    refine ⟨?_,?_,?_,?_,?_,?_,?_,?_,?_,?_,?_,?_,?_,?_,?_,?_⟩
    all_goals (intro D c z0 Φr Lr K hDi hAnc hDn hK;dsimp only [dstOf,dstX,putX,kval,kfac,ancE,ancX,ancF,getD_z,getD_s,List.getElem?_cons_zero,List.getElem?_cons_succ,List.getElem?_nil,Option.getD_some,Option.getD_none,List.nil_append,List.cons_append,Option.getD] at hK ⊢)
    iterate 6 (refine stp ?_;exact hK z0)
    ·refine o_idxO rfl rfl rfl rfl oM oM (o':=xs.length-1-i) oM ?_;exact hK z0
    ·have h13:D 13=false:=dnF hDn hDi kR;have h15:D 15=false:=dnF hDn hDi kR;simp only [updD,h13,h15,Nat.reduceEqDiff,↓reduceIte,cond_false] at hK ⊢;refine o_loadO (α:=UInt8) (xs:=ys) (xs.length-1-i) h2 rfl rfl rfl rfl (Nat.mul_one _).symm ?_;exact hK z0
    ·refine stp ?_;exact hK z0
    ·refine stp ?_;exact hK z0
    ·refine o_idxO rfl rfl rfl rfl oM oM (o':=i) oM ?_;exact hK z0
    ·have h13:D 13=false:=dnF hDn hDi kR;have h15:D 15=false:=dnF hDn hDi kR;simp only [updD,h13,h15,Nat.reduceEqDiff,↓reduceIte,cond_false] at hK ⊢;refine o_loadO (α:=UInt8) (xs:=ys) i h1 rfl rfl rfl rfl (Nat.mul_one _).symm ?_;exact hK z0
    ·refine o_idxO rfl rfl rfl rfl oM oM (o':=i) oM ?_;exact hK z0
    ·have h15:D 15=false:=dnF hDn hDi kR;simp only [updD,updC,hDi,h15,Nat.reduceEqDiff,↓reduceIte,cond_false,cond_true] at hK ⊢;refine o_storeO (α:=UInt8) ys[xs.length-1-i] i h1 rfl rfl rfl ⟨fun _ _=>Rp.flat.2 rfl⟩ (Nat.mul_one _).symm ?_;intro cs1 hc1;refine G.learn (fPure ((cellsL (.agg cs1.toArray)).length=cs.length)) (e:=⟨fun _ _=>hc1⟩) ?_;exact hK (.agg cs1.toArray)
    ·refine o_idxO rfl rfl rfl rfl oM oM (o':=xs.length-1-i) oM ?_;exact hK z0
    ·have h13:D 13=true:=hAnc 13 kR;simp only [updD,updC,hDi,h13,Nat.reduceEqDiff,↓reduceIte,cond_false,cond_true] at hK ⊢;refine OpK.bare (G.use (p:=(cellsL (c 13)).length=cs.length) (fun I hp=>hp (fPure _) (by first|exact .head _|exact .tail _ (.head _)|exact .tail _ (.tail _ (.head _)))) ?_);intro hc13;refine OpK.back ?_;refine o_storeO (α:=UInt8) (xs:=ys.set i ys[xs.length-1-i]) ys[i] (xs.length-1-i) oX rfl rfl rfl ⟨fun _ _=>Rp.flat.2 rfl⟩ (Nat.mul_one _).symm ?_;intro cs1 hc1;refine G.learn (fPure ((cellsL (.agg cs1.toArray)).length=cs.length)) (e:=⟨fun _ _=>hc1.trans hc13⟩) ?_;exact hK (.agg cs1.toArray)
   case hz_1=>intro c;rfl
   case loc_1 =>
    simp only [AllL,Nat.reduceAdd,and_true]
    refine ⟨?_,?_,?_,?_,?_,?_,?_,?_,?_,?_,?_,?_,?_,?_,?_,?_⟩
    all_goals (intro c c' z h;first|exact ⟨rfl,rfl⟩|(skip))
   intro c
   dsimp only [dstOf,dstX,putX,kval,kfac,ancE,ancX,ancF,getD_z,getD_s,List.getElem?_cons_zero,List.getElem?_cons_succ,List.getElem?_nil,Option.getD_some,Option.getD_none,List.nil_append,List.cons_append,List.drop_succ_cons,List.drop_zero,Option.getD]
   refine LW.bare (G.use (p:=(cellsL (c 15)).length=cs.length) (fun I hp=>hp (fPure _) (.head _)) ?_)
   intro hc15
   repeat refine sq ?_;try intro
   refine G.again (S:=RevSt8) ⟨i+1,cellsL (c 15),(ys.set i ys[xs.length-1-i]).set (xs.length-1-i) ys[i]⟩ (by dsimp only;omega) ⟨by dsimp only;omega,by dsimp only;omega,hr.step oM h1 h2⟩ oY (lC rfl (lC rfl (lC ?_ lN))) oZ
   exact congrArg (fun n=>some (Value.int .i64 n)) (by dsimp only;omega)

theorem reversed8_spec (v:Value) (xs:List UInt8) (hx:xs.length≤1000000):FnD prog 175 [v] [fRp v xs] (fun u=>[fRp u xs.reverse]):=by
 refine Fn.enter func175 rfl ntmps175 oI (fun I0 w0 => ?_)
 repeat refine sq ?_;try intro
 refine o_callO rfl rfl rfl rfl (clone8_spec v xs hx) ?_
 intro u o ho
 repeat refine sq ?_;try intro
 refine o_callI (Mr:=[]) o rfl rfl rfl rfl (reverse8_spec u xs o hx ho) oP ?_
 intro r o' ho'
 repeat refine sq ?_;try intro
 refine G.giveOwn2 (Mr:=[]) u xs.reverse o' 5 ho' oY oP ?_
 exact G.ret rfl (.cons (.tmp rfl) .nil) (Φ':=[fRp u xs.reverse]) (M':=[]) oY oN ⟨rfl,rfl⟩

theorem last8_spec (v:Value) (xs:List UInt8) (hx:xs.length≤1000000):FnD prog 176 [v,.int .i64 32] [fRp v xs] (fun u=>[fRp u (xs.drop (xs.length-32))]):=by
 refine Fn.enter func176 rfl ntmps176 oI (fun I0 w0 => ?_)
 refine W.bare (G.slice v xs ?_);intro ad cap e1 k1;subst e1
 refine G.code ?_
 repeat refine sq ?_;try intro
 refine o_slice (xs.length-32) xs.length rfl rfl rfl ⟨_,_,rfl,by split<;>omega⟩ bd0 oM (Nat.le_refl _) ?_
 intro u
 rw [List.take_length]
 repeat refine sq ?_;try intro
 exact G.retD rfl rfl
end Go.Rail
namespace Go.Rail
open Go Go.Proofs Tryz
set_option maxHeartbeats 400000
set_option maxRecDepth 4000
attribute [local irreducible] OpK G W LW wpListIn Exit.then Exit.inBlock Post rounds opRun bodyPostM intOp
set_option maxHeartbeats 4000000
theorem p64 (i:Nat):(2:Nat)^(64*i)=256^(8*i):=by
 have:=Nat.pow_mul 2 8 (8*i)
 rw [show 8*(8*i)=64*i from by omega] at this
 exact this
theorem dig_word {n i k:Nat} (hk:k<8):n/2^(64*i)%18446744073709551616/256^k%256=dg n (8*i+k):=by
 rw [show (18446744073709551616:Nat)=256^8 from rfl,dig_mod oE hk,Nat.div_div_eq_div_mul,p64,← Nat.pow_add]
theorem digitsN_spec (n:Nat):Fn prog 47 [.agg (numC 4 n).toArray] [] [] (ROwn 3 (rowN 32 (dg n))):=by
 refine Fn.enter func47 rfl ntmps47 oI (fun I0 w0 => ?_)
 repeat refine sq ?_;try intro
 rename_i b
 refine W.lp (S:=Nat × Value × OR) (fun s=>([fRow (ocells s.2.2) (rowN (8*s.1) (dg n))],[(4,.int .i64 (s.1:Int)),(3,s.2.1),(1,.pointer (some ⟨b,0,none⟩))],[(b,Ob (numC 4 n) 49)]++ownM 3 s.2.2)) (fun s=>s.1≤4∧IsOwn 1 s.2.1 (8*s.1) s.2.2) (fun s=>4-s.1) (0,.slice none 0 0,none) ?_ (h0:=⟨Nat.zero_le _,rfl,rfl⟩) (hΦ:=by dsimp only [Nat.mul_zero,rowN,rowZ_zero,ocells];infer_instance) (hM:=by (repeat (first|exact List.Sublist.refl _|apply List.Sublist.cons_cons|apply List.Sublist.cons)))
 rintro ⟨i,v,o⟩ ⟨hi,hown⟩
 dsimp only [List.cons_append,List.nil_append] at hi hown ⊢
 by_cases hi4:i=4
 ·subst hi4
  repeat refine sq ?_;try intro
  exact G.ret rfl (.cons (.tmp rfl) .nil) (M':=ownM 3 o) oY (List.Sublist.cons _ oZ) ⟨o,by rw [rowZ_length];exact hown,rfl,rfl⟩
 ·repeat refine sq ?_;try intro
  refine W.lp (S:=Nat × Nat × Value × OR) (fun s=>([fRow (ocells s.2.2.2) (rowN (8*i+s.1) (dg n))],[(6,.int .i64 (s.1:Int)),(5,.int .u64 (s.2.1:Int)),(4,.int .i64 (i:Int)),(3,s.2.2.1),(1,.pointer (some ⟨b,0,none⟩))],[(b,Ob (numC 4 n) 49)]++ownM 3 s.2.2.2)) (fun s=>s.1≤8∧s.2.1=n/2^(64*i)%18446744073709551616/256^s.1∧s.2.1<18446744073709551616∧IsOwn 1 s.2.2.1 (8*i+s.1) s.2.2.2) (fun s=>8-s.1) (0,n/2^(64*i)%18446744073709551616,v,o) ?_ (h0:=⟨Nat.zero_le _,by simp,Nat.mod_lt _ oE,hown⟩)
  rintro ⟨k,x,w,p⟩ ⟨hk,hx,hx64,hown2⟩
  dsimp only [List.cons_append,List.nil_append] at hk hx hx64 hown2 ⊢
  by_cases hk8:k=8
  ·subst hk8
   repeat refine sq ?_;try intro
   exact G.ag (S:=Nat × Value × OR) (i+1,w,p) (hpre:=⟨by dsimp only;omega,hown2⟩)
  ·have hd:=dig_word (n:=n) (i:=i) (k:=k) oM
   rw [← hx] at hd
   have hd2:=rowZ_succ (8*i+k) (fun i=>((dg n i:Nat):Int))
   rw [← hd] at hd2
   have hx2:x/256=n/2^(64*i)%18446744073709551616/256^(k+1):=by rw [hx,Nat.div_div_eq_div_mul,Nat.pow_succ]
   repeat refine sq ?_;try intro
   refine o_app2 (Mr:=[(b,Ob (numC 4 n) 49)]) p (xs:=rowN (8*i+k) (dg n)) (ys:=[((x%256:Nat):Int)]) (by rw [rowZ_length];exact hown2) ⟨by simp [rowZ_length];omega,by simp [rowZ_length];omega,rfl⟩ rfl rfl rfl rfl oY oY oP ?_
   intro w' p' hown'
   rw [← hd2] at hown' ⊢
   rw [rowZ_length] at hown'
   refine nA ?_
   repeat refine sq ?_;try intro
   exact G.ag (S:=Nat × Nat × Value × OR) (k+1,x/256,w',p') (hpre:=⟨by dsimp only;omega,hx2,by dsimp only;omega,hown'⟩)
end Go.Rail
