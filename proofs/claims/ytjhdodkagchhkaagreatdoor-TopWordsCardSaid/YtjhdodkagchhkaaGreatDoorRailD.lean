/- From arguments to facts; plain laws; maps; rows of one's own; lending. -/
import Derived.Test.YtjhdodkagchhkaaGreatDoorRailA
import Derived.Test.YtjhdodkagchhkaaGreatDoorRailB
import Derived.ProofKit
import Derived.SizedLaws
import Derived.Test.YtjhdodkagchhkaaGreatDoorRailC
set_option linter.unusedSimpArgs false
set_option linter.unusedVariables false
namespace Go.Rail
open Go
theorem mapM_get {α β:Type} {f:α→Option β} : ∀ {l:List α} {r:List β},l.mapM f=some r→r.length=l.length ∧ ∀ (i:Nat) (a:α) (b:β),l[i]? = some a→r[i]? = some b→f a=some b
 | [],r,h=>by
  simp at h;subst h
  exact ⟨rfl,fun i a b ha=>by simp at ha⟩
 | x::l,r,h=>by
  simp only [List.mapM_cons,Option.bind_eq_bind,Option.bind_eq_some_iff,Option.pure_def,Option.some.injEq] at h
  obtain ⟨y,hy,r',hr',rfl⟩:=h
  obtain ⟨h1,h2⟩:=mapM_get hr'
  refine ⟨by simp [h1],fun i a b ha hb => ?_⟩
  cases i with
  | zero=>simp at ha hb;subst ha hb;exact hy
  | succ i=>exact h2 i a b (by simpa using ha) (by simpa using hb)

def RdH (P:Program) (t:TypeId) (α:Type) [GoTy α] (ok:α→Prop):Prop :=
 ∀ {H:Type} (enc:TypeId × Value→H) (W:World) (fuel:Nat) (cs:List Value) (d:DataW H) (ps:List MemPlace),DataW.trod enc P W 0 (fun _=>true) true fuel t cs=some (d,ps) →
  (∀ n∈d.weights P t,n≤reachBytes) → ∃ x:α,GoTy.rep (fun b=>W.heap[b]?) cs x∧ok x

section
variable {P:Program} {t e:TypeId}
theorem trod_bool {H:Type} {enc:TypeId × Value→H} {W:World} {fuel:Nat} {cs:List Value} {d:DataW H} {ps:List MemPlace} (hu:P.underlying t=some .bool) (h:DataW.trod enc P W 0 (fun _=>true) true fuel t cs=some (d,ps)) : ∃ b,cs=[.bool b]:=by
 cases fuel with
 | zero=>simp [DataW.trod] at h
 | succ n =>
  unfold DataW.trod at h
  rw [hu] at h
  split at h<;>simp_all
theorem RdH.bool (hu:P.underlying t=some .bool):RdH P t Bool (fun _=>True):=by
 intro H enc W fuel cs d ps h _
 obtain ⟨b,rfl⟩:=trod_bool hu h
 exact ⟨b,rfl,trivial⟩
theorem trod_int {H:Type} {enc:TypeId × Value→H} {W:World} {fuel:Nat} {cs:List Value} {d:DataW H} {ps:List MemPlace} {k:IntKind} (hu:P.underlying t=some (.int k)) (h:DataW.trod enc P W 0 (fun _=>true) true fuel t cs=some (d,ps)) : ∃ n,cs=[.int k n]∧(Lit.int k n).wf=true:=by
 cases fuel with
 | zero=>simp [DataW.trod] at h
 | succ m =>
  unfold DataW.trod at h
  rw [hu] at h
  split at h<;>simp_all
theorem RdH.int (hu:P.underlying t=some (.int .i64)):RdH P t Int (fun n => -9223372036854775808≤n∧n≤9223372036854775807):=by
 intro H enc W fuel cs d ps h _
 obtain ⟨n,rfl,hn⟩:=trod_int hu h
 refine ⟨n,rfl,?_⟩
 simpa [Lit.wf,IntKind.min,IntKind.max,IntKind.signed,IntKind.bits] using hn
theorem RdH.u8 (hu:P.underlying t=some (.int .u8)):RdH P t UInt8 (fun _=>True):=by
 intro H enc W fuel cs d ps h _
 obtain ⟨n,rfl,hn⟩:=trod_int hu h
 have h1:0≤n∧n≤255:=by simpa [Lit.wf,IntKind.min,IntKind.max,IntKind.signed,IntKind.bits] using hn
 refine ⟨UInt8.ofNat n.toNat,?_,trivial⟩
 show [Value.int .u8 n]=[.int .u8 ((UInt8.ofNat n.toNat).toNat:Int)]
 have:(UInt8.ofNat n.toNat).toNat=n.toNat:=by simp [UInt8.toNat_ofNat];omega
 rw [this]
 congr 2;omega
theorem RdH.u64 (hu:P.underlying t=some (.int .u64)):RdH P t UInt64 (fun _=>True):=by
 intro H enc W fuel cs d ps h _
 obtain ⟨n,rfl,hn⟩:=trod_int hu h
 have h1:0≤n∧n≤18446744073709551615:=by simpa [Lit.wf,IntKind.min,IntKind.max,IntKind.signed,IntKind.bits] using hn
 refine ⟨UInt64.ofNat n.toNat,?_,trivial⟩
 show [Value.int .u64 n]=[.int .u64 ((UInt64.ofNat n.toNat).toNat:Int)]
 have:(UInt64.ofNat n.toNat).toNat=n.toNat:=by simp [UInt64.toNat_ofNat];omega
 rw [this]
 congr 2;omega

theorem weightsAll_mem {H:Type} : ∀ {ds:List (DataW H)} {d:DataW H},d∈ds → ∀ n∈d.weights P e,n∈DataW.weightsAll P e ds
 | a::ds,d,h,n,hn=>by
  rw [DataW.weightsAll,List.mem_append]
  rcases List.mem_cons.1 h with rfl|h
  ·exact .inl hn
  ·exact .inr (weightsAll_mem h n hn)

theorem list_of {α:Type} (n:Nat) (R:Nat→α→Prop) (h : ∀ i,i<n → ∃ x,R i x) : ∃ l:List α,l.length=n ∧ ∀ i (hi:i<l.length),R i l[i]:=by
 induction n with
 | zero=>exact ⟨[],rfl,fun i hi=>by simp at hi⟩
 | succ n ih =>
  obtain ⟨l,hl,hR⟩:=ih (fun i hi=>h i oM)
  obtain ⟨x,hx⟩:=h n oM
  refine ⟨l++[x],by simp [hl],fun i hi => ?_⟩
  by_cases e:i<l.length
  ·rw [List.getElem_append_left e];exact hR i e
  ·have:i=n:=by simp at hi;omega
   subst this
   rw [List.getElem_append_right oM]
   simpa using hx

theorem cells_get {W:World} {a:Addr} {n:Nat} {cs:List Value} (h:W.cells? 0 a n=some cs):cs.length=n ∧ ∀ i,i<n→W.cell? (a.add i)=cs[i]? := by
 unfold World.cells? at h
 rw [if_pos (Nat.zero_le _)] at h
 obtain ⟨h1,h2⟩:=mapM_get h
 rw [List.length_range] at h1
 refine ⟨h1,fun i hi => ?_⟩
 have h3:=h2 i i cs[i] (by rw [List.getElem?_range hi]) (by rw [List.getElem?_eq_getElem oM])
 rw [h3,List.getElem?_eq_getElem oM]
theorem cell_block {W:World} {a:Addr} {v:Value} (h:W.cell? a=some v):a.spot=none ∧ ∃ c t fr,W.heap[a.block]? = some (.cells c t fr)∧c[a.off]? = some v:=by
 unfold World.cell? at h
 cases hb:W.heap[a.block]? with
 | none=>rw [hb] at h;simp at h
 | some o =>
  rw [hb] at h
  cases o<;>simp at h
  rename_i c t fr
  exact ⟨by simpa using h.1,c,t,fr,rfl,h.2⟩
theorem RdH.slice {α:Type} [GoTy α] {ok:α→Prop} (hu:P.underlying t=some (.slice e)) (hc:P.cellsOf e=GoTy.sz α) (hs:0<GoTy.sz α) (hb:0<P.bytesOf e) (he:RdH P e α ok):RdH P t (List α) (fun xs=>xs.length≤reachBytes ∧ ∀ x∈xs,ok x):=by
 intro H enc W fuel cs d ps h hw
 have nil : ∀ (a:Option Addr) (cap:Nat),∃ x:List α,GoTy.rep (fun b=>W.heap[b]?) [.slice a 0 cap] x∧(x.length≤reachBytes ∧ ∀ y∈x,ok y):=fun a cap=>⟨[],⟨a,cap,rfl,Nat.zero_le _,fun hn=>absurd rfl hn⟩,by simp,by simp⟩
 cases fuel with
 | zero=>simp [DataW.trod] at h
 | succ m =>
  have key:cs=[.slice none 0 0] ∨ ∃ a len cap,cs=[.slice (some a) len cap]:=by
   unfold DataW.trod at h
   rw [hu] at h
   split at h<;>simp_all
  rcases key with rfl|⟨a,len,cap,rfl⟩
  ·exact nil none 0
  ·unfold DataW.trod at h
   simp only [hu] at h
   split at h
   ·rename_i hif
    simp only [Option.bind_eq_some_iff,Option.map_eq_some_iff,Prod.mk.injEq] at h
    obtain ⟨elems,hel,rest,hre,rfl,rfl⟩:=h
    obtain ⟨hl1,hl2⟩:=mapM_get hel
    rw [List.length_range] at hl1
    have hlw:len≤reachBytes:=by
     have h9:=hw ((elems.map (·.1)).length+(rest.map (·.1)).length |> (· * P.bytesOf e)) (by simp [DataW.weights,hu])
     simp only [List.length_map] at h9
     have h10:elems.length+rest.length≤(elems.length+rest.length)*P.bytesOf e:=Nat.le_mul_of_pos_right _ hb
     omega
    obtain ⟨l,hll,hR⟩:=list_of (α:=α) len (fun i x => ∃ ci,W.cells? 0 (a.add (i*P.cellsOf e)) (P.cellsOf e)=some ci∧GoTy.rep (fun b=>W.heap[b]?) ci x∧ok x) (fun i hi=>by
     have h5:=hl2 i i elems[i] (by rw [List.getElem?_range hi]) (by rw [List.getElem?_eq_getElem oM])
     obtain ⟨ci,hci,htr⟩:=Option.bind_eq_some_iff.1 h5
     obtain ⟨x,hx,hox⟩:=he enc W m ci elems[i].1 elems[i].2 htr (fun n hn=>hw n (by
      simp only [DataW.weights,hu,List.mem_cons,List.mem_append]
      exact .inr (.inl (weightsAll_mem (List.mem_map_of_mem (List.getElem_mem _)) n hn))))
     exact ⟨x,ci,hci,hx,hox⟩)
    refine ⟨l,⟨some a,cap,by rw [hll],by omega,fun hne => ?_⟩,by omega,fun x hx => ?_⟩
    ·have hlen:0<l.length:=List.length_pos_iff.2 hne
     obtain ⟨c0,hc0,_,_⟩:=hR 0 hlen
     obtain ⟨h01,h02⟩:=cells_get hc0
     have h03:=h02 0 oM
     rw [List.getElem?_eq_getElem oM,Nat.zero_mul] at h03
     have ea:(a.add 0).add 0=a:=by simp [Addr.add]
     rw [ea] at h03
     obtain ⟨hsp,c,ct,fr,hbk,_⟩:=cell_block h03
     obtain ⟨b,off,sp⟩:=a
     simp only at hsp hbk
     subst hsp
     have hcell : ∀ k (hk:k<l.length),∃ ck:List Value,ck.length=GoTy.sz α∧(∀ j,j<GoTy.sz α→c[off+k*GoTy.sz α+j]? = ck[j]?)∧GoTy.rep (fun b=>W.heap[b]?) ck l[k]:=by
      intro k hk
      obtain ⟨ck,hck,hrk,_⟩:=hR k hk
      obtain ⟨h1,h2⟩:=cells_get hck
      rw [hc] at h1 h2
      refine ⟨ck,h1,fun j hj => ?_,hrk⟩
      have h3:=h2 j hj
      rw [add_mk,add_mk] at h3
      rw [← h3]
      simp [World.cell?,hbk]
     have hsize:off+l.length*GoTy.sz α≤c.size:=by
      obtain ⟨ck,h1,h2,_⟩:=hcell (l.length-1) oM
      have h3:=h2 (GoTy.sz α-1) oM
      rw [List.getElem?_eq_getElem oM] at h3
      have h4:=(Array.getElem?_eq_some_iff.1 h3).1
      have h5:l.length*GoTy.sz α=(l.length-1)*GoTy.sz α+GoTy.sz α:=by
       rw [← Nat.succ_mul];congr 1;omega
      omega
     refine ⟨⟨b,off,none⟩,c,ct,fr,rfl,rfl,hbk,by simpa using hsize,fun k hk => ?_⟩
     obtain ⟨ck,h1,h2,h3⟩:=hcell k hk
     have:chunk c.toList off (GoTy.sz α) k=ck:=by
      apply List.ext_getElem?
      intro j
      unfold chunk
      rw [List.getElem?_take]
      by_cases hj:j<GoTy.sz α
      ·rw [if_pos hj,List.getElem?_drop,← h2 j hj];simp
      ·rw [if_neg hj,List.getElem?_eq_none oM]
     show GoTy.rep _ (chunk c.toList off (GoTy.sz α) k) l[k]
     rw [this];exact h3
    ·obtain ⟨i,hi,rfl⟩:=List.getElem_of_mem hx
     obtain ⟨_,_,_,hox⟩:=hR i hi
     exact hox
   ·simp at h
theorem weightsEach_mem {H:Type} : ∀ {ts:List TypeId} {ds:List (DataW H)} {i:Nat} {u:TypeId} {d:DataW H},ts[i]? = some u→ds[i]? = some d → ∀ n∈d.weights P u,n∈DataW.weightsEach P ts ds
 | [],_,i,u,d,h,_,_,_=>by simp at h
 | _::_,[],i,u,d,_,h,_,_=>by simp at h
 | a::ts,b::ds,i,u,d,h,k,n,hn=>by
  rw [DataW.weightsEach,List.mem_append]
  cases i with
  | zero=>simp at h k;subst h k;exact .inl hn
  | succ i=>exact .inr (weightsEach_mem (by simpa using h) (by simpa using k) n hn)
theorem trod_len {H:Type} {enc:TypeId × Value→H} {W:World} {fuel:Nat} {cs:List Value} {d:DataW H} {ps:List MemPlace} {fs:Array Field} (hu:P.underlying t=some (.struct fs)) (h:DataW.trod enc P W 0 (fun _=>true) true fuel t cs=some (d,ps)):cs.length=P.cellsOf t:=by
 cases fuel with
 | zero=>simp [DataW.trod] at h
 | succ m =>
  unfold DataW.trod at h
  simp only [hu] at h
  split at h
  ·assumption
  ·cases h
theorem trod_field {H:Type} {enc:TypeId × Value→H} {W:World} {fuel:Nat} {cs:List Value} {d:DataW H} {ps:List MemPlace} {fs:Array Field} {α:Type} [GoTy α] {ok:α→Prop} (hu:P.underlying t=some (.struct fs)) (h:DataW.trod enc P W 0 (fun _=>true) true fuel t cs=some (d,ps)) (hw : ∀ n∈d.weights P t,n≤reachBytes)
  (i:Nat) {f:Field} (hf:fs.toList[i]? = some f) (hr:RdH P f.type α ok) : ∃ x:α,GoTy.rep (fun b=>W.heap[b]?) ((cs.drop f.offset).take (P.cellsOf f.type)) x∧ok x:=by
 cases fuel with
 | zero=>simp [DataW.trod] at h
 | succ m =>
  unfold DataW.trod at h
  simp only [hu] at h
  split at h
  ·simp only [Option.map_eq_some_iff,Prod.mk.injEq] at h
   obtain ⟨xs,hxs,rfl,rfl⟩:=h
   obtain ⟨hl1,hl2⟩:=mapM_get hxs
   have hil:i<xs.length:=by rw [hl1];exact (List.getElem?_eq_some_iff.1 hf).1
   have h5:=hl2 i f xs[i] hf (List.getElem?_eq_getElem hil)
   refine hr enc W m _ xs[i].1 xs[i].2 h5 (fun n hn=>hw n ?_)
   simp only [DataW.weights,hu]
   exact weightsEach_mem (i:=i) (u:=f.type) (d:=xs[i].1) (by simpa using congrArg (Option.map Field.type) hf) (by simp [hil]) n hn
  ·cases h
theorem trod_arr {H:Type} {enc:TypeId × Value→H} {W:World} {fuel:Nat} {cs:List Value} {d:DataW H} {ps:List MemPlace} {n:Nat} {α:Type} [GoTy α] {ok:α→Prop} (hu:P.underlying t=some (.array n e)) (hc:P.cellsOf e=GoTy.sz α) (hct:P.cellsOf t=n*GoTy.sz α) (h:DataW.trod enc P W 0 (fun _=>true) true fuel t cs=some (d,ps)) (hw : ∀ n∈d.weights P t,n≤reachBytes)
  (hr:RdH P e α ok) : ∃ l:List α,l.length=n∧cs.length=n*GoTy.sz α∧RowRep (fun b=>W.heap[b]?) cs 0 l ∧ ∀ x∈l,ok x:=by
 cases fuel with
 | zero=>simp [DataW.trod] at h
 | succ m =>
  unfold DataW.trod at h
  simp only [hu] at h
  split at h
  ·rename_i hlen
   simp only [Option.map_eq_some_iff,Prod.mk.injEq] at h
   obtain ⟨xs,hxs,rfl,rfl⟩:=h
   obtain ⟨hl1,hl2⟩:=mapM_get hxs
   rw [List.length_range] at hl1
   obtain ⟨l,hll,hR⟩:=list_of (α:=α) n (fun i x=>GoTy.rep (fun b=>W.heap[b]?) ((cs.drop (i*P.cellsOf e)).take (P.cellsOf e)) x∧ok x) (fun i hi=>by
    have h5:=hl2 i i xs[i] (by rw [List.getElem?_range hi]) (by rw [List.getElem?_eq_getElem oM])
    exact hr enc W m _ xs[i].1 xs[i].2 h5 (fun n hn=>hw n (by
     simp only [DataW.weights,hu]
     exact weightsAll_mem (List.mem_map_of_mem (List.getElem_mem _)) n hn)))
   refine ⟨l,hll,by rw [hlen,hct],⟨by rw [hlen,hct,hll];omega,fun k hk => ?_⟩,fun x hx => ?_⟩
   ·have:=(hR k hk).1
    rw [hc] at this
    unfold chunk
    rw [Nat.zero_add];exact this
   ·obtain ⟨i,hi,rfl⟩:=List.getElem_of_mem hx
    exact (hR i hi).2
  ·cases h
theorem row_cells {α:Type} [GoTy α] [GoFlat α] {I:Imm} {cs:List Value} {l:List α} (f:α→Value) (hs:GoTy.sz α=1) (hf : ∀ x:α,GoFlat.enc x=[f x]) (hl:cs.length=l.length) (h:RowRep I cs 0 l):cs=l.map f:=by
 apply List.ext_getElem?
 intro k
 by_cases hk:k<l.length
 ·have h1:=GoFlat.rep_iff.1 (h.2 k hk)
  unfold chunk at h1
  rw [hs,hf,Nat.zero_add,Nat.mul_one] at h1
  have h2:((cs.drop k).take 1)[0]? = some (f l[k]):=by rw [h1];rfl
  rw [List.getElem?_take,if_pos oM,List.getElem?_drop,Nat.add_zero] at h2
  rw [h2];simp [hk]
 ·rw [List.getElem?_eq_none oM,List.getElem?_eq_none oX]
theorem RdH.word (hu:P.underlying t=some (.array 4 e)) (hue:P.underlying e=some (.int .u64)) (hc:P.cellsOf e=1) (hct:P.cellsOf t=4):RdH P t Word (fun _=>True):=by
 intro H enc W fuel cs d ps h hw
 obtain ⟨l,hl,hcl,hr,_⟩:=trod_arr (α:=UInt64) hu hc hct h hw (RdH.u64 hue)
 have:=row_cells (fun x:UInt64=>Value.int .u64 x.toNat) rfl (fun _=>rfl) (by rw [hcl,hl];rfl) hr
 match l,hl with
 | [a,b,c,d],_=>exact ⟨⟨a,b,c,d⟩,this,trivial⟩
theorem RdH.pair (hu:P.underlying t=some (.array 2 e)) (hue:P.underlying e=some (.int .i64)) (hc:P.cellsOf e=1) (hct:P.cellsOf t=2):RdH P t (Int × Int) (fun p=>(-9223372036854775808≤p.1∧p.1≤9223372036854775807)∧(-9223372036854775808≤p.2∧p.2≤9223372036854775807)):=by
 intro H enc W fuel cs d ps h hw
 obtain ⟨l,hl,hcl,hr,hok⟩:=trod_arr (α:=Int) hu hc hct h hw (RdH.int hue)
 have:=row_cells (fun x:Int=>Value.int .i64 x) rfl (fun _=>rfl) (by rw [hcl,hl];rfl) hr
 match l,hl with
 | [a,b],_=>exact ⟨(a,b),this,hok a oI,hok b oI⟩
theorem RdH.key {ta tb tw:TypeId} {f0 f1 f2:Field} (hu:P.underlying t=some (.struct #[f0,f1,f2])) (h0:f0.type=ta∧f0.offset=0) (h1:f1.type=tb∧f1.offset=20) (h2:f2.type=tw∧f2.offset=21)
  (c0:P.cellsOf ta=20) (c1:P.cellsOf tb=1) (c2:P.cellsOf tw=4) (c:P.cellsOf t=25) (r0:RdH P ta Addr20 (fun _=>True)) (r1:RdH P tb Bool (fun _=>True)) (r2:RdH P tw Word (fun _=>True)):RdH P t Key (fun _=>True):=by
 intro H enc W fuel cs d ps h hw
 obtain ⟨rfl,e0⟩:=h0
 obtain ⟨rfl,e1⟩:=h1
 obtain ⟨rfl,e2⟩:=h2
 have hl:=trod_len hu h
 obtain ⟨a,ha,_⟩:=trod_field hu h hw 0 rfl r0
 obtain ⟨b,hb,_⟩:=trod_field hu h hw 1 rfl r1
 obtain ⟨w,hww,_⟩:=trod_field hu h hw 2 rfl r2
 rw [e0,c0] at ha
 rw [e1,c1] at hb
 rw [e2,c2] at hww
 refine ⟨⟨a,b,w⟩,?_,trivial⟩
 have ha':(cs.drop 0).take 20=a.cells:=ha
 have hb':(cs.drop 20).take 1=[.bool b]:=hb
 have hw':(cs.drop 21).take 4=w.cells:=hww
 show cs=a.cells++(.bool b::w.cells)
 rw [← ha',← hw',show (Value.bool b::(cs.drop 21).take 4)=[.bool b]++(cs.drop 21).take 4 from rfl,← hb',List.drop_zero]
 rw [List.take_of_length_le (l:=cs.drop 21) oX]
 have e3:cs.drop 20=(cs.drop 20).take 1++cs.drop 21:=by
  conv=>lhs;rw [← List.take_append_drop 1 (cs.drop 20),List.drop_drop]
 rw [← e3,List.take_append_drop]
theorem RdH.sets {tl:TypeId} {ok:List Key→Prop} {f0 f1:Field} (hu:P.underlying t=some (.struct #[f0,f1])) (h0:f0.type=tl∧f0.offset=0) (h1:f1.type=tl∧f1.offset=1)
  (c0:P.cellsOf tl=1) (c:P.cellsOf t=2) (r0:RdH P tl (List Key) ok):RdH P t Sets (fun s=>ok s.reads∧ok s.writes):=by
 intro H enc W fuel cs d ps h hw
 obtain ⟨t0,e0⟩:=h0
 obtain ⟨t1,e1⟩:=h1
 have hl:=trod_len hu h
 obtain ⟨a,ha,hoa⟩:=trod_field hu h hw 0 rfl (by rw [t0];exact r0)
 obtain ⟨b,hb,hob⟩:=trod_field hu h hw 1 rfl (by rw [t1];exact r0)
 rw [e0,t0,c0] at ha
 rw [e1,t1,c0] at hb
 match cs,(hl.trans c) with
 | [u,v],_ =>
  have h3:Rp (fun b=>W.heap[b]?) u a:=by
   obtain ⟨x,y,hx,hy⟩:=ha
   simp at hx;subst hx
   exact Rp.mkSlice hy rfl
  have h4:Rp (fun b=>W.heap[b]?) v b:=by
   obtain ⟨x,y,hx,hy⟩:=hb
   simp at hx;subst hx
   exact Rp.mkSlice hy rfl
  refine ⟨⟨a,b⟩,?_,hoa,hob⟩
  have:=(Rp.mkSets (s:=⟨a,b⟩) h3 h4).cells
  simpa [cellsL] using this
theorem RdH.arg {α:Type} [GoTy α] {ok:α→Prop} (hr:RdH P t α ok) {H:Type} {enc:TypeId × Value→H} {W:World} {v:Value} {d:DataW H} {ps:List MemPlace} (h:DataW.Trod enc P W 0 (fun _=>true) true t v d ps) (hw : ∀ n∈d.weights P t,n≤reachBytes)
  (hag:GoTy.agg α=true→GoTy.sz α≠1) (hna:GoTy.agg α=false → ∀ cs,v ≠ .agg cs) : ∃ x:α,Rp (fun b=>W.heap[b]?) v x∧ok x:=by
 obtain ⟨fuel,h⟩:=h
 obtain ⟨x,hx,hok⟩:=hr enc W fuel _ d ps h hw
 refine ⟨x,⟨v.cells.toList,?_,hx⟩,hok⟩
 have hl:=GoTy.len hx
 cases hg:GoTy.agg α with
 | false =>
  have hs:=GoTy.agg1 hg
  have ho:=GoTy.one hx
  rw [hs] at hl
  cases v with
  | agg cs=>exact absurd rfl (hna hg cs)
  | _=>rfl
 | true =>
  have hs:=hag hg
  cases v with
  | agg cs=>simp [mkv,Value.cells]
  | _=>simp [Value.cells] at hl;omega
theorem okWide_int {W:World} {base:Nat} {v:Value} {k:IntKind} (hu:P.underlying t=some (.int k)) (h:Value.okWide P W .any base t v) : ∀ cs,v ≠ .agg cs:=by
 intro cs hv
 subst hv
 unfold Value.okWide at h
 rw [hu] at h
 simp [Cell.okWide,Cell.ok,hu] at h
end
end Go.Rail
set_option linter.unusedSimpArgs false
set_option linter.unusedVariables false
namespace Go.Rail
open Go Go.RowKit Go.ChangeShapes Go.WideShapes Go.ChangeAt
theorem Fn.below {P:Program} {f:FuncId} {args:List Value} {Φ:List Fa} {R:Value→List Fa→Own→Prop} (c:Fn P f args Φ [] R) (W:World) (hΦ : ∀ φ∈Φ,φ.p (fun b=>W.heap[b]?)) :
  Calls P f args.toArray W fun e W' => ∃ v Φ' M',e = .returned v∧R v Φ' M'∧Below W.heap.size W W':=by
 refine (c (fun b=>W.heap[b]?) W hΦ ⟨rfl,rfl,Nat.le_refl _,rfl,Nat.le_refl _,fun _ _ _=>rfl,Le.refl _,fun _ _ _ h => .inl h,fun _ _ h=>h,fun _ h=>(by cases h),fun _ h=>(by cases h),.nil,fun _ h=>(by cases h)⟩).mono ?_
 rintro e W' ⟨v,Φ',M',I',rfl,hR,_,hw⟩
 exact ⟨v,Φ',M',rfl,hR,hw.os,hw.tape,hw.output,hw.size,fun k hk=>hw.blk k hk oI⟩

theorem trodAll_stays {H:Type} {enc:TypeId × Value→H} {P:Program} (hl:laidOutB P=true) {W W':World} (hb:Below W.heap.size W W') {sp:Nat→Bool} :
  ∀ {ts:List TypeId} {vs:List Value} {ds:List (DataW H)} {ps:List MemPlace},(ts.all fun t=>P.readableRec t&&decide (t<P.types.size))=true→DataW.TrodAll enc P W 0 (fun _=>true) true ts vs ds ps →
   (∀ x∈ps,x.block<W.heap.size)→(∀ x∈ps,sp x.block=true)→DataW.TrodAll enc P W' 0 sp true ts vs ds ps
 | [],[],[],ps,_,h,_,_=>h
 | t::ts,v::vs,d::ds,ps,ha,h,hlt,hsp=>by
  obtain ⟨p,q,h1,h2,rfl⟩:=h
  simp only [List.all_cons,Bool.and_eq_true,decide_eq_true_eq] at ha
  exact ⟨p,q,WideElems.Trod_stays hl ha.1.1 ha.1.2 h1 (fun x hx=>hb.same (hlt x (by simp [hx]))) (fun x hx=>hsp x (by simp [hx])),
   trodAll_stays hl hb (by simpa using ha.2) h2 (fun x hx=>hlt x (by simp [hx])) (fun x hx=>hsp x (by simp [hx])),rfl⟩
 | [],[],_::_,_,_,h,_,_=>h.elim
 | [],_::_,_,_,_,h,_,_=>h.elim
 | _::_,[],_,_,_,h,_,_=>h.elim
 | _::_,_::_,[],_,_,h,_,_=>h.elim

theorem law_post {H:Type} {enc:TypeId × Value→H} {P:Program} {f:Func} {s:ChangeSpec} {W W':World} {args:Array Value} {ds gs:List (DataW H)} {before:List MemPlace} {tb:TypeId} (hl:laidOutB P=true)
  (hall:(f.params.toList.all fun t=>P.readableRec t&&decide (t<P.types.size))=true) (hvars:s.vars=[]) (hfn:s.fn H ds={results:=[.lit (.bool true)],args:=ds}) (hres:f.resultTypes = #[tb]) (hb:P.underlying tb=some .bool)
  (hW:DataW.Whole enc P f.params.toList s.vars false W args.toList ds gs before) (hbel:Below W.heap.size W W'):s.post enc P f false true false false W args (.bool true) W':=by
 have hW':=hW
 have hlt : ∀ p∈before,p.block<W.heap.size:=fun p hp=>hW'.lt p hp
 obtain ⟨p,q,hA,hV,rfl,hz,hn⟩:=hW
 rw [hvars] at hV
 obtain ⟨rfl,rfl⟩:=trodVars_none hV
 rw [List.append_nil] at hW' hlt
 have hfn':s.fn H (ds++[])={results:=[.lit (.bool true)],args:=ds}:=by rw [List.append_nil];exact hfn
 refine ⟨ds,[],p,[],p,[],hW',?_,?_,?_,hbel.frame _,fun h=>by cases h⟩
 ·rw [hfn',hres]
  exact trodAll_mk1 (shut_bool hb true)
 ·rw [hfn']
  exact trodAll_stays hl hbel hall hA hlt (fun x hx=>by simpa using hlt x hx)
 ·rw [hfn',hvars];rfl
end Go.Rail
namespace Go.Rail
open Go
theorem wt_of {H:Type} {P:Program} {ts:List TypeId} {ds:List (DataW H)} (h:(DataW.weightsEach P ts ds).all (· ≤ reachBytes)=true) (i:Nat) {u:TypeId} {d:DataW H} (ht:ts[i]? = some u) (hd:ds[i]? = some d) : ∀ n∈d.weights P u,n≤reachBytes:=fun n hn=>by
 have:=List.all_eq_true.1 h n (weightsEach_mem ht hd n hn)
 simpa using this
end Go.Rail
set_option linter.unusedSimpArgs false
set_option linter.unusedVariables false
namespace Go.Rail
open Go
def Kp (x:Cx) (Φ:List Fa) (L:Env) (M:Own):Act→World→Prop:=fun a w => ∃ I,(∀ φ∈Φ,φ.p I)∧Kn x.N L x.ds a∧Wd x.E I M w
section
variable {x:Cx} {Q:Exit→Act→World→Prop} {Φ:List Fa} {L:Env} {M:Own}
theorem W.cut {c d:Code} (Φ0:List Fa) (L0:Env) (M0:Own) (h1:W x c (Exit.then (Kp x Φ0 L0 M0) Q) Φ L M) (h2:W x d Q Φ0 L0 M0):W x (.seq c d) Q Φ L M:=by
 refine W.seq (W.mono h1 ?_)
 intro e a w hq
 cases e with
 | normal =>
  obtain ⟨I,hf,hk,hw⟩:=hq
  exact h2 I a w hf hk hw
 | exit id=>exact hq
 | goto l=>exact hq
 | ret=>exact hq
 | panic ch=>exact hq
 | outgrown=>exact hq
theorem W.cutThen {c:Code} {K:Act→World→Prop} (Φ0:List Fa) (L0:Env) (M0:Own) (h1:W x c (Exit.then (Kp x Φ0 L0 M0) Q) Φ L M) (h2:G x Φ0 L0 M0 K):W x c (Exit.then K Q) Φ L M:=by
 refine W.mono h1 ?_
 intro e a w hq
 cases e with
 | normal =>
  obtain ⟨I,hf,hk,hw⟩:=hq
  exact h2 I a w hf hk hw
 | exit id=>exact hq
 | goto l=>exact hq
 | ret=>exact hq
 | panic ch=>exact hq
 | outgrown=>exact hq
theorem G.kp {Φ0:List Fa} {L0:Env} {M0:Own} (hΦ:Ents Φ Φ0) (hL : ∀ t v,look L0 t=some v→look L t=some v) (hM:M0.Sublist M):G x Φ L M (Kp x Φ0 L0 M0) :=
 fun I a w hp hk hw=>⟨I,hΦ.h I hp,⟨hk.sz,fun t v e=>hk.val t v (hL t v e),hk.df⟩,hw.sub hM⟩
end
section
variable {x:Cx} {Q:Exit→Act→World→Prop} {Φ:List Fa} {L:Env} {M:Own} {ops:Array Oper} {K:Act→World→Prop}
variable {d:Nat} {ty:TypeId} {pos:String} {af:Array Edge} {g:Option (Nat × Bool)}
end
def sa:Value→Option Addr
 | .slice a _ _=>a
 | _=>none
def pb:Value→Nat
 | .pointer (some a)=>a.block
 | _=>0
end Go.Rail
set_option linter.unusedSimpArgs false
set_option linter.unusedVariables false
namespace Go.Rail
open Go
def KpE {S:Type} (x:Cx) (f:S→List Fa × Env × Own) (pre:S→Prop):Act→World→Prop:=fun a w => ∃ s,pre s∧Kp x (f s).1 (f s).2.1 (f s).2.2 a w
section
variable {x:Cx} {Q:Exit→Act→World→Prop} {Φ:List Fa} {L:Env} {M:Own}
theorem W.cutE {S:Type} {c:Code} {K:Act→World→Prop} (f:S→List Fa × Env × Own) (pre:S→Prop) (h1:W x c (Exit.then (KpE x f pre) Q) Φ L M) (h2 : ∀ s,pre s→G x (f s).1 (f s).2.1 (f s).2.2 K):W x c (Exit.then K Q) Φ L M:=by
 refine W.mono h1 ?_
 intro e a w hq
 cases e with
 | normal =>
  obtain ⟨s,hs,I,hf,hk,hw⟩:=hq
  exact h2 s hs I a w hf hk hw
 | exit id=>exact hq
 | goto l=>exact hq
 | ret=>exact hq
 | panic ch=>exact hq
 | outgrown=>exact hq
theorem G.kpE {S:Type} {f:S→List Fa × Env × Own} {pre:S→Prop} (s:S) (hs:pre s) (hΦ:Ents Φ (f s).1) (hL : ∀ t v,look (f s).2.1 t=some v→look L t=some v) (hM:(f s).2.2.Sublist M):G x Φ L M (KpE x f pre) :=
 fun I a w hp hk hw=>⟨s,hs,G.kp hΦ hL hM I a w hp hk hw⟩
end
end Go.Rail
set_option linter.unusedSimpArgs false
set_option linter.unusedVariables false
namespace Go.Rail
open Go
def zerosL (zs:List Value) (n:Nat):List Value:=(List.range (n*zs.length)).map fun i=>zs.getD (i%zs.length) undef
theorem zerosL_length (zs:List Value) (n:Nat):(zerosL zs n).length=n*zs.length:=by simp [zerosL]
theorem zerosL_chunk (zs:List Value) (n k:Nat) (hk:k<n):chunk (zerosL zs n) 0 zs.length k=zs:=by
 apply List.ext_getElem?
 intro i
 unfold chunk zerosL
 rw [List.getElem?_take]
 have hk1:=Nat.mul_le_mul_right zs.length (Nat.succ_le_of_lt hk)
 rw [Nat.succ_mul] at hk1
 by_cases hi:i<zs.length
 ·rw [if_pos hi,List.getElem?_drop,Nat.zero_add,List.getElem?_map,List.getElem?_range oM]
  have e2:(k*zs.length+i)%zs.length=i:=by rw [Nat.mul_comm,Nat.mul_add_mod,Nat.mod_eq_of_lt hi]
  simp [e2,hi]
 ·rw [if_neg hi,List.getElem?_eq_none oM]
theorem row_zeros {α:Type} [GoTy α] {I:Imm} {zs:List Value} {zx:α} (n cap:Nat) (hn:n≤cap) (hz:zs.length=GoTy.sz α) (hr:GoTy.rep I zs zx):RowRep I (zerosL zs cap) 0 (List.replicate n zx):=by
 refine ⟨?_,fun k hk => ?_⟩
 ·rw [zerosL_length,hz,List.length_replicate]
  have:=Nat.mul_le_mul_right (GoTy.sz α) hn
  omega
 ·simp only [List.length_replicate] at hk
  rw [List.getElem_replicate,← hz,zerosL_chunk zs cap k oM]
  exact hr
section
variable {x:Cx} {Q:Exit→Act→World→Prop} {Φ:List Fa} {L:Env} {M:Own} {ops:Array Oper} {K:Act→World→Prop}
variable {d:Nat} {ty:TypeId} {pos:String} {af:Array Edge} {g:Option (Nat × Bool)}
theorem o_make {α:Type} [GoTy α] {t e bytes:Nat} {y z:Operand} (n cap:Nat) {p q:Int} {zs:List Value} (zx:α) [ht:SlTy x.P t e] [hb:Inf x.P e zs (GoTy.sz α) bytes] (hdN:Nat.blt d x.N=true) (hg:gd ops L g=some true) (hy:ev L y=some (.int .i64 p)) (hz:ev L z=some (.int .i64 q)) (hp':p=(n:Int)) (hq':q=(cap:Int)) (hn:n≤cap) (hc:cap<9223372036854775808∧bytes*cap≤281474976710656∧cap*bytes≤roomBytes) (hzl:zs.length=GoTy.sz α) (hrep : ∀ I,GoTy.rep I zs zx)
  (h : ∀ b,G x (fRow (zerosL zs cap) (List.replicate n zx)::Φ) ((d,.slice (some ⟨b,0,none⟩) n cap)::L) ((b,Ob (zerosL zs cap) e)::M) K):OpK x ops Q ⟨some d,.makeSlice t y z,ty,pos,af,g⟩ Φ L M K :=
 OpK.mem rfl hdN hg oI (fun I a w hp hk hw=>by
  subst hp' hq'
  obtain ⟨ti,zv,hi,hz0,hzs,hsz,hby⟩:=hb.get
  obtain ⟨hc1,hc2,hc3⟩:=hc
  have wr : ∀ m:Nat,m≤cap→IntKind.i64.wrap (m:Int)=m:=fun m hm=>wrap_i64 oM oM
  have hzc:zv.cells=zs.toArray:=by rw [← hzs,← cells_toList,Array.toArray_toList]
  have hb2 : ¬ (281474976710656<(bytes:Int)*(cap:Int)):=by
   have h3:=Int.ofNat_le.2 hc2
   rw [Int.natCast_mul] at h3
   omega
  have hroom : ¬ (roomBytes<cap*bytes):=by omega
  have hn0 : ¬ ((cap:Int)<n):=by omega
  have hneg : ¬ ((cap:Int)<0∨(n:Int)<0):=by omega
  have hc0 : ¬ ((cap:Int)<0):=by omega
  have hnn : ¬ ((n:Int)<0):=by omega
  refine ⟨.slice (some ⟨w.heap.size,0,none⟩) n cap,w.alloc (Ob (zerosL zs cap) e),fRow (zerosL zs cap) (List.replicate n zx)::Φ,_,I,?_,?_,hw.alloc _,h w.heap.size⟩
  ·have hcells:(Array.range (cap*GoTy.sz α)).map (fun i=>zs.toArray[i%zs.toArray.size]!)=(zerosL zs cap).toArray:=by
    rw [zerosL,hzl]
    apply Array.ext'
    simp only [Array.toList_map,Array.toList_range,List.size_toArray,hzl]
    refine List.map_congr_left fun i hi => ?_
    have h0:0<GoTy.sz α:=by
     rcases Nat.eq_zero_or_pos (GoTy.sz α) with h|h
     ·rw [h] at hi;simp at hi
     ·exact h
    have:i%GoTy.sz α<zs.length:=by rw [hzl];exact Nat.mod_lt _ h0
    simp [this]
   by_cases h0:cap*GoTy.sz α=0
   ·have hz1:zerosL zs cap=[]:=by rw [zerosL,hzl,h0];rfl
    simp [execOp,Instr.makeSlice,hk.eval hy,hk.eval hz,run_underlying ht.h,typeInfo,hi,asInt,asIntOf,Sem.run_bind,Result.andThen,Sem.run_pure,wr n hn,wr cap (Nat.le_refl _),hby,hb2,hn0,hc0,hnn,askRoom,hroom,sizeOf,hsz,h0,newRow,Ob,hz1]
    congr 2
    apply Array.ext'
    simp
   ·simp [execOp,Instr.makeSlice,hk.eval hy,hk.eval hz,run_underlying ht.h,typeInfo,hi,asInt,asIntOf,Sem.run_bind,Result.andThen,Sem.run_pure,wr n hn,wr cap (Nat.le_refl _),hby,hb2,hn0,hc0,hnn,askRoom,hroom,sizeOf,hsz,h0,zeroValue,hz0,hzc,newRow,Ob,← hcells]
  ·intro φ hφ
   rcases List.mem_cons.1 hφ with rfl|hφ
   ·exact row_zeros n cap hn hzl (hrep I)
   ·exact hp φ hφ)
end
end Go.Rail
set_option linter.unusedSimpArgs false
set_option linter.unusedVariables false
namespace Go.Rail
open Go
class ZerV (P:Program) (t:TypeId) (v:outParam Value):Prop where h : ∀ w,(zeroValue t).run P w = .ok v w
class MpTy (P:Program) (t:TypeId) (k e:outParam TypeId):Prop where h:P.underlying t=some (.map k e)

def getM:List (Int × Int)→Int→Int
 | [],_=>0
 | e::r,k=>if k=e.1 then e.2 else getM r k
theorem checkKey_int {P:Program} {b:Bool} {n:Nat} {t:TypeId} {kd k:IntKind} {i:Int} {w:World} (ht:P.underlying t=some (.int kd)):(Instr.checkKey b (n+1) t (.int k i)).run P w = .ok () w:=by
 simp [Instr.checkKey,run_underlying ht,Sem.run_bind,Result.andThen,Sem.run_pure]
theorem run_getMap {P:Program} {w:World} {r:Nat} {es:Array MapEntry} {c:Nat} (h:w.heap[r]? = some (.map es c)):(getObj r).run P w = .ok (.map es c) w:=by simp [getObj,Sem.run,h]
theorem run_setMap {P:Program} {w:World} {r:Nat} {es:Array MapEntry} {c:Nat} (o:Obj) (h:w.heap[r]? = some (.map es c)):(setObj r o).run P w = .ok () {w with heap:=w.heap.setIfInBounds r o}:=by simp [setObj,Sem.run,h]

theorem run_newMap {P:Program} {w:World} {o:Obj}:(newObj o).run P w = .ok w.heap.size (w.alloc o):=rfl

section
variable {x:Cx} {Q:Exit→Act→World→Prop} {Φ:List Fa} {L:Env} {M:Own} {ops:Array Oper} {K:Act→World→Prop}
variable {d:Nat} {ty:TypeId} {pos:String} {af:Array Edge} {g:Option (Nat × Bool)}
theorem Wd.setMap {E:Ent} {I:Imm} {M M':Own} {b:Nat} {o o':Obj} {w:World} (h:Wd E I M w) [m:MSet M b o o' M']:Wd E I M' {w with heap:=w.heap.setIfInBounds b o'}:=by
 obtain ⟨M1,M2,rfl,rfl⟩:=m.h
 have hb:=h.own (b,o) oI
 have hlt:b<w.heap.size:=(Array.getElem?_eq_some_iff.1 hb).1
 refine h.turn rfl rfl rfl rfl oI ?_ (fun k hk => ?_)
 ·simp [hlt]
 ·simp [Array.getElem?_setIfInBounds,Ne.symm hk]
end
end Go.Rail
set_option linter.unusedSimpArgs false
set_option linter.unusedVariables false
namespace Go.Rail
open Go
def Free (φ:Fa):Prop:=∀ I J,φ.p I→φ.p J
theorem Free.row {α:Type} [GoTy α] [GoFlat α] {cs:List Value} {xs:List α}:Free (fRow cs xs):=by
 intro I J h
 exact ⟨h.1,fun k hk=>GoFlat.rep_iff.2 (GoFlat.rep_iff.1 (h.2 k hk))⟩
theorem Free.pure {p:Prop}:Free (fPure p):=fun _ _ h=>h
class LEnt (Φ:List Fa) (M:Own) (φ:Fa):Prop where h : ∀ I J,Le I J→(∀ ψ∈Φ,ψ.p I)→(∀ p∈M,J p.1=some p.2)→φ.p J
instance LEnt.of {Φ:List Fa} {M:Own} {φ:Fa} [e:Ent' Φ φ]:LEnt Φ M φ:=⟨fun I J hl hp _=>φ.mono I J hl (e.h I hp)⟩
class LEnts (Φ:List Fa) (M:Own) (l:List Fa):Prop where h : ∀ I J,Le I J→(∀ ψ∈Φ,ψ.p I)→(∀ p∈M,J p.1=some p.2) → ∀ φ∈l,φ.p J
instance LEnts.nil {Φ:List Fa} {M:Own}:LEnts Φ M []:=⟨fun _ _ _ _ _ _ h=>by cases h⟩
instance LEnts.cons {Φ l:List Fa} {M:Own} {φ:Fa} [a:LEnt Φ M φ] [b:LEnts Φ M l]:LEnts Φ M (φ::l):=⟨fun I J hl hp hm ψ hψ=>by
 rcases List.mem_cons.1 hψ with rfl|h
 ·exact a.h I J hl hp hm
 ·exact b.h I J hl hp hm ψ h⟩
theorem LEnt.own {α:Type} [GoTy α] {Φ:List Fa} {M:Own} {v:Value} {xs:List α} (o:OR) (e:TypeId) (hv:IsOwn (GoTy.sz α) v xs.length o) (hrow:Ent' Φ (fRow (ocells o) xs)) (hM : ∀ p∈ownM e o,p∈M):LEnt Φ M (fRp v xs):=⟨fun I J hl hp hm=>by
 have hr:RowRep J (ocells o) 0 xs:=RowRep.mono hl (hrow.h I hp)
 cases o with
 | none =>
  obtain ⟨rfl,hx0⟩:=hv
  have hxs:xs=[]:=List.length_eq_zero_iff.1 hx0
  subst hxs
  exact Rp.nil none 0
 | some q =>
  obtain ⟨b,cs⟩:=q
  obtain ⟨cap,rfl,hcs,hle⟩:=hv
  have hb:J b=some (Ob cs e):=hm (b,Ob cs e) (hM _ (by simp [ownM]))
  refine Rp.mkSlice ⟨hle,fun _=>⟨⟨b,0,none⟩,cs.toArray,e,(0,0),rfl,rfl,hb,?_⟩⟩ rfl
  have hr:RowRep J cs 0 xs:=hr
  exact (by simpa using hr:RowRep J cs.toArray.toList 0 xs)⟩
section
variable {x:Cx} {Q:Exit→Act→World→Prop} {Φ:List Fa} {L:Env} {M:Own} {ops:Array Oper} {K:Act→World→Prop}
variable {d:Nat} {ty:TypeId} {pos:String} {af:Array Edge} {g:Option (Nat × Bool)}
end
end Go.Rail
set_option linter.unusedSimpArgs false
set_option linter.unusedVariables false
namespace Go.Rail
open Go
def cI (xs:List Int):List Value:=xs.map (.int .i64)
def cB (xs:List Bool):List Value:=xs.map .bool
theorem cI_length (xs:List Int):(cI xs).length=xs.length:=by simp [cI]
theorem cB_length (xs:List Bool):(cB xs).length=xs.length:=by simp [cB]
theorem zeros_one (z:Value) (n:Nat):zerosL [z] n=List.replicate n z:=by
 apply List.ext_getElem
 ·simp [zerosL]
 ·intro i h1 h2
  rw [List.getElem_replicate]
  simp [zerosL,Nat.mod_one]
theorem chunk_map {α:Type} (f:α→Value) (xs:List α) {k:Nat} (hk:k<xs.length):chunk (xs.map f) 0 1 k=[f xs[k]]:=by
 unfold chunk
 rw [Nat.zero_add,Nat.mul_one,← List.map_drop,← List.map_take,List.take_one,List.head?_drop,List.getElem?_eq_getElem hk];rfl
theorem rowI (I:Imm) (xs:List Int):RowRep I (cI xs) 0 xs:=⟨by rw [cI_length];show 0+xs.length*1≤_;omega,fun k hk=>chunk_map _ xs hk⟩
theorem rowB (I:Imm) (xs:List Bool):RowRep I (cB xs) 0 xs:=⟨by rw [cB_length];show 0+xs.length*1≤_;omega,fun k hk=>chunk_map _ xs hk⟩
instance Ent'.cI {Φ:List Fa} {xs:List Int}:Ent' Φ (fRow (cI xs) xs):=⟨fun I _=>rowI I xs⟩
instance Ent'.cB {Φ:List Fa} {xs:List Bool}:Ent' Φ (fRow (cB xs) xs):=⟨fun I _=>rowB I xs⟩
theorem own_cell {sz n:Nat} {v:Value} {o:OR} (h:IsOwn sz v n o):cellsL v=[v]∧ones [v]=true:=by
 cases o with
 | none=>obtain ⟨rfl,_⟩:=h;exact ⟨rfl,rfl⟩
 | some q=>obtain ⟨b,cs⟩:=q;obtain ⟨cap,rfl,_⟩:=h;exact ⟨rfl,rfl⟩
theorem set_map {α:Type} (f:α→Value) (xs:List α) (k:Nat) (u:α) (hk:k<xs.length):(xs.map f).take k++[f u]++(xs.map f).drop (k+1)=(xs.set k u).map f:=by
 rw [← List.map_take,← List.map_drop,List.set_eq_take_append_cons_drop,if_pos hk]
 simp
section
variable {x:Cx} {Q:Exit→Act→World→Prop} {Φ:List Fa} {L:Env} {M:Own} {ops:Array Oper} {K:Act→World→Prop}
variable {d:Nat} {ty:TypeId} {pos:String} {af:Array Edge} {g:Option (Nat × Bool)}
theorem o_nilCheck {y:Operand} {a:Addr} (hdN:Nat.blt d x.N=true) (hg:gd ops L g=some true) (hy:ev L y=some (.pointer (some a)))
  (h:G x Φ ((d,.pointer (some a))::L) M K):OpK x ops Q ⟨some d,.nilCheck y,ty,pos,af,g⟩ Φ L M K :=
 OpK.val rfl hdN hg oI (fun I a' w hp hk hw=>by
  simp [execOp,asAddr,hk.eval hy,Sem.run_bind,Result.andThen,Sem.run_pure]) h
end
end Go.Rail
set_option linter.unusedSimpArgs false
set_option linter.unusedVariables false
namespace Go.Rail
open Go
def YRr (nx Z:St→Prop):Value→List Fa→Own→Prop:=fun u Φ' M'=>(u = .bool true∧nx (Φ',M'))∨(u = .bool false∧Z (Φ',M'))
def IRr (nx Z:St→Prop):Value→List Fa→Own→Prop:=fun _ Φ' M'=>nx (Φ',M')∨Z (Φ',M')
def IterR (P:Program) (gf:FuncId) (lb:List Value) (enc:List (List Value)) (Φ:List Fa):Prop :=
 ∀ (l:Nat) (T:Nat→St→Prop) (Z:St→Prop),(∀ k (h:k<enc.length) s,T k s→FnY P l enc[k] s.1 s.2 (YRr (T (k+1)) Z)) →
  ∀ s,T 0 s→Fn P gf (.func (.yield l) #[] #[]::lb) (Φ++s.1) s.2 (IRr (T enc.length) Z)
theorem IterR.plain {P:Program} {gf:FuncId} {lb:List Value} {enc:List (List Value)} {Φ:List Fa} (h:IterR P gf lb enc Φ):IterS P gf lb enc Φ:=by
 intro l T Z hy
 have:=h l (fun k s=>s=T k) Z (fun k hk s e=>by
  subst e
  intro I w hp hw
  obtain ⟨f,tm,as,bo,h1,h2⟩:=hy k hk I w hp hw
  refine ⟨f,tm,as,bo,h1,h2.mono ?_⟩
  rintro e w' ⟨v,Φ',Mc',I',rfl,hR,hf,hwd⟩
  refine ⟨v,Φ',Mc',I',rfl,?_,hf,hwd⟩
  rcases hR with ⟨rfl,rfl,rfl⟩|⟨rfl,hz⟩
  ·exact .inl ⟨rfl,rfl⟩
  ·exact .inr ⟨rfl,hz⟩) (T 0) rfl
 intro I w hp hw
 refine (this I w hp hw).mono ?_
 rintro e w' ⟨v,Φ',Mc',I',rfl,hR,hf,hwd⟩
 refine ⟨v,Φ',Mc',I',rfl,?_,hf,hwd⟩
 rcases hR with hR|hz
 ·exact .inl ⟨congrArg Prod.fst hR,congrArg Prod.snd hR⟩
 ·exact .inr hz

section
variable {x:Cx} {Q:Exit→Act→World→Prop} {Φ:List Fa} {L:Env} {M:Own} {ops:Array Oper} {K:Act→World→Prop}
variable {d:Nat} {ty:TypeId} {pos:String} {af:Array Edge} {g:Option (Nat × Bool)}
theorem o_yieldR {y:Operand} {args:List Operand} {vs:List Value} {ts:Array TypeId} {l:Nat} {Φc:List Fa} {Mc Mr:Own} {nx Z:St→Prop}
  (hdN:Nat.blt d x.N=true) (hg:gd ops L g=some true) (hy:ev L y=some (.func (.yield l) #[] #[])) (hargs:args.mapM (ev L)=some vs) (c:FnY x.P l vs Φc Mc (YRr nx Z)) (hΦ : ∀ I,(∀ φ∈Φ,φ.p I) → ∀ φ∈Φc,φ.p I) (hM:M.Perm (Mc++Mr))
  (h : ∀ s,nx s→G x (s.1++Φ) ((d,.bool true)::L) (s.2++Mr) K) (hz : ∀ s,Z s→G x (s.1++Φ) ((d,.bool false)::L) (s.2++Mr) K):OpK x ops Q ⟨some d,.call ⟨.value y,args.toArray,ts⟩,ty,pos,af,g⟩ Φ L M K:=by
 intro I a w hp hk hw
 unfold opRun
 rw [if_pos (gd_wanted hk hg)]
 refine ⟨fun f _=>FR_fn _ f,?_⟩
 rw [Oper.semAt_eq _ _ _ oI]
 have hw':=hw.perm hM
 have hws:Wd ⟨I,doms Mc,w⟩ I Mc w:=hw'.start (List.sublist_append_left _ _)
 obtain ⟨f,tm,as,bo,hyl,hc⟩:=c I w (hΦ I hp) hws
 have hrun:(execOp a.eval ⟨some d,.call ⟨.value y,args.toArray,ts⟩,ty,pos,af,g⟩).run x.P w = .ok (.round l f tm as bo) w:=by
  simp [execOp,resolve,hk.eval hy,Deferred.ofValue,evs_map hk hargs,invoke,hyl,Sem.run_bind,Result.andThen,Sem.run_pure]
 rw [hrun]
 simp only [Oper.uponIn]
 refine ⟨fun hd=>(by rw [FR_depth] at hd;cases hd),(roundIn_FR hc).mono ?_⟩
 rintro e w' ⟨v,Φ',Mc',I',rfl,hR,hf',hwd⟩
 have hall : ∀ φ∈Φ'++Φ,φ.p I':=by
  intro φ hφ
  rcases List.mem_append.1 hφ with hφ|hφ
  ·exact hf' φ hφ
  ·exact φ.mono _ _ hwd.up (hp φ hφ)
 rcases hR with ⟨rfl,hN⟩|⟨rfl,hZ⟩
 ·exact h _ hN I' _ w' hall (hk.put _ hdN) (hw'.back hwd)
 ·exact hz _ hZ I' _ w' hall (hk.put _ hdN) (hw'.back hwd)

theorem W.rangeFuncR {P:Program} {E:Ent} {N:Nat} {ds:List Deferred} {Q:Exit→Act→World→Prop} {gop:Operand} {ps:List Nat} {as bo:Code} {gf:FuncId} {lb:List Value} {enc:List (List Value)} {Φi:List Fa} {Mr:Own}
  (S:Nat→St→Prop) (X:Code→St→Prop)
  (hy:ev L gop=some (.func (.func gf) #[] lb.toArray)) [hf:HasFn P gf] (hit:IterR P gf lb enc Φi) (hps : ∀ p∈ps,Nat.blt p N=true) (hen : ∀ vs∈enc,vs.length=ps.length)
  (hΦi:Ents Φ Φi) (s0:St) (hs0:S 0 s0) (hΦ:Ents Φ s0.1) (hM:M.Perm (s0.2++Mr))
  (hround : ∀ (l:Nat) (r:Loop) (I0:Imm) (w0:World) (k:Nat) (hk:k<enc.length) (s:St),S k s →
   W ⟨P,some l,⟨I0,doms ((l,.loop {r with state := .ready,pending:=none})::s.2),w0⟩,N,[]⟩ as (AsP P l bo I0 ((l,.loop {r with state := .ready,pending:=none})::s.2) w0 (YRr (fun t => ∃ s',S (k+1) s'∧t=(s'.1,(l,.loop {r with state := .ready,pending:=none})::s'.2)) (fun s => ∃ c s',X c s'∧s=(s'.1,(l,.loop {r with state := .done,pending:=some c})::s'.2))))
    s.1 ((ps.zip enc[k]).reverse++L) ((l,.loop {r with state := .ready,pending:=none})::s.2))
  (hdone : ∀ D s,S enc.length s→G ⟨P,none,E,N,⟨.collected D,#[]⟩::ds⟩ (s.1++Φ) L (s.2++(D,.deferred (some []))::Mr) (Q .normal))
  (hexit : ∀ D c s,X c s→W ⟨P,none,E,N,⟨.collected D,#[]⟩::ds⟩ c Q (s.1++Φ) L (s.2++(D,.deferred (some []))::Mr)) :
  W ⟨P,none,E,N,ds⟩ (.rangeFunc gop ps.toArray as bo) Q Φ L M:=by
 intro I a w hp hk hw
 refine wpIn_rangeFunc ?_
 intro fn hfn
 obtain ⟨r,hr⟩ : ∃ r:Loop,r={state := .ready,pending:=none,fn:=fn,tmps:=a.tmps,params:=ps.toArray,assign:=as,body:=bo,defers:=w.heap.size}:=⟨_,rfl⟩
 have hw1:=((hw.perm hM).alloc (.deferred (some []))).alloc (.loop r)
 rw [World.size_alloc] at hw1
 have hw2:=hw1.perm (M':=((w.heap.size+1,.loop r)::s0.2)++(w.heap.size,.deferred (some []))::Mr) (by
  refine .cons _ ?_
  exact List.perm_middle.symm)
 refine ⟨w.heap.size+1,[{target := .collected w.heap.size,args := #[]}],(w.alloc (.deferred (some []))).alloc (.loop r),{target := .fn (.func gf) lb.toArray,args := #[.func (.yield (w.heap.size+1)) #[] #[]]},(w.alloc (.deferred (some []))).alloc (.loop r),gf,
  (.func (.yield (w.heap.size+1)) #[] #[]::lb).toArray,(w.alloc (.deferred (some []))).alloc (.loop r),?_,?_,?_,?_,fun hd=>(by rw [FR_depth] at hd;cases hd),?_⟩
 ·rw [hr];exact run_enterLoop_outer _ _ _ _ _
 ·simp only [resolve,hk.eval hy]
  simp [Deferred.ofValue,Sem.run_bind,Result.andThen,Sem.run_pure,Act.eval]
 ·intro f' _;exact FR_fn _ f'
 ·simp [invoke,hf.h]
 have hc:=hit (w.heap.size+1) (fun k t => ∃ s',S k s'∧t=(s'.1,(w.heap.size+1,.loop r)::s'.2)) (fun s => ∃ c s',X c s'∧s=(s'.1,(w.heap.size+1,.loop {r with state := .done,pending:=some c})::s'.2)) ?_ (s0.1,(w.heap.size+1,.loop r)::s0.2) ⟨s0,hs0,rfl⟩ I _ ?_ (hw2.start (List.sublist_append_left _ _))
 ·refine (callsIn_FR hc).mono ?_
  rintro e w' ⟨v,Φ',Mc',I',rfl,hR,hf',hwd⟩
  have hback:=hw2.back hwd
  have hkn:Kn N L (⟨.collected w.heap.size,#[]⟩::ds) {a with defers:=[{target := .collected w.heap.size,args := #[]}]++a.defers}:=⟨hk.sz,hk.val,by rw [hk.df];rfl⟩
  have hall : ∀ φ∈Φ'++Φ,φ.p I':=by
   intro φ hφ
   rcases List.mem_append.1 hφ with hφ|hφ
   ·exact hf' φ hφ
   ·exact φ.mono _ _ hwd.up (hp φ hφ)
  rcases hR with ⟨s',hS,hs⟩|⟨c,s',hX,hs⟩
  ·cases hs
   have hl:w'.heap[w.heap.size+1]? = some (.loop r):=hback.own _ (List.mem_append_left _ List.mem_cons_self)
   refine ⟨_,_,run_endLoop hl (by rw [hr];simp),?_⟩
   have hpn:r.pending=none:=by rw [hr]
   rw [hpn]
   exact hdone _ s' hS I' _ _ hall hkn ((putObj_turn hback (MDel.head (M:=s'.2++(w.heap.size,.deferred (some []))::Mr))).sub (List.sublist_cons_self _ _))
  ·cases hs
   have hl:w'.heap[w.heap.size+1]? = some (.loop {r with state := .done,pending:=some c}):=hback.own _ (List.mem_append_left _ List.mem_cons_self)
   refine ⟨_,_,run_endLoop hl oI,?_⟩
   exact hexit _ c s' hX I' _ _ hall hkn ((putObj_turn hback (MDel.head (M:=s'.2++(w.heap.size,.deferred (some []))::Mr))).sub (List.sublist_cons_self _ _))
 ·rintro k hkn _ ⟨s,hS,rfl⟩ I1 w1 hp1 hwd1
  have hl:w1.heap[w.heap.size+1]? = some (.loop r):=hwd1.own _ List.mem_cons_self
  have hsz:enc[k].toArray.size=r.params.size:=by rw [hr];simp [hen _ (List.getElem_mem hkn)]
  refine ⟨_,_,_,_,run_yield hl hsz,?_⟩
  refine roundIn_of_wpIn trivial ?_
  have hrr:{r with state := .ready,pending:=none}=r:=by rw [hr]
  have h3:=hround (w.heap.size+1) r I1 w1 k hkn s hS I1 _ w1 hp1 (hk.params ps enc[k] hps) (by rw [hrr];exact hwd1)
  rw [hrr] at h3
  rw [hr] at h3 ⊢
  delta AsP BeginK at h3
  simpa [FR] using h3
 ·intro φ hφ
  rcases List.mem_append.1 hφ with hφ|hφ
  ·exact hΦi.h I hp φ hφ
  ·exact hΦ.h I hp φ hφ

end
end Go.Rail
