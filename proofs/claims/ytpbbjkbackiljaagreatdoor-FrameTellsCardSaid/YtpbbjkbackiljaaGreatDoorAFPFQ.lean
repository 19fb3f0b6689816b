/- frame.find walked; frame.Local. -/
import Derived.Test.YtpbbjkbackiljaaGreatDoorRailA
import Derived.Test.YtpbbjkbackiljaaGreatDoorRailI
import Derived.Test.YtpbbjkbackiljaaGreatDoorRailJ
import Derived.Test.YtpbbjkbackiljaaGreatDoorAFNTB
set_option linter.unusedSimpArgs false
set_option linter.unusedVariables false
namespace Go.Rail
open Go Go.Proofs Tryz
set_option maxHeartbeats 400000
set_option maxRecDepth 4000
attribute [local irreducible] OpK G W LW wpListIn Exit.then Exit.inBlock Post rounds opRun bodyPostM intOp
set_option maxHeartbeats 1000000
theorem act0 (c:Nat→Nat) : ∃ v1 v2 v3,getV (actsT c) 0=some (.agg #[v1,v2,v3])∧ones [v1,v2,v3]=true∧ActOK 0 (.agg #[v1,v2,v3]) (actsF c) :=
 ⟨_,_,_,rfl,rfl,94,[],_,_,rfl,oY,do0 _,more_nil (fun l=>rfl),reach_nil (fun l=>rfl)⟩
theorem act32 (c:Nat→Nat) : ∃ v1 v2 v3,getV (actsT c) 32=some (.agg #[v1,v2,v3])∧ones [v1,v2,v3]=true∧ActOK 32 (.agg #[v1,v2,v3]) (actsF c) :=
 ⟨_,_,_,rfl,rfl,95,[],_,_,rfl,oY,do32 _,more_hash (c 0) (c 1) (by repeat (first|exact List.Mem.head _|apply List.Mem.tail)) (by repeat (first|exact List.Mem.head _|apply List.Mem.tail)),reach_piece (c 2) (c 3) 0 1 2 pops32 oE oE oE (fun l=>rfl) (by repeat (first|exact List.Mem.head _|apply List.Mem.tail)) (by repeat (first|exact List.Mem.head _|apply List.Mem.tail))⟩
theorem act53 (c:Nat→Nat) : ∃ v1 v2 v3,getV (actsT c) 53=some (.agg #[v1,v2,v3])∧ones [v1,v2,v3]=true∧ActOK 53 (.agg #[v1,v2,v3]) (actsF c) :=
 ⟨_,_,_,rfl,rfl,99,[],_,_,rfl,oY,do53 _,more_nil (fun l=>rfl),reach_nil (fun l=>rfl)⟩
theorem act54 (c:Nat→Nat) : ∃ v1 v2 v3,getV (actsT c) 54=some (.agg #[v1,v2,v3])∧ones [v1,v2,v3]=true∧ActOK 54 (.agg #[v1,v2,v3]) (actsF c) :=
 ⟨_,_,_,rfl,rfl,100,[],_,_,rfl,oY,do54 _,more_nil (fun l=>rfl),reach_nil (fun l=>rfl)⟩
theorem act55 (c:Nat→Nat) : ∃ v1 v2 v3,getV (actsT c) 55=some (.agg #[v1,v2,v3])∧ones [v1,v2,v3]=true∧ActOK 55 (.agg #[v1,v2,v3]) (actsF c) :=
 ⟨_,_,_,rfl,rfl,102,[],_,_,rfl,oY,do55 _,more_copy (c 4) (c 5) pops55 (fun l=>rfl) (by repeat (first|exact List.Mem.head _|apply List.Mem.tail)) (by repeat (first|exact List.Mem.head _|apply List.Mem.tail)),reach_piece (c 6) (c 7) 0 2 3 pops55 oE oE oE (fun l=>rfl) (by repeat (first|exact List.Mem.head _|apply List.Mem.tail)) (by repeat (first|exact List.Mem.head _|apply List.Mem.tail))⟩
theorem act56 (c:Nat→Nat) : ∃ v1 v2 v3,getV (actsT c) 56=some (.agg #[v1,v2,v3])∧ones [v1,v2,v3]=true∧ActOK 56 (.agg #[v1,v2,v3]) (actsF c) :=
 ⟨_,_,_,rfl,rfl,105,[],_,_,rfl,oY,do56 _,more_nil (fun l=>rfl),reach_nil (fun l=>rfl)⟩
theorem act57 (c:Nat→Nat) : ∃ v1 v2 v3,getV (actsT c) 57=some (.agg #[v1,v2,v3])∧ones [v1,v2,v3]=true∧ActOK 57 (.agg #[v1,v2,v3]) (actsF c) :=
 ⟨_,_,_,rfl,rfl,106,[],_,_,rfl,oY,do57 _,more_copy (c 8) (c 9) pops57 (fun l=>rfl) (by repeat (first|exact List.Mem.head _|apply List.Mem.tail)) (by repeat (first|exact List.Mem.head _|apply List.Mem.tail)),reach_piece (c 10) (c 11) 0 2 3 pops57 oE oE oE (fun l=>rfl) (by repeat (first|exact List.Mem.head _|apply List.Mem.tail)) (by repeat (first|exact List.Mem.head _|apply List.Mem.tail))⟩
theorem act61 (c:Nat→Nat) : ∃ v1 v2 v3,getV (actsT c) 61=some (.agg #[v1,v2,v3])∧ones [v1,v2,v3]=true∧ActOK 61 (.agg #[v1,v2,v3]) (actsF c) :=
 ⟨_,_,_,rfl,rfl,107,[],_,_,rfl,oY,do61 _,more_nil (fun l=>rfl),reach_nil (fun l=>rfl)⟩
theorem act62 (c:Nat→Nat) : ∃ v1 v2 v3,getV (actsT c) 62=some (.agg #[v1,v2,v3])∧ones [v1,v2,v3]=true∧ActOK 62 (.agg #[v1,v2,v3]) (actsF c) :=
 ⟨_,_,_,rfl,rfl,108,[],_,_,rfl,oY,do62 _,more_copy (c 12) (c 13) pops62 (fun l=>rfl) (by repeat (first|exact List.Mem.head _|apply List.Mem.tail)) (by repeat (first|exact List.Mem.head _|apply List.Mem.tail)),reach_piece (c 14) (c 15) 0 2 3 pops62 oE oE oE (fun l=>rfl) (by repeat (first|exact List.Mem.head _|apply List.Mem.tail)) (by repeat (first|exact List.Mem.head _|apply List.Mem.tail))⟩
theorem act81 (c:Nat→Nat) : ∃ v1 v2 v3,getV (actsT c) 81=some (.agg #[v1,v2,v3])∧ones [v1,v2,v3]=true∧ActOK 81 (.agg #[v1,v2,v3]) (actsF c) :=
 ⟨_,_,_,rfl,rfl,109,[],_,_,rfl,oY,do81 _,more_nil (fun l=>rfl),reach_fixed (c 16) 32 1 pops81 oE oE (fun l=>rfl) (by repeat (first|exact List.Mem.head _|apply List.Mem.tail))⟩
theorem act82 (c:Nat→Nat) : ∃ v1 v2 v3,getV (actsT c) 82=some (.agg #[v1,v2,v3])∧ones [v1,v2,v3]=true∧ActOK 82 (.agg #[v1,v2,v3]) (actsF c) :=
 ⟨_,_,_,rfl,rfl,112,[],_,_,rfl,oY,do82 _,more_nil (fun l=>rfl),reach_fixed (c 17) 32 2 pops82 oE oE (fun l=>rfl) (by repeat (first|exact List.Mem.head _|apply List.Mem.tail))⟩
theorem act83 (c:Nat→Nat) : ∃ v1 v2 v3,getV (actsT c) 83=some (.agg #[v1,v2,v3])∧ones [v1,v2,v3]=true∧ActOK 83 (.agg #[v1,v2,v3]) (actsF c) :=
 ⟨_,_,_,rfl,rfl,114,[],_,_,rfl,oY,do83 _,more_nil (fun l=>rfl),reach_fixed (c 18) 1 2 pops83 oE oE (fun l=>rfl) (by repeat (first|exact List.Mem.head _|apply List.Mem.tail))⟩
theorem act86 (c:Nat→Nat) : ∃ v1 v2 v3,getV (actsT c) 86=some (.agg #[v1,v2,v3])∧ones [v1,v2,v3]=true∧ActOK 86 (.agg #[v1,v2,v3]) (actsF c) :=
 ⟨_,_,_,rfl,rfl,115,[],_,_,rfl,oY,do86 _,more_nil (fun l=>rfl),reach_nil (fun l=>rfl)⟩
theorem act87 (c:Nat→Nat) : ∃ v1 v2 v3,getV (actsT c) 87=some (.agg #[v1,v2,v3])∧ones [v1,v2,v3]=true∧ActOK 87 (.agg #[v1,v2,v3]) (actsF c) :=
 ⟨_,_,_,rfl,rfl,116,[],_,_,rfl,oY,do87 _,more_nil (fun l=>rfl),reach_nil (fun l=>rfl)⟩
theorem act88 (c:Nat→Nat) : ∃ v1 v2 v3,getV (actsT c) 88=some (.agg #[v1,v2,v3])∧ones [v1,v2,v3]=true∧ActOK 88 (.agg #[v1,v2,v3]) (actsF c) :=
 ⟨_,_,_,rfl,rfl,117,[],_,_,rfl,oY,do88 _,more_nil (fun l=>rfl),reach_nil (fun l=>rfl)⟩
theorem act89 (c:Nat→Nat) : ∃ v1 v2 v3,getV (actsT c) 89=some (.agg #[v1,v2,v3])∧ones [v1,v2,v3]=true∧ActOK 89 (.agg #[v1,v2,v3]) (actsF c) :=
 ⟨_,_,_,rfl,rfl,118,[],_,_,rfl,oY,do89 _,more_nil (fun l=>rfl),reach_nil (fun l=>rfl)⟩
theorem act90 (c:Nat→Nat) : ∃ v1 v2 v3,getV (actsT c) 90=some (.agg #[v1,v2,v3])∧ones [v1,v2,v3]=true∧ActOK 90 (.agg #[v1,v2,v3]) (actsF c) :=
 ⟨_,_,_,rfl,rfl,119,[],_,_,rfl,oY,do90 _,more_nil (fun l=>rfl),reach_nil (fun l=>rfl)⟩
theorem act91 (c:Nat→Nat) : ∃ v1 v2 v3,getV (actsT c) 91=some (.agg #[v1,v2,v3])∧ones [v1,v2,v3]=true∧ActOK 91 (.agg #[v1,v2,v3]) (actsF c) :=
 ⟨_,_,_,rfl,rfl,120,[],_,_,rfl,oY,do91 _,more_nil (fun l=>rfl),reach_nil (fun l=>rfl)⟩
theorem act243 (c:Nat→Nat) : ∃ v1 v2 v3,getV (actsT c) 243=some (.agg #[v1,v2,v3])∧ones [v1,v2,v3]=true∧ActOK 243 (.agg #[v1,v2,v3]) (actsF c) :=
 ⟨_,_,_,rfl,rfl,121,[],_,_,rfl,oY,do243 _,more_nil (fun l=>rfl),reach_piece (c 19) (c 20) 0 1 2 pops243 oE oE oE (fun l=>rfl) (by repeat (first|exact List.Mem.head _|apply List.Mem.tail)) (by repeat (first|exact List.Mem.head _|apply List.Mem.tail))⟩
theorem act253 (c:Nat→Nat) : ∃ v1 v2 v3,getV (actsT c) 253=some (.agg #[v1,v2,v3])∧ones [v1,v2,v3]=true∧ActOK 253 (.agg #[v1,v2,v3]) (actsF c) :=
 ⟨_,_,_,rfl,rfl,123,[],_,_,rfl,oY,do253 _,more_nil (fun l=>rfl),reach_piece (c 21) (c 22) 0 1 2 pops253 oE oE oE (fun l=>rfl) (by repeat (first|exact List.Mem.head _|apply List.Mem.tail)) (by repeat (first|exact List.Mem.head _|apply List.Mem.tail))⟩
theorem getV_none {l:List (Int × Value)} {k:Int} (h:k∉l.map (·.1)):getV l k=none:=by
 induction l with
 | nil=>rfl
 | cons e r ih =>
  rw [List.map_cons,List.mem_cons,not_or] at h
  rw [getV,if_neg h.1]
  exact ih h.2
theorem look_act (c:Nat→Nat) (op:Nat):(tabF op=true → ∃ v1 v2 v3,getV (actsT c) (op:Int)=some (.agg #[v1,v2,v3])∧ones [v1,v2,v3]=true∧ActOK op (.agg #[v1,v2,v3]) (actsF c))∧(tabF op=false→getV (actsT c) (op:Int)=none):=by
 have hm:tabF op=true↔op∈[0,32,53,54,55,56,57,61,62,81,82,83,86,87,88,89,90,91,243,253]:=by
  unfold tabF
  exact List.contains_iff_mem
 constructor
 ·intro h
  have h:=hm.1 h
  simp only [List.mem_cons,List.not_mem_nil,or_false] at h
  rcases h with rfl|rfl|rfl|rfl|rfl|rfl|rfl|rfl|rfl|rfl|rfl|rfl|rfl|rfl|rfl|rfl|rfl|rfl|rfl|rfl
  ·exact act0 c
  ·exact act32 c
  ·exact act53 c
  ·exact act54 c
  ·exact act55 c
  ·exact act56 c
  ·exact act57 c
  ·exact act61 c
  ·exact act62 c
  ·exact act81 c
  ·exact act82 c
  ·exact act83 c
  ·exact act86 c
  ·exact act87 c
  ·exact act88 c
  ·exact act89 c
  ·exact act90 c
  ·exact act91 c
  ·exact act243 c
  ·exact act253 c
 ·intro h
  refine getV_none ?_
  rw [show (actsT c).map (·.1)=[0,32,53,54,55,56,57,61,62,81,82,83,86,87,88,89,90,91,243,253] from rfl]
  intro h2
  have:op∈[0,32,53,54,55,56,57,61,62,81,82,83,86,87,88,89,90,91,243,253]:=by
   simp only [List.mem_cons,List.not_mem_nil,or_false] at h2 ⊢
   omega
  rw [hm.2 this] at h
  cases h
def entA (c:Nat→Nat) (op:Nat):Value:=(getV (actsT c) (op:Int)).getD (.agg #[.nilFunc,.nilFunc,.nilFunc])
theorem entA_is (c:Nat→Nat) (op:Nat) : ∃ v1 v2 v3,entA c op = .agg #[v1,v2,v3]∧ones [v1,v2,v3]=true∧(getV (actsT c) (op:Int)).isSome=tabF op∧(tabF op=true→ActOK op (.agg #[v1,v2,v3]) (actsF c)):=by
 obtain ⟨h1,h2⟩:=look_act c op
 unfold entA
 cases ht:tabF op with
 | true =>
  obtain ⟨v1,v2,v3,e,ho,ha⟩:=h1 ht
  exact ⟨v1,v2,v3,by rw [e];rfl,ho,by rw [e];rfl,fun _=>ha⟩
 | false =>
  rw [h2 ht]
  exact ⟨_,_,_,rfl,rfl,rfl,fun h=>by cases h⟩
theorem entA_whole (c:Nat→Nat) (op:Nat):Whole (entA c op) 3:=by
 obtain ⟨v1,v2,v3,e,ho,_⟩:=entA_is c op
 exact ⟨⟨[v1,v2,v3],e,rfl,ho⟩⟩
def RFind (op:Nat):Value→List Fa→Own→Prop:=fun u Φ' M' => ∃ v1 v2 v3,u = .tuple #[.agg #[v1,v2,v3],.bool (foundF op)]∧ones [v1,v2,v3]=true∧M'=[]∧(foundF op=true→ActOK op (.agg #[v1,v2,v3]) Φ')
theorem find_spec (op:Nat) (hop:op<256):Fn prog 31 [.int .u8 (op:Int)] [] [] (RFind op):=by
 have his:=is_spec op hop
 by_cases hc:isC op=true
 ·rw [hc] at his
  have hf:foundF op=true:=by unfold foundF;rw [hc];rfl
  unfold RFind
  rw [hf]
  by_cases h10:op=10
  ·subst h10
   refine Fn.enter func31 rfl ntmps31 oI (fun I0 w0 => ?_)
   repeat refine sq ?_;try intro
   rename_i b1 b2
   refine cV his ?_
   repeat refine sq ?_;try intro
   refine o_func rfl rfl rfl rfl ?_
   repeat refine sq ?_;try intro
   refine G.give b1 (cs:=[.int .u8 ((10:Nat):Int)]) (t:=5) ?_
   exact G.ret rfl (.cons (.cellA rfl rfl) (.cons (.tmp rfl) .nil)) (Φ':=[fBlk b1 [.int .u8 ((10:Nat):Int)] 5]) (M':=[]) oY oN ⟨_,_,_,rfl,rfl,rfl,fun _=>⟨53,[.pointer (some ⟨b1,0,none⟩)],_,_,rfl,oY,doC_ok 10 hop hc b1,more10 _,reach_nil (fun l=>(span_nil hop (.inl hc) l).1)⟩⟩
  ·refine Fn.enter func31 rfl ntmps31 oI (fun I0 w0 => ?_)
   repeat refine sq ?_;try intro
   rename_i b1 b2
   refine cV his ?_
   repeat refine sq ?_;try intro
   refine o_func rfl rfl rfl rfl ?_
   repeat refine sq ?_;try intro
   refine G.give b1 (cs:=[.int .u8 (op:Int)]) (t:=5) ?_
   exact G.ret rfl (.cons (.cellA rfl rfl) (.cons (.tmp rfl) .nil)) (Φ':=[fBlk b1 [.int .u8 (op:Int)] 5]) (M':=[]) oY oN ⟨_,_,_,rfl,rfl,rfl,fun _=>⟨53,[.pointer (some ⟨b1,0,none⟩)],_,_,rfl,oY,doC_ok op hop hc b1,more_nil (fun l=>(span_nil hop (.inl hc) l).2 h10),reach_nil (fun l=>(span_nil hop (.inl hc) l).1)⟩⟩
 ·have hc:isC op=false:=by simpa using hc
  rw [hc] at his
  by_cases hp:95≤op∧op≤127
  ·have hf:foundF op=true:=by unfold foundF;rw [decide_eq_true hp,Bool.or_true];rfl
   unfold RFind
   rw [hf]
   refine Fn.enter func31 rfl ntmps31 oI (fun I0 w0 => ?_)
   repeat refine sq ?_;try intro
   rename_i b1 b2
   refine cV his ?_
   repeat refine sq ?_;try intro
   rename_i b5
   refine o_func rfl rfl rfl rfl ?_
   repeat refine sq ?_;try intro
   refine G.give b5 (cs:=[.int .i64 ((op-95:Nat):Int)]) (t:=3) ?_
   exact G.ret rfl (.cons (.cellA rfl rfl) (.cons (.tmp rfl) .nil)) (Φ':=[fBlk b5 [.int .i64 ((op-95:Nat):Int)] 3]) (M':=[]) oY oN ⟨_,_,_,rfl,rfl,rfl,fun _=>⟨57,[.pointer (some ⟨b5,0,none⟩)],_,_,rfl,oY,doP_ok op hp.1 hp.2 b5,more_nil (fun l=>(span_nil hop (.inr hp) l).2 oM),reach_nil (fun l=>(span_nil hop (.inr hp) l).1)⟩⟩
  ·have hf:foundF op=tabF op:=by unfold foundF;rw [hc,decide_eq_false hp];rfl
   unfold RFind
   rw [hf]
   have hn:op<95∨127<op:=by omega
   refine Fn.enter func31 rfl ntmps31 oI (fun I0 w0 => ?_)
   repeat refine sq ?_;try intro
   rename_i b1 b2
   refine cV his ?_
   have hwh:=entA_whole
   have his2:=fun c=>(entA_is c op).choose_spec.choose_spec.choose_spec.2.2.1
   rcases hn with hn|hn
   all_goals
    repeat refine sq ?_;try intro
    refine W.drawCh 8 {j:=7,k:=[0,6],M:=fun c=>[(bk (c 6),Ob (cellsL (entA (cOf (blL (c 0))) op)) 64),(b2,Ob [.nilFunc,.nilFunc,.nilFunc] 64),(b1,Ob [.int .u8 (op:Int)] 5)]} [{j:=6,k:=[6],M:=fun c=>[(bk (c 6),Ob [.nilFunc,.nilFunc,.nilFunc] 64),(b2,Ob [.nilFunc,.nilFunc,.nilFunc] 64),(b1,Ob [.int .u8 (op:Int)] 5)]}] [⟨fun _ z => .map (some (blB z)),fun _ z=>fObj (blB z) (MapV (actsT (cOf (blL z))))::actsF (cOf (blL z))⟩,dq _,dq (fun c _ => .tuple #[entA (cOf (blL (c 0))) op,.bool (tabF op)]),dq _,dq _,dq _,dp,(dq fun _ _ => .bool false)] [[],[],[0,1],[2],[3],[3],[],[4,6]] [0,5,6] (hloc:=by (repeat (first|exact AllL.nil|refine AllL.au ?_|refine AllL.au ?_ (by intro c c2 z h;refine nrm ?_;constructor<;>first|rfl|(rw [h 0 kR]))))) (hrest:=fun c=>nrmC ?_) (hops:=by
     refine AllX.ch ?_ ?_;rotate_left
     focus (refine ⟨⟨rfl,kR⟩,.inl kR,.inr (⟨⟨rfl,kR⟩,.inr ?_,.inr (?_)⟩)⟩;all_goals (intro c z0 Φr Lr K;refine nrmC ?_;intro hK;refine OpK.call rfl rfl rfl rfl acts_spec oY (Mr:=_) oP ?_;rintro u Φ' Mc' ⟨b,l,rfl,rfl,rfl⟩;have hk:=hK (blV b l);simp only [blB_v,blL_v] at hk;exact hk))
     iterate 1 refine AllX.cu ?_
     refine AllX.ch ?_ ?_;rotate_left
     focus (refine ⟨⟨rfl,kR⟩,.inl kR,.inr (⟨⟨rfl,kR⟩,.inr ?_,.inr (?_)⟩)⟩;all_goals (intro c z0 Φr Lr K;refine nrmC ?_;intro hK;refine o_lookG (l:=actsT (cOf (blL (c 0)))) rfl rfl rfl rfl (by first|exact .head _|simp) rfl (his2 _) ?_;exact hK z0))
     iterate 5 refine AllX.cu ?_
     exact AllX.end)
    obtain ⟨v1,v2,v3,he,ho,_,ha⟩:=entA_is (cOf (blL (c 0))) op
    rw [he]
    haveI:Whole (.agg #[v1,v2,v3]) 3:=⟨⟨[v1,v2,v3],rfl,rfl,ho⟩⟩
    repeat refine sq ?_;try intro
    exact G.ret rfl (.cons (.cellA rfl rfl) (.cons (.tmp rfl) .nil)) (Φ':=actsF (cOf (blL (c 0)))) (M':=[]) ⟨fun I hp φ hφ=>hp φ (.tail _ hφ)⟩ oN ⟨v1,v2,v3,rfl,ho,rfl,ha⟩
end Go.Rail
namespace Go.Rail
open Go Go.Proofs Tryz
set_option maxHeartbeats 400000
set_option maxRecDepth 4000
attribute [local irreducible] OpK G W LW wpListIn Exit.then Exit.inBlock Post rounds opRun bodyPostM intOp
set_option maxHeartbeats 2000000
instance:FnTy prog 61:=⟨by kernel_rfl,by kernel_rfl⟩
instance:FnTy prog 62:=⟨by kernel_rfl,by kernel_rfl⟩
theorem local_spec (op:Nat) (hop:op<256):FnV prog 12 [.int .u8 (op:Int)] [] (.bool (localF op)):=by
 have h1:=info_spec op hop
 have h2:=find_spec op hop
 have e:localF op=(foundF op || !(infoN op).isSome||decide (op=254)):=by
  unfold localF
  cases infoN op<;>rfl
 unfold infoV at h1
 rw [e]
 generalize (infoN op).getD noRow=r at h1
 generalize (infoN op).isSome=is at h1 ⊢
 refine Fn.enter func12 rfl ntmps12 oI (fun I0 w0 => ?_)
 repeat refine sq ?_;try intro
 refine cV h1 ?_
 repeat refine sq ?_;try intro
 refine OpK.call rfl rfl rfl rfl h2 oY (Mr:=_) oP ?_
 rintro u Φ' Mc' ⟨v1,v2,v3,rfl,ho,rfl,ha⟩
 haveI:Whole (.agg #[v1,v2,v3]) 3:=⟨⟨[v1,v2,v3],rfl,rfl,ho⟩⟩
 rw [List.append_nil,List.nil_append]
 refine G.weaken (Φ':=[]) ?_ (fun φ hφ=>(List.not_mem_nil hφ).elim) (fun _ _ h=>h) oZ
 clear ha h2
 generalize foundF op=fo
 cases fo
 ·cases is
  ·repeat refine sq ?_;try intro
   refine G.retV ?_
   simp [tup]
  ·by_cases h254:op=254
   ·rw [decide_eq_true h254]
    repeat refine sq ?_;try intro
    refine G.retV ?_
    simp [tup]
   ·rw [decide_eq_false h254]
    repeat refine sq ?_;try intro
    refine G.retV ?_
    simp [tup]
 ·repeat refine sq ?_;try intro
  refine G.retV ?_
  simp [tup]
def RFd (f:Frm):Value→List Fa→Own→Prop:=fun u Φ' M' => ∃ a c,u=frmV f (.slice a f.stack.length c)∧Φ'=[fRp (.slice a f.stack.length c) f.stack]∧M'=[]
abbrev frmC (f:Frm) (sv:Value):List Value:=[.string (ba f.code),.string (ba f.input),.int .i64 f.pc,sv,.string (ba f.mem),.int .i64 f.gas,.string (ba f.ret),.int .i64 f.status,.int .i64 f.errno,.string (ba f.out)]
theorem trimF_le (l:List UInt8):(trimF l).length≤l.length:=(List.dropWhile_sublist _).length_le
theorem wordsF_le (n:Nat):wordsF n≤40000:=by unfold wordsF manyF;omega
theorem moreF_le (op:Nat) (l:List Word):moreF op l≤1000000000:=by
 unfold moreF
 have h1:=trimF_le (byN (l.getD 1 .zero).num)
 rw [byN_len] at h1
 have h2:=wordsF_le (numF (l.getD 1 .zero))
 have h3:=wordsF_le (numF (l.getD 2 .zero))
 split
 ·omega
 ·split
  ·omega
  ·split<;>omega
theorem hs2 {φ1 φ2 φ3 φ4:Fa} (Φx:List Fa) (φ:Fa) (h:φ∈[φ3,φ1]):φ∈φ1::φ2::φ3::φ4::Φx:=by
 rcases List.mem_cons.1 h with rfl|h
 ·exact .tail _ (.tail _ (.head _))
 ·rcases List.mem_cons.1 h with rfl|h
  ·exact .head _
  ·exact (List.not_mem_nil h).elim
theorem payF_paid {f p:Frm} {op more:Nat} {sp:List (Word × Word)} (hop:op<256) (hfo:foundF op=true) (t1:(infoN op).isSome=true) (h:Rt f) (hs:f.status=0) (hpc:f.pc<f.code.length) (t3:popsN op≤f.stack.length) (t4:f.stack.length+pushN' op≤1024+popsN op) (hp:payF f op more sp=some p):Paid p op:=by
 obtain ⟨a1,a2,a3,a4,a5,a6,a7,a8,a9,a10,a11,a12,a13,a14,a15⟩:=h
 have ho:f.out=[]:=by rcases a15 with h|h|h<;>first|exact h|omega
 have he:f.errno=0:=by
  by_cases h0:f.errno=0
  ·exact h0
  ·have:=a14.1 h0;omega
 obtain ⟨c1,c2⟩:=chkG_at hop hfo t1
 unfold payF at hp
 split at hp
 ·cases hp
 ·rename_i words hw
  split at hp
  ·cases hp
  ·rename_i hg
   obtain ⟨r1,r2⟩:=reachF_le _ _ _ hw
   have r2:=r2 oM
   have hm:=costF_mono r1
   injection hp with hp
   subst hp
   have hgl:=growF_len f.mem words
   refine ⟨a1,a2,a3,ho,by show 1≤f.pc+1;omega,by show f.pc+1≤(f.code.length:Int);omega,by dsimp only;omega,by dsimp only;omega,?_,?_,by dsimp only;omega,by dsimp only;omega,hs,he⟩
   ·dsimp only
    split
    ·exact a9
    ·rw [List.length_take];omega
   ·intro hc hpu
    have:=c2 hc hpu
    dsimp only
    rw [if_neg (by rw [hc];decide),List.length_take]
    omega
theorem hs3 {φ1 φ2 φ3 φ4 φ5:Fa} {Φx:List Fa} (φ:Fa) (h:φ∈φ1::φ3::φ5::Φx):φ∈φ1::φ2::φ3::φ4::φ5::Φx:=by
 rcases List.mem_cons.1 h with rfl|h
 ·exact .head _
 ·rcases List.mem_cons.1 h with rfl|h
  ·exact .tail _ (.tail _ (.head _))
  ·exact .tail _ (.tail _ (.tail _ (.tail _ h)))
theorem step_spec (f:Frm) (sv:Value) (op:Nat) (v1 v2 v3:Value) (Φx:List Fa) (hop:op<256) (hr:Rt f) (hst:f.status=0) (hpc:f.pc<f.code.length) (hl:localF op=true) (ho:ones [v1,v2,v3]=true) (ha:foundF op=true→ActOK op (.agg #[v1,v2,v3]) Φx) :
  Fn prog 35 [frmV f sv,.int .u8 (op:Int),.agg #[v1,v2,v3]] (fRp sv f.stack::fKc::Φx) [] (RFd (stepF keccakL f op)):=by
 have hr0:=hr
 obtain ⟨a1,a2,a3,a4,a5,a6,a7,a8,a9,a10,a11,a12,a13,a14,a15⟩:=hr
 have h1:=fun v=>take_spec f v op hop oM
 unfold stepF
 by_cases he:(takeF f.stack op).2≠0
 ·rw [if_pos he]
  have hf:=fun v e=>fail_spec f e v oM
  generalize takeF f.stack op=q at h1 he ⊢
  obtain ⟨l,e⟩:=q
  dsimp only at he ⊢
  refine Fn.enter func35 rfl ntmps35 oI (fun I0 w0 => ?_)
  refine W.bare (G.slice sv f.stack ?_)
  intro a1 c1 e1 k1
  subst e1
  haveI:Whole (.agg #[v1,v2,v3]) 3:=⟨⟨[v1,v2,v3],rfl,rfl,ho⟩⟩
  repeat refine sq ?_;try intro
  refine OpK.call rfl rfl rfl rfl (h1 _) oY (Mr:=_) oP ?_
  rintro u Φ' Mc' ⟨v,rfl,rfl,rfl⟩
  refine nB ?_
  repeat refine sq ?_;try intro
  refine OpK.call rfl rfl rfl rfl (hf _ _) oY (Mr:=_) oP ?_
  rintro u Φ' Mc' ⟨v5,o,hv,rfl,rfl,rfl⟩
  obtain ⟨a2,c2,rfl⟩:=own_open hv
  refine nA ?_
  refine G.giveOwn _ _ o 49 (Mr:=_) hv oY oP ?_
  repeat refine sq ?_;try intro
  exact G.ret rfl (.cons (.cellA rfl rfl) .nil) (Φ':=[fRp (.slice a2 _ c2) _]) (M':=[]) oY oN ⟨a2,c2,rfl,rfl,rfl⟩
 ·have ht0:(takeF f.stack op).2=0:=by omega
  rw [if_neg he]
  obtain ⟨t1,t2,t3,t4,t5⟩:=takeF_ok ht0
  have hfo:foundF op=true:=by
   unfold localF at hl
   rw [Bool.or_eq_true,Bool.or_eq_true] at hl
   rcases hl with (hl|hl)|hl
   ·exact hl
   ·cases hx:infoN op with
    | none=>rw [hx] at t1;cases t1
    | some r=>rw [hx] at hl;cases hl
   ·exact absurd (of_decide_eq_true hl) t2
  obtain ⟨fd,cd,more,reach,e0,hfn,hdo,hmo,hre⟩:=ha hfo
  obtain ⟨e1,e2,e3⟩:v1 = .func (.func fd) #[] cd.toArray∧v2=more∧v3=reach:=by simpa using e0
  subst e1;subst e2;subst e3
  have hll:(takeF f.stack op).1.length=popsN op:=by rw [t5,List.length_reverse,List.length_drop];omega
  generalize hl2:(takeF f.stack op).1=l at h1 hll ⊢
  have hq:takeF f.stack op=(l,0):=by rw [← hl2,← ht0]
  rw [hq] at h1
  refine Fn.enter func35 rfl ntmps35 oI (fun I0 w0 => ?_)
  refine W.bare (G.slice sv f.stack ?_)
  intro a1 c1 e1 k1
  subst e1
  haveI:Whole (.agg #[.func (.func fd) #[] cd.toArray,v2,v3]) 3:=⟨⟨[_,v2,v3],rfl,rfl,ho⟩⟩
  repeat refine sq ?_;try intro
  rename_i b3 b5 b6
  refine OpK.call rfl rfl rfl rfl (h1 _) oY (Mr:=_) oP ?_
  rintro u Φ' Mc' ⟨v,rfl,rfl,rfl⟩
  refine nB ?_
  refine G.slice v l ?_
  intro ad7 c7 e7 k7
  subst e7
  repeat refine sq ?_;try intro
  have hk2:fnOk v2=true:=by rcases hmo with ⟨rfl,_⟩|⟨g,cg,rfl,_⟩<;>rfl
  have hk3:fnOk v3=true:=by rcases hre with ⟨rfl,_⟩|⟨g,cg,rfl,_⟩<;>rfl
  refine o_neFn rfl rfl rfl rfl hk2 rfl ?_
  repeat refine sq ?_;try intro
  have hsub : ∀ φ∈fRp (.slice ad7 l.length c7) l::Φx,φ∈fRp (.slice ad7 l.length c7) l::fRp (.slice a1 f.stack.length c1) f.stack::fKc::Φx:=by
   intro φ hφ
   rcases List.mem_cons.1 hφ with rfl|hφ
   ·exact .head _
   ·exact .tail _ (.tail _ (.tail _ hφ))
  refine W.cutThen (fRp (.slice ad7 l.length c7) l::fRp (.slice a1 f.stack.length c1) f.stack::fKc::Φx) [(9,.int .i64 ((moreF op l:Nat):Int)),(10,.slice none 0 0),(7,.slice ad7 l.length c7),(1,.int .u8 (op:Int)),(3,.pointer (some ⟨b3,0,none⟩)),(5,.pointer (some ⟨b5,0,none⟩)),(6,.pointer (some ⟨b6,0,none⟩))] [(b6,Ob (frmC (bgF [] [] 0) (.slice none 0 0)) 26),(b5,Ob [.func (.func fd) #[] cd.toArray,v2,v3] 64),(b3,Ob (frmC f (.slice a1 f.stack.length c1)) 26)] ?_ ?_
  ·rcases hmo with ⟨rfl,hm⟩|⟨g,cg,rfl,hg,hm⟩
   ·rw [hm l]
    repeat refine sq ?_;try intro
    exact G.kpA (hΦ:=⟨fun I hp=>hp⟩)
   ·repeat refine sq ?_;try intro
    refine o_callV (cap:=cg) rfl rfl rfl rfl (hm (.slice ad7 l.length c7) l hll) rfl (hΦ := .mem hsub) ?_
    repeat refine sq ?_;try intro
    exact G.kpA (hΦ:=⟨fun I hp=>hp⟩)
  repeat refine sq ?_;try intro
  refine o_neFn rfl rfl rfl rfl hk3 rfl ?_
  repeat refine sq ?_;try intro
  refine W.cutE (S:=Value × List Spn) (fun s=>(fRp s.1 s.2::fRp (.slice ad7 l.length c7) l::fRp (.slice a1 f.stack.length c1) f.stack::fKc::Φx,[(9,.int .i64 ((moreF op l:Nat):Int)),(10,s.1),(7,.slice ad7 l.length c7),(1,.int .u8 (op:Int)),(3,.pointer (some ⟨b3,0,none⟩)),(5,.pointer (some ⟨b5,0,none⟩)),(6,.pointer (some ⟨b6,0,none⟩))],[(b6,Ob (frmC (bgF [] [] 0) (.slice none 0 0)) 26),(b5,Ob [.func (.func fd) #[] cd.toArray,v2,v3] 64),(b3,Ob (frmC f (.slice a1 f.stack.length c1)) 26)])) (fun s=>prs s.2=spanF op l∧s.2.length≤1) ?_ ?_
  ·rcases hre with ⟨rfl,hm⟩|⟨g,cg,rfl,hg,hm⟩
   ·repeat refine sq ?_;try intro
    exact G.kpE (.slice none 0 0,[]) ⟨(hm l).symm,Nat.zero_le _⟩ ⟨fun I hp φ hφ=>by
     rcases List.mem_cons.1 hφ with rfl|hφ
     ·exact Rp.nil none 0
     ·exact hp φ hφ⟩ (by (repeat (first|exact lN|refine lC rfl ?_))) oZ
   ·obtain ⟨s,hs,hc⟩:=hm (.slice ad7 l.length c7) l hll
    repeat refine sq ?_;try intro
    refine o_callV (cap:=cg) rfl rfl rfl rfl hc rfl (hΦ := .mem hsub) ?_
    repeat refine sq ?_;try intro
    refine o_litV (xs:=[s]) rfl rfl rfl (.cons rfl .nil) oY oY rfl rfl ?_
    intro u1
    repeat refine sq ?_;try intro
    refine o_app2 (α:=Spn) (bytes:=64) none (xs:=[]) (ys:=[s]) (Mr:=_) ⟨rfl,rfl⟩ ⟨by simp,by simp,rfl⟩ rfl rfl rfl rfl ⟨fun _ _=>⟨by simp,fun k hk=>by cases hk⟩⟩ ⟨fun I hp=>hp _ (.head _)⟩ (by rw [show ownM 102 none=[] from rfl,List.append_nil]) ?_
    intro v' o' hv'
    dsimp only [List.nil_append] at hv' ⊢
    refine G.giveOwn2 v' [s] o' 102 (Mr:=_) hv' oY oP ?_
    repeat refine sq ?_;try intro
    exact G.kpE (v',[s]) ⟨hs.symm,Nat.le_refl _⟩ (.mem fun φ hφ=>by
     rcases List.mem_cons.1 hφ with rfl|hφ
     ·exact .head _
     ·exact .tail _ (.tail _ (.tail _ hφ))) (by (repeat (first|exact lN|refine lC rfl ?_))) oZ
  rintro ⟨v9,xs⟩ ⟨hxs,hx1⟩
  dsimp only at hxs hx1 ⊢
  have hmb:moreF op l≤1000000000:=moreF_le op l
  cases hpf:payF f op (moreF op l) (spanF op l) with
  | none =>
   have hpay:=fun w=>pay_none f w v9 op (moreF op l) xs hop (by rw [hxs];exact hpf) a10 hmb a7 oM oM
   have hf:=fun v=>fail_spec f 43 v oM
   dsimp only
   repeat refine sq ?_;try intro
   refine OpK.call rfl rfl rfl rfl (hpay _) (.mem (hs2 _)) (Mr:=_) oP ?_
   rintro u Φ' Mc' ⟨a5,c5,rfl,rfl,rfl⟩
   refine nB ?_
   repeat refine sq ?_;try intro
   refine OpK.call rfl rfl rfl rfl (hf _) oY (Mr:=_) oP ?_
   rintro u Φ' Mc' ⟨v5,o,hv,rfl,rfl,rfl⟩
   obtain ⟨a2,c2,rfl⟩:=own_open hv
   refine nA ?_
   refine G.giveOwn _ _ o 49 (Mr:=_) hv oY oP ?_
   repeat refine sq ?_;try intro
   exact G.ret rfl (.cons (.cellA rfl rfl) .nil) (Φ':=[fRp (.slice a2 _ c2) _]) (M':=[]) oY oN ⟨a2,c2,rfl,rfl,rfl⟩
  | some p =>
   have hpay:=fun w=>pay_some f w v9 op (moreF op l) xs p hop (by rw [hxs];exact hpf) a10 a11 oM t3 hmb a7 oM a5 oM oM
   have hpaid:=payF_paid hop hfo t1 hr0 hst hpc t3 t4 hpf
   have hf:=fun v e=>fail_spec f e v oM
   have hdd:=hdo
   dsimp only
   repeat refine sq ?_;try intro
   refine OpK.call rfl rfl rfl rfl (hpay _) (.mem (hs2 _)) (Mr:=_) oP ?_
   rintro u Φ' Mc' ⟨v5,o,hv,rfl,rfl,rfl⟩
   obtain ⟨a2,c2,rfl⟩:=own_open hv
   refine nA ?_
   refine G.perm ?_ oH
   refine nA ?_
   repeat refine sq ?_;try intro
   rename_i b11 b13
   refine OpK.call (cap:=cd) rfl rfl rfl rfl (hdo b13 p (.slice a2 p.stack.length c2) (.slice ad7 l.length c7) l o hpaid hll (fun _=>Option.isSome_iff_exists.1 t1) hv) (.mem hs3) (Mr:=[_,_,_,_]) (.cons _ (oH (l₁:=[_,_,_,_]))) ?_
   rintro u Φ' Mc' ⟨a9,c9,rfl,rfl,rfl⟩
   refine nA ?_
   generalize doF keccakL op p l=q
   obtain ⟨q1,q2⟩:=q
   dsimp only
   by_cases hw:q2≠0
   ·rw [if_pos hw]
    repeat refine sq ?_;try intro
    refine W.drawA 5 [dq _,dq _,dq _,dq _,dq _] [[],[],[1],[2],[3]] [0,4] (hrest:=fun c=>nrm ?_) (hops:=by
     iterate 5 refine AllQ.aq ?_
     exact AllQ.nil)
    repeat refine sq ?_;try intro
    refine OpK.call rfl rfl rfl rfl (hf _ _) oY (Mr:=_) oP ?_
    rintro u Φ' Mc' ⟨v5,o,hv,rfl,rfl,rfl⟩
    obtain ⟨a2,c2,rfl⟩:=own_open hv
    refine nA ?_
    refine G.giveOwn _ _ o 49 (Mr:=_) hv oY oP ?_
    repeat refine sq ?_;try intro
    exact G.ret rfl (.cons (.cellA rfl rfl) .nil) (Φ':=[fRp (.slice a2 _ c2) _]) (M':=[]) oY oN ⟨a2,c2,rfl,rfl,rfl⟩
   ·rw [if_neg hw]
    obtain rfl:q2=0:=by omega
    repeat refine sq ?_;try intro
    exact G.ret rfl (.cons (.cellA rfl rfl) .nil) (Φ':=[fRp (.slice a9 _ c9) _]) (M':=[]) oY oN ⟨a9,c9,rfl,rfl,rfl⟩
end Go.Rail
