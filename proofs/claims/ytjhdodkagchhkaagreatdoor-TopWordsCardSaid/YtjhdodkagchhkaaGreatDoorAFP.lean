/- frame.find walked; frame.Local. -/
import Derived.Test.YtjhdodkagchhkaaGreatDoorRailA
import Derived.Test.YtjhdodkagchhkaaGreatDoorRailI
import Derived.Test.YtjhdodkagchhkaaGreatDoorRailJ
import Derived.Test.YtjhdodkagchhkaaGreatDoorAFNFO
set_option linter.unusedSimpArgs false
set_option linter.unusedVariables false
namespace Go.Rail
open Go Go.Proofs Tryz
set_option maxHeartbeats 400000
set_option maxRecDepth 4000
attribute [local irreducible] OpK G W LW wpListIn Exit.then Exit.inBlock Post rounds opRun bodyPostM intOp
set_option maxHeartbeats 1000000
theorem act0 (c:Nat→Nat) : ∃ v1 v2 v3,getV (actsT c) 0=some (.agg #[v1,v2,v3])∧ones [v1,v2,v3]=true∧ActOK 0 (.agg #[v1,v2,v3]) (actsF c) :=
 ⟨_,_,_,rfl,rfl,176,[],_,_,rfl,oY,do0 _,more_nil (fun l=>rfl),reach_nil (fun l=>rfl)⟩
theorem act32 (c:Nat→Nat) : ∃ v1 v2 v3,getV (actsT c) 32=some (.agg #[v1,v2,v3])∧ones [v1,v2,v3]=true∧ActOK 32 (.agg #[v1,v2,v3]) (actsF c) :=
 ⟨_,_,_,rfl,rfl,177,[],_,_,rfl,oY,do32 _,more_hash (c 0) (c 1) (by repeat (first|exact List.Mem.head _|apply List.Mem.tail)) (by repeat (first|exact List.Mem.head _|apply List.Mem.tail)),reach_piece (c 2) (c 3) 0 1 2 pops32 oE oE oE (fun l=>rfl) (by repeat (first|exact List.Mem.head _|apply List.Mem.tail)) (by repeat (first|exact List.Mem.head _|apply List.Mem.tail))⟩
theorem act53 (c:Nat→Nat) : ∃ v1 v2 v3,getV (actsT c) 53=some (.agg #[v1,v2,v3])∧ones [v1,v2,v3]=true∧ActOK 53 (.agg #[v1,v2,v3]) (actsF c) :=
 ⟨_,_,_,rfl,rfl,181,[],_,_,rfl,oY,do53 _,more_nil (fun l=>rfl),reach_nil (fun l=>rfl)⟩
theorem act54 (c:Nat→Nat) : ∃ v1 v2 v3,getV (actsT c) 54=some (.agg #[v1,v2,v3])∧ones [v1,v2,v3]=true∧ActOK 54 (.agg #[v1,v2,v3]) (actsF c) :=
 ⟨_,_,_,rfl,rfl,182,[],_,_,rfl,oY,do54 _,more_nil (fun l=>rfl),reach_nil (fun l=>rfl)⟩
theorem act55 (c:Nat→Nat) : ∃ v1 v2 v3,getV (actsT c) 55=some (.agg #[v1,v2,v3])∧ones [v1,v2,v3]=true∧ActOK 55 (.agg #[v1,v2,v3]) (actsF c) :=
 ⟨_,_,_,rfl,rfl,183,[],_,_,rfl,oY,do55 _,more_copy (c 4) (c 5) pops55 (fun l=>rfl) (by repeat (first|exact List.Mem.head _|apply List.Mem.tail)) (by repeat (first|exact List.Mem.head _|apply List.Mem.tail)),reach_piece (c 6) (c 7) 0 2 3 pops55 oE oE oE (fun l=>rfl) (by repeat (first|exact List.Mem.head _|apply List.Mem.tail)) (by repeat (first|exact List.Mem.head _|apply List.Mem.tail))⟩
theorem act56 (c:Nat→Nat) : ∃ v1 v2 v3,getV (actsT c) 56=some (.agg #[v1,v2,v3])∧ones [v1,v2,v3]=true∧ActOK 56 (.agg #[v1,v2,v3]) (actsF c) :=
 ⟨_,_,_,rfl,rfl,186,[],_,_,rfl,oY,do56 _,more_nil (fun l=>rfl),reach_nil (fun l=>rfl)⟩
theorem act57 (c:Nat→Nat) : ∃ v1 v2 v3,getV (actsT c) 57=some (.agg #[v1,v2,v3])∧ones [v1,v2,v3]=true∧ActOK 57 (.agg #[v1,v2,v3]) (actsF c) :=
 ⟨_,_,_,rfl,rfl,187,[],_,_,rfl,oY,do57 _,more_copy (c 8) (c 9) pops57 (fun l=>rfl) (by repeat (first|exact List.Mem.head _|apply List.Mem.tail)) (by repeat (first|exact List.Mem.head _|apply List.Mem.tail)),reach_piece (c 10) (c 11) 0 2 3 pops57 oE oE oE (fun l=>rfl) (by repeat (first|exact List.Mem.head _|apply List.Mem.tail)) (by repeat (first|exact List.Mem.head _|apply List.Mem.tail))⟩
theorem act61 (c:Nat→Nat) : ∃ v1 v2 v3,getV (actsT c) 61=some (.agg #[v1,v2,v3])∧ones [v1,v2,v3]=true∧ActOK 61 (.agg #[v1,v2,v3]) (actsF c) :=
 ⟨_,_,_,rfl,rfl,188,[],_,_,rfl,oY,do61 _,more_nil (fun l=>rfl),reach_nil (fun l=>rfl)⟩
theorem act62 (c:Nat→Nat) : ∃ v1 v2 v3,getV (actsT c) 62=some (.agg #[v1,v2,v3])∧ones [v1,v2,v3]=true∧ActOK 62 (.agg #[v1,v2,v3]) (actsF c) :=
 ⟨_,_,_,rfl,rfl,189,[],_,_,rfl,oY,do62 _,more_copy (c 12) (c 13) pops62 (fun l=>rfl) (by repeat (first|exact List.Mem.head _|apply List.Mem.tail)) (by repeat (first|exact List.Mem.head _|apply List.Mem.tail)),reach_piece (c 14) (c 15) 0 2 3 pops62 oE oE oE (fun l=>rfl) (by repeat (first|exact List.Mem.head _|apply List.Mem.tail)) (by repeat (first|exact List.Mem.head _|apply List.Mem.tail))⟩
theorem act81 (c:Nat→Nat) : ∃ v1 v2 v3,getV (actsT c) 81=some (.agg #[v1,v2,v3])∧ones [v1,v2,v3]=true∧ActOK 81 (.agg #[v1,v2,v3]) (actsF c) :=
 ⟨_,_,_,rfl,rfl,190,[],_,_,rfl,oY,do81 _,more_nil (fun l=>rfl),reach_fixed (c 16) 32 1 pops81 oE oE (fun l=>rfl) (by repeat (first|exact List.Mem.head _|apply List.Mem.tail))⟩
theorem act82 (c:Nat→Nat) : ∃ v1 v2 v3,getV (actsT c) 82=some (.agg #[v1,v2,v3])∧ones [v1,v2,v3]=true∧ActOK 82 (.agg #[v1,v2,v3]) (actsF c) :=
 ⟨_,_,_,rfl,rfl,193,[],_,_,rfl,oY,do82 _,more_nil (fun l=>rfl),reach_fixed (c 17) 32 2 pops82 oE oE (fun l=>rfl) (by repeat (first|exact List.Mem.head _|apply List.Mem.tail))⟩
theorem act83 (c:Nat→Nat) : ∃ v1 v2 v3,getV (actsT c) 83=some (.agg #[v1,v2,v3])∧ones [v1,v2,v3]=true∧ActOK 83 (.agg #[v1,v2,v3]) (actsF c) :=
 ⟨_,_,_,rfl,rfl,195,[],_,_,rfl,oY,do83 _,more_nil (fun l=>rfl),reach_fixed (c 18) 1 2 pops83 oE oE (fun l=>rfl) (by repeat (first|exact List.Mem.head _|apply List.Mem.tail))⟩
theorem act86 (c:Nat→Nat) : ∃ v1 v2 v3,getV (actsT c) 86=some (.agg #[v1,v2,v3])∧ones [v1,v2,v3]=true∧ActOK 86 (.agg #[v1,v2,v3]) (actsF c) :=
 ⟨_,_,_,rfl,rfl,196,[],_,_,rfl,oY,do86 _,more_nil (fun l=>rfl),reach_nil (fun l=>rfl)⟩
theorem act87 (c:Nat→Nat) : ∃ v1 v2 v3,getV (actsT c) 87=some (.agg #[v1,v2,v3])∧ones [v1,v2,v3]=true∧ActOK 87 (.agg #[v1,v2,v3]) (actsF c) :=
 ⟨_,_,_,rfl,rfl,197,[],_,_,rfl,oY,do87 _,more_nil (fun l=>rfl),reach_nil (fun l=>rfl)⟩
theorem act88 (c:Nat→Nat) : ∃ v1 v2 v3,getV (actsT c) 88=some (.agg #[v1,v2,v3])∧ones [v1,v2,v3]=true∧ActOK 88 (.agg #[v1,v2,v3]) (actsF c) :=
 ⟨_,_,_,rfl,rfl,198,[],_,_,rfl,oY,do88 _,more_nil (fun l=>rfl),reach_nil (fun l=>rfl)⟩
theorem act89 (c:Nat→Nat) : ∃ v1 v2 v3,getV (actsT c) 89=some (.agg #[v1,v2,v3])∧ones [v1,v2,v3]=true∧ActOK 89 (.agg #[v1,v2,v3]) (actsF c) :=
 ⟨_,_,_,rfl,rfl,199,[],_,_,rfl,oY,do89 _,more_nil (fun l=>rfl),reach_nil (fun l=>rfl)⟩
theorem act90 (c:Nat→Nat) : ∃ v1 v2 v3,getV (actsT c) 90=some (.agg #[v1,v2,v3])∧ones [v1,v2,v3]=true∧ActOK 90 (.agg #[v1,v2,v3]) (actsF c) :=
 ⟨_,_,_,rfl,rfl,200,[],_,_,rfl,oY,do90 _,more_nil (fun l=>rfl),reach_nil (fun l=>rfl)⟩
theorem act91 (c:Nat→Nat) : ∃ v1 v2 v3,getV (actsT c) 91=some (.agg #[v1,v2,v3])∧ones [v1,v2,v3]=true∧ActOK 91 (.agg #[v1,v2,v3]) (actsF c) :=
 ⟨_,_,_,rfl,rfl,201,[],_,_,rfl,oY,do91 _,more_nil (fun l=>rfl),reach_nil (fun l=>rfl)⟩
theorem act243 (c:Nat→Nat) : ∃ v1 v2 v3,getV (actsT c) 243=some (.agg #[v1,v2,v3])∧ones [v1,v2,v3]=true∧ActOK 243 (.agg #[v1,v2,v3]) (actsF c) :=
 ⟨_,_,_,rfl,rfl,202,[],_,_,rfl,oY,do243 _,more_nil (fun l=>rfl),reach_piece (c 19) (c 20) 0 1 2 pops243 oE oE oE (fun l=>rfl) (by repeat (first|exact List.Mem.head _|apply List.Mem.tail)) (by repeat (first|exact List.Mem.head _|apply List.Mem.tail))⟩
theorem act253 (c:Nat→Nat) : ∃ v1 v2 v3,getV (actsT c) 253=some (.agg #[v1,v2,v3])∧ones [v1,v2,v3]=true∧ActOK 253 (.agg #[v1,v2,v3]) (actsF c) :=
 ⟨_,_,_,rfl,rfl,204,[],_,_,rfl,oY,do253 _,more_nil (fun l=>rfl),reach_piece (c 21) (c 22) 0 1 2 pops253 oE oE oE (fun l=>rfl) (by repeat (first|exact List.Mem.head _|apply List.Mem.tail)) (by repeat (first|exact List.Mem.head _|apply List.Mem.tail))⟩
theorem getV_none {l:List (Int × Value)} {k:Int} (h:k∉l.map (·.1)):getV l k=none:=by
 induction l with
 | nil=>rfl
 | cons e r ih =>
  rw [List.map_cons,List.mem_cons,not_or] at h
  rw [getV,if_neg h.1]
  exact ih h.2
theorem look_act (c:Nat→Nat) (op:Nat):(tabF op=true → ∃ v1 v2 v3,getV (actsT c) (op:Int)=some (.agg #[v1,v2,v3])∧ones [v1,v2,v3]=true∧ActOK op (.agg #[v1,v2,v3]) (actsF c))∧(tabF op=false→getV (actsT c) (op:Int)=none):=by
 have hm:tabF op=true↔op∈[0,32,53,54,55,56,57,61,62,81,82,83,86,87,88,89,90,91,243,253]:=by
  unfold tabF
  exact List.contains_iff_mem
 constructor
 ·intro h
  have h:=hm.1 h
  simp only [List.mem_cons,List.not_mem_nil,or_false] at h
  rcases h with rfl|rfl|rfl|rfl|rfl|rfl|rfl|rfl|rfl|rfl|rfl|rfl|rfl|rfl|rfl|rfl|rfl|rfl|rfl|rfl
  ·exact act0 c
  ·exact act32 c
  ·exact act53 c
  ·exact act54 c
  ·exact act55 c
  ·exact act56 c
  ·exact act57 c
  ·exact act61 c
  ·exact act62 c
  ·exact act81 c
  ·exact act82 c
  ·exact act83 c
  ·exact act86 c
  ·exact act87 c
  ·exact act88 c
  ·exact act89 c
  ·exact act90 c
  ·exact act91 c
  ·exact act243 c
  ·exact act253 c
 ·intro h
  refine getV_none ?_
  rw [show (actsT c).map (·.1)=[0,32,53,54,55,56,57,61,62,81,82,83,86,87,88,89,90,91,243,253] from rfl]
  intro h2
  have:op∈[0,32,53,54,55,56,57,61,62,81,82,83,86,87,88,89,90,91,243,253]:=by
   simp only [List.mem_cons,List.not_mem_nil,or_false] at h2 ⊢
   omega
  rw [hm.2 this] at h
  cases h
def entA (c:Nat→Nat) (op:Nat):Value:=(getV (actsT c) (op:Int)).getD (.agg #[.nilFunc,.nilFunc,.nilFunc])
theorem entA_is (c:Nat→Nat) (op:Nat) : ∃ v1 v2 v3,entA c op = .agg #[v1,v2,v3]∧ones [v1,v2,v3]=true∧(getV (actsT c) (op:Int)).isSome=tabF op∧(tabF op=true→ActOK op (.agg #[v1,v2,v3]) (actsF c)):=by
 obtain ⟨h1,h2⟩:=look_act c op
 unfold entA
 cases ht:tabF op with
 | true =>
  obtain ⟨v1,v2,v3,e,ho,ha⟩:=h1 ht
  exact ⟨v1,v2,v3,by rw [e];rfl,ho,by rw [e];rfl,fun _=>ha⟩
 | false =>
  rw [h2 ht]
  exact ⟨_,_,_,rfl,rfl,rfl,fun h=>by cases h⟩
theorem entA_whole (c:Nat→Nat) (op:Nat):Whole (entA c op) 3:=by
 obtain ⟨v1,v2,v3,e,ho,_⟩:=entA_is c op
 exact ⟨⟨[v1,v2,v3],e,rfl,ho⟩⟩
def RFind (op:Nat):Value→List Fa→Own→Prop:=fun u Φ' M' => ∃ v1 v2 v3,u = .tuple #[.agg #[v1,v2,v3],.bool (foundF op)]∧ones [v1,v2,v3]=true∧M'=[]∧(foundF op=true→ActOK op (.agg #[v1,v2,v3]) Φ')
theorem find_spec (op:Nat) (hop:op<256):Fn prog 58 [.int .u8 (op:Int)] [] [] (RFind op):=by
 have his:=is_spec op hop
 by_cases hc:isC op=true
 ·rw [hc] at his
  have hf:foundF op=true:=by unfold foundF;rw [hc];rfl
  unfold RFind
  rw [hf]
  by_cases h10:op=10
  ·subst h10
   refine Fn.enter func58 rfl ntmps58 oI (fun I0 w0 => ?_)
   repeat refine sq ?_;try intro
   rename_i b1 b2
   refine cV his ?_
   repeat refine sq ?_;try intro
   refine o_func rfl rfl rfl rfl ?_
   repeat refine sq ?_;try intro
   refine G.give b1 (cs:=[.int .u8 ((10:Nat):Int)]) (t:=5) ?_
   exact G.ret rfl (.cons (.cellA rfl rfl) (.cons (.tmp rfl) .nil)) (Φ':=[fBlk b1 [.int .u8 ((10:Nat):Int)] 5]) (M':=[]) oY oN ⟨_,_,_,rfl,rfl,rfl,fun _=>⟨95,[.pointer (some ⟨b1,0,none⟩)],_,_,rfl,oY,doC_ok 10 hop hc b1,more10 _,reach_nil (fun l=>(span_nil hop (.inl hc) l).1)⟩⟩
  ·refine Fn.enter func58 rfl ntmps58 oI (fun I0 w0 => ?_)
   repeat refine sq ?_;try intro
   rename_i b1 b2
   refine cV his ?_
   repeat refine sq ?_;try intro
   refine o_func rfl rfl rfl rfl ?_
   repeat refine sq ?_;try intro
   refine G.give b1 (cs:=[.int .u8 (op:Int)]) (t:=5) ?_
   exact G.ret rfl (.cons (.cellA rfl rfl) (.cons (.tmp rfl) .nil)) (Φ':=[fBlk b1 [.int .u8 (op:Int)] 5]) (M':=[]) oY oN ⟨_,_,_,rfl,rfl,rfl,fun _=>⟨95,[.pointer (some ⟨b1,0,none⟩)],_,_,rfl,oY,doC_ok op hop hc b1,more_nil (fun l=>(span_nil hop (.inl hc) l).2 h10),reach_nil (fun l=>(span_nil hop (.inl hc) l).1)⟩⟩
 ·have hc:isC op=false:=by simpa using hc
  rw [hc] at his
  by_cases hp:95≤op∧op≤127
  ·have hf:foundF op=true:=by unfold foundF;rw [decide_eq_true hp,Bool.or_true];rfl
   unfold RFind
   rw [hf]
   refine Fn.enter func58 rfl ntmps58 oI (fun I0 w0 => ?_)
   repeat refine sq ?_;try intro
   rename_i b1 b2
   refine cV his ?_
   repeat refine sq ?_;try intro
   rename_i b5
   refine o_func rfl rfl rfl rfl ?_
   repeat refine sq ?_;try intro
   refine G.give b5 (cs:=[.int .i64 ((op-95:Nat):Int)]) (t:=3) ?_
   exact G.ret rfl (.cons (.cellA rfl rfl) (.cons (.tmp rfl) .nil)) (Φ':=[fBlk b5 [.int .i64 ((op-95:Nat):Int)] 3]) (M':=[]) oY oN ⟨_,_,_,rfl,rfl,rfl,fun _=>⟨98,[.pointer (some ⟨b5,0,none⟩)],_,_,rfl,oY,doP_ok op hp.1 hp.2 b5,more_nil (fun l=>(span_nil hop (.inr hp) l).2 oM),reach_nil (fun l=>(span_nil hop (.inr hp) l).1)⟩⟩
  ·have hf:foundF op=tabF op:=by unfold foundF;rw [hc,decide_eq_false hp];rfl
   unfold RFind
   rw [hf]
   have hn:op<95∨127<op:=by omega
   refine Fn.enter func58 rfl ntmps58 oI (fun I0 w0 => ?_)
   repeat refine sq ?_;try intro
   rename_i b1 b2
   refine cV his ?_
   have hwh:=entA_whole
   have his2:=fun c=>(entA_is c op).choose_spec.choose_spec.choose_spec.2.2.1
   rcases hn with hn|hn
   all_goals
    repeat refine sq ?_;try intro
    refine W.drawCh 8 {j:=7,k:=[0,6],M:=fun c=>[(bk (c 6),Ob (cellsL (entA (cOf (blL (c 0))) op)) 123),(b2,Ob [.nilFunc,.nilFunc,.nilFunc] 123),(b1,Ob [.int .u8 (op:Int)] 5)]} [{j:=6,k:=[6],M:=fun c=>[(bk (c 6),Ob [.nilFunc,.nilFunc,.nilFunc] 123),(b2,Ob [.nilFunc,.nilFunc,.nilFunc] 123),(b1,Ob [.int .u8 (op:Int)] 5)]}] [⟨fun _ z => .map (some (blB z)),fun _ z=>fObj (blB z) (MapV (actsT (cOf (blL z))))::actsF (cOf (blL z))⟩,dq _,dq (fun c _ => .tuple #[entA (cOf (blL (c 0))) op,.bool (tabF op)]),dq _,dq _,dq _,dp,(dq fun _ _ => .bool false)] [[],[],[0,1],[2],[3],[3],[],[4,6]] [0,5,6] (hloc:=by (repeat (first|exact AllL.nil|refine AllL.au ?_|refine AllL.au ?_ (by intro c c2 z h;refine nrm ?_;constructor<;>first|rfl|(rw [h 0 kR]))))) (hrest:=fun c=>nrmC ?_) (hops:=by
     refine AllX.ch ?_ ?_;rotate_left
     focus (refine ⟨⟨rfl,kR⟩,.inl kR,.inr (⟨⟨rfl,kR⟩,.inr ?_,.inr (?_)⟩)⟩;all_goals (intro c z0 Φr Lr K;refine nrmC ?_;intro hK;refine OpK.call rfl rfl rfl rfl acts_spec oY (Mr:=_) oP ?_;rintro u Φ' Mc' ⟨b,l,rfl,rfl,rfl⟩;have hk:=hK (blV b l);simp only [blB_v,blL_v] at hk;exact hk))
     iterate 1 refine AllX.cu ?_
     refine AllX.ch ?_ ?_;rotate_left
     focus (refine ⟨⟨rfl,kR⟩,.inl kR,.inr (⟨⟨rfl,kR⟩,.inr ?_,.inr (?_)⟩)⟩;all_goals (intro c z0 Φr Lr K;refine nrmC ?_;intro hK;refine o_lookG (l:=actsT (cOf (blL (c 0)))) rfl rfl rfl rfl (by first|exact .head _|simp) rfl (his2 _) ?_;exact hK z0))
     iterate 5 refine AllX.cu ?_
     exact AllX.end)
    obtain ⟨v1,v2,v3,he,ho,_,ha⟩:=entA_is (cOf (blL (c 0))) op
    rw [he]
    haveI:Whole (.agg #[v1,v2,v3]) 3:=⟨⟨[v1,v2,v3],rfl,rfl,ho⟩⟩
    repeat refine sq ?_;try intro
    exact G.ret rfl (.cons (.cellA rfl rfl) (.cons (.tmp rfl) .nil)) (Φ':=actsF (cOf (blL (c 0)))) (M':=[]) ⟨fun I hp φ hφ=>hp φ (.tail _ hφ)⟩ oN ⟨v1,v2,v3,rfl,ho,rfl,ha⟩
end Go.Rail
