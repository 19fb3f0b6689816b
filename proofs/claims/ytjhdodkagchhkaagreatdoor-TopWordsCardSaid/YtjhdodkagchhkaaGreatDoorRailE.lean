/- Lots of lanes: plain, and rows of one's own that are told cell by cell. -/
import Derived.Test.YtjhdodkagchhkaaGreatDoorRailA
import Derived.Test.YtjhdodkagchhkaaGreatDoorRailD
set_option linter.unusedSimpArgs false
set_option linter.unusedVariables false
namespace Go.Rail
open Go
def cIx (xs:List Int) (ex:List Value):List Value:=cI xs++ex
def cBx (xs:List Bool) (ex:List Value):List Value:=cB xs++ex
theorem cIx_length (xs:List Int) (ex:List Value):(cIx xs ex).length=xs.length+ex.length:=by simp [cIx,cI_length]
theorem cBx_length (xs:List Bool) (ex:List Value):(cBx xs ex).length=xs.length+ex.length:=by simp [cBx,cB_length]
theorem row_cellsX {α:Type} [GoTy α] [GoFlat α] (f:α→Value) (hz:GoTy.sz α=1) (hf : ∀ a:α,GoFlat.enc a=[f a]) {I:Imm} {cs:List Value} {xs:List α} (h:RowRep I cs 0 xs) : ∃ ex,cs=xs.map f++ex:=by
 refine ⟨cs.drop xs.length,?_⟩
 have h1:=h.1
 rw [hz] at h1
 have:cs.take xs.length=xs.map f:=by
  apply List.ext_getElem
  ·simp;omega
  ·intro k h2 h3
   have hk:k<xs.length:=by simpa using h3
   have hr:=GoFlat.rep_iff.1 (h.2 k hk)
   rw [hf,hz] at hr
   unfold chunk at hr
   rw [List.take_one,List.head?_drop,Nat.zero_add,Nat.mul_one,List.getElem?_eq_getElem oM] at hr
   rw [List.getElem_take,List.getElem_map]
   simpa using hr
 rw [← this,List.take_append_drop]
theorem chunk_app {cs ex:List Value} {k:Nat} (h:k<cs.length):chunk (cs++ex) 0 1 k=chunk cs 0 1 k:=by
 unfold chunk
 rw [List.take_one,List.take_one,List.head?_drop,List.head?_drop,List.getElem?_append_left oM]
theorem rowIx (I:Imm) (xs:List Int) (ex:List Value):RowRep I (cIx xs ex) 0 xs:=⟨by rw [cIx_length];show 0+xs.length*1≤_;omega,fun k hk=>by
 show GoTy.rep I (chunk (cI xs++ex) 0 1 k) xs[k]
 rw [chunk_app (by rw [cI_length];exact hk)]
 exact (rowI I xs).2 k hk⟩
theorem rowBx (I:Imm) (xs:List Bool) (ex:List Value):RowRep I (cBx xs ex) 0 xs:=⟨by rw [cBx_length];show 0+xs.length*1≤_;omega,fun k hk=>by
 show GoTy.rep I (chunk (cB xs++ex) 0 1 k) xs[k]
 rw [chunk_app (by rw [cB_length];exact hk)]
 exact (rowB I xs).2 k hk⟩
instance Ent'.cIx {Φ:List Fa} {xs:List Int} {ex:List Value}:Ent' Φ (fRow (cIx xs ex) xs):=⟨fun I _=>rowIx I xs ex⟩
instance Ent'.cBx {Φ:List Fa} {xs:List Bool} {ex:List Value}:Ent' Φ (fRow (cBx xs ex) xs):=⟨fun I _=>rowBx I xs ex⟩
theorem set_app (cs ex:List Value) (k:Nat) (u:Value) (hk:k<cs.length):(cs++ex).take k++[u]++(cs++ex).drop (k+1)=cs.take k++[u]++cs.drop (k+1)++ex:=by
 rw [List.take_append_of_le_length oM,List.drop_append_of_le_length oM]
 simp
section
variable {x:Cx} {Q:Exit→Act→World→Prop} {Φ:List Fa} {L:Env} {M:Own} {ops:Array Oper} {K:Act→World→Prop}
variable {d:Nat} {ty:TypeId} {pos:String} {af:Array Edge} {g:Option (Nat × Bool)}
theorem o_loadIx {t:TypeId} {y:Operand} {b off e:Nat} {xs:List Int} {ex:List Value} (k:Nat) (hk':k<xs.length) [ha:IsAg x.P t false] [hh:Holds Φ M b (cIx xs ex) e] (hdN:Nat.blt d x.N=true) (hg:gd ops L g=some true) (hy:ev L y=some (.pointer (some ⟨b,off,none⟩))) (ho:off=k)
  (h:G x Φ ((d,.int .i64 xs[k])::L) M K):OpK x ops Q ⟨some d,.load t y,ty,pos,af,g⟩ Φ L M K:=by
 subst ho
 exact o_load1 (hh:=hh) hdN hg hy (by rw [cIx,List.getElem?_append_left (by rw [cI_length];exact hk')];simp [cI,hk']) h
theorem o_storeIx {t:TypeId} {y z:Operand} {b off e:Nat} {xs:List Int} {ex:List Value} {M':Own} (k:Nat) (u:Int) (hk':k<xs.length) [hs:Siz x.P t 1] (hg:gd ops L g=some true) (hy:ev L y=some (.pointer (some ⟨b,off,none⟩))) (hz:ev L z=some (.int .i64 u)) (ho:off=k)
  [hm:MGet M b (Ob (cIx xs ex) e)] [hm':MSet M b (Ob (cIx xs ex) e) (Ob (cIx (xs.set k u) ex) e) M'] (h:G x Φ L M' K):OpK x ops Q ⟨none,.store t y z,ty,pos,af,g⟩ Φ L M K:=by
 subst ho
 exact o_store (hm:=hm) (hm':=hm') (vs:=[.int .i64 u]) hg hy hz rfl rfl (by rw [cIx_length];show off+1≤_;omega) rfl (by show (cI xs++ex).take off++[_]++(cI xs++ex).drop (off+1)=_;rw [set_app _ _ _ _ (by rw [cI_length];exact hk'),cI,set_map _ xs off u hk'];rfl) h
end
end Go.Rail
