/- divide: what the program divides, multiplies and raises. -/
import Derived.Test.YtjhdodkagchhkaaGreatDoorRailA
import Derived.Test.YtjhdodkagchhkaaGreatDoorRailC
import Derived.Test.YtjhdodkagchhkaaGreatDoorAC3C4
set_option linter.unusedSimpArgs false
set_option linter.unusedVariables false
namespace Go.Rail
open Go Go.Proofs Tryz
set_option maxHeartbeats 400000
set_option maxRecDepth 4000
attribute [local irreducible] OpK G W LW wpListIn Exit.then Exit.inBlock Post rounds opRun bodyPostM intOp
set_option maxHeartbeats 4000000
attribute [local irreducible] lexN cmpW Word.nat subW mulW
theorem wof_spec (n:Nat) (h:n<9223372036854775808):FnV prog 17 [.int .i64 n] [] (Word.nat n).v:=by
 refine Fn.enter func17 rfl ntmps17 oI (fun I0 w0 => ?_)
 repeat refine s4 ?_;try intro
 refine o_shr (v := .int .i64 0) rfl rfl rfl rfl oE (by
  refine congrArg (Value.int .i64) ?_
  show (n:Int).fdiv (2^63)=0
  rw [Int.fdiv_eq_ediv_of_nonneg _ oE];omega) ?_
 repeat refine s4 ?_;try intro
 refine G.ret rfl (.cons (.cellA rfl rfl) .nil) (Φ':=[]) (M':=[]) oY oN ⟨?_,rfl,rfl⟩
 have e1:=u64_toNat (n:Int)
 have e0:(u64 0).toNat=0:=by decide
 exact Word.v_nat (n:=n) (by simp only [top256];omega) oM oM oM oM
theorem div_spec (a b:Word):FnV prog 111 [a.v,b.v] [] (divW a b).v:=by
 have ha:=a.num_lt
 refine Fn.enter func111 rfl ntmps111 oI (fun I0 w0 => ?_)
 by_cases hb:b=Word.zero
 ·repeat refine s4 ?_;try intro
  refine o_neq (u:=b.v) (v:=Word.zero.v) rfl rfl rfl rfl (r:=false) (by simp [hb]) ?_
  repeat refine s4 ?_;try intro
  refine G.ret rfl (.cons (.cellA rfl rfl) .nil) (Φ':=[]) (M':=[]) oY oN ⟨?_,rfl,rfl⟩
  rw [divW,hb,Word.zero_num,Nat.div_zero];with_unfolding_all rfl
 ·have hd:=dividedW_spec a.num b (by simpa [top256] using ha) hb
  rw [← Word.cells_num] at hd
  repeat refine s4 ?_;try intro
  refine o_neq (u:=b.v) (v:=Word.zero.v) rfl rfl rfl rfl (r:=true) (by simp [hb]) ?_
  repeat refine s4 ?_;try intro
  refine cV hd ?_
  repeat refine s4 ?_;try intro
  refine G.ret rfl (.cons (.cellA rfl rfl) .nil) (Φ':=[]) (M':=[]) oY oN ⟨?_,rfl,rfl⟩
  rfl
theorem mod_spec (a b:Word):FnV prog 113 [a.v,b.v] [] (modW a b).v:=by
 have ha:=a.num_lt
 refine Fn.enter func113 rfl ntmps113 oI (fun I0 w0 => ?_)
 by_cases hb:b=Word.zero
 ·repeat refine s4 ?_;try intro
  refine o_neq (u:=b.v) (v:=Word.zero.v) rfl rfl rfl rfl (r:=false) (by simp [hb]) ?_
  repeat refine s4 ?_;try intro
  refine G.ret rfl (.cons (.cellA rfl rfl) .nil) (Φ':=[]) (M':=[]) oY oN ⟨?_,rfl,rfl⟩
  rw [modW,if_pos hb];rfl
 ·have hd:=dividedW_spec a.num b (by simpa [top256] using ha) hb
  rw [← Word.cells_num] at hd
  repeat refine s4 ?_;try intro
  refine o_neq (u:=b.v) (v:=Word.zero.v) rfl rfl rfl rfl (r:=true) (by simp [hb]) ?_
  repeat refine s4 ?_;try intro
  refine cV hd ?_
  repeat refine s4 ?_;try intro
  refine G.ret rfl (.cons (.cellA rfl rfl) .nil) (Φ':=[]) (M':=[]) oY oN ⟨?_,rfl,rfl⟩
  rw [modW,if_neg hb];rfl
theorem signed_spec (w:Word):FnV prog 213 [w.v] [] (.tuple #[(sizeW w).v,.bool (negW w)]):=by
 refine Fn.enter func213 rfl ntmps213 oI (fun I0 w0 => ?_)
 unfold sizeW
 by_cases h:9223372036854775808≤w.d.toNat
 ·have e:negW w=true:=by simp [negW,h]
  rw [e,if_pos rfl]
  repeat refine s4 ?_;try intro
  refine cV (wsub_spec Word.zero w) ?_
  repeat refine s4 ?_;try intro
  refine G.ret rfl (.cons (.cellA rfl rfl) (.cons (.tmp rfl) .nil)) (Φ':=[]) (M':=[]) oY oN ⟨?_,rfl,rfl⟩
  rfl
 ·have e:negW w=false:=by simp [negW];omega
  rw [e,if_neg oI]
  repeat refine s4 ?_;try intro
  refine G.ret rfl (.cons (.cellA rfl rfl) (.cons (.tmp rfl) .nil)) (Φ':=[]) (M':=[]) oY oN ⟨?_,rfl,rfl⟩
  rfl
theorem with_spec (w:Word) (b:Bool):FnV prog 214 [w.v,.bool b] [] (if b then minusW w else w).v:=by
 refine Fn.enter func214 rfl ntmps214 oI (fun I0 w0 => ?_)
 cases b with
 | true =>
  repeat refine s4 ?_;try intro
  refine cV (wsub_spec Word.zero w) ?_
  repeat refine s4 ?_;try intro
  refine G.ret rfl (.cons (.cellA rfl rfl) .nil) (Φ':=[]) (M':=[]) oY oN ⟨?_,rfl,rfl⟩
  rfl
 | false =>
  repeat refine s4 ?_;try intro
  refine G.ret rfl (.cons (.cellA rfl rfl) .nil) (Φ':=[]) (M':=[]) oY oN ⟨?_,rfl,rfl⟩
  rfl
theorem sdiv_spec (a b:Word):FnV prog 112 [a.v,b.v] [] (sdivW a b).v:=by
 refine Fn.enter func112 rfl ntmps112 oI (fun I0 w0 => ?_)
 repeat refine s4 ?_;try intro
 refine cV (signed_spec a) ?_
 repeat refine s4 ?_;try intro
 refine cV (signed_spec b) ?_
 repeat refine s4 ?_;try intro
 refine cV (div_spec (sizeW a) (sizeW b)) ?_
 repeat refine s4 ?_;try intro
 refine cV (with_spec (divW (sizeW a) (sizeW b)) (negW a != negW b)) ?_
 repeat refine s4 ?_;try intro
 refine G.ret rfl (.cons (.cellA rfl rfl) .nil) (Φ':=[]) (M':=[]) oY oN ⟨?_,rfl,rfl⟩
 unfold sdivW
 cases negW a<;>cases negW b<;>rfl
theorem smod_spec (a b:Word):FnV prog 114 [a.v,b.v] [] (smodW a b).v:=by
 refine Fn.enter func114 rfl ntmps114 oI (fun I0 w0 => ?_)
 repeat refine s4 ?_;try intro
 refine cV (signed_spec a) ?_
 repeat refine s4 ?_;try intro
 refine cV (signed_spec b) ?_
 repeat refine s4 ?_;try intro
 refine cV (mod_spec (sizeW a) (sizeW b)) ?_
 repeat refine s4 ?_;try intro
 refine cV (with_spec (modW (sizeW a) (sizeW b)) (negW a)) ?_
 repeat refine s4 ?_;try intro
 refine G.ret rfl (.cons (.cellA rfl rfl) .nil) (Φ':=[]) (M':=[]) oY oN ⟨?_,rfl,rfl⟩
 rfl
end Go.Rail
