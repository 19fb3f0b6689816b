/- A nil slice grown by so many zero values. -/
import Derived.Test.YtoiepfapghnccaaRailMore
import Derived.Test.YtoiepfapghnccaaRailAppend
import Derived.Test.YtoiepfapghnccaaRailSlice
set_option linter.unusedSimpArgs false
set_option linter.unusedVariables false
namespace Go.Rail
open Go
theorem run_app_zeros {P : Program} {w : World} {t t2 e ty : TypeId} {k : IntKind} {i : TypeInfo} {z : Value} (ht : P.underlying t = some (.slice e)) (ht2 : P.underlying t2 = some (.int k)) (hi : P.info? e = some i) (hz : i.zero = some z)
    {n : Nat} (h0 : 0 < n) (hs : 0 < i.size) (hb : (2 * n + 200) * i.bytes ≤ 281474976710656) (h63 : n < 9223372036854775807) :
    ∃ nc, n ≤ nc ∧ (Builtin.append_ #[t, t2] ty #[.slice none 0 0, .int .i64 n]).run P w = .ok (.slice (some ⟨w.heap.size, 0, none⟩) n nc) (w.drew.alloc (Ob ((Builtin.zeroCells z.cells n).toList ++ (Builtin.zeroCells z.cells (nc - n)).toList) e)) := by
  have wr : IntKind.i64.wrap (n : Int) = n := wrap_i64 (by omega) (by omega)
  have hnb : n * i.bytes ≤ 281474976710656 := by
    refine Nat.le_trans (Nat.mul_le_mul_right _ ?_) hb
    omega
  have h48 : ¬ (281474976710656 < (n : Int) * (i.bytes : Int)) := by
    have h3 := Int.ofNat_le.2 hnb
    rw [Int.natCast_mul] at h3
    omega
  have h48' : ¬ (281474976710656 < Builtin.nextslicecap n 0 * i.bytes) := by
    have := Nat.mul_le_mul_right i.bytes (nextslicecap_le n 0 h0)
    omega
  have hn0 : ¬ ((n : Int) < 0) := by omega
  have hns : ¬ (n * i.size = 0) := by
    have := Nat.mul_pos h0 hs; omega
  have h00 : n ≠ 0 := by omega
  have hs0 : i.size ≠ 0 := by omega
  have h63' : ¬ (9223372036854775807 < (n : Int)) := by omega
  refine ⟨grownCap w n 0 e, grownCap_ge _ _ _ _, ?_⟩
  simp [Builtin.append_, run_underlying ht, run_underlying ht2, sizeOf, typeInfo, zeroValue, hi, hz, asInt, asIntOf, wr, h48, h48', hn0, h00, hs0, h63', Question.forced, newRow, grownCap, Ob, Builtin.firstCells]
  rw [if_neg hns]
  congr 2
  simp only [Obj.cells.injEq, and_true]
  apply Array.ext'
  simp
section
variable {x : Cx} {Q : Exit → Act → World → Prop} {Φ : List Fa} {L : Env} {M : Own} {ops : Array Oper} {K : Act → World → Prop}
variable {d : Nat} {ty : TypeId} {pos : String} {af : Array Edge} {g : Option (Nat × Bool)}
theorem o_growNil {t t2 e bytes sz : Nat} {k : IntKind} {y z : Operand} {zs : List Value} {p : Int} (n : Nat) [ht : SlTy x.P t e] [ht2 : IntTy x.P t2 k] [hb : Inf x.P e zs sz bytes] (hdN : Nat.blt d x.N = true) (hg : gd ops L g = some true) (hy : ev L y = some (.slice none 0 0)) (hz : ev L z = some (.int .i64 p)) (hp' : p = (n : Int)) (h0 : 0 < n ∧ 0 < sz ∧ zs.length = sz)
    (hlen : (2 * n + 200) * bytes ≤ 281474976710656 ∧ n < 9223372036854775807)
    (h : ∀ b cs nc, cs.length = nc * sz → n ≤ nc → G x Φ ((d, .slice (some ⟨b, 0, none⟩) n nc) :: L) ((b, Ob cs e) :: M) K) : OpK x ops Q ⟨some d, .call ⟨.builtin .append, #[y, z], #[t, t2]⟩, ty, pos, af, g⟩ Φ L M K :=
  OpK.mem rfl hdN hg (by simp) (fun I a w hp hk hw => by
    subst hp'
    obtain ⟨i, zv, hi, hz0, hzs, hsz, hby⟩ := hb.get
    obtain ⟨h1, h2, h3⟩ := h0
    obtain ⟨nc, hnc, hrun⟩ := run_app_zeros (ty := ty) (w := w) ht.h ht2.h hi hz0 h1 (by omega) (by rw [hby]; exact hlen.1) hlen.2
    have hzl : ∀ m, (Builtin.zeroCells zv.cells m).toList.length = m * sz := fun m => by
      rw [Array.length_toList, size_zeroCells, ← Array.length_toList, cells_toList, hzs, h3]
    refine ⟨.slice (some ⟨w.heap.size, 0, none⟩) n nc, w.drew.alloc (Ob ((Builtin.zeroCells zv.cells n).toList ++ (Builtin.zeroCells zv.cells (nc - n)).toList) e), Φ, _, I, ?_, hp, (hw.drew).alloc _, h _ _ nc ?_ hnc⟩
    · simp only [execOp, resolve, hk.eval hy, hk.eval hz, Deferred.ofValue]
      simp [execOp, resolve, hk.eval hy, hk.eval hz, invoke, builtin, Sem.run_bind, Result.andThen, Sem.run_pure, hrun]
    · rw [List.length_append, hzl, hzl, ← Nat.add_mul]
      congr 1; omega)
/-- A nil slice, cut. -/
theorem o_cutNil {t e sz : Nat} {y z : Operand} {k : IntKind} {p : Int} [ht : SlTy x.P t e] [hs : Siz x.P e sz] (hdN : Nat.blt d x.N = true) (hg : gd ops L g = some true) (hy : ev L y = some (.slice none 0 0)) (hz : ev L z = some (.int k p)) (hp' : p = 0)
    (hG : G x Φ ((d, .slice none 0 0) :: L) M K) : OpK x ops Q ⟨some d, .slice t y none (some z) none, ty, pos, af, g⟩ Φ L M K :=
  OpK.val rfl hdN hg (by simp) (fun I a w hp hk hw => by
    subst hp'
    have hb := run_bounds (P := x.P) (isSlice := true) (l := 0) (lo := none) (hi := some z) (len := 0) (h := 0) (cap := 0) hk rfl ⟨_, _, hz, rfl⟩ (Nat.zero_le _) (Nat.zero_le _) w
    have hb' : (Instr.sliceBounds true 0 0 none (some (a.eval z)) none).run x.P w = .ok (0, 0, 0) w := hb
    simp [execOp, Instr.sliceAt, Instr.slice, hk.eval hy, run_underlying ht.h, hs.h, hb', Sem.run_bind, Result.andThen, Sem.run_pure]) hG
end
end Go.Rail
