/- Frames: raw programs that only push. -/
import Derived.Test.YtpbbjkbackiljaaGreatDoorAFSC16
import Derived.Test.YtpbbjkbackiljaaGreatDoorAK4P1
set_option linter.unusedSimpArgs false
set_option linter.unusedVariables false
namespace Go.Rail
open Go Go.Proofs
set_option maxHeartbeats 1000000
theorem i_addw {p q : Int} : intOp .add .i64 p q = some (.int .i64 (IntKind.i64.wrap (p + q))) := by simp [intOp]
theorem wrap_ge (n : Int) : -9223372036854775808 ≤ IntKind.i64.wrap n := by
  have e : IntKind.i64.wrap n = if 9223372036854775808 ≤ n % 18446744073709551616 then n % 18446744073709551616 - 18446744073709551616 else n % 18446744073709551616 := by
    simp [IntKind.wrap, IntKind.signed, IntKind.bits]
  rw [e]
  split <;> omega
def bkW (a : Int × Int) (k : Nat) : UInt8 := u8I (pickI (IntKind.i64.wrap (a.2 + (k : Int))) 256)
def nW (a : Int × Int) : Nat := (pickI a.1 33).toNat
theorem nW_le (a : Int × Int) : nW a ≤ 32 := by
  have := pickI_nn a.1 33 (by decide)
  unfold nW; omega
theorem nW_eq (a : Int × Int) : pickI a.1 33 = (nW a : Int) := by
  have := pickI_nn a.1 33 (by decide)
  unfold nW; omega
def bsW (a : Int × Int) (k : Nat) : List UInt8 := (List.range k).map (bkW a)
theorem bsW_succ (a : Int × Int) (k : Nat) : bsW a (k + 1) = bsW a k ++ [bkW a k] := by
  unfold bsW
  rw [List.range_succ, List.map_append]
  rfl
def blkR (a : Int × Int) : Blk := (nW a, bsW a (nW a))
theorem blkR_ok (a : Int × Int) : BlkOk (blkR a) := ⟨nW_le a, by simp [blkR, bsW]⟩
theorem codeB_snoc (l : List Blk) (b : Blk) : codeB (l ++ [b]) = codeB l ++ blkB b := by
  rw [codeB_app]
  simp [codeB]
theorem wdsB_snoc (s : List UInt8) : ∀ (l : List Blk) (pc : Nat) (b : Blk), (∀ x ∈ l, BlkOk x) → wdsB s pc (l ++ [b]) = wdsB s pc l ++ [opushL s ((pc + (codeB l).length : Nat) : Int) (b.1 : Int)]
  | [], pc, b, _ => rfl
  | x :: l, pc, b, h => by
    obtain ⟨h1, h2⟩ := h x (.head _)
    have hl : (codeB (x :: l)).length = 1 + x.1 + (codeB l).length := by
      show (blkB x ++ codeB l).length = _
      rw [List.length_append]
      unfold blkB
      rw [List.length_cons, h2]
      omega
    show opushL s (pc : Int) (x.1 : Int) :: wdsB s (pc + 1 + x.1) (l ++ [b]) = opushL s (pc : Int) (x.1 : Int) :: wdsB s (pc + 1 + x.1) l ++ _
    rw [wdsB_snoc s l (pc + 1 + x.1) b (fun y hy => h y (.tail _ hy)), hl, List.cons_append, show pc + 1 + x.1 + (codeB l).length = pc + (1 + x.1 + (codeB l).length) from by omega]
theorem gasB_snoc : ∀ (l : List Blk) (b : Blk), gasB (l ++ [b]) = gasB l + gasN (95 + b.1)
  | [], b => by show gasN (95 + b.1) + 0 = 0 + _; omega
  | x :: l, b => by
    show gasN (95 + x.1) + gasB (l ++ [b]) = gasN (95 + x.1) + gasB l + _
    rw [gasB_snoc l b]; omega
abbrev wdE (l : List Blk) : Frm := ⟨codeB l, [], ((codeB l).length : Int), wdsB (codeB l) 0 l, [], 0, [], 1, 0, []⟩
theorem words_run (hash : List UInt8 → List UInt8) {l : List Blk} (hl : l.length ≤ 30) (hb : ∀ b ∈ l, BlkOk b) :
    Rt (bgF (codeB l) [] (gasB l)) ∧ runL hash 100 (bgF (codeB l) [] (gasB l)) = (wdE l, l.length + 1) ∧ ∀ g : Int, 0 ≤ g → g < gasB l → Rt (bgF (codeB l) [] g) ∧ (runL hash 100 (bgF (codeB l) [] g)).1.errno = 43 := by
  have hc := codeB_len l hb
  obtain ⟨g1, g2⟩ := gasB_pos l hb
  have hRt : ∀ g : Int, 0 ≤ g → g ≤ 1000 → Rt (bgF (codeB l) [] g) := fun g h0 h1 => new_Rt (by omega) (Nat.zero_le _) (Nat.zero_le _) h0 (by omega)
  refine ⟨hRt _ (by omega) (by omega), ?_, fun g h0 h1 => ⟨hRt g h0 (by omega), ?_⟩⟩
  · have := (runB hash l [] (bgF (codeB l) [] (gasB l)) 100 (hRt _ (by omega) (by omega)) rfl hb rfl rfl (by show 0 + l.length ≤ 1024; omega) (by omega)).1 (Int.le_refl _)
    rw [this]
    show ((⟨codeB l, [], ((codeB l).length : Int), [] ++ wdsB (codeB l) 0 l, [], (gasB l : Int) - gasB l, [], 1, 0, []⟩ : Frm), l.length + 1) = _
    rw [List.nil_append, Int.sub_self]
  · exact (runB hash l [] (bgF (codeB l) [] g) 100 (hRt g h0 (by omega)) rfl hb rfl rfl (by show 0 + l.length ≤ 1024; omega) (by omega)).2 h1
end Go.Rail
