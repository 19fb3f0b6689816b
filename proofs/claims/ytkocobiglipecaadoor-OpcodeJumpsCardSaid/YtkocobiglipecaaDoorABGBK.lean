/- law14.Code: a code out of raw numbers. -/
import Derived.Test.YtkocobiglipecaaDoorABF
import Derived.Test.YtkocobiglipecaaDoorAEqB2
import Derived.Test.YtkocobiglipecaaDoorRailB
import Derived.Test.YtkocobiglipecaaDoorABJ
namespace Go.Rail
open Go Go.Proofs
set_option linter.unusedSimpArgs false
set_option linter.unusedVariables false
set_option maxHeartbeats 400000
set_option maxRecDepth 4000
attribute [local irreducible] OpK G W LW wpListIn Exit.then Exit.inBlock Post rounds opRun bodyPostM intOp
set_option maxHeartbeats 4000000
def u8I (n : Int) : UInt8 := UInt8.ofNat n.toNat
def opR (a : Int × Int) : UInt8 := if pickI a.1 5 = 0 then 91 else if pickI a.1 5 = 1 then u8I (96 + pickI a.2 4) else u8I (pickI a.1 256)
def bhR (a : Int × Int) (k : Nat) : UInt8 := u8I (pickI (a.2.tdiv 3 + (k : Int)) 256)
def chkR (a : Int × Int) : Chk := (opR a, (List.range (behN (opR a).toNat)).map (bhR a))
def cksR (raw : List (Int × Int)) : List Chk := (raw.take 40).map chkR
def codeR (raw : List (Int × Int)) : List UInt8 := bytesC (cksR raw)
theorem cksR_whole (raw : List (Int × Int)) : ∀ p ∈ cksR raw, wholeC p := by
  intro p hp
  obtain ⟨a, _, rfl⟩ := List.mem_map.1 hp
  simp [wholeC, chkR]
def okR (a : Int × Int) : Prop := (-9223372036854775808 ≤ a.1 ∧ a.1 ≤ 9223372036854775807) ∧ (-9223372036854775808 ≤ a.2 ∧ a.2 ≤ 9223372036854775807)
theorem u8I_nat (n : Int) (h0 : 0 ≤ n) (h : n < 256) : ((u8I n).toNat : Int) = n := by
  rw [u8I, UInt8.toNat_ofNat', Nat.mod_eq_of_lt (by omega)]; omega
structure CdSt where
  i : Nat
  xs : List UInt8
  w : Value
  o : OR
structure CdIn where
  k : Nat
  xs : List UInt8
  w : Value
  o : OR
theorem tdiv3 (n : Int) (h1 : -9223372036854775808 ≤ n) (h2 : n ≤ 9223372036854775807) : -4000000000000000000 ≤ n.tdiv 3 ∧ n.tdiv 3 ≤ 4000000000000000000 := by
  rw [Int.tdiv_eq_ediv]
  have h3 : (3 : Int).sign = 1 := rfl
  rw [h3]
  split <;> omega
theorem i_addu8 {p q : Int} (h1 : 0 ≤ p + q) (h2 : p + q < 256) : intOp .add .u8 p q = some (.int .u8 ((u8I (p + q)).toNat : Int)) := by
  rw [u8I_nat _ h1 h2]
  simp [intOp, IntKind.wrap, IntKind.max, IntKind.signed, IntKind.bits, IntKind.min]; omega
def op1 (a : Int × Int) : UInt8 := if pickI a.1 5 = 0 then 91 else u8I (pickI a.1 256)
def cdT (raw : List (Int × Int)) (i : Nat) : List UInt8 := bytesC ((raw.take i).map chkR)
theorem cdT_len (raw : List (Int × Int)) (i : Nat) : (cdT raw i).length ≤ 33 * i := by
  have h1 : ∀ cs : List Chk, (∀ p ∈ cs, wholeC p) → (bytesC cs).length ≤ 33 * cs.length := by
    intro cs h
    induction cs with
    | nil => exact Nat.zero_le _
    | cons p cs ih =>
      have h2 := h p (.head _)
      have h3 := behN_le p.1.toNat
      have ih := ih (fun p hp => h p (.tail _ hp))
      unfold wholeC at h2
      rw [bytesC, List.flatMap_cons, List.length_append, List.length_cons, bytC, List.length_cons]
      unfold bytesC at ih
      omega
  have h2 := h1 ((raw.take i).map chkR) (by
    intro p hp
    obtain ⟨a, _, rfl⟩ := List.mem_map.1 hp
    simp [wholeC, chkR])
  rw [List.length_map, List.length_take] at h2
  rw [cdT]; omega
theorem cdT_step (raw : List (Int × Int)) (i : Nat) (h : i < raw.length) : cdT raw (i + 1) = cdT raw i ++ (opR raw[i] :: (List.range (behN (opR raw[i]).toNat)).map (bhR raw[i])) := by
  rw [cdT, List.take_succ_eq_append_getElem h, List.map_append, bytesC, List.flatMap_append]
  simp [cdT, bytesC, bytC, chkR]
theorem code14_spec (v : Value) (raw : List (Int × Int)) (hok : ∀ a ∈ raw, okR a) : FnV Tryd.prog 9 [v] [fRp v raw] (.string (ba (codeR raw))) := by
  refine Fn.enter Tryd.func9 rfl Tryd.ntmps9 (by simp) (fun I0 w0 => ?_)
  refine W.bare (G.slice v raw ?_); intro ad cap e1 k1; subst e1
  refine G.code ?_
  repeat (first | (refine sty ?_; try intro _) | (refine st ?_; try intro _) | (refine stz ?_; try intro _) | (refine stq ?_; try intro _))
  refine W.lp (S := CdSt) (fun s => ([fRow (ocells s.o) s.xs, fRp (.slice ad raw.length cap) raw], [(4, .int .i64 (s.i : Int)), (3, s.w), (0, .slice ad raw.length cap)], ownM 5 s.o)) (fun s => s.i ≤ raw.length ∧ s.i ≤ 40 ∧ s.xs = cdT raw s.i ∧ IsOwn 1 s.w s.xs.length s.o) (fun s => 40 - s.i) ⟨0, [], .slice none 0 0, none⟩ ?_ (h0 := ⟨Nat.zero_le _, Nat.zero_le _, rfl, ⟨rfl, rfl⟩⟩)
  rintro ⟨i, xs, w, o⟩ ⟨hi, hi40, hxs, hown⟩
  dsimp only at hi hi40 hxs hown ⊢
  by_cases hil : i < raw.length ∧ i < 40
  · obtain ⟨hil, hi4⟩ := hil
    have hlen := cdT_len raw i
    rw [← hxs] at hlen
    have hst := cdT_step raw i hil
    rw [← hxs] at hst
    have hb32 := behN_le (opR raw[i]).toNat
    have ho := hok _ (List.getElem_mem hil)
    unfold okR at ho
    obtain ⟨⟨o1, o2⟩, o3, o4⟩ := ho
    have p5 := pickI_nn raw[i].1 5 (by decide)
    have p4 := pickI_nn raw[i].2 4 (by decide)
    have p256 := pickI_nn raw[i].1 256 (by decide)
    have hp5 := pick14_spec raw[i].1 5 o1 (by decide)
    have hp4 := pick14_spec raw[i].2 4 o3 (by decide)
    have hp256 := pick14_spec raw[i].1 256 o1 (by decide)
    repeat (first | (refine sty ?_; try intro _) | (refine st ?_; try intro _) | (refine stz ?_; try intro _) | (refine stq ?_; try intro _))
    refine o_indexP (off := 0) Prod.fst rfl rfl rfl rfl (by omega) (by omega) rfl ?_; intro q
    repeat (first | (refine sty ?_; try intro _) | (refine st ?_; try intro _) | (refine stz ?_; try intro _) | (refine stq ?_; try intro _))
    refine o_callV rfl rfl rfl rfl hp256 rfl ?_
    repeat (first | (refine sty ?_; try intro _) | (refine st ?_; try intro _) | (refine stz ?_; try intro _) | (refine stq ?_; try intro _))
    rw [← u8I_nat (pickI raw[i].1 256) p256.1 p256.2]
    refine o_indexP (off := 0) Prod.fst rfl rfl rfl rfl (by omega) (by omega) rfl ?_; intro q
    repeat (first | (refine sty ?_; try intro _) | (refine st ?_; try intro _) | (refine stz ?_; try intro _) | (refine stq ?_; try intro _))
    refine o_callV rfl rfl rfl rfl hp5 rfl ?_
    repeat (first | (refine sty ?_; try intro _) | (refine st ?_; try intro _) | (refine stz ?_; try intro _) | (refine stq ?_; try intro _))
    refine W.cutE (S := Unit) (fun _ => ([fRow (ocells o) xs, fRp (.slice ad raw.length cap) raw], [(5, .int .u8 ((op1 raw[i]).toNat : Int)), (4, .int .i64 (i : Int)), (3, w), (0, .slice ad raw.length cap)], ownM 5 o)) (fun _ => True) ?_ ?_
    · unfold op1
      by_cases h5 : pickI raw[i].1 5 = 0
      · rw [if_pos h5]
        repeat (first | (refine sty ?_; try intro _) | (refine st ?_; try intro _) | (refine stz ?_; try intro _) | (refine stq ?_; try intro _))
        exact G.kpE () trivial (show Ents _ [fRow (ocells o) xs, fRp (.slice ad raw.length cap) raw] from inferInstance) (look_sub_cons rfl (look_sub_cons rfl (look_sub_cons rfl (look_sub_cons rfl look_sub_nil)))) (List.Sublist.refl _)
      · rw [if_neg h5]
        repeat (first | (refine sty ?_; try intro _) | (refine st ?_; try intro _) | (refine stz ?_; try intro _) | (refine stq ?_; try intro _))
        exact G.kpE () trivial (show Ents _ [fRow (ocells o) xs, fRp (.slice ad raw.length cap) raw] from inferInstance) (look_sub_cons rfl (look_sub_cons rfl (look_sub_cons rfl (look_sub_cons rfl look_sub_nil)))) (List.Sublist.refl _)
    rintro ⟨⟩ -
    dsimp only
    repeat (first | (refine sty ?_; try intro _) | (refine st ?_; try intro _) | (refine stz ?_; try intro _) | (refine stq ?_; try intro _))
    refine o_indexP (off := 0) Prod.fst rfl rfl rfl rfl (by omega) (by omega) rfl ?_; intro q
    repeat (first | (refine sty ?_; try intro _) | (refine st ?_; try intro _) | (refine stz ?_; try intro _) | (refine stq ?_; try intro _))
    refine o_callV rfl rfl rfl rfl hp5 rfl ?_
    repeat (first | (refine sty ?_; try intro _) | (refine st ?_; try intro _) | (refine stz ?_; try intro _) | (refine stq ?_; try intro _))
    refine W.cutE (S := Unit) (fun _ => ([fRow (ocells o) xs, fRp (.slice ad raw.length cap) raw], [(5, .int .u8 ((opR raw[i]).toNat : Int)), (4, .int .i64 (i : Int)), (3, w), (0, .slice ad raw.length cap)], ownM 5 o)) (fun _ => True) ?_ ?_
    · unfold opR op1
      by_cases h51 : pickI raw[i].1 5 = 1
      · rw [if_neg (by omega), if_pos h51]
        repeat (first | (refine sty ?_; try intro _) | (refine st ?_; try intro _) | (refine stz ?_; try intro _) | (refine stq ?_; try intro _))
        refine o_indexP (off := 1) Prod.snd rfl rfl rfl rfl (by omega) (by omega) rfl ?_; intro q
        repeat (first | (refine sty ?_; try intro _) | (refine st ?_; try intro _) | (refine stz ?_; try intro _) | (refine stq ?_; try intro _))
        refine o_callV rfl rfl rfl rfl hp4 rfl ?_
        repeat (first | (refine sty ?_; try intro _) | (refine st ?_; try intro _) | (refine stz ?_; try intro _) | (refine stq ?_; try intro _))
        refine o_int rfl rfl rfl rfl (i_addu8 (by omega) (by omega)) ?_
        repeat (first | (refine sty ?_; try intro _) | (refine st ?_; try intro _) | (refine stz ?_; try intro _) | (refine stq ?_; try intro _))
        exact G.kpE () trivial (show Ents _ [fRow (ocells o) xs, fRp (.slice ad raw.length cap) raw] from inferInstance) (look_sub_cons rfl (look_sub_cons rfl (look_sub_cons rfl (look_sub_cons rfl look_sub_nil)))) (List.Sublist.refl _)
      · rw [if_neg (c := _ = 1) h51]
        repeat (first | (refine sty ?_; try intro _) | (refine st ?_; try intro _) | (refine stz ?_; try intro _) | (refine stq ?_; try intro _))
        exact G.kpE () trivial (show Ents _ [fRow (ocells o) xs, fRp (.slice ad raw.length cap) raw] from inferInstance) (look_sub_cons rfl (look_sub_cons rfl (look_sub_cons rfl (look_sub_cons rfl look_sub_nil)))) (List.Sublist.refl _)
    rintro ⟨⟩ -
    dsimp only
    clear hp5 hp4 hp256 p5 p4 p256
    generalize hra : raw[i] = a at *
    have t3 := tdiv3 a.2 o3 o4
    have hbe := rbehind_spec (opR a).toNat (opR a).toNat_lt
    generalize opR a = ch at hst hb32 hbe ⊢
    generalize behN ch.toNat = n at hst hb32 hbe
    repeat (first | (refine sty ?_; try intro _) | (refine st ?_; try intro _) | (refine stz ?_; try intro _) | (refine stq ?_; try intro _))
    refine o_app2 (Mr := []) o (xs := xs) (ys := [ch]) hown ⟨by simp; omega, by simp; omega, rfl⟩ rfl rfl rfl rfl inferInstance inferInstance (List.Perm.refl _) ?_
    intro w1 o1 hown1
    dsimp only [List.nil_append]
    repeat (first | (refine sty ?_; try intro _) | (refine st ?_; try intro _) | (refine stz ?_; try intro _) | (refine stq ?_; try intro _))
    refine W.lp (S := CdIn) (fun s => ([fRow (ocells s.o) s.xs, fRp (.slice ad raw.length cap) raw], [(6, .int .i64 (s.k : Int)), (5, .int .u8 (ch.toNat : Int)), (4, .int .i64 (i : Int)), (3, s.w), (0, .slice ad raw.length cap)], ownM 5 s.o)) (fun s => s.k ≤ n ∧ s.xs = xs ++ ch :: (List.range s.k).map (bhR a) ∧ IsOwn 1 s.w s.xs.length s.o) (fun s => n - s.k) ⟨0, xs ++ [ch], w1, o1⟩ ?_ (h0 := ⟨Nat.zero_le _, rfl, hown1⟩)
    rintro ⟨k, ys, w2, o2⟩ ⟨hk, hys, hown2⟩
    dsimp only at hk hys hown2 ⊢
    have hyl : ys.length = xs.length + 1 + k := by rw [hys]; simp; omega
    by_cases hkn : k = n
    · subst hkn
      repeat (first | (refine sty ?_; try intro _) | (refine st ?_; try intro _) | (refine stz ?_; try intro _) | (refine stq ?_; try intro _))
      refine o_callV rfl rfl rfl rfl hbe rfl ?_
      repeat (first | (refine sty ?_; try intro _) | (refine st ?_; try intro _) | (refine stz ?_; try intro _) | (refine stq ?_; try intro _))
      rw [← hst] at hys
      exact G.ag (S := CdSt) ⟨i + 1, ys, w2, o2⟩ (hpre := ⟨by dsimp only; omega, by dsimp only; omega, hys, hown2⟩)
    · have hpk := pick14_spec (a.2.tdiv 3 + (k : Int)) 256 (by omega) (by decide)
      have p256 := pickI_nn (a.2.tdiv 3 + (k : Int)) 256 (by decide)
      repeat (first | (refine sty ?_; try intro _) | (refine st ?_; try intro _) | (refine stz ?_; try intro _) | (refine stq ?_; try intro _))
      refine o_callV rfl rfl rfl rfl hbe rfl ?_
      repeat (first | (refine sty ?_; try intro _) | (refine st ?_; try intro _) | (refine stz ?_; try intro _) | (refine stq ?_; try intro _))
      rw [hra]
      refine o_indexP (off := 1) Prod.snd rfl rfl rfl rfl (by omega) (by omega) rfl ?_; intro q
      repeat (first | (refine sty ?_; try intro _) | (refine st ?_; try intro _) | (refine stz ?_; try intro _) | (refine stq ?_; try intro _))
      refine o_int rfl rfl rfl rfl (i_quoI (by decide) (by omega) (by omega)) ?_
      repeat (first | (refine sty ?_; try intro _) | (refine st ?_; try intro _) | (refine stz ?_; try intro _) | (refine stq ?_; try intro _))
      refine o_callV rfl rfl rfl rfl hpk rfl ?_
      repeat (first | (refine sty ?_; try intro _) | (refine st ?_; try intro _) | (refine stz ?_; try intro _) | (refine stq ?_; try intro _))
      rw [← u8I_nat (pickI (a.2.tdiv 3 + (k : Int)) 256) p256.1 p256.2, show u8I (pickI (a.2.tdiv 3 + (k : Int)) 256) = bhR a k from rfl]
      repeat (first | (refine sty ?_; try intro _) | (refine st ?_; try intro _) | (refine stz ?_; try intro _) | (refine stq ?_; try intro _))
      refine o_app2 (Mr := []) o2 (xs := ys) (ys := [bhR a k]) hown2 ⟨by simp; omega, by simp; omega, rfl⟩ rfl rfl rfl rfl inferInstance inferInstance (List.Perm.refl _) ?_
      intro w3 o3 hown3
      dsimp only [List.nil_append]
      repeat (first | (refine sty ?_; try intro _) | (refine st ?_; try intro _) | (refine stz ?_; try intro _) | (refine stq ?_; try intro _))
      exact G.ag (S := CdIn) ⟨k + 1, ys ++ [bhR a k], w3, o3⟩ (hpre := ⟨by dsimp only; omega, by dsimp only; rw [hys, List.range_succ]; simp, hown3⟩)
  · have e : codeR raw = xs := by
      rw [codeR, hxs, cdT, cksR]
      by_cases h : i = raw.length
      · rw [h, List.take_length, List.take_of_length_le (by omega)]
      · rw [show i = 40 from by omega]
    rw [e]
    refine W.bare (G.giveOwn2 (Mr := []) w xs o 5 hown inferInstance (List.Perm.refl _) ?_)
    refine G.code ?_
    by_cases hie : i < raw.length
    · repeat (first | (refine sty ?_; try intro _) | (refine st ?_; try intro _) | (refine stz ?_; try intro _) | (refine stq ?_; try intro _))
      refine G.retV ?_
      rfl
    · repeat (first | (refine sty ?_; try intro _) | (refine st ?_; try intro _) | (refine stz ?_; try intro _) | (refine stq ?_; try intro _))
      refine G.retV ?_
      rfl
end Go.Rail
namespace Go.Rail
open Go Go.Proofs
set_option linter.unusedSimpArgs false
set_option linter.unusedVariables false
set_option maxHeartbeats 400000
set_option maxRecDepth 4000
attribute [local irreducible] OpK G W LW wpListIn Exit.then Exit.inBlock Post rounds opRun bodyPostM intOp
attribute [local irreducible] u8 u64
attribute [local irreducible] pickI
theorem of_spec (n : Int) : FnV Tryd.prog 18 [.int .i64 n] [] (Word.of n).v := by
  refine Fn.enter Tryd.func18 rfl Tryd.ntmps18 (by simp) (fun I0 w0 => ?_)
  by_cases hc : n < 0
  · repeat (first | refine stp ?_ | (refine sti ?_; intro _) | refine stf ?_ | (refine stb ?_; intro _))
    refine W.loopN 4 ?_
    repeat (first | refine stp ?_ | (refine sti ?_; intro _) | refine stf ?_ | (refine stb ?_; intro _))
    refine G.ret rfl (.cons (.cellA rfl rfl) .nil) (Φ' := []) (M' := []) inferInstance (List.nil_sublist _) ⟨?_, rfl, rfl⟩
    simp [tup, Word.of, hc, Word.v, Word.cells, cellsL]
  · repeat (first | refine stp ?_ | (refine sti ?_; intro _) | refine stf ?_ | (refine stb ?_; intro _))
    refine G.ret rfl (.cons (.cellA rfl rfl) .nil) (Φ' := []) (M' := []) inferInstance (List.nil_sublist _) ⟨?_, rfl, rfl⟩
    simp [tup, Word.of, hc, Word.v, Word.cells, cellsL]
end Go.Rail
namespace Go.Rail
open Go Go.Proofs
set_option linter.unusedSimpArgs false
set_option linter.unusedVariables false
set_option maxHeartbeats 400000
set_option maxRecDepth 4000
attribute [local irreducible] OpK G W LW wpListIn Exit.then Exit.inBlock Post rounds opRun bodyPostM intOp
set_option maxHeartbeats 8000000
def addRow : Row := ⟨[65, 68, 68], 2, 1, 3⟩
theorem eq_add (w : World) : (Op.equalIn 10000 37 (rowV addRow) (rowV addRow)).run Tryd.prog w = .ok true w := by kernel_rfl
instance eqAdd : EqOn Tryd.prog 37 (rowV addRow) (rowV addRow) true where
  eq := fun w => by rw [run_eql_struct, eq_add]; simp only [Result.andThen_ok]
  ne := fun w => by rw [run_neq_struct, eq_add]; simp only [Result.andThen_ok]
  guard := fun op p q w => run_eqGuard_agg _ _ _ _ _ _ _ (by kernel_rfl)
def tx1 : List UInt8 := [80, 85, 83, 72, 49, 32, 48, 120, 48, 53, 10, 74, 85, 77, 80, 68, 69, 83, 84, 10]
theorem parse_one : parseL tx1 = ([96, 5, 91], 0, 0) := by kernel_rfl
theorem parse_two : parseL [65, 68, 68, 10, 65, 68, 68, 88, 10] = ([], 42, 1) := by kernel_rfl
theorem parse_three : parseL [65, 68, 68, 32, 49] = ([], 3, 0) := by kernel_rfl
theorem jm_one : jmL [96, 91, 91] = [2] := by kernel_rfl
theorem tx_one : txL [96, 5, 91] = tx1 := by kernel_rfl
theorem push_one : pushL [96, 5, 91] 0 1 = Word.of 5 := by kernel_rfl
theorem awake14_spec : FnV Tryd.prog 8 [] [] (.bool true) := by
  have c1 := info_spec 1 (by decide)
  have c2 := info_spec 12 (by decide)
  rw [show infoV 1 = .tuple #[rowV addRow, .bool true] from by kernel_rfl] at c1
  rw [show infoV 12 = .tuple #[rowV noRow, .bool false] from by kernel_rfl] at c2
  have c3 := Fn.given (jumpsO_spec [96, 91, 91] (by decide))
  rw [jm_one] at c3
  have c4 := parse_spec tx1 (by decide)
  have c5 := parse_spec [65, 68, 68, 10, 65, 68, 68, 88, 10] (by decide)
  have c6 := parse_spec [65, 68, 68, 32, 49] (by decide)
  rw [parse_one] at c4
  rw [parse_two] at c5
  rw [parse_three] at c6
  have c7 := text_spec [96, 5, 91] (by decide)
  rw [tx_one] at c7
  have c8 := push_spec [96, 5, 91] 0 1 (by decide)
  rw [push_one] at c8
  have c9 := of_spec 5
  refine Fn.enter Tryd.func8 rfl Tryd.ntmps8 (by simp) (fun I0 w0 => ?_)
  repeat (first | (refine sty ?_; try intro _) | (refine st ?_; try intro _) | (refine stz ?_; try intro _) | (refine stq ?_; try intro _))
  refine o_callV rfl rfl rfl rfl c1 rfl ?_
  repeat (first | (refine sty ?_; try intro _) | (refine st ?_; try intro _) | (refine stz ?_; try intro _) | (refine stq ?_; try intro _))
  refine o_callV rfl rfl rfl rfl c2 rfl ?_
  repeat (first | (refine sty ?_; try intro _) | (refine st ?_; try intro _) | (refine stz ?_; try intro _) | (refine stq ?_; try intro _))
  refine o_callD rfl rfl rfl rfl c3 ?_
  intro v3
  repeat (first | (refine sty ?_; try intro _) | (refine st ?_; try intro _) | (refine stz ?_; try intro _) | (refine stq ?_; try intro _))
  refine o_callV rfl rfl rfl rfl c4 rfl ?_
  repeat (first | (refine sty ?_; try intro _) | (refine st ?_; try intro _) | (refine stz ?_; try intro _) | (refine stq ?_; try intro _))
  refine o_callV rfl rfl rfl rfl c5 rfl ?_
  repeat (first | (refine sty ?_; try intro _) | (refine st ?_; try intro _) | (refine stz ?_; try intro _) | (refine stq ?_; try intro _))
  refine o_callV rfl rfl rfl rfl c6 rfl ?_
  repeat (first | (refine sty ?_; try intro _) | (refine st ?_; try intro _) | (refine stz ?_; try intro _) | (refine stq ?_; try intro _))
  refine o_eql (u := rowV addRow) (v := rowV addRow) rfl rfl rfl rfl (r := true) rfl ?_
  repeat (first | (refine sty ?_; try intro _) | (refine st ?_; try intro _) | (refine stz ?_; try intro _) | (refine stq ?_; try intro _))
  refine o_callV rfl rfl rfl rfl c7 rfl ?_
  repeat (first | (refine sty ?_; try intro _) | (refine st ?_; try intro _) | (refine stz ?_; try intro _) | (refine stq ?_; try intro _))
  refine o_callV rfl rfl rfl rfl c8 rfl ?_
  repeat (first | (refine sty ?_; try intro _) | (refine st ?_; try intro _) | (refine stz ?_; try intro _) | (refine stq ?_; try intro _))
  refine o_callV rfl rfl rfl rfl c9 rfl ?_
  repeat (first | (refine sty ?_; try intro _) | (refine st ?_; try intro _) | (refine stz ?_; try intro _) | (refine stq ?_; try intro _))
  refine G.retV ?_
  rfl
end Go.Rail
