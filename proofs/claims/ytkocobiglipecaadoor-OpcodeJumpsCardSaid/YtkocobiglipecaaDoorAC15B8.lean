/- opcode.Info. -/
import Derived.Test.YtkocobiglipecaaDoorAEqB2
import Derived.Test.YtkocobiglipecaaDoorRailG
import Derived.Test.YtkocobiglipecaaDoorAB3B6
namespace Go.Rail
open Go Go.Proofs
set_option linter.unusedSimpArgs false
set_option linter.unusedVariables false
set_option maxHeartbeats 400000
set_option maxRecDepth 4000
attribute [local irreducible] OpK G W LW wpListIn Exit.then Exit.inBlock Post rounds opRun bodyPostM intOp
set_option maxHeartbeats 16000000
set_option maxRecDepth 20000
theorem low_spec : Fn Tryd.prog 32 [] [] [] (RMapV (rowsV rowsLow)) := by
  refine Fn.enter Tryd.func32 rfl Tryd.ntmps32 (by simp) (fun I0 w0 => ?_)
  repeat (refine st ?_; try intro _)
  refine o_makeMapV rfl rfl ?_
  intro b
  repeat (first | refine st ?_ | refine o_insV rfl rfl rfl rfl (by kernel_rfl) ?_)
  exact G.ret rfl (.cons (.tmp rfl) .nil) (Φ' := []) (M' := [(b, MapV (rowsV rowsLow))]) inferInstance (List.Sublist.refl _) ⟨b, rfl, rfl, rfl⟩
theorem high_spec : Fn Tryd.prog 33 [] [] [] (RMapV (rowsV rowsHigh)) := by
  refine Fn.enter Tryd.func33 rfl Tryd.ntmps33 (by simp) (fun I0 w0 => ?_)
  repeat (refine st ?_; try intro _)
  refine o_makeMapV rfl rfl ?_
  intro b
  repeat (first | refine st ?_ | refine o_insV rfl rfl rfl rfl (by kernel_rfl) ?_)
  exact G.ret rfl (.cons (.tmp rfl) .nil) (Φ' := []) (M' := [(b, MapV (rowsV rowsHigh))]) inferInstance (List.Sublist.refl _) ⟨b, rfl, rfl, rfl⟩
theorem lookup_spec (n b b1 b2 : Nat) (l1 l2 : List (Nat × Row)) : Fn Tryd.prog 31 [.int .u8 (n : Int), .slice (some ⟨b, 0, none⟩) 2 2] [fBlk b [.map (some b1), .map (some b2)] 74] [(b1, MapV (rowsV l1)), (b2, MapV (rowsV l2))]
    (fun u Φ' M' => u = .tuple #[rowV (((findR l1 n).or (findR l2 n)).getD noRow), .bool ((findR l1 n).or (findR l2 n)).isSome] ∧ Φ' = [] ∧ M' = []) := by
  have g1 := getV_rows l1 n
  have g2 := getV_rows l2 n
  refine Fn.enter Tryd.func31 rfl Tryd.ntmps31 (by simp) (fun I0 w0 => ?_)
  repeat (refine st ?_; try intro _)
  refine W.loopN 3 ?_
  repeat (refine st ?_; try intro _)
  refine o_idxO rfl rfl rfl rfl (by decide) (by decide) (o' := 0) (by decide) ?_
  repeat (refine st ?_; try intro _)
  cases h1 : findR l1 n with
  | some r =>
    rw [h1] at g1
    refine o_lookV (l := rowsV l1) rfl rfl rfl rfl (by simp) (by rw [g1]) (by rw [g1]) ?_
    repeat (refine st ?_; try intro _)
    refine G.ret rfl (.cons (.cellA rfl rfl) (.cons (.tmp rfl) .nil)) (Φ' := []) (M' := []) inferInstance (List.nil_sublist _) ⟨?_, rfl, rfl⟩
    rfl
  | none =>
    rw [h1] at g1
    refine o_lookV (l := rowsV l1) rfl rfl rfl rfl (by simp) (by rw [g1]) (by rw [g1]) ?_
    repeat (refine st ?_; try intro _)
    refine o_idxO rfl rfl rfl rfl (by decide) (by decide) (o' := 1) (by decide) ?_
    repeat (refine st ?_; try intro _)
    cases h2 : findR l2 n with
    | some r =>
      rw [h2] at g2
      refine o_lookV (l := rowsV l2) rfl rfl rfl rfl (by simp) (by rw [g2]) (by rw [g2]) ?_
      repeat (refine st ?_; try intro _)
      refine G.ret rfl (.cons (.cellA rfl rfl) (.cons (.tmp rfl) .nil)) (Φ' := []) (M' := []) inferInstance (List.nil_sublist _) ⟨?_, rfl, rfl⟩
      rfl
    | none =>
      rw [h2] at g2
      refine o_lookV (l := rowsV l2) rfl rfl rfl rfl (by simp) (by rw [g2]) (by rw [g2]) ?_
      repeat (refine st ?_; try intro _)
      refine G.ret rfl (.cons (.cellA rfl rfl) (.cons (.tmp rfl) .nil)) (Φ' := []) (M' := []) inferInstance (List.nil_sublist _) ⟨?_, rfl, rfl⟩
      rfl
theorem ssmall_spec (n : Nat) (hn : n < 100) : FnV Tryd.prog 76 [.int .i64 (n : Int)] [] (.string (ba (decN n))) := by
  refine Fn.enter Tryd.func76 rfl Tryd.ntmps76 (by simp) (fun I0 w0 => ?_)
  unfold decN
  by_cases h : n < 10
  · rw [if_pos h]
    repeat (refine st ?_; try intro _)
    refine G.retV ?_
    refine congrArg (fun l => Value.string (ba l)) ?_
    clear I0 w0
    revert n
    exact of_decide_eq_true (by kernel_rfl)
  · rw [if_neg h]
    repeat (refine st ?_; try intro _)
    refine G.retV ?_
    refine congrArg (fun l => Value.string (ba l)) ?_
    clear I0 w0
    revert n
    exact of_decide_eq_true (by kernel_rfl)
theorem fmt_spec (n : Nat) (hn : n < 100) : FnV Tryd.prog 69 [.int .i64 (n : Int), .int .i64 10] [] (.string (ba (decN n))) := by
  have hs := ssmall_spec n hn
  refine Fn.enter Tryd.func69 rfl Tryd.ntmps69 (by simp) (fun I0 w0 => ?_)
  repeat (refine st ?_; try intro _)
  refine o_callV rfl rfl rfl rfl hs rfl ?_
  repeat (refine st ?_; try intro _)
  refine G.retV ?_
  rfl
theorem itoa2_spec (n : Nat) (hn : n < 100) : FnV Tryd.prog 56 [.int .i64 (n : Int)] [] (.string (ba (decN n))) := by
  have hs := fmt_spec n hn
  refine Fn.enter Tryd.func56 rfl Tryd.ntmps56 (by simp) (fun I0 w0 => ?_)
  repeat (refine st ?_; try intro _)
  refine o_callV rfl rfl rfl rfl hs rfl ?_
  repeat (refine st ?_; try intro _)
  refine G.retV ?_
  rfl
theorem itoa_spec (n : Nat) (hn : n < 100) : FnV Tryd.prog 42 [.int .i64 (n : Int)] [] (.string (ba (decN n))) := by
  have hs := itoa2_spec n hn
  refine Fn.enter Tryd.func42 rfl Tryd.ntmps42 (by simp) (fun I0 w0 => ?_)
  repeat (refine st ?_; try intro _)
  refine o_callV rfl rfl rfl rfl hs rfl ?_
  repeat (refine st ?_; try intro _)
  refine G.retV ?_
  rfl
theorem decN_len (n : Nat) : (decN n).length ≤ 2 := by unfold decN; split <;> simp
theorem numbered_spec (l : List UInt8) (n : Nat) (hn : n < 100) (hl : l.length ≤ 10) : FnV Tryd.prog 30 [.string (ba l), .int .i64 (n : Int)] [] (.string (ba (l ++ decN n))) := by
  have hs := itoa_spec n hn
  have := decN_len n
  refine Fn.enter Tryd.func30 rfl Tryd.ntmps30 (by simp) (fun I0 w0 => ?_)
  repeat (refine st ?_; try intro _)
  refine o_callV rfl rfl rfl rfl hs rfl ?_
  repeat (refine st ?_; try intro _)
  refine G.retV ?_
  rfl
theorem info_spec (n : Nat) (hn : n < 256) : FnV Tryd.prog 15 [.int .u8 (n : Int)] [] (infoV n) := by
  refine Fn.enter Tryd.func15 rfl Tryd.ntmps15 (by simp) (fun I0 w0 => ?_)
  unfold infoV infoN
  by_cases h1 : 96 ≤ n ∧ n ≤ 127
  · rw [if_pos h1]
    have hs := numbered_spec [80, 85, 83, 72] (n - 95) (by omega) (by decide)
    repeat (refine st ?_; try intro _)
    refine o_callV rfl rfl rfl rfl hs rfl ?_
    repeat (refine st ?_; try intro _)
    refine G.retV ?_
    rfl
  rw [if_neg h1]
  by_cases h2 : 128 ≤ n ∧ n ≤ 143
  · rw [if_pos h2]
    have hs := numbered_spec [68, 85, 80] (n - 127) (by omega) (by decide)
    repeat (refine st ?_; try intro _)
    refine o_callV rfl rfl rfl rfl hs rfl ?_
    repeat (refine st ?_; try intro _)
    refine G.retV ?_
    rw [show n - 126 = n - 127 + 1 from by omega]
    rfl
  rw [if_neg h2]
  by_cases h3 : 144 ≤ n ∧ n ≤ 159
  · rw [if_pos h3]
    have hs := numbered_spec [83, 87, 65, 80] (n - 143) (by omega) (by decide)
    repeat (refine st ?_; try intro _)
    refine o_callV rfl rfl rfl rfl hs rfl ?_
    repeat (refine st ?_; try intro _)
    refine G.retV ?_
    rw [show n - 142 = n - 143 + 1 from by omega]
    rfl
  rw [if_neg h3]
  by_cases h4 : 160 ≤ n ∧ n ≤ 164
  · rw [if_pos h4]
    have hs := numbered_spec [76, 79, 71] (n - 160) (by omega) (by decide)
    repeat (refine st ?_; try intro _)
    refine o_callV rfl rfl rfl rfl hs rfl ?_
    repeat (refine st ?_; try intro _)
    refine G.retV ?_
    rw [show n - 158 = n - 160 + 2 from by omega, show n - 159 = n - 160 + 1 from by omega]
    rfl
  rw [if_neg h4]
  unfold tabN
  have h5 : n < 96 ∨ 164 < n := by omega
  have hl := fun b b1 b2 => lookup_spec n b b1 b2 rowsLow rowsHigh
  generalize (findR rowsLow n).or (findR rowsHigh n) = R at hl ⊢
  rcases h5 with h5 | h5
  · repeat (refine st ?_; try intro _)
    refine o_callM rfl rfl rfl rfl low_spec ?_
    intro b1
    repeat (refine st ?_; try intro _)
    refine o_callM rfl rfl rfl rfl high_spec ?_
    intro b2
    repeat (refine st ?_; try intro _)
    refine o_litN (cs := [.map (some b1), .map (some b2)]) rfl rfl rfl rfl rfl rfl rfl ?_
    intro b3
    repeat (refine st ?_; try intro _)
    refine OpK.call rfl rfl rfl rfl (hl b3 b1 b2) inferInstance (Mr := _) (.swap _ _ _) ?_
    rintro u Φ' Mc' ⟨rfl, rfl, rfl⟩
    dsimp only [List.cons_append, List.nil_append]
    repeat (refine st ?_; try intro _)
    refine G.ret rfl (.cons (.cellA rfl rfl) (.cons (.tmp rfl) .nil)) (Φ' := []) (M' := []) inferInstance (List.nil_sublist _) ⟨?_, rfl, rfl⟩
    rfl
  · repeat (refine st ?_; try intro _)
    refine o_callM rfl rfl rfl rfl low_spec ?_
    intro b1
    repeat (refine st ?_; try intro _)
    refine o_callM rfl rfl rfl rfl high_spec ?_
    intro b2
    repeat (refine st ?_; try intro _)
    refine o_litN (cs := [.map (some b1), .map (some b2)]) rfl rfl rfl rfl rfl rfl rfl ?_
    intro b3
    repeat (refine st ?_; try intro _)
    refine OpK.call rfl rfl rfl rfl (hl b3 b1 b2) inferInstance (Mr := _) (.swap _ _ _) ?_
    rintro u Φ' Mc' ⟨rfl, rfl, rfl⟩
    dsimp only [List.cons_append, List.nil_append]
    repeat (refine st ?_; try intro _)
    refine G.ret rfl (.cons (.cellA rfl rfl) (.cons (.tmp rfl) .nil)) (Φ' := []) (M' := []) inferInstance (List.nil_sublist _) ⟨?_, rfl, rfl⟩
    rfl
end Go.Rail
namespace Go.Rail
open Go Go.Proofs
set_option linter.unusedSimpArgs false
set_option linter.unusedVariables false
set_option maxHeartbeats 400000
set_option maxRecDepth 4000
attribute [local irreducible] OpK G W LW wpListIn Exit.then Exit.inBlock Post rounds opRun bodyPostM intOp
set_option maxHeartbeats 4000000
/-- An opcode's name: by the table, else its digits. -/
def nameL (ch : UInt8) : List UInt8 := match infoN ch.toNat with
  | some r => r.name
  | none => [48, 120] ++ hexL [ch]
theorem name_spec (ch : UInt8) : FnV Tryd.prog 26 [.int .u8 ((ch.toNat : Nat) : Int)] [] (.string (ba (nameL ch))) := by
  have hi := info_spec ch.toNat ch.toNat_lt
  have hx := hex_spec [ch] (Nat.le_of_ble_eq_true rfl)
  unfold infoV at hi
  unfold nameL
  cases h : infoN ch.toNat with
  | some r =>
    rw [h] at hi
    dsimp only [Option.getD_some, Option.isSome_some] at hi ⊢
    refine Fn.enter Tryd.func26 rfl Tryd.ntmps26 (by simp) (fun I0 w0 => ?_)
    repeat (first | (refine sty ?_; try intro _) | (refine st ?_; try intro _) | (refine stz ?_; try intro _) | (refine stq ?_; try intro _))
    refine o_callV rfl rfl rfl rfl hi rfl ?_
    repeat (first | (refine sty ?_; try intro _) | (refine st ?_; try intro _) | (refine stz ?_; try intro _) | (refine stq ?_; try intro _))
    refine G.retV ?_
    rfl
  | none =>
    rw [h] at hi
    dsimp only [Option.getD_none, Option.isSome_none] at hi ⊢
    refine Fn.enter Tryd.func26 rfl Tryd.ntmps26 (by simp) (fun I0 w0 => ?_)
    repeat (first | (refine sty ?_; try intro _) | (refine st ?_; try intro _) | (refine stz ?_; try intro _) | (refine stq ?_; try intro _))
    refine o_callV rfl rfl rfl rfl hi rfl ?_
    repeat (first | (refine sty ?_; try intro _) | (refine st ?_; try intro _) | (refine stz ?_; try intro _) | (refine stq ?_; try intro _))
    refine o_callV rfl rfl rfl rfl hx rfl ?_
    repeat (first | (refine sty ?_; try intro _) | (refine st ?_; try intro _) | (refine stz ?_; try intro _) | (refine stq ?_; try intro _))
    refine G.retV ?_
    rfl
end Go.Rail
namespace Go.Rail
open Go Go.Proofs
set_option linter.unusedSimpArgs false
set_option linter.unusedVariables false
set_option maxHeartbeats 400000
set_option maxRecDepth 4000
attribute [local irreducible] OpK G W LW wpListIn Exit.then Exit.inBlock Post rounds opRun bodyPostM intOp
set_option maxHeartbeats 4000000
theorem nameL_all : ((List.range 256).all fun n => decide ((nameL (UInt8.ofNat n)).length ≤ 20)) = true := by kernel_rfl
theorem nameL_len (ch : UInt8) : (nameL ch).length ≤ 20 := by
  have h := List.all_eq_true.1 nameL_all ch.toNat (List.mem_range.2 ch.toNat_lt)
  rw [UInt8.ofNat_toNat] at h
  exact of_decide_eq_true h
/-- The bytes behind a place. -/
def tailB (l : List UInt8) (p n : Nat) : List UInt8 := (l.take (min (p + 1 + n) l.length)).drop (p + 1)
theorem tailB_len (l : List UInt8) (p n : Nat) : (tailB l p n).length ≤ n := by
  rw [tailB, List.length_drop, List.length_take]; omega
/-- A place's line. -/
def txE (l : List UInt8) (p : Nat) : List UInt8 := nameL (l.getD p 0) ++ ((if 0 < behN (l.getD p 0).toNat then [32] ++ ([48, 120] ++ hexL (tailB l p (behN (l.getD p 0).toNat))) else []) ++ [10])
theorem txE_len (l : List UInt8) (p : Nat) : (txE l p).length ≤ 100 := by
  have h1 := nameL_len (l.getD p 0)
  have h2 := tailB_len l p (behN (l.getD p 0).toNat)
  have h3 := behN_le (l.getD p 0).toNat
  rw [txE, List.length_append, List.length_append]
  split
  · rw [List.length_append, List.length_append, hexL_len]
    simp only [List.length_cons, List.length_nil]
    omega
  · simp only [List.length_cons, List.length_nil]
    omega
def txT (l : List UInt8) (k : Nat) : List UInt8 := ((plc l).take k).flatMap (txE l)
def txL (l : List UInt8) : List UInt8 := (plc l).flatMap (txE l)
theorem txT_all (l : List UInt8) : txT l (plc l).length = txL l := by rw [txT, txL, List.take_length]
theorem flat_len {α : Type} (f : α → List UInt8) (h : ∀ a, (f a).length ≤ 100) (l : List α) : (l.flatMap f).length ≤ 100 * l.length := by
  induction l with
  | nil => exact Nat.zero_le _
  | cons a l ih => have := h a; rw [List.flatMap_cons, List.length_append, List.length_cons]; omega
theorem txT_len (l : List UInt8) (k : Nat) : (txT l k).length ≤ 100 * l.length := by
  have h1 := flat_len (txE l) (txE_len l) ((plc l).take k)
  have h2 := plcF_len l l.length 0
  have h3 : ((plc l).take k).length ≤ (plc l).length := by rw [List.length_take]; omega
  rw [plc] at h3
  rw [txT]
  rw [plc] at h1 ⊢
  omega
theorem txT_step (l : List UInt8) (k p : Nat) (hp : (plc l)[k]? = some p) : txT l (k + 1) = txT l k ++ txE l p := by
  obtain ⟨h1, h2⟩ := List.getElem?_eq_some_iff.1 hp
  rw [txT, txT, List.take_succ_eq_append_getElem h1, h2, List.flatMap_append]
  simp
theorem plcF_lt (l : List UInt8) : ∀ f p, ∀ q ∈ plcF l f p, q < l.length
  | 0, _, q, h => by cases h
  | f + 1, p, q, h => by
    unfold plcF at h
    split at h
    · rcases List.mem_cons.1 h with rfl | h
      · assumption
      · exact plcF_lt l f _ q h
    · cases h
theorem plc_lt (l : List UInt8) (k p : Nat) (hp : (plc l)[k]? = some p) : p < l.length := plcF_lt l _ _ p (List.mem_of_getElem? hp)
theorem text_spec (l : List UInt8) (hl : l.length ≤ 100000) : FnV Tryd.prog 12 [.string (ba l)] [] (.string (ba (txL l))) := by
  have hpl := places_spec l
  refine Fn.enter Tryd.func12 rfl Tryd.ntmps12 (by simp) (fun I0 w0 => ?_)
  repeat (first | (refine sty ?_; try intro _) | (refine st ?_; try intro _) | (refine stz ?_; try intro _) | (refine stq ?_; try intro _))
  rename_i b1 B
  refine OpK.call rfl rfl rfl rfl hpl inferInstance (Mr := _) (List.Perm.refl _) ?_
  rintro u Φ' Mc' ⟨b, rfl, rfl, rfl⟩
  dsimp only [List.cons_append, List.nil_append]
  repeat (first | (refine sty ?_; try intro _) | (refine st ?_; try intro _) | (refine stz ?_; try intro _) | (refine stq ?_; try intro _))
  refine W.rangeFuncR (enc := plE l) (ps := [9, 10]) (Φi := [fBlk b [.string (ba l)] 9]) (Mr := []) (fun k s => ∃ a v o, (a = none ∨ a = some ⟨B, 0, none⟩) ∧ IsBuf v (txT l k) o ∧ s = ([], (b1, Ob [.string (ba l)] 9) :: bldM B a v (txT l k) o)) (fun _ _ => False) rfl (places1_spec b l (by omega)) (by decide) (plE_two l) inferInstance ([], (b1, Ob [.string (ba l)] 9) :: bldM B none (.slice none 0 0) [] none) ⟨_, _, none, .inl rfl, ⟨rfl, rfl⟩, rfl⟩ inferInstance (List.Perm.swap _ _ _) ?_ ?_ ?_
  · rintro y rec I0' w0' k hk _ ⟨a, v, o, ha, hb, rfl⟩
    rw [plE_len] at hk
    obtain ⟨p, hp⟩ : ∃ p, (plc l)[k]? = some p := ⟨_, List.getElem?_eq_getElem hk⟩
    have hst := txT_step l k p hp
    have hlen := txT_len l k
    have hpl := plc_lt l k p hp
    have htl := tailB_len l p (behN (l.getD p 0).toNat)
    have hb32 := behN_le (l.getD p 0).toNat
    have hbh := behind_spec (l.getD p 0).toNat (l.getD p 0).toNat_lt
    have hnm := name_spec (l.getD p 0)
    have hnl := nameL_len (l.getD p 0)
    unfold txE at hst
    dsimp only
    rw [plE_at l k p (by rw [plE_len]; exact hk) hp]
    generalize l.getD p 0 = ch at hst htl hb32 hbh hnm hnl ⊢
    generalize behN ch.toNat = n at hst htl hb32 hbh
    generalize txT l k = xs at hst hlen hb ⊢
    generalize txT l (k + 1) = xs' at hst ⊢
    generalize nameL ch = nm at hst hnm hnl
    have hw := writeString_spec B a ha v xs nm o hb (by omega)
    show W _ _ _ _ ((10, .int .u8 ((ch.toNat : Nat) : Int)) :: (9, .int .i64 (p : Int)) :: _) _
    repeat (first | (refine sty ?_; try intro _) | (refine st ?_; try intro _) | (refine stz ?_; try intro _) | (refine stq ?_; try intro _))
    refine G.begin (by rfl) ?_
    repeat (first | (refine sty ?_; try intro _) | (refine st ?_; try intro _) | (refine stz ?_; try intro _) | (refine stq ?_; try intro _))
    refine o_callV rfl rfl rfl rfl hnm rfl ?_
    repeat (first | (refine sty ?_; try intro _) | (refine st ?_; try intro _) | (refine stz ?_; try intro _) | (refine stq ?_; try intro _))
    refine OpK.call rfl rfl rfl rfl hw inferInstance (Mr := [_, _]) (List.perm_append_comm (l₁ := [_, _])) ?_
    rintro u Φ' Mc' ⟨v2, o2, hb2, rfl, rfl, rfl⟩
    refine G.perm ?_ List.perm_append_comm
    dsimp only [List.cons_append, List.nil_append]
    repeat (first | (refine sty ?_; try intro _) | (refine st ?_; try intro _) | (refine stz ?_; try intro _) | (refine stq ?_; try intro _))
    refine o_callV rfl rfl rfl rfl hbh rfl ?_
    repeat (first | (refine sty ?_; try intro _) | (refine st ?_; try intro _) | (refine stz ?_; try intro _) | (refine stq ?_; try intro _))
    by_cases hn0 : 0 < n
    · rw [if_pos hn0] at hst
      have hx := hex_spec (tailB l p n) (by omega)
      have hxl := hexL_len (tailB l p n)
      unfold tailB at hx hxl hst htl
      repeat (first | (refine sty ?_; try intro _) | (refine st ?_; try intro _) | (refine stz ?_; try intro _) | (refine stq ?_; try intro _))
      refine o_slT (p + 1) (min (p + 1 + n) l.length) rfl rfl rfl ⟨_, _, rfl, rfl⟩ ⟨_, _, rfl, by split <;> omega⟩ (by omega) (by omega) ?_
      generalize (l.take (min (p + 1 + n) l.length)).drop (p + 1) = t at hx hxl hst htl ⊢
      generalize hexL t = ht at hx hxl hst
      have hw2 := writeString_spec B (some ⟨B, 0, none⟩) (.inr rfl) v2 (xs ++ nm) ([32] ++ ([48, 120] ++ ht)) o2 hb2 (by simp only [List.length_append, List.length_cons, List.length_nil]; omega)
      repeat (first | (refine sty ?_; try intro _) | (refine st ?_; try intro _) | (refine stz ?_; try intro _) | (refine stq ?_; try intro _))
      refine o_callV rfl rfl rfl rfl hx rfl ?_
      repeat (first | (refine sty ?_; try intro _) | (refine st ?_; try intro _) | (refine stz ?_; try intro _) | (refine stq ?_; try intro _))
      repeat (first | (refine sty ?_; try intro _) | (refine st ?_; try intro _) | (refine stz ?_; try intro _) | (refine stq ?_; try intro _))
      refine OpK.call rfl rfl rfl rfl hw2 inferInstance (Mr := [_, _]) (List.perm_append_comm (l₁ := [_, _])) ?_
      rintro u Φ' Mc' ⟨v4, o4, hb4, rfl, rfl, rfl⟩
      refine G.perm ?_ List.perm_append_comm
      dsimp only [List.cons_append, List.nil_append]
      have hw3 := writeByte_spec B (some ⟨B, 0, none⟩) (.inr rfl) v4 _ 10 o4 hb4 (by simp only [List.length_append, List.length_cons, List.length_nil]; omega)
      repeat (first | (refine sty ?_; try intro _) | (refine st ?_; try intro _) | (refine stz ?_; try intro _) | (refine stq ?_; try intro _))
      refine OpK.call rfl rfl rfl rfl hw3 inferInstance (Mr := [_, _]) (List.perm_append_comm (l₁ := [_, _])) ?_
      rintro u Φ' Mc' ⟨v3, o3, hb3, rfl, rfl, rfl⟩
      refine G.perm ?_ List.perm_append_comm
      have e : xs ++ nm ++ ([32] ++ ([48, 120] ++ ht)) ++ [10] = xs' := by rw [hst]; simp
      rw [e] at hb3 ⊢
      dsimp only [List.cons_append, List.nil_append]
      repeat (first | (refine sty ?_; try intro _) | (refine st ?_; try intro _) | (refine stz ?_; try intro _) | (refine stq ?_; try intro _))
      refine G.roundEnd inferInstance (Φ' := []) (M'' := (b1, Ob [.string (ba l)] 9) :: bldM B (some ⟨B, 0, none⟩) v3 xs' o3) ?_ inferInstance (by first | exact List.Sublist.refl _ | exact .cons _ (List.Sublist.refl _))
      exact Or.inl ⟨rfl, ([], (b1, Ob [.string (ba l)] 9) :: bldM B (some ⟨B, 0, none⟩) v3 xs' o3), ⟨_, v3, o3, .inr rfl, hb3, rfl⟩, rfl⟩
    · rw [if_neg hn0] at hst
      have hw3 := writeByte_spec B (some ⟨B, 0, none⟩) (.inr rfl) v2 (xs ++ nm) 10 o2 hb2 (by rw [List.length_append]; omega)
      repeat (first | (refine sty ?_; try intro _) | (refine st ?_; try intro _) | (refine stz ?_; try intro _) | (refine stq ?_; try intro _))
      refine OpK.call rfl rfl rfl rfl hw3 inferInstance (Mr := [_, _]) (List.perm_append_comm (l₁ := [_, _])) ?_
      rintro u Φ' Mc' ⟨v3, o3, hb3, rfl, rfl, rfl⟩
      refine G.perm ?_ List.perm_append_comm
      have e : xs ++ nm ++ [10] = xs' := by rw [hst]; simp
      rw [e] at hb3 ⊢
      dsimp only [List.cons_append, List.nil_append]
      repeat (first | (refine sty ?_; try intro _) | (refine st ?_; try intro _) | (refine stz ?_; try intro _) | (refine stq ?_; try intro _))
      refine G.roundEnd inferInstance (Φ' := []) (M'' := (b1, Ob [.string (ba l)] 9) :: bldM B (some ⟨B, 0, none⟩) v3 xs' o3) ?_ inferInstance (by first | exact List.Sublist.refl _ | exact .cons _ (List.Sublist.refl _))
      exact Or.inl ⟨rfl, ([], (b1, Ob [.string (ba l)] 9) :: bldM B (some ⟨B, 0, none⟩) v3 xs' o3), ⟨_, v3, o3, .inr rfl, hb3, rfl⟩, rfl⟩
  · rintro D _ ⟨a, v, o, ha, hb, rfl⟩
    rw [plE_len, txT_all] at hb ⊢
    have hlen := txT_len l (plc l).length
    rw [txT_all] at hlen
    have hs := bString_spec B a v (txL l) o hb (by omega)
    refine G.perm ?_ List.perm_append_comm
    dsimp only [List.cons_append, List.nil_append]
    repeat (first | (refine sty ?_; try intro _) | (refine st ?_; try intro _) | (refine stz ?_; try intro _) | (refine stq ?_; try intro _))
    refine OpK.call rfl rfl rfl rfl hs inferInstance (Mr := [_, _]) (List.perm_append_comm (l₁ := [_, _])) ?_
    rintro u Φ' Mc' ⟨o', hb', rfl, rfl, rfl⟩
    refine G.perm ?_ List.perm_append_comm
    dsimp only [List.cons_append, List.nil_append]
    repeat (first | (refine sty ?_; try intro _) | (refine st ?_; try intro _) | (refine stz ?_; try intro _) | (refine stq ?_; try intro _))
    refine G.unmark inferInstance ?_
    refine G.retV ?_
    rfl
  · intro D c s h
    exact h.elim
end Go.Rail
