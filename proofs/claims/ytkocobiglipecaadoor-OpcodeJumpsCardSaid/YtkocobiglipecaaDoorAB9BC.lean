/- opcode.unhex: digits read. -/
import Derived.Test.YtkocobiglipecaaDoorAC15B8
import Derived.Test.YtkocobiglipecaaDoorRailI
namespace Go.Rail
open Go Go.Proofs
set_option linter.unusedSimpArgs false
set_option linter.unusedVariables false
set_option maxHeartbeats 400000
set_option maxRecDepth 4000
attribute [local irreducible] OpK G W LW wpListIn Exit.then Exit.inBlock Post rounds opRun bodyPostM intOp
set_option maxHeartbeats 4000000
/-- Pairs of digits, read. -/
def unhP : List UInt8 → Option (List UInt8)
  | [] => some []
  | [_] => none
  | a :: b :: r => if idxB digsL a < 16 ∧ idxB digsL b < 16 then (unhP r).map (UInt8.ofNat (16 * idxB digsL a + idxB digsL b) :: ·) else none
theorem unhP_odd : ∀ l : List UInt8, l.length % 2 = 1 → unhP l = none
  | [], h => by cases h
  | [_], _ => rfl
  | a :: b :: r, h => by
    have ih := unhP_odd r (by simp only [List.length_cons] at h; omega)
    unfold unhP; rw [ih]; split <;> rfl
def unhL (l : List UInt8) : Option (List UInt8) := if [48, 120].isPrefixOf l then unhP (l.drop 2) else none
theorem or4_all : ((List.range 16).all fun a => (List.range 16).all fun b => decide (bits .or .i64 ((16 * a : Nat) : Int) (b : Int) = ((16 * a + b : Nat) : Int))) = true := by kernel_rfl
theorem i_or4 (a b : Nat) (ha : a < 16) (hb : b < 16) : intOp .or .i64 ((16 * a : Nat) : Int) (b : Int) = some (.int .i64 ((16 * a + b : Nat) : Int)) := by
  have h := of_decide_eq_true (List.all_eq_true.1 (List.all_eq_true.1 or4_all a (List.mem_range.2 ha)) b (List.mem_range.2 hb))
  unfold intOp; exact congrArg (fun v => some (Value.int .i64 v)) h
theorem shl4_all : ((List.range 16).all fun a => decide (IntKind.i64.wrap ((a : Int) * 2 ^ (min (4 : Int).toNat IntKind.i64.bits)) = ((16 * a : Nat) : Int))) = true := by kernel_rfl
theorem i_shl4 (a : Nat) (ha : a < 16) : Value.int .i64 (IntKind.i64.wrap ((a : Int) * 2 ^ (min (4 : Int).toNat IntKind.i64.bits))) = .int .i64 ((16 * a : Nat) : Int) :=
  congrArg (Value.int .i64) (of_decide_eq_true (List.all_eq_true.1 shl4_all a (List.mem_range.2 ha)))
def unV (r : Option (List UInt8)) : Value := .tuple #[.string (ba (r.getD [])), .bool r.isSome]
structure UhSt where
  j : Nat
  xs : List UInt8
  w : Value
  o : OR
theorem unhP_step (r : List UInt8) (i : Nat) (a b : UInt8) (ha : r[i]? = some a) (hb : r[i + 1]? = some b) : unhP (r.drop i) = if idxB digsL a < 16 ∧ idxB digsL b < 16 then (unhP (r.drop (i + 2))).map (UInt8.ofNat (16 * idxB digsL a + idxB digsL b) :: ·) else none := by
  obtain ⟨h1, e1⟩ := List.getElem?_eq_some_iff.1 ha
  obtain ⟨h2, e2⟩ := List.getElem?_eq_some_iff.1 hb
  rw [List.drop_eq_getElem_cons h1, List.drop_eq_getElem_cons h2, e1, e2]
  conv => lhs; unfold unhP
theorem idx_dig (a : UInt8) : (∃ x, x < 16 ∧ idxB digsL a = x ∧ Lib.indexByte digsL a = (x : Int)) ∨ (¬ idxB digsL a < 16 ∧ Lib.indexByte digsL a = -1) := by
  rw [indexByte_eq, show digsL.length = 16 from rfl]
  by_cases h : idxB digsL a < 16
  · exact .inl ⟨_, h, rfl, by rw [if_pos h]⟩
  · exact .inr ⟨h, by rw [if_neg h]⟩
theorem unhex_spec (l : List UInt8) (hl : l.length ≤ 1000000) : FnV Tryd.prog 39 [.string (ba l)] [] (unV (unhL l)) := by
  have hcp := sCutPrefix_spec l [48, 120] (by omega)
  have hd : (if [48, 120].isPrefixOf l then l.drop ([48, 120] : List UInt8).length else l).length ≤ l.length := by split <;> simp
  unfold unhL unV
  refine Fn.enter Tryd.func39 rfl Tryd.ntmps39 (by simp) (fun I0 w0 => ?_)
  cases hp : [48, 120].isPrefixOf l with
  | false =>
    rw [hp] at hcp
    repeat (first | (refine sty ?_; try intro _) | (refine st ?_; try intro _) | (refine stz ?_; try intro _) | (refine stq ?_; try intro _))
    refine o_callV rfl rfl rfl rfl hcp rfl ?_
    repeat (first | (refine sty ?_; try intro _) | (refine st ?_; try intro _) | (refine stz ?_; try intro _) | (refine stq ?_; try intro _))
    refine G.retV ?_
    rfl
  | true =>
    rw [hp, if_pos rfl] at hcp
    rw [if_pos rfl]
    have hlr : (l.drop 2).length ≤ l.length := by simp
    change FnV _ _ _ _ (.tuple #[.string (ba (l.drop 2)), _]) at hcp
    generalize l.drop 2 = r at hcp hlr ⊢
    by_cases hodd : r.length % 2 = 1
    · rw [unhP_odd r hodd]
      repeat (first | (refine sty ?_; try intro _) | (refine st ?_; try intro _) | (refine stz ?_; try intro _) | (refine stq ?_; try intro _))
      refine o_callV rfl rfl rfl rfl hcp rfl ?_
      repeat (first | (refine sty ?_; try intro _) | (refine st ?_; try intro _) | (refine stz ?_; try intro _) | (refine stq ?_; try intro _))
      refine G.retV ?_
      rfl
    · repeat (first | (refine sty ?_; try intro _) | (refine st ?_; try intro _) | (refine stz ?_; try intro _) | (refine stq ?_; try intro _))
      refine o_callV rfl rfl rfl rfl hcp rfl ?_
      repeat (first | (refine sty ?_; try intro _) | (refine st ?_; try intro _) | (refine stz ?_; try intro _) | (refine stq ?_; try intro _))
      refine W.lp (S := UhSt) (fun s => ([fRow (ocells s.o) s.xs], [(6, .int .i64 ((2 * s.j : Nat) : Int)), (5, s.w), (0, .string (ba r))], ownM 5 s.o)) (fun s => 2 * s.j ≤ r.length ∧ s.xs.length = s.j ∧ IsOwn 1 s.w s.xs.length s.o ∧ unhP r = (unhP (r.drop (2 * s.j))).map (s.xs ++ ·)) (fun s => r.length - 2 * s.j) ⟨0, [], .slice none 0 0, none⟩ ?_ (h0 := ⟨Nat.zero_le _, rfl, ⟨rfl, rfl⟩, by simp⟩)
      rintro ⟨j, xs, w, o⟩ ⟨hj, hxs, hown, hu⟩
      dsimp only at hj hxs hown hu ⊢
      by_cases hje : 2 * j = r.length
      · rw [hje, List.drop_length] at hu
        change unhP r = some (xs ++ []) at hu
        rw [List.append_nil] at hu
        rw [hu]
        refine W.bare (G.giveOwn2 (Mr := []) w xs o 5 hown inferInstance (List.Perm.refl _) ?_)
        refine G.code ?_
        repeat (first | (refine sty ?_; try intro _) | (refine st ?_; try intro _) | (refine stz ?_; try intro _) | (refine stq ?_; try intro _))
        refine G.retV ?_
        rfl
      · obtain ⟨a, ha⟩ : ∃ a, r[2 * j]? = some a := ⟨_, List.getElem?_eq_getElem (by omega)⟩
        obtain ⟨b, hb⟩ : ∃ b, r[2 * j + 1]? = some b := ⟨_, List.getElem?_eq_getElem (by omega)⟩
        rw [unhP_step r (2 * j) a b ha hb] at hu
        have hia := sIndexByte_spec digsL a
        have hib := sIndexByte_spec digsL b
        rcases idx_dig a with ⟨xa, hxa, ea, ea2⟩ | ⟨hna, ea2⟩
        · rcases idx_dig b with ⟨xb, hxb, eb, eb2⟩ | ⟨hnb, eb2⟩
          · rw [ea, eb, if_pos ⟨hxa, hxb⟩] at hu
            rw [ea2] at hia
            rw [eb2] at hib
            clear ea ea2 eb eb2
            repeat (first | (refine sty ?_; try intro _) | (refine st ?_; try intro _) | (refine stz ?_; try intro _) | (refine stq ?_; try intro _))
            refine W.drawA 8 [dq _, dq _, dq _, dq _, dq _, dq _, dq _, dq _] [[], [], [0,1], [2], [], [], [5], [4,6]] [3, 7] (hrest := fun c => nrm ?_) (hops := by
              iterate 2 refine AllQ.aq ?_
              refine AllQ.mk (by intro c z0 Φr Lr K; refine nrm ?_; intro hK; refine o_ixG (2 * j) a rfl rfl rfl rfl rfl ha ?_; exact hK z0) ?_
              refine AllQ.mk (by intro c z0 Φr Lr K; refine nrm ?_; intro hK; refine o_callV rfl rfl rfl rfl hia rfl ?_; exact hK z0) ?_
              iterate 3 refine AllQ.aq ?_
              refine AllQ.mk (by intro c z0 Φr Lr K; refine nrm ?_; intro hK; refine o_ixG (2 * j + 1) b rfl rfl rfl rfl rfl hb ?_; exact hK z0) ?_
              exact AllQ.nil)
            repeat (first | (refine sty ?_; try intro _) | (refine st ?_; try intro _) | (refine stz ?_; try intro _) | (refine stq ?_; try intro _))
            refine o_callV rfl rfl rfl rfl hib rfl ?_
            repeat (first | (refine sty ?_; try intro _) | (refine st ?_; try intro _) | (refine stz ?_; try intro _) | (refine stq ?_; try intro _))
            refine o_shl rfl rfl rfl rfl (by decide) (i_shl4 xa hxa) ?_
            repeat (first | (refine sty ?_; try intro _) | (refine st ?_; try intro _) | (refine stz ?_; try intro _) | (refine stq ?_; try intro _))
            refine o_int rfl rfl rfl rfl (i_or4 xa xb hxa hxb) ?_
            have e8 : (UInt8.ofNat (16 * xa + xb)).toNat = 16 * xa + xb := by rw [UInt8.toNat_ofNat']; omega
            generalize UInt8.ofNat (16 * xa + xb) = ch at hu e8
            rw [← e8]
            repeat (first | (refine sty ?_; try intro _) | (refine st ?_; try intro _) | (refine stz ?_; try intro _) | (refine stq ?_; try intro _))
            refine o_app2 (Mr := []) o (xs := xs) (ys := [ch]) hown ⟨by simp; omega, by simp; omega, rfl⟩ rfl rfl rfl rfl inferInstance inferInstance (List.Perm.refl _) ?_
            intro w' o' hown'
            dsimp only [List.nil_append]
            repeat (first | (refine sty ?_; try intro _) | (refine st ?_; try intro _) | (refine stz ?_; try intro _) | (refine stq ?_; try intro _))
            refine G.ag (S := UhSt) ⟨j + 1, xs ++ [ch], w', o'⟩ (hpre := ⟨by dsimp only; omega, by rw [List.length_append, hxs]; rfl, hown', ?_⟩)
            rw [hu, Option.map_map]
            congr 1
            funext t
            simp
          · rw [if_neg (fun h => hnb h.2)] at hu
            rw [ea2] at hia
            rw [eb2] at hib
            clear ea ea2 eb2
            repeat (first | (refine sty ?_; try intro _) | (refine st ?_; try intro _) | (refine stz ?_; try intro _) | (refine stq ?_; try intro _))
            refine W.drawA 8 [dq _, dq _, dq _, dq _, dq _, dq _, dq _, dq _] [[], [], [0,1], [2], [], [], [5], [4,6]] [3, 7] (hrest := fun c => nrm ?_) (hops := by
              iterate 2 refine AllQ.aq ?_
              refine AllQ.mk (by intro c z0 Φr Lr K; refine nrm ?_; intro hK; refine o_ixG (2 * j) a rfl rfl rfl rfl rfl ha ?_; exact hK z0) ?_
              refine AllQ.mk (by intro c z0 Φr Lr K; refine nrm ?_; intro hK; refine o_callV rfl rfl rfl rfl hia rfl ?_; exact hK z0) ?_
              iterate 3 refine AllQ.aq ?_
              refine AllQ.mk (by intro c z0 Φr Lr K; refine nrm ?_; intro hK; refine o_ixG (2 * j + 1) b rfl rfl rfl rfl rfl hb ?_; exact hK z0) ?_
              exact AllQ.nil)
            repeat (first | (refine sty ?_; try intro _) | (refine st ?_; try intro _) | (refine stz ?_; try intro _) | (refine stq ?_; try intro _))
            refine o_callV rfl rfl rfl rfl hib rfl ?_
            repeat (first | (refine sty ?_; try intro _) | (refine st ?_; try intro _) | (refine stz ?_; try intro _) | (refine stq ?_; try intro _))
            rw [hu]
            refine G.retV ?_
            rfl
        · rw [if_neg (fun h => hna h.1)] at hu
          rw [ea2] at hia
          clear ea2
          generalize Lib.indexByte digsL b = xb at hib
          repeat (first | (refine sty ?_; try intro _) | (refine st ?_; try intro _) | (refine stz ?_; try intro _) | (refine stq ?_; try intro _))
          refine W.drawA 8 [dq _, dq _, dq _, dq _, dq _, dq _, dq _, dq _] [[], [], [0,1], [2], [], [], [5], [4,6]] [3, 7] (hrest := fun c => nrm ?_) (hops := by
            iterate 2 refine AllQ.aq ?_
            refine AllQ.mk (by intro c z0 Φr Lr K; refine nrm ?_; intro hK; refine o_ixG (2 * j) a rfl rfl rfl rfl rfl ha ?_; exact hK z0) ?_
            refine AllQ.mk (by intro c z0 Φr Lr K; refine nrm ?_; intro hK; refine o_callV rfl rfl rfl rfl hia rfl ?_; exact hK z0) ?_
            iterate 3 refine AllQ.aq ?_
            refine AllQ.mk (by intro c z0 Φr Lr K; refine nrm ?_; intro hK; refine o_ixG (2 * j + 1) b rfl rfl rfl rfl rfl hb ?_; exact hK z0) ?_
            exact AllQ.nil)
          repeat (first | (refine sty ?_; try intro _) | (refine st ?_; try intro _) | (refine stz ?_; try intro _) | (refine stq ?_; try intro _))
          refine o_callV rfl rfl rfl rfl hib rfl ?_
          repeat (first | (refine sty ?_; try intro _) | (refine st ?_; try intro _) | (refine stz ?_; try intro _) | (refine stq ?_; try intro _))
          rw [hu]
          refine G.retV ?_
          rfl
end Go.Rail
namespace Go.Rail
open Go Go.Proofs
set_option linter.unusedSimpArgs false
set_option linter.unusedVariables false
set_option maxHeartbeats 400000
set_option maxRecDepth 4000
attribute [local irreducible] OpK G W LW wpListIn Exit.then Exit.inBlock Post rounds opRun bodyPostM intOp
set_option maxHeartbeats 4000000
def namesL (k : Nat) : List (List UInt8 × Value) := (List.range k).map fun (i : Nat) => (nameL (UInt8.ofNat i), .int .i64 (i : Int))
theorem namesL_succ (k : Nat) : namesL (k + 1) = namesL k ++ [(nameL (UInt8.ofNat k), .int .i64 (k : Int))] := by simp [namesL, List.range_succ]
theorem getT_none (l : List (List UInt8 × Value)) (k : List UInt8) (h : (l.all fun e => decide (e.1 ≠ k)) = true) : getT l k = none := by
  induction l with
  | nil => rfl
  | cons e r ih =>
    simp only [List.all_cons, Bool.and_eq_true, decide_eq_true_eq] at h
    rw [getT, if_neg (fun e' => h.1 e'.symm)]
    exact ih (by simpa using h.2)
def allNames : List (List UInt8) := (List.range 256).map fun (i : Nat) => nameL (UInt8.ofNat i)
def fresh : List (List UInt8) → List (List UInt8) → Bool
  | _, [] => true
  | seen, n :: r => (seen.all fun m => decide (m ≠ n)) && fresh (seen ++ [n]) r
theorem fresh_all : fresh [] allNames = true := by kernel_rfl
theorem fresh_at : ∀ (r seen : List (List UInt8)) (i : Nat) (n : List UInt8), fresh seen r = true → r[i]? = some n → ((seen ++ r.take i).all fun m => decide (m ≠ n)) = true
  | [], _, _, _, _, h => by simp at h
  | a :: r, seen, 0, n, hf, h => by
    simp only [List.getElem?_cons_zero, Option.some.injEq] at h
    subst h
    simp only [fresh, Bool.and_eq_true] at hf
    rw [List.take_zero, List.append_nil]; exact hf.1
  | a :: r, seen, i + 1, n, hf, h => by
    simp only [fresh, Bool.and_eq_true] at hf
    have := fresh_at r (seen ++ [a]) i n hf.2 (by simpa using h)
    rwa [List.append_assoc] at this
theorem names_new (i : Nat) (h : i < 256) : getT (namesL i) (nameL (UInt8.ofNat i)) = none := by
  have := fresh_at allNames [] i (nameL (UInt8.ofNat i)) fresh_all (by simp [allNames, h])
  refine getT_none _ _ ?_
  rw [List.nil_append, allNames, ← List.map_take, List.take_range, show min i 256 = i from by omega, List.all_map] at this
  rw [namesL, List.all_map]
  exact this
def RMapT (l : List (List UInt8 × Value)) : Value → List Fa → Own → Prop := fun u Φ' M' => ∃ b, u = .map (some b) ∧ Φ' = [] ∧ M' = [(b, MapT l)]
theorem names_spec : Fn Tryd.prog 21 [] [] [] (RMapT (namesL 256)) := by
  refine Fn.enter Tryd.func21 rfl Tryd.ntmps21 (by simp) (fun I0 w0 => ?_)
  repeat (first | (refine sty ?_; try intro _) | (refine st ?_; try intro _) | (refine stz ?_; try intro _) | (refine stq ?_; try intro _))
  refine o_makeMapT rfl rfl ?_
  intro b
  repeat (first | (refine sty ?_; try intro _) | (refine st ?_; try intro _) | (refine stz ?_; try intro _) | (refine stq ?_; try intro _))
  refine W.lp (S := Nat) (fun i => ([], [(4, .int .i64 (i : Int)), (1, .map (some b))], [(b, MapT (namesL i))])) (fun i => i ≤ 256) (fun i => 256 - i) 0 ?_ (h0 := Nat.zero_le _)
  intro i hi
  dsimp only at hi ⊢
  by_cases hie : i = 256
  · subst hie
    repeat (first | (refine sty ?_; try intro _) | (refine st ?_; try intro _) | (refine stz ?_; try intro _) | (refine stq ?_; try intro _))
    exact G.ret rfl (.cons (.tmp rfl) .nil) (Φ' := []) (M' := [(b, MapT (namesL 256))]) inferInstance (List.Sublist.refl _) ⟨b, rfl, rfl, rfl⟩
  · have hn := name_spec (UInt8.ofNat i)
    have e : (UInt8.ofNat i).toNat = i := by rw [UInt8.toNat_ofNat']; omega
    rw [e] at hn
    have hnew := names_new i (by omega)
    have hs := namesL_succ i
    repeat (first | (refine sty ?_; try intro _) | (refine st ?_; try intro _) | (refine stz ?_; try intro _) | (refine stq ?_; try intro _))
    refine o_callV rfl rfl rfl rfl hn rfl ?_
    repeat (first | (refine sty ?_; try intro _) | (refine st ?_; try intro _) | (refine stz ?_; try intro _) | (refine stq ?_; try intro _))
    refine o_updT rfl rfl rfl rfl hnew ?_
    rw [← hs]
    repeat (first | (refine sty ?_; try intro _) | (refine st ?_; try intro _) | (refine stz ?_; try intro _) | (refine stq ?_; try intro _))
    exact G.ag (S := Nat) (i + 1) (hpre := by omega)
end Go.Rail
namespace Go.Rail
open Go Go.Proofs
set_option linter.unusedSimpArgs false
set_option linter.unusedVariables false
set_option maxHeartbeats 400000
set_option maxRecDepth 4000
attribute [local irreducible] OpK G W LW wpListIn Exit.then Exit.inBlock Post rounds opRun bodyPostM intOp
set_option maxHeartbeats 4000000
theorem pick14_spec (c n : Int) (h1 : -9223372036854775808 ≤ c) (hn : 0 < n) : FnV Tryd.prog 10 [.int .i64 c, .int .i64 n] [] (.int .i64 (pickI c n)) := by
  refine Fn.enter Tryd.func10 rfl Tryd.ntmps10 (by simp) (fun I0 w0 => ?_)
  unfold pickI
  by_cases hc : c < 0
  · rw [if_pos hc]
    repeat (first | (refine sty ?_; try intro _) | (refine st ?_; try intro _) | (refine stz ?_; try intro _) | (refine stq ?_; try intro _))
    refine G.retV ?_
    rfl
  · rw [if_neg hc]
    repeat (first | (refine sty ?_; try intro _) | (refine st ?_; try intro _) | (refine stz ?_; try intro _) | (refine stq ?_; try intro _))
    refine G.retV ?_
    rfl
theorem rbehind_spec (n : Nat) (hn : n < 256) : FnV Tryd.prog 19 [.int .u8 (n : Int)] [] (.int .i64 ((behN n : Nat) : Int)) := by
  refine Fn.enter Tryd.func19 rfl Tryd.ntmps19 (by simp) (fun I0 w0 => ?_)
  unfold behN
  by_cases h : 96 ≤ n ∧ n ≤ 127
  · rw [if_pos h]
    repeat (first | (refine sty ?_; try intro _) | (refine st ?_; try intro _) | (refine stz ?_; try intro _) | (refine stq ?_; try intro _))
    refine G.retV ?_
    refine congrArg (Value.int .i64) ?_
    omega
  · rw [if_neg h]
    by_cases h1 : 96 ≤ n
    · repeat (first | (refine sty ?_; try intro _) | (refine st ?_; try intro _) | (refine stz ?_; try intro _) | (refine stq ?_; try intro _))
      refine G.retV ?_
      rfl
    · repeat (first | (refine sty ?_; try intro _) | (refine st ?_; try intro _) | (refine stz ?_; try intro _) | (refine stq ?_; try intro _))
      refine G.retV ?_
      rfl
theorem takesI_succ {α : Type} {xs ys : List α} {i : Nat} (hx : i < xs.length) (hy : i < ys.length) (h : xs.take i = ys.take i) (e : xs[i] = ys[i]) : xs.take (i + 1) = ys.take (i + 1) := by
  rw [List.take_succ_eq_append_getElem hx, List.take_succ_eq_append_getElem hy, h, e]
theorem samei_spec (v u : Value) (xs ys : List Int) (hx : xs.length ≤ 1000000) : FnV Tryd.prog 14 [v, u] [fRp v xs, fRp u ys] (.bool (decide (xs = ys))) := by
  refine Fn.enter Tryd.func14 rfl Tryd.ntmps14 (by simp) (fun I0 w0 => ?_)
  by_cases hl : xs.length = ys.length
  case neg =>
    rw [decide_eq_false (fun h => hl (by rw [h]))]
    refine W.bare (G.slice v xs ?_); intro a1 c1 e1 k1; subst e1
    refine G.slice u ys ?_; intro a2 c2 e2 k2; subst e2
    refine G.code ?_
    repeat (first | (refine sty ?_; try intro _) | (refine st ?_; try intro _) | (refine stz ?_; try intro _) | (refine stq ?_; try intro _))
    refine G.retV ?_
    rfl
  refine W.bare (G.slice v xs ?_); intro a1 c1 e1 k1; subst e1
  refine G.slice u ys ?_; intro a2 c2 e2 k2; subst e2
  refine G.code ?_
  repeat (first | (refine sty ?_; try intro _) | (refine st ?_; try intro _) | (refine stz ?_; try intro _) | (refine stq ?_; try intro _))
  refine W.lp (fun (i : Nat) => ([fRp (.slice a1 xs.length c1) xs, fRp (.slice a2 ys.length c2) ys], [(0, .slice a1 xs.length c1), (1, .slice a2 ys.length c2), (5, .int .i64 (i : Int)), (4, .bool false)], [])) (fun i => i ≤ xs.length ∧ xs.take i = ys.take i) (fun i => xs.length - i) 0 ?_ (h0 := ⟨Nat.zero_le _, rfl⟩)
  rintro i ⟨hi, ht⟩
  dsimp only
  by_cases hd : i = xs.length
  · subst hd
    repeat (first | (refine sty ?_; try intro _) | (refine st ?_; try intro _) | (refine stz ?_; try intro _) | (refine stq ?_; try intro _))
    refine G.retV ?_
    rw [List.take_length, hl, List.take_length] at ht
    rw [decide_eq_true ht]; rfl
  · have hix : i < xs.length := by omega
    have hiy : i < ys.length := by omega
    by_cases hne : xs[i] = ys[i]
    · repeat (first | (refine sty ?_; try intro _) | (refine st ?_; try intro _) | (refine stz ?_; try intro _) | (refine stq ?_; try intro _))
      refine W.drawA 8 [dq _, dq _, dk _, dq _, dq _, dq _, dk _, dq _] [[], [], [0,1], [2], [], [], [4,5], [6]] [3, 7] (hrest := fun c => nrm ?_) (hops := by
        iterate 8 refine AllQ.aq ?_
        exact AllQ.nil)
      repeat (first | (refine sty ?_; try intro _) | (refine st ?_; try intro _) | (refine stz ?_; try intro _) | (refine stq ?_; try intro _))
      exact G.ag (i + 1) (hpre := ⟨by omega, takesI_succ hix hiy ht hne⟩)
    · rw [decide_eq_false (fun h => hne (by subst h; rfl))]
      repeat (first | (refine sty ?_; try intro _) | (refine st ?_; try intro _) | (refine stz ?_; try intro _) | (refine stq ?_; try intro _))
      refine W.drawA 8 [dq _, dq _, dk _, dq _, dq _, dq _, dk _, dq _] [[], [], [0,1], [2], [], [], [4,5], [6]] [3, 7] (hrest := fun c => nrm ?_) (hops := by
        iterate 8 refine AllQ.aq ?_
        exact AllQ.nil)
      repeat (first | (refine sty ?_; try intro _) | (refine st ?_; try intro _) | (refine stz ?_; try intro _) | (refine stq ?_; try intro _))
      refine G.retV ?_
      rfl
end Go.Rail
