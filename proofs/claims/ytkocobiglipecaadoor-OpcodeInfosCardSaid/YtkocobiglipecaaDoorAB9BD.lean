/- opcode.unhex: digits read. -/
import Derived.Test.YtkocobiglipecaaDoorAC15B8
import Derived.Test.YtkocobiglipecaaDoorRailI
namespace Go.Rail
open Go Go.Proofs
set_option linter.unusedSimpArgs false
set_option linter.unusedVariables false
set_option maxHeartbeats 400000
set_option maxRecDepth 4000
attribute [local irreducible] OpK G W LW wpListIn Exit.then Exit.inBlock Post rounds opRun bodyPostM intOp
set_option maxHeartbeats 4000000
/-- Pairs of digits, read. -/
def unhP : List UInt8 → Option (List UInt8)
  | [] => some []
  | [_] => none
  | a :: b :: r => if idxB digsL a < 16 ∧ idxB digsL b < 16 then (unhP r).map (UInt8.ofNat (16 * idxB digsL a + idxB digsL b) :: ·) else none
theorem unhP_odd : ∀ l : List UInt8, l.length % 2 = 1 → unhP l = none
  | [], h => by cases h
  | [_], _ => rfl
  | a :: b :: r, h => by
    have ih := unhP_odd r (by simp only [List.length_cons] at h; omega)
    unfold unhP; rw [ih]; split <;> rfl
def unhL (l : List UInt8) : Option (List UInt8) := if [48, 120].isPrefixOf l then unhP (l.drop 2) else none
theorem or4_all : ((List.range 16).all fun a => (List.range 16).all fun b => decide (bits .or .i64 ((16 * a : Nat) : Int) (b : Int) = ((16 * a + b : Nat) : Int))) = true := by kernel_rfl
theorem i_or4 (a b : Nat) (ha : a < 16) (hb : b < 16) : intOp .or .i64 ((16 * a : Nat) : Int) (b : Int) = some (.int .i64 ((16 * a + b : Nat) : Int)) := by
  have h := of_decide_eq_true (List.all_eq_true.1 (List.all_eq_true.1 or4_all a (List.mem_range.2 ha)) b (List.mem_range.2 hb))
  unfold intOp; exact congrArg (fun v => some (Value.int .i64 v)) h
theorem shl4_all : ((List.range 16).all fun a => decide (IntKind.i64.wrap ((a : Int) * 2 ^ (min (4 : Int).toNat IntKind.i64.bits)) = ((16 * a : Nat) : Int))) = true := by kernel_rfl
theorem i_shl4 (a : Nat) (ha : a < 16) : Value.int .i64 (IntKind.i64.wrap ((a : Int) * 2 ^ (min (4 : Int).toNat IntKind.i64.bits))) = .int .i64 ((16 * a : Nat) : Int) :=
  congrArg (Value.int .i64) (of_decide_eq_true (List.all_eq_true.1 shl4_all a (List.mem_range.2 ha)))
def unV (r : Option (List UInt8)) : Value := .tuple #[.string (ba (r.getD [])), .bool r.isSome]
structure UhSt where
  j : Nat
  xs : List UInt8
  w : Value
  o : OR
theorem unhP_step (r : List UInt8) (i : Nat) (a b : UInt8) (ha : r[i]? = some a) (hb : r[i + 1]? = some b) : unhP (r.drop i) = if idxB digsL a < 16 ∧ idxB digsL b < 16 then (unhP (r.drop (i + 2))).map (UInt8.ofNat (16 * idxB digsL a + idxB digsL b) :: ·) else none := by
  obtain ⟨h1, e1⟩ := List.getElem?_eq_some_iff.1 ha
  obtain ⟨h2, e2⟩ := List.getElem?_eq_some_iff.1 hb
  rw [List.drop_eq_getElem_cons h1, List.drop_eq_getElem_cons h2, e1, e2]
  conv => lhs; unfold unhP
theorem idx_dig (a : UInt8) : (∃ x, x < 16 ∧ idxB digsL a = x ∧ Lib.indexByte digsL a = (x : Int)) ∨ (¬ idxB digsL a < 16 ∧ Lib.indexByte digsL a = -1) := by
  rw [indexByte_eq, show digsL.length = 16 from rfl]
  by_cases h : idxB digsL a < 16
  · exact .inl ⟨_, h, rfl, by rw [if_pos h]⟩
  · exact .inr ⟨h, by rw [if_neg h]⟩
theorem unhex_spec (l : List UInt8) (hl : l.length ≤ 1000000) : FnV Tryd.prog 39 [.string (ba l)] [] (unV (unhL l)) := by
  have hcp := sCutPrefix_spec l [48, 120] (by omega)
  have hd : (if [48, 120].isPrefixOf l then l.drop ([48, 120] : List UInt8).length else l).length ≤ l.length := by split <;> simp
  unfold unhL unV
  refine Fn.enter Tryd.func39 rfl Tryd.ntmps39 (by simp) (fun I0 w0 => ?_)
  cases hp : [48, 120].isPrefixOf l with
  | false =>
    rw [hp] at hcp
    repeat (first | (refine sty ?_; try intro _) | (refine st ?_; try intro _) | (refine stz ?_; try intro _) | (refine stq ?_; try intro _))
    refine o_callV rfl rfl rfl rfl hcp rfl ?_
    repeat (first | (refine sty ?_; try intro _) | (refine st ?_; try intro _) | (refine stz ?_; try intro _) | (refine stq ?_; try intro _))
    refine G.retV ?_
    rfl
  | true =>
    rw [hp, if_pos rfl] at hcp
    rw [if_pos rfl]
    have hlr : (l.drop 2).length ≤ l.length := by simp
    change FnV _ _ _ _ (.tuple #[.string (ba (l.drop 2)), _]) at hcp
    generalize l.drop 2 = r at hcp hlr ⊢
    by_cases hodd : r.length % 2 = 1
    · rw [unhP_odd r hodd]
      repeat (first | (refine sty ?_; try intro _) | (refine st ?_; try intro _) | (refine stz ?_; try intro _) | (refine stq ?_; try intro _))
      refine o_callV rfl rfl rfl rfl hcp rfl ?_
      repeat (first | (refine sty ?_; try intro _) | (refine st ?_; try intro _) | (refine stz ?_; try intro _) | (refine stq ?_; try intro _))
      refine G.retV ?_
      rfl
    · repeat (first | (refine sty ?_; try intro _) | (refine st ?_; try intro _) | (refine stz ?_; try intro _) | (refine stq ?_; try intro _))
      refine o_callV rfl rfl rfl rfl hcp rfl ?_
      repeat (first | (refine sty ?_; try intro _) | (refine st ?_; try intro _) | (refine stz ?_; try intro _) | (refine stq ?_; try intro _))
      refine W.lp (S := UhSt) (fun s => ([fRow (ocells s.o) s.xs], [(6, .int .i64 ((2 * s.j : Nat) : Int)), (5, s.w), (0, .string (ba r))], ownM 5 s.o)) (fun s => 2 * s.j ≤ r.length ∧ s.xs.length = s.j ∧ IsOwn 1 s.w s.xs.length s.o ∧ unhP r = (unhP (r.drop (2 * s.j))).map (s.xs ++ ·)) (fun s => r.length - 2 * s.j) ⟨0, [], .slice none 0 0, none⟩ ?_ (h0 := ⟨Nat.zero_le _, rfl, ⟨rfl, rfl⟩, by simp⟩)
      rintro ⟨j, xs, w, o⟩ ⟨hj, hxs, hown, hu⟩
      dsimp only at hj hxs hown hu ⊢
      by_cases hje : 2 * j = r.length
      · rw [hje, List.drop_length] at hu
        change unhP r = some (xs ++ []) at hu
        rw [List.append_nil] at hu
        rw [hu]
        refine W.bare (G.giveOwn2 (Mr := []) w xs o 5 hown inferInstance (List.Perm.refl _) ?_)
        refine G.code ?_
        repeat (first | (refine sty ?_; try intro _) | (refine st ?_; try intro _) | (refine stz ?_; try intro _) | (refine stq ?_; try intro _))
        refine G.retV ?_
        rfl
      · obtain ⟨a, ha⟩ : ∃ a, r[2 * j]? = some a := ⟨_, List.getElem?_eq_getElem (by omega)⟩
        obtain ⟨b, hb⟩ : ∃ b, r[2 * j + 1]? = some b := ⟨_, List.getElem?_eq_getElem (by omega)⟩
        rw [unhP_step r (2 * j) a b ha hb] at hu
        have hia := sIndexByte_spec digsL a
        have hib := sIndexByte_spec digsL b
        rcases idx_dig a with ⟨xa, hxa, ea, ea2⟩ | ⟨hna, ea2⟩
        · rcases idx_dig b with ⟨xb, hxb, eb, eb2⟩ | ⟨hnb, eb2⟩
          · rw [ea, eb, if_pos ⟨hxa, hxb⟩] at hu
            rw [ea2] at hia
            rw [eb2] at hib
            clear ea ea2 eb eb2
            repeat (first | (refine sty ?_; try intro _) | (refine st ?_; try intro _) | (refine stz ?_; try intro _) | (refine stq ?_; try intro _))
            refine W.drawA 8 [dq _, dq _, dq _, dq _, dq _, dq _, dq _, dq _] [[], [], [0,1], [2], [], [], [5], [4,6]] [3, 7] (hrest := fun c => nrm ?_) (hops := by
              iterate 2 refine AllQ.aq ?_
              refine AllQ.mk (by intro c z0 Φr Lr K; refine nrm ?_; intro hK; refine o_ixG (2 * j) a rfl rfl rfl rfl rfl ha ?_; exact hK z0) ?_
              refine AllQ.mk (by intro c z0 Φr Lr K; refine nrm ?_; intro hK; refine o_callV rfl rfl rfl rfl hia rfl ?_; exact hK z0) ?_
              iterate 3 refine AllQ.aq ?_
              refine AllQ.mk (by intro c z0 Φr Lr K; refine nrm ?_; intro hK; refine o_ixG (2 * j + 1) b rfl rfl rfl rfl rfl hb ?_; exact hK z0) ?_
              exact AllQ.nil)
            repeat (first | (refine sty ?_; try intro _) | (refine st ?_; try intro _) | (refine stz ?_; try intro _) | (refine stq ?_; try intro _))
            refine o_callV rfl rfl rfl rfl hib rfl ?_
            repeat (first | (refine sty ?_; try intro _) | (refine st ?_; try intro _) | (refine stz ?_; try intro _) | (refine stq ?_; try intro _))
            refine o_shl rfl rfl rfl rfl (by decide) (i_shl4 xa hxa) ?_
            repeat (first | (refine sty ?_; try intro _) | (refine st ?_; try intro _) | (refine stz ?_; try intro _) | (refine stq ?_; try intro _))
            refine o_int rfl rfl rfl rfl (i_or4 xa xb hxa hxb) ?_
            have e8 : (UInt8.ofNat (16 * xa + xb)).toNat = 16 * xa + xb := by rw [UInt8.toNat_ofNat']; omega
            generalize UInt8.ofNat (16 * xa + xb) = ch at hu e8
            rw [← e8]
            repeat (first | (refine sty ?_; try intro _) | (refine st ?_; try intro _) | (refine stz ?_; try intro _) | (refine stq ?_; try intro _))
            refine o_app2 (Mr := []) o (xs := xs) (ys := [ch]) hown ⟨by simp; omega, by simp; omega, rfl⟩ rfl rfl rfl rfl inferInstance inferInstance (List.Perm.refl _) ?_
            intro w' o' hown'
            dsimp only [List.nil_append]
            repeat (first | (refine sty ?_; try intro _) | (refine st ?_; try intro _) | (refine stz ?_; try intro _) | (refine stq ?_; try intro _))
            refine G.ag (S := UhSt) ⟨j + 1, xs ++ [ch], w', o'⟩ (hpre := ⟨by dsimp only; omega, by rw [List.length_append, hxs]; rfl, hown', ?_⟩)
            rw [hu, Option.map_map]
            congr 1
            funext t
            simp
          · rw [if_neg (fun h => hnb h.2)] at hu
            rw [ea2] at hia
            rw [eb2] at hib
            clear ea ea2 eb2
            repeat (first | (refine sty ?_; try intro _) | (refine st ?_; try intro _) | (refine stz ?_; try intro _) | (refine stq ?_; try intro _))
            refine W.drawA 8 [dq _, dq _, dq _, dq _, dq _, dq _, dq _, dq _] [[], [], [0,1], [2], [], [], [5], [4,6]] [3, 7] (hrest := fun c => nrm ?_) (hops := by
              iterate 2 refine AllQ.aq ?_
              refine AllQ.mk (by intro c z0 Φr Lr K; refine nrm ?_; intro hK; refine o_ixG (2 * j) a rfl rfl rfl rfl rfl ha ?_; exact hK z0) ?_
              refine AllQ.mk (by intro c z0 Φr Lr K; refine nrm ?_; intro hK; refine o_callV rfl rfl rfl rfl hia rfl ?_; exact hK z0) ?_
              iterate 3 refine AllQ.aq ?_
              refine AllQ.mk (by intro c z0 Φr Lr K; refine nrm ?_; intro hK; refine o_ixG (2 * j + 1) b rfl rfl rfl rfl rfl hb ?_; exact hK z0) ?_
              exact AllQ.nil)
            repeat (first | (refine sty ?_; try intro _) | (refine st ?_; try intro _) | (refine stz ?_; try intro _) | (refine stq ?_; try intro _))
            refine o_callV rfl rfl rfl rfl hib rfl ?_
            repeat (first | (refine sty ?_; try intro _) | (refine st ?_; try intro _) | (refine stz ?_; try intro _) | (refine stq ?_; try intro _))
            rw [hu]
            refine G.retV ?_
            rfl
        · rw [if_neg (fun h => hna h.1)] at hu
          rw [ea2] at hia
          clear ea2
          generalize Lib.indexByte digsL b = xb at hib
          repeat (first | (refine sty ?_; try intro _) | (refine st ?_; try intro _) | (refine stz ?_; try intro _) | (refine stq ?_; try intro _))
          refine W.drawA 8 [dq _, dq _, dq _, dq _, dq _, dq _, dq _, dq _] [[], [], [0,1], [2], [], [], [5], [4,6]] [3, 7] (hrest := fun c => nrm ?_) (hops := by
            iterate 2 refine AllQ.aq ?_
            refine AllQ.mk (by intro c z0 Φr Lr K; refine nrm ?_; intro hK; refine o_ixG (2 * j) a rfl rfl rfl rfl rfl ha ?_; exact hK z0) ?_
            refine AllQ.mk (by intro c z0 Φr Lr K; refine nrm ?_; intro hK; refine o_callV rfl rfl rfl rfl hia rfl ?_; exact hK z0) ?_
            iterate 3 refine AllQ.aq ?_
            refine AllQ.mk (by intro c z0 Φr Lr K; refine nrm ?_; intro hK; refine o_ixG (2 * j + 1) b rfl rfl rfl rfl rfl hb ?_; exact hK z0) ?_
            exact AllQ.nil)
          repeat (first | (refine sty ?_; try intro _) | (refine st ?_; try intro _) | (refine stz ?_; try intro _) | (refine stq ?_; try intro _))
          refine o_callV rfl rfl rfl rfl hib rfl ?_
          repeat (first | (refine sty ?_; try intro _) | (refine st ?_; try intro _) | (refine stz ?_; try intro _) | (refine stq ?_; try intro _))
          rw [hu]
          refine G.retV ?_
          rfl
end Go.Rail
namespace Go.Rail
open Go Go.Proofs
set_option linter.unusedSimpArgs false
set_option linter.unusedVariables false
set_option maxHeartbeats 400000
set_option maxRecDepth 4000
attribute [local irreducible] OpK G W LW wpListIn Exit.then Exit.inBlock Post rounds opRun bodyPostM intOp
set_option maxHeartbeats 4000000
def namesL (k : Nat) : List (List UInt8 × Value) := (List.range k).map fun (i : Nat) => (nameL (UInt8.ofNat i), .int .i64 (i : Int))
theorem namesL_succ (k : Nat) : namesL (k + 1) = namesL k ++ [(nameL (UInt8.ofNat k), .int .i64 (k : Int))] := by simp [namesL, List.range_succ]
theorem getT_none (l : List (List UInt8 × Value)) (k : List UInt8) (h : (l.all fun e => decide (e.1 ≠ k)) = true) : getT l k = none := by
  induction l with
  | nil => rfl
  | cons e r ih =>
    simp only [List.all_cons, Bool.and_eq_true, decide_eq_true_eq] at h
    rw [getT, if_neg (fun e' => h.1 e'.symm)]
    exact ih (by simpa using h.2)
def allNames : List (List UInt8) := (List.range 256).map fun (i : Nat) => nameL (UInt8.ofNat i)
def fresh : List (List UInt8) → List (List UInt8) → Bool
  | _, [] => true
  | seen, n :: r => (seen.all fun m => decide (m ≠ n)) && fresh (seen ++ [n]) r
theorem fresh_all : fresh [] allNames = true := by kernel_rfl
theorem fresh_at : ∀ (r seen : List (List UInt8)) (i : Nat) (n : List UInt8), fresh seen r = true → r[i]? = some n → ((seen ++ r.take i).all fun m => decide (m ≠ n)) = true
  | [], _, _, _, _, h => by simp at h
  | a :: r, seen, 0, n, hf, h => by
    simp only [List.getElem?_cons_zero, Option.some.injEq] at h
    subst h
    simp only [fresh, Bool.and_eq_true] at hf
    rw [List.take_zero, List.append_nil]; exact hf.1
  | a :: r, seen, i + 1, n, hf, h => by
    simp only [fresh, Bool.and_eq_true] at hf
    have := fresh_at r (seen ++ [a]) i n hf.2 (by simpa using h)
    rwa [List.append_assoc] at this
theorem names_new (i : Nat) (h : i < 256) : getT (namesL i) (nameL (UInt8.ofNat i)) = none := by
  have := fresh_at allNames [] i (nameL (UInt8.ofNat i)) fresh_all (by simp [allNames, h])
  refine getT_none _ _ ?_
  rw [List.nil_append, allNames, ← List.map_take, List.take_range, show min i 256 = i from by omega, List.all_map] at this
  rw [namesL, List.all_map]
  exact this
def RMapT (l : List (List UInt8 × Value)) : Value → List Fa → Own → Prop := fun u Φ' M' => ∃ b, u = .map (some b) ∧ Φ' = [] ∧ M' = [(b, MapT l)]
theorem names_spec : Fn Tryd.prog 21 [] [] [] (RMapT (namesL 256)) := by
  refine Fn.enter Tryd.func21 rfl Tryd.ntmps21 (by simp) (fun I0 w0 => ?_)
  repeat (first | (refine sty ?_; try intro _) | (refine st ?_; try intro _) | (refine stz ?_; try intro _) | (refine stq ?_; try intro _))
  refine o_makeMapT rfl rfl ?_
  intro b
  repeat (first | (refine sty ?_; try intro _) | (refine st ?_; try intro _) | (refine stz ?_; try intro _) | (refine stq ?_; try intro _))
  refine W.lp (S := Nat) (fun i => ([], [(4, .int .i64 (i : Int)), (1, .map (some b))], [(b, MapT (namesL i))])) (fun i => i ≤ 256) (fun i => 256 - i) 0 ?_ (h0 := Nat.zero_le _)
  intro i hi
  dsimp only at hi ⊢
  by_cases hie : i = 256
  · subst hie
    repeat (first | (refine sty ?_; try intro _) | (refine st ?_; try intro _) | (refine stz ?_; try intro _) | (refine stq ?_; try intro _))
    exact G.ret rfl (.cons (.tmp rfl) .nil) (Φ' := []) (M' := [(b, MapT (namesL 256))]) inferInstance (List.Sublist.refl _) ⟨b, rfl, rfl, rfl⟩
  · have hn := name_spec (UInt8.ofNat i)
    have e : (UInt8.ofNat i).toNat = i := by rw [UInt8.toNat_ofNat']; omega
    rw [e] at hn
    have hnew := names_new i (by omega)
    have hs := namesL_succ i
    repeat (first | (refine sty ?_; try intro _) | (refine st ?_; try intro _) | (refine stz ?_; try intro _) | (refine stq ?_; try intro _))
    refine o_callV rfl rfl rfl rfl hn rfl ?_
    repeat (first | (refine sty ?_; try intro _) | (refine st ?_; try intro _) | (refine stz ?_; try intro _) | (refine stq ?_; try intro _))
    refine o_updT rfl rfl rfl rfl hnew ?_
    rw [← hs]
    repeat (first | (refine sty ?_; try intro _) | (refine st ?_; try intro _) | (refine stz ?_; try intro _) | (refine stq ?_; try intro _))
    exact G.ag (S := Nat) (i + 1) (hpre := by omega)
end Go.Rail
namespace Go.Rail
open Go Go.Proofs
set_option linter.unusedSimpArgs false
set_option linter.unusedVariables false
set_option maxHeartbeats 400000
set_option maxRecDepth 4000
attribute [local irreducible] OpK G W LW wpListIn Exit.then Exit.inBlock Post rounds opRun bodyPostM intOp
set_option maxHeartbeats 4000000
theorem pick14_spec (c n : Int) (h1 : -9223372036854775808 ≤ c) (hn : 0 < n) : FnV Tryd.prog 10 [.int .i64 c, .int .i64 n] [] (.int .i64 (pickI c n)) := by
  refine Fn.enter Tryd.func10 rfl Tryd.ntmps10 (by simp) (fun I0 w0 => ?_)
  unfold pickI
  by_cases hc : c < 0
  · rw [if_pos hc]
    repeat (first | (refine sty ?_; try intro _) | (refine st ?_; try intro _) | (refine stz ?_; try intro _) | (refine stq ?_; try intro _))
    refine G.retV ?_
    rfl
  · rw [if_neg hc]
    repeat (first | (refine sty ?_; try intro _) | (refine st ?_; try intro _) | (refine stz ?_; try intro _) | (refine stq ?_; try intro _))
    refine G.retV ?_
    rfl
end Go.Rail
namespace Go.Rail
open Go Go.Proofs
set_option linter.unusedSimpArgs false
set_option linter.unusedVariables false
set_option maxHeartbeats 400000
set_option maxRecDepth 4000
attribute [local irreducible] OpK G W LW wpListIn Exit.then Exit.inBlock Post rounds opRun bodyPostM intOp
set_option maxHeartbeats 4000000
/-- The number that bears a name. -/
def numN (k : List UInt8) : Option Nat := (List.range 256).find? fun i => decide (k = nameL (UInt8.ofNat i))
theorem getT_find (r : List Nat) (k : List UInt8) : getT (r.map fun (i : Nat) => (nameL (UInt8.ofNat i), Value.int .i64 (i : Int))) k = (r.find? fun i => decide (k = nameL (UInt8.ofNat i))).map fun (i : Nat) => Value.int .i64 (i : Int) := by
  induction r with
  | nil => rfl
  | cons a r ih =>
    rw [List.map_cons, getT, List.find?_cons, ih]
    by_cases h : k = nameL (UInt8.ofNat a)
    · rw [if_pos h, decide_eq_true h]; rfl
    · rw [if_neg h, decide_eq_false h]
theorem getT_num (k : List UInt8) : getT (namesL 256) k = (numN k).map fun (i : Nat) => Value.int .i64 (i : Int) := getT_find _ _
theorem numN_lt (k : List UInt8) (n : Nat) (h : numN k = some n) : n < 256 := List.mem_range.1 (List.mem_of_find?_eq_some h)
def lineR (l : List UInt8) (last : Bool) : List UInt8 × Int :=
  match numN (cutB l 32).1 with
  | none => ([], 42)
  | some n =>
    if behN n = 0 then (if (cutB l 32).2.2 then ([], 3) else ([UInt8.ofNat n], 0))
    else match unhL (cutB l 32).2.1 with
      | none => ([], 3)
      | some r => if behN n < r.length ∨ (r.length < behN n ∧ last = false) then ([], 3) else ([UInt8.ofNat n] ++ r, 0)
def RLine (b : Nat) (p : List UInt8 × Int) : Value → List Fa → Own → Prop := fun u Φ' M' => u = .tuple #[.string (ba p.1), .int .i64 p.2] ∧ Φ' = [] ∧ M' = [(b, MapT (namesL 256))]
theorem line_spec (b : Nat) (l : List UInt8) (last : Bool) (hl : l.length ≤ 1000000) : Fn Tryd.prog 22 [.string (ba l), .map (some b), .bool last] [] [(b, MapT (namesL 256))] (RLine b (lineR l last)) := by
  have hc := sCut_spec l 32 (by omega)
  have hl2 : (cutB l 32).2.1.length ≤ l.length := by unfold cutB; split <;> simp
  unfold lineR
  unfold cutV at hc
  obtain ⟨⟨k, r, o⟩, hk⟩ : ∃ p, p = cutB l 32 := ⟨_, rfl⟩
  rw [← hk] at hc hl2 ⊢
  dsimp only at hc hl2 ⊢
  have hg := getT_num k
  refine Fn.enter Tryd.func22 rfl Tryd.ntmps22 (by simp) (fun I0 w0 => ?_)
  repeat (first | (refine sty ?_; try intro _) | (refine st ?_; try intro _) | (refine stz ?_; try intro _) | (refine stq ?_; try intro _))
  refine o_callV rfl rfl rfl rfl hc rfl ?_
  repeat (first | (refine sty ?_; try intro _) | (refine st ?_; try intro _) | (refine stz ?_; try intro _) | (refine stq ?_; try intro _))
  cases hn : numN k with
  | none =>
    rw [hn] at hg
    refine o_lookT (l := namesL 256) rfl rfl rfl rfl (by simp) (by rw [hg]) (by rw [hg]) ?_
    repeat (first | (refine sty ?_; try intro _) | (refine st ?_; try intro _) | (refine stz ?_; try intro _) | (refine stq ?_; try intro _))
    exact G.ret rfl (.cons (.tmp rfl) (.cons (.tmp rfl) .nil)) (Φ' := []) (M' := [(b, MapT (namesL 256))]) inferInstance (List.Sublist.refl _) ⟨rfl, rfl, rfl⟩
  | some n =>
    rw [hn] at hg
    have hn256 := numN_lt k n hn
    have hbh := behind_spec n hn256
    refine o_lookT (l := namesL 256) (is := true) (v := .int .i64 (n : Int)) rfl rfl rfl rfl (by simp) (by rw [hg]; rfl) (by rw [hg]; rfl) ?_
    repeat (first | (refine sty ?_; try intro _) | (refine st ?_; try intro _) | (refine stz ?_; try intro _) | (refine stq ?_; try intro _))
    have e8 : (UInt8.ofNat n).toNat = n := by rw [UInt8.toNat_ofNat']; omega
    generalize UInt8.ofNat n = ch at e8 ⊢
    subst e8
    refine W.drawA 7 [dq _, dq _, dk fun _ z => fRp z [ch], dq _, dq _, dq _, dq _] [[], [0], [1], [2], [], [4], [5]] [3, 6] (hrest := fun c => nrm ?_) (hops := by
      iterate 2 refine AllQ.aq ?_
      refine AllQ.mk (by intro c z0 Φr Lr K; refine nrm ?_; intro hK; (first | refine sty ?_ | refine st ?_ | refine stz ?_ | refine stq ?_); intro p; exact hK p) ?_
      iterate 3 refine AllQ.aq ?_
      refine AllQ.mk (by intro c z0 Φr Lr K; refine nrm ?_; intro hK; refine o_callV rfl rfl rfl rfl hbh rfl ?_; exact hK z0) ?_
      exact AllQ.nil)
    have hx := unhex_spec r (by omega)
    by_cases h0 : behN ch.toNat = 0
    · rw [if_pos h0]
      cases o with
      | true =>
        repeat (first | (refine sty ?_; try intro _) | (refine st ?_; try intro _) | (refine stz ?_; try intro _) | (refine stq ?_; try intro _))
        exact G.ret rfl (.cons (.tmp rfl) (.cons (.tmp rfl) .nil)) (Φ' := []) (M' := [(b, MapT (namesL 256))]) inferInstance (List.Sublist.refl _) ⟨rfl, rfl, rfl⟩
      | false =>
        repeat (first | (refine sty ?_; try intro _) | (refine st ?_; try intro _) | (refine stz ?_; try intro _) | (refine stq ?_; try intro _))
        exact G.ret rfl (.cons (.tmp rfl) (.cons (.tmp rfl) .nil)) (Φ' := []) (M' := [(b, MapT (namesL 256))]) inferInstance (List.Sublist.refl _) ⟨by rw [UInt8.ofNat_toNat]; rfl, rfl, rfl⟩
    · rw [if_neg h0]
      have hb32 := behN_le ch.toNat
      generalize behN ch.toNat = m at h0 hb32 ⊢
      repeat (first | (refine sty ?_; try intro _) | (refine st ?_; try intro _) | (refine stz ?_; try intro _) | (refine stq ?_; try intro _))
      unfold unV at hx
      cases hu : unhL r with
      | none =>
        rw [hu] at hx
        refine o_callV rfl rfl rfl rfl hx rfl ?_
        repeat (first | (refine sty ?_; try intro _) | (refine st ?_; try intro _) | (refine stz ?_; try intro _) | (refine stq ?_; try intro _))
        exact G.ret rfl (.cons (.tmp rfl) (.cons (.tmp rfl) .nil)) (Φ' := []) (M' := [(b, MapT (namesL 256))]) inferInstance (List.Sublist.refl _) ⟨rfl, rfl, rfl⟩
      | some t =>
        rw [hu] at hx
        dsimp only [Option.getD_some, Option.isSome_some] at hx
        dsimp only
        by_cases h1 : m < t.length
        · rw [if_pos (Or.inl h1)]
          refine o_callV rfl rfl rfl rfl hx rfl ?_
          repeat (first | (refine sty ?_; try intro _) | (refine st ?_; try intro _) | (refine stz ?_; try intro _) | (refine stq ?_; try intro _))
          exact G.ret rfl (.cons (.tmp rfl) (.cons (.tmp rfl) .nil)) (Φ' := []) (M' := [(b, MapT (namesL 256))]) inferInstance (List.Sublist.refl _) ⟨rfl, rfl, rfl⟩
        · by_cases h2 : t.length < m
          · cases last with
            | false =>
              rw [if_pos (Or.inr ⟨h2, rfl⟩)]
              refine o_callV rfl rfl rfl rfl hx rfl ?_
              repeat (first | (refine sty ?_; try intro _) | (refine st ?_; try intro _) | (refine stz ?_; try intro _) | (refine stq ?_; try intro _))
              exact G.ret rfl (.cons (.tmp rfl) (.cons (.tmp rfl) .nil)) (Φ' := []) (M' := [(b, MapT (namesL 256))]) inferInstance (List.Sublist.refl _) ⟨rfl, rfl, rfl⟩
            | true =>
              rw [if_neg (by simp; omega)]
              refine o_callV rfl rfl rfl rfl hx rfl ?_
              repeat (first | (refine sty ?_; try intro _) | (refine st ?_; try intro _) | (refine stz ?_; try intro _) | (refine stq ?_; try intro _))
              exact G.ret rfl (.cons (.tmp rfl) (.cons (.tmp rfl) .nil)) (Φ' := []) (M' := [(b, MapT (namesL 256))]) inferInstance (List.Sublist.refl _) ⟨by rw [UInt8.ofNat_toNat]; rfl, rfl, rfl⟩
          · rw [if_neg (by omega)]
            refine o_callV rfl rfl rfl rfl hx rfl ?_
            repeat (first | (refine sty ?_; try intro _) | (refine st ?_; try intro _) | (refine stz ?_; try intro _) | (refine stq ?_; try intro _))
            exact G.ret rfl (.cons (.tmp rfl) (.cons (.tmp rfl) .nil)) (Φ' := []) (M' := [(b, MapT (namesL 256))]) inferInstance (List.Sublist.refl _) ⟨by rw [UInt8.ofNat_toNat]; rfl, rfl, rfl⟩
end Go.Rail
