/- frame.acts: the table. -/
import Derived.Test.YtpbbjkbackiljaaGreatDoorAK4P1
import Derived.Test.YtpbbjkbackiljaaGreatDoorRailJ
set_option linter.unusedSimpArgs false
set_option linter.unusedVariables false
namespace Go.Rail
open Go Go.Proofs
set_option maxHeartbeats 400000
set_option maxRecDepth 4000
attribute [local irreducible] OpK G W LW wpListIn Exit.then Exit.inBlock Post rounds opRun bodyPostM intOp
set_option maxHeartbeats 4000000
def actsT (c : Nat → Nat) : List (Int × Value) :=
  [(0, .agg #[.func (.func 94) #[] #[], .nilFunc, .nilFunc]),
   (32, .agg #[.func (.func 95) #[] #[], .func (.func 185) #[] #[.pointer (some ⟨c 0, 0, none⟩), .pointer (some ⟨c 1, 0, none⟩)], .func (.func 187) #[] #[.pointer (some ⟨c 2, 0, none⟩), .pointer (some ⟨c 3, 0, none⟩)]]),
   (53, .agg #[.func (.func 99) #[] #[], .nilFunc, .nilFunc]),
   (54, .agg #[.func (.func 100) #[] #[], .nilFunc, .nilFunc]),
   (55, .agg #[.func (.func 102) #[] #[], .func (.func 185) #[] #[.pointer (some ⟨c 4, 0, none⟩), .pointer (some ⟨c 5, 0, none⟩)], .func (.func 187) #[] #[.pointer (some ⟨c 6, 0, none⟩), .pointer (some ⟨c 7, 0, none⟩)]]),
   (56, .agg #[.func (.func 105) #[] #[], .nilFunc, .nilFunc]),
   (57, .agg #[.func (.func 106) #[] #[], .func (.func 185) #[] #[.pointer (some ⟨c 8, 0, none⟩), .pointer (some ⟨c 9, 0, none⟩)], .func (.func 187) #[] #[.pointer (some ⟨c 10, 0, none⟩), .pointer (some ⟨c 11, 0, none⟩)]]),
   (61, .agg #[.func (.func 107) #[] #[], .nilFunc, .nilFunc]),
   (62, .agg #[.func (.func 108) #[] #[], .func (.func 185) #[] #[.pointer (some ⟨c 12, 0, none⟩), .pointer (some ⟨c 13, 0, none⟩)], .func (.func 187) #[] #[.pointer (some ⟨c 14, 0, none⟩), .pointer (some ⟨c 15, 0, none⟩)]]),
   (81, .agg #[.func (.func 109) #[] #[], .nilFunc, .func (.func 190) #[] #[.pointer (some ⟨c 16, 0, none⟩)]]),
   (82, .agg #[.func (.func 112) #[] #[], .nilFunc, .func (.func 190) #[] #[.pointer (some ⟨c 17, 0, none⟩)]]),
   (83, .agg #[.func (.func 114) #[] #[], .nilFunc, .func (.func 190) #[] #[.pointer (some ⟨c 18, 0, none⟩)]]),
   (86, .agg #[.func (.func 115) #[] #[], .nilFunc, .nilFunc]),
   (87, .agg #[.func (.func 116) #[] #[], .nilFunc, .nilFunc]),
   (88, .agg #[.func (.func 117) #[] #[], .nilFunc, .nilFunc]),
   (89, .agg #[.func (.func 118) #[] #[], .nilFunc, .nilFunc]),
   (90, .agg #[.func (.func 119) #[] #[], .nilFunc, .nilFunc]),
   (91, .agg #[.func (.func 120) #[] #[], .nilFunc, .nilFunc]),
   (243, .agg #[.func (.func 121) #[] #[], .nilFunc, .func (.func 187) #[] #[.pointer (some ⟨c 19, 0, none⟩), .pointer (some ⟨c 20, 0, none⟩)]]),
   (253, .agg #[.func (.func 123) #[] #[], .nilFunc, .func (.func 187) #[] #[.pointer (some ⟨c 21, 0, none⟩), .pointer (some ⟨c 22, 0, none⟩)]])]
abbrev actsF (c : Nat → Nat) : List Fa :=
  [fBlk (c 21) [.int .i64 0] 3, fBlk (c 22) [.int .i64 1] 3,
   fBlk (c 19) [.int .i64 0] 3, fBlk (c 20) [.int .i64 1] 3,
   fBlk (c 18) [.int .i64 1] 3,
   fBlk (c 17) [.int .i64 32] 3,
   fBlk (c 16) [.int .i64 32] 3,
   fBlk (c 14) [.int .i64 0] 3, fBlk (c 15) [.int .i64 2] 3,
   fBlk (c 12) [.func (.func 104) #[] #[]] 107, fBlk (c 13) [.int .i64 2] 3,
   fBlk (c 10) [.int .i64 0] 3, fBlk (c 11) [.int .i64 2] 3,
   fBlk (c 8) [.func (.func 104) #[] #[]] 107, fBlk (c 9) [.int .i64 2] 3,
   fBlk (c 6) [.int .i64 0] 3, fBlk (c 7) [.int .i64 2] 3,
   fBlk (c 4) [.func (.func 104) #[] #[]] 107, fBlk (c 5) [.int .i64 2] 3,
   fBlk (c 2) [.int .i64 0] 3, fBlk (c 3) [.int .i64 1] 3,
   fBlk (c 0) [.func (.func 97) #[] #[]] 107, fBlk (c 1) [.int .i64 1] 3]
def cOf (l : List Nat) (i : Nat) : Nat := l.getD i 0
theorem acts_spec : Fn Tryz.prog 60 [] [] [] (fun u Φ' M' => ∃ b l, u = .map (some b) ∧ Φ' = fObj b (MapV (actsT (cOf l))) :: actsF (cOf l) ∧ M' = []) := by
  refine Fn.enter Tryz.func60 rfl Tryz.ntmps60 (by simp) (fun I0 w0 => ?_)
  repeat (first | (refine sty ?_; try intro _) | (refine st ?_; try intro _) | (refine stz ?_; try intro _) | (refine stq ?_; try intro _))
  refine o_makeMapV rfl rfl ?_
  intro b
  repeat (first
    | (refine st ?_; try intro _)
    | refine o_insV rfl rfl rfl rfl (by kernel_rfl) ?_
    | (refine OpK.call rfl rfl rfl rfl (fof_spec _ _) inferInstance (Mr := _) (List.Perm.refl _) ?_; rintro _ _ _ ⟨_, _, rfl, rfl, rfl⟩; dsimp only [List.cons_append, List.nil_append, List.append_nil])
    | (refine OpK.call rfl rfl rfl rfl (fpiece_spec _ _) inferInstance (Mr := _) (List.Perm.refl _) ?_; rintro _ _ _ ⟨_, _, rfl, rfl, rfl⟩; dsimp only [List.cons_append, List.nil_append, List.append_nil])
    | (refine OpK.call rfl rfl rfl rfl (ffixed_spec _) inferInstance (Mr := _) (List.Perm.refl _) ?_; rintro _ _ _ ⟨_, rfl, rfl, rfl⟩; dsimp only [List.cons_append, List.nil_append, List.append_nil]))
  rename_i c0 c1 c2 c3 c4 c5 c6 c7 c8 c9 c10 c11 c12 c13 c14 c15 c16 c17 c18 c19 c20 c21 c22
  refine G.giveObj b (MapV (actsT (cOf [c0, c1, c2, c3, c4, c5, c6, c7, c8, c9, c10, c11, c12, c13, c14, c15, c16, c17, c18, c19, c20, c21, c22]))) (m := MDel.head) ?_
  exact G.ret rfl (.cons (.tmp rfl) .nil) (Φ' := fObj b (MapV (actsT (cOf [c0, c1, c2, c3, c4, c5, c6, c7, c8, c9, c10, c11, c12, c13, c14, c15, c16, c17, c18, c19, c20, c21, c22]))) :: actsF (cOf [c0, c1, c2, c3, c4, c5, c6, c7, c8, c9, c10, c11, c12, c13, c14, c15, c16, c17, c18, c19, c20, c21, c22])) (M' := []) ⟨fun I hp => hp⟩ (List.nil_sublist _) ⟨b, [c0, c1, c2, c3, c4, c5, c6, c7, c8, c9, c10, c11, c12, c13, c14, c15, c16, c17, c18, c19, c20, c21, c22], rfl, rfl, rfl⟩
def RDo (B : Nat) (av : Value) (p : Frm × Int) : Value → List Fa → Own → Prop := fun u Φ' M' => ∃ a c, u = .tuple #[] ∧ Φ' = [fRp (.slice a p.1.stack.length c) p.1.stack] ∧ M' = [(B, Ob (runC p.1 (.slice a p.1.stack.length c) av p.2) 94)]
def DoOK (op : Nat) (fd : FuncId) (cd : List Value) (Φx : List Fa) : Prop := ∀ (B : Nat) (f : Frm) (sv av : Value) (l : List Word) (o : OR), Paid f op → l.length = popsN op → (isC op = false → ∃ r, infoN op = some r) → IsOwn (GoTy.sz Word) sv f.stack.length o →
  Fn Tryz.prog fd ([.pointer (some ⟨B, 0, none⟩)] ++ cd) (fRow (ocells o) f.stack :: fRp av l :: fKc :: Φx) ((B, Ob (runC f sv av 0) 94) :: ownM 49 o) (RDo B av (doF keccakL op f l))
def MoreOK (op : Nat) (v : Value) (Φx : List Fa) : Prop := (v = .nilFunc ∧ ∀ l, moreF op l = 0) ∨ ∃ g cg, v = .func (.func g) #[] cg.toArray ∧ HasFn Tryz.prog g ∧ ∀ (av : Value) (l : List Word), l.length = popsN op → FnV Tryz.prog g ([av] ++ cg) (fRp av l :: Φx) (.int .i64 ((moreF op l : Nat) : Int))
def ReachOK (op : Nat) (v : Value) (Φx : List Fa) : Prop := (v = .nilFunc ∧ ∀ l, spanF op l = []) ∨ ∃ g cg, v = .func (.func g) #[] cg.toArray ∧ HasFn Tryz.prog g ∧ ∀ (av : Value) (l : List Word), l.length = popsN op → ∃ s : Spn, spanF op l = [(s.at_, s.n)] ∧ FnV Tryz.prog g ([av] ++ cg) (fRp av l :: Φx) s.v
def ActOK (op : Nat) (x : Value) (Φx : List Fa) : Prop := ∃ fd cd more reach, x = .agg #[.func (.func fd) #[] cd.toArray, more, reach] ∧ HasFn Tryz.prog fd ∧ DoOK op fd cd Φx ∧ MoreOK op more Φx ∧ ReachOK op reach Φx
theorem Fn.lay {P : Program} {f : FuncId} {args : List Value} {Φ Φ1 ψ : List Fa} {M M1 : Own} {R : Value → List Fa → Own → Prop} (h : Fn P f args Φ1 M1 R)
    (hl : ∀ I w, (∀ φ ∈ Φ, φ.p I) → Wd ⟨I, doms M, w⟩ I M w → ∃ I1, (∀ φ ∈ Φ1, φ.p I1) ∧ (∀ φ ∈ ψ, φ.p I1) ∧ Wd ⟨I, doms M, w⟩ I1 M1 w) : Fn P f args Φ M (fun u Φ' M' => ∃ Φ2, R u Φ2 M' ∧ Φ' = Φ2 ++ ψ) := by
  intro I w hp hw
  obtain ⟨I1, h1, h2, h3⟩ := hl I w hp hw
  refine (h I1 w h1 (h3.start (List.Sublist.refl _))).mono ?_
  rintro e w' ⟨v, Φ2, M2, I2, rfl, hR, hf, hwd⟩
  have hb := Wd.back (Mr := []) (by rw [List.append_nil]; exact h3) hwd
  rw [List.append_nil] at hb
  refine ⟨v, Φ2 ++ ψ, M2, I2, rfl, ⟨Φ2, hR, rfl⟩, fun φ hφ => ?_, hb⟩
  rcases List.mem_append.1 hφ with hφ | hφ
  · exact hf φ hφ
  · exact φ.mono _ _ hwd.up (h2 φ hφ)
end Go.Rail
namespace Go.Rail
open Go Go.Proofs
set_option maxHeartbeats 400000
set_option maxRecDepth 4000
attribute [local irreducible] OpK G W LW wpListIn Exit.then Exit.inBlock Post rounds opRun bodyPostM intOp
set_option maxHeartbeats 1000000
theorem lay_own {E : Ent} {I : Imm} {w : World} {B : Nat} {ob : Obj} {e : TypeId} {o : OR} {v : Value} {xs : List Word} (hv : IsOwn (GoTy.sz Word) v xs.length o) (hrow : RowRep I (ocells o) 0 xs) (hw : Wd E I ((B, ob) :: ownM e o) w) :
    ∃ I1, Le I I1 ∧ (fRp v xs).p I1 ∧ Wd E I1 [(B, ob)] w := by
  have hw' := hw.perm (M' := ownM e o ++ [(B, ob)]) (List.perm_append_comm (l₁ := [(B, ob)]))
  cases o with
  | none =>
    obtain ⟨rfl, hx0⟩ := hv
    have hxs : xs = [] := List.length_eq_zero_iff.1 hx0
    subst hxs
    exact ⟨I, Le.refl _, Rp.nil none 0, hw'⟩
  | some q =>
    obtain ⟨b, cs⟩ := q
    obtain ⟨cap, rfl, hcs, hle⟩ := hv
    have hw2 : Wd E I ((b, Ob cs e) :: [(B, ob)]) w := hw'
    have hn : I b = none := hw2.sep (b, Ob cs e) (by simp)
    refine ⟨_, Le.give hn, ?_, hw2.give⟩
    refine Rp.mkSlice ⟨hle, fun _ => ⟨⟨b, 0, none⟩, cs.toArray, e, (0, 0), rfl, rfl, ?_, ?_⟩⟩ rfl
    · simp [Ob]
    · have hr : RowRep I cs 0 xs := hrow
      exact (by simpa using hr : RowRep I cs.toArray.toList 0 xs).mono (Le.give hn)
theorem doOf_lay {op : Nat} {fd : FuncId} {cd : List Value} {Φx : List Fa}
    (h : ∀ (B : Nat) (f : Frm) (a : Option Addr) (c : Nat) (av : Value) (l : List Word), Paid f op → l.length = popsN op → Fn Tryz.prog fd ([.pointer (some ⟨B, 0, none⟩)] ++ cd) (fRp (.slice a f.stack.length c) f.stack :: fRp av l :: fKc :: Φx) [(B, Ob (runC f (.slice a f.stack.length c) av 0) 94)] (RDo B av (doF keccakL op f l))) : DoOK op fd cd Φx := by
  intro B f sv av l o hp hl _ ho
  obtain ⟨a, c, rfl⟩ := own_open ho
  have h2 := (h B f a c av l hp hl).lay (ψ := []) (Φ := fRow (ocells o) f.stack :: fRp av l :: fKc :: Φx) (M := (B, Ob (runC f (.slice a f.stack.length c) av 0) 94) :: ownM 49 o) (by
    intro I w hφ hw
    obtain ⟨I1, i1, i2, i3⟩ := lay_own ho (hφ _ (.head _)) hw
    refine ⟨I1, fun φ hm => ?_, fun φ hm => (List.not_mem_nil hm).elim, i3⟩
    rcases List.mem_cons.1 hm with rfl | hm
    · exact i2
    · exact φ.mono _ _ i1 (hφ φ (.tail _ hm)))
  intro I w hφ hw
  refine (h2 I w hφ hw).mono ?_
  rintro e w' ⟨v, Φ2, M2, I2, rfl, ⟨Φ3, hR, rfl⟩, hf, hwd⟩
  rw [List.append_nil] at hf
  exact ⟨v, Φ3, M2, I2, rfl, hR, hf, hwd⟩
theorem doOf_keep {op : Nat} {fd : FuncId} {cd : List Value} {Φx : List Fa} (hst : ∀ (f : Frm) (l : List Word), (doF keccakL op f l).1.stack = f.stack)
    (h : ∀ (B : Nat) (f : Frm) (sv av : Value) (l : List Word), Paid f op → l.length = popsN op → Fn Tryz.prog fd ([.pointer (some ⟨B, 0, none⟩)] ++ cd) (fRp av l :: Φx) [(B, Ob (runC f sv av 0) 94)] (RJmp B sv av (doF keccakL op f l))) : DoOK op fd cd Φx := by
  refine doOf_lay fun B f a c av l hp hl => ?_
  have h2 := (h B f (.slice a f.stack.length c) av l hp hl).lay (ψ := [fRp (.slice a f.stack.length c) f.stack]) (Φ := fRp (.slice a f.stack.length c) f.stack :: fRp av l :: fKc :: Φx) (M := [(B, Ob (runC f (.slice a f.stack.length c) av 0) 94)]) (by
    intro I w hφ hw
    refine ⟨I, fun φ hm => ?_, fun φ hm => ?_, hw⟩
    · rcases List.mem_cons.1 hm with rfl | hm
      · exact hφ _ (.tail _ (.head _))
      · exact hφ _ (.tail _ (.tail _ (.tail _ hm)))
    · rcases List.mem_cons.1 hm with rfl | hm
      · exact hφ _ (.head _)
      · exact (List.not_mem_nil hm).elim)
  intro I w hφ hw
  refine (h2 I w hφ hw).mono ?_
  rintro e w' ⟨v, Φ2, M2, I2, rfl, ⟨Φ3, ⟨rfl, rfl, rfl⟩, rfl⟩, hf, hwd⟩
  have hs := hst f l
  generalize doF keccakL op f l = p at hs hwd ⊢
  rw [← hs] at hf hwd
  exact ⟨_, _, _, I2, rfl, ⟨a, c, rfl, rfl, rfl⟩, hf, hwd⟩
theorem doOf_push {op : Nat} {fd : FuncId} {cd : List Value} {Φx : List Fa}
    (h : ∀ (B : Nat) (f : Frm) (sv av : Value) (l : List Word) (o : OR), Paid f op → l.length = popsN op → IsOwn (GoTy.sz Word) sv f.stack.length o → Fn Tryz.prog fd ([.pointer (some ⟨B, 0, none⟩)] ++ cd) (fRow (ocells o) f.stack :: fRp av l :: fKc :: Φx) ((B, Ob (runC f sv av 0) 94) :: ownM 49 o) (RDo B av (doF keccakL op f l))) : DoOK op fd cd Φx :=
  fun B f sv av l o hp hl _ ho => h B f sv av l o hp hl ho
theorem pops32 : popsN 32 = 2 := by kernel_rfl
theorem do32 (Φx : List Fa) : DoOK 32 95 [] Φx := by
  refine doOf_push fun B f sv av l o hp hl ho => ?_
  rw [pops32] at hl
  have h := rhash_spec B f sv av 0 o l (by have := hp.stack; omega) ho hp.mem1 hp.mem2 (by omega)
  have e : doF keccakL 32 f l = (stkF f (f.stack ++ [wordB (keccakL (pieceF f.mem (l.getD 0 .zero) (numF (l.getD 1 .zero))))]), 0) := rfl
  rw [e, getD_at l 0 (by omega), getD_at l 1 (by omega)]
  exact h.weaken
theorem pops0 : popsN 0 = 0 := by kernel_rfl
theorem pops53 : popsN 53 = 1 := by kernel_rfl
theorem pops54 : popsN 54 = 0 := by kernel_rfl
theorem pops55 : popsN 55 = 3 := by kernel_rfl
theorem pops56 : popsN 56 = 0 := by kernel_rfl
theorem pops57 : popsN 57 = 3 := by kernel_rfl
theorem pops61 : popsN 61 = 0 := by kernel_rfl
theorem pops62 : popsN 62 = 3 := by kernel_rfl
theorem pops81 : popsN 81 = 1 := by kernel_rfl
theorem pops82 : popsN 82 = 2 := by kernel_rfl
theorem pops83 : popsN 83 = 2 := by kernel_rfl
theorem pops86 : popsN 86 = 1 := by kernel_rfl
theorem pops87 : popsN 87 = 2 := by kernel_rfl
theorem pops88 : popsN 88 = 0 := by kernel_rfl
theorem pops89 : popsN 89 = 0 := by kernel_rfl
theorem pops90 : popsN 90 = 0 := by kernel_rfl
theorem pops91 : popsN 91 = 0 := by kernel_rfl
theorem pops243 : popsN 243 = 2 := by kernel_rfl
theorem pops253 : popsN 253 = 2 := by kernel_rfl
theorem do0 (Φx : List Fa) : DoOK 0 94 [] Φx := by
  refine doOf_keep (fun f l => rfl) fun B f sv av l hp hl => ?_
  rw [pops0] at hl
  have hs := hp.stack; have hc := hp.code; have hi := hp.input; have hr := hp.ret; have hm1 := hp.mem1; have hm2 := hp.mem2; have hp1 := hp.pc1; have hp2 := hp.pc2; have hg1 := hp.gas1; have hg2 := hp.gas2
  exact (rstop_spec B f sv av 0 (by omega) (by omega)).weaken
theorem do53 (Φx : List Fa) : DoOK 53 99 [] Φx := by
  refine doOf_push fun B f sv av l o hp hl ho => ?_
  rw [pops53] at hl
  have hs := hp.stack; have hc := hp.code; have hi := hp.input; have hr := hp.ret; have hm1 := hp.mem1; have hm2 := hp.mem2; have hp1 := hp.pc1; have hp2 := hp.pc2; have hg1 := hp.gas1; have hg2 := hp.gas2
  have e : doF keccakL 53 f l = (stkF f (f.stack ++ [wordB (partF f.input (l.getD 0 .zero) 32)]), 0) := rfl
  rw [e, getD_at l 0 (by omega)]
  exact (rload_spec B f sv av 0 o l (by omega) ho (by omega) (by omega)).weaken
theorem do54 (Φx : List Fa) : DoOK 54 100 [] Φx := by
  refine doOf_push fun B f sv av l o hp hl ho => ?_
  rw [pops54] at hl
  have hs := hp.stack; have hc := hp.code; have hi := hp.input; have hr := hp.ret; have hm1 := hp.mem1; have hm2 := hp.mem2; have hp1 := hp.pc1; have hp2 := hp.pc2; have hg1 := hp.gas1; have hg2 := hp.gas2
  have e : doF keccakL 54 f l = (stkF f (f.stack ++ [.nat f.input.length]), 0) := rfl
  rw [e]
  exact (ract1_spec B f sv av 0 o (by omega) ho (by omega)).weaken
theorem do55 (Φx : List Fa) : DoOK 55 102 [] Φx := by
  refine doOf_keep (fun f l => rfl) fun B f sv av l hp hl => ?_
  rw [pops55] at hl
  have hs := hp.stack; have hc := hp.code; have hi := hp.input; have hr := hp.ret; have hm1 := hp.mem1; have hm2 := hp.mem2; have hp1 := hp.pc1; have hp2 := hp.pc2; have hg1 := hp.gas1; have hg2 := hp.gas2
  exact (ract2_spec B f sv av 0 l hm1 hm2 (by omega) (by omega)).weaken
theorem do56 (Φx : List Fa) : DoOK 56 105 [] Φx := by
  refine doOf_push fun B f sv av l o hp hl ho => ?_
  rw [pops56] at hl
  have hs := hp.stack; have hc := hp.code; have hi := hp.input; have hr := hp.ret; have hm1 := hp.mem1; have hm2 := hp.mem2; have hp1 := hp.pc1; have hp2 := hp.pc2; have hg1 := hp.gas1; have hg2 := hp.gas2
  have e : doF keccakL 56 f l = (stkF f (f.stack ++ [.nat f.code.length]), 0) := rfl
  rw [e]
  exact (ract3_spec B f sv av 0 o (by omega) ho (by omega)).weaken
theorem do57 (Φx : List Fa) : DoOK 57 106 [] Φx := by
  refine doOf_keep (fun f l => rfl) fun B f sv av l hp hl => ?_
  rw [pops57] at hl
  have hs := hp.stack; have hc := hp.code; have hi := hp.input; have hr := hp.ret; have hm1 := hp.mem1; have hm2 := hp.mem2; have hp1 := hp.pc1; have hp2 := hp.pc2; have hg1 := hp.gas1; have hg2 := hp.gas2
  exact (ract4_spec B f sv av 0 l hm1 hm2 (by omega) (by omega)).weaken
theorem do61 (Φx : List Fa) : DoOK 61 107 [] Φx := by
  refine doOf_push fun B f sv av l o hp hl ho => ?_
  rw [pops61] at hl
  have hs := hp.stack; have hc := hp.code; have hi := hp.input; have hr := hp.ret; have hm1 := hp.mem1; have hm2 := hp.mem2; have hp1 := hp.pc1; have hp2 := hp.pc2; have hg1 := hp.gas1; have hg2 := hp.gas2
  have e : doF keccakL 61 f l = (stkF f (f.stack ++ [.nat f.ret.length]), 0) := rfl
  rw [e]
  exact (ract5_spec B f sv av 0 o (by omega) ho (by omega)).weaken
theorem do81 (Φx : List Fa) : DoOK 81 109 [] Φx := by
  refine doOf_push fun B f sv av l o hp hl ho => ?_
  rw [pops81] at hl
  have hs := hp.stack; have hc := hp.code; have hi := hp.input; have hr := hp.ret; have hm1 := hp.mem1; have hm2 := hp.mem2; have hp1 := hp.pc1; have hp2 := hp.pc2; have hg1 := hp.gas1; have hg2 := hp.gas2
  have e : doF keccakL 81 f l = (stkF f (f.stack ++ [wordB (pieceF f.mem (l.getD 0 .zero) 32)]), 0) := rfl
  rw [e, getD_at l 0 (by omega)]
  exact (ract6_spec B f sv av 0 o l (by omega) ho hm1 hm2 (by omega)).weaken
theorem do82 (Φx : List Fa) : DoOK 82 112 [] Φx := by
  refine doOf_keep (fun f l => rfl) fun B f sv av l hp hl => ?_
  rw [pops82] at hl
  have hs := hp.stack; have hc := hp.code; have hi := hp.input; have hr := hp.ret; have hm1 := hp.mem1; have hm2 := hp.mem2; have hp1 := hp.pc1; have hp2 := hp.pc2; have hg1 := hp.gas1; have hg2 := hp.gas2
  exact (ract7_spec B f sv av 0 l hm1 hm2 (by omega)).weaken
theorem do83 (Φx : List Fa) : DoOK 83 114 [] Φx := by
  refine doOf_keep (fun f l => rfl) fun B f sv av l hp hl => ?_
  rw [pops83] at hl
  have hs := hp.stack; have hc := hp.code; have hi := hp.input; have hr := hp.ret; have hm1 := hp.mem1; have hm2 := hp.mem2; have hp1 := hp.pc1; have hp2 := hp.pc2; have hg1 := hp.gas1; have hg2 := hp.gas2
  exact (ract8_spec B f sv av 0 l hm1 hm2 (by omega)).weaken
theorem do88 (Φx : List Fa) : DoOK 88 117 [] Φx := by
  refine doOf_push fun B f sv av l o hp hl ho => ?_
  rw [pops88] at hl
  have hs := hp.stack; have hc := hp.code; have hi := hp.input; have hr := hp.ret; have hm1 := hp.mem1; have hm2 := hp.mem2; have hp1 := hp.pc1; have hp2 := hp.pc2; have hg1 := hp.gas1; have hg2 := hp.gas2
  have e : doF keccakL 88 f l = (stkF f (f.stack ++ [.nat (f.pc - 1).toNat]), 0) := rfl
  rw [e]
  exact (ract9_spec B f sv av 0 o (by omega) ho hp1 (by omega)).weaken
theorem do89 (Φx : List Fa) : DoOK 89 118 [] Φx := by
  refine doOf_push fun B f sv av l o hp hl ho => ?_
  rw [pops89] at hl
  have hs := hp.stack; have hc := hp.code; have hi := hp.input; have hr := hp.ret; have hm1 := hp.mem1; have hm2 := hp.mem2; have hp1 := hp.pc1; have hp2 := hp.pc2; have hg1 := hp.gas1; have hg2 := hp.gas2
  have e : doF keccakL 89 f l = (stkF f (f.stack ++ [.nat f.mem.length]), 0) := rfl
  rw [e]
  exact (ract10_spec B f sv av 0 o (by omega) ho (by omega)).weaken
theorem do90 (Φx : List Fa) : DoOK 90 119 [] Φx := by
  refine doOf_push fun B f sv av l o hp hl ho => ?_
  rw [pops90] at hl
  have hs := hp.stack; have hc := hp.code; have hi := hp.input; have hr := hp.ret; have hm1 := hp.mem1; have hm2 := hp.mem2; have hp1 := hp.pc1; have hp2 := hp.pc2; have hg1 := hp.gas1; have hg2 := hp.gas2
  have e : doF keccakL 90 f l = (stkF f (f.stack ++ [.nat f.gas.toNat]), 0) := rfl
  rw [e]
  exact (ract11_spec B f sv av 0 o (by omega) ho hg1 (by omega)).weaken
theorem do91 (Φx : List Fa) : DoOK 91 120 [] Φx := by
  refine doOf_keep (fun f l => rfl) fun B f sv av l hp hl => ?_
  rw [pops91] at hl
  have hs := hp.stack; have hc := hp.code; have hi := hp.input; have hr := hp.ret; have hm1 := hp.mem1; have hm2 := hp.mem2; have hp1 := hp.pc1; have hp2 := hp.pc2; have hg1 := hp.gas1; have hg2 := hp.gas2
  exact (ract12_spec B f sv av 0).weaken
theorem do243 (Φx : List Fa) : DoOK 243 121 [] Φx := by
  refine doOf_keep (fun f l => rfl) fun B f sv av l hp hl => ?_
  rw [pops243] at hl
  have hs := hp.stack; have hc := hp.code; have hi := hp.input; have hr := hp.ret; have hm1 := hp.mem1; have hm2 := hp.mem2; have hp1 := hp.pc1; have hp2 := hp.pc2; have hg1 := hp.gas1; have hg2 := hp.gas2
  exact (ract13_spec B f sv av l hm1 hm2 (by omega) (by omega) (by omega)).weaken
theorem do253 (Φx : List Fa) : DoOK 253 123 [] Φx := by
  refine doOf_keep (fun f l => rfl) fun B f sv av l hp hl => ?_
  rw [pops253] at hl
  have hs := hp.stack; have hc := hp.code; have hi := hp.input; have hr := hp.ret; have hm1 := hp.mem1; have hm2 := hp.mem2; have hp1 := hp.pc1; have hp2 := hp.pc2; have hg1 := hp.gas1; have hg2 := hp.gas2
  exact (ract14_spec B f sv av l hm1 hm2 (by omega) (by omega) (by omega)).weaken
theorem jumpF_stack (f : Frm) (to : Nat) : (jumpF f to).1.stack = f.stack := by unfold jumpF; split <;> rfl
theorem do86_eq (f : Frm) (l : List Word) : doF keccakL 86 f l = jumpF f (numF (l.getD 0 .zero)) := rfl
theorem do87_eq (f : Frm) (l : List Word) : doF keccakL 87 f l = if l.getD 1 .zero = .zero then (f, 0) else jumpF f (numF (l.getD 0 .zero)) := rfl
theorem do62_eq (f : Frm) (l : List Word) : doF keccakL 62 f l = if f.ret.length < numF (l.getD 1 .zero) + numF (l.getD 2 .zero) then (f, 45) else copyF f f.ret l := rfl
theorem do86 (Φx : List Fa) : DoOK 86 115 [] Φx := by
  refine doOf_keep (fun f l => by rw [do86_eq]; exact jumpF_stack _ _) fun B f sv av l hp hl => ?_
  rw [pops86] at hl
  have hs := hp.stack; have hc := hp.code; have hi := hp.input; have hr := hp.ret; have hm1 := hp.mem1; have hm2 := hp.mem2; have hp1 := hp.pc1; have hp2 := hp.pc2; have hg1 := hp.gas1; have hg2 := hp.gas2
  exact (rjump_spec B f sv av l (by omega) (by omega)).weaken
theorem do87 (Φx : List Fa) : DoOK 87 116 [] Φx := by
  refine doOf_keep (fun f l => by rw [do87_eq]; split; rfl; exact jumpF_stack _ _) fun B f sv av l hp hl => ?_
  rw [pops87] at hl
  have hs := hp.stack; have hc := hp.code; have hi := hp.input; have hr := hp.ret; have hm1 := hp.mem1; have hm2 := hp.mem2; have hp1 := hp.pc1; have hp2 := hp.pc2; have hg1 := hp.gas1; have hg2 := hp.gas2
  exact (rjumpIf_spec B f sv av l (by omega) (by omega)).weaken
theorem do62 (Φx : List Fa) : DoOK 62 108 [] Φx := by
  refine doOf_keep (fun f l => by rw [do62_eq]; split <;> rfl) fun B f sv av l hp hl => ?_
  rw [pops62] at hl
  have hm1 := hp.mem1; have hm2 := hp.mem2; have hr := hp.ret
  intro I w hφ hw
  refine (rtold_spec B f sv av l hm1 hm2 hr (by omega) I w (fun φ hm => hφ φ (by rcases List.mem_cons.1 hm with rfl | hm; exact .head _; exact (List.not_mem_nil hm).elim)) hw).mono ?_
  rintro e w' ⟨v, Φ2, M2, I2, rfl, ⟨rfl, rfl, p, rfl, rfl⟩, hf, hwd⟩
  exact ⟨_, _, _, I2, rfl, ⟨rfl, rfl, rfl⟩, hf, hwd⟩
end Go.Rail
