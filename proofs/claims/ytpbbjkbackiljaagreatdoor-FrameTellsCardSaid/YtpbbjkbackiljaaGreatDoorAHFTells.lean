/- FrameTells: for every input the law returns true, and each argument reads behind the call as it read before. No condition but that listed variables of the library hold what the program's text lays (tied). -/
import Derived.Test.YtpbbjkbackiljaaGreatDoorRailA
import Derived.Test.YtpbbjkbackiljaaGreatDoorAL17T
import Derived.Test.YtpbbjkbackiljaaGreatDoorRailD
import Derived.HandedShaped
import Derived.ProofKit
import Derived.LaidMore
import Derived.OpenShut
import Derived.SevenTiedAt
import Derived.Lay
import Derived.Test.YtpbbjkbackiljaaGreatDoorRows
import Derived.Test.YtpbbjkbackiljaaGreatDoorCards
import Derived.Test.YtpbbjkbackiljaaGreatDoorTie
set_option linter.unusedSimpArgs false
set_option linter.unusedVariables false
namespace Go.Proofs.YtpbbjkbackiljaaGreatDoor
open Go Go.Rail Go.ChangeShapes Go.WideShapes Go.ChangeAt Go.RowKit
theorem ownK:ownKnob Tryz.prog.godebug=none:=by kernel_rfl
theorem laidO:laidOutB Tryz.prog=true:=by kernel_rfl
theorem rdInt:RdH Tryz.prog 3 Int (fun n => -9223372036854775808≤n∧n≤9223372036854775807):=RdH.int kR
theorem rdPair:RdH Tryz.prog 45 (Int × Int) okR:=RdH.pair (e:=3) kR kR kR kR
theorem rdRaw:RdH Tryz.prog 22 (List (Int × Int)) (fun xs=>xs.length≤reachBytes ∧ ∀ a∈xs,okR a):=RdH.slice (e:=45) kR kR oE (of_decide_eq_true kR) rdPair
theorem rdStr:RdH Tryz.prog 9 ByteArray (fun s=>s.data.toList.length≤reachBytes):=RdH.str kR
set_option maxRecDepth 100000
theorem doorMet (os:Os) (args:Array Value):laidMetH Tryz.prog Rows.frameTellsRow.laid ((World.laidAll Tryz.prog os Rows.frameTellsRow.laid).forCall (fun _ _=>0) ⟨#[],args,[]⟩).memory :=
 laidMetH_of_parts3 (fuel:=8) (by rw [show (Rows.frameTellsRow.laid.filter fun x=>x.2.handleName?.isNone)=Rows.frameTellsRow.laid from by kernel_rfl];exact laidMet_laidAll _ kR kR) kR kR
theorem lifted (os:Os) (started:os.Started) (H:Type) (enc:TypeId × Value→H) :
  ReturnsInHanded {} Tryz.checked os 3 .any (fun w args=>(Rows.frameTellsSpec.pre enc Tryz.prog Tryz.f3 [] false w args∧laidMetH Tryz.prog Rows.frameTellsRow.laid w)∧sizedMet enc Tryz.prog Tryz.f3 (OpenSpec.ofChange Rows.frameTellsSpec) false w args)
   (Rows.frameTellsSpec.post enc Tryz.prog Tryz.f3 false true false false):=by
 refine returnsInHanded_of_change_and (C:=Tryz.checked) (X:=fun w _=>laidMetH Tryz.prog Rows.frameTellsRow.laid w) (fun _ _ _ hh h=>h.of_heap hh) ownK started kR Tryz.func3
  (ChangeSpec.witness_shaped (enc:=enc) (C:=Tryz.checked) (os:=os) (X:=fun w _=>laidMetH Tryz.prog Rows.frameTellsRow.laid w) false (World.laidAll Tryz.prog os Rows.frameTellsRow.laid) #[.slice none 0 0,.string ⟨#[]⟩,.int .i64 0,.agg #[.string ⟨#[]⟩,.string ⟨#[]⟩,.int .i64 0,.slice none 0 0,.string ⟨#[]⟩,.int .i64 0,.string ⟨#[]⟩,.int .i64 0,.int .i64 0,.string ⟨#[]⟩],.int .i64 0,.int .i64 0] 8 rfl (World.shaped_of_ZipB kR kR) kR kR kR (doorMet os _)) ?_
 intro W base args ds gs before hval hW _ hwt hL _
 have hW':=hW
 obtain ⟨p,q,hA,hV,rfl,hfz,hnd⟩:=hW
 obtain ⟨rfl,rfl⟩:=trodVars_none hV
 have hA':DataW.TrodAll enc Tryz.prog W 0 (fun _=>true) true Tryz.f3.params.toList args.toList ds p:=hA
 rw [Tryz.params3] at hA'
 rw [Tryz.params3] at hval
 obtain ⟨v0,vs0,d0,ds0,p0,e0,ha0,rfl,rfl,g0,r0⟩:=trodAll_cons hA'
 obtain ⟨v1,vs1,d1,ds1,p1,e1,rfl,rfl,rfl,g1,r1⟩:=trodAll_cons r0
 obtain ⟨v2,vs2,d2,ds2,p2,e2,rfl,rfl,rfl,g2,r2⟩:=trodAll_cons r1
 obtain ⟨v3,vs3,d3,ds3,p3,e3,rfl,rfl,rfl,g3,r3⟩:=trodAll_cons r2
 obtain ⟨v4,vs4,d4,ds4,p4,e4,rfl,rfl,rfl,g4,r4⟩:=trodAll_cons r3
 obtain ⟨v5,vs5,d5,ds5,p5,e5,rfl,rfl,rfl,g5,r5⟩:=trodAll_cons r4
 obtain ⟨rfl,rfl,rfl⟩:=trodAll_nil r5
 obtain rfl:args = #[v0,v1,v2,v3,v4,v5]:=by cases args;simp_all
 obtain ⟨q0,rx0,on0⟩:=rdRaw.arg g0 (wt_of hwt 0 rfl rfl) oE (fun _=>okWide_slice (e:=45) kR (hval 0 _ _ rfl rfl))
 obtain ⟨x1,hn1,on1⟩:=rdStr.arg g1 (wt_of hwt 1 rfl rfl) oE (fun _=>okWide_str kR (hval 1 _ _ rfl rfl))
 obtain ⟨_,rfl,rfl⟩:=hn1
 obtain ⟨x2,hn2,on2⟩:=rdInt.arg g2 (wt_of hwt 2 rfl rfl) oE (fun _=>okWide_int (k := .i64) kR (hval 2 _ _ rfl rfl))
 obtain ⟨_,rfl,rfl⟩:=hn2
 obtain ⟨q3,rx3,on3⟩:=rdFrm.arg g3 (wt_of hwt 3 rfl rfl) (fun _=>(by decide:(10:Nat)≠1)) (fun h=>by cases h)
 obtain ⟨x4,hn4,on4⟩:=rdInt.arg g4 (wt_of hwt 4 rfl rfl) oE (fun _=>okWide_int (k := .i64) kR (hval 4 _ _ rfl rfl))
 obtain ⟨_,rfl,rfl⟩:=hn4
 obtain ⟨x5,hn5,on5⟩:=rdInt.arg g5 (wt_of hwt 5 rfl rfl) oE (fun _=>okWide_int (k := .i64) kR (hval 5 _ _ rfl rfl))
 obtain ⟨_,rfl,rfl⟩:=hn5
 have hkc:fKc.p (fun b=>W.heap[b]?):=by
  obtain ⟨t',ht'⟩:=laid_ints (n := "railhead/keccak.constants") (ns:=kcL.map fun (n:Nat)=>(n:Int)) (k := .u64) (m:=24) (e:=47) hL kR (List.mem_of_getElem? (i:=4) kR) (g:=0) (t:=276) kR kR kR kR kR kR oE
  exact ⟨t',ht'⟩
 refine (Fn.below (tells17_walk v0 q0 x1.data.toList x2 v3 q3 x4 x5 on0.2 (by have:=on1;unfold reachBytes at this;omega) on2.1 on3 on4.1 on5.1) W (List.forall_mem_cons.2 ⟨rx0,(List.forall_mem_cons.2 ⟨rx3,(List.forall_mem_cons.2 ⟨hkc,(List.forall_mem_nil _)⟩)⟩)⟩)).mono ?_
 rintro e W' ⟨u,Φ',M',rfl,⟨rfl,rfl,rfl⟩,hb⟩
 exact ⟨_,rfl,law_post laidO kR rfl rfl kR Tryz.underlying4 hW' hb⟩

theorem and_of {a b:Bool} (h:a=true) (k:b=true):(a&&b)=true:=by rw [h,k];rfl
set_option maxHeartbeats 4000000
theorem jfacts:joinedFacts Tryz.prog 3 Tryz.f3 Rows.frameTellsSpec Rows.frameTellsRow=true:=by
 unfold joinedFacts
 iterate 31 (refine and_of ?_ (by as_aux_lemma=>kernel_rfl))
 as_aux_lemma=>kernel_rfl
theorem row_holds:Rows.FrameTellsSaid :=
 OpenClaim.holds_of_wide 3 Tryz.f3 rfl rfl rfl rfl rfl rfl rfl ⟨rfl,rfl,rfl,rfl,rfl⟩ rfl rfl rfl rfl rfl (by as_aux_lemma=>kernel_rfl) Tryz.func3 (jfacts)
  (of_decide_eq_true kR) (by unfold Func.isWrapper;first|(rw [if_pos (by decide +kernel)];kernel_rfl)|(rw [if_neg (by decide +kernel)];exact ⟨rfl,rfl⟩))
  (fun os started H enc _=>lifted os started H enc)
theorem ftells_holds:Rows.FrameTellsCardSaid :=
 Claim7.holds_tied_plain_at .later [] Rows.frameTellsCard.laidKinds true Rows.frameTellsCard.stood.harness false
  row_holds (fun _ h=>by cases h) (by as_aux_lemma=>kernel_rfl) (fun _ h=>by cases h) frameTells_row_tie rfl ⟨rfl,rfl⟩ (by as_aux_lemma=>kernel_rfl) rfl
  (fun f fn hf hfn=>by
   obtain rfl:f=3:=Option.some.inj ((show Tryz.prog.funcNamed "railhead/railheadlaw17.FrameTells" = some 3 by kernel_rfl).symm.trans hf) |>.symm
   obtain rfl:fn=Tryz.f3:=(Option.some.inj (Tryz.func3.symm.trans hfn)).symm
   exact ⟨by kernel_rfl,fun j t ht=>by
    rw [Tryz.params3] at ht
    have hm:t∈Tryz.f3.params.toList:=by rw [Tryz.params3];simpa using Array.mem_of_getElem? ht
    have hall:(Tryz.f3.params.toList.all fun u => !Tryz.prog.wantsStandIn u)=true:=by kernel_rfl
    exact (show Tryz.prog.wantsStandIn t=false by simpa using List.all_eq_true.1 hall t hm)⟩)
  (by as_aux_lemma=>kernel_rfl)
end Go.Proofs.YtpbbjkbackiljaaGreatDoor
