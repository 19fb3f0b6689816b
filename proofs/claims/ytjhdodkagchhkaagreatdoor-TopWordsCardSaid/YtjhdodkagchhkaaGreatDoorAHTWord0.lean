/- TopWords: for every input the law returns true, and each argument reads behind the call as it read before. No condition but that listed variables of the library hold what the program's text lays (tied). -/
import Derived.Test.YtjhdodkagchhkaaGreatDoorRailA
import Derived.Test.YtjhdodkagchhkaaGreatDoorAL22W
import Derived.Test.YtjhdodkagchhkaaGreatDoorRailD
import Derived.HandedShaped
import Derived.ProofKit
import Derived.LaidMore
import Derived.OpenShut
import Derived.SevenTiedAt
import Derived.Lay
import Derived.Test.YtjhdodkagchhkaaGreatDoorRows
import Derived.Test.YtjhdodkagchhkaaGreatDoorCards
import Derived.Test.YtjhdodkagchhkaaGreatDoorTie
set_option linter.unusedSimpArgs false
set_option linter.unusedVariables false
namespace Go.Proofs.YtjhdodkagchhkaaGreatDoor
open Go Go.Rail Go.ChangeShapes Go.WideShapes Go.ChangeAt Go.RowKit
theorem ownK:ownKnob Tryz.prog.godebug=none:=by kernel_rfl
theorem laidO:laidOutB Tryz.prog=true:=by kernel_rfl
theorem rdInt:RdH Tryz.prog 3 Int (fun n => -9223372036854775808≤n∧n≤9223372036854775807):=RdH.int kR
theorem rdWord:RdH Tryz.prog 24 Word (fun _=>True):=RdH.word (e:=22) kR kR kR kR
set_option maxRecDepth 100000
theorem doorMet (os:Os) (args:Array Value):laidMetH Tryz.prog Rows.topWordsRow.laid ((World.laidAll Tryz.prog os Rows.topWordsRow.laid).forCall (fun _ _=>0) ⟨#[],args,[]⟩).memory :=
 laidMetH_of_parts3 (fuel:=8) (by rw [show (Rows.topWordsRow.laid.filter fun x=>x.2.handleName?.isNone)=Rows.topWordsRow.laid from by kernel_rfl];exact laidMet_laidAll _ kR kR) kR kR
theorem lifted (os:Os) (started:os.Started) (H:Type) (enc:TypeId × Value→H) :
  ReturnsInHanded {} Tryz.checked os 3 .any (fun w args=>(Rows.topWordsSpec.pre enc Tryz.prog Tryz.f3 [] false w args∧laidMetH Tryz.prog Rows.topWordsRow.laid w)∧sizedMet enc Tryz.prog Tryz.f3 (OpenSpec.ofChange Rows.topWordsSpec) false w args)
   (Rows.topWordsSpec.post enc Tryz.prog Tryz.f3 false true false false):=by
 refine returnsInHanded_of_change_and (C:=Tryz.checked) (X:=fun w _=>laidMetH Tryz.prog Rows.topWordsRow.laid w) (fun _ _ _ hh h=>h.of_heap hh) ownK started kR Tryz.func3
  (ChangeSpec.witness_shaped (enc:=enc) (C:=Tryz.checked) (os:=os) (X:=fun w _=>laidMetH Tryz.prog Rows.topWordsRow.laid w) false (World.laidAll Tryz.prog os Rows.topWordsRow.laid) #[.int .i64 0,.agg #[.int .u64 0,.int .u64 0,.int .u64 0,.int .u64 0],.agg #[.int .u64 0,.int .u64 0,.int .u64 0,.int .u64 0],.agg #[.int .u64 0,.int .u64 0,.int .u64 0,.int .u64 0]] 8 rfl (World.shaped_of_ZipB kR kR) kR kR kR (doorMet os _)) ?_
 intro W base args ds gs before hval hW _ hwt hL _
 have hW':=hW
 obtain ⟨p,q,hA,hV,rfl,hfz,hnd⟩:=hW
 obtain ⟨rfl,rfl⟩:=trodVars_none hV
 have hA':DataW.TrodAll enc Tryz.prog W 0 (fun _=>true) true Tryz.f3.params.toList args.toList ds p:=hA
 rw [Tryz.params3] at hA'
 rw [Tryz.params3] at hval
 obtain ⟨v0,vs0,d0,ds0,p0,e0,ha0,rfl,rfl,g0,r0⟩:=trodAll_cons hA'
 obtain ⟨v1,vs1,d1,ds1,p1,e1,rfl,rfl,rfl,g1,r1⟩:=trodAll_cons r0
 obtain ⟨v2,vs2,d2,ds2,p2,e2,rfl,rfl,rfl,g2,r2⟩:=trodAll_cons r1
 obtain ⟨v3,vs3,d3,ds3,p3,e3,rfl,rfl,rfl,g3,r3⟩:=trodAll_cons r2
 obtain ⟨rfl,rfl,rfl⟩:=trodAll_nil r3
 obtain rfl:args = #[v0,v1,v2,v3]:=by cases args;simp_all
 obtain ⟨x0,hn0,on0⟩:=rdInt.arg g0 (wt_of hwt 0 rfl rfl) oE (fun _=>okWide_int (k := .i64) kR (hval 0 _ _ rfl rfl))
 obtain ⟨_,rfl,rfl⟩:=hn0
 obtain ⟨x1,rx1,-⟩:=rdWord.arg g1 (wt_of hwt 1 rfl rfl) oE (fun h=>by cases h)
 obtain rfl:v1=x1.v:=Rp.flat.1 rx1
 obtain ⟨x2,rx2,-⟩:=rdWord.arg g2 (wt_of hwt 2 rfl rfl) oE (fun h=>by cases h)
 obtain rfl:v2=x2.v:=Rp.flat.1 rx2
 obtain ⟨x3,rx3,-⟩:=rdWord.arg g3 (wt_of hwt 3 rfl rfl) oE (fun h=>by cases h)
 obtain rfl:v3=x3.v:=Rp.flat.1 rx3
 have hkc:fKc.p (fun b=>W.heap[b]?):=by
  obtain ⟨t',ht'⟩:=laid_ints (n := "railhead/keccak.constants") (ns:=kcL.map fun (n:Nat)=>(n:Int)) (k := .u64) (m:=24) (e:=22) hL kR (List.mem_of_getElem? (i:=4) kR) (g:=0) (t:=165) kR kR kR kR kR kR oE
  exact ⟨t',ht'⟩
 refine (Fn.below (topW_walk x0 x1 x2 x3 on0.1) W (List.forall_mem_cons.2 ⟨hkc,(List.forall_mem_nil _)⟩)).mono ?_
 rintro e W' ⟨u,Φ',M',rfl,⟨rfl,rfl,rfl⟩,hb⟩
 exact ⟨_,rfl,law_post laidO kR rfl rfl kR Tryz.underlying4 hW' hb⟩

theorem and_of {a b:Bool} (h:a=true) (k:b=true):(a&&b)=true:=by rw [h,k];rfl
set_option maxHeartbeats 4000000
theorem jfacts:joinedFacts Tryz.prog 3 Tryz.f3 Rows.topWordsSpec Rows.topWordsRow=true:=by
 unfold joinedFacts
 iterate 31 (refine and_of ?_ (by as_aux_lemma=>kernel_rfl))
 as_aux_lemma=>kernel_rfl
theorem row_holds:Rows.TopWordsSaid :=
 OpenClaim.holds_of_wide 3 Tryz.f3 rfl rfl rfl rfl rfl rfl rfl ⟨rfl,rfl,rfl,rfl,rfl⟩ rfl rfl rfl rfl rfl (by as_aux_lemma=>kernel_rfl) Tryz.func3 (jfacts)
  (of_decide_eq_true kR) (by unfold Func.isWrapper;first|(rw [if_pos (by decide +kernel)];kernel_rfl)|(rw [if_neg (by decide +kernel)];exact ⟨rfl,rfl⟩))
  (fun os started H enc _=>lifted os started H enc)
end Go.Proofs.YtjhdodkagchhkaaGreatDoor
