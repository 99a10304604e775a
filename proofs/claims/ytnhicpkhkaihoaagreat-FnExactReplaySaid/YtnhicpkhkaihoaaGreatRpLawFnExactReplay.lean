/- The law FnExactReplay is proved: whatever the arguments are, it returns true, and they read behind the call as they read before. Conditions: none; nothing is asked of the arguments. -/
import Derived.Test.YtnhicpkhkaihoaaGreatRows
import Derived.Test.YtnhicpkhkaihoaaGreatRpRecC
import Derived.WalkKit
import Derived.ProofKit
import Derived.OpenShut
import Derived.ShutString
import Derived.ChangeOld
import Derived.Below
import Derived.SizedLaws
namespace Go.Proofs.YtnhicpkhkaihoaaGreat.fnExactReplay
open Go Go.ChangeShapes Go.WideShapes Go.ChangeAt Go.RowKit Go.Proofs.YtnhicpkhkaihoaaGreat.Open Go.Proofs.YtnhicpkhkaihoaaGreat.Eng Go.Proofs.YtnhicpkhkaihoaaGreat.P
open Go.ChangeMaps (open_string shut_string)
set_option linter.unusedVariables false
theorem own:ownKnob Tryz.prog.godebug=none:=by kernel_rfl
theorem laidOut:laidOutB Tryz.prog=true:=by kernel_rfl
theorem calls {W:World} {a0:ByteArray} (g0:a0.size≤maxLen):
  Calls Tryz.prog 6 #[.string a0] W fun e W'=>e= .returned (.bool true)∧Below W.heap.size W W':=by
 refine sQ (C:=⟨Tryz.prog,W⟩) (g:=DT.sg) (es:=[.string a0]) (args:=[.string a0]) (sv:=[]) (vs:=[.string a0]) (cs:=[]) (D:=([]++[])) (Dk (C:=⟨Tryz.prog,W⟩)) (fun _ _=>rfl)
  ⟨rfl,trivial⟩ ?_ rfl (DT.cl2 (YI g0 rfl))
 exact (Cp (xG rfl yU) Ck)
set_option maxRecDepth 100000 in
theorem lifted (os:Os) (started:os.Started) (H:Type) (enc:TypeId×Value→H):
  ReturnsInHanded {} Tryz.checked os 6 .any (Rows.fnExactReplaySpec.pre6 enc Tryz.prog Tryz.f6 Rows.fnExactReplayRow.domain false) (Rows.fnExactReplaySpec.post enc Tryz.prog Tryz.f6 false true false false):=by
 refine returnsInHanded_of_change_sized (C:=Tryz.checked) own started (by kernel_rfl) Tryz.func6
  (ChangeSpec.witness6 (enc:=enc) (C:=Tryz.checked) false ⟨#[], #[.string ByteArray.empty],[]⟩ 8 (by kernel_rfl) (by kernel_rfl) (by kernel_rfl) (by kernel_rfl)) ?_
 intro W base args ds gs before hval0 hW hcnd hsz0 _
 have hval: ∀(j:Nat) t v,Tryz.f6.params[j]? =some t→args[j]? =some v→Value.okWide Tryz.prog W .any base t v:=hval0
 have hW':=hW
 obtain ⟨p,q,hA0,hV,rfl,hfz,hnd⟩:=hW
 have hA:DataW.TrodAll enc Tryz.prog W 0 (fun _=>true) true Tryz.f6.params.toList args.toList ds p:=hA0
 rw [Tryz.params6] at hA hval
 obtain ⟨v0,vs0,d0,ds0,p0,q0,hargs,rfl,rfl,h0,r0⟩:=trodAll_cons hA
 obtain ⟨rfl,rfl,rfl⟩:=trodAll_nil r0
 obtain rfl:args= #[v0]:=by cases args;simp_all
 obtain ⟨rfl,rfl⟩:=trodVars_none hV
 have k0:=h0
 have lt0: ∀x∈p0,x.block<W.heap.size:=by obtain ⟨m,hm⟩:=k0;exact DataW.trod_lt m _ _ _ hm
 obtain ⟨a0,rfl,_,_,g0⟩:=open_string Tryz.underlying9 (hval 0 9 v0 rfl rfl) h0
 clear hA0 hval0 hsz0
 refine Calls.mono (calls g0) fun e W' hh=> ?_
 obtain ⟨he,bel0⟩:=hh
 have bel:Below W.heap.size W W':=bel0
 subst he
 exact ⟨_,rfl,_,_,_,[],_,[],hW',trodAll_mk1 (shut_bool Tryz.underlying4 _),(trodAll_cons_mk (Below.trod laidOut (by kernel_rfl) (of_decide_eq_true (by kernel_rfl)) k0 bel lt0) trodAll_mk0),rfl,bel.frame _,fun h=>by cases h⟩
theorem over:Rows.fnExactReplayRow.holds Tryz.pinned (OpenSpec.ofChange Rows.fnExactReplaySpec):=
 OpenClaim.holds_of_wide 6 Tryz.f6 rfl rfl rfl rfl rfl rfl rfl ⟨rfl,rfl,rfl,rfl,rfl⟩ rfl rfl rfl rfl rfl (by kernel_rfl) Tryz.func6 (by kernel_rfl)
  (of_decide_eq_true (by kernel_rfl)) (by unfold Func.isWrapper;first | (rw [if_pos (by decide+kernel)];kernel_rfl) | (rw [if_neg (by decide+kernel)];exact ⟨rfl,rfl⟩))
  (fun os started H enc _=>lifted os started H enc)
theorem proved:Rows.FnExactReplaySaid:=over
#print axioms proved
end Go.Proofs.YtnhicpkhkaihoaaGreat.fnExactReplay
namespace Go.Proofs.YtnhicpkhkaihoaaGreat
theorem fnExactReplay_holds:Rows.FnExactReplaySaid:=fnExactReplay.proved
end Go.Proofs.YtnhicpkhkaihoaaGreat
