/- The law FnWays is proved: whatever the arguments are, it returns true, and they read behind the call as they read before. Conditions: none; nothing is asked of the arguments. -/
import Derived.Test.YtklmcfpgdfibnaaRows
import Derived.Test.YtklmcfpgdfibnaaWaWayD
import Derived.Test.YtklmcfpgdfibnaaWaRowB
import Derived.WalkKit
import Derived.ProofKit
import Derived.OpenShut
import Derived.ShutString
import Derived.ChangeOld
import Derived.Below
import Derived.SizedLaws
namespace Go.Proofs.Ytklmcfpgdfibnaa.fnWays
open Go Go.ChangeShapes Go.WideShapes Go.ChangeAt Go.RowKit Go.Proofs.Ytklmcfpgdfibnaa.Open Go.Proofs.Ytklmcfpgdfibnaa.Eng Go.Proofs.Ytklmcfpgdfibnaa.P
open Go.ChangeMaps (open_string shut_string)
set_option linter.unusedVariables false
theorem own:ownKnob Try.prog.godebug=none:=by kernel_rfl
theorem laidOut:laidOutB Try.prog=true:=by kernel_rfl
theorem calls {W:World} {a0:List Int} {u0:Value} (K0:dBs.K W a0 [u0]) (g0:VT a0):
  Calls Try.prog 8 #[u0] W fun e W'=>e= .returned (.bool true)∧Below W.heap.size W W':=by
 obtain ⟨ρ0,s0,es0,L0,A0,E0⟩:=dBs.lay (C:=⟨Try.prog,W⟩) w9 (fun _ _=>rfl) K0
 obtain ⟨v0,F0,rfl,T0⟩:=mD E0
 have B0:=(A0).1
 refine mP (C:=⟨Try.prog,W⟩) (g:=GI.sg) (es:=[v0]) (args:=[u0]) (sv:=[v0]) (vs:=[]) (cs:=[tY a0]) (D:=((F0++[])++[])) L0.rel L0.top
  ⟨(vJ T0 B0),trivial⟩ ?_ rfl (GI.cl2 (nN g0 rfl))
 exact (vQ (pT T0 pJ) vM)
set_option maxRecDepth 100000 in
theorem lifted (os:Os) (started:os.Started) (H:Type) (enc:TypeId×Value→H):
  ReturnsInHanded {} Try.checked os 8 .any (Rows.fnWaysSpec.pre6 enc Try.prog Try.f8 Rows.fnWaysRow.domain false) (Rows.fnWaysSpec.post enc Try.prog Try.f8 false true false false):=by
 refine returnsInHanded_of_change_sized (C:=Try.checked) own started (by kernel_rfl) Try.func8
  (ChangeSpec.witness6 (enc:=enc) (C:=Try.checked) false ⟨#[], #[.slice none 0 0],[]⟩ 8 (by kernel_rfl) (by kernel_rfl) (by kernel_rfl) (by kernel_rfl)) ?_
 intro W base args ds gs before hval0 hW hcnd hsz0 _
 have hval: ∀(j:Nat) t v,Try.f8.params[j]? =some t→args[j]? =some v→Value.okWide Try.prog W .any base t v:=hval0
 have hW':=hW
 obtain ⟨p,q,hA0,hV,rfl,hfz,hnd⟩:=hW
 have hA:DataW.TrodAll enc Try.prog W 0 (fun _=>true) true Try.f8.params.toList args.toList ds p:=hA0
 rw [Try.params8] at hA hval
 obtain ⟨v0,vs0,d0,ds0,p0,q0,hargs,rfl,rfl,h0,r0⟩:=trodAll_cons hA
 obtain ⟨rfl,rfl,rfl⟩:=trodAll_nil r0
 obtain rfl:args= #[v0]:=by cases args;simp_all
 obtain ⟨rfl,rfl⟩:=trodVars_none hV
 have k0:=h0
 have lt0: ∀x∈p0,x.block<W.heap.size:=by obtain ⟨m,hm⟩:=k0;exact DataW.trod_lt m _ _ _ hm
 obtain ⟨G0,o0,og0⟩:=oI (enc:=enc) (w:=W) (base:=0) (spare:=fun _=>true) (held:=true)
 obtain ⟨A0,len0,c0,rfl⟩:=okWide_slice Try.underlying22 (hval 0 22 v0 rfl rfl)
 obtain ⟨l0,K0,g0⟩:=oO rfl o0 (fun cs h=>by cases h) h0
 replace g0:=og0 _ g0
 clear hA0 hval0 hsz0
 refine Calls.mono (calls K0 g0) fun e W' hh=> ?_
 obtain ⟨he,bel0⟩:=hh
 have bel:Below W.heap.size W W':=bel0
 subst he
 exact ⟨_,rfl,_,_,_,[],_,[],hW',trodAll_mk1 (shut_bool Try.underlying4 _),(trodAll_cons_mk (Below.trod laidOut (by kernel_rfl) (of_decide_eq_true (by kernel_rfl)) k0 bel lt0) trodAll_mk0),rfl,bel.frame _,fun h=>by cases h⟩
theorem over:Rows.fnWaysRow.holds Try.pinned (OpenSpec.ofChange Rows.fnWaysSpec):=
 OpenClaim.holds_of_wide 8 Try.f8 rfl rfl rfl rfl rfl rfl rfl ⟨rfl,rfl,rfl,rfl,rfl⟩ rfl rfl rfl rfl rfl (by kernel_rfl) Try.func8 (by kernel_rfl)
  (of_decide_eq_true (by kernel_rfl)) (by unfold Func.isWrapper;first | (rw [if_pos (by decide+kernel)];kernel_rfl) | (rw [if_neg (by decide+kernel)];exact ⟨rfl,rfl⟩))
  (fun os started H enc _=>lifted os started H enc)
theorem proved:Rows.FnWaysSaid:=over
#print axioms proved
end Go.Proofs.Ytklmcfpgdfibnaa.fnWays
namespace Go.Proofs.Ytklmcfpgdfibnaa
theorem fnWays_holds:Rows.FnWaysSaid:=fnWays.proved
end Go.Proofs.Ytklmcfpgdfibnaa
