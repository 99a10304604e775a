/- The law FnExactLedger is proved: whatever the arguments are, it returns true, and they read behind the call as they read before. Conditions: none; nothing is asked of the arguments. -/
import Derived.Test.YthapfcoajahegaaRows
import Derived.Test.YthapfcoajahegaaAlLedG
import Derived.Test.YthapfcoajahegaaAlRowO
import Derived.WalkKit
import Derived.ProofKit
import Derived.OpenShut
import Derived.ShutString
import Derived.ChangeOld
import Derived.Below
import Derived.SizedLaws
namespace Go.Proofs.Ythapfcoajahegaa.fnExactLedger
open Go Go.ChangeShapes Go.WideShapes Go.ChangeAt Go.RowKit Go.Proofs.Ythapfcoajahegaa.Open Go.Proofs.Ythapfcoajahegaa.Eng Go.Proofs.Ythapfcoajahegaa.P
open Go.ChangeMaps (open_string shut_string)
set_option linter.unusedVariables false
theorem own:ownKnob Try.prog.godebug=none:=by kernel_rfl
theorem laidOut:laidOutB Try.prog=true:=by kernel_rfl
theorem calls {W:World} {a0:List AOp} {u0:Value} (K0:j6.K W a0 [u0]) (g0:O6 a0) {a1:List AAn} {u1:Value} (K1:oK.K W a1 [u1]) (g1:O5 a1):
  Calls Try.prog 3 #[u0,u1] W fun e W'=>e= .returned (.bool true)∧Below W.heap.size W W':=by
 obtain ⟨ρ0,s0,es0,L0,A0,E0⟩:=j6.lay (C:=⟨Try.prog,W⟩) tQ (fun _ _=>rfl) K0
 obtain ⟨ρ1,s1,es1,L1,A1,E1⟩:=oK.lay (C:=⟨Try.prog,W⟩) L0.rel L0.top K1
 obtain ⟨v0,F0,rfl,T0⟩:=hC (j6.E_ext L1.ext E0)
 have B0:=((KU (fun _ _=>J7 L1.sub) A0)).1
 obtain ⟨v1,F1,rfl,T1⟩:=iA E1
 have B1:=(A1).1
 refine jT (C:=⟨Try.prog,W⟩) (g:=B8.sg) (es:=[v0,v1]) (args:=[u0,u1]) (sv:=[v0,v1]) (vs:=[]) (cs:=[tR tP (V5 a0),tR tA (VW a1)]) (D:=((F0++[])++((F1++[])++[]))) L1.rel L1.top
  ⟨(oV T0 B0),(oV T1 B1),trivial⟩ ?_ rfl (B8.cl2 (SZ g0 g1 rfl))
 exact (oY (eQ T0 e8) (oY (eQ T1 e8) rI))
set_option maxRecDepth 100000 in
theorem lifted (os:Os) (started:os.Started) (H:Type) (enc:TypeId×Value→H):
  ReturnsInHanded {} Try.checked os 3 .any (Rows.fnExactLedgerSpec.pre6 enc Try.prog Try.f3 Rows.fnExactLedgerRow.domain false) (Rows.fnExactLedgerSpec.post enc Try.prog Try.f3 false true false false):=by
 refine returnsInHanded_of_change_sized (C:=Try.checked) own started (by kernel_rfl) Try.func3
  (ChangeSpec.witness6 (enc:=enc) (C:=Try.checked) false ⟨#[], #[.slice none 0 0, .slice none 0 0],[]⟩ 8 (by kernel_rfl) (by kernel_rfl) (by kernel_rfl) (by kernel_rfl)) ?_
 intro W base args ds gs before hval0 hW hcnd hsz0 _
 have hval: ∀(j:Nat) t v,Try.f3.params[j]? =some t→args[j]? =some v→Value.okWide Try.prog W .any base t v:=hval0
 have hW':=hW
 obtain ⟨p,q,hA0,hV,rfl,hfz,hnd⟩:=hW
 have hA:DataW.TrodAll enc Try.prog W 0 (fun _=>true) true Try.f3.params.toList args.toList ds p:=hA0
 rw [Try.params3] at hA hval
 obtain ⟨v0,vs0,d0,ds0,p0,q0,hargs,rfl,rfl,h0,r0⟩:=trodAll_cons hA
 obtain ⟨v1,vs1,d1,ds1,p1,q1,rfl,rfl,rfl,h1,r1⟩:=trodAll_cons r0
 obtain ⟨rfl,rfl,rfl⟩:=trodAll_nil r1
 obtain rfl:args= #[v0,v1]:=by cases args;simp_all
 obtain ⟨rfl,rfl⟩:=trodVars_none hV
 have k0:=h0
 have lt0: ∀x∈p0,x.block<W.heap.size:=by obtain ⟨m,hm⟩:=k0;exact DataW.trod_lt m _ _ _ hm
 obtain ⟨G0,o0,og0⟩:=lZ (enc:=enc) (w:=W) (base:=0) (spare:=fun _=>true) (held:=true)
 obtain ⟨A0,len0,c0,rfl⟩:=okWide_slice Try.underlying22 (hval 0 22 v0 rfl rfl)
 obtain ⟨l0,K0,g0⟩:=dP rfl o0 (fun cs h=>by cases h) h0
 replace g0:=og0 _ g0
 have k1:=h1
 have lt1: ∀x∈p1,x.block<W.heap.size:=by obtain ⟨m,hm⟩:=k1;exact DataW.trod_lt m _ _ _ hm
 obtain ⟨G1,o1,og1⟩:=jQ (enc:=enc) (w:=W) (base:=0) (spare:=fun _=>true) (held:=true)
 obtain ⟨A1,len1,c1,rfl⟩:=okWide_slice Try.underlying23 (hval 1 23 v1 rfl rfl)
 obtain ⟨l1,K1,g1⟩:=dP rfl o1 (fun cs h=>by cases h) h1
 replace g1:=og1 _ g1
 clear hA0 hval0 hsz0
 refine Calls.mono (calls K0 g0 K1 g1) fun e W' hh=> ?_
 obtain ⟨he,bel0⟩:=hh
 have bel:Below W.heap.size W W':=bel0
 subst he
 exact ⟨_,rfl,_,_,_,[],_,[],hW',trodAll_mk1 (shut_bool Try.underlying4 _),(trodAll_cons_mk (Below.trod laidOut (by kernel_rfl) (of_decide_eq_true (by kernel_rfl)) k0 bel lt0) (trodAll_cons_mk (Below.trod laidOut (by kernel_rfl) (of_decide_eq_true (by kernel_rfl)) k1 bel lt1) trodAll_mk0)),rfl,bel.frame _,fun h=>by cases h⟩
theorem over:Rows.fnExactLedgerRow.holds Try.pinned (OpenSpec.ofChange Rows.fnExactLedgerSpec):=
 OpenClaim.holds_of_wide 3 Try.f3 rfl rfl rfl rfl rfl rfl rfl ⟨rfl,rfl,rfl,rfl,rfl⟩ rfl rfl rfl rfl rfl (by kernel_rfl) Try.func3 (by kernel_rfl)
  (of_decide_eq_true (by kernel_rfl)) (by unfold Func.isWrapper;first | (rw [if_pos (by decide+kernel)];kernel_rfl) | (rw [if_neg (by decide+kernel)];exact ⟨rfl,rfl⟩))
  (fun os started H enc _=>lifted os started H enc)
theorem proved:Rows.FnExactLedgerSaid:=over
#print axioms proved
end Go.Proofs.Ythapfcoajahegaa.fnExactLedger
namespace Go.Proofs.Ythapfcoajahegaa
theorem fnExactLedger_holds:Rows.FnExactLedgerSaid:=fnExactLedger.proved
end Go.Proofs.Ythapfcoajahegaa
