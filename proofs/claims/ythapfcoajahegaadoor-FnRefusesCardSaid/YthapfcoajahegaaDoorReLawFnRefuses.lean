/- FnRefuses, as a tied card, is proved: for each input the law returns true, and the input reads behind the call as it read before. Conditions: nothing is asked of the input; the tables acceptRanges and first of package utf8 hold what the text of the library lays, which the card ties. -/
import Derived.Test.YthapfcoajahegaaDoorCards
import Derived.Test.YthapfcoajahegaaDoorTie
import Derived.Test.YthapfcoajahegaaDoorReRefC
import Derived.Test.YthapfcoajahegaaDoorReCwA
import Derived.Test.YthapfcoajahegaaDoorReRowB
import Derived.WalkKit
import Derived.ProofKit
import Derived.OpenShut
import Derived.ShutString
import Derived.ChangeOld
import Derived.Below
import Derived.SizedLaws
import Derived.Deep.DeepHandedRow
import Derived.Lib.LaidTab
namespace Go.Proofs.YthapfcoajahegaaDoor.fnRefuses
open Go Go.ChangeShapes Go.WideShapes Go.ChangeAt Go.RowKit Go.Proofs.YthapfcoajahegaaDoor.Open Go.Proofs.YthapfcoajahegaaDoor.Eng Go.Proofs.YthapfcoajahegaaDoor.P
set_option linter.unusedVariables false
theorem own:ownKnob Tryd.prog.godebug=none:=by kernel_rfl
theorem laidOut:laidOutB Tryd.prog=true:=by kernel_rfl
theorem calls {W:World} {m:Int} (hm:W.cell? ⟨0,0,none⟩=some (.int .i64 m)) {a0:List Int} {u0:Value} (K0:dBs.K W a0 [u0]) (g0:VT a0):
  Calls Tryd.prog 3 #[u0] W fun e W'=>e= .returned (.bool true)∧Below W.heap.size W W':=by
 obtain ⟨ρ0,s0,es0,L0,A0,E0⟩:=dBs.lay (C:=⟨Tryd.prog,W⟩) vH (fun _ _=>rfl) K0
 obtain ⟨v0,F0,rfl,T0⟩:=lQ E0
 have B0:=(A0).1
 refine lD (C:=⟨Tryd.prog,W⟩) (g:=GH.sg) (es:=[v0]) (args:=[u0]) (sv:=[v0]) (vs:=[]) (cs:=[tY a0]) (D:=((F0++[])++[])) L0.rel L0.top
  ⟨(uD T0 B0),trivial⟩ ?_ rfl (GH.cl2 (ZH g0 (fun c _=>TJ hm c) rfl))
 exact (uZ (oJ T0 oI) uQ)
def tab1:List (DataW Unit)→List Value
 | []=>[]
 | .lit l::r=>l.value::tab1 r
 | _::r=>tab1 r
def tab2:List (DataW Unit)→List Value
 | []=>[]
 | .agg l::r=>tab1 l++tab2 r
 | _::r=>tab2 r
def tabOf:DataW Unit→Array Value
 | .agg l=>(tab1 l++tab2 l).toArray
 | _=> #[]
def put (c:Array Value):Obj→Obj
 | .cells _ t frozen=> .cells c t frozen
 | o=>o
noncomputable def laidWorld (os:Os):World:=
 {World.holding Tryd.prog os ⟨#[], #[],[]⟩ with heap:=((World.holding Tryd.prog os ⟨#[], #[],[]⟩).heap.modify 1 (put (tabOf Rows.laid_unicode_utf8_first))).modify 2 (put (tabOf Rows.laid_unicode_utf8_acceptRanges))}
theorem laid_met (os:Os):laidMet Tryd.prog Rows.fnRefusesRow.laid ((laidWorld os).forCall (fun _ _=>0) ⟨#[], #[.slice none 0 0],[]⟩).memory:=
 laidMet_of_run' 8 (by kernel_rfl) (by kernel_rfl)
theorem reads (os:Os) {H:Type} (enc:TypeId×Value→H): ∃places,DataW.whole enc Tryd.prog ((laidWorld os).forCall (fun _ _=>0) ⟨#[], #[.slice none 0 0],[]⟩).memory Tryd.f3.params.toList Rows.fnRefusesSpec.vars false #[Value.slice none 0 0].toList 8=some ([.nil],[],places):=
 ⟨[],by kernel_rfl⟩
set_option maxRecDepth 100000 in
theorem lifted (os:Os) (started:os.Started) (H:Type) (enc:TypeId×Value→H) (F:Stop.Interp):
  ReturnsInHanded {} Tryd.checked os 3 .any ((OpenSpec.ofChange Rows.fnRefusesSpec).preRow enc Tryd.prog Tryd.f3 Rows.fnRefusesRow.domain false Rows.fnRefusesRow.laid) (((OpenSpec.ofChange Rows.fnRefusesSpec).at F).post enc Tryd.prog Tryd.f3 false true false false):=by
 obtain ⟨places,hx⟩:=reads os enc
 refine returnsInHanded_of_row (C:=Tryd.checked) (s:=OpenSpec.ofChange Rows.fnRefusesSpec) own started (by kernel_rfl) Tryd.func3
  (witness_row_at (enc:=enc) (C:=Tryd.checked) false (laidWorld os) #[.slice none 0 0] rfl (by kernel_rfl) (by kernel_rfl) (by kernel_rfl)
   (OpenSpec.preRow_of_cond 8 hx (by kernel_rfl) (fun k hk=>by cases hk) (by kernel_rfl) (laid_met os))) ?_
 intro W base args ds gs before hval0 hW _ _ _ _ hS _
 obtain ⟨m,hm⟩:=Tryd.jT.s1_3 W hS
 have hval: ∀(j:Nat) t v,Tryd.f3.params[j]? =some t→args[j]? =some v→Value.okWide Tryd.prog W .any base t v:=hval0
 have hW':=hW
 obtain ⟨p,q,hA0,hV,rfl,hfz,hnd⟩:=hW
 have hA:DataW.TrodAll enc Tryd.prog W 0 (fun _=>true) true Tryd.f3.params.toList args.toList ds p:=hA0
 rw [Tryd.params3] at hA hval
 obtain ⟨v0,vs0,d0,ds0,p0,q0,hargs,rfl,rfl,h0,r0⟩:=trodAll_cons hA
 obtain ⟨rfl,rfl,rfl⟩:=trodAll_nil r0
 obtain rfl:args= #[v0]:=by cases args;simp_all
 obtain ⟨rfl,rfl⟩:=trodVars_none hV
 have k0:=h0
 have lt0: ∀x∈p0,x.block<W.heap.size:=by obtain ⟨m,hm⟩:=k0;exact DataW.trod_lt m _ _ _ hm
 obtain ⟨G0,o0,og0⟩:=mR (enc:=enc) (w:=W) (base:=0) (spare:=fun _=>true) (held:=true)
 obtain ⟨A0,len0,c0,rfl⟩:=okWide_slice Tryd.underlying22 (hval 0 22 v0 rfl rfl)
 obtain ⟨l0,K0,g0⟩:=n4 rfl o0 (fun cs h=>by cases h) h0
 replace g0:=og0 _ g0
 clear hA0 hval0
 refine Calls.mono (calls hm K0 g0) fun e W' hh=> ?_
 obtain ⟨he,bel0⟩:=hh
 have bel:Below W.heap.size W W':=bel0
 subst he
 exact ⟨_,rfl,_,_,_,[],_,[],hW',trodAll_mk1 (shut_bool Tryd.underlying4 _),(trodAll_cons_mk (Below.trod laidOut (by kernel_rfl) (of_decide_eq_true (by kernel_rfl)) k0 bel lt0) trodAll_mk0),rfl,bel.frame _,fun h=>by cases h⟩
theorem said:Rows.FnRefusesSaid:=
 OpenClaim.holds_of_cond 3 Tryd.f3 rfl rfl rfl rfl rfl rfl rfl ⟨rfl,rfl,rfl,rfl,rfl⟩ rfl rfl rfl rfl rfl (by kernel_rfl) Tryd.func3 (by kernel_rfl)
  (of_decide_eq_true (by kernel_rfl)) (by unfold Func.isWrapper;first | (rw [if_pos (by decide+kernel)];kernel_rfl) | (rw [if_neg (by decide+kernel)];exact ⟨rfl,rfl⟩))
  (fun os started H enc _ F=>by rw [OpenClaim.pre_eq_preRow];exact lifted os started H enc F)
theorem plain (f:FuncId) (fn:Func) (hf:Tryd.pinned.checked.prog.funcNamed Rows.fnRefusesRow.func=some f) (hfn:Tryd.pinned.checked.prog.funcs[f]? =some fn):
  false=Tryd.pinned.checked.prog.looks []∧ ∀(j:Nat) t,fn.params[j]? =some t→Tryd.pinned.checked.prog.wantsStandIn t=false:=by
 obtain rfl:f=3:=Option.some.inj ((show Tryd.prog.funcNamed Rows.fnRefusesRow.func=some 3 by kernel_rfl).symm.trans hf) |>.symm
 obtain rfl:fn=Tryd.f3:=(Option.some.inj (Tryd.func3.symm.trans hfn)).symm
 refine ⟨by kernel_rfl,fun j t ht=> ?_⟩
 rw [Tryd.params3] at ht
 obtain rfl:t=22:=by simpa using Array.mem_of_getElem? ht
 exact (show Tryd.prog.wantsStandIn 22=false by kernel_rfl)
theorem card:Rows.FnRefusesCardSaid:=
 Claim7.holds_tied_plain_at .later [] _ _ _ _ said (fun _ h=>by cases h) (by kernel_rfl) (fun _ h=>by cases h) fnRefuses_row_tie rfl ⟨rfl,rfl⟩ (by kernel_rfl) rfl plain (by kernel_rfl)
#print axioms card
end Go.Proofs.YthapfcoajahegaaDoor.fnRefuses
namespace Go.Proofs.YthapfcoajahegaaDoor
theorem fnRefuses_holds:Rows.FnRefusesCardSaid:=fnRefuses.card
end Go.Proofs.YthapfcoajahegaaDoor
