/- A part of the proof. -/
import Derived.Test.YthapfcoajahegaaDoorReEngM6
namespace Go.Proofs.YthapfcoajahegaaDoor.Eng
open Go Go.RowKit
set_option linter.unusedVariables false
theorem hC {W W':World} (b:Below W.heap.size W W') {a:Addr} {u:Value} (h:W.cell? a=some u):W'.cell? a=some u:=by
 have hb:=World.block_lt_of_cell? _ _ h
 unfold World.cell? at h ⊢
 rw [b.block _ hb];exact h
theorem Rel.grow {C:Ctx} {ρ:Rho} {s:St} {W W':World} (h:Rel C ρ s W) (b:Below W.heap.size W W'):Rel C ρ s W':=by
 refine ⟨fun x p ob hp ho=> ?_,h.inj, ?_⟩
 ·obtain ⟨c1,c2,c3,c4⟩:=h.con x p ob hp ho
  refine ⟨c1,fun i y hy=> ?_,fun hw=> ?_,c4⟩
  ·obtain ⟨u,hu,hr⟩:=c2 i y hy
   exact ⟨u,hC b hu,hr⟩
  ·obtain ⟨d1,cs,e,d2,d3⟩:=c3 hw
   refine ⟨d1,cs,e, ?_,d3⟩
   have hlt:p.b<W.heap.size:=by
    rcases Nat.lt_or_ge p.b W.heap.size with hh | hh
    ·exact hh
    ·rw [Array.getElem?_eq_none (by omega)] at d2;cases d2
   rw [b.block _ hlt];exact d2
 ·have h0:=h.bel
  exact ⟨b.os.trans h0.os,b.tape.trans h0.tape,b.output.trans h0.output,Nat.le_trans h0.size b.size,fun k hk=>(b.block k (Nat.lt_of_lt_of_le hk h0.size)).trans (h0.block k hk)⟩
theorem lS {C:Ctx} {f:FuncId} {c:Int} {w:ByteArray} {s:St} (h: ∀W,Below C.w0.heap.size C.w0 W→Calls C.P f #[.int .i64 c] W fun e W'=>e= .returned (.string w)∧Below W.heap.size W W'):gL C f [.int .i64 c] s (.string w) s:=by
 refine ⟨Nat.le_refl _,fun ρ W vs _ hR hv=> ?_⟩
 obtain ⟨u,rfl⟩: ∃u,vs=[u]:=by
  cases vs with
  | nil=>exact hv.elim
  | cons u r=>cases r with
    | nil=>exact ⟨u,rfl⟩
    | cons _ _=>exact hv.2.elim
 have hu:u= .int .i64 c:=K3 hv.1
 subst hu
 refine (h W hR.bel).mono ?_
 rintro e W' ⟨rfl,b⟩
 exact ⟨ρ,⟨Nat.le_refl _,Sub.refl _,fun _ _=>rfl,b.size,fun k hk _=>b.block k hk,fun k _ ho=>ho⟩,hR.grow b,rfl⟩
theorem nS {C:Ctx} {f:FuncId} {c:Int} {w:ByteArray} {K:J2} (h: ∀W,Below C.w0.heap.size C.w0 W→Calls C.P f #[.int .i64 c] W fun e W'=>e= .returned (.string w)∧Below W.heap.size W W') (hK:K [.string w] []):cl2 C f ⟨[(0,[.v])],[(0,[.v])],[]⟩ [.int .i64 c] [] K:=by
 intro s as sv M D hP hM hD
 simp only [OX,C1] at hP
 obtain ⟨a,as',us,v1,v2,c1,c2,s1,s2,M1,M2,D1,D2,rfl,e1,e2,rfl,rfl,⟨u,us',vs',rfl,e3,hpl,rfl,rfl,rfl,rfl,rfl,rfl⟩,⟨rfl,rfl,rfl,rfl,rfl,rfl⟩,e4,rfl⟩:=hP
 cases e4
 have e5:a=Value.int .i64 c:=by rw [e3] at e1;simpa using e1.symm
 subst e5
 refine ⟨.string w,s,[],[.string w],[],lS h,fun _ _ _=>rfl,⟨[.string w],[.string w],[],[],[],[],[],[],[],rfl,by simp [MD],rfl,rfl,rfl, ?_, ?_, ?_⟩,List.nodup_nil,by simp,Nat.le_refl _,hK⟩
 ·simp only [UN,LV]
  exact ⟨.string w,[],[.string w],[.string w],[],[],[],[],[],rfl,rfl,rfl,⟨.string w,[],[],rfl,rfl,rfl,rfl,rfl,rfl,rfl⟩,⟨rfl,rfl,rfl,rfl⟩,rfl,rfl⟩
 ·simp only [Q4]
  exact ⟨_,[],rfl,by simp⟩
 ·simp [CU,PN]
end Go.Proofs.YthapfcoajahegaaDoor.Eng
