/- A part of the proof. -/
import Derived.Test.YtnhicpkhkaihoaaEvHpZ
namespace Go.Proofs.Ytnhicpkhkaihoaa.P
open Go Go.Proofs.Ytnhicpkhkaihoaa Go.Proofs.Ytnhicpkhkaihoaa.Eng
set_option linter.unusedVariables false
set_option maxHeartbeats 4000000
set_option linter.unusedVariables false
set_option linter.unusedSimpArgs false
attribute [local irreducible] prP gP gE gF AI ixW ldc ldg ldl stc stg scW mkW apW BG cl2 BZ EZ DS
variable {w0:World}
abbrev tC (ws:List Wk):Prop:= ∀i,i<8→((wk ws i).used=false→(wk ws i).target=0)∧((wk ws i).used=true→8≤(wk ws i).target∧(wk ws i).target≤7999)
theorem nB {l:List Wk} {i k:Nat} {o:Wk} (hk:k<l.length):wk (l.set k o) i=if i=k then o else wk l i:=by
 unfold wk
 by_cases h:i=k
 ·subst h
  rw [if_pos rfl,List.getD_eq_getElem?_getD,List.getElem?_set_self hk];rfl
 ·rw [if_neg h,List.getD_eq_getElem?_getD,List.getElem?_set_ne (Ne.symm h),List.getD_eq_getElem?_getD]
theorem C7.step {h:Hp} {o:Op5} (hk:C7 h):C7 (L5 h o).1:=by
 have hp:=hk.hp
 have hw:tC h.B9:=hk.weak
 have hwl:=hk.wl
 unfold L5
 split
 ·obtain ⟨a,b⟩:=lC (s:=o.site) hp hk.sites
  exact HP.ok a hk.wl b hw
 ·split
  ·exact HP.ok (hp.hold (kd:=o.kind) (id:=o.a)) hk.wl hk.sites hw
  ·split
   ·exact HP.ok (hp.store (a:=o.a) (b:=o.b) (c:=o.c)) hk.wl hk.sites hw
   ·split
    ·refine HP.ok hp (cM.1.trans hk.wl) hk.sites ?_
     unfold OL
     split
     ·exact hw
     ·rename_i hs
      split
      ·exact hw
      ·rename_i hf
       obtain ⟨f1,f2,f3⟩:=j5 hf
       intro i hi
       rw [nB f1]
       split
       ·have hb:=BQ (l:=h.BB) (id:=o.a) (by omega)
        have:=(hk.obj (AB h.BB o.a).toNat hb.2.2.2.1).gen
        exact ⟨fun hh=>(by cases hh),fun _=>⟨hb.2.1,by simp only;omega⟩⟩
       ·exact hw i hi
    ·split
     ·refine HP.ok hp (VD.1.trans hk.wl) hk.sites ?_
      unfold JA
      split
      ·exact hw
      ·rename_i hb
       split
       ·exact hw
       ·split
        ·intro i hi
         rw [nB (by omega)]
         split
         ·exact ⟨fun _=>rfl,fun hh=>(by cases hh)⟩
         ·exact hw i hi
        ·split
         ·exact hw
         ·exact hw
     ·split
      ·exact HP.ok hp.pS hk.wl hk.sites hw
      ·exact hk
theorem EC {x:Int} (h: -1000000≤x∧x≤1000000):F64 x:=⟨by omega,by omega⟩
theorem C7.bE {h:Hp} (hk:C7 h) {x:Int} (hx:0≤AB h.BB x):8≤x∧x≤7999:=by
 have hb:=BQ hx
 have:=(hk.obj (AB h.BB x).toNat hb.2.2.2.1).gen
 exact ⟨hb.2.1,by omega⟩
theorem C7.nL {h:Hp} (hk:C7 h):VO h:=by
 have hp:=hk.hp
 refine ⟨fun o ho=> ?_,fun w hw=> ?_,fun b hb=>EC (by have:=hk.bE (hk.V3 hb);omega)⟩
 ·obtain ⟨i,hi,rfl⟩:=List.getElem_of_mem ho
  have hi8:i<8:=by have:=hk.ol;omega
  rw [DY hi]
  have hoi:=hp.obj i hi8
  have hg:=hoi.gen
  have hcb:=hoi.cb
  have hsl:=hk.sites.len
  have hr:=hk.hr i
  have hfd: ∀f∈(ob h.BB i).field,F64 f:=fun f hf=>by
   by_cases h1:f= -1
   ·subst h1;exact EC (by omega)
   ·exact EC (by have:=hk.bE (hoi.lead f hf h1).2;omega)
  cases hv:(ob h.BB i).live with
  | false=>
    have:=hoi.dead hv
    exact ⟨EC (by omega),EC (by omega),EC (by omega),EC (by omega),EC (by omega),hfd⟩
  | true=>
    have:=hoi.lv hv
    exact ⟨EC (by omega),EC (by omega),EC (by omega),EC (by omega),EC (by omega),hfd⟩
 ·obtain ⟨i,hi,rfl⟩:=List.getElem_of_mem hw
  rw [bU hi]
  have:=hk.weak i (by have:=hk.wl;omega)
  cases hu:(wk h.B9 i).used with
  | false=>have:=this.1 hu;exact EC (by omega)
  | true=>have:=this.2 hu;exact EC (by omega)
theorem C7.fits {h:Hp} (hk:C7 h):Fits h:=(hk.st hk.nL).fits
def hp0:Hp:=⟨List.replicate 8 (DT 0),List.replicate 8 ⟨false,0⟩,[],[]⟩
theorem kX:C7 hp0:=by
 have eo: ∀i,i<8→ob hp0.BB i=DT 0:=fun i hi=>by
  unfold hp0 ob;simp only;rw [List.getD_eq_getElem?_getD,List.getElem?_replicate,if_pos hi];rfl
 have ew: ∀i,i<8→wk hp0.B9 i=⟨false,0⟩:=fun i hi=>by
  unfold hp0 wk;simp only;rw [List.getD_eq_getElem?_getD,List.getElem?_replicate,if_pos hi];rfl
 refine ⟨by simp [hp0],by simp [hp0],⟨by simp [hp0],fun i hi=>by simp [hp0] at hi,fun i hi=>by simp [hp0] at hi⟩,fun i hi=> ?_,fun i hi=> ?_,fun i hi=>by simp [hp0] at hi⟩
 ·have e:=eo i hi
  refine ⟨by rw [e];simp [DT],by rw [e];rfl,fun j hj hne=> ?_,fun _=>by rw [e];exact ⟨rfl,rfl,rfl,rfl,rfl⟩,fun hv=>(by rw [e] at hv;cases hv)⟩
  rw [e] at hne
  exfalso;apply hne
  simp only [DT,O9]
  rcases j with _ | _ | _ | j
  ·rfl
  ·rfl
  ·rfl
  ·omega
 ·rw [ew i hi];exact ⟨fun _=>rfl,fun hh=>(by cases hh)⟩
noncomputable def L4 (l:List Op5):Nat→Hp×List An
 | 0=>(hp0,[])
 | i+1=>((L5 (L4 l i).1 (po l i)).1,(L4 l i).2++[(L5 (L4 l i).1 (po l i)).2])
theorem RQ (l:List Op5): ∀i,C7 (L4 l i).1∧(L4 l i).2.length=i
 | 0=>⟨kX,rfl⟩
 | i+1=>⟨(RQ l i).1.step,by simp only [L4,List.length_append,List.length_singleton,(RQ l i).2]⟩
end Go.Proofs.Ytnhicpkhkaihoaa.P
