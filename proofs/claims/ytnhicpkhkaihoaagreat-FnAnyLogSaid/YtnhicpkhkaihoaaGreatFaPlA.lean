/- A part of the proof. -/
import Derived.Test.YtnhicpkhkaihoaaGreatFaHpZ
namespace Go.Proofs.YtnhicpkhkaihoaaGreat.P
open Go Go.Proofs.YtnhicpkhkaihoaaGreat Go.Proofs.YtnhicpkhkaihoaaGreat.Eng
set_option linter.unusedVariables false
set_option maxHeartbeats 4000000
set_option linter.unusedVariables false
set_option linter.unusedSimpArgs false
attribute [local irreducible] prP gP gE gF AU ixW ldc ldg ldl stc stg scW mkW apW BG cl2 BX GP CZ
variable {w0:World}
abbrev Ez (ws:List Wk):Prop:= ∀i,i<8→((wk ws i).used=false→(wk ws i).target=0)∧((wk ws i).used=true→8≤(wk ws i).target∧(wk ws i).target≤7999)
theorem vK {l:List Wk} {i k:Nat} {o:Wk} (hk:k<l.length):wk (l.set k o) i=if i=k then o else wk l i:=by
 unfold wk
 by_cases h:i=k
 ·subst h
  rw [if_pos rfl,List.getD_eq_getElem?_getD,List.getElem?_set_self hk];rfl
 ·rw [if_neg h,List.getD_eq_getElem?_getD,List.getElem?_set_ne (Ne.symm h),List.getD_eq_getElem?_getD]
theorem DU.step {h:Hp} {o:Op5} (hk:DU h):DU (JL h o).1:=by
 have hp:=hk.hp
 have hw:Ez h.B8:=hk.weak
 have hwl:=hk.wl
 unfold JL
 split
 ·obtain ⟨a,b⟩:=vD (s:=o.site) hp hk.sites
  exact HP.ok a hk.wl b hw
 ·split
  ·exact HP.ok (hp.hold (kd:=o.kind) (id:=o.a)) hk.wl hk.sites hw
  ·split
   ·exact HP.ok (hp.store (a:=o.a) (b:=o.b) (c:=o.c)) hk.wl hk.sites hw
   ·split
    ·refine HP.ok hp (kW.1.trans hk.wl) hk.sites ?_
     unfold NX
     split
     ·exact hw
     ·rename_i hs
      split
      ·exact hw
      ·rename_i hf
       obtain ⟨f1,f2,f3⟩:=eC hf
       intro i hi
       rw [vK f1]
       split
       ·have hb:=BV (l:=h.BD) (id:=o.a) (by omega)
        have:=(hk.obj (AD h.BD o.a).toNat hb.2.2.2.1).gen
        exact ⟨fun hh=>(by cases hh),fun _=>⟨hb.2.1,by simp only;omega⟩⟩
       ·exact hw i hi
    ·split
     ·refine HP.ok hp (ZE.1.trans hk.wl) hk.sites ?_
      unfold JB
      split
      ·exact hw
      ·rename_i hb
       split
       ·exact hw
       ·split
        ·intro i hi
         rw [vK (by omega)]
         split
         ·exact ⟨fun _=>rfl,fun hh=>(by cases hh)⟩
         ·exact hw i hi
        ·split
         ·exact hw
         ·exact hw
     ·split
      ·exact HP.ok hp.xF hk.wl hk.sites hw
      ·exact hk
theorem GB {x:Int} (h: -1000000≤x∧x≤1000000):F64 x:=⟨by omega,by omega⟩
theorem DU.kB {h:Hp} (hk:DU h) {x:Int} (hx:0≤AD h.BD x):8≤x∧x≤7999:=by
 have hb:=BV hx
 have:=(hk.obj (AD h.BD x).toNat hb.2.2.2.1).gen
 exact ⟨hb.2.1,by omega⟩
theorem DU.iJ {h:Hp} (hk:DU h):VN h:=by
 have hp:=hk.hp
 refine ⟨fun o ho=> ?_,fun w hw=> ?_,fun b hb=>GB (by have:=hk.kB (hk.bF hb);omega)⟩
 ·obtain ⟨i,hi,rfl⟩:=List.getElem_of_mem ho
  have hi8:i<8:=by have:=hk.ol;omega
  rw [EG hi]
  have hoi:=hp.obj i hi8
  have hg:=hoi.gen
  have hcb:=hoi.cb
  have hsl:=hk.sites.len
  have hr:=hk.hr i
  have hfd: ∀f∈(ob h.BD i).field,F64 f:=fun f hf=>by
   by_cases h1:f= -1
   ·subst h1;exact GB (by omega)
   ·exact GB (by have:=hk.kB (hoi.lead f hf h1).2;omega)
  cases hv:(ob h.BD i).live with
  | false=>
    have:=hoi.dead hv
    exact ⟨GB (by omega),GB (by omega),GB (by omega),GB (by omega),GB (by omega),hfd⟩
  | true=>
    have:=hoi.lv hv
    exact ⟨GB (by omega),GB (by omega),GB (by omega),GB (by omega),GB (by omega),hfd⟩
 ·obtain ⟨i,hi,rfl⟩:=List.getElem_of_mem hw
  rw [eQ hi]
  have:=hk.weak i (by have:=hk.wl;omega)
  cases hu:(wk h.B8 i).used with
  | false=>have:=this.1 hu;exact GB (by omega)
  | true=>have:=this.2 hu;exact GB (by omega)
theorem DU.fits {h:Hp} (hk:DU h):Fits h:=(hk.st hk.iJ).fits
def hp0:Hp:=⟨List.replicate 8 (CT 0),List.replicate 8 ⟨false,0⟩,[],[]⟩
theorem uD:DU hp0:=by
 have eo: ∀i,i<8→ob hp0.BD i=CT 0:=fun i hi=>by
  unfold hp0 ob;simp only;rw [List.getD_eq_getElem?_getD,List.getElem?_replicate,if_pos hi];rfl
 have ew: ∀i,i<8→wk hp0.B8 i=⟨false,0⟩:=fun i hi=>by
  unfold hp0 wk;simp only;rw [List.getD_eq_getElem?_getD,List.getElem?_replicate,if_pos hi];rfl
 refine ⟨by simp [hp0],by simp [hp0],⟨by simp [hp0],fun i hi=>by simp [hp0] at hi,fun i hi=>by simp [hp0] at hi⟩,fun i hi=> ?_,fun i hi=> ?_,fun i hi=>by simp [hp0] at hi⟩
 ·have e:=eo i hi
  refine ⟨by rw [e];simp [CT],by rw [e];rfl,fun j hj hne=> ?_,fun _=>by rw [e];exact ⟨rfl,rfl,rfl,rfl,rfl⟩,fun hv=>(by rw [e] at hv;cases hv)⟩
  rw [e] at hne
  exfalso;apply hne
  simp only [CT,RN]
  rcases j with _ | _ | _ | j
  ·rfl
  ·rfl
  ·rfl
  ·omega
 ·rw [ew i hi];exact ⟨fun _=>rfl,fun hh=>(by cases hh)⟩
noncomputable def DG (l:List Op5):Nat→Hp×List An
 | 0=>(hp0,[])
 | i+1=>((JL (DG l i).1 (po l i)).1,(DG l i).2++[(JL (DG l i).1 (po l i)).2])
theorem ND (l:List Op5): ∀i,DU (DG l i).1∧(DG l i).2.length=i
 | 0=>⟨uD,rfl⟩
 | i+1=>⟨(ND l i).1.step,by simp only [DG,List.length_append,List.length_singleton,(ND l i).2]⟩
end Go.Proofs.YtnhicpkhkaihoaaGreat.P
