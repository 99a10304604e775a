/- A part of the proof. -/
import Derived.Test.YtnhicpkhkaihoaaGreatRcHpZ
namespace Go.Proofs.YtnhicpkhkaihoaaGreat.P
open Go Go.Proofs.YtnhicpkhkaihoaaGreat Go.Proofs.YtnhicpkhkaihoaaGreat.Eng
set_option linter.unusedVariables false
set_option maxHeartbeats 4000000
set_option linter.unusedVariables false
set_option linter.unusedSimpArgs false
attribute [local irreducible] prP gP gE gF AG ixW ldc ldg ldl stc stg scW mkW apW BB cl2 BY FT DG
variable {w0:World}
abbrev zY (ws:List Wk):Prop:= ∀i,i<8→((wk ws i).used=false→(wk ws i).target=0)∧((wk ws i).used=true→8≤(wk ws i).target∧(wk ws i).target≤7999)
theorem rR {l:List Wk} {i k:Nat} {o:Wk} (hk:k<l.length):wk (l.set k o) i=if i=k then o else wk l i:=by
 unfold wk
 by_cases h:i=k
 ·subst h
  rw [if_pos rfl,List.getD_eq_getElem?_getD,List.getElem?_set_self hk];rfl
 ·rw [if_neg h,List.getD_eq_getElem?_getD,List.getElem?_set_ne (Ne.symm h),List.getD_eq_getElem?_getD]
theorem DZ.step {h:Hp} {o:Op5} (hk:DZ h):DZ (KJ h o).1:=by
 have hp:=hk.hp
 have hw:zY h.B9:=hk.weak
 have hwl:=hk.wl
 unfold KJ
 split
 ·obtain ⟨a,b⟩:=qD (s:=o.site) hp hk.sites
  exact HP.ok a hk.wl b hw
 ·split
  ·exact HP.ok (hp.hold (kd:=o.kind) (id:=o.a)) hk.wl hk.sites hw
  ·split
   ·exact HP.ok (hp.store (a:=o.a) (b:=o.b) (c:=o.c)) hk.wl hk.sites hw
   ·split
    ·refine HP.ok hp (gT.1.trans hk.wl) hk.sites ?_
     unfold MS
     split
     ·exact hw
     ·rename_i hs
      split
      ·exact hw
      ·rename_i hf
       obtain ⟨f1,f2,f3⟩:=bX hf
       intro i hi
       rw [rR f1]
       split
       ·have hb:=BN (l:=h.BC) (id:=o.a) (by omega)
        have:=(hk.obj (AB h.BC o.a).toNat hb.2.2.2.1).gen
        exact ⟨fun hh=>(by cases hh),fun _=>⟨hb.2.1,by simp only;omega⟩⟩
       ·exact hw i hi
    ·split
     ·refine HP.ok hp (ZP.1.trans hk.wl) hk.sites ?_
      unfold IB
      split
      ·exact hw
      ·rename_i hb
       split
       ·exact hw
       ·split
        ·intro i hi
         rw [rR (by omega)]
         split
         ·exact ⟨fun _=>rfl,fun hh=>(by cases hh)⟩
         ·exact hw i hi
        ·split
         ·exact hw
         ·exact hw
     ·split
      ·exact HP.ok hp.uU hk.wl hk.sites hw
      ·exact hk
theorem FG {x:Int} (h: -1000000≤x∧x≤1000000):F64 x:=⟨by omega,by omega⟩
theorem DZ.jP {h:Hp} (hk:DZ h) {x:Int} (hx:0≤AB h.BC x):8≤x∧x≤7999:=by
 have hb:=BN hx
 have:=(hk.obj (AB h.BC x).toNat hb.2.2.2.1).gen
 exact ⟨hb.2.1,by omega⟩
theorem DZ.vG {h:Hp} (hk:DZ h):Z3 h:=by
 have hp:=hk.hp
 refine ⟨fun o ho=> ?_,fun w hw=> ?_,fun b hb=>FG (by have:=hk.jP (hk.X4 hb);omega)⟩
 ·obtain ⟨i,hi,rfl⟩:=List.getElem_of_mem ho
  have hi8:i<8:=by have:=hk.ol;omega
  rw [D9 hi]
  have hoi:=hp.obj i hi8
  have hg:=hoi.gen
  have hcb:=hoi.cb
  have hsl:=hk.sites.len
  have hr:=hk.hr i
  have hfd: ∀f∈(ob h.BC i).field,F64 f:=fun f hf=>by
   by_cases h1:f= -1
   ·subst h1;exact FG (by omega)
   ·exact FG (by have:=hk.jP (hoi.lead f hf h1).2;omega)
  cases hv:(ob h.BC i).live with
  | false=>
    have:=hoi.dead hv
    exact ⟨FG (by omega),FG (by omega),FG (by omega),FG (by omega),FG (by omega),hfd⟩
  | true=>
    have:=hoi.lv hv
    exact ⟨FG (by omega),FG (by omega),FG (by omega),FG (by omega),FG (by omega),hfd⟩
 ·obtain ⟨i,hi,rfl⟩:=List.getElem_of_mem hw
  rw [cS hi]
  have:=hk.weak i (by have:=hk.wl;omega)
  cases hu:(wk h.B9 i).used with
  | false=>have:=this.1 hu;exact FG (by omega)
  | true=>have:=this.2 hu;exact FG (by omega)
theorem DZ.fits {h:Hp} (hk:DZ h):Fits h:=(hk.st hk.vG).fits
def hp0:Hp:=⟨List.replicate 8 (CV 0),List.replicate 8 ⟨false,0⟩,[],[]⟩
theorem xO:DZ hp0:=by
 have eo: ∀i,i<8→ob hp0.BC i=CV 0:=fun i hi=>by
  unfold hp0 ob;simp only;rw [List.getD_eq_getElem?_getD,List.getElem?_replicate,if_pos hi];rfl
 have ew: ∀i,i<8→wk hp0.B9 i=⟨false,0⟩:=fun i hi=>by
  unfold hp0 wk;simp only;rw [List.getD_eq_getElem?_getD,List.getElem?_replicate,if_pos hi];rfl
 refine ⟨by simp [hp0],by simp [hp0],⟨by simp [hp0],fun i hi=>by simp [hp0] at hi,fun i hi=>by simp [hp0] at hi⟩,fun i hi=> ?_,fun i hi=> ?_,fun i hi=>by simp [hp0] at hi⟩
 ·have e:=eo i hi
  refine ⟨by rw [e];simp [CV],by rw [e];rfl,fun j hj hne=> ?_,fun _=>by rw [e];exact ⟨rfl,rfl,rfl,rfl,rfl⟩,fun hv=>(by rw [e] at hv;cases hv)⟩
  rw [e] at hne
  exfalso;apply hne
  simp only [CV,QK]
  rcases j with _ | _ | _ | j
  ·rfl
  ·rfl
  ·rfl
  ·omega
 ·rw [ew i hi];exact ⟨fun _=>rfl,fun hh=>(by cases hh)⟩
noncomputable def FH (l:List Op5):Nat→Hp×List An
 | 0=>(hp0,[])
 | i+1=>((KJ (FH l i).1 (po l i)).1,(FH l i).2++[(KJ (FH l i).1 (po l i)).2])
theorem K6 (l:List Op5): ∀i,DZ (FH l i).1∧(FH l i).2.length=i
 | 0=>⟨xO,rfl⟩
 | i+1=>⟨(K6 l i).1.step,by simp only [FH,List.length_append,List.length_singleton,(K6 l i).2]⟩
end Go.Proofs.YtnhicpkhkaihoaaGreat.P
