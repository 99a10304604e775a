/- A part of the proof. -/
import Derived.Test.YtklmcfpgdfibnaaPtHpZ
namespace Go.Proofs.Ytklmcfpgdfibnaa.P
open Go Go.Proofs.Ytklmcfpgdfibnaa Go.Proofs.Ytklmcfpgdfibnaa.Eng
set_option linter.unusedVariables false
set_option maxHeartbeats 4000000
set_option linter.unusedVariables false
set_option linter.unusedSimpArgs false
attribute [local irreducible] prP gP gE gF AW ixW ldc ldg ldl stc stg scW mkW apW BK cl2 BW EI CM
variable {w0:World}
abbrev uN (ws:List Wk):Prop:= ∀i,i<8→((wk ws i).used=false→(wk ws i).target=0)∧((wk ws i).used=true→8≤(wk ws i).target∧(wk ws i).target≤7999)
theorem kB {l:List Wk} {i k:Nat} {o:Wk} (hk:k<l.length):wk (l.set k o) i=if i=k then o else wk l i:=by
 unfold wk
 by_cases h:i=k
 ·subst h
  rw [if_pos rfl,List.getD_eq_getElem?_getD,List.getElem?_set_self hk];rfl
 ·rw [if_neg h,List.getD_eq_getElem?_getD,List.getElem?_set_ne (Ne.symm h),List.getD_eq_getElem?_getD]
theorem C0.step {h:Hp} {o:Op5} (hk:C0 h):C0 (HC h o).1:=by
 have hp:=hk.hp
 have hw:uN h.B2:=hk.weak
 have hwl:=hk.wl
 unfold HC
 split
 ·obtain ⟨a,b⟩:=kU (s:=o.site) hp hk.sites
  exact HP.ok a hk.wl b hw
 ·split
  ·exact HP.ok (hp.hold (kd:=o.kind) (id:=o.a)) hk.wl hk.sites hw
  ·split
   ·exact HP.ok (hp.store (a:=o.a) (b:=o.b) (c:=o.c)) hk.wl hk.sites hw
   ·split
    ·refine HP.ok hp (bL.1.trans hk.wl) hk.sites ?_
     unfold KJ
     split
     ·exact hw
     ·rename_i hs
      split
      ·exact hw
      ·rename_i hf
       obtain ⟨f1,f2,f3⟩:=S1 hf
       intro i hi
       rw [kB f1]
       split
       ·have hb:=BL (l:=h.A8) (id:=o.a) (by omega)
        have:=(hk.obj (AB h.A8 o.a).toNat hb.2.2.2.1).gen
        exact ⟨fun hh=>(by cases hh),fun _=>⟨hb.2.1,by simp only;omega⟩⟩
       ·exact hw i hi
    ·split
     ·refine HP.ok hp (U7.1.trans hk.wl) hk.sites ?_
      unfold GK
      split
      ·exact hw
      ·rename_i hb
       split
       ·exact hw
       ·split
        ·intro i hi
         rw [kB (by omega)]
         split
         ·exact ⟨fun _=>rfl,fun hh=>(by cases hh)⟩
         ·exact hw i hi
        ·split
         ·exact hw
         ·exact hw
     ·split
      ·exact HP.ok hp.oO hk.wl hk.sites hw
      ·exact hk
theorem EK {x:Int} (h: -1000000≤x∧x≤1000000):F64 x:=⟨by omega,by omega⟩
theorem C0.cD {h:Hp} (hk:C0 h) {x:Int} (hx:0≤AB h.A8 x):8≤x∧x≤7999:=by
 have hb:=BL hx
 have:=(hk.obj (AB h.A8 x).toNat hb.2.2.2.1).gen
 exact ⟨hb.2.1,by omega⟩
theorem C0.kG {h:Hp} (hk:C0 h):SL h:=by
 have hp:=hk.hp
 refine ⟨fun o ho=> ?_,fun w hw=> ?_,fun b hb=>EK (by have:=hk.cD (hk.VJ hb);omega)⟩
 ·obtain ⟨i,hi,rfl⟩:=List.getElem_of_mem ho
  have hi8:i<8:=by have:=hk.ol;omega
  rw [DN hi]
  have hoi:=hp.obj i hi8
  have hg:=hoi.gen
  have hcb:=hoi.cb
  have hsl:=hk.sites.len
  have hr:=hk.hr i
  have hfd: ∀f∈(ob h.A8 i).field,F64 f:=fun f hf=>by
   by_cases h1:f= -1
   ·subst h1;exact EK (by omega)
   ·exact EK (by have:=hk.cD (hoi.lead f hf h1).2;omega)
  cases hv:(ob h.A8 i).live with
  | false=>
    have:=hoi.dead hv
    exact ⟨EK (by omega),EK (by omega),EK (by omega),EK (by omega),EK (by omega),hfd⟩
  | true=>
    have:=hoi.lv hv
    exact ⟨EK (by omega),EK (by omega),EK (by omega),EK (by omega),EK (by omega),hfd⟩
 ·obtain ⟨i,hi,rfl⟩:=List.getElem_of_mem hw
  rw [YK hi]
  have:=hk.weak i (by have:=hk.wl;omega)
  cases hu:(wk h.B2 i).used with
  | false=>have:=this.1 hu;exact EK (by omega)
  | true=>have:=this.2 hu;exact EK (by omega)
theorem C0.fits {h:Hp} (hk:C0 h):Fits h:=(hk.st hk.kG).fits
def hp0:Hp:=⟨List.replicate 8 (B6 0),List.replicate 8 ⟨false,0⟩,[],[]⟩
theorem lU:C0 hp0:=by
 have eo: ∀i,i<8→ob hp0.A8 i=B6 0:=fun i hi=>by
  unfold hp0 ob;simp only;rw [List.getD_eq_getElem?_getD,List.getElem?_replicate,if_pos hi];rfl
 have ew: ∀i,i<8→wk hp0.B2 i=⟨false,0⟩:=fun i hi=>by
  unfold hp0 wk;simp only;rw [List.getD_eq_getElem?_getD,List.getElem?_replicate,if_pos hi];rfl
 refine ⟨by simp [hp0],by simp [hp0],⟨by simp [hp0],fun i hi=>by simp [hp0] at hi,fun i hi=>by simp [hp0] at hi⟩,fun i hi=> ?_,fun i hi=> ?_,fun i hi=>by simp [hp0] at hi⟩
 ·have e:=eo i hi
  refine ⟨by rw [e];simp [B6],by rw [e];rfl,fun j hj hne=> ?_,fun _=>by rw [e];exact ⟨rfl,rfl,rfl,rfl,rfl⟩,fun hv=>(by rw [e] at hv;cases hv)⟩
  rw [e] at hne
  exfalso;apply hne
  simp only [B6,OD]
  rcases j with _ | _ | _ | j
  ·rfl
  ·rfl
  ·rfl
  ·omega
 ·rw [ew i hi];exact ⟨fun _=>rfl,fun hh=>(by cases hh)⟩
noncomputable def C2 (l:List Op5):Nat→Hp×List An
 | 0=>(hp0,[])
 | i+1=>((HC (C2 l i).1 (po l i)).1,(C2 l i).2++[(HC (C2 l i).1 (po l i)).2])
theorem H9 (l:List Op5): ∀i,C0 (C2 l i).1∧(C2 l i).2.length=i
 | 0=>⟨lU,rfl⟩
 | i+1=>⟨(H9 l i).1.step,by simp only [C2,List.length_append,List.length_singleton,(H9 l i).2]⟩
end Go.Proofs.Ytklmcfpgdfibnaa.P
