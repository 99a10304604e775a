/- A part of the proof. -/
import Derived.Test.YtklmcfpgdfibnaaNwHpZ
namespace Go.Proofs.Ytklmcfpgdfibnaa.P
open Go Go.Proofs.Ytklmcfpgdfibnaa Go.Proofs.Ytklmcfpgdfibnaa.Eng
set_option linter.unusedVariables false
set_option maxHeartbeats 4000000
set_option linter.unusedVariables false
set_option linter.unusedSimpArgs false
attribute [local irreducible] prP gP gE gF AV ixW ldc ldg ldl stc stg scW mkW apW BL cl2 BS EC CX
variable {w0:World}
abbrev sG (ws:List Wk):Prop:= ∀i,i<8→((wk ws i).used=false→(wk ws i).target=0)∧((wk ws i).used=true→8≤(wk ws i).target∧(wk ws i).target≤7999)
theorem kA {l:List Wk} {i k:Nat} {o:Wk} (hk:k<l.length):wk (l.set k o) i=if i=k then o else wk l i:=by
 unfold wk
 by_cases h:i=k
 ·subst h
  rw [if_pos rfl,List.getD_eq_getElem?_getD,List.getElem?_set_self hk];rfl
 ·rw [if_neg h,List.getD_eq_getElem?_getD,List.getElem?_set_ne (Ne.symm h),List.getD_eq_getElem?_getD]
theorem DB.step {h:Hp} {o:Op5} (hk:DB h):DB (GX h o).1:=by
 have hp:=hk.hp
 have hw:sG h.CA:=hk.weak
 have hwl:=hk.wl
 unfold GX
 split
 ·obtain ⟨a,b⟩:=lC (s:=o.site) hp hk.sites
  exact HP.ok a hk.wl b hw
 ·split
  ·exact HP.ok (hp.hold (kd:=o.kind) (id:=o.a)) hk.wl hk.sites hw
  ·split
   ·exact HP.ok (hp.store (a:=o.a) (b:=o.b) (c:=o.c)) hk.wl hk.sites hw
   ·split
    ·refine HP.ok hp (jW.1.trans hk.wl) hk.sites ?_
     unfold KJ
     split
     ·exact hw
     ·rename_i hs
      split
      ·exact hw
      ·rename_i hf
       obtain ⟨f1,f2,f3⟩:=W7 hf
       intro i hi
       rw [kA f1]
       split
       ·have hb:=BN (l:=h.BB) (id:=o.a) (by omega)
        have:=(hk.obj (AB h.BB o.a).toNat hb.2.2.2.1).gen
        exact ⟨fun hh=>(by cases hh),fun _=>⟨hb.2.1,by simp only;omega⟩⟩
       ·exact hw i hi
    ·split
     ·refine HP.ok hp (dJ.1.trans hk.wl) hk.sites ?_
      unfold GO
      split
      ·exact hw
      ·rename_i hb
       split
       ·exact hw
       ·split
        ·intro i hi
         rw [kA (by omega)]
         split
         ·exact ⟨fun _=>rfl,fun hh=>(by cases hh)⟩
         ·exact hw i hi
        ·split
         ·exact hw
         ·exact hw
     ·split
      ·exact HP.ok hp.oD hk.wl hk.sites hw
      ·exact hk
theorem EJ {x:Int} (h: -1000000≤x∧x≤1000000):F64 x:=⟨by omega,by omega⟩
theorem DB.aJ {h:Hp} (hk:DB h) {x:Int} (hx:0≤AB h.BB x):8≤x∧x≤7999:=by
 have hb:=BN hx
 have:=(hk.obj (AB h.BB x).toNat hb.2.2.2.1).gen
 exact ⟨hb.2.1,by omega⟩
theorem DB.l5 {h:Hp} (hk:DB h):T7 h:=by
 have hp:=hk.hp
 refine ⟨fun o ho=> ?_,fun w hw=> ?_,fun b hb=>EJ (by have:=hk.aJ (hk.VQ hb);omega)⟩
 ·obtain ⟨i,hi,rfl⟩:=List.getElem_of_mem ho
  have hi8:i<8:=by have:=hk.ol;omega
  rw [DH hi]
  have hoi:=hp.obj i hi8
  have hg:=hoi.gen
  have hcb:=hoi.cb
  have hsl:=hk.sites.len
  have hr:=hk.hr i
  have hfd: ∀f∈(ob h.BB i).field,F64 f:=fun f hf=>by
   by_cases h1:f= -1
   ·subst h1;exact EJ (by omega)
   ·exact EJ (by have:=hk.aJ (hoi.lead f hf h1).2;omega)
  cases hv:(ob h.BB i).live with
  | false=>
    have:=hoi.dead hv
    exact ⟨EJ (by omega),EJ (by omega),EJ (by omega),EJ (by omega),EJ (by omega),hfd⟩
  | true=>
    have:=hoi.lv hv
    exact ⟨EJ (by omega),EJ (by omega),EJ (by omega),EJ (by omega),EJ (by omega),hfd⟩
 ·obtain ⟨i,hi,rfl⟩:=List.getElem_of_mem hw
  rw [XQ hi]
  have:=hk.weak i (by have:=hk.wl;omega)
  cases hu:(wk h.CA i).used with
  | false=>have:=this.1 hu;exact EJ (by omega)
  | true=>have:=this.2 hu;exact EJ (by omega)
theorem DB.fits {h:Hp} (hk:DB h):Fits h:=(hk.st hk.l5).fits
def hp0:Hp:=⟨List.replicate 8 (B4 0),List.replicate 8 ⟨false,0⟩,[],[]⟩
theorem SP:DB hp0:=by
 have eo: ∀i,i<8→ob hp0.BB i=B4 0:=fun i hi=>by
  unfold hp0 ob;simp only;rw [List.getD_eq_getElem?_getD,List.getElem?_replicate,if_pos hi];rfl
 have ew: ∀i,i<8→wk hp0.CA i=⟨false,0⟩:=fun i hi=>by
  unfold hp0 wk;simp only;rw [List.getD_eq_getElem?_getD,List.getElem?_replicate,if_pos hi];rfl
 refine ⟨by simp [hp0],by simp [hp0],⟨by simp [hp0],fun i hi=>by simp [hp0] at hi,fun i hi=>by simp [hp0] at hi⟩,fun i hi=> ?_,fun i hi=> ?_,fun i hi=>by simp [hp0] at hi⟩
 ·have e:=eo i hi
  refine ⟨by rw [e];simp [B4],by rw [e];rfl,fun j hj hne=> ?_,fun _=>by rw [e];exact ⟨rfl,rfl,rfl,rfl,rfl⟩,fun hv=>(by rw [e] at hv;cases hv)⟩
  rw [e] at hne
  exfalso;apply hne
  simp only [B4,N9]
  rcases j with _ | _ | _ | j
  ·rfl
  ·rfl
  ·rfl
  ·omega
 ·rw [ew i hi];exact ⟨fun _=>rfl,fun hh=>(by cases hh)⟩
noncomputable def C8 (l:List Op5):Nat→Hp×List An
 | 0=>(hp0,[])
 | i+1=>((GX (C8 l i).1 (po l i)).1,(C8 l i).2++[(GX (C8 l i).1 (po l i)).2])
theorem LK (l:List Op5): ∀i,DB (C8 l i).1∧(C8 l i).2.length=i
 | 0=>⟨SP,rfl⟩
 | i+1=>⟨(LK l i).1.step,by simp only [C8,List.length_append,List.length_singleton,(LK l i).2]⟩
end Go.Proofs.Ytklmcfpgdfibnaa.P
