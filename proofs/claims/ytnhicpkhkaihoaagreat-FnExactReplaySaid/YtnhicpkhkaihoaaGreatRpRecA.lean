/- A part of the proof. -/
import Derived.Test.YtnhicpkhkaihoaaGreatRpDrB
import Derived.Test.YtnhicpkhkaihoaaGreatRpCodB
namespace Go.Proofs.YtnhicpkhkaihoaaGreat.P
open Go Go.Proofs.YtnhicpkhkaihoaaGreat Go.Proofs.YtnhicpkhkaihoaaGreat.Eng
set_option linter.unusedVariables false
set_option maxHeartbeats 4000000
set_option linter.unusedVariables false
set_option linter.unusedSimpArgs false
attribute [local irreducible] prP gP gE gF AG ixW ldc ldg ldl stc stg scW mkW apW BA cl2 B6 G8 C3
variable {w0:World}
theorem mC {l:List Op5} (ho: ∀o∈l,OpF o): ∀i,i≤l.length→ ∀a∈(FJ l i).2,a.freed.length≤9
 | 0,_=>by simp [FJ]
 | i+1,hi=>fun a ha=>by
   simp only [FJ] at ha
   rcases List.mem_append.1 ha with ha | ha
   ·exact mC ho i (by omega) a ha
   ·have ha:a=(KD (FJ l i).1 (po l i)).2:=by simpa using ha
    subst ha
    have ok:=(OS l i).1
    exact (Z0 (ok.st ok.rT) (by rw [←l6 (by omega)];exact (ho _ (List.getElem_mem _)).c)).fr
theorem dR {l m:List Int} {K:J2} (hl:(l.length:Int)<2^62) (h:K [.bool (decide (l=m))] []):cl2 ⟨Tryz.prog,w0⟩ 38 IP.sg [] [tI l,tI m] K:=by
 refine IP.cl2 ?_
 unfold IP.txt
 simp only [AE]
 refine ZB (WK (fun hne=> ?_) fun he=> ?_)
 ·rw [decide_eq_false (fun hh=>hne (by rw [hh]))] at h;exact h
 ·refine S9 (fun i=>[iv i]) (fun _=>[]) l.length (fun i=>l.take i=m.take i) (fun R i hi hP hR=> ?_) (i:=0) (Nat.zero_le _) (by simp)
  refine IV (AH (fun hlt=> ?_) fun hge=> ?_)
  ·have hlt':i<m.length:=he ▸ hlt
   refine AW hlt (L6 hlt (AW hlt' (L6 hlt' (VF (iN (fun hne=> ?_) fun heq=> ?_)))))
   ·rw [decide_eq_false (fun hh=>hne (by subst hh;rfl))] at h;exact h
   ·exact AX (by omega) (hR hlt (by rw [List.take_succ_eq_append_getElem hlt,List.take_succ_eq_append_getElem hlt',hP,heq]))
  ·have:l=m:=by
    rw [List.take_of_length_le (by omega),List.take_of_length_le (by omega)] at hP;exact hP
   rw [decide_eq_true this] at h;exact h
theorem Y0 {l m:List Int} {K:J2} (hl:(l.length:Int)<2^62) (h:K [.bool (decide (l=m))] []):cl2 ⟨Tryz.prog,w0⟩ 86 GR.sg [] [tI l,tI m] K:=by
 refine GR.cl2 ?_
 unfold GR.txt
 simp only [AE]
 refine ZB (WK (fun hne=> ?_) fun he=> ?_)
 ·rw [decide_eq_false (fun hh=>hne (by rw [hh]))] at h;exact h
 ·refine S9 (fun i=>[iv l.length,iv i]) (fun _=>[]) l.length (fun i=>l.take i=m.take i) (fun R i hi hP hR=> ?_) (i:=0) (Nat.zero_le _) (by simp)
  refine IV (AH (fun hlt=> ?_) fun hge=> ?_)
  ·have hlt':i<m.length:=he ▸ hlt
   refine AW hlt (L6 hlt (AW hlt' (L6 hlt' (VF (iN (fun hne=> ?_) fun heq=> ?_)))))
   ·rw [decide_eq_false (fun hh=>hne (by subst hh;rfl))] at h;exact h
   ·exact AX (by omega) (hR hlt (by rw [List.take_succ_eq_append_getElem hlt,List.take_succ_eq_append_getElem hlt',hP,heq]))
  ·have:l=m:=by
    rw [List.take_of_length_le (by omega),List.take_of_length_le (by omega)] at hP;exact hP
   rw [decide_eq_true this] at h;exact h
theorem wB {a b:An} (h:a.code≠b.code):decide (a=b)=false:=decide_eq_false (fun hh=>h (by rw [hh]))
theorem tZ {a b:An} (h:a.val≠b.val):decide (a=b)=false:=decide_eq_false (fun hh=>h (by rw [hh]))
theorem uQ {a b:An} (h1:a.code=b.code) (h2:a.val=b.val):decide (a.freed=b.freed)=decide (a=b):=by
 obtain ⟨a1,a2,a3⟩:=a
 obtain ⟨b1,b2,b3⟩:=b
 simp only at h1 h2
 subst h1;subst h2
 simp
theorem WM {a b:An} {K:J2} (hl:(a.freed.length:Int)<2^62) (h:K [.bool (decide (a=b))] []):cl2 ⟨Tryz.prog,w0⟩ 39 ES.sg [I a.code,I a.val,I b.code,I b.val] [tI a.freed,tI b.freed] K:=by
 refine ES.cl2 ?_
 unfold ES.txt
 refine BI (BM (BM (BM (BM (JR (fun h1=> ?_) fun h1=> ?_)))))
 ·refine BI (CL h1 rfl (BM (BM (BM (BM (JR (fun h2=> ?_) fun h2=> ?_))))))
  ·refine dR hl (CL h2 rfl ?_)
   rw [uQ h1 h2];exact h
  ·rw [tZ h2] at h
   exact CJ h2 rfl h
 ·rw [wB h1] at h
  exact CJ h1 rfl (BM (BM (BM (BM (M9 (WB rfl h))))))
theorem VP {a b:An} {K:J2} (hl:(a.freed.length:Int)<2^62) (h:K [.bool (decide (a=b))] []):cl2 ⟨Tryz.prog,w0⟩ 45 EN.sg [I a.code,I a.val,I b.code,I b.val] [tI a.freed,tI b.freed] K:=by
 refine EN.cl2 ?_
 unfold EN.txt
 refine BI (BM (BM (BM (BM (JR (fun h1=> ?_) fun h1=> ?_)))))
 ·refine BI (CL h1 rfl (BM (BM (BM (BM (JR (fun h2=> ?_) fun h2=> ?_))))))
  ·refine Y0 hl (CL h2 rfl ?_)
   rw [uQ h1 h2];exact h
  ·rw [tZ h2] at h
   exact CJ h2 rfl h
 ·rw [wB h1] at h
  exact CJ h1 rfl (BM (BM (BM (BM (M9 (WB rfl h))))))
noncomputable def Dt (l:List Op5):ByteArray:=encode l (FJ l (min l.length 400)).2
noncomputable def agr (ops:List Op5) (ans:List An):Nat→Nat
 | 0=>0
 | i+1=>if agr ops ans i=i∧(KD (FJ ops i).1 (po ops i)).2=an ans i then i+1 else agr ops ans i
theorem wT (ops:List Op5) (ans:List An): ∀i,agr ops ans i≤i
 | 0=>Nat.le_refl _
 | i+1=>by
   rw [agr];split
   ·exact Nat.le_refl _
   ·have:=wT ops ans i;omega
theorem kR {ops:List Op5} {ans:List An} {i:Nat} (h:agr ops ans i<i): ∀k,i≤k→agr ops ans k=agr ops ans i
 | 0,hk=>by have:i=0:=by omega
            subst this;rfl
 | k+1,hk=>by
   rcases Nat.lt_or_ge k i with h1 | h1
   ·have:i=k+1:=by omega
    subst this;rfl
   ·have e:=kR h k h1
    rw [agr,if_neg (fun hh=>by omega),e]
theorem xF {ops:List Op5} {ans:List An} {i:Nat} (h:agr ops ans i=i) (hne:(KD (FJ ops i).1 (po ops i)).2≠an ans i) {n:Nat} (hn:i<n):agr ops ans n=i:=by
 have e:agr ops ans (i+1)=i:=by rw [agr,if_neg (fun hh=>hne hh.2),h]
 rw [kR (i:=i+1) (by omega) n hn,e]
structure RB2 where
 code:Int
 n:Nat
 hp:Hp
 ops:List Op5
 ans:List An
noncomputable def PC (d:List Op5×List An×Int):RB2:=⟨if agr d.1 d.2.1 d.1.length=d.1.length then d.2.2 else 3,agr d.1 d.2.1 d.1.length,(FJ d.1 (agr d.1 d.2.1 d.1.length)).1,d.1.take (agr d.1 d.2.1 d.1.length),(FJ d.1 (agr d.1 d.2.1 d.1.length)).2⟩
theorem rR (n:Int) (l:List ByteArray) (s:ByteArray):OpF (CI n l s).o:=by
 have h0:OpF ⟨0,0,0,0,⟨#[]⟩⟩:=⟨⟨by simp,by simp⟩,⟨by simp,by simp⟩,⟨by simp,by simp⟩,⟨by simp,by simp⟩,by have:(⟨#[]⟩:ByteArray).size=0:=rfl;simp only;omega⟩
 cases hk:(CI n l s).ok with
 | true=>
   obtain ⟨h1,h2⟩:=vU hk
   have hne:(IB n l (CI n l s).o (CI n l s).a).1≠⟨#[]⟩:=by rw [h2];exact h1
   generalize (CI n l s).o=o at hne ⊢
   generalize (CI n l s).a=a at hne
   rw [IB,NM] at hne
   split at hne
   ·rename_i hok
    obtain ⟨ha,hb,hc,hd,_⟩:=S4 hok
    have a1:=JP ha;have b1:=JP hb;have c1:=JP hc;have d1:=JP hd
    have hsz:o.site.size≤8:=by
     simp only [okE,dJ,Bool.and_eq_true,decide_eq_true_eq] at hok
     omega
    exact ⟨⟨by omega,by omega⟩,⟨by omega,by omega⟩,⟨by omega,by omega⟩,⟨by omega,by omega⟩,by omega⟩
   ·exact absurd rfl hne
 | false=>
   unfold CI at hk ⊢
   split at hk
   ·exact h0
   ·split at hk
    ·cases hk
    ·rename_i hno
     simp only [if_neg hno];exact h0
theorem qC {ps:List ByteArray}: ∀i q,dcd ps i=some q→ ∀o∈q.1,OpF o
 | 0,q,h=>by simp only [dcd,Option.some.injEq] at h;subst h;simp
 | i+1,q,h=>by
   rw [dcd] at h
   split at h
   ·cases h
   ·rename_i p hp
    split at h
    ·cases h
     intro o ho
     rcases List.mem_append.1 ho with ho | ho
     ·exact qC i p hp o ho
     ·rw [List.mem_singleton.1 ho];exact rR _ _ _
    ·cases h
theorem US (s:ByteArray):(∀o∈(decode s).1,OpF o)∧(decode s).1.length=(decode s).2.1.length∧F64 (decode s).2.2:=by
 unfold decode
 split
 ·exact ⟨by simp,rfl,⟨by simp,by simp⟩⟩
 ·split
  ·exact ⟨by simp,rfl,⟨by simp,by simp⟩⟩
  ·rename_i q hq
   obtain ⟨_,_,l1,l2,_,_⟩:=mK _ q (Nat.le_refl _) hq
   simp only at l1 l2
   exact ⟨qC _ q hq,by simp only;omega,⟨by simp,by simp⟩⟩
end Go.Proofs.YtnhicpkhkaihoaaGreat.P
