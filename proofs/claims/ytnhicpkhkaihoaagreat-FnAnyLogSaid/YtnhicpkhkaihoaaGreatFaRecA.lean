/- A part of the proof. -/
import Derived.Test.YtnhicpkhkaihoaaGreatFaDrB
import Derived.Test.YtnhicpkhkaihoaaGreatFaCodB
namespace Go.Proofs.YtnhicpkhkaihoaaGreat.P
open Go Go.Proofs.YtnhicpkhkaihoaaGreat Go.Proofs.YtnhicpkhkaihoaaGreat.Eng
set_option linter.unusedVariables false
set_option maxHeartbeats 4000000
set_option linter.unusedVariables false
set_option linter.unusedSimpArgs false
attribute [local irreducible] prP gP gE gF AU ixW ldc ldg ldl stc stg scW mkW apW BG cl2 BX GP CZ
variable {w0:World}
theorem jQ {l:List Op5} (ho: ∀o∈l,OpF o): ∀i,i≤l.length→ ∀a∈(DG l i).2,a.freed.length≤9
 | 0,_=>by simp [DG]
 | i+1,hi=>fun a ha=>by
   simp only [DG] at ha
   rcases List.mem_append.1 ha with ha | ha
   ·exact jQ ho i (by omega) a ha
   ·have ha:a=(JL (DG l i).1 (po l i)).2:=by simpa using ha
    subst ha
    have ok:=(ND l i).1
    exact (ZB (ok.st ok.iJ) (by rw [←dO (by omega)];exact (ho _ (List.getElem_mem _)).c)).fr
theorem xC {l:List An} {b:Nat} (h: ∀a∈l,a.freed.length≤b) (i:Nat):(an l i).freed.length≤b:=by
 unfold an
 rw [List.getD_eq_getElem?_getD]
 rcases Nat.lt_or_ge i l.length with hi | hi
 ·rw [List.getElem?_eq_getElem hi];exact h _ (List.getElem_mem hi)
 ·rw [List.getElem?_eq_none hi];exact Nat.zero_le _
theorem cR {l m:List Int} {K:J2} (hl:(l.length:Int)<2^62) (h:K [.bool (decide (l=m))] []):cl2 ⟨Tryz.prog,w0⟩ 38 DY.sg [] [tI l,tI m] K:=by
 refine DY.cl2 ?_
 unfold DY.txt
 simp only [AE]
 refine pL (jL (fun hne=> ?_) fun he=> ?_)
 ·rw [decide_eq_false (fun hh=>hne (by rw [hh]))] at h;exact h
 ·refine bR (fun i=>[iv i]) (fun _=>[]) l.length (fun i=>l.take i=m.take i) (fun R i hi hP hR=> ?_) (i:=0) (Nat.zero_le _) (by simp)
  refine L6 (AG (fun hlt=> ?_) fun hge=> ?_)
  ·have hlt':i<m.length:=he ▸ hlt
   refine AW hlt (OP hlt (AW hlt' (OP hlt' (YV (qR (fun hne=> ?_) fun heq=> ?_)))))
   ·rw [decide_eq_false (fun hh=>hne (by subst hh;rfl))] at h;exact h
   ·exact A6 (by omega) (hR hlt (by rw [List.take_succ_eq_append_getElem hlt,List.take_succ_eq_append_getElem hlt',hP,heq]))
  ·have:l=m:=by
    rw [List.take_of_length_le (by omega),List.take_of_length_le (by omega)] at hP;exact hP
   rw [decide_eq_true this] at h;exact h
theorem YI {l m:List Int} {K:J2} (hl:(l.length:Int)<2^62) (h:K [.bool (decide (l=m))] []):cl2 ⟨Tryz.prog,w0⟩ 86 GO.sg [] [tI l,tI m] K:=by
 refine GO.cl2 ?_
 unfold GO.txt
 simp only [AE]
 refine pL (jL (fun hne=> ?_) fun he=> ?_)
 ·rw [decide_eq_false (fun hh=>hne (by rw [hh]))] at h;exact h
 ·refine bR (fun i=>[iv l.length,iv i]) (fun _=>[]) l.length (fun i=>l.take i=m.take i) (fun R i hi hP hR=> ?_) (i:=0) (Nat.zero_le _) (by simp)
  refine L6 (AG (fun hlt=> ?_) fun hge=> ?_)
  ·have hlt':i<m.length:=he ▸ hlt
   refine AW hlt (OP hlt (AW hlt' (OP hlt' (YV (qR (fun hne=> ?_) fun heq=> ?_)))))
   ·rw [decide_eq_false (fun hh=>hne (by subst hh;rfl))] at h;exact h
   ·exact A6 (by omega) (hR hlt (by rw [List.take_succ_eq_append_getElem hlt,List.take_succ_eq_append_getElem hlt',hP,heq]))
  ·have:l=m:=by
    rw [List.take_of_length_le (by omega),List.take_of_length_le (by omega)] at hP;exact hP
   rw [decide_eq_true this] at h;exact h
theorem uZ {a b:An} (h:a.code≠b.code):decide (a=b)=false:=decide_eq_false (fun hh=>h (by rw [hh]))
theorem wX {a b:An} (h:a.val≠b.val):decide (a=b)=false:=decide_eq_false (fun hh=>h (by rw [hh]))
theorem w7 {a b:An} (h1:a.code=b.code) (h2:a.val=b.val):decide (a.freed=b.freed)=decide (a=b):=by
 obtain ⟨a1,a2,a3⟩:=a
 obtain ⟨b1,b2,b3⟩:=b
 simp only at h1 h2
 subst h1;subst h2
 simp
theorem VF {a b:An} {K:J2} (hl:(a.freed.length:Int)<2^62) (h:K [.bool (decide (a=b))] []):cl2 ⟨Tryz.prog,w0⟩ 39 EZ.sg [I a.code,I a.val,I b.code,I b.val] [tI a.freed,tI b.freed] K:=by
 refine EZ.cl2 ?_
 unfold EZ.txt
 refine BA (BM (BM (BM (BM (IG (fun h1=> ?_) fun h1=> ?_)))))
 ·refine BA (CI h1 rfl (BM (BM (BM (BM (IG (fun h2=> ?_) fun h2=> ?_))))))
  ·refine cR hl (CI h2 rfl ?_)
   rw [w7 h1 h2];exact h
  ·rw [wX h2] at h
   exact CD h2 rfl h
 ·rw [uZ h1] at h
  exact CD h1 rfl (BM (BM (BM (BM (NF (VA rfl h))))))
theorem V4 {a b:An} {K:J2} (hl:(a.freed.length:Int)<2^62) (h:K [.bool (decide (a=b))] []):cl2 ⟨Tryz.prog,w0⟩ 45 ER.sg [I a.code,I a.val,I b.code,I b.val] [tI a.freed,tI b.freed] K:=by
 refine ER.cl2 ?_
 unfold ER.txt
 refine BA (BM (BM (BM (BM (IG (fun h1=> ?_) fun h1=> ?_)))))
 ·refine BA (CI h1 rfl (BM (BM (BM (BM (IG (fun h2=> ?_) fun h2=> ?_))))))
  ·refine YI hl (CI h2 rfl ?_)
   rw [w7 h1 h2];exact h
  ·rw [wX h2] at h
   exact CD h2 rfl h
 ·rw [uZ h1] at h
  exact CD h1 rfl (BM (BM (BM (BM (NF (VA rfl h))))))
noncomputable def Fm (l:List Op5):ByteArray:=encode l (DG l (min l.length 400)).2
noncomputable def agr (ops:List Op5) (ans:List An):Nat→Nat
 | 0=>0
 | i+1=>if agr ops ans i=i∧(JL (DG ops i).1 (po ops i)).2=an ans i then i+1 else agr ops ans i
theorem w3 (ops:List Op5) (ans:List An): ∀i,agr ops ans i≤i
 | 0=>Nat.le_refl _
 | i+1=>by
   rw [agr];split
   ·exact Nat.le_refl _
   ·have:=w3 ops ans i;omega
theorem j0 {ops:List Op5} {ans:List An} {i:Nat} (h:agr ops ans i<i): ∀k,i≤k→agr ops ans k=agr ops ans i
 | 0,hk=>by have:i=0:=by omega
            subst this;rfl
 | k+1,hk=>by
   rcases Nat.lt_or_ge k i with h1 | h1
   ·have:i=k+1:=by omega
    subst this;rfl
   ·have e:=j0 h k h1
    rw [agr,if_neg (fun hh=>by omega),e]
theorem xW {ops:List Op5} {ans:List An} {i:Nat} (h:agr ops ans i=i) (hne:(JL (DG ops i).1 (po ops i)).2≠an ans i) {n:Nat} (hn:i<n):agr ops ans n=i:=by
 have e:agr ops ans (i+1)=i:=by rw [agr,if_neg (fun hh=>hne hh.2),h]
 rw [j0 (i:=i+1) (by omega) n hn,e]
structure RB2 where
 code:Int
 n:Nat
 hp:Hp
 ops:List Op5
 ans:List An
noncomputable def OS (d:List Op5×List An×Int):RB2:=⟨if agr d.1 d.2.1 d.1.length=d.1.length then d.2.2 else 3,agr d.1 d.2.1 d.1.length,(DG d.1 (agr d.1 d.2.1 d.1.length)).1,d.1.take (agr d.1 d.2.1 d.1.length),(DG d.1 (agr d.1 d.2.1 d.1.length)).2⟩
theorem rP (n:Int) (l:List ByteArray) (s:ByteArray):OpF (CC n l s).o:=by
 have h0:OpF ⟨0,0,0,0,⟨#[]⟩⟩:=⟨⟨by simp,by simp⟩,⟨by simp,by simp⟩,⟨by simp,by simp⟩,⟨by simp,by simp⟩,by have:(⟨#[]⟩:ByteArray).size=0:=rfl;simp only;omega⟩
 cases hk:(CC n l s).ok with
 | true=>
   obtain ⟨h1,h2⟩:=ZR hk
   have hne:(HE n l (CC n l s).o (CC n l s).a).1≠⟨#[]⟩:=by rw [h2];exact h1
   generalize (CC n l s).o=o at hne ⊢
   generalize (CC n l s).a=a at hne
   rw [HE,MI] at hne
   split at hne
   ·rename_i hok
    obtain ⟨ha,hb,hc,hd,_⟩:=QM hok
    have a1:=GZ ha;have b1:=GZ hb;have c1:=GZ hc;have d1:=GZ hd
    have hsz:o.site.size≤8:=by
     simp only [okE,cY,Bool.and_eq_true,decide_eq_true_eq] at hok
     omega
    exact ⟨⟨by omega,by omega⟩,⟨by omega,by omega⟩,⟨by omega,by omega⟩,⟨by omega,by omega⟩,by omega⟩
   ·exact absurd rfl hne
 | false=>
   unfold CC at hk ⊢
   split at hk
   ·exact h0
   ·split at hk
    ·cases hk
    ·rename_i hno
     simp only [if_neg hno];exact h0
theorem pM {ps:List ByteArray}: ∀i q,dcd ps i=some q→ ∀o∈q.1,OpF o
 | 0,q,h=>by simp only [dcd,Option.some.injEq] at h;subst h;simp
 | i+1,q,h=>by
   rw [dcd] at h
   split at h
   ·cases h
   ·rename_i p hp
    split at h
    ·cases h
     intro o ho
     rcases List.mem_append.1 ho with ho | ho
     ·exact pM i p hp o ho
     ·rw [List.mem_singleton.1 ho];exact rP _ _ _
    ·cases h
theorem US (s:ByteArray):(∀o∈(decode s).1,OpF o)∧(decode s).1.length=(decode s).2.1.length∧F64 (decode s).2.2:=by
 unfold decode
 split
 ·exact ⟨by simp,rfl,⟨by simp,by simp⟩⟩
 ·split
  ·exact ⟨by simp,rfl,⟨by simp,by simp⟩⟩
  ·rename_i q hq
   obtain ⟨_,_,l1,l2,_,_⟩:=XI _ q (Nat.le_refl _) hq
   simp only at l1 l2
   exact ⟨pM _ q hq,by simp only;omega,⟨by simp,by simp⟩⟩
end Go.Proofs.YtnhicpkhkaihoaaGreat.P
