/- A part of the proof. -/
import Derived.Test.YtnhicpkhkaihoaaGreatFtRecB
import Derived.Test.YtnhicpkhkaihoaaGreatFtHpFb
namespace Go.Proofs.YtnhicpkhkaihoaaGreat.P
open Go Go.Proofs.YtnhicpkhkaihoaaGreat Go.Proofs.YtnhicpkhkaihoaaGreat.Eng
set_option linter.unusedVariables false
abbrev spk (o:Op5):Bool:=RT o.kind o.a o.b o.c o.site
abbrev anB (a:An):Bool:=SL a.code a.val a.freed
theorem l6 {n:Int} {l:List ByteArray} {o:Op5} {a:An} (h1:spk o=true) (h2:anB a=true) (h3:TI n l=true):(FC n l o a).1≠⟨#[]⟩∧(FC n l o a).2=(o.a,UM l o.site):=by
 have hok:okE n l o.kind o.a o.b o.c o.site a.code a.val a.freed=true:=by
  unfold okE
  rw [show RT o.kind o.a o.b o.c o.site=true from h1,show SL a.code a.val a.freed=true from h2,h3];rfl
 rw [FC,LI,if_pos hok]
 refine ⟨fun h0=> ?_,rfl⟩
 have a1:=FH (N7 hok).1
 have z1:=oS (x:=o.kind) (by omega)
 have hp:=VQ z1.1 (by omega)
 have hz:=congrArg ByteArray.size h0
 simp only [sP,base,ByteArray.size_append,SI] at hz
 have:(⟨#[]⟩:ByteArray).size=0:=rfl
 omega
theorem rF {o:Op5} (h:spk o=true):KW o.a=true∧o.site.size≤8:=by
 simp only [spk,RT,Bool.and_eq_true,decide_eq_true_eq] at h
 exact ⟨h.1.1.1.2,by omega⟩
theorem rC {l:List ByteArray} {s:ByteArray} (h:MC l=true) (hs:s.size≤8):MC (UM l s)=true:=by
 unfold UM
 split
 ·exact h
 ·rename_i hn
  simp only [MC,Bool.and_eq_true,decide_eq_true_eq,List.all_append,List.all_cons,List.all_nil,Bool.and_true] at h ⊢
  refine ⟨⟨h.1, ?_⟩,List.nodup_append.2 ⟨h.2,by simp,fun a ha b hb=> ?_⟩⟩
  ·simp only [szB,decide_eq_true_eq];omega
  ·rw [List.mem_singleton.1 hb]
   rintro rfl
   exact hn ha
theorem sX (l:List ByteArray) (s:ByteArray):(UM l s).length≤l.length+1:=by unfold UM;split <;> simp
theorem oW {l:List Op5} {ans:List An} (hs: ∀k,k<l.length→spk (po l k)=true) (ha: ∀k,k<l.length→anB (an ans k)=true) (hl:l.length≤400): ∀i,i≤l.length→ ∃q,enc l ans i=some q∧KW q.2.1=true∧q.2.2.length≤i∧MC q.2.2=true
 | 0,_=>⟨([],0,[]),rfl,by decide,Nat.le_refl _,by decide⟩
 | i+1,hi=>by
   obtain ⟨q,h1,h2,h3,h4⟩:=oW hs ha hl i (by omega)
   have hp:TI q.2.1 q.2.2=true:=by
    unfold TI
    rw [h2,h4,decide_eq_true (by omega)];rfl
   obtain ⟨e1,e2⟩:=l6 (hs i (by omega)) (ha i (by omega)) hp
   obtain ⟨s1,s2⟩:=rF (hs i (by omega))
   have:=sX q.2.2 (po l i).site
   refine ⟨_,by rw [enc,h1];exact if_neg e1, ?_, ?_, ?_⟩
   ·simp only [e2];exact s1
   ·simp only [e2];omega
   ·simp only [e2];exact rC h4 s2
theorem nW {l:List Op5} {ans:List An}: ∀i q,enc l ans i=some q→ ∀k,k<i→spk (po l k)=true
 | 0,q,_,k,hk=>by omega
 | i+1,q,h,k,hk=>by
   rw [enc] at h
   split at h
   ·cases h
   ·rename_i p hp
    split at h
    ·cases h
    ·rename_i hne
     rcases Nat.lt_or_ge k i with h1 | h1
     ·exact nW i p hp k h1
     ·have:k=i:=by omega
      subst this
      cases hk:spk (po l k) with
      | true=>rfl
      | false=>
        exfalso;apply hne
        rw [FC,LI,if_neg]
        unfold okE
        rw [show RT _ _ _ _ _=false from hk];simp
theorem uC {l:List ByteArray} (h1:l.length≤400) (h2: ∀p∈l,U0 p):OY l≠⟨#[]⟩:=fun h=>by
 have hz:=congrArg ByteArray.size (cM h1 h2)
 rw [h,ByteArray.size_append] at hz
 have hm:RQ.size=5:=rfl
 have:(⟨#[]⟩:ByteArray).size=0:=rfl
 omega
theorem w5 {ops:List Op5} {ans:List An} {i:Nat} {q:List ByteArray×Int×List ByteArray} (h:enc ops ans i=some q): ∀p∈q.1,U0 p:=fun p hp=>by
 obtain ⟨a,b⟩:=(S0 _ _ h).2 p hp
 have:p.size≠0:=fun hz=>a (X8.1 hz)
 exact ⟨by omega,by omega⟩
theorem lC {l:List Op5} {ans:List An} (hl:l.length<400) (ha: ∀k,k<l.length→anB (an ans k)=true) (hln:l.length=ans.length):encode l ans≠⟨#[]⟩↔ ∀k,k<l.length→spk (po l k)=true:=by
 constructor
 ·intro h
  unfold encode at h
  rw [if_neg (by omega)] at h
  split at h
  ·exact absurd rfl h
  ·rename_i q hq
   exact nW _ q hq
 ·intro hs
  obtain ⟨q,h1,_⟩:=oW hs ha (by omega) l.length (Nat.le_refl _)
  unfold encode
  rw [if_neg (by omega),h1]
  exact uC (by have:=(S0 _ _ h1).1;omega) (w5 h1)
theorem WC (l:List Op5): ∀n k,k<n→an (CD l n).2 k=(H6 (CD l k).1 (po l k)).2
 | 0,k,hk=>by omega
 | n+1,k,hk=>by
   simp only [CD]
   have hl:=(JL l n).2
   rcases Nat.lt_or_ge k n with h | h
   ·rw [rX (by omega),WC l n k h]
   ·have:k=n:=by omega
    subst this
    have e:=xA (CD l k).2 (H6 (CD l k).1 (po l k)).2
    rwa [hl] at e
theorem qU (l:List Op5) (n k:Nat) (hk:k<n):anB (an (CD l n).2 k)=true:=by
 rw [WC l n k hk]
 have ok:=(JL l k).1
 have f:=ok.Ds (o:=po l k)
 simp only [anB,SL,Bool.and_eq_true,decide_eq_true_eq,List.all_eq_true]
 refine ⟨⟨⟨K5.2 f.code,K5.2 (by have:=f.val;omega)⟩,f.len⟩,fun x hx=>K5.2 ?_⟩
 have:=ok.aO (f.fr x hx).1
 omega
theorem iW (l:List Op5) {n:Nat}: ∀i,i≤n→agr l (CD l n).2 i=i
 | 0,_=>rfl
 | i+1,hi=>j5 (iW l i (by omega)) (WC l n i (by omega)).symm
theorem rH (l:List Op5) (c:Int):Y9 (l,(CD l l.length).2,c)=⟨c,l.length,(CD l l.length).1,l,(CD l l.length).2⟩:=by
 have e:=jX (d:=(l,(CD l l.length).2,c)) (iW l l.length (Nat.le_refl _))
 rw [e]
 simp only [List.take_length]
theorem kT (ops:List Op5) (ans:List An):(encode ops ans).size≤223+218*ops.length:=by
 unfold encode
 split
 ·exact Nat.zero_le _
 ·split
  ·exact Nat.zero_le _
  ·rename_i q hq
   have hl:=(S0 _ _ hq).1
   unfold OY
   split
   ·have h1:=VI q.1 q.1.length;have h2:=PY q.1.length ⟨#[]⟩
    rw [ByteArray.size_append];omega
   ·exact Nat.zero_le _
end Go.Proofs.YtnhicpkhkaihoaaGreat.P
