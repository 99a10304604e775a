/- A part of the proof. -/
import Derived.Test.YtnhicpkhkaihoaaGreatFaCodA
namespace Go.Proofs.YtnhicpkhkaihoaaGreat.P
open Go Go.Proofs.YtnhicpkhkaihoaaGreat Go.Proofs.YtnhicpkhkaihoaaGreat.Eng
set_option linter.unusedVariables false
theorem Bj {n:Int} {p:ByteArray} (hn:0≤n∧n≤400) (hp:p.size≤200): ∃c,frm n p=V n++(V p.size++(p++c))∧c.size=4:=by
 refine ⟨FX (crc ((V n++V p.size)++p)), ?_,Y5 _⟩
 unfold frm
 rw [if_pos ⟨hn,hp⟩]
 simp only [ByteArray.append_assoc]
theorem jA {s:ByteArray} {k:Nat} (h:k≤s.size):s=s.extract 0 k++dr s k:=by
 apply ByteArray.ext
 apply Array.ext'
 have e:s.size=s.data.toList.length:=by simp
 simp only [dr,ByteArray.data_extract,Array.toList_extract,ByteArray.data_append,Array.toList_append]
 rw [e]
 simp only [List.extract_eq_take_drop,List.drop_zero,Nat.sub_zero]
 rw [List.take_of_length_le (l:=List.drop k s.data.toList) (by simp),List.take_append_drop]
theorem xM {s:ByteArray} (h:(rf s).n≠0):s=frm (rf s).seq (rf s).pay++dr s (rf s).n.toNat∧0≤(rf s).seq∧(rf s).seq≤400∧(frm (rf s).seq (rf s).pay).size=(rf s).n:=by
 have hb:=dT s
 have h1:=NW s
 have h2:=hH s
 unfold rf at h hb ⊢
 split at h
 ·exact absurd rfl h
 ·rename_i hn
  rw [if_neg hn] at hb ⊢
  simp only [not_or,ne_eq,Classical.not_not] at hn
  obtain ⟨hbad,he⟩:=hn
  simp only [L7,not_or] at hbad
  simp only at h hb ⊢
  have hk:((rv s).2+(rv2 s).2+(rv2 s).1+4).toNat≤s.size:=by omega
  have hz:(frm (rv s).1 (T5 s)).size=((rv s).2+(rv2 s).2+(rv2 s).1+4).toNat:=by rw [he,ByteArray.size_extract];omega
  have hs:0≤(rv s).1∧(rv s).1≤400:=by
   rcases Classical.em ((0≤(rv s).1∧(rv s).1≤400)∧(T5 s).size≤200) with hc | hc
   ·exact hc.1
   ·exfalso
    have:(frm (rv s).1 (T5 s)).size=0:=by unfold frm;rw [if_neg hc];rfl
    omega
  refine ⟨?_,hs.1,hs.2,by omega⟩
  rw [he]
  exact jA hk
def frT:Int→List ByteArray→ByteArray
 | i,[]=>frm i ⟨#[]⟩
 | i,p::ps=>frm i p++frT (i+1) ps
theorem oR: ∀(k i:Nat) (l:List ByteArray),i+k=l.length→frs l l.length++frm l.length ⟨#[]⟩=frs l i++frT i (l.drop i)
 | 0,i,l,h=>by
   have:i=l.length:=by omega
   subst this
   rw [List.drop_length];rfl
 | k+1,i,l,h=>by
   have hi:i<l.length:=by omega
   rw [oR k (i+1) l (by omega),frs,List.drop_eq_getElem_cons hi,frT, ←O0 hi,ByteArray.append_assoc];rfl
theorem dZ {l:List ByteArray} (h1:l.length≤400) (h2: ∀p∈l,ZH p):PO l=SF++frT 0 l:=by
 unfold PO
 rw [if_pos ⟨h1,h2⟩,oR l.length 0 l (by omega)];rfl
theorem Cp (s:ByteArray):dr s s.size=⟨#[]⟩:=YN.1 (by rw [C2];omega)
theorem lM: ∀(f:Nat) (s:ByteArray) (out ps:List ByteArray),rlF f s out=(ps,0)→ ∃tl,ps=out++tl∧s=frT out.length tl∧(∀p∈tl,ZH p)∧out.length+tl.length≤400
 | 0,s,out,ps,h=>by simp [rlF] at h
 | f+1,s,out,ps,h=>by
   have hb:=dT s
   rw [rlF] at h
   split at h
   ·simp at h
   ·split at h
    ·simp at h
    ·rename_i hn
     obtain ⟨k1,k2,k3,k4⟩:=xM hn
     split at h
     ·simp at h
     ·rename_i hq
      have hq:(rf s).seq=out.length:=by simpa using hq
      split at h
      ·rename_i hp
       split at h
       ·simp at h
       ·rename_i hz
        simp only [Prod.mk.injEq,and_true] at h
        subst h
        refine ⟨[],(List.append_nil _).symm, ?_,by simp,by simp;omega⟩
        have hd:dr s (rf s).n.toNat=⟨#[]⟩:=by rw [show (rf s).n.toNat=s.size from by omega,Cp]
        rw [hp,hd,vU,hq] at k1
        rw [frT];exact k1
      ·rename_i hp
       obtain ⟨tl,e1,e2,e3,e4⟩:=lM f _ _ _ h
       refine ⟨(rf s).pay::tl,by rw [e1,List.append_assoc];rfl, ?_,fun p hp'=> ?_,by simp at e4 ⊢;omega⟩
       ·rw [frT, ←hq]
        rw [List.length_append,List.length_singleton] at e2
        rw [e2] at k1
        rw [hq] at k1 ⊢
        exact k1
       ·rcases List.mem_cons.1 hp' with rfl | hp'
        ·have:(rf s).pay.size≠0:=fun hz=>hp (YN.1 hz)
         exact ⟨by omega,by have:=hb.2.2.2.1;omega⟩
        ·exact e3 p hp'
theorem pE {s:ByteArray} {ps:List ByteArray} (h:rl s=(ps,0)):PO ps=s∧ps.length≤400∧ ∀p∈ps,ZH p:=by
 unfold rl at h
 split at h
 ·simp at h
 ·rename_i hm
  simp only [not_or,ne_eq,Classical.not_not,Nat.not_lt] at hm
  obtain ⟨tl,e1,e2,e3,e4⟩:=lM _ _ _ _ h
  simp only [List.nil_append] at e1
  subst e1
  simp at e4
  refine ⟨?_,e4,e3⟩
  rw [dZ e4 e3]
  have:=jA hm.1
  rw [hm.2] at this
  rw [this,e2];rfl
theorem oF {l:List Op5} {i:Nat} (h:i<l.length):l.take (i+1)=l.take i++[po l i]:=by rw [List.take_succ_eq_append_getElem h,dO h]
theorem zH {l:List ByteArray} {i:Nat} (h:i<l.length):l.take (i+1)=l.take i++[gS l i]:=by rw [List.take_succ_eq_append_getElem h,O0 h]
theorem pV {ops:List Op5} {ans:List An}: ∀i q,enc ops ans i=some q→q.1.length=i∧ ∀p∈q.1,p≠⟨#[]⟩∧p.size≤127
 | 0,q,h=>by simp only [enc,Option.some.injEq] at h;subst h;simp
 | i+1,q,h=>by
   rw [enc] at h
   split at h
   ·cases h
   ·rename_i p hp
    have ih:=pV i p hp
    split at h
    ·cases h
    ·rename_i hne
     cases h
     refine ⟨by simp [ih.1],fun x hx=> ?_⟩
     rcases List.mem_append.1 hx with hx | hx
     ·exact ih.2 x hx
     ·rw [List.mem_singleton.1 hx];exact ⟨hne,(U1 _ _ _ _).1⟩
theorem eA {ops ops':List Op5} {ans ans':List An}: ∀i,(∀k,k<i→po ops k=po ops' k∧an ans k=an ans' k)→enc ops ans i=enc ops' ans' i
 | 0,_=>rfl
 | i+1,h=>by
   obtain ⟨h1,h2⟩:=h i (by omega)
   rw [enc,enc,eA i fun k hk=>h k (by omega),h1,h2]
theorem uE {l:List Op5} {x:Op5} {i:Nat} (h:i<l.length):po (l++[x]) i=po l i:=by unfold po;rw [List.getD_eq_getElem?_getD,List.getElem?_append_left h,List.getD_eq_getElem?_getD]
theorem zF (l:List Op5) (x:Op5):po (l++[x]) l.length=x:=by unfold po;rw [List.getD_eq_getElem?_getD,List.getElem?_append_right (Nat.le_refl _)];simp
theorem vM {l:List An} {x:An} {i:Nat} (h:i<l.length):an (l++[x]) i=an l i:=by unfold an;rw [List.getD_eq_getElem?_getD,List.getElem?_append_left h,List.getD_eq_getElem?_getD]
theorem xS (l:List An) (x:An):an (l++[x]) l.length=x:=by unfold an;rw [List.getD_eq_getElem?_getD,List.getElem?_append_right (Nat.le_refl _)];simp
theorem qG {ps:List ByteArray}: ∀i q,i≤ps.length→dcd ps i=some q→enc q.1 q.2.1 i=some (ps.take i,q.2.2.1,q.2.2.2)
 | 0,q,_,h=>by simp only [dcd,Option.some.injEq] at h;subst h;simp [enc]
 | i+1,q,hi,h=>by
   rw [dcd] at h
   split at h
   ·cases h
   ·rename_i p hp
    obtain ⟨_,_,l1,l2,_,_⟩:=XI i p (by omega) hp
    simp only at l1 l2
    have ih:=qG i p (by omega) hp
    split at h
    ·rename_i hok
     obtain ⟨hne,hsh⟩:=ZR hok
     cases h
     simp only
     rw [enc,eA (ops':=p.1) (ans':=p.2.1) i fun k hk=>⟨uE (by omega),vM (by omega)⟩,ih]
     simp only
     have a1:=zF p.1 (CC p.2.2.1 p.2.2.2 (gS ps i)).o
     have a2:=xS p.2.1 (CC p.2.2.1 p.2.2.2 (gS ps i)).a
     rw [l1] at a1
     rw [l2] at a2
     rw [a1,a2,hsh,if_neg hne,zH (by omega)]
    ·cases h
theorem encode_decode {s:ByteArray} (h:(decode s).2.2=0) (hn:(decode s).1.length<400):encode (decode s).1 (decode s).2.1=s∧(decode s).1.length=(decode s).2.1.length:=by
 unfold decode at h hn ⊢
 split at h
 ·simp at h
 ·rename_i h0
  rw [if_neg h0] at hn ⊢
  have h0:(rl s).2=0:=Classical.not_not.1 h0
  have hr:rl s=((rl s).1,0):=by rw [←h0]
  obtain ⟨b1,b2,b3⟩:=pE hr
  split at h
  ·simp at h
  ·rename_i q hq
   rw [hq] at hn
   simp only at hn ⊢
   obtain ⟨_,_,l1,l2,_,_⟩:=XI _ q (Nat.le_refl _) hq
   simp only at l1 l2
   have he:=qG _ q (Nat.le_refl _) hq
   refine ⟨?_,by omega⟩
   unfold encode
   rw [if_neg (by omega),l1,he]
   simp only
   rw [List.take_length,b1]
end Go.Proofs.YtnhicpkhkaihoaaGreat.P
