/- A part of the proof. -/
import Derived.Test.YtnhicpkhkaihoaaGreatFtCodA
namespace Go.Proofs.YtnhicpkhkaihoaaGreat.P
open Go Go.Proofs.YtnhicpkhkaihoaaGreat Go.Proofs.YtnhicpkhkaihoaaGreat.Eng
set_option linter.unusedVariables false
theorem pE (a b:ByteArray):(a++b).extract 0 a.size=a:=by
 have h:=fR ⟨#[]⟩ a b
 have e:(⟨#[]⟩:ByteArray)++(a++b)=a++b:=ByteArray.empty_append
 have z:(⟨#[]⟩:ByteArray).size=0:=rfl
 rw [e,z,Nat.zero_add] at h
 exact h
theorem rT {n:Int} {p:ByteArray} (hn:0≤n∧n≤400) (hp:p.size≤200): ∃c,frm n p=V n++(V p.size++(p++c))∧c.size=4:=by
 refine ⟨FX (crc ((V n++V p.size)++p)), ?_,YA _⟩
 unfold frm
 rw [if_pos ⟨hn,hp⟩]
 simp only [ByteArray.append_assoc]
theorem sV {n:Int} {p:ByteArray} (hn:0≤n∧n≤400) (hp:p.size≤200) (r:ByteArray):rf (frm n p++r)=⟨n,p,(frm n p).size⟩:=by
 obtain ⟨c,e,hc⟩:=rT hn hp
 have hz:(frm n p).size=(V n).size+(V p.size).size+p.size+4:=by rw [e];simp only [ByteArray.size_append];omega
 have es:frm n p++r=V n++(V p.size++(p++(c++r))):=by rw [e];simp only [ByteArray.append_assoc]
 have h1:rv (frm n p++r)=(n,((V n).size:Int)):=by rw [es];exact wF hn.1 (by omega) _
 have h2:rv2 (frm n p++r)=((p.size:Int),((V p.size).size:Int)):=by
  unfold rv2
  rw [h1]
  simp only [Int.toNat_natCast]
  rw [es,W4]
  exact wF (by omega) (by omega) _
 have h3:XW (frm n p++r)=p:=by
  unfold XW
  rw [h1,h2]
  simp only
  rw [show (((V n).size:Int)+((V p.size).size:Int)).toNat=(V n++V p.size).size from by rw [ByteArray.size_append];omega,show (((V n).size:Int)+((V p.size).size:Int)+(p.size:Int)).toNat=(V n++V p.size).size+p.size from by rw [ByteArray.size_append];omega]
  rw [es, ←ByteArray.append_assoc,fR]
 have p1:=VQ (n:=n) hn.1 (by omega)
 have p2:=VQ (n:=p.size) (by omega) (by omega)
 have h4: ¬OP (frm n p++r):=by
  unfold OP
  rw [h1,h2]
  simp only [ByteArray.size_append,hz]
  omega
 unfold rf
 rw [if_neg,h1,h2,h3]
 ·simp only
  rw [hz]
  simp only [Frm.mk.injEq,true_and]
  omega
 ·rintro (h | h)
  ·exact h4 h
  ·apply h
   rw [h1,h2,h3]
   simp only
   rw [show (((V n).size:Int)+((V p.size).size:Int)+(p.size:Int)+4).toNat=(frm n p).size from by omega,pE]
def frT:Int→List ByteArray→ByteArray
 | i,[]=>frm i ⟨#[]⟩
 | i,p::ps=>frm i p++frT (i+1) ps
theorem o9: ∀(k i:Nat) (l:List ByteArray),i+k=l.length→frs l l.length++frm l.length ⟨#[]⟩=frs l i++frT i (l.drop i)
 | 0,i,l,h=>by
   have:i=l.length:=by omega
   subst this
   rw [List.drop_length];rfl
 | k+1,i,l,h=>by
   have hi:i<l.length:=by omega
   rw [o9 k (i+1) l (by omega),frs,List.drop_eq_getElem_cons hi,frT, ←PT hi,ByteArray.append_assoc];rfl
theorem cM {l:List ByteArray} (h1:l.length≤400) (h2: ∀p∈l,U0 p):OY l=RQ++frT 0 l:=by
 unfold OY
 rw [if_pos ⟨h1,h2⟩,o9 l.length 0 l (by omega)];rfl
theorem YG {n:Int} {p:ByteArray} (hn:0≤n∧n≤400) (hp:p.size≤200):6≤(frm n p).size:=by
 obtain ⟨c,e,hc⟩:=rT hn hp
 have p1:=VQ (n:=n) hn.1 (by omega)
 have p2:=VQ (n:=p.size) (by omega) (by omega)
 rw [e];simp only [ByteArray.size_append];omega
theorem pP: ∀(ps:List ByteArray) (f:Nat) (out:List ByteArray),ps.length<f→out.length+ps.length≤400→(∀p∈ps,U0 p)→rlF f (frT out.length ps) out=(out++ps,0)
 | [],0,out,h,_,_=>by simp at h
 | [],f+1,out,h,hl,_=>by
   have hl:(out.length:Int)≤400:=by simp at hl;omega
   have hr:=sV (n:=out.length) (p:=⟨#[]⟩) ⟨by omega,hl⟩ (Nat.zero_le _) ⟨#[]⟩
   rw [sL] at hr
   have hp:=YG (n:=out.length) (p:=⟨#[]⟩) ⟨by omega,hl⟩ (Nat.zero_le _)
   rw [rlF,frT,if_neg (by omega),hr,if_neg (by simp only;omega),if_neg (by simp),if_pos rfl,if_neg (by simp),List.append_nil]
 | p::ps,0,out,h,_,_=>by simp at h
 | p::ps,f+1,out,h,hl,hp=>by
   simp only [List.length_cons] at h hl
   have hpb:=hp p (by simp)
   have hr:=sV (n:=out.length) (p:=p) ⟨by omega,by omega⟩ (by have:=hpb.2;omega) (frT (out.length+1) ps)
   have hf:=YG (n:=out.length) (p:=p) ⟨by omega,by omega⟩ (by have:=hpb.2;omega)
   have hne:p≠⟨#[]⟩:=fun he=>by have:=hpb.1;rw [he] at this;exact absurd this (by decide)
   rw [rlF,frT,if_neg (by rw [ByteArray.size_append];omega),hr,if_neg (by simp only;omega),if_neg (by simp),if_neg hne]
   simp only [Int.toNat_natCast,W4]
   have:=pP ps f (out++[p]) (by omega) (by simp;omega) fun q hq=>hp q (by simp [hq])
   rw [List.length_append,List.length_singleton] at this
   rw [show ((out.length:Int)+1)=((out.length+1:Nat):Int) from rfl,this,List.append_assoc];rfl
theorem jJ: ∀(ps:List ByteArray) (i:Int),0≤i→i+ps.length≤400→(∀p∈ps,U0 p)→ps.length<(frT i ps).size
 | [],i,h0,h,_=>by
   have:=YG (n:=i) (p:=⟨#[]⟩) ⟨h0,by simpa using h⟩ (Nat.zero_le _)
   rw [frT];simp;omega
 | p::ps,i,h0,h,hp=>by
   have h1:=jJ ps (i+1) (by omega) (by simp only [List.length_cons] at h;omega) fun q hq=>hp q (by simp [hq])
   have h2:=YG (n:=i) (p:=p) ⟨h0,by simp only [List.length_cons] at h;omega⟩ (by have:=(hp p (by simp)).2;omega)
   rw [frT,ByteArray.size_append,List.length_cons];omega
theorem rO {l:List ByteArray} (h1:l.length≤400) (h2: ∀p∈l,U0 p):rl (OY l)=(l,0):=by
 have hz:=jJ l 0 (by omega) (by omega) h2
 have hm:RQ.size=5:=rfl
 have e:=cM h1 h2
 unfold rl
 rw [e,if_neg, ←hm,W4]
 ·have:=pP l ((RQ++frT 0 l).size+1) [] (by rw [ByteArray.size_append];omega) (by simpa using h1) h2
  simpa using this
 ·rw [ByteArray.size_append,hm]
  rintro (h | h)
  ·omega
  ·apply h
   have:=pE RQ (frT 0 l)
   rwa [hm] at this
theorem oG {l:List Op5} {i:Nat} (h:i<l.length):l.take (i+1)=l.take i++[po l i]:=by rw [List.take_succ_eq_append_getElem h,dL h]
theorem yX {l:List An} {i:Nat} (h:i<l.length):l.take (i+1)=l.take i++[an l i]:=by rw [List.take_succ_eq_append_getElem h,pY h]
theorem wS (l:List ByteArray) (s:ByteArray):gS (l++[s]) l.length=s:=by unfold gS;rw [List.getD_eq_getElem?_getD,List.getElem?_append_right (Nat.le_refl _)];simp
theorem wD {l:List ByteArray} {s:ByteArray} {i:Nat} (h:i<l.length):gS (l++[s]) i=gS l i:=by unfold gS;rw [List.getD_eq_getElem?_getD,List.getElem?_append_left h,List.getD_eq_getElem?_getD]
theorem S0 {ops:List Op5} {ans:List An}: ∀i q,enc ops ans i=some q→q.1.length=i∧ ∀p∈q.1,p≠⟨#[]⟩∧p.size≤127
 | 0,q,h=>by simp only [enc,Option.some.injEq] at h;subst h;simp
 | i+1,q,h=>by
   rw [enc] at h
   split at h
   ·cases h
   ·rename_i p hp
    have ih:=S0 i p hp
    split at h
    ·cases h
    ·rename_i hne
     cases h
     refine ⟨by simp [ih.1],fun x hx=> ?_⟩
     rcases List.mem_append.1 hx with hx | hx
     ·exact ih.2 x hx
     ·rw [List.mem_singleton.1 hx];exact ⟨hne,(UF _ _ _ _).1⟩
theorem pX {ops:List Op5} {ans:List An} (hl:ops.length=ans.length): ∀i q,i≤ops.length→enc ops ans i=some q→ ∀ps,(∀k,k<i→gS ps k=gS q.1 k)→dcd ps i=some (ops.take i,ans.take i,q.2.1,q.2.2)
 | 0,q,_,h,ps,_=>by simp only [enc,Option.some.injEq] at h;subst h;simp [dcd]
 | i+1,q,hi,h,ps,hps=>by
   rw [enc] at h
   split at h
   ·cases h
   ·rename_i p hp
    have hln:=(S0 i p hp).1
    split at h
    ·cases h
    ·rename_i hne
     cases h
     have ih:=pX hl i p (by omega) hp ps fun k hk=>by rw [hps k (by omega),wD (by omega)]
     have hg:gS ps i=(FC p.2.1 p.2.2 (po ops i) (an ans i)).1:=by
      rw [hps i (by omega)]
      have:=wS p.1 (FC p.2.1 p.2.2 (po ops i) (an ans i)).1
      rwa [hln] at this
     rw [dcd,ih]
     simp only
     rw [hg,mY hne,if_pos rfl,oG (by omega),yX (by omega)]
theorem decode_encode {ops:List Op5} {ans:List An} (h:encode ops ans≠⟨#[]⟩):decode (encode ops ans)=(ops,ans,0):=by
 unfold encode at h ⊢
 split at h
 ·exact absurd rfl h
 ·rename_i hc
  rw [if_neg hc]
  split at h
  ·exact absurd rfl h
  ·rename_i q hq
   simp only [not_or,ne_eq,Classical.not_not,ge_iff_le,Nat.not_le] at hc
   obtain ⟨e1,e2⟩:=S0 _ _ hq
   have hp: ∀p∈q.1,U0 p:=fun p hp=>by
    obtain ⟨a,b⟩:=e2 p hp
    have:p.size≠0:=fun hz=>a (X8.1 hz)
    exact ⟨by omega,by omega⟩
   have hr:=rO (l:=q.1) (by omega) hp
   unfold decode
   rw [hr,if_neg (fun hh=>hh rfl)]
   simp only
   rw [e1,pX hc.1 _ q (Nat.le_refl _) hq q.1 fun k _=>rfl]
   simp only
   rw [List.take_length,hc.1,List.take_length]
theorem rX {l:List An} {x:An} {i:Nat} (h:i<l.length):an (l++[x]) i=an l i:=by unfold an;rw [List.getD_eq_getElem?_getD,List.getElem?_append_left h,List.getD_eq_getElem?_getD]
theorem xA (l:List An) (x:An):an (l++[x]) l.length=x:=by unfold an;rw [List.getD_eq_getElem?_getD,List.getElem?_append_right (Nat.le_refl _)];simp
end Go.Proofs.YtnhicpkhkaihoaaGreat.P
