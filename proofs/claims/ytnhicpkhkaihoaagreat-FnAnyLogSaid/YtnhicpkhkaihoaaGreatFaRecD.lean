/- A part of the proof. -/
import Derived.Test.YtnhicpkhkaihoaaGreatFaRecB
import Derived.Test.YtnhicpkhkaihoaaGreatFaHpFb
namespace Go.Proofs.YtnhicpkhkaihoaaGreat.P
open Go Go.Proofs.YtnhicpkhkaihoaaGreat Go.Proofs.YtnhicpkhkaihoaaGreat.Eng
set_option linter.unusedVariables false
theorem wL: ∀(ps:List ByteArray) (i:Int),0≤i→i+ps.length≤400→(∀p∈ps,ZH p)→(∀p∈ps,8≤p.size)→14*ps.length≤(frT i ps).size
 | [],i,_,_,_,_=>by simp
 | p::ps,i,h0,h,hp,h8=>by
   have h1:=wL ps (i+1) (by omega) (by simp only [List.length_cons] at h;omega) (fun q hq=>hp q (by simp [hq])) (fun q hq=>h8 q (by simp [hq]))
   obtain ⟨c,e,hc⟩:=Bj (n:=i) (p:=p) ⟨h0,by simp only [List.length_cons] at h;omega⟩ (by have:=(hp p (by simp)).2;omega)
   have p1:=ZC (n:=i) h0 (by simp only [List.length_cons] at h;omega)
   have p2:=ZC (n:=p.size) (by omega) (by have:=(hp p (by simp)).2;omega)
   have p3:=h8 p (by simp)
   rw [frT,e]
   simp only [ByteArray.size_append,List.length_cons];omega
theorem y7 {n:Int} {l:List ByteArray} {s:ByteArray} (h:(CC n l s).ok=true):8≤s.size:=by
 obtain ⟨h1,h2⟩:=ZR h
 have hne:(HE n l (CC n l s).o (CC n l s).a).1≠⟨#[]⟩:=by rw [h2];exact h1
 have hs:(HE n l (CC n l s).o (CC n l s).a).1=s:=by rw [h2]
 generalize (CC n l s).o=o at hne hs
 generalize (CC n l s).a=a at hne hs
 rw [←hs]
 rw [HE,MI] at hne ⊢
 split at hne
 ·rename_i hok
  rw [if_pos hok]
  obtain ⟨ha,hb,hc,hd,hv,hn,hxs,hxl,hk,hll⟩:=QM hok
  have a1:=GZ ha;have b1:=GZ hb;have c1:=GZ hc;have d1:=GZ hd;have v1:=GZ hv;have n1:=GZ hn
  have sp: ∀x:Int, -100000000000000≤x∧x≤100000000000000→1≤(V (zg x)).size:=fun x hx=>ZC (Ag hx).1 (by have:=Ag hx;omega)
  have q1:=sp o.kind (by omega)
  have q2:=sp (o.a-n) (by omega)
  have q3:=sp o.b (by omega)
  have q4:=sp (o.c-o.a) (by omega)
  have q5:=ZC (n:=a.code) (by omega) (by omega)
  have q6:=sp (a.val-o.a) (by omega)
  have q7:=ZC (n:=(a.freed.length:Int)) (by omega) (by omega)
  have q8:1≤(SD l o.site).size:=by
   unfold SD
   split
   ·rename_i hm
    have:=Cv hm
    exact ZC (by omega) (by omega)
   ·have:=ZC (n:=0) (by omega) (by omega)
    rw [ByteArray.size_append];omega
  simp only [Da,base,ByteArray.size_append,SI]
  omega
 ·exact absurd rfl hne
theorem Ae {ps:List ByteArray}: ∀i q,dcd ps i=some q→ ∀k,k<i→8≤(gS ps k).size
 | 0,q,_,k,hk=>by omega
 | i+1,q,h,k,hk=>by
   rw [dcd] at h
   split at h
   ·cases h
   ·rename_i p hp
    split at h
    ·rename_i hok
     rcases Nat.lt_or_ge k i with h1 | h1
     ·exact Ae i p hp k h1
     ·have:k=i:=by omega
      subst this
      exact y7 hok
    ·cases h
theorem mI {s:ByteArray} (h:(decode s).2.2=0) (hs:s.size<5600):(decode s).1.length<400:=by
 unfold decode at h ⊢
 split at h
 ·simp at h
 ·rename_i h0
  rw [if_neg h0]
  have h0:(rl s).2=0:=Classical.not_not.1 h0
  have hr:rl s=((rl s).1,0):=by rw [←h0]
  obtain ⟨b1,b2,b3⟩:=pE hr
  split at h
  ·simp at h
  ·rename_i q hq
   simp only [hq]
   obtain ⟨_,_,l1,_⟩:=XI _ q (Nat.le_refl _) hq
   simp only at l1
   have h8: ∀p∈(rl s).1,8≤p.size:=fun p hp=>by
    obtain ⟨k,hk,rfl⟩:=List.getElem_of_mem hp
    rw [O0 hk]
    exact Ae _ q hq k hk
   have hz:=wL (rl s).1 0 (by omega) (by omega) b3 h8
   have e:=dZ b2 b3
   rw [b1] at e
   have hz2:=congrArg ByteArray.size e
   rw [ByteArray.size_append] at hz2
   have hm:SF.size=5:=rfl
   omega
theorem jP (ops:List Op5) (ans:List An):(encode ops ans).size≤223+218*ops.length:=by
 unfold encode
 split
 ·exact Nat.zero_le _
 ·split
  ·exact Nat.zero_le _
  ·rename_i q hq
   have hl:=(pV _ _ hq).1
   unfold PO
   split
   ·have h1:=S6 q.1 q.1.length;have h2:=OK q.1.length ⟨#[]⟩
    rw [ByteArray.size_append];omega
   ·exact Nat.zero_le _
end Go.Proofs.YtnhicpkhkaihoaaGreat.P
