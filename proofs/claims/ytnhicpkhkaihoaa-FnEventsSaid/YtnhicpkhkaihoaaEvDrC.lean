/- A part of the proof. -/
import Derived.Test.YtnhicpkhkaihoaaEvDrB
import Derived.Test.YtnhicpkhkaihoaaEvCodA
import Derived.Test.YtnhicpkhkaihoaaEvRowB
namespace Go.Proofs.Ytnhicpkhkaihoaa.P
open Go Go.Proofs.Ytnhicpkhkaihoaa Go.Proofs.Ytnhicpkhkaihoaa.Eng
set_option linter.unusedVariables false
set_option maxHeartbeats 4000000
set_option linter.unusedVariables false
set_option linter.unusedSimpArgs false
attribute [local irreducible] prP gP gE gF AI ixW ldc ldg ldl stc stg scW mkW apW BG cl2 BZ EZ DS
variable {w0:World}
theorem oZ (l:List Nat) (n:Nat):tB l++[T.c (.int .u8 (n:Int))]=tB (l++[n]):=by simp [tB]
theorem Y1 {l:List Nat} {K:Value→Prop} (h:K (.string (HJ l))):prP (b2T (tB l)) K:=by rw [dH];exact BC rfl h
theorem XI {L:List Int} {i m:Nat} {z:Int} {K:J2} (hb:OA L) (hi:i≤L.length) (hm:m≤1000) (h: ∀(s:ByteArray) i' z',s.size≤m→i'≤L.length→K [.string s,iv i',I z'] []):cl2 ⟨Try.prog,w0⟩ 180 GB.sg [iv i,I z,I m] [tY L] K:=by
 refine GB.cl2 ?_
 unfold GB.txt
 refine BY hb hi fun x i1 z1 x0 x1 h1=>CV ⟨by omega,by omega⟩ (BY hb h1 fun y i2 z2 y0 y1 h2=> ?_)
 obtain ⟨n,rfl⟩: ∃n:Nat,y=n:=⟨y.toNat,by omega⟩
 simp only [AJ,AQ,AL,AR,AO,AE,AG,AU,AN,AS,AV,AP,AM,AT,BN,BS,BV,BT,BW,BU,BO,A9,A6,A4,A7,A8,A5]
 refine FA (α:=Nat×Nat×Int×List Nat) (fun q=>[I x,iv q.1,iv q.2.1,I q.2.2.1]) (fun q=>[tB q.2.2.2]) (fun q=>q.1) (fun q=>q.1+q.2.2.2.length≤m∧q.2.1≤L.length) (n,i2,z2,[]) rfl rfl ⟨by simp;omega,h2⟩ (fun R q hq hR=> ?_)
 obtain ⟨k,i3,z3,l⟩:=q
 obtain ⟨q1,q2⟩:=hq
 simp only at q1 q2
 simp only [AJ,AQ,AL,AR,AO,AE,AG,AU,AN,AS,AV,AP,AM,AT,BN,BS,BV,BT,BW,BU,BO,A9,A6,A4,A7,A8,A5]
 refine GR (AH (fun hgt=> ?_) fun _=>Y1 (h _ i3 z3 (by rw [EP];omega) q2))
 have hgt:0<k:=by omega
 refine GO hb q2 fun v i4 z4 v0 v1 h4=>BX ?_
 have tail: ∀v:Nat,v<1000→prP (cvI .u8 (I v)) fun t33=>apW [T.c t33] true (cnt 1 (tB l)) (cnt 1 [T.c t33]) 1 (prP (bnI .sub (iv k) (I 1)) fun t19=>R [I x,t19,iv i4,I z4] [tB l++[T.c t33]]):=fun v hv=>by
  refine iH (n:=v) (GW rfl (by rw [eL];first | omega | (simp only [AJ,AQ,AL,AR,AO,AE,AG,AU,AN,AS,AV,AP,AM,AT,BN,BS,BV,BT,BW,BU,BO,A9,A6,A4,A7,A8,A5];omega)) (DW ⟨by omega,by omega⟩ ?_))
  rw [oZ,show (k:Int)-1=((k-1:Nat):Int) from by omega]
  exact hR (k-1,i4,z4,l++[v % 256]) ⟨by simp;omega,h4⟩ (by simp only;omega)
 have mid: ∀v:Nat,v<300→prP (bnI .eql (I x) (I 2)) fun t27=>AI t27 (prP (bnI .rem (I v) (I 4)) fun t29=>prP (bnI .add (I 97) t29) fun t30=>prP (cvI .u8 t30) fun t33=>apW [T.c t33] true (cnt 1 (tB l)) (cnt 1 [T.c t33]) 1 (prP (bnI .sub (iv k) (I 1)) fun t19=>R [I x,t19,iv i4,I z4] [tB l++[T.c t33]])) (prP (cvI .u8 (I v)) fun t33=>apW [T.c t33] true (cnt 1 (tB l)) (cnt 1 [T.c t33]) 1 (prP (bnI .sub (iv k) (I 1)) fun t19=>R [I x,t19,iv i4,I z4] [tB l++[T.c t33]])):=fun v hv=>by
  refine BI (AH (fun _=>NU (by omega) (by omega) (CV ⟨by omega,by omega⟩ ?_)) fun _=>tail v (by omega))
  rw [show (97:Int)+(v:Int) % 4=((97+v % 4:Nat):Int) from by omega]
  exact tail _ (by omega)
 obtain ⟨u,rfl⟩: ∃u:Nat,v=u:=⟨v.toNat,by omega⟩
 refine BI (AH (fun _=>NU v0 (by omega) (BX ?_)) fun _=>BX (mid u (by omega)))
 rw [show (u:Int) % 2=((u % 2:Nat):Int) from by omega]
 exact mid _ (by omega)
theorem WS {L:List Int} {i:Nat} {z:Int} {s:ByteArray} {K:J2} (hb:OA L) (hi:i≤L.length) (hs:(s.size:Int)<2^40) (h: ∀(t:ByteArray) i' z',t.size≤s.size+3→i'≤L.length→K [.string t,iv i',I z'] []):cl2 ⟨Try.prog,w0⟩ 127 FJ.sg [iv i,I z, .string s] [tY L] K:=by
 refine FJ.cl2 ?_
 unfold FJ.txt
 refine G8 (BI (AH (fun _=>XI (m:=3) hb hi (by omega) fun t i' z' ht h'=>h t i' z' (by omega) h') fun hne=> ?_))
 refine G8 (BY hb hi fun x i1 z1 x0 x1 h1=>BY hb h1 fun y i2 z2 y0 y1 h2=> ?_)
 obtain ⟨k,rfl⟩: ∃k:Nat,x=k:=⟨x.toNat,by omega⟩
 have hk:k<s.size:=by omega
 simp only [AJ,AQ,AL,AR,AO,AE,AG,AU,AN,AS,AV,AP,AM,AT,BN,BS,BV,BT,BW,BU,BO,A9,A6,A4,A7,A8,A5]
 refine BI (AH (fun _=> ?_) fun _=>BI (AH (fun _=> ?_) fun _=>BI (AH (fun _=> ?_) fun _=> ?_)))
 ·refine aD (by omega) (by omega) (CV ⟨by omega,by omega⟩ (aP (by omega) (by omega) (CI (by rw [H9,ByteArray.size_extract];omega) ?_)))
  exact h _ i2 z2 (by rw [ByteArray.size_append,H9,ByteArray.size_extract];omega) h2
 ·refine aD (by omega) (by omega) (GO hb h2 fun v i3 z3 v0 v1 h3=> ?_)
  obtain ⟨u,rfl⟩: ∃u:Nat,v=u:=⟨v.toNat,by omega⟩
  refine iH (n:=u) (Y1 (l:=[u % 256]) (CI (by rw [EP,ByteArray.size_extract];simp;omega) (aP (by omega) (by omega) (CI (by simp only [ByteArray.size_append,EP,H9,ByteArray.size_extract,List.length_singleton];omega) ?_))))
  exact h _ i3 z3 (by simp only [ByteArray.size_append,EP,H9,ByteArray.size_extract,List.length_singleton];omega) h3
 ·refine aD (by omega) (by omega) ?_
  exact h _ i2 z2 (by rw [ByteArray.size_extract];omega) h2
 ·have hby:=mY s k
  refine aD (by omega) (by omega) (mJ hk (Q9 ⟨by omega,by omega⟩ (BY hb h2 fun v i3 z3 v0 v1 h3=> ?_)))
  refine CV ⟨by omega,by omega⟩ (cL fun w=> ?_)
  refine l5 (n:=w) (m:=(w % 256).toNat) (by omega) (Y1 (l:=[(w % 256).toNat]) (CI (by rw [EP,ByteArray.size_extract];simp;omega) (CV ⟨by omega,by omega⟩ (aP (by omega) (by omega) (CI (by simp only [ByteArray.size_append,EP,H9,ByteArray.size_extract,List.length_singleton];omega) ?_)))))
  exact h _ i3 z3 (by simp only [ByteArray.size_append,EP,H9,ByteArray.size_extract,List.length_singleton];omega) h3
theorem PE {L:List Int} {K:J2} (hb:OA L) (h: ∀(n:Int) (l:List ByteArray) (t:ByteArray),l.length≤4→t.size≤200→K [I n, .string t] [tS l]):cl2 ⟨Try.prog,w0⟩ 57 C0.sg [] [tY L] K:=by
 refine C0.cl2 (RV hb fun z=>OD hb (Nat.zero_le _) fun o a i1 z1 ho ha h1=>QC hb h1 fun n l i2 z2 n0 n1 hl h2=> ?_)
 refine JP (by omega) (by omega) ?_
 have hz:=(NQ n l o a).1
 rw [C8] at hz
 generalize (HQ n l o.kind o.a o.b o.c o.site a.code a.val a.freed)=R at hz ⊢
 refine BY hb h2 fun x i3 z3 x0 x1 h3=>BI (AH (fun _=> ?_) fun _=>BI (AH (fun _=> ?_) fun _=> ?_))
 ·refine WS hb h3 (by omega) fun t i4 z4 ht h4=> ?_
  exact h n l t hl (by omega)
 ·refine G8 (CV ⟨by omega,by omega⟩ (BY hb h3 fun y i4 z4 y0 y1 h4=> ?_))
  refine aD y0 (by omega) ?_
  exact h n l _ hl (by rw [ByteArray.size_extract];omega)
 ·exact h n l _ hl (by omega)
theorem dT {L:List Int} {K:J2} (h:K [.bool (decide ((L.length:Int)>1048576))] []):cl2 ⟨Try.prog,w0⟩ 49 I6.sg [] [tY L] K:=by
 refine I6.cl2 ?_
 unfold I6.txt
 rw [fG]
 exact GR h
theorem eS {L:List Int} (g:VQ L) {K:J2} (done:K [.bool true] []):FQ.txt ⟨Try.prog,w0⟩ (tY L) K:=by
 unfold FQ.txt
 refine dT (AH (fun _=>done) fun hsz=> ?_)
 have hb:=g.f hsz
 refine O4 hb fun n l o a hl ha=> ?_
 have hs:=NQ n l o a
 refine NB (by omega) (by omega) (JP (by omega) (by omega) (Q6 (FF (fun hh=>hh rfl) ?_)))
 have e1:HQ n l o.kind o.a o.b o.c o.site a.code a.val a.freed=C8 n l o a:=by rw [C8]
 rw [e1]
 refine OK (AH (fun h0=> ?_) fun h0=> ?_)
 ·have e2:C8 n l o a=(⟨#[]⟩,n,l):=by
   rw [C8,HQ] at h0 ⊢
   split at h0
   ·rename_i hok
    exfalso
    have hp:=bM (cI (x:=o.kind) (by have:=ES (LQ hok).1;omega)).1 (by have:=cI (x:=o.kind) (by have:=ES (LQ hok).1;omega);omega)
    have hz:=congrArg ByteArray.size h0
    simp only [kW,base,ByteArray.size_append,SI] at hz
    have:(⟨#[]⟩:ByteArray).size=0:=rfl
    omega
   ·rename_i hno
    rw [if_neg hno]
  rw [e2]
  exact UU (n:=n) (l:=l) (by omega) done
 ·have hr:=dX h0
  have hok:okE n l o.kind o.a o.b o.c o.site a.code a.val a.freed=true:=by
   cases hk:okE n l o.kind o.a o.b o.c o.site a.code a.val a.freed with
   | true=>rfl
   | false=>exfalso;apply h0;rw [C8,HQ,hk];rfl
  have hsp:UR o.kind o.a o.b o.c o.site=true:=by
   simp only [okE,Bool.and_eq_true] at hok
   exact hok.1.1
  have hla:(C8 n l o a).2.1=o.a:=by rw [C8,HQ,if_pos hok]
  refine ND (by omega) (by omega) ?_
  rw [hr]
  have hno: ¬o≠o:=fun hh=>hh rfl
  refine B6 (BP (BP (O2 (lM (ZW rfl (BP (BP (I5 hno (SJ (a:=a) (by omega) ?_)))))))))
  refine I5 hno (B6 (FV hno rfl (BP (BP (O2 (WZ (n:=(C8 n l o a).2.1) (l:=(C8 n l o a).2.2) (by omega) ?_))))))
  refine O2 (B6 (ZW rfl (BP (BP (BP (BP (O2 (DR ?_))))))))
  have hn2: ¬(C8 n l o a).2.1≠o.a:=fun hh=>hh hla
  refine ZW rfl (BP (I5 hn2 (M9 ?_)))
  rw [hsp]
  refine I5 hn2 (B6 (FV hn2 rfl (CD ?_)))
  refine PE hb fun m w t hw ht=>ND (by omega) (by omega) ?_
  have hbd:=cD m w t
  refine JP (by omega) (by omega) ?_
  cases hf:(CP m w t).ok with
  | false=>exact B6 (BP (BP (RJ (TZ rfl done))))
  | true=>
    have hsh:=(lQ hf).2
    have e3:HQ m w (CP m w t).o.kind (CP m w t).o.a (CP m w t).o.b (CP m w t).o.c (CP m w t).o.site (CP m w t).a.code (CP m w t).a.val (CP m w t).a.freed=C8 m w (CP m w t).o (CP m w t).a:=by rw [C8]
    rw [e3,hsh]
    exact B6 (BP (BP (O2 (OK (ZW rfl (by rw [decide_eq_true rfl];exact done))))))
end Go.Proofs.Ytnhicpkhkaihoaa.P
