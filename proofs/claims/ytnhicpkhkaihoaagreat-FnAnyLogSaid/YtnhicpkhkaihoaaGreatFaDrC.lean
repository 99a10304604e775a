/- A part of the proof. -/
import Derived.Test.YtnhicpkhkaihoaaGreatFaDrB
import Derived.Test.YtnhicpkhkaihoaaGreatFaCodA
import Derived.Test.YtnhicpkhkaihoaaGreatFaRowB
namespace Go.Proofs.YtnhicpkhkaihoaaGreat.P
open Go Go.Proofs.YtnhicpkhkaihoaaGreat Go.Proofs.YtnhicpkhkaihoaaGreat.Eng
set_option linter.unusedVariables false
set_option maxHeartbeats 4000000
set_option linter.unusedVariables false
set_option linter.unusedSimpArgs false
attribute [local irreducible] prP gP gE gF AU ixW ldc ldg ldl stc stg scW mkW apW BG cl2 BX GP CZ
variable {w0:World}
theorem zS (l:List Nat) (n:Nat):tB l++[T.c (.int .u8 (n:Int))]=tB (l++[n]):=by simp [tB]
theorem fO {l:List Nat} {K:Value→Prop} (h:K (.string (HI l))):prP (b2T (tB l)) K:=by rw [aJ];exact BL rfl h
theorem cZ {L:List Int} {i m:Nat} {z:Int} {K:J2} (hb:SQ L) (hi:i≤L.length) (hm:m≤1000) (h: ∀(s:ByteArray) i' z',s.size≤m→i'≤L.length→K [.string s,iv i',I z'] []):cl2 ⟨Tryz.prog,w0⟩ 154 IY.sg [iv i,I z,I m] [tY L] K:=by
 refine IY.cl2 ?_
 unfold IY.txt
 refine CF hb hi fun x i1 z1 x0 x1 h1=>B3 ⟨by omega,by omega⟩ (CF hb h1 fun y i2 z2 y0 y1 h2=> ?_)
 obtain ⟨n,rfl⟩: ∃n:Nat,y=n:=⟨y.toNat,by omega⟩
 simp only [AK,AS,AJ,AI,AM,AE,AH,AN,AO,AP,AL,AR,AT,AQ,BB,BE,BI,BH,BK,BJ,BF,AX,A4,AY,A1,AZ,A5]
 refine CQ (α:=Nat×Nat×Int×List Nat) (fun q=>[I x,iv q.1,iv q.2.1,I q.2.2.1]) (fun q=>[tB q.2.2.2]) (fun q=>q.1) (fun q=>q.1+q.2.2.2.length≤m∧q.2.1≤L.length) (n,i2,z2,[]) rfl rfl ⟨by simp;omega,h2⟩ (fun R q hq hR=> ?_)
 obtain ⟨k,i3,z3,l⟩:=q
 obtain ⟨q1,q2⟩:=hq
 simp only at q1 q2
 simp only [AK,AS,AJ,AI,AM,AE,AH,AN,AO,AP,AL,AR,AT,AQ,BB,BE,BI,BH,BK,BJ,BF,AX,A4,AY,A1,AZ,A5]
 refine FJ (AG (fun hgt=> ?_) fun _=>fO (h _ i3 z3 (by rw [HA];omega) q2))
 have hgt:0<k:=by omega
 refine I6 hb q2 fun v i4 z4 v0 v1 h4=>BS ?_
 have tail: ∀v:Nat,v<1000→prP (cvI .u8 (I v)) fun t33=>apW [T.c t33] true (cnt 1 (tB l)) (cnt 1 [T.c t33]) 1 (prP (bnI .sub (iv k) (I 1)) fun t19=>R [I x,t19,iv i4,I z4] [tB l++[T.c t33]]):=fun v hv=>by
  refine fG (n:=v) (DP rfl (by rw [mJ];first | omega | (simp only [AK,AS,AJ,AI,AM,AE,AH,AN,AO,AP,AL,AR,AT,AQ,BB,BE,BI,BH,BK,BJ,BF,AX,A4,AY,A1,AZ,A5];omega)) (DO ⟨by omega,by omega⟩ ?_))
  rw [zS,show (k:Int)-1=((k-1:Nat):Int) from by omega]
  exact hR (k-1,i4,z4,l++[v % 256]) ⟨by simp;omega,h4⟩ (by simp only;omega)
 have mid: ∀v:Nat,v<300→prP (bnI .eql (I x) (I 2)) fun t27=>AU t27 (prP (bnI .rem (I v) (I 4)) fun t29=>prP (bnI .add (I 97) t29) fun t30=>prP (cvI .u8 t30) fun t33=>apW [T.c t33] true (cnt 1 (tB l)) (cnt 1 [T.c t33]) 1 (prP (bnI .sub (iv k) (I 1)) fun t19=>R [I x,t19,iv i4,I z4] [tB l++[T.c t33]])) (prP (cvI .u8 (I v)) fun t33=>apW [T.c t33] true (cnt 1 (tB l)) (cnt 1 [T.c t33]) 1 (prP (bnI .sub (iv k) (I 1)) fun t19=>R [I x,t19,iv i4,I z4] [tB l++[T.c t33]])):=fun v hv=>by
  refine BA (AG (fun _=>JX (by omega) (by omega) (B3 ⟨by omega,by omega⟩ ?_)) fun _=>tail v (by omega))
  rw [show (97:Int)+(v:Int) % 4=((97+v % 4:Nat):Int) from by omega]
  exact tail _ (by omega)
 obtain ⟨u,rfl⟩: ∃u:Nat,v=u:=⟨v.toNat,by omega⟩
 refine BA (AG (fun _=>JX v0 (by omega) (BS ?_)) fun _=>BS (mid u (by omega)))
 rw [show (u:Int) % 2=((u % 2:Nat):Int) from by omega]
 exact mid _ (by omega)
theorem aW {L:List Int} {i:Nat} {z:Int} {s:ByteArray} {K:J2} (hb:SQ L) (hi:i≤L.length) (hs:(s.size:Int)<2^40) (h: ∀(t:ByteArray) i' z',t.size≤s.size+3→i'≤L.length→K [.string t,iv i',I z'] []):cl2 ⟨Tryz.prog,w0⟩ 96 HT.sg [iv i,I z, .string s] [tY L] K:=by
 refine HT.cl2 ?_
 unfold HT.txt
 refine CJ (BA (AG (fun _=>cZ (m:=3) hb hi (by omega) fun t i' z' ht h'=>h t i' z' (by omega) h') fun hne=> ?_))
 refine CJ (CF hb hi fun x i1 z1 x0 x1 h1=>CF hb h1 fun y i2 z2 y0 y1 h2=> ?_)
 obtain ⟨k,rfl⟩: ∃k:Nat,x=k:=⟨x.toNat,by omega⟩
 have hk:k<s.size:=by omega
 simp only [AK,AS,AJ,AI,AM,AE,AH,AN,AO,AP,AL,AR,AT,AQ,BB,BE,BI,BH,BK,BJ,BF,AX,A4,AY,A1,AZ,A5]
 refine BA (AG (fun _=> ?_) fun _=>BA (AG (fun _=> ?_) fun _=>BA (AG (fun _=> ?_) fun _=> ?_)))
 ·refine XP (by omega) (by omega) (B3 ⟨by omega,by omega⟩ (XR (by omega) (by omega) (CB (by rw [C2,ByteArray.size_extract];omega) ?_)))
  exact h _ i2 z2 (by rw [ByteArray.size_append,C2,ByteArray.size_extract];omega) h2
 ·refine XP (by omega) (by omega) (I6 hb h2 fun v i3 z3 v0 v1 h3=> ?_)
  obtain ⟨u,rfl⟩: ∃u:Nat,v=u:=⟨v.toNat,by omega⟩
  refine fG (n:=u) (fO (l:=[u % 256]) (CB (by rw [HA,ByteArray.size_extract];simp;omega) (XR (by omega) (by omega) (CB (by simp only [ByteArray.size_append,HA,C2,ByteArray.size_extract,List.length_singleton];omega) ?_))))
  exact h _ i3 z3 (by simp only [ByteArray.size_append,HA,C2,ByteArray.size_extract,List.length_singleton];omega) h3
 ·refine XP (by omega) (by omega) ?_
  exact h _ i2 z2 (by rw [ByteArray.size_extract];omega) h2
 ·have hby:=aB s k
  refine XP (by omega) (by omega) (ZT hk (OW ⟨by omega,by omega⟩ (CF hb h2 fun v i3 z3 v0 v1 h3=> ?_)))
  refine B3 ⟨by omega,by omega⟩ (jU fun w=> ?_)
  refine SA (n:=w) (m:=(w % 256).toNat) (by omega) (fO (l:=[(w % 256).toNat]) (CB (by rw [HA,ByteArray.size_extract];simp;omega) (B3 ⟨by omega,by omega⟩ (XR (by omega) (by omega) (CB (by simp only [ByteArray.size_append,HA,C2,ByteArray.size_extract,List.length_singleton];omega) ?_)))))
  exact h _ i3 z3 (by simp only [ByteArray.size_append,HA,C2,ByteArray.size_extract,List.length_singleton];omega) h3
theorem mP {L:List Int} {K:J2} (h:K [.bool (decide ((L.length:Int)>1048576))] []):cl2 ⟨Tryz.prog,w0⟩ 7 ME.sg [] [tY L] K:=by
 refine ME.cl2 ?_
 unfold ME.txt
 rw [l7]
 exact FJ h
end Go.Proofs.YtnhicpkhkaihoaaGreat.P
