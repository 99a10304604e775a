/- A part of the proof. -/
import Derived.Test.YtnhicpkhkaihoaaCkTxtB
namespace Go.Proofs.Ytnhicpkhkaihoaa.P
open Go Go.Proofs.Ytnhicpkhkaihoaa Go.Proofs.Ytnhicpkhkaihoaa.Eng
set_option linter.unusedVariables false
theorem rU {b n:Nat} {K:Value→Prop} (hn:b*n≤2^48) (h:K (iv n)):mkW b (iv n) (iv n) K:=⟨n,rfl,rfl,hn,h⟩
theorem gU {b n:Nat} {K:Value→Prop} (hn:b*n≤2^48) (h:K (iv n)):mkW b (I n) (I n) K:=rU hn h
set_option maxHeartbeats 4000000
set_option linter.unusedVariables false
set_option linter.unusedSimpArgs false
attribute [local irreducible] prP gP gE gF AU ixW ldc ldg ldl stc stg scW mkW apW BD cl2 BW FR DK
variable {w0:World}
section
variable {α:Type} (mk:Int→α→α) (sz:α→Int)
def szL:List α→Int
 | []=>0
 | x::l=>sz x+szL l
def mkL:Int→List α→List α
 | _,[]=>[]
 | k,x::l=>mk k x::mkL (k+sz x) l
variable {mk sz}
theorem aQ: ∀a b:List α,szL sz (a++b)=szL sz a+szL sz b
 | [],b=>by simp [szL]
 | x::a,b=>by simp only [List.cons_append,szL,aQ a b];omega
theorem ZP: ∀(a b:List α) (k:Int),mkL mk sz k (a++b)=mkL mk sz k a++mkL mk sz (k+szL sz a) b
 | [],b,k=>by simp [szL,mkL]
 | x::a,b,k=>by simp only [List.cons_append,mkL,szL,ZP a b,Int.add_assoc]
theorem JJ: ∀(a:List α) (k:Int),(mkL mk sz k a).length=a.length
 | [],k=>rfl
 | x::a,k=>by simp [mkL,JJ a]
theorem KH {l:List α} {i:Nat} (hi:i<l.length):szL sz (l.take (i+1))=szL sz (l.take i)+sz l[i]:=by
 rw [List.take_succ_eq_append_getElem hi,aQ];simp [szL]
theorem HH (h: ∀x,0≤sz x): ∀l:List α,0≤szL sz l
 | []=>by simp [szL]
 | x::l=>by have:=h x;have:=HH h l;simp only [szL];omega
theorem oQ (h: ∀x,0≤sz x) (l:List α) (i:Nat):szL sz (l.take i)≤szL sz l:=by
 conv=>rhs;rw [←List.take_append_drop i l,aQ]
 have:=HH h (l.drop i);omega
theorem RK (h: ∀x,0≤sz x) {l:List α} {i:Nat} (hi:i<l.length):szL sz (l.take i)+sz l[i]≤szL sz l:=by
 rw [←KH hi];exact oQ h l _
theorem Z0 {l:List α} {i:Nat} {k:Int} (hi:i<l.length) (hi':i<(mkL mk sz k l).length):(mkL mk sz k l)[i]=mk (k+szL sz (l.take i)) l[i]:=by
 have h:mkL mk sz k l=mkL mk sz k (l.take i)++mkL mk sz (k+szL sz (l.take i)) (l.drop i):=by rw [←ZP,List.take_append_drop]
 have h2:l.drop i=l[i]::l.drop (i+1):=List.drop_eq_getElem_cons hi
 have hl:(mkL mk sz k (l.take i)).length=i:=by rw [JJ,List.length_take];omega
 simp only [h,h2,mkL]
 rw [List.getElem_append_right (by omega)]
 simp [hl]
def mid (mk:Int→α→α) (sz:α→Int) (k:Int) (l:List α) (i:Nat):List α:=mkL mk sz k (l.take i)++l.drop i
theorem gY {k:Int} {l:List α}:mid mk sz k l 0=l:=by simp [mid,mkL]
theorem U8 {k:Int} {l:List α}:mid mk sz k l l.length=mkL mk sz k l:=by simp [mid]
theorem MQ {k:Int} {l:List α} {i:Nat} (hi:i≤l.length):(mid mk sz k l i).length=l.length:=by
 simp only [mid,List.length_append,JJ,List.length_take,List.length_drop];omega
theorem UT {k:Int} {l:List α} {i:Nat} (hi:i<l.length) (h:i<(mid mk sz k l i).length):(mid mk sz k l i)[i]=l[i]:=by
 have hl:(mkL mk sz k (l.take i)).length=i:=by rw [JJ,List.length_take];omega
 simp only [mid]
 rw [List.getElem_append_right (by omega)]
 simp [hl]
theorem U7 {k:Int} {l:List α} {i:Nat} (hi:i<l.length):(mid mk sz k l i).set i (mk (k+szL sz (l.take i)) l[i])=mid mk sz k l (i+1):=by
 have hl:(mkL mk sz k (l.take i)).length=i:=by rw [JJ,List.length_take];omega
 simp only [mid]
 rw [List.set_append_right _ _ (by omega),hl,Nat.sub_self,List.drop_eq_getElem_cons hi,List.set_cons_zero,List.take_succ_eq_append_getElem hi,ZP]
 simp [mkL]
end
theorem lG {α:Type} {l:List α} {i:Nat} {z:α} (hlt:i<l.length):l.take (i+1)++List.replicate (l.length-(i+1)) z=(l.take i++List.replicate (l.length-i) z).set i l[i]:=by
 have hml:(l.take i).length=i:=by simp;omega
 obtain ⟨k,hk⟩: ∃k,l.length-i=k+1:=⟨l.length-i-1,by omega⟩
 rw [List.set_append_right _ _ (by omega),hml,Nat.sub_self,hk,List.replicate_succ,List.set_cons_zero,List.take_succ_eq_append_getElem hlt,show l.length-(i+1)=k by omega,List.append_assoc]
 rfl
theorem M6 {l:List Int} {K:J2} (hl:(l.length:Int)<2^62) (h:K [.bool true] []):cl2 ⟨Try.prog,w0⟩ 17 DJ.sg [] [tI l,tI l] K:=DJ.cl2 (X7 hl (by rw [decide_eq_true rfl];exact h))
theorem TA {l:List ByteArray} {K:J2} (hl:(l.length:Int)<2^62) (h:K [.bool true] []):cl2 ⟨Try.prog,w0⟩ 87 DM.sg [] [tS l,tS l] K:=DM.cl2 (S8 hl (by rw [decide_eq_true rfl];exact h))
theorem KU {n:Int} {l:List Int} {K:J2} (hl:(l.length:Int)<2^62) (hn:0≤n∧n<2^62) (h:K [I (n+l.length)] [tI (marks n l.length)]):cl2 ⟨Try.prog,w0⟩ 20 CL.sg [I n] [tI l] K:=CL.cl2 (UE hl hn h)
theorem RA {n:Int} {l:List ByteArray} {K:J2} (hl:(l.length:Int)<2^62) (hn:0≤n∧n<2^62) (h:K [I (n+l.length)] [tS (G3 n l.length)]):cl2 ⟨Try.prog,w0⟩ 90 CV.sg [I n] [tS l] K:=CV.cl2 (RM hl hn h)
theorem YX (z:Int) (k:Nat):(marks z k).length=k:=by simp [marks]
theorem W8 (z:Int) (k:Nat):(G3 z k).length=k:=by simp [G3]
theorem KT {n:Int} {m:Nat} {K:J2} (hm:(m:Int)<2^61) (hn:0≤n∧n<2^61) (h:K [I (n+m)] []):cl2 ⟨Try.prog,w0⟩ 21 CY.sg [I n] [tI (marks n m)] K:=by
 refine CY.cl2 ?_
 unfold CY.txt
 rw [AD,YX]
 refine BA (fun i=>[I (n+i),iv i]) (fun _=>[]) m (fun _=>True) (by simp [O1]) rfl trivial (fun R i hi hP hR=> ?_)
 refine OI (AW (fun hlt=> ?_) fun hge=> ?_)
 ·have hl:i<(marks n m).length:=by rw [YX];exact hlt
  have hg:(marks n m)[i]=n+i:=by simp [marks]
  refine AG hlt (WN hl ?_)
  rw [hg]
  refine B6 (B2 (fun h=>h rfl) (C1 (b:=1) ⟨by omega,by omega⟩ (A8 (by omega) ?_)))
  have:=hR hlt trivial
  simpa [Int.add_assoc] using this
 ·have:i=m:=by omega
  subst this;exact h
theorem Q8 {n:Int} {m:Nat} {K:J2} (hm:(m:Int)<2^61) (hn:0≤n∧n<2^61) (h:K [I (n+m)] []):cl2 ⟨Try.prog,w0⟩ 104 CW.sg [I n] [tS (G3 n m)] K:=by
 refine CW.cl2 (Q7 (by rw [W8];omega) ⟨hn.1,by omega⟩ ?_)
 rw [W8,if_pos rfl];exact h
end Go.Proofs.Ytnhicpkhkaihoaa.P
