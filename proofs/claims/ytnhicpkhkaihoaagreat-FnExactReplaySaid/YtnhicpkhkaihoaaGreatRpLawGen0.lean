/- A part of the proof. -/
import Derived.Test.YtnhicpkhkaihoaaGreatRpTxtB
namespace Go.Proofs.YtnhicpkhkaihoaaGreat.P
open Go Go.Proofs.YtnhicpkhkaihoaaGreat Go.Proofs.YtnhicpkhkaihoaaGreat.Eng
set_option linter.unusedVariables false
theorem Br {b n:Nat} {K:Value→Prop} (hn:b*n≤2^48) (h:K (iv n)):mkW b (iv n) (iv n) K:=⟨n,rfl,rfl,hn,h⟩
theorem fW {b n:Nat} {K:Value→Prop} (hn:b*n≤2^48) (h:K (iv n)):mkW b (I n) (I n) K:=Br hn h
set_option maxHeartbeats 4000000
set_option linter.unusedVariables false
set_option linter.unusedSimpArgs false
attribute [local irreducible] prP gP gE gF AG ixW ldc ldg ldl stc stg scW mkW apW BA cl2 B6 G8 C3
variable {w0:World}
section
variable {α:Type} (mk:Int→α→α) (sz:α→Int)
def szL:List α→Int
 | []=>0
 | x::l=>sz x+szL l
def mkL:Int→List α→List α
 | _,[]=>[]
 | k,x::l=>mk k x::mkL (k+sz x) l
variable {mk sz}
theorem iP: ∀a b:List α,szL sz (a++b)=szL sz a+szL sz b
 | [],b=>by simp [szL]
 | x::a,b=>by simp only [List.cons_append,szL,iP a b];omega
theorem hQ: ∀(a b:List α) (k:Int),mkL mk sz k (a++b)=mkL mk sz k a++mkL mk sz (k+szL sz a) b
 | [],b,k=>by simp [szL,mkL]
 | x::a,b,k=>by simp only [List.cons_append,mkL,szL,hQ a b,Int.add_assoc]
theorem K4: ∀(a:List α) (k:Int),(mkL mk sz k a).length=a.length
 | [],k=>rfl
 | x::a,k=>by simp [mkL,K4 a]
theorem MI {l:List α} {i:Nat} (hi:i<l.length):szL sz (l.take (i+1))=szL sz (l.take i)+sz l[i]:=by
 rw [List.take_succ_eq_append_getElem hi,iP];simp [szL]
theorem JF (h: ∀x,0≤sz x): ∀l:List α,0≤szL sz l
 | []=>by simp [szL]
 | x::l=>by have:=h x;have:=JF h l;simp only [szL];omega
theorem s6 (h: ∀x,0≤sz x) (l:List α) (i:Nat):szL sz (l.take i)≤szL sz l:=by
 conv=>rhs;rw [←List.take_append_drop i l,iP]
 have:=JF h (l.drop i);omega
theorem S8 (h: ∀x,0≤sz x) {l:List α} {i:Nat} (hi:i<l.length):szL sz (l.take i)+sz l[i]≤szL sz l:=by
 rw [←MI hi];exact s6 h l _
theorem ZE {l:List α} {i:Nat} {k:Int} (hi:i<l.length) (hi':i<(mkL mk sz k l).length):(mkL mk sz k l)[i]=mk (k+szL sz (l.take i)) l[i]:=by
 have h:mkL mk sz k l=mkL mk sz k (l.take i)++mkL mk sz (k+szL sz (l.take i)) (l.drop i):=by rw [←hQ,List.take_append_drop]
 have h2:l.drop i=l[i]::l.drop (i+1):=List.drop_eq_getElem_cons hi
 have hl:(mkL mk sz k (l.take i)).length=i:=by rw [K4,List.length_take];omega
 simp only [h,h2,mkL]
 rw [List.getElem_append_right (by omega)]
 simp [hl]
def mid (mk:Int→α→α) (sz:α→Int) (k:Int) (l:List α) (i:Nat):List α:=mkL mk sz k (l.take i)++l.drop i
theorem qE {k:Int} {l:List α}:mid mk sz k l 0=l:=by simp [mid,mkL]
theorem ZC {k:Int} {l:List α}:mid mk sz k l l.length=mkL mk sz k l:=by simp [mid]
theorem PT {k:Int} {l:List α} {i:Nat} (hi:i≤l.length):(mid mk sz k l i).length=l.length:=by
 simp only [mid,List.length_append,K4,List.length_take,List.length_drop];omega
theorem ZK {k:Int} {l:List α} {i:Nat} (hi:i<l.length) (h:i<(mid mk sz k l i).length):(mid mk sz k l i)[i]=l[i]:=by
 have hl:(mkL mk sz k (l.take i)).length=i:=by rw [K4,List.length_take];omega
 simp only [mid]
 rw [List.getElem_append_right (by omega)]
 simp [hl]
theorem ZG {k:Int} {l:List α} {i:Nat} (hi:i<l.length):(mid mk sz k l i).set i (mk (k+szL sz (l.take i)) l[i])=mid mk sz k l (i+1):=by
 have hl:(mkL mk sz k (l.take i)).length=i:=by rw [K4,List.length_take];omega
 simp only [mid]
 rw [List.set_append_right _ _ (by omega),hl,Nat.sub_self,List.drop_eq_getElem_cons hi,List.set_cons_zero,List.take_succ_eq_append_getElem hi,hQ]
 simp [mkL]
end
theorem P7 {l:List Int} {K:J2} (hl:(l.length:Int)<2^62) (h:K [.bool true] []):cl2 ⟨Tryz.prog,w0⟩ 111 ED.sg [] [tI l,tI l] K:=ED.cl2 (dY hl (by rw [decide_eq_true rfl];exact h))
theorem WQ {l:List ByteArray} {K:J2} (hl:(l.length:Int)<2^62) (h:K [.bool true] []):cl2 ⟨Tryz.prog,w0⟩ 112 EI.sg [] [tS l,tS l] K:=EI.cl2 (XN hl (by rw [decide_eq_true rfl];exact h))
theorem NP {n:Int} {l:List Int} {K:J2} (hl:(l.length:Int)<2^62) (hn:0≤n∧n<2^62) (h:K [I (n+l.length)] [tI (marks n l.length)]):cl2 ⟨Tryz.prog,w0⟩ 116 C5.sg [I n] [tI l] K:=C5.cl2 (YV hl hn h)
theorem UO {n:Int} {l:List ByteArray} {K:J2} (hl:(l.length:Int)<2^62) (hn:0≤n∧n<2^62) (h:K [I (n+l.length)] [tS (I8 n l.length)]):cl2 ⟨Tryz.prog,w0⟩ 117 DI.sg [I n] [tS l] K:=DI.cl2 (UQ hl hn h)
theorem eX (z:Int) (k:Nat):(marks z k).length=k:=by simp [marks]
theorem aZ (z:Int) (k:Nat):(I8 z k).length=k:=by simp [I8]
theorem NO {n:Int} {m:Nat} {K:J2} (hm:(m:Int)<2^61) (hn:0≤n∧n<2^61) (h:K [I (n+m)] []):cl2 ⟨Tryz.prog,w0⟩ 120 DH.sg [I n] [tI (marks n m)] K:=by
 refine DH.cl2 ?_
 unfold DH.txt
 rw [AE,eX]
 refine A7 (fun i=>[I (n+i),iv i]) (fun _=>[]) m (fun _=>True) (by simp [RV]) rfl trivial (fun R i hi hP hR=> ?_)
 refine IV (AH (fun hlt=> ?_) fun hge=> ?_)
 ·have hl:i<(marks n m).length:=by rw [eX];exact hlt
  have hg:(marks n m)[i]=n+i:=by simp [marks]
  refine AW hlt (L6 hl ?_)
  rw [hg]
  refine B2 (BV (fun h=>h rfl) (BX (b:=1) ⟨by omega,by omega⟩ (AX (by omega) ?_)))
  have:=hR hlt trivial
  simpa [Int.add_assoc] using this
 ·have:i=m:=by omega
  subst this;exact h
theorem UM {n:Int} {m:Nat} {K:J2} (hm:(m:Int)<2^61) (hn:0≤n∧n<2^61) (h:K [I (n+m)] []):cl2 ⟨Tryz.prog,w0⟩ 121 DG.sg [I n] [tS (I8 n m)] K:=by
 refine DG.cl2 (UT (by rw [aZ];omega) ⟨hn.1,by omega⟩ ?_)
 rw [aZ,if_pos rfl];exact h
end Go.Proofs.YtnhicpkhkaihoaaGreat.P
