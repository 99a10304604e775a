/- A part of the proof. -/
import Derived.Test.YtnhicpkhkaihoaaGreatRcTxtB
namespace Go.Proofs.YtnhicpkhkaihoaaGreat.P
open Go Go.Proofs.YtnhicpkhkaihoaaGreat Go.Proofs.YtnhicpkhkaihoaaGreat.Eng
set_option linter.unusedVariables false
theorem xB {b n:Nat} {K:Value→Prop} (hn:b*n≤2^48) (h:K (iv n)):mkW b (iv n) (iv n) K:=⟨n,rfl,rfl,hn,h⟩
theorem l7 {b n:Nat} {K:Value→Prop} (hn:b*n≤2^48) (h:K (iv n)):mkW b (I n) (I n) K:=xB hn h
set_option maxHeartbeats 4000000
set_option linter.unusedVariables false
set_option linter.unusedSimpArgs false
attribute [local irreducible] prP gP gE gF AG ixW ldc ldg ldl stc stg scW mkW apW BB cl2 BY FT DG
variable {w0:World}
section
variable {α:Type} (mk:Int→α→α) (sz:α→Int)
def szL:List α→Int
 | []=>0
 | x::l=>sz x+szL l
def mkL:Int→List α→List α
 | _,[]=>[]
 | k,x::l=>mk k x::mkL (k+sz x) l
variable {mk sz}
theorem fN: ∀a b:List α,szL sz (a++b)=szL sz a+szL sz b
 | [],b=>by simp [szL]
 | x::a,b=>by simp only [List.cons_append,szL,fN a b];omega
theorem fR: ∀(a b:List α) (k:Int),mkL mk sz k (a++b)=mkL mk sz k a++mkL mk sz (k+szL sz a) b
 | [],b,k=>by simp [szL,mkL]
 | x::a,b,k=>by simp only [List.cons_append,mkL,szL,fR a b,Int.add_assoc]
theorem LB: ∀(a:List α) (k:Int),(mkL mk sz k a).length=a.length
 | [],k=>rfl
 | x::a,k=>by simp [mkL,LB a]
theorem L6 {l:List α} {i:Nat} (hi:i<l.length):szL sz (l.take (i+1))=szL sz (l.take i)+sz l[i]:=by
 rw [List.take_succ_eq_append_getElem hi,fN];simp [szL]
theorem I1 (h: ∀x,0≤sz x): ∀l:List α,0≤szL sz l
 | []=>by simp [szL]
 | x::l=>by have:=h x;have:=I1 h l;simp only [szL];omega
theorem tH (h: ∀x,0≤sz x) (l:List α) (i:Nat):szL sz (l.take i)≤szL sz l:=by
 conv=>rhs;rw [←List.take_append_drop i l,fN]
 have:=I1 h (l.drop i);omega
theorem TO (h: ∀x,0≤sz x) {l:List α} {i:Nat} (hi:i<l.length):szL sz (l.take i)+sz l[i]≤szL sz l:=by
 rw [←L6 hi];exact tH h l _
theorem fD {l:List α} {i:Nat} {k:Int} (hi:i<l.length) (hi':i<(mkL mk sz k l).length):(mkL mk sz k l)[i]=mk (k+szL sz (l.take i)) l[i]:=by
 have h:mkL mk sz k l=mkL mk sz k (l.take i)++mkL mk sz (k+szL sz (l.take i)) (l.drop i):=by rw [←fR,List.take_append_drop]
 have h2:l.drop i=l[i]::l.drop (i+1):=List.drop_eq_getElem_cons hi
 have hl:(mkL mk sz k (l.take i)).length=i:=by rw [LB,List.length_take];omega
 simp only [h,h2,mkL]
 rw [List.getElem_append_right (by omega)]
 simp [hl]
def mid (mk:Int→α→α) (sz:α→Int) (k:Int) (l:List α) (i:Nat):List α:=mkL mk sz k (l.take i)++l.drop i
theorem nY {k:Int} {l:List α}:mid mk sz k l 0=l:=by simp [mid,mkL]
theorem XW {k:Int} {l:List α}:mid mk sz k l l.length=mkL mk sz k l:=by simp [mid]
theorem N9 {k:Int} {l:List α} {i:Nat} (hi:i≤l.length):(mid mk sz k l i).length=l.length:=by
 simp only [mid,List.length_append,LB,List.length_take,List.length_drop];omega
theorem XQ {k:Int} {l:List α} {i:Nat} (hi:i<l.length) (h:i<(mid mk sz k l i).length):(mid mk sz k l i)[i]=l[i]:=by
 have hl:(mkL mk sz k (l.take i)).length=i:=by rw [LB,List.length_take];omega
 simp only [mid]
 rw [List.getElem_append_right (by omega)]
 simp [hl]
theorem XN {k:Int} {l:List α} {i:Nat} (hi:i<l.length):(mid mk sz k l i).set i (mk (k+szL sz (l.take i)) l[i])=mid mk sz k l (i+1):=by
 have hl:(mkL mk sz k (l.take i)).length=i:=by rw [LB,List.length_take];omega
 simp only [mid]
 rw [List.set_append_right _ _ (by omega),hl,Nat.sub_self,List.drop_eq_getElem_cons hi,List.set_cons_zero,List.take_succ_eq_append_getElem hi,fR]
 simp [mkL]
end
theorem o6 {α:Type} {l:List α} {i:Nat} {z:α} (hlt:i<l.length):l.take (i+1)++List.replicate (l.length-(i+1)) z=(l.take i++List.replicate (l.length-i) z).set i l[i]:=by
 have hml:(l.take i).length=i:=by simp;omega
 obtain ⟨k,hk⟩: ∃k,l.length-i=k+1:=⟨l.length-i-1,by omega⟩
 rw [List.set_append_right _ _ (by omega),hml,Nat.sub_self,hk,List.replicate_succ,List.set_cons_zero,List.take_succ_eq_append_getElem hlt,show l.length-(i+1)=k by omega,List.append_assoc]
 rfl
theorem O0 {l:List Int} {K:J2} (hl:(l.length:Int)<2^62) (h:K [.bool true] []):cl2 ⟨Tryz.prog,w0⟩ 111 DT.sg [] [tI l,tI l] K:=DT.cl2 (bK hl (by rw [decide_eq_true rfl];exact h))
theorem VF {l:List ByteArray} {K:J2} (hl:(l.length:Int)<2^62) (h:K [.bool true] []):cl2 ⟨Tryz.prog,w0⟩ 112 DY.sg [] [tS l,tS l] K:=DY.cl2 (V0 hl (by rw [decide_eq_true rfl];exact h))
theorem MP {n:Int} {l:List Int} {K:J2} (hl:(l.length:Int)<2^62) (hn:0≤n∧n<2^62) (h:K [I (n+l.length)] [tI (marks n l.length)]):cl2 ⟨Tryz.prog,w0⟩ 116 CQ.sg [I n] [tI l] K:=CQ.cl2 (W0 hl hn h)
theorem TK {n:Int} {l:List ByteArray} {K:J2} (hl:(l.length:Int)<2^62) (hn:0≤n∧n<2^62) (h:K [I (n+l.length)] [tS (H8 n l.length)]):cl2 ⟨Tryz.prog,w0⟩ 117 C2.sg [I n] [tS l] K:=C2.cl2 (TN hl hn h)
theorem bW (z:Int) (k:Nat):(marks z k).length=k:=by simp [marks]
theorem ZD (z:Int) (k:Nat):(H8 z k).length=k:=by simp [H8]
theorem MQ {n:Int} {m:Nat} {K:J2} (hm:(m:Int)<2^61) (hn:0≤n∧n<2^61) (h:K [I (n+m)] []):cl2 ⟨Tryz.prog,w0⟩ 120 C1.sg [I n] [tI (marks n m)] K:=by
 refine C1.cl2 ?_
 unfold C1.txt
 rw [AE,bW]
 refine AY (fun i=>[I (n+i),iv i]) (fun _=>[]) m (fun _=>True) (by simp [QY]) rfl trivial (fun R i hi hP hR=> ?_)
 refine IS (AW (fun hlt=> ?_) fun hge=> ?_)
 ·have hl:i<(marks n m).length:=by rw [bW];exact hlt
  have hg:(marks n m)[i]=n+i:=by simp [marks]
  refine AH hlt (O3 hl ?_)
  rw [hg]
  refine B5 (BZ (fun h=>h rfl) (CC (b:=1) ⟨by omega,by omega⟩ (AX (by omega) ?_)))
  have:=hR hlt trivial
  simpa [Int.add_assoc] using this
 ·have:i=m:=by omega
  subst this;exact h
theorem TI {n:Int} {m:Nat} {K:J2} (hm:(m:Int)<2^61) (hn:0≤n∧n<2^61) (h:K [I (n+m)] []):cl2 ⟨Tryz.prog,w0⟩ 121 C3.sg [I n] [tS (H8 n m)] K:=by
 refine C3.cl2 (TC (by rw [ZD];omega) ⟨hn.1,by omega⟩ ?_)
 rw [ZD,if_pos rfl];exact h
end Go.Proofs.YtnhicpkhkaihoaaGreat.P
