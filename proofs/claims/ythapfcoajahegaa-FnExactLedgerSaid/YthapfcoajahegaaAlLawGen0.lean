/- A part of the proof. -/
import Derived.Test.YthapfcoajahegaaAlTxtB
namespace Go.Proofs.Ythapfcoajahegaa.P
open Go Go.Proofs.Ythapfcoajahegaa Go.Proofs.Ythapfcoajahegaa.Eng
set_option linter.unusedVariables false
theorem oX {b n:Nat} {K:Value→Prop} (hn:b*n≤2^48) (h:K (iv n)):mkW b (iv n) (iv n) K:=⟨n,rfl,rfl,hn,h⟩
set_option maxHeartbeats 4000000
set_option linter.unusedVariables false
set_option linter.unusedSimpArgs false
attribute [local irreducible] prP gP gE gF AH ixW ldc ldg ldl stc stg scW mkW apW AP cl2 AX C9 BW
variable {w0:World}
section
variable {α:Type} (mk:Int→α→α) (sz:α→Int)
def szL:List α→Int
 | []=>0
 | x::l=>sz x+szL l
def mkL:Int→List α→List α
 | _,[]=>[]
 | k,x::l=>mk k x::mkL (k+sz x) l
variable {mk sz}
theorem Y3: ∀a b:List α,szL sz (a++b)=szL sz a+szL sz b
 | [],b=>by simp [szL]
 | x::a,b=>by simp only [List.cons_append,szL,Y3 a b];omega
theorem X7: ∀(a b:List α) (k:Int),mkL mk sz k (a++b)=mkL mk sz k a++mkL mk sz (k+szL sz a) b
 | [],b,k=>by simp [szL,mkL]
 | x::a,b,k=>by simp only [List.cons_append,mkL,szL,X7 a b,Int.add_assoc]
theorem MZ: ∀(a:List α) (k:Int),(mkL mk sz k a).length=a.length
 | [],k=>rfl
 | x::a,k=>by simp [mkL,MZ a]
theorem OM {l:List α} {i:Nat} (hi:i<l.length):szL sz (l.take (i+1))=szL sz (l.take i)+sz l[i]:=by
 rw [List.take_succ_eq_append_getElem hi,Y3];simp [szL]
theorem HU (h: ∀x,0≤sz x): ∀l:List α,0≤szL sz l
 | []=>by simp [szL]
 | x::l=>by have:=h x;have:=HU h l;simp only [szL];omega
theorem lF (h: ∀x,0≤sz x) (l:List α) (i:Nat):szL sz (l.take i)≤szL sz l:=by
 conv=>rhs;rw [←List.take_append_drop i l,Y3]
 have:=HU h (l.drop i);omega
theorem YE (h: ∀x,0≤sz x) {l:List α} {i:Nat} (hi:i<l.length):szL sz (l.take i)+sz l[i]≤szL sz l:=by
 rw [←OM hi];exact lF h l _
theorem nB {l:List α} {i:Nat} {k:Int} (hi:i<l.length) (hi':i<(mkL mk sz k l).length):(mkL mk sz k l)[i]=mk (k+szL sz (l.take i)) l[i]:=by
 have h:mkL mk sz k l=mkL mk sz k (l.take i)++mkL mk sz (k+szL sz (l.take i)) (l.drop i):=by rw [←X7,List.take_append_drop]
 have h2:l.drop i=l[i]::l.drop (i+1):=List.drop_eq_getElem_cons hi
 have hl:(mkL mk sz k (l.take i)).length=i:=by rw [MZ,List.length_take];omega
 simp only [h,h2,mkL]
 rw [List.getElem_append_right (by omega)]
 simp [hl]
def mid (mk:Int→α→α) (sz:α→Int) (k:Int) (l:List α) (i:Nat):List α:=mkL mk sz k (l.take i)++l.drop i
theorem mH {k:Int} {l:List α}:mid mk sz k l 0=l:=by simp [mid,mkL]
theorem W7 {k:Int} {l:List α}:mid mk sz k l l.length=mkL mk sz k l:=by simp [mid]
theorem O1 {k:Int} {l:List α} {i:Nat} (hi:i≤l.length):(mid mk sz k l i).length=l.length:=by
 simp only [mid,List.length_append,MZ,List.length_take,List.length_drop];omega
theorem Y8 {k:Int} {l:List α} {i:Nat} (hi:i<l.length) (h:i<(mid mk sz k l i).length):(mid mk sz k l i)[i]=l[i]:=by
 have hl:(mkL mk sz k (l.take i)).length=i:=by rw [MZ,List.length_take];omega
 simp only [mid]
 rw [List.getElem_append_right (by omega)]
 simp [hl]
theorem X4 {k:Int} {l:List α} {i:Nat} (hi:i<l.length):(mid mk sz k l i).set i (mk (k+szL sz (l.take i)) l[i])=mid mk sz k l (i+1):=by
 have hl:(mkL mk sz k (l.take i)).length=i:=by rw [MZ,List.length_take];omega
 simp only [mid]
 rw [List.set_append_right _ _ (by omega),hl,Nat.sub_self,List.drop_eq_getElem_cons hi,List.set_cons_zero,List.take_succ_eq_append_getElem hi,X7]
 simp [mkL]
end
theorem V1 {α:Type} {l:List α} {i:Nat} {z:α} (hlt:i<l.length):l.take (i+1)++List.replicate (l.length-(i+1)) z=(l.take i++List.replicate (l.length-i) z).set i l[i]:=by
 have hml:(l.take i).length=i:=by simp;omega
 obtain ⟨k,hk⟩: ∃k,l.length-i=k+1:=⟨l.length-i-1,by omega⟩
 rw [List.set_append_right _ _ (by omega),hml,Nat.sub_self,hk,List.replicate_succ,List.set_cons_zero,List.take_succ_eq_append_getElem hlt,show l.length-(i+1)=k by omega,List.append_assoc]
 rfl
theorem VJ {z:Int} {l:List Int} {K:J2} (hl:(l.length:Int)<2^63) (hz:0≤z∧z≤2^62) (h0:K [I (-1)] []) (h1:(l.length:Int)≤z→K [I (z-l.length)] []):cl2 ⟨Try.prog,w0⟩ 29 F5.sg [I z] [tI l] K:=by
 refine F5.cl2 ?_
 unfold F5.txt
 simp only [A4,BA,AV,AW,AY,AQ,A9,A7,AZ,A8,A5,BD,A6,BB,EK,EP,FI,FK,FJ,FH,FG,B2,CB,CE,CC,CA,B9]
 repeat' (first | refine CH ?_ | refine LZ ?_ | refine KK ?_ | refine IF ?_ | refine IU ?_ | refine IS ?_ | refine GB ?_ | refine GL ?_ | refine GI ?_ | refine GN ?_ | refine H5 (by first | with_reducible assumption | omega) ?_ | refine H7 (by first | with_reducible assumption | omega) ?_ | refine FT (by first | with_reducible assumption | omega) ?_ | refine FM (by first | with_reducible assumption | omega) ?_ | refine H8 (by with_reducible assumption) ?_ | refine H4 (by with_reducible assumption) ?_ | refine FP (by with_reducible assumption) ?_ | refine FU (by with_reducible assumption) ?_ | refine EY ?_ | refine IL ?_ | refine IE ?_ | refine EE ?_ | refine IM (by first | with_reducible assumption | omega) ?_ | refine IJ (by first | with_reducible assumption | omega) ?_ | refine IV (by first | with_reducible assumption | omega) ?_ | refine IG (by first | with_reducible assumption | omega) ?_ | refine GX (by with_reducible assumption) ?_ | refine EB (by with_reducible assumption) ?_ | refine DS (by with_reducible assumption) ?_ | refine LL (by with_reducible assumption) rfl ?_ | refine LJ (by with_reducible assumption) rfl ?_ | refine LH (by first | with_reducible assumption | omega) rfl ?_ | refine LK (by first | with_reducible assumption | omega) rfl ?_ | refine JM rfl ?_ | refine JL rfl ?_ | refine EO ?_ | refine CT ?_ | refine B4 (by first | with_reducible assumption | omega) ?_ | refine BL (by first | with_reducible assumption | omega) ?_ | refine DN (by with_reducible assumption) ?_ | refine CJ (by with_reducible assumption) ?_ | refine AN ?_ | refine DM ?_ | refine DK ?_ | refine DL ?_ | refine AU ?_ | refine CG ?_ | refine BX ?_ | refine CV ?_ | refine DX ?_ | refine AT (by omega) ?_ | refine CN ⟨by omega,by omega⟩ ?_ | refine DE ⟨by omega,by omega⟩ ?_ | refine CQ ?_ | refine CP ?_ | refine D6 (by omega) (by omega) ?_ | refine D7 (by omega) ⟨by omega,by omega⟩ (by omega) ?_ | refine B7 ?_ | refine CU ?_ | refine B3 (by first | omega | (simp only [ByteArray.size_append];omega)) ?_ | refine D9 ?_ | refine DR ?_ | refine AO (by omega) ?_ | refine IW (by omega) (by omega) ?_ | refine ldI (by omega) ?_ | refine ldS (by omega) ?_ | refine GM (by omega) ?_ | refine F8 (by omega) ?_ | refine FC (by omega) ?_ | refine FF (by omega) ?_ | refine GO (by omega) ?_ | refine GF (by omega) (by decide) rfl ?_ | refine D8 (by omega) rfl ?_ | refine F9 (by omega) (by decide) rfl ?_ | refine DZ (by omega) rfl ?_ | refine ER (by omega) (by decide) rfl ?_ | refine C5 (by omega) rfl ?_ | refine FO (by omega) (by decide) rfl ?_ | refine C4 (by omega) rfl ?_ | refine GH (by omega) (by decide) rfl ?_ | refine DU (by omega) rfl ?_ | refine F6 (by omega) (by omega) ?_ | refine GJ (by omega) ?_ | refine GK (by omega) (by omega) ?_ | refine F7 (by omega) ?_ | refine FN (by omega) (by omega) ?_ | refine FE (by omega) ?_ | refine CI (by omega) rfl rfl ?_ | refine DI (by omega) ?_ | refine FQ (by omega) ?_ | refine C1 (by omega) (by decide) rfl ?_ | refine BV (by omega) rfl ?_ | refine HN (by first | exact EA _ | exact DT _ | exact DV _ | exact EC _ | rfl) (by omega) ?_ | refine IH (by omega) ?_ | refine AM (fun _=> ?_) (fun _=> ?_) | refine IT rfl rfl (fun _=> ?_) (fun _=> ?_) | refine II rfl rfl (fun _=> ?_) (fun _=> ?_) | refine GD (fun _=> ?_) (fun _=> ?_) | refine GG (fun _=> ?_) (fun _=> ?_) | refine IK (fun _=> ?_) (fun _=> ?_) | refine IN (fun _=> ?_) (fun _=> ?_) | refine ET (fun _=> ?_) (fun _=> ?_) | refine H9 (fun _=> ?_) (fun _=> ?_) | refine H6 (fun _=> ?_) (fun _=> ?_) | refine C6 ?_ | simp only [A4,BA,AV,AW,AY,AQ,A9,A7,AZ,A8,A5,BD,A6,BB,EK,EP,FI,FK,FJ,FH,FG,B2,CB,CE,CC,CA,B9])
 ·exact h0
 ·exact h1 (by omega)
theorem VP {l:List Int} {K:J2} (hl:(l.length:Int)<2^40) (h:K [] [tI l]):cl2 ⟨Try.prog,w0⟩ 30 FA.sg [] [tI l] K:=FA.cl2 (VU hl h)
theorem VV {l:List Int} {K:J2} (hl:(l.length:Int)<2^62) (h:K [.bool true] []):cl2 ⟨Try.prog,w0⟩ 33 E9.sg [] [tI l,tI l] K:=E9.cl2 (VN hl (by rw [decide_eq_true rfl];exact h))
theorem SP {n:Int} {l:List Int} {K:J2} (hl:(l.length:Int)<2^62) (hn:0≤n∧n<2^62) (h:K [I (n+l.length)] [tI (marks n l.length)]):cl2 ⟨Try.prog,w0⟩ 28 C8.sg [I n] [tI l] K:=C8.cl2 (SU hl hn h)
end Go.Proofs.Ythapfcoajahegaa.P
