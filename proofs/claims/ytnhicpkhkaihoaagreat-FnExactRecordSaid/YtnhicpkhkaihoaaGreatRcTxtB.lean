/- A part of the proof. -/
import Derived.Test.YtnhicpkhkaihoaaGreatRcEngM6
import Derived.Test.YtnhicpkhkaihoaaGreatRcPZ5
import Derived.Laws.Strings
namespace Go.Proofs.YtnhicpkhkaihoaaGreat.P
open Go Go.Proofs.YtnhicpkhkaihoaaGreat Go.Proofs.YtnhicpkhkaihoaaGreat.Eng
set_option linter.unusedVariables false
theorem bK {C:Ctx} {l m:List Int} {K:J2} (hl:(l.length:Int)<2^62) (h:K [.bool (decide (l=m))] []):DT.txt C (tI l) (tI m) K:=by
 unfold DT.txt
 simp only [AE]
 refine mO (iV (fun hne=> ?_) fun he=> ?_)
 ·rw [decide_eq_false (fun hh=>hne (by rw [hh]))] at h;exact h
 ·refine Z7 (fun i=>[iv i]) (fun _=>[]) l.length (fun i=>l.take i=m.take i) (fun R i hi hP hR=> ?_) (i:=0) (Nat.zero_le _) (by simp)
  refine IS (AW (fun hlt=> ?_) fun hge=> ?_)
  ·have hlt':i<m.length:=he ▸ hlt
   refine AH hlt (O3 hlt (AH hlt' (O3 hlt' (dR (u7 (fun hne=> ?_) fun heq=> ?_)))))
   ·rw [decide_eq_false (fun hh=>hne (by subst hh;rfl))] at h;exact h
   ·exact AX (by omega) (hR hlt (by rw [List.take_succ_eq_append_getElem hlt,List.take_succ_eq_append_getElem hlt',hP,heq]))
  ·have:l=m:=by
    rw [List.take_of_length_le (by omega),List.take_of_length_le (by omega)] at hP;exact hP
   rw [decide_eq_true this] at h;exact h
def marks (n:Int) (k:Nat):List Int:=(List.range k).map fun (i:Nat)=>n+i
theorem W0 {C:Ctx} {n:Int} {l:List Int} {K:J2} (hl:(l.length:Int)<2^62) (hn:0≤n∧n<2^62) (h:K [I (n+l.length)] [tI (marks n l.length)]):CQ.txt C (I n) (tI l) K:=by
 unfold CQ.txt
 refine AY (fun i=>[I (n+i),iv i]) (fun i=>[tI (marks n i++l.drop i)]) l.length (fun _=>True) (by simp [QY]) (by simp [marks]) trivial (fun R i hi hP hR=> ?_)
 have hln:(marks n i++l.drop i).length=l.length:=by simp [marks];omega
 have e:cnt 1 (nxc [tI (marks n i++l.drop i)] 0)=l.length:=(AE _).trans hln
 simp only [e]
 refine IS (AW (fun hlt=> ?_) fun hge=> ?_)
 ·refine AH hlt (rA (by omega) (CC (b:=1) ⟨by omega,by omega⟩ (AX (by omega) ?_)))
  have:=hR hlt trivial
  have e2:(marks n i++l.drop i).set i (n+i)=marks n (i+1)++l.drop (i+1):=by
   have hml:(marks n i).length=i:=by simp [marks]
   have hd:(l.drop i).set 0 (n+i)=(n+i)::l.drop (i+1):=by rw [List.drop_eq_getElem_cons hlt];rfl
   rw [List.set_append_right _ _ (by omega),hml,Nat.sub_self,hd]
   simp [marks,List.range_succ]
  rw [e2]
  simpa [Int.add_assoc] using this
 ·have hi':i=l.length:=by omega
  subst hi'
  show K [I (n+l.length)] [tI (marks n l.length++l.drop l.length)]
  rw [List.drop_length,List.append_nil];exact h
end Go.Proofs.YtnhicpkhkaihoaaGreat.P
namespace Go.Proofs.YtnhicpkhkaihoaaGreat.P
open Go Go.Proofs.YtnhicpkhkaihoaaGreat Go.Proofs.YtnhicpkhkaihoaaGreat.Eng
set_option linter.unusedVariables false
theorem jG {a b:ByteArray} {p q:Prop} (h1:a≠b→p) (h2:a=b→q):AG (.bool !(a.toList==b.toList)) p q:=
 JJ (fun h=>h1 (by rintro rfl;simp at h)) (fun h=>h2 (dU (by simpa using h)))
theorem V0 {C:Ctx} {l m:List ByteArray} {K:J2} (hl:(l.length:Int)<2^62) (h:K [.bool (decide (l=m))] []):DY.txt C (tS l) (tS m) K:=by
 unfold DY.txt
 simp only [AI]
 refine mO (iV (fun hne=> ?_) fun he=> ?_)
 ·rw [decide_eq_false (fun hh=>hne (by rw [hh]))] at h;exact h
 ·refine Z7 (fun i=>[iv i]) (fun _=>[]) l.length (fun i=>l.take i=m.take i) (fun R i hi hP hR=> ?_) (i:=0) (Nat.zero_le _) (by simp)
  refine IS (AW (fun hlt=> ?_) fun hge=> ?_)
  ·have hlt':i<m.length:=he ▸ hlt
   refine AH hlt (OU hlt (AH hlt' (OU hlt' (ZZ (jG (fun hne=> ?_) fun heq=> ?_)))))
   ·rw [decide_eq_false (fun hh=>hne (by subst hh;rfl))] at h;exact h
   ·exact AX (by omega) (hR hlt (by rw [List.take_succ_eq_append_getElem hlt,List.take_succ_eq_append_getElem hlt',hP,heq]))
  ·have:l=m:=by
    rw [List.take_of_length_le (by omega),List.take_of_length_le (by omega)] at hP;exact hP
   rw [decide_eq_true this] at h;exact h
def oY:Nat→Nat→ByteArray→ByteArray
 | 0,_,s=>s
 | k+1,n,s=>if n=0 then s else oY k (n/10) (ByteArray.empty.push (UInt8.ofNat (48+n % 10))++s)
def mt (n:Int):ByteArray:=if n≤0 then ⟨#[109,48]⟩ else ⟨#[109]⟩++oY 20 n.toNat ⟨#[]⟩
theorem MI {C:Ctx} {n:Int} {K:J2} (hn:n<2^63) (h:K [.string (mt n)] []):CH.txt C (I n) K:=by
 unfold CH.txt
 refine FB (AW (fun hle=> ?_) fun hgt=> ?_)
 ·rw [mt,if_pos hle] at h;exact h
 ·rw [mt,if_neg hgt] at h
  obtain ⟨m,rfl⟩: ∃m:Nat,n=m:=⟨n.toNat,by omega⟩
  refine DX (α:=Nat×Nat×ByteArray) (fun p=>[iv p.2.1, .string p.2.2]) (fun _=>[]) (fun p=>p.1) (fun p=>p.2.1<10^p.1∧p.2.1<2^63∧p.1≤20∧p.2.2.size+p.1≤20∧oY p.1 p.2.1 p.2.2=oY 20 m ⟨#[]⟩) (20,m,⟨#[]⟩) rfl rfl ⟨by simp only;omega,by simp only;omega,Nat.le_refl _,Nat.le_refl _,rfl⟩ (fun R p hp hR=> ?_)
  obtain ⟨k,m',s⟩:=p
  obtain ⟨p1,p2,p3,p4,p5⟩:=hp
  simp only at p1 p2 p3 p4 p5
  refine GD (a:=Int.ofNat m') (b:=0) (AW (fun hlt=> ?_) fun hge=> ?_)
  ·have hlt:0<m':=by simpa using hlt
   cases k with
   | zero=>simp at p1;omega
   | succ k=>
     refine BD (v:= .int .i64 ((Int.ofNat m').tmod 10)) rfl ?_
     refine CC (a:=48) (b:=(Int.ofNat m').tmod 10) ?_ ?_
     ·have h1:(Int.ofNat m').tmod 10=((m' % 10:Nat):Int):=by simp [Int.tmod_eq_emod_of_nonneg]
      rw [h1];constructor <;> omega
     ·have h1:(Int.ofNat m').tmod 10=((m' % 10:Nat):Int):=by simp [Int.tmod_eq_emod_of_nonneg]
      rw [h1]
      refine BD (v:= .int .u8 (IntKind.u8.wrap (48+((m' % 10:Nat):Int)))) rfl ?_
      have h2:IntKind.u8.wrap (48+((m' % 10:Nat):Int))=((48+m' % 10:Nat):Int):=by rw [IntKind.wrap_u8];omega
      rw [h2]
      refine BD (v:= .string (ByteArray.empty.push (UInt8.ofNat (48+m' % 10)))) rfl ?_
      refine B8 (by simp only [ByteArray.size_push,ByteArray.size_empty];omega) ?_
      have h3:(Int.ofNat m').tdiv 10=((m'/10:Nat):Int):=rfl
      refine BD (v:= .int .i64 (IntKind.i64.wrap ((Int.ofNat m').tdiv 10))) rfl ?_
      rw [h3,LX ⟨by omega,by omega⟩]
      refine hR (k,m'/10,ByteArray.empty.push (UInt8.ofNat (48+m' % 10))++s) ⟨?_,by simp only;omega,by simp only;omega, ?_, ?_⟩ (Nat.lt_succ_self k)
      ·simp only;rw [Nat.pow_succ] at p1;omega
      ·simp only [ByteArray.size_append,ByteArray.size_push,ByteArray.size_empty];omega
      ·simp only
       rw [←p5,oY,if_neg (by omega)]
  ·have hz:m'=0:=by simpa using hge
   subst hz
   have h6:(⟨#[109]⟩:ByteArray).size=1:=rfl
   have h7:s.size<2^62:=by omega
   refine B8 (by rw [h6];show 1+s.size<2^63;omega) ?_
   have h4:oY k 0 s=s:=by cases k <;> rfl
   rw [h4] at p5
   rw [show (m:Int).toNat=m from Int.toNat_natCast m, ←p5] at h
   exact h
def H8 (n:Int) (k:Nat):List ByteArray:=(List.range k).map fun (i:Nat)=>mt (n+i)
theorem TN {w0:World} {n:Int} {l:List ByteArray} {K:J2} (hl:(l.length:Int)<2^62) (hn:0≤n∧n<2^62) (h:K [I (n+l.length)] [tS (H8 n l.length)]):C2.txt ⟨Tryz.prog,w0⟩ (I n) (tS l) K:=by
 unfold C2.txt
 refine AY (fun i=>[I (n+i),iv i]) (fun i=>[tS (H8 n i++l.drop i)]) l.length (fun _=>True) (by simp [QY]) (by simp [H8]) trivial (fun R i hi hP hR=> ?_)
 have hln:(H8 n i++l.drop i).length=l.length:=by simp [H8];omega
 have e:cnt 1 (nxc [tS (H8 n i++l.drop i)] 0)=l.length:=(AI _).trans hln
 simp only [e]
 refine IS (AW (fun hlt=> ?_) fun hge=> ?_)
 ·refine CH.cl2 (MI (by omega) ?_)
  refine AH hlt (xS (by omega) (CC (b:=1) ⟨by omega,by omega⟩ (AX (by omega) ?_)))
  have:=hR hlt trivial
  have e2:(H8 n i++l.drop i).set i (mt (n+i))=H8 n (i+1)++l.drop (i+1):=by
   have hml:(H8 n i).length=i:=by simp [H8]
   have hd:(l.drop i).set 0 (mt (n+i))=mt (n+i)::l.drop (i+1):=by rw [List.drop_eq_getElem_cons hlt];rfl
   rw [List.set_append_right _ _ (by omega),hml,Nat.sub_self,hd]
   simp [H8,List.range_succ]
  rw [e2]
  simpa [Int.add_assoc] using this
 ·have hi':i=l.length:=by omega
  subst hi'
  show K [I (n+l.length)] [tS (H8 n l.length++l.drop l.length)]
  rw [List.drop_length,List.append_nil];exact h
theorem TC {w0:World} {n:Int} {l:List ByteArray} {K:J2} (hl:(l.length:Int)<2^62) (hn:0≤n∧n<2^62) (h:K [I (if l=H8 n l.length then n+l.length else -1)] []):C3.txt ⟨Tryz.prog,w0⟩ (I n) (tS l) K:=by
 unfold C3.txt
 simp only [AI]
 refine AY (fun i=>[I (n+i),iv i]) (fun _=>[]) l.length (fun i=> ∀j (hj:j<l.length),j<i→l[j]=mt (n+j)) (by simp [QY]) rfl (by simp) (fun R i hi hP hR=> ?_)
 refine IS (AW (fun hlt=> ?_) fun hge=> ?_)
 ·refine AH hlt (OU hlt (CH.cl2 (MI (by omega) (ZZ (jG (fun hne=> ?_) fun heq=> ?_)))))
  ·rw [if_neg (fun hh=>hne (by have:=congrArg (·[i]?) hh;simpa [hlt,H8] using this))] at h;exact h
  ·refine CC (b:=1) ⟨by omega,by omega⟩ (AX (by omega) ?_)
   have:=hR hlt (fun j hj hji=>by
    rcases Nat.lt_succ_iff_lt_or_eq.1 hji with h1 | h1
    ·exact hP j hj h1
    ·subst h1;exact heq)
   simpa [Int.add_assoc] using this
 ·have hi':i=l.length:=by omega
  subst hi'
  rw [if_pos (List.ext_getElem (by simp [H8]) fun j h1 h2=>by simpa [H8] using hP j h1 h1)] at h
  exact h
end Go.Proofs.YtnhicpkhkaihoaaGreat.P
