/- A part of the proof. -/
import Derived.Test.YthapfcoajahegaaAlEngM6
import Derived.Test.YthapfcoajahegaaAlPZ0
import Derived.Laws.Strings
namespace Go.Proofs.Ythapfcoajahegaa.P
open Go Go.Proofs.Ythapfcoajahegaa Go.Proofs.Ythapfcoajahegaa.Eng
set_option linter.unusedVariables false
theorem VN {C:Ctx} {l m:List Int} {K:J2} (hl:(l.length:Int)<2^62) (h:K [.bool (decide (l=m))] []):E9.txt C (tI l) (tI m) K:=by
 unfold E9.txt
 simp only [AQ]
 refine n3 (jX (fun hne=> ?_) fun he=> ?_)
 ·rw [decide_eq_false (fun hh=>hne (by rw [hh]))] at h;exact h
 ·refine ZR (fun i=>[iv i]) (fun _=>[]) l.length (fun i=>l.take i=m.take i) (fun R i hi hP hR=> ?_) (i:=0) (Nat.zero_le _) (by simp)
  refine W6 (AM (fun hlt=> ?_) fun hge=> ?_)
  ·have hlt':i<m.length:=he ▸ hlt
   refine AO hlt (DI hlt (AO hlt' (DI hlt' (Y1 (oC (fun hne=> ?_) fun heq=> ?_)))))
   ·rw [decide_eq_false (fun hh=>hne (by subst hh;rfl))] at h;exact h
   ·exact AT (by omega) (hR hlt (by rw [List.take_succ_eq_append_getElem hlt,List.take_succ_eq_append_getElem hlt',hP,heq]))
  ·have:l=m:=by
    rw [List.take_of_length_le (by omega),List.take_of_length_le (by omega)] at hP;exact hP
   rw [decide_eq_true this] at h;exact h
def marks (n:Int) (k:Nat):List Int:=(List.range k).map fun (i:Nat)=>n+i
theorem SU {C:Ctx} {n:Int} {l:List Int} {K:J2} (hl:(l.length:Int)<2^62) (hn:0≤n∧n<2^62) (h:K [I (n+l.length)] [tI (marks n l.length)]):C8.txt C (I n) (tI l) K:=by
 unfold C8.txt
 refine BZ (fun i=>[I (n+i),iv i]) (fun i=>[tI (marks n i++l.drop i)]) l.length (fun _=>True) (by simp [bG]) (by simp [marks]) trivial (fun R i hi hP hR=> ?_)
 have hln:(marks n i++l.drop i).length=l.length:=by simp [marks];omega
 have e:cnt 1 (nxc [tI (marks n i++l.drop i)] 0)=l.length:=(AQ _).trans hln
 simp only [e]
 refine W6 (AM (fun hlt=> ?_) fun hge=> ?_)
 ·refine AO hlt (kM (by omega) (CN (b:=1) ⟨by omega,by omega⟩ (AT (by omega) ?_)))
  have:=hR hlt trivial
  have e2:(marks n i++l.drop i).set i (n+i)=marks n (i+1)++l.drop (i+1):=by
   have hml:(marks n i).length=i:=by simp [marks]
   have hd:(l.drop i).set 0 (n+i)=(n+i)::l.drop (i+1):=by rw [List.drop_eq_getElem_cons hlt];rfl
   rw [List.set_append_right _ _ (by omega),hml,Nat.sub_self,hd]
   simp [marks,List.range_succ]
  rw [e2]
  simpa [Int.add_assoc] using this
 ·have hi':i=l.length:=by omega
  subst hi'
  show K [I (n+l.length)] [tI (marks n l.length++l.drop l.length)]
  rw [List.drop_length,List.append_nil];exact h
theorem VU {C:Ctx} {l:List Int} {K:J2} (hl:(l.length:Int)<2^40) (h:K [] [tI l]):FA.txt C (tI l) K:=by
 unfold FA.txt
 simp only [AQ]
 refine ⟨l.length,rfl,rfl,by omega, ?_⟩
 refine BZ (fun i=>[iv i]) (fun i=>[tI (l.take i++List.replicate (l.length-i) 0)]) l.length (fun _=>True) rfl ?_ trivial (fun R i hi hP hR=> ?_)
 ·simp [BF,RZ,tI]
 have hln:(l.take i++List.replicate (l.length-i) 0).length=l.length:=by simp;omega
 have e:cnt 1 (nxc [tI (l.take i++List.replicate (l.length-i) 0)] 0)=l.length:=(AQ _).trans hln
 simp only [e]
 refine W6 (AM (fun hlt=> ?_) fun hge=> ?_)
 ·refine AO hlt (DI hlt (AO hlt (kM (by omega) (AT (by omega) ?_))))
  have:=hR hlt trivial
  have e2:(l.take i++List.replicate (l.length-i) 0).set i l[i]=l.take (i+1)++List.replicate (l.length-(i+1)) 0:=by
   have hml:(l.take i).length=i:=by simp;omega
   obtain ⟨k,hk⟩: ∃k,l.length-i=k+1:=⟨l.length-i-1,by omega⟩
   rw [List.set_append_right _ _ (by omega),hml,Nat.sub_self,hk,List.replicate_succ,List.set_cons_zero,List.take_succ_eq_append_getElem hlt,show l.length-(i+1)=k by omega,List.append_assoc]
   rfl
  rw [e2]
  exact this
 ·have hi':i=l.length:=by omega
  subst hi'
  show K [] [tI (l.take l.length++List.replicate (l.length-l.length) 0)]
  rw [List.take_length,Nat.sub_self,List.replicate_zero,List.append_nil];exact h
end Go.Proofs.Ythapfcoajahegaa.P
namespace Go.Proofs.Ythapfcoajahegaa.P
open Go Go.Proofs.Ythapfcoajahegaa Go.Proofs.Ythapfcoajahegaa.Eng
set_option linter.unusedVariables false
def iG:Nat→Nat→ByteArray→ByteArray
 | 0,_,s=>s
 | k+1,n,s=>if n=0 then s else iG k (n/10) (ByteArray.empty.push (UInt8.ofNat (48+n % 10))++s)
def mt (n:Int):ByteArray:=if n≤0 then ⟨#[109,48]⟩ else ⟨#[109]⟩++iG 20 n.toNat ⟨#[]⟩
theorem KI {C:Ctx} {n:Int} {K:J2} (hn:n<2^63) (h:K [.string (mt n)] []):BK.txt C (I n) K:=by
 unfold BK.txt
 refine DM (AM (fun hle=> ?_) fun hgt=> ?_)
 ·rw [mt,if_pos hle] at h;exact h
 ·rw [mt,if_neg hgt] at h
  obtain ⟨m,rfl⟩: ∃m:Nat,n=m:=⟨n.toNat,by omega⟩
  refine Q2 (α:=Nat×Nat×ByteArray) (fun p=>[iv p.2.1, .string p.2.2]) (fun _=>[]) (fun p=>p.1) (fun p=>p.2.1<10^p.1∧p.2.1<2^63∧p.1≤20∧p.2.2.size+p.1≤20∧iG p.1 p.2.1 p.2.2=iG 20 m ⟨#[]⟩) (20,m,⟨#[]⟩) rfl rfl ⟨by simp only;omega,by simp only;omega,Nat.le_refl _,Nat.le_refl _,rfl⟩ (fun R p hp hR=> ?_)
  obtain ⟨k,m',s⟩:=p
  obtain ⟨p1,p2,p3,p4,p5⟩:=hp
  simp only at p1 p2 p3 p4 p5
  refine DK (a:=Int.ofNat m') (b:=0) (AM (fun hlt=> ?_) fun hge=> ?_)
  ·have hlt:0<m':=by simpa using hlt
   cases k with
   | zero=>simp at p1;omega
   | succ k=>
     refine BO (v:= .int .i64 ((Int.ofNat m').tmod 10)) rfl ?_
     refine CN (a:=48) (b:=(Int.ofNat m').tmod 10) ?_ ?_
     ·have h1:(Int.ofNat m').tmod 10=((m' % 10:Nat):Int):=by simp [Int.tmod_eq_emod_of_nonneg]
      rw [h1];constructor <;> omega
     ·have h1:(Int.ofNat m').tmod 10=((m' % 10:Nat):Int):=by simp [Int.tmod_eq_emod_of_nonneg]
      rw [h1]
      refine BO (v:= .int .u8 (IntKind.u8.wrap (48+((m' % 10:Nat):Int)))) rfl ?_
      have h2:IntKind.u8.wrap (48+((m' % 10:Nat):Int))=((48+m' % 10:Nat):Int):=by rw [IntKind.wrap_u8];omega
      rw [h2]
      refine BO (v:= .string (ByteArray.empty.push (UInt8.ofNat (48+m' % 10)))) rfl ?_
      refine B3 (by simp only [ByteArray.size_push,ByteArray.size_empty];omega) ?_
      have h3:(Int.ofNat m').tdiv 10=((m'/10:Nat):Int):=rfl
      refine BO (v:= .int .i64 (IntKind.i64.wrap ((Int.ofNat m').tdiv 10))) rfl ?_
      rw [h3,RG ⟨by omega,by omega⟩]
      refine hR (k,m'/10,ByteArray.empty.push (UInt8.ofNat (48+m' % 10))++s) ⟨?_,by simp only;omega,by simp only;omega, ?_, ?_⟩ (Nat.lt_succ_self k)
      ·simp only;rw [Nat.pow_succ] at p1;omega
      ·simp only [ByteArray.size_append,ByteArray.size_push,ByteArray.size_empty];omega
      ·simp only
       rw [←p5,iG,if_neg (by omega)]
  ·have hz:m'=0:=by simpa using hge
   subst hz
   have h6:(⟨#[109]⟩:ByteArray).size=1:=rfl
   have h7:s.size<2^62:=by omega
   refine B3 (by rw [h6];show 1+s.size<2^63;omega) ?_
   have h4:iG k 0 s=s:=by cases k <;> rfl
   rw [h4] at p5
   rw [show (m:Int).toNat=m from Int.toNat_natCast m, ←p5] at h
   exact h
end Go.Proofs.Ythapfcoajahegaa.P
