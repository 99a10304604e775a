/- A part of the proof. -/
import Derived.Test.YtnhicpkhkaihoaaGreatFtHpX
namespace Go.Proofs.YtnhicpkhkaihoaaGreat.P
open Go Go.Proofs.YtnhicpkhkaihoaaGreat Go.Proofs.YtnhicpkhkaihoaaGreat.Eng
set_option linter.unusedVariables false
theorem tK: ∀{k n:Nat},n<128^(k+1)→OR (vd k n)=n
 | 0,n,h=>by simp at h;simp only [vd,OR];omega
 | k+1,n,h=>by
   unfold vd
   split
   ·rename_i hge
    have hd:n/128<128^(k+1):=by rw [Nat.pow_succ] at h;omega
    simp only [OR,tK hd];omega
   ·simp only [OR];omega
theorem qX {L:List Nat} {r:ByteArray} {i:Nat} (hb: ∀x∈L,x<256) (hi:i<L.length):by_ (FB L++r) i=L[i]:=by
 have hd:(FB L).data=(L.map UInt8.ofNat).toArray:=by apply Array.ext';rw [O4]
 have hs:i<(L.map UInt8.ofNat).toArray.size:=by simpa using hi
 have h1:((FB L++r).data).getD i 0=UInt8.ofNat L[i]:=by
  rw [ByteArray.data_append,hd,Array.getD_eq_getD_getElem?,Array.getElem?_append_left hs]
  simp [hi]
 rw [by_,h1]
 have:=hb L[i] (List.getElem_mem hi)
 simp;omega
theorem m7 {L:List Nat} {r:ByteArray} (hb: ∀x∈L,x<256):bys (FB L++r) L.length=L:=by
 apply List.ext_getElem
 ·rw [VC]
 ·intro i h1 h2
  simp only [bys,List.getElem_map,List.getElem_range]
  exact qX hb h2
theorem W4 (a b:ByteArray):dr (a++b) a.size=b:=by
 apply ByteArray.ext
 apply Array.ext'
 have e1:a.size=a.data.toList.length:=by simp
 have e2:(a++b).size=a.data.toList.length+b.data.toList.length:=by rw [ByteArray.size_append];simp
 simp only [dr,ByteArray.data_extract,Array.toList_extract,ByteArray.data_append,Array.toList_append]
 rw [e2,e1]
 simp [List.extract_eq_take_drop]
 exact List.take_of_length_le (by simp)
theorem wF {n:Int} (h0:0≤n) (h1:n<2^49) (r:ByteArray):rv (V n++r)=(n,((V n).size:Int)):=by
 obtain ⟨m,rfl⟩: ∃m:Nat,n=m:=⟨n.toNat,by omega⟩
 have hm:m<2^49:=by omega
 have h49:(128:Nat)^(6+1)=2^49:=by decide
 have hm':m<128^(6+1):=by rw [h49];exact hm
 rw [uB hm]
 have hb:=vU 6 m hm'
 have hc:=(mQ hm').1
 have hd:=tK hm'
 have hl:=lQ 6 m
 have hne:=sT 6 m
 generalize vd 6 m=L at hb hc hd hl hne
 have e:=m7 (r:=r) hb
 have hln:1≤L.length:=by
  rcases Nat.eq_zero_or_pos L.length with h | h
  ·exact absurd (List.length_eq_zero_iff.1 h) hne
  ·exact h
 have hk:UE (FB L++r) L.length=true:=by rw [UE,e];exact hc
 have hz:L.length≤(FB L++r).size:=by rw [ByteArray.size_append,LB];omega
 rw [rv,eB ⟨hz,hk⟩ 7 1 hln (by omega) (fun j h1 h2 hh=> ?_),R6,e,hd,LB]
 obtain ⟨k,hk'⟩: ∃k,L.length=k+1:=⟨L.length-1,by omega⟩
 obtain ⟨j,rfl⟩: ∃j',j=j'+1:=⟨j-1,by omega⟩
 rw [hk',NU] at hk
 have a1:=(NU _ _).1 hh.2
 have:=hk.1 j (by omega)
 omega
theorem VQ {n:Int} (h0:0≤n) (h1:n<2^49):1≤(V n).size:=by
 obtain ⟨m,rfl⟩: ∃m:Nat,n=m:=⟨n.toNat,by omega⟩
 rw [uB (by omega),LB]
 rcases Nat.eq_zero_or_pos (vd 6 m).length with h | h
 ·exact absurd (List.length_eq_zero_iff.1 h) (sT 6 m)
 ·exact h
theorem nG {n:Int} (h0:0≤n) (h1:n<2^49) (r:ByteArray):rdN (V n++r)=some (n,r):=by
 have hp:=VQ h0 h1
 rw [rdN,wF h0 h1,if_neg (by simp only;omega)]
 simp only [Int.toNat_natCast,W4]
theorem oS {x:Int} (h: -100000000000000≤x∧x≤100000000000000):0≤zg x∧zg x≤200000000000000:=by
 unfold zg;rw [if_pos (K5.2 h)];split <;> omega
theorem Ah {x:Int} (h: -100000000000000≤x∧x≤100000000000000):zag (zg x)=x:=by
 unfold zg zag;rw [if_pos (K5.2 h)];split <;> split <;> omega
theorem Cy {x:Int} (h: -100000000000000≤x∧x≤100000000000000) (r:ByteArray):ri (SI x++r)=(x,((SI x).size:Int)):=by
 have hz:=oS h
 have hp:=VQ hz.1 (by omega)
 unfold ri SI
 rw [wF hz.1 (by omega),if_neg (by simp only;omega)]
 simp only [Ah h]
theorem WH {x:Int} (h: -100000000000000≤x∧x≤100000000000000) (r:ByteArray):rdI (SI x++r)=some (x,r):=by
 have hp:=VQ (oS h).1 (by have:=oS h;omega)
 have hp:1≤(SI x).size:=hp
 rw [rdI,Cy h,if_neg (by simp only;omega)]
 simp only [Int.toNat_natCast,W4]
theorem fR (a b c:ByteArray):(a++(b++c)).extract a.size (a.size+b.size)=b:=by
 apply ByteArray.ext
 apply Array.ext'
 have e1:a.size=a.data.toList.length:=by simp
 have e2:b.size=b.data.toList.length:=by simp
 simp only [ByteArray.data_extract,Array.toList_extract,ByteArray.data_append,Array.toList_append]
 rw [e1,e2]
 simp [List.extract_eq_take_drop]
theorem Af {s:ByteArray} (h:s.size≤8) (r:ByteArray):rdT (ST s++r)=some (s,r):=by
 have hp:=VQ (n:=s.size) (by omega) (by omega)
 have e:ST s=V s.size++s:=by unfold ST;rw [if_neg (by omega)]
 have e2:(ST s++r)=V s.size++(s++r):=by rw [e,ByteArray.append_assoc]
 have hv:=wF (n:=s.size) (by omega) (by omega) (s++r)
 have hr:rt (ST s++r)=(s,((ST s).size:Int)):=by
  unfold rt
  rw [e2,hv,if_neg (by simp only [ByteArray.size_append];omega)]
  simp only
  rw [show ((V s.size).size:Int).toNat=(V s.size).size from Int.toNat_natCast _,show (((V s.size).size:Int)+(s.size:Int)).toNat=(V s.size).size+s.size from by omega,fR,e,ByteArray.size_append]
  rfl
 have hz:1≤(ST s).size:=by rw [e,ByteArray.size_append];omega
 rw [rdT,hr,if_neg (by simp only;omega)]
 simp only [Int.toNat_natCast,W4]
def tl:Int→List Int→ByteArray
 | _,[]=>⟨#[]⟩
 | b,x::xs=>SI (x-b)++tl x xs
theorem sL (a:ByteArray):a++⟨#[]⟩=a:=by
 apply ByteArray.ext;rw [ByteArray.data_append];simp
theorem sP (p:ByteArray): ∀(b:Int) (xs:List Int),(stE (p,b) xs xs.length).1=p++tl b xs:=by
 have: ∀(xs:List Int) (p:ByteArray) (b:Int),(xs.foldl Fx (p,b)).1=p++tl b xs:=by
  intro xs
  induction xs with
  | nil=>intro p b;rw [tl,sL];rfl
  | cons x xs ih=>intro p b;rw [List.foldl_cons,Fx,ih,tl,ByteArray.append_assoc]
 intro b xs
 rw [stE,List.take_length,this]
theorem zV {β:Type} (f:List Int→Option β): ∀(xs acc:List Int) (b:Int),KW b=true→xs.all KW=true→EL f xs.length acc b (tl b xs)=f (acc++xs)
 | [],acc,b,_,_=>by simp [EL]
 | x::xs,acc,b,hb,hx=>by
   simp only [List.all_cons,Bool.and_eq_true] at hx
   have b1:=FH hb
   have x1:=FH hx.1
   rw [List.length_cons,EL,tl,WH (by omega)]
   have e:w64 (b+(x-b))=x:=by rw [K9 ⟨by omega,by omega⟩];omega
   simp only [Option.bind_some,e]
   rw [zV f xs (acc++[x]) x hx.1 hx.2,List.append_assoc];rfl
theorem Ch {l:List ByteArray} {s:ByteArray} (h:s∈l):gS l (at_ l s).toNat=s∧0≤at_ l s∧at_ l s<l.length:=by
 have hx:l.idxOf s<l.length:=List.idxOf_lt_length_of_mem h
 rw [at_,if_pos h]
 refine ⟨?_,by omega,by omega⟩
 rw [Int.toNat_natCast, ←PT hx]
 exact List.getElem_idxOf hx
theorem mY {n:Int} {l:List ByteArray} {o:Op5} {a:An} (h:(FC n l o a).1≠⟨#[]⟩):DM n l (FC n l o a).1=⟨o,a,(FC n l o a).2.1,(FC n l o a).2.2,true⟩:=by
 have hok:okE n l o.kind o.a o.b o.c o.site a.code a.val a.freed=true:=by
  cases hk:okE n l o.kind o.a o.b o.c o.site a.code a.val a.freed with
  | true=>rfl
  | false=>exfalso;apply h;rw [FC,LI,hk];rfl
 obtain ⟨ha,hb,hc,hd,hv,hn,hxs,hxl,hk,hll⟩:=N7 hok
 have hsz:o.site.size≤8:=by
  simp only [okE,RT,Bool.and_eq_true,decide_eq_true_eq] at hok
  omega
 have a1:=FH ha;have b1:=FH hb;have c1:=FH hc;have d1:=FH hd;have v1:=FH hv;have n1:=FH hn
 have es:(FC n l o a).1=SI o.kind++(SI (o.a-n)++(SI o.b++(SI (o.c-o.a)++(Q0 l o.site++(V a.code++(SI (a.val-o.a)++(V a.freed.length++tl o.a a.freed))))))):=by
  rw [FC,LI,if_pos hok]
  simp only [sP,base,ByteArray.append_assoc]
 have e1:w64 (n+(o.a-n))=o.a:=by rw [K9 ⟨by omega,by omega⟩];omega
 have e2:w64 (o.a+(o.c-o.a))=o.c:=by rw [K9 ⟨by omega,by omega⟩];omega
 have e3:w64 (o.a+(a.val-o.a))=a.val:=by rw [K9 ⟨by omega,by omega⟩];omega
 have hE:E0 n l (FC n l o a).1=some (o,a):=by
  rw [es]
  have h6:E6 o (V a.code++(SI (a.val-o.a)++(V a.freed.length++tl o.a a.freed)))=some (o,a):=by
   rw [E6,nG (by omega) (by omega)]
   simp only [Option.bind_some]
   rw [E7,WH (by omega)]
   simp only [Option.bind_some,e3]
   rw [E8,nG (by omega) (by omega)]
   simp only [Option.bind_some]
   rw [if_neg (by omega),Int.toNat_natCast,zV _ _ _ _ hb hxs]
   rfl
  rw [E0,WH (by omega)]
  simp only [Option.bind_some]
  rw [E1,WH (by omega)]
  simp only [Option.bind_some,e1]
  rw [E2,WH (by omega)]
  simp only [Option.bind_some]
  rw [E3,WH (by omega)]
  simp only [Option.bind_some,e2]
  by_cases hm:o.site∈l
  ·obtain ⟨g1,g2,g3⟩:=Ch hm
   have el:(l.length:Int)≤400:=by omega
   rw [Q0,if_pos hm,E4,nG (by omega) (by omega)]
   simp only [Option.bind_some]
   rw [E5,if_neg (by omega),if_pos (by omega),show at_ l o.site+1-1=at_ l o.site from by omega,g1]
   exact h6
  ·rw [Q0,if_neg hm,ByteArray.append_assoc,E4,nG (by omega) (by omega)]
   simp only [Option.bind_some]
   rw [E5,if_pos rfl,Af hsz]
   simp only [Option.bind_some]
   exact h6
 unfold DM
 rw [hE]
 simp only
 rw [if_pos ⟨h,rfl⟩]
theorem uT {n:Int} {l:List ByteArray} {s:ByteArray} (h:(DM n l s).ok=true):s≠⟨#[]⟩∧FC n l (DM n l s).o (DM n l s).a=(s,(DM n l s).last,(DM n l s).sites):=by
 unfold DM at h ⊢
 split at h
 ·cases h
 ·rename_i e he
  split at h
  ·rename_i hok
   simp only [if_pos hok]
   obtain ⟨h1,h2⟩:=hok
   refine ⟨by rw [←h2];exact h1, ?_⟩
   rw [←h2]
  ·cases h
end Go.Proofs.YtnhicpkhkaihoaaGreat.P
