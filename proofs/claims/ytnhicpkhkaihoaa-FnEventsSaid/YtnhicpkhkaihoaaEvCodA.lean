/- A part of the proof. -/
import Derived.Test.YtnhicpkhkaihoaaEvHpX
namespace Go.Proofs.Ytnhicpkhkaihoaa.P
open Go Go.Proofs.Ytnhicpkhkaihoaa Go.Proofs.Ytnhicpkhkaihoaa.Eng
set_option linter.unusedVariables false
theorem mV: ∀{k n:Nat},n<128^(k+1)→K3 (vd k n)=n
 | 0,n,h=>by simp at h;simp only [vd,K3];omega
 | k+1,n,h=>by
   unfold vd
   split
   ·rename_i hge
    have hd:n/128<128^(k+1):=by rw [Nat.pow_succ] at h;omega
    simp only [K3,mV hd];omega
   ·simp only [K3];omega
theorem jE {L:List Nat} {r:ByteArray} {i:Nat} (hb: ∀x∈L,x<256) (hi:i<L.length):by_ (HJ L++r) i=L[i]:=by
 have hd:(HJ L).data=(L.map UInt8.ofNat).toArray:=by apply Array.ext';rw [MD]
 have hs:i<(L.map UInt8.ofNat).toArray.size:=by simpa using hi
 have h1:((HJ L++r).data).getD i 0=UInt8.ofNat L[i]:=by
  rw [ByteArray.data_append,hd,Array.getD_eq_getD_getElem?,Array.getElem?_append_left hs]
  simp [hi]
 rw [by_,h1]
 have:=hb L[i] (List.getElem_mem hi)
 simp;omega
theorem eF {L:List Nat} {r:ByteArray} (hb: ∀x∈L,x<256):bys (HJ L++r) L.length=L:=by
 apply List.ext_getElem
 ·rw [RW]
 ·intro i h1 h2
  simp only [bys,List.getElem_map,List.getElem_range]
  exact jE hb h2
theorem dC (a b:ByteArray):dr (a++b) a.size=b:=by
 apply ByteArray.ext
 apply Array.ext'
 have e1:a.size=a.data.toList.length:=by simp
 have e2:(a++b).size=a.data.toList.length+b.data.toList.length:=by rw [ByteArray.size_append];simp
 simp only [dr,ByteArray.data_extract,Array.toList_extract,ByteArray.data_append,Array.toList_append]
 rw [e2,e1]
 simp [List.extract_eq_take_drop]
 exact List.take_of_length_le (by simp)
theorem sW {n:Int} (h0:0≤n) (h1:n<2^49) (r:ByteArray):rv (V n++r)=(n,((V n).size:Int)):=by
 obtain ⟨m,rfl⟩: ∃m:Nat,n=m:=⟨n.toNat,by omega⟩
 have hm:m<2^49:=by omega
 have h49:(128:Nat)^(6+1)=2^49:=by decide
 have hm':m<128^(6+1):=by rw [h49];exact hm
 rw [lR hm]
 have hb:=lU 6 m hm'
 have hc:=(eI hm').1
 have hd:=mV hm'
 have hl:=dK 6 m
 have hne:=l9 6 m
 generalize vd 6 m=L at hb hc hd hl hne
 have e:=eF (r:=r) hb
 have hln:1≤L.length:=by
  rcases Nat.eq_zero_or_pos L.length with h | h
  ·exact absurd (List.length_eq_zero_iff.1 h) hne
  ·exact h
 have hk:Q2 (HJ L++r) L.length=true:=by rw [Q2,e];exact hc
 have hz:L.length≤(HJ L++r).size:=by rw [ByteArray.size_append,EP];omega
 rw [rv,ZG ⟨hz,hk⟩ 7 1 hln (by omega) (fun j h1 h2 hh=> ?_),O6,e,hd,EP]
 obtain ⟨k,hk'⟩: ∃k,L.length=k+1:=⟨L.length-1,by omega⟩
 obtain ⟨j,rfl⟩: ∃j',j=j'+1:=⟨j-1,by omega⟩
 rw [hk',KY] at hk
 have a1:=(KY _ _).1 hh.2
 have:=hk.1 j (by omega)
 omega
theorem bM {n:Int} (h0:0≤n) (h1:n<2^49):1≤(V n).size:=by
 obtain ⟨m,rfl⟩: ∃m:Nat,n=m:=⟨n.toNat,by omega⟩
 rw [lR (by omega),EP]
 rcases Nat.eq_zero_or_pos (vd 6 m).length with h | h
 ·exact absurd (List.length_eq_zero_iff.1 h) (l9 6 m)
 ·exact h
theorem gT {n:Int} (h0:0≤n) (h1:n<2^49) (r:ByteArray):rdN (V n++r)=some (n,r):=by
 have hp:=bM h0 h1
 rw [rdN,sW h0 h1,if_neg (by simp only;omega)]
 simp only [Int.toNat_natCast,dC]
theorem cI {x:Int} (h: -100000000000000≤x∧x≤100000000000000):0≤zg x∧zg x≤200000000000000:=by
 unfold zg;rw [if_pos (KO.2 h)];split <;> omega
theorem sJ {x:Int} (h: -100000000000000≤x∧x≤100000000000000):zag (zg x)=x:=by
 unfold zg zag;rw [if_pos (KO.2 h)];split <;> split <;> omega
theorem u6 {x:Int} (h: -100000000000000≤x∧x≤100000000000000) (r:ByteArray):ri (SI x++r)=(x,((SI x).size:Int)):=by
 have hz:=cI h
 have hp:=bM hz.1 (by omega)
 unfold ri SI
 rw [sW hz.1 (by omega),if_neg (by simp only;omega)]
 simp only [sJ h]
theorem S6 {x:Int} (h: -100000000000000≤x∧x≤100000000000000) (r:ByteArray):rdI (SI x++r)=some (x,r):=by
 have hp:=bM (cI h).1 (by have:=cI h;omega)
 have hp:1≤(SI x).size:=hp
 rw [rdI,u6 h,if_neg (by simp only;omega)]
 simp only [Int.toNat_natCast,dC]
theorem pK (a b c:ByteArray):(a++(b++c)).extract a.size (a.size+b.size)=b:=by
 apply ByteArray.ext
 apply Array.ext'
 have e1:a.size=a.data.toList.length:=by simp
 have e2:b.size=b.data.toList.length:=by simp
 simp only [ByteArray.data_extract,Array.toList_extract,ByteArray.data_append,Array.toList_append]
 rw [e1,e2]
 simp [List.extract_eq_take_drop]
theorem sI {s:ByteArray} (h:s.size≤8) (r:ByteArray):rdT (ST s++r)=some (s,r):=by
 have hp:=bM (n:=s.size) (by omega) (by omega)
 have e:ST s=V s.size++s:=by unfold ST;rw [if_neg (by omega)]
 have e2:(ST s++r)=V s.size++(s++r):=by rw [e,ByteArray.append_assoc]
 have hv:=sW (n:=s.size) (by omega) (by omega) (s++r)
 have hr:rt (ST s++r)=(s,((ST s).size:Int)):=by
  unfold rt
  rw [e2,hv,if_neg (by simp only [ByteArray.size_append];omega)]
  simp only
  rw [show ((V s.size).size:Int).toNat=(V s.size).size from Int.toNat_natCast _,show (((V s.size).size:Int)+(s.size:Int)).toNat=(V s.size).size+s.size from by omega,pK,e,ByteArray.size_append]
  rfl
 have hz:1≤(ST s).size:=by rw [e,ByteArray.size_append];omega
 rw [rdT,hr,if_neg (by simp only;omega)]
 simp only [Int.toNat_natCast,dC]
def tl:Int→List Int→ByteArray
 | _,[]=>⟨#[]⟩
 | b,x::xs=>SI (x-b)++tl x xs
theorem sZ (a:ByteArray):a++⟨#[]⟩=a:=by
 apply ByteArray.ext;rw [ByteArray.data_append];simp
theorem kW (p:ByteArray): ∀(b:Int) (xs:List Int),(stE (p,b) xs xs.length).1=p++tl b xs:=by
 have: ∀(xs:List Int) (p:ByteArray) (b:Int),(xs.foldl Fx (p,b)).1=p++tl b xs:=by
  intro xs
  induction xs with
  | nil=>intro p b;rw [tl,sZ];rfl
  | cons x xs ih=>intro p b;rw [List.foldl_cons,Fx,ih,tl,ByteArray.append_assoc]
 intro b xs
 rw [stE,List.take_length,this]
theorem qE {β:Type} (f:List Int→Option β): ∀(xs acc:List Int) (b:Int),I2 b=true→xs.all I2=true→EL f xs.length acc b (tl b xs)=f (acc++xs)
 | [],acc,b,_,_=>by simp [EL]
 | x::xs,acc,b,hb,hx=>by
   simp only [List.all_cons,Bool.and_eq_true] at hx
   have b1:=ES hb
   have x1:=ES hx.1
   rw [List.length_cons,EL,tl,S6 (by omega)]
   have e:w64 (b+(x-b))=x:=by rw [JK ⟨by omega,by omega⟩];omega
   simp only [Option.bind_some,e]
   rw [qE f xs (acc++[x]) x hx.1 hx.2,List.append_assoc];rfl
theorem s5 {l:List ByteArray} {s:ByteArray} (h:s∈l):gS l (at_ l s).toNat=s∧0≤at_ l s∧at_ l s<l.length:=by
 have hx:l.idxOf s<l.length:=List.idxOf_lt_length_of_mem h
 rw [at_,if_pos h]
 refine ⟨?_,by omega,by omega⟩
 rw [Int.toNat_natCast, ←P4 hx]
 exact List.getElem_idxOf hx
theorem dX {n:Int} {l:List ByteArray} {o:Op5} {a:An} (h:(C8 n l o a).1≠⟨#[]⟩):CP n l (C8 n l o a).1=⟨o,a,(C8 n l o a).2.1,(C8 n l o a).2.2,true⟩:=by
 have hok:okE n l o.kind o.a o.b o.c o.site a.code a.val a.freed=true:=by
  cases hk:okE n l o.kind o.a o.b o.c o.site a.code a.val a.freed with
  | true=>rfl
  | false=>exfalso;apply h;rw [C8,HQ,hk];rfl
 obtain ⟨ha,hb,hc,hd,hv,hn,hxs,hxl,hk,hll⟩:=LQ hok
 have hsz:o.site.size≤8:=by
  simp only [okE,UR,Bool.and_eq_true,decide_eq_true_eq] at hok
  omega
 have a1:=ES ha;have b1:=ES hb;have c1:=ES hc;have d1:=ES hd;have v1:=ES hv;have n1:=ES hn
 have es:(C8 n l o a).1=SI o.kind++(SI (o.a-n)++(SI o.b++(SI (o.c-o.a)++(OE l o.site++(V a.code++(SI (a.val-o.a)++(V a.freed.length++tl o.a a.freed))))))):=by
  rw [C8,HQ,if_pos hok]
  simp only [kW,base,ByteArray.append_assoc]
 have e1:w64 (n+(o.a-n))=o.a:=by rw [JK ⟨by omega,by omega⟩];omega
 have e2:w64 (o.a+(o.c-o.a))=o.c:=by rw [JK ⟨by omega,by omega⟩];omega
 have e3:w64 (o.a+(a.val-o.a))=a.val:=by rw [JK ⟨by omega,by omega⟩];omega
 have hE:E0 n l (C8 n l o a).1=some (o,a):=by
  rw [es]
  have h6:E6 o (V a.code++(SI (a.val-o.a)++(V a.freed.length++tl o.a a.freed)))=some (o,a):=by
   rw [E6,gT (by omega) (by omega)]
   simp only [Option.bind_some]
   rw [E7,S6 (by omega)]
   simp only [Option.bind_some,e3]
   rw [E8,gT (by omega) (by omega)]
   simp only [Option.bind_some]
   rw [if_neg (by omega),Int.toNat_natCast,qE _ _ _ _ hb hxs]
   rfl
  rw [E0,S6 (by omega)]
  simp only [Option.bind_some]
  rw [E1,S6 (by omega)]
  simp only [Option.bind_some,e1]
  rw [E2,S6 (by omega)]
  simp only [Option.bind_some]
  rw [E3,S6 (by omega)]
  simp only [Option.bind_some,e2]
  by_cases hm:o.site∈l
  ·obtain ⟨g1,g2,g3⟩:=s5 hm
   have el:(l.length:Int)≤400:=by omega
   rw [OE,if_pos hm,E4,gT (by omega) (by omega)]
   simp only [Option.bind_some]
   rw [E5,if_neg (by omega),if_pos (by omega),show at_ l o.site+1-1=at_ l o.site from by omega,g1]
   exact h6
  ·rw [OE,if_neg hm,ByteArray.append_assoc,E4,gT (by omega) (by omega)]
   simp only [Option.bind_some]
   rw [E5,if_pos rfl,sI hsz]
   simp only [Option.bind_some]
   exact h6
 unfold CP
 rw [hE]
 simp only
 rw [if_pos ⟨h,rfl⟩]
theorem lQ {n:Int} {l:List ByteArray} {s:ByteArray} (h:(CP n l s).ok=true):s≠⟨#[]⟩∧C8 n l (CP n l s).o (CP n l s).a=(s,(CP n l s).last,(CP n l s).sites):=by
 unfold CP at h ⊢
 split at h
 ·cases h
 ·rename_i e he
  split at h
  ·rename_i hok
   simp only [if_pos hok]
   obtain ⟨h1,h2⟩:=hok
   refine ⟨by rw [←h2];exact h1, ?_⟩
   rw [←h2]
  ·cases h
end Go.Proofs.Ytnhicpkhkaihoaa.P
