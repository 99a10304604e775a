/- A part of the proof. -/
import Derived.Test.YthapfcoajahegaaAlHpS
import Derived.Test.YthapfcoajahegaaAlHpE
import Derived.Test.YthapfcoajahegaaAlLawTyNode
namespace Go.Proofs.Ythapfcoajahegaa.P
open Go Go.Proofs.Ythapfcoajahegaa Go.Proofs.Ythapfcoajahegaa.Eng
set_option linter.unusedVariables false
set_option maxHeartbeats 4000000
set_option linter.unusedVariables false
set_option linter.unusedSimpArgs false
attribute [local irreducible] prP gP gE gF AH ixW ldc ldg ldl stc stg scW mkW apW AP cl2 AX C9 BW
variable {w0:World}
noncomputable def R9 (h:Hp) (o:Op5):Hp×An:=
 if o.kind=1 then (⟨(P3 h.BC h.sites o.site).1,h.DO,h.buffer,(P3 h.BC h.sites o.site).2.1⟩,(P3 h.BC h.sites o.site).2.2) else
 if o.kind=2∨o.kind=3∨o.kind=5∨o.kind=6 then (⟨(SA h.BC h.buffer o.kind o.a).1,h.DO,(SA h.BC h.buffer o.kind o.a).2.1,h.sites⟩,(SA h.BC h.buffer o.kind o.a).2.2) else
 if o.kind=4 then (⟨(OL h.BC h.buffer o.a o.b o.c).1,h.DO,(OL h.BC h.buffer o.a o.b o.c).2.1,h.sites⟩,(OL h.BC h.buffer o.a o.b o.c).2.2) else
 if o.kind=7 then (⟨h.BC,(WK h.BC h.DO o.a).1,h.buffer,h.sites⟩,(WK h.BC h.DO o.a).2) else
 if o.kind=8∨o.kind=9 then (⟨h.BC,(PB h.BC h.DO o.kind o.a).1,h.buffer,h.sites⟩,(PB h.BC h.DO o.kind o.a).2) else
 if o.kind=10 then (⟨(fN h.BC h.buffer).1,h.DO,[],h.sites⟩,⟨0,0,(fN h.BC h.buffer).2⟩) else (h,⟨2,0,[]⟩)
theorem cF {α:Type} [Inhabited α] {l:List α} (h: ∀i (hi:i<l.length),l[i]∉l.take i):l.Nodup:=by
 refine List.pairwise_iff_getElem.2 fun i j hi hj hij he=>h j hj ?_
 rw [←he]
 exact List.mem_take_iff_getElem.2 ⟨i,by omega,rfl⟩
theorem few {n:Nat}: ∀{l:List Int} (g:Int→Nat),l.Nodup→(∀x∈l,g x<n)→(∀x∈l, ∀y∈l,g x=g y→x=y)→l.length≤n:=by
 induction n with
 | zero=>
   intro l g _ h _
   cases l with
   | nil=>simp
   | cons x l=>exact absurd (h x (by simp)) (by omega)
 | succ n ih=>
   intro l g hn h hi
   by_cases hx: ∃x∈l,g x=n
   ·obtain ⟨x,hx,hg⟩:=hx
    have:=ih (l:=l.erase x) g (hn.erase x) (fun y hy=>by
     have hy':=List.mem_of_mem_erase hy
     have:=h y hy'
     have hne:g y≠n:=fun he=>by
      have:y=x:=hi y hy' x hx (by omega)
      subst this
      exact (List.Nodup.not_mem_erase hn) hy
     omega) fun y hy z hz=>hi y (List.mem_of_mem_erase hy) z (List.mem_of_mem_erase hz)
    rw [List.length_erase_of_mem hx] at this
    omega
   ·have:=ih g hn (fun y hy=>by
     have:=h y hy
     have:g y≠n:=fun he=>hx ⟨y,hy,he⟩
     omega) hi
    omega
theorem FV.bnd {h:Hp} (hk:FV h):h.buffer.Nodup:=cF fun i hi=>by rw [I6 hi];exact (hk.buf i hi).2
theorem FV.UZ {h:Hp} (hk:FV h) {x:Int} (hx:x∈h.buffer):0≤AA h.BC x:=by
 obtain ⟨i,hi,rfl⟩:=List.getElem_of_mem hx
 rw [I6 hi];exact (hk.buf i hi).1
theorem cP {l:List AE} {x y:Int} (hx:0≤AA l x) (hy:0≤AA l y) (h:AA l x=AA l y):x=y:=by
 have a:=BH hx;have b:=BH hy
 have e1:=a.2.2.2.2.2;have e2:=b.2.2.2.2.2
 rw [h] at e1
 omega
theorem FV.tH {h:Hp} (hk:FV h):h.buffer.length≤8:=
 few (fun x=>(AA h.BC x).toNat) hk.bnd (fun x hx=>(BH (hk.UZ hx)).2.2.2.1) fun x hx y hy he=>cP (hk.UZ hx) (hk.UZ hy) (by have:=hk.UZ hx;have:=hk.UZ hy;omega)
theorem FV.st {h:Hp} (hk:FV h) (hn:Z6 h):St h:=by
 refine ⟨hk.ol,hk.wl,hk.sites.len,by have:=hk.tH;omega,fun o ho=> ?_,fun s hs=> ?_,hn.weak,hn.buf⟩
 ·obtain ⟨i,hi,rfl⟩:=List.getElem_of_mem ho
  have hi8:i<8:=by have:=hk.ol;omega
  have:=hn.obj _ ho
  rw [ID hi] at this ⊢
  exact ⟨this.1,(hk.obj i hi8).len,this.2.2.2.2.2⟩
 ·obtain ⟨i,hi,rfl⟩:=List.getElem_of_mem hs
  have:=(hk.sites.sz i hi).2
  rw [aN hi];omega
theorem FV.hr {h:Hp} (hk:FV h) (i:Nat):(0≤(ob h.BC i).holds∧(ob h.BC i).holds≤20)∧(0≤(ob h.BC i).roots∧(ob h.BC i).roots≤20):=by
 by_cases hi:i<8
 ·cases hv:(ob h.BC i).live with
  | true=>exact ⟨((hk.obj i hi).lv hv).2.2.1,((hk.obj i hi).lv hv).2.2.2.1⟩
  | false=>have:=(hk.obj i hi).dead hv;omega
 ·have:ob h.BC i=⟨false,0,0,0,0,0,[],false⟩:=by unfold ob;rw [List.getD_eq_getElem?_getD,List.getElem?_eq_none (by have:=hk.ol;omega)];rfl
  rw [this];simp
end Go.Proofs.Ythapfcoajahegaa.P
namespace Go.Proofs.Ythapfcoajahegaa.P
open Go Go.Proofs.Ythapfcoajahegaa Go.Proofs.Ythapfcoajahegaa.Eng
set_option linter.unusedVariables false
set_option maxHeartbeats 4000000
set_option linter.unusedVariables false
set_option linter.unusedSimpArgs false
attribute [local irreducible] prP gP gE gF AH ixW ldc ldg ldl stc stg scW mkW apW AP cl2 AX C9 BW
variable {w0:World}
end Go.Proofs.Ythapfcoajahegaa.P
namespace Go.Proofs.Ythapfcoajahegaa.P
open Go Go.Proofs.Ythapfcoajahegaa Go.Proofs.Ythapfcoajahegaa.Eng
set_option linter.unusedVariables false
def okE (n:Int) (l:List ByteArray) (a b c d:Int) (s:ByteArray) (k v:Int) (xs:List Int):Bool:=(qG a b c d s&&rM k v xs)&&r8 n l
def Fx (q:ByteArray×Int) (x:Int):ByteArray×Int:=(q.1++SI (x-q.2),x)
def base (n:Int) (l:List ByteArray) (a b c d:Int) (s:ByteArray) (k v:Int) (m:Nat):ByteArray:=((((((SI a++SI (b-n))++SI c)++SI (d-b))++lU l s)++V k)++SI (v-b))++V m
def stE (p:ByteArray×Int) (xs:List Int) (i:Nat):ByteArray×Int:=(xs.take i).foldl Fx p
theorem kS {p:ByteArray×Int} {xs:List Int} {i:Nat} (hi:i<xs.length):stE p xs (i+1)=Fx (stE p xs i) xs[i]:=by
 rw [stE,List.take_succ_eq_append_getElem hi,List.foldl_append];rfl
theorem jU {p:ByteArray×Int} {xs:List Int} (hp:N5 p.2=true) (hx:xs.all N5=true): ∀i,i≤xs.length→N5 (stE p xs i).2=true∧(stE p xs i).1.size≤p.1.size+7*i
 | 0,_=>⟨hp,Nat.le_refl _⟩
 | i+1,hi=>by
   obtain ⟨h1,h2⟩:=jU hp hx i (by omega)
   rw [kS (by omega)]
   refine ⟨List.all_eq_true.1 hx _ (List.getElem_mem _), ?_⟩
   have:=P6 (zg (xs[i]-(stE p xs i).2))
   simp only [Fx,ByteArray.size_append,SI];omega
theorem cE (l:List ByteArray) (s:ByteArray):(lU l s).size≤22:=by
 unfold lU;split
 ·have:=P6 (at_ l s+1);omega
 ·have h1:=P6 0
  have h2:=nL s
  rw [ByteArray.size_append];omega
theorem QL (n:Int):(SI n).size≤7:=P6 _
def fE (n:Int) (l:List ByteArray) (a b c d:Int) (s:ByteArray) (k v:Int) (xs:List Int):ByteArray×Int×List ByteArray:=
 if okE n l a b c d s k v xs then ((stE (base n l a b c d s k v xs.length,b) xs xs.length).1,b,rU l s) else (⟨#[]⟩,n,l)
theorem Z8 {n:Int} {l:List ByteArray} {a b c d:Int} {s:ByteArray} {k v:Int} {xs:List Int} (h:okE n l a b c d s k v xs=true):N5 a=true∧N5 b=true∧N5 c=true∧N5 d=true∧N5 v=true∧N5 n=true∧xs.all N5=true∧xs.length≤8∧(0≤k∧k≤6)∧l.length≤400:=by
 simp only [okE,qG,rM,r8,Bool.and_eq_true,decide_eq_true_eq] at h
 exact ⟨h.1.1.1.1.1.1,h.1.1.1.1.1.2,h.1.1.1.1.2,h.1.1.1.2,h.1.2.1.1.2,h.2.1.1,h.1.2.2,h.1.2.1.2,eV.1 h.1.2.1.1.1,h.2.1.2⟩
theorem iB (n:Int) (l:List ByteArray) (a b c d:Int) (s:ByteArray) (k v:Int) (m:Nat):(base n l a b c d s k v m).size≤71:=by
 have h1:=QL a;have h2:=QL (b-n);have h3:=QL c;have h4:=QL (d-b);have h5:=cE l s;have h6:=P6 k;have h7:=QL (v-b);have h8:=P6 m
 simp only [base,ByteArray.size_append];omega
end Go.Proofs.Ythapfcoajahegaa.P
namespace Go.Proofs.Ythapfcoajahegaa.P
open Go Go.Proofs.Ythapfcoajahegaa Go.Proofs.Ythapfcoajahegaa.Eng
set_option linter.unusedVariables false
theorem RI {f:J2} {g:J2→Prop} (P:List Value→List (List T)→Prop) (h1: ∀xs cs,P xs cs→f xs cs) (h2: ∀j:J2,(∀xs cs,P xs cs→j xs cs)→g j):AX f g:=h2 f h1
end Go.Proofs.Ythapfcoajahegaa.P
namespace Go.Proofs.Ythapfcoajahegaa.P
open Go Go.Proofs.Ythapfcoajahegaa Go.Proofs.Ythapfcoajahegaa.Eng
set_option linter.unusedVariables false
set_option maxHeartbeats 4000000
set_option linter.unusedVariables false
set_option linter.unusedSimpArgs false
attribute [local irreducible] prP gP gE gF AH ixW ldc ldg ldl stc stg scW mkW apW AP cl2 AX C9 BW
variable {w0:World}
abbrev U (n:Int):Value:= .int .u32 n
def by_ (s:ByteArray) (i:Nat):Nat:=(s.data.getD i 0).toNat
theorem sH (s:ByteArray) (i:Nat):by_ s i<256:=UInt8.toNat_lt _
def sZ (c:Nat):Nat:=if c % 2=1 then (c/2)^^^2197175160 else c/2
def r7:Nat→Nat→Nat
 | 0,c=>c
 | k+1,c=>sZ (r7 k c)
def sF (s:ByteArray):Nat→Nat
 | 0=>4294967295
 | i+1=>r7 8 (sF s i^^^by_ s i)
def crc (s:ByteArray):Nat:=4294967295-sF s s.size
def fxL (n:Nat):List Nat:=[n/16777216 % 256,n/65536 % 256,n/256 % 256,n % 256]
def FX (n:Nat):ByteArray:=MB (fxL n)
def frm (n:Int) (p:ByteArray):ByteArray:=if (0≤n∧n≤400)∧p.size≤200 then ((V n++V p.size)++p)++FX (crc ((V n++V p.size)++p)) else ⟨#[]⟩
def rW:ByteArray:=⟨#[72,76,79,71,1]⟩
attribute [irreducible] frm crc FX
def s7 (p:ByteArray):Prop:=1≤(p.size:Int)∧(p.size:Int)≤200
instance (p:ByteArray):Decidable (s7 p):=inferInstanceAs (Decidable (_∧_))
end Go.Proofs.Ythapfcoajahegaa.P
namespace Go.Proofs.Ythapfcoajahegaa.P
open Go Go.Proofs.Ythapfcoajahegaa Go.Proofs.Ythapfcoajahegaa.Eng
set_option maxHeartbeats 4000000
set_option linter.unusedVariables false
set_option linter.unusedSimpArgs false
attribute [local irreducible] prP gP gE gF AH ixW ldc ldg ldl stc stg scW mkW apW AP cl2 AX C9 BW
variable {w0:World}
def KE (n:Int) (l:List ByteArray) (o:Op5) (a:An):ByteArray×Int×List ByteArray:=fE n l o.kind o.a o.b o.c o.site a.code a.val a.freed
theorem T6 (n:Int) (l:List ByteArray) (o:Op5) (a:An):(KE n l o a).1.size≤127∧(KE n l o a).2.2.length≤l.length+1:=by
 unfold KE fE
 split
 ·rename_i h
  obtain ⟨_,hb,_,_,_,_,hx,hl,_⟩:=Z8 h
  have h1:=iB n l o.kind o.a o.b o.c o.site a.code a.val a.freed.length
  have h2:=(jU (p:=(base n l o.kind o.a o.b o.c o.site a.code a.val a.freed.length,o.a)) hb hx a.freed.length (Nat.le_refl _)).2
  refine ⟨by simp only at h2 ⊢;omega, ?_⟩
  simp only [rU]
  split
  ·omega
  ·simp
 ·exact ⟨Nat.zero_le _,Nat.le_succ _⟩
def enc (ops:List Op5) (ans:List An):Nat→Option (List ByteArray×Int×List ByteArray)
 | 0=>some ([],0,[])
 | i+1=>match enc ops ans i with
   | none=>none
   | some p=>if (KE p.2.1 p.2.2 (po ops i) (an ans i)).1=⟨#[]⟩ then none else some (p.1++[(KE p.2.1 p.2.2 (po ops i) (an ans i)).1],(KE p.2.1 p.2.2 (po ops i) (an ans i)).2)
structure qL (ops:List Op5) (ans:List An) (q:Nat×List ByteArray×Int×List ByteArray):Prop where
 eq:enc ops ans q.1=some q.2
 le:q.1≤ops.length
 al:q.2.1.length=q.1
 sl:q.2.2.2.length≤q.1
 sz: ∀i,(gS q.2.1 i).size≤127
theorem m6 {l:List ByteArray} {s:ByteArray} {b:Nat} (h: ∀i,(gS l i).size≤b) (hs:s.size≤b) (i:Nat):(gS (l++[s]) i).size≤b:=by
 unfold gS at h ⊢
 rcases Nat.lt_trichotomy i l.length with h1 | h1 | h1
 ·have:=h i
  rw [List.getD_eq_getElem?_getD] at this ⊢
  rw [List.getElem?_append_left h1];exact this
 ·subst h1
  rw [List.getD_eq_getElem?_getD,List.getElem?_append_right (Nat.le_refl _)]
  simpa using hs
 ·rw [List.getD_eq_getElem?_getD,List.getElem?_eq_none (by simp;omega)];exact Nat.zero_le _
theorem qL.next {ops:List Op5} {ans:List An} {q:Nat×List ByteArray×Int×List ByteArray} (h:qL ops ans q) (hlt:q.1<ops.length) (hne:(KE q.2.2.1 q.2.2.2 (po ops q.1) (an ans q.1)).1≠⟨#[]⟩):
  qL ops ans (q.1+1,q.2.1++[(KE q.2.2.1 q.2.2.2 (po ops q.1) (an ans q.1)).1],(KE q.2.2.1 q.2.2.2 (po ops q.1) (an ans q.1)).2):=by
 obtain ⟨h1,h2,h3,h4,h5⟩:=h
 have hz:=T6 q.2.2.1 q.2.2.2 (po ops q.1) (an ans q.1)
 refine ⟨by rw [enc,h1];exact if_neg hne,hlt,by simp [h3], ?_,m6 h5 hz.1⟩
 have:=hz.2
 simp only at this ⊢;omega
attribute [irreducible] KE
end Go.Proofs.Ythapfcoajahegaa.P
namespace Go.Proofs.Ythapfcoajahegaa.P
open Go Go.Proofs.Ythapfcoajahegaa Go.Proofs.Ythapfcoajahegaa.Eng
set_option maxHeartbeats 4000000
set_option linter.unusedVariables false
set_option linter.unusedSimpArgs false
attribute [local irreducible] prP gP gE gF AH ixW ldc ldg ldl stc stg scW mkW apW AP cl2 AX C9 BW
variable {w0:World}
def dr (s:ByteArray) (a:Nat):ByteArray:=s.extract a s.size
theorem XI (s:ByteArray) (a:Nat):(dr s a).size=s.size-a:=by simp [dr]
def bys (s:ByteArray) (k:Nat):List Nat:=(List.range k).map (by_ s)
def QD:List Nat→Nat
 | []=>0
 | x::r=>x % 128+128*QD r
def PG:Bool→List Nat→Bool
 | _,[]=>false
 | f,[x]=>decide (x<128)&&(f||decide (x≠0))
 | _,x::y::r=>decide (x≥128)&&PG false (y::r)
theorem aK: ∀{L:List Nat},PG false L=true→1≤QD L
 | [],h=>by simp [PG] at h
 | [x],h=>by simp [PG] at h;simp only [QD];omega
 | x::y::r,h=>by
   simp only [PG,Bool.and_eq_true] at h
   have:=aK h.2
   simp only [QD] at this ⊢;omega
theorem mD: ∀{L:List Nat} {f:Bool} {k:Nat},(∀x∈L,x<256)→PG f L=true→L.length≤k+1→vd k (QD L)=L
 | [],f,k,_,h,_=>by simp [PG] at h
 | [x],f,k,_,h,_=>by
   simp only [PG,Bool.and_eq_true,decide_eq_true_eq] at h
   have h1:x % 128+128*0=x:=by omega
   simp only [QD,h1]
   cases k with
   | zero=>rfl
   | succ k=>rw [vd,if_neg (by omega)]
 | x::y::r,f,0,_,h,hl=>by simp at hl
 | x::y::r,f,k+1,hb,h,hl=>by
   simp only [PG,Bool.and_eq_true,decide_eq_true_eq] at h
   have h1:=aK h.2
   have hx:=hb x (by simp)
   have h2:QD (x::y::r)=x % 128+128*QD (y::r):=rfl
   have h3:QD (x::y::r)/128=QD (y::r):=by omega
   have h4:128+QD (x::y::r) % 128=x:=by omega
   rw [vd,if_pos (by omega),h3,h4,mD (L:=y::r) (fun z hz=>hb z (by simp [hz])) h.2 (by simpa using hl)]
theorem rC: ∀k n,vd k n≠[]
 | 0,n=>by simp [vd]
 | k+1,n=>by unfold vd;split <;> simp
theorem lM: ∀{k n:Nat},n<128^(k+1)→PG true (vd k n)=true∧(1≤n→PG false (vd k n)=true)
 | 0,n,h=>by simp at h;simp [vd,PG,h];omega
 | k+1,n,h=>by
   unfold vd
   split
   ·rename_i hge
    have hd:n/128<128^(k+1):=by rw [Nat.pow_succ] at h;omega
    have h2:=(lM hd).2 (by omega)
    cases hv:vd k (n/128) with
    | nil=>exact absurd hv (rC _ _)
    | cons y r=>
      rw [hv] at h2
      have:PG false (y::r)=true:=h2
      simp [PG,this]
   ·simp [PG];omega
theorem fD: ∀L:List Nat,QD L<128^L.length
 | []=>by simp [QD]
 | x::r=>by have:=fD r;simp only [QD,List.length_cons,Nat.pow_succ];omega
theorem dY (s:ByteArray) (k:Nat):(bys s k).length=k:=by simp [bys]
theorem iW (s:ByteArray) (k:Nat): ∀x∈bys s k,x<256:=by
 intro x hx
 obtain ⟨i,_,rfl⟩:=List.mem_map.1 hx
 exact sH s i
def ZT (s:ByteArray) (k:Nat):Nat:=QD (bys s k)
theorem dV (s:ByteArray) {k:Nat} (hk:k≤7):ZT s k<2^49:=by
 have h:=fD (bys s k)
 rw [dY] at h
 have:128^k≤128^7:=Nat.pow_le_pow_right (by omega) hk
 have:(128:Nat)^7=2^49:=by decide
 unfold ZT;omega
def cZ (s:ByteArray) (k:Nat):Bool:=PG true (bys s k)
theorem OA (l:List Nat):(MB l).data.toList=l.map UInt8.ofNat:=by
 have: ∀(l:List Nat) (b:ByteArray),(l.foldl (fun b n=>b.push (UInt8.ofNat n)) b).data.toList=b.data.toList++l.map UInt8.ofNat:=by
  intro l
  induction l with
  | nil=>intro b;simp
  | cons a l ih=>intro b;rw [List.foldl_cons,ih];simp
 rw [MB,this];rfl
theorem aG {s:ByteArray} {k:Nat} (hk:k≤s.size):s.extract 0 k=MB (bys s k):=by
 apply ByteArray.ext
 apply Array.ext'
 rw [OA,ByteArray.data_extract,Array.toList_extract]
 apply List.ext_getElem
 ·simp [bys];have:s.size=s.data.size:=rfl;omega
 ·intro i h1 h2
  have hi:i<k:=by simpa [bys] using h2
  have his:i<s.data.size:=by have:s.size=s.data.size:=rfl;omega
  simp [bys,by_,Array.getD,his]
  intro hcon;have:s.size=s.data.size:=rfl;omega
theorem dA {a b:List Nat} (ha: ∀x∈a,x<256) (hb: ∀x∈b,x<256) (h:MB a=MB b):a=b:=by
 have h1:a.map UInt8.ofNat=b.map UInt8.ofNat:=by rw [←OA, ←OA,h]
 have h2:=congrArg (List.map UInt8.toNat) h1
 simp only [List.map_map] at h2
 have: ∀l:List Nat,(∀x∈l,x<256)→l.map (UInt8.toNat ∘ UInt8.ofNat)=l:=by
  intro l hl
  induction l with
  | nil=>rfl
  | cons x l ih=>
    have hx:=hl x (by simp)
    rw [List.map_cons,ih fun y hy=>hl y (by simp [hy])]
    simp [Nat.mod_eq_of_lt hx]
 rwa [this a ha,this b hb] at h2
theorem o8: ∀(k n:Nat),n<128^(k+1)→ ∀x∈vd k n,x<256
 | 0,n,h=>by simp at h;simp [vd];omega
 | k+1,n,h=>by
   unfold vd
   split
   ·intro x hx
    rcases List.mem_cons.1 hx with rfl | hx
    ·omega
    ·exact o8 k (n/128) (by rw [Nat.pow_succ] at h;omega) x hx
   ·simp;omega
theorem rB {n:Nat} (h:n<2^49):V n=MB (vd 6 n):=by
 rw [V,if_pos (by rw [eV];omega),Int.toNat_natCast]
theorem iN {s:ByteArray} {k:Nat} (hk:k≤7) (hs:k≤s.size):V (ZT s k)=s.extract 0 k↔cZ s k=true:=by
 have hlt:=dV s hk
 have h49:(128:Nat)^(6+1)=2^49:=by decide
 rw [rB hlt,aG hs]
 constructor
 ·intro h
  have:=dA (o8 6 _ (by rw [h49];exact hlt)) (iW s k) h
  rw [cZ, ←this]
  exact (lM (by rw [h49];exact hlt)).1
 ·intro h
  rw [ZT,mD (iW s k) h (by rw [dY];omega)]
def rvF (s:ByteArray):Nat→Nat→Int×Int
 | 0,_=>(0,0)
 | f+1,j=>if j≤s.size∧cZ s j=true then ((ZT s j:Int),(j:Int)) else rvF s f (j+1)
def rv (s:ByteArray):Int×Int:=rvF s 7 1
theorem sE (s:ByteArray):rv s=(0,0)∨ ∃j:Nat,1≤j∧j≤7∧j≤s.size∧cZ s j=true∧rv s=((ZT s j:Int),(j:Int)):=by
 have: ∀f i,1≤i→i+f≤8→rvF s f i=(0,0)∨ ∃j:Nat,1≤j∧j≤7∧j≤s.size∧cZ s j=true∧rvF s f i=((ZT s j:Int),(j:Int)):=by
  intro f
  induction f with
  | zero=>intro i _ _;exact .inl rfl
  | succ f ih=>
    intro i h1 h2
    by_cases hc:i≤s.size∧cZ s i=true
    ·exact .inr ⟨i,h1,by omega,hc.1,hc.2,by rw [rvF,if_pos hc]⟩
    ·rw [rvF,if_neg hc];exact ih (i+1) (by omega) (by omega)
 exact this 7 1 (by omega) (by omega)
attribute [irreducible] rv rvF cZ ZT bys dr
end Go.Proofs.Ythapfcoajahegaa.P
