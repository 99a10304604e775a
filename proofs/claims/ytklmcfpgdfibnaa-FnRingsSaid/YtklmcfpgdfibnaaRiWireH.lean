/- A part of the proof. -/
import Derived.Test.YtklmcfpgdfibnaaRiTxtH
import Derived.Test.YtklmcfpgdfibnaaRiLawTyNode
namespace Go.Proofs.Ytklmcfpgdfibnaa.P
open Go Go.Proofs.Ytklmcfpgdfibnaa Go.Proofs.Ytklmcfpgdfibnaa.Eng
set_option linter.unusedVariables false
set_option maxHeartbeats 4000000
set_option linter.unusedVariables false
set_option linter.unusedSimpArgs false
attribute [local irreducible] prP gP gE gF AW ixW ldc ldg ldl stc stg scW mkW apW AZ cl2 BJ CH B2
variable {w0:World}
abbrev U (n:Int):Value:= .int .u32 n
theorem mY {k:IntKind} {n:Int} {K:Value→Prop} (hf:F64 n) (h:K (I n)):prP (cvI .i64 (.int k n)) K:=
 C4 (v:= .int .i64 (IntKind.i64.wrap n)) rfl (by rw [OZ hf];exact h)
def by_ (s:ByteArray) (i:Nat):Nat:=(s.data.getD i 0).toNat
theorem yD (s:ByteArray) (i:Nat):by_ s i<256:=UInt8.toNat_lt _
def y6 (c:Nat):Nat:=if c % 2=1 then (c/2)^^^2197175160 else c/2
def wY:Nat→Nat→Nat
 | 0,c=>c
 | k+1,c=>y6 (wY k c)
def xP (s:ByteArray):Nat→Nat
 | 0=>4294967295
 | i+1=>wY 8 (xP s i^^^by_ s i)
def crc (s:ByteArray):Nat:=4294967295-xP s s.size
def fxL (n:Nat):List Nat:=[n/16777216 % 256,n/65536 % 256,n/256 % 256,n % 256]
def FX (n:Nat):ByteArray:=LQ (fxL n)
def frm (n:Int) (p:ByteArray):ByteArray:=if (0≤n∧n≤400)∧p.size≤200 then ((V n++V p.size)++p)++FX (crc ((V n++V p.size)++p)) else ⟨#[]⟩
def xB:ByteArray:=⟨#[72,76,79,71,1]⟩
attribute [irreducible] frm crc FX
def yS (p:ByteArray):Prop:=1≤(p.size:Int)∧(p.size:Int)≤200
instance (p:ByteArray):Decidable (yS p):=inferInstanceAs (Decidable (_∧_))
end Go.Proofs.Ytklmcfpgdfibnaa.P
namespace Go.Proofs.Ytklmcfpgdfibnaa.P
open Go Go.Proofs.Ytklmcfpgdfibnaa Go.Proofs.Ytklmcfpgdfibnaa.Eng
set_option maxHeartbeats 4000000
set_option linter.unusedVariables false
set_option linter.unusedSimpArgs false
attribute [local irreducible] prP gP gE gF AW ixW ldc ldg ldl stc stg scW mkW apW AZ cl2 BJ CH B2
variable {w0:World}
def JQ (n:Int) (l:List ByteArray) (o:Op5) (a:An):ByteArray×Int×List ByteArray:=fN n l o.kind o.a o.b o.c o.site a.code a.val a.freed
theorem U3 (n:Int) (l:List ByteArray) (o:Op5) (a:An):(JQ n l o a).1.size≤127∧(JQ n l o a).2.2.length≤l.length+1:=by
 unfold JQ fN
 split
 ·rename_i h
  obtain ⟨_,hb,_,_,_,_,hx,hl,_⟩:=aJ h
  have h1:=kB n l o.kind o.a o.b o.c o.site a.code a.val a.freed.length
  have h2:=(lW (p:=(base n l o.kind o.a o.b o.c o.site a.code a.val a.freed.length,o.a)) hb hx a.freed.length (Nat.le_refl _)).2
  refine ⟨by simp only at h2 ⊢;omega, ?_⟩
  simp only [wT]
  split
  ·omega
  ·simp
 ·exact ⟨Nat.zero_le _,Nat.le_succ _⟩
def enc (ops:List Op5) (ans:List An):Nat→Option (List ByteArray×Int×List ByteArray)
 | 0=>some ([],0,[])
 | i+1=>match enc ops ans i with
   | none=>none
   | some p=>if (JQ p.2.1 p.2.2 (po ops i) (an ans i)).1=⟨#[]⟩ then none else some (p.1++[(JQ p.2.1 p.2.2 (po ops i) (an ans i)).1],(JQ p.2.1 p.2.2 (po ops i) (an ans i)).2)
structure u7 (ops:List Op5) (ans:List An) (q:Nat×List ByteArray×Int×List ByteArray):Prop where
 eq:enc ops ans q.1=some q.2
 le:q.1≤ops.length
 al:q.2.1.length=q.1
 sl:q.2.2.2.length≤q.1
 sz: ∀i,(gS q.2.1 i).size≤127
theorem rJ {l:List ByteArray} {s:ByteArray} {b:Nat} (h: ∀i,(gS l i).size≤b) (hs:s.size≤b) (i:Nat):(gS (l++[s]) i).size≤b:=by
 unfold gS at h ⊢
 rcases Nat.lt_trichotomy i l.length with h1 | h1 | h1
 ·have:=h i
  rw [List.getD_eq_getElem?_getD] at this ⊢
  rw [List.getElem?_append_left h1];exact this
 ·subst h1
  rw [List.getD_eq_getElem?_getD,List.getElem?_append_right (Nat.le_refl _)]
  simpa using hs
 ·rw [List.getD_eq_getElem?_getD,List.getElem?_eq_none (by simp;omega)];exact Nat.zero_le _
theorem u7.next {ops:List Op5} {ans:List An} {q:Nat×List ByteArray×Int×List ByteArray} (h:u7 ops ans q) (hlt:q.1<ops.length) (hne:(JQ q.2.2.1 q.2.2.2 (po ops q.1) (an ans q.1)).1≠⟨#[]⟩):
  u7 ops ans (q.1+1,q.2.1++[(JQ q.2.2.1 q.2.2.2 (po ops q.1) (an ans q.1)).1],(JQ q.2.2.1 q.2.2.2 (po ops q.1) (an ans q.1)).2):=by
 obtain ⟨h1,h2,h3,h4,h5⟩:=h
 have hz:=U3 q.2.2.1 q.2.2.2 (po ops q.1) (an ans q.1)
 refine ⟨by rw [enc,h1];exact if_neg hne,hlt,by simp [h3], ?_,rJ h5 hz.1⟩
 have:=hz.2
 simp only at this ⊢;omega
attribute [irreducible] JQ
end Go.Proofs.Ytklmcfpgdfibnaa.P
namespace Go.Proofs.Ytklmcfpgdfibnaa.P
open Go Go.Proofs.Ytklmcfpgdfibnaa Go.Proofs.Ytklmcfpgdfibnaa.Eng
set_option maxHeartbeats 4000000
set_option linter.unusedVariables false
set_option linter.unusedSimpArgs false
attribute [local irreducible] prP gP gE gF AW ixW ldc ldg ldl stc stg scW mkW apW AZ cl2 BJ CH B2
variable {w0:World}
def dr (s:ByteArray) (a:Nat):ByteArray:=s.extract a s.size
theorem YY (s:ByteArray) (a:Nat):(dr s a).size=s.size-a:=by simp [dr]
def bys (s:ByteArray) (k:Nat):List Nat:=(List.range k).map (by_ s)
def P5:List Nat→Nat
 | []=>0
 | x::r=>x % 128+128*P5 r
def PH:Bool→List Nat→Bool
 | _,[]=>false
 | f,[x]=>decide (x<128)&&(f||decide (x≠0))
 | _,x::y::r=>decide (x≥128)&&PH false (y::r)
theorem cA: ∀{L:List Nat},PH false L=true→1≤P5 L
 | [],h=>by simp [PH] at h
 | [x],h=>by simp [PH] at h;simp only [P5];omega
 | x::y::r,h=>by
   simp only [PH,Bool.and_eq_true] at h
   have:=cA h.2
   simp only [P5] at this ⊢;omega
theorem lX: ∀{L:List Nat} {f:Bool} {k:Nat},(∀x∈L,x<256)→PH f L=true→L.length≤k+1→vd k (P5 L)=L
 | [],f,k,_,h,_=>by simp [PH] at h
 | [x],f,k,_,h,_=>by
   simp only [PH,Bool.and_eq_true,decide_eq_true_eq] at h
   have h1:x % 128+128*0=x:=by omega
   simp only [P5,h1]
   cases k with
   | zero=>rfl
   | succ k=>rw [vd,if_neg (by omega)]
 | x::y::r,f,0,_,h,hl=>by simp at hl
 | x::y::r,f,k+1,hb,h,hl=>by
   simp only [PH,Bool.and_eq_true,decide_eq_true_eq] at h
   have h1:=cA h.2
   have hx:=hb x (by simp)
   have h2:P5 (x::y::r)=x % 128+128*P5 (y::r):=rfl
   have h3:P5 (x::y::r)/128=P5 (y::r):=by omega
   have h4:128+P5 (x::y::r) % 128=x:=by omega
   rw [vd,if_pos (by omega),h3,h4,lX (L:=y::r) (fun z hz=>hb z (by simp [hz])) h.2 (by simpa using hl)]
theorem w9: ∀k n,vd k n≠[]
 | 0,n=>by simp [vd]
 | k+1,n=>by unfold vd;split <;> simp
theorem lP: ∀{k n:Nat},n<128^(k+1)→PH true (vd k n)=true∧(1≤n→PH false (vd k n)=true)
 | 0,n,h=>by simp at h;simp [vd,PH,h];omega
 | k+1,n,h=>by
   unfold vd
   split
   ·rename_i hge
    have hd:n/128<128^(k+1):=by rw [Nat.pow_succ] at h;omega
    have h2:=(lP hd).2 (by omega)
    cases hv:vd k (n/128) with
    | nil=>exact absurd hv (w9 _ _)
    | cons y r=>
      rw [hv] at h2
      have:PH false (y::r)=true:=h2
      simp [PH,this]
   ·simp [PH];omega
theorem fF: ∀L:List Nat,P5 L<128^L.length
 | []=>by simp [P5]
 | x::r=>by have:=fF r;simp only [P5,List.length_cons,Nat.pow_succ];omega
theorem iT (s:ByteArray) (k:Nat):(bys s k).length=k:=by simp [bys]
theorem oQ (s:ByteArray) (k:Nat): ∀x∈bys s k,x<256:=by
 intro x hx
 obtain ⟨i,_,rfl⟩:=List.mem_map.1 hx
 exact yD s i
def cL (s:ByteArray) (k:Nat):Nat:=P5 (bys s k)
theorem iK (s:ByteArray) {k:Nat} (hk:k≤7):cL s k<2^49:=by
 have h:=fF (bys s k)
 rw [iT] at h
 have:128^k≤128^7:=Nat.pow_le_pow_right (by omega) hk
 have:(128:Nat)^7=2^49:=by decide
 unfold cL;omega
def eR (s:ByteArray) (k:Nat):Bool:=PH true (bys s k)
theorem OH (l:List Nat):(LQ l).data.toList=l.map UInt8.ofNat:=by
 have: ∀(l:List Nat) (b:ByteArray),(l.foldl (fun b n=>b.push (UInt8.ofNat n)) b).data.toList=b.data.toList++l.map UInt8.ofNat:=by
  intro l
  induction l with
  | nil=>intro b;simp
  | cons a l ih=>intro b;rw [List.foldl_cons,ih];simp
 rw [LQ,this];rfl
theorem Z0 {s:ByteArray} {k:Nat} (hk:k≤s.size):s.extract 0 k=LQ (bys s k):=by
 apply ByteArray.ext
 apply Array.ext'
 rw [OH,ByteArray.data_extract,Array.toList_extract]
 apply List.ext_getElem
 ·simp [bys];have:s.size=s.data.size:=rfl;omega
 ·intro i h1 h2
  have hi:i<k:=by simpa [bys] using h2
  have his:i<s.data.size:=by have:s.size=s.data.size:=rfl;omega
  simp [bys,by_,Array.getD,his]
  intro hcon;have:s.size=s.data.size:=rfl;omega
theorem cP {a b:List Nat} (ha: ∀x∈a,x<256) (hb: ∀x∈b,x<256) (h:LQ a=LQ b):a=b:=by
 have h1:a.map UInt8.ofNat=b.map UInt8.ofNat:=by rw [←OH, ←OH,h]
 have h2:=congrArg (List.map UInt8.toNat) h1
 simp only [List.map_map] at h2
 have: ∀l:List Nat,(∀x∈l,x<256)→l.map (UInt8.toNat ∘ UInt8.ofNat)=l:=by
  intro l hl
  induction l with
  | nil=>rfl
  | cons x l ih=>
    have hx:=hl x (by simp)
    rw [List.map_cons,ih fun y hy=>hl y (by simp [hy])]
    simp [Nat.mod_eq_of_lt hx]
 rwa [this a ha,this b hb] at h2
theorem sM: ∀(k n:Nat),n<128^(k+1)→ ∀x∈vd k n,x<256
 | 0,n,h=>by simp at h;simp [vd];omega
 | k+1,n,h=>by
   unfold vd
   split
   ·intro x hx
    rcases List.mem_cons.1 hx with rfl | hx
    ·omega
    ·exact sM k (n/128) (by rw [Nat.pow_succ] at h;omega) x hx
   ·simp;omega
theorem yK {n:Nat} (h:n<2^49):V n=LQ (vd 6 n):=by
 rw [V,if_pos (by rw [iU];omega),Int.toNat_natCast]
theorem jI {s:ByteArray} {k:Nat} (hk:k≤7) (hs:k≤s.size):V (cL s k)=s.extract 0 k↔eR s k=true:=by
 have hlt:=iK s hk
 have h49:(128:Nat)^(6+1)=2^49:=by decide
 rw [yK hlt,Z0 hs]
 constructor
 ·intro h
  have:=cP (sM 6 _ (by rw [h49];exact hlt)) (oQ s k) h
  rw [eR, ←this]
  exact (lP (by rw [h49];exact hlt)).1
 ·intro h
  rw [cL,lX (oQ s k) h (by rw [iT];omega)]
def rvF (s:ByteArray):Nat→Nat→Int×Int
 | 0,_=>(0,0)
 | f+1,j=>if j≤s.size∧eR s j=true then ((cL s j:Int),(j:Int)) else rvF s f (j+1)
def rv (s:ByteArray):Int×Int:=rvF s 7 1
theorem xD (s:ByteArray):rv s=(0,0)∨ ∃j:Nat,1≤j∧j≤7∧j≤s.size∧eR s j=true∧rv s=((cL s j:Int),(j:Int)):=by
 have: ∀f i,1≤i→i+f≤8→rvF s f i=(0,0)∨ ∃j:Nat,1≤j∧j≤7∧j≤s.size∧eR s j=true∧rvF s f i=((cL s j:Int),(j:Int)):=by
  intro f
  induction f with
  | zero=>intro i _ _;exact .inl rfl
  | succ f ih=>
    intro i h1 h2
    by_cases hc:i≤s.size∧eR s i=true
    ·exact .inr ⟨i,h1,by omega,hc.1,hc.2,by rw [rvF,if_pos hc]⟩
    ·rw [rvF,if_neg hc];exact ih (i+1) (by omega) (by omega)
 exact this 7 1 (by omega) (by omega)
attribute [irreducible] rv rvF eR cL bys dr
end Go.Proofs.Ytklmcfpgdfibnaa.P
namespace Go.Proofs.Ytklmcfpgdfibnaa.P
open Go Go.Proofs.Ytklmcfpgdfibnaa Go.Proofs.Ytklmcfpgdfibnaa.Eng
set_option maxHeartbeats 4000000
set_option linter.unusedVariables false
set_option linter.unusedSimpArgs false
attribute [local irreducible] prP gP gE gF AW ixW ldc ldg ldl stc stg scW mkW apW AZ cl2 BJ CH B2
variable {w0:World}
theorem sH (s:ByteArray):((rv s).2=0∧(rv s).1=0)∨ ∃j:Nat,1≤j∧j≤7∧j≤s.size∧(rv s).2=j∧0≤(rv s).1∧(rv s).1<2^49∧V (rv s).1=s.extract 0 j:=by
 rcases xD s with h | ⟨j,h1,h2,h3,h4,h5⟩
 ·exact .inl (by rw [h];exact ⟨rfl,rfl⟩)
 ·have:=iK s h2
  exact .inr ⟨j,h1,h2,h3,by rw [h5],by rw [h5];omega,by rw [h5];simp only;omega,by rw [h5];exact (jI h2 h3).2 h4⟩
theorem lM (s:ByteArray):0≤(rv s).1∧(rv s).1<2^49∧0≤(rv s).2∧(rv s).2≤7∧(rv s).2≤s.size:=by
 rcases sH s with ⟨h1,h2⟩ | ⟨j,h1,h2,h3,h4,h5,h6,_⟩ <;> omega
def zag (n:Int):Int:=if n % 2=0 then n/2 else 0-n/2-1
def ri (s:ByteArray):Int×Int:=if (rv s).2=0∨(rv s).1>200000000000000 then (0,0) else (zag (rv s).1,(rv s).2)
attribute [irreducible] ri zag
def rt (s:ByteArray):ByteArray×Int:=if (rv s).2=0∨(rv s).1>8∨(rv s).1>s.size-(rv s).2 then (⟨#[]⟩,0) else (s.extract (rv s).2.toNat ((rv s).2+(rv s).1).toNat,(rv s).2+(rv s).1)
attribute [irreducible] rt
structure Frm where
 seq:Int
 pay:ByteArray
 n:Int
def rv2 (s:ByteArray):Int×Int:=rv (dr s (rv s).2.toNat)
theorem tZ (s:ByteArray):0≤(rv2 s).1∧(rv2 s).1<2^49∧0≤(rv2 s).2∧(rv2 s).2≤7∧(rv2 s).2+(rv s).2≤s.size:=by
 have h:=lM s
 have h2:=lM (dr s (rv s).2.toNat)
 rw [YY] at h2
 unfold rv2;omega
def sJ (s:ByteArray):ByteArray:=s.extract ((rv s).2+(rv2 s).2).toNat ((rv s).2+(rv2 s).2+(rv2 s).1).toNat
def eY (s:ByteArray):Prop:=(rv s).2=0∨(rv2 s).2=0∨(rv2 s).1>200∨(rv2 s).1>s.size-(rv s).2-(rv2 s).2-4
instance (s:ByteArray):Decidable (eY s):=inferInstanceAs (Decidable (_∨_))
def rf (s:ByteArray):Frm:=if eY s∨frm (rv s).1 (sJ s)≠s.extract 0 ((rv s).2+(rv2 s).2+(rv2 s).1+4).toNat then ⟨0,⟨#[]⟩,0⟩ else ⟨(rv s).1,sJ s,(rv s).2+(rv2 s).2+(rv2 s).1+4⟩
theorem xQ (s:ByteArray):0≤(rf s).n∧(rf s).n≤s.size∧((rf s).n≠0→6≤(rf s).n)∧(rf s).pay.size≤200∧F64 (rf s).seq:=by
 have h:=lM s
 have h2:=tZ s
 unfold rf;split
 ·exact ⟨by simp only;omega,by simp only;omega,fun hh=>absurd rfl hh,Nat.zero_le _,by simp only;exact ⟨by omega,by omega⟩⟩
 ·rename_i hn
  simp only [not_or,eY] at hn
  refine ⟨by simp only;omega,by simp only;omega,fun _=>by simp only;omega, ?_,by simp only;exact ⟨by omega,by omega⟩⟩
  simp only [sJ,ByteArray.size_extract];omega
attribute [irreducible] rf rv2 sJ
end Go.Proofs.Ytklmcfpgdfibnaa.P
namespace Go.Proofs.Ytklmcfpgdfibnaa.P
open Go Go.Proofs.Ytklmcfpgdfibnaa Go.Proofs.Ytklmcfpgdfibnaa.Eng
set_option maxHeartbeats 4000000
set_option linter.unusedVariables false
set_option linter.unusedSimpArgs false
attribute [local irreducible] prP gP gE gF AW ixW ldc ldg ldl stc stg scW mkW apW AZ cl2 BJ CH B2
variable {w0:World}
def rlF:Nat→ByteArray→List ByteArray→List ByteArray×Int
 | 0,_,_=>([],4)
 | f+1,s,out=>if s.size=0 then ([],4) else if (rf s).n=0 then ([],2) else if (rf s).seq≠out.length then ([],3) else
    if (rf s).pay=⟨#[]⟩ then (if (rf s).n<s.size then ([],5) else (out,0)) else rlF f (dr s (rf s).n.toNat) (out++[(rf s).pay])
def rl (s:ByteArray):List ByteArray×Int:=if s.size<5∨s.extract 0 5≠xB then ([],1) else rlF (s.size+1) (dr s 5) []
structure RlI (s0 s:ByteArray) (out:List ByteArray):Prop where
 sz:s.size+out.length≤s0.size
 go: ∃f,s.size<f∧rlF f s out=rl s0
theorem RlI.next {s0 s:ByteArray} {out:List ByteArray} (h:RlI s0 s out) (h0:s.size≠0) (h1:(rf s).n≠0) (h2:(rf s).seq=out.length) (h3:(rf s).pay≠⟨#[]⟩):RlI s0 (dr s (rf s).n.toNat) (out++[(rf s).pay]):=by
 obtain ⟨g1,f,g2,g3⟩:=h
 have hb:=xQ s
 have:=hb.2.2.1 h1
 obtain ⟨f,rfl⟩: ∃f',f=f'+1:=⟨f-1,by omega⟩
 rw [rlF,if_neg h0,if_neg h1,if_neg (by simpa using h2),if_neg h3] at g3
 exact ⟨by rw [YY,List.length_append,List.length_singleton];omega,f,by rw [YY];omega,g3⟩
theorem RlI.at_ {s0 s:ByteArray} {out:List ByteArray} (h:RlI s0 s out): ∃f,rlF (f+1) s out=rl s0:=by
 obtain ⟨_,f,g2,g3⟩:=h
 obtain ⟨f,rfl⟩: ∃f',f=f'+1:=⟨f-1,by omega⟩
 exact ⟨f,g3⟩
attribute [irreducible] rl
end Go.Proofs.Ytklmcfpgdfibnaa.P
namespace Go.Proofs.Ytklmcfpgdfibnaa.P
open Go Go.Proofs.Ytklmcfpgdfibnaa Go.Proofs.Ytklmcfpgdfibnaa.Eng
set_option maxHeartbeats 4000000
set_option linter.unusedVariables false
set_option linter.unusedSimpArgs false
attribute [local irreducible] prP gP gE gF AW ixW ldc ldg ldl stc stg scW mkW apW AZ cl2 BJ CH B2
variable {w0:World}
def rdI (r:ByteArray):Option (Int×ByteArray):=if (ri r).2=0 then none else some ((ri r).1,dr r (ri r).2.toNat)
def rdN (r:ByteArray):Option (Int×ByteArray):=if (rv r).2=0 then none else some ((rv r).1,dr r (rv r).2.toNat)
def rdT (r:ByteArray):Option (ByteArray×ByteArray):=if (rt r).2=0 then none else some ((rt r).1,dr r (rt r).2.toNat)
def EL {β:Type} (f:List Int→Option β):Nat→List Int→Int→ByteArray→Option β
 | 0,acc,_,_=>f acc
 | m+1,acc,last,r=>(rdI r).bind fun p=>EL f m (acc++[w64 (last+p.1)]) (w64 (last+p.1)) p.2
abbrev Ev:=Op5×An
def E8 (o:Op5) (code val:Int) (r:ByteArray):Option Ev:=(rdN r).bind fun p=>if p.1>8 then none else EL (fun fr=>some (o,⟨code,val,fr⟩)) p.1.toNat [] o.a p.2
def E7 (o:Op5) (code:Int) (r:ByteArray):Option Ev:=(rdI r).bind fun p=>E8 o code (w64 (o.a+p.1)) p.2
def E6 (o:Op5) (r:ByteArray):Option Ev:=(rdN r).bind fun p=>E7 o p.1 p.2
def E5 (l:List ByteArray) (kind a b c k:Int) (r:ByteArray):Option Ev:=if k=0 then (rdT r).bind fun p=>E6 ⟨kind,a,b,c,p.1⟩ p.2 else if k≤l.length then E6 ⟨kind,a,b,c,gS l (k-1).toNat⟩ r else none
def E4 (l:List ByteArray) (kind a b c:Int) (r:ByteArray):Option Ev:=(rdN r).bind fun p=>E5 l kind a b c p.1 p.2
def E3 (l:List ByteArray) (kind a b:Int) (r:ByteArray):Option Ev:=(rdI r).bind fun p=>E4 l kind a b (w64 (a+p.1)) p.2
def E2 (l:List ByteArray) (kind a:Int) (r:ByteArray):Option Ev:=(rdI r).bind fun p=>E3 l kind a p.1 p.2
def E1 (last:Int) (l:List ByteArray) (kind:Int) (r:ByteArray):Option Ev:=(rdI r).bind fun p=>E2 l kind (w64 (last+p.1)) p.2
def E0 (last:Int) (l:List ByteArray) (s:ByteArray):Option Ev:=(rdI s).bind fun p=>E1 last l p.1 p.2
def xY (last:Int) (l:List ByteArray) (s:ByteArray) (e:Ev):Prop:=(JQ last l e.1 e.2).1≠⟨#[]⟩∧(JQ last l e.1 e.2).1=s
instance (last:Int) (l:List ByteArray) (s:ByteArray) (e:Ev):Decidable (xY last l s e):=inferInstanceAs (Decidable (_∧_))
structure RE where
 o:Op5
 a:An
 last:Int
 sites:List ByteArray
 ok:Bool
def K9 (last:Int) (l:List ByteArray) (s:ByteArray):RE:=match E0 last l s with
 | none=>⟨⟨0,0,0,0,⟨#[]⟩⟩,⟨0,0,[]⟩,last,l,false⟩
 | some e=>if xY last l s e then ⟨e.1,e.2,(JQ last l e.1 e.2).2.1,(JQ last l e.1 e.2).2.2,true⟩ else ⟨⟨0,0,0,0,⟨#[]⟩⟩,⟨0,0,[]⟩,last,l,false⟩
structure mO (X:Option Ev) (b:Bool) (Y:Option Ev):Prop where
 go:b=false→X=Y
 no:b=true→X=none
theorem mO.start {X Y:Option Ev} (h:X=Y):mO X false Y:=⟨fun _=>h,fun h=>by cases h⟩
theorem mO.off {X:Option Ev} {b:Bool} (h:mO X b none):X=none:=by
 cases b with
 | true=>exact h.no rfl
 | false=>exact h.go rfl
theorem dJ {n:Int} {l:List ByteArray} {o:Op5} {a:An} (h:8<a.freed.length):(JQ n l o a).1=⟨#[]⟩:=by
 unfold JQ fN
 rw [if_neg]
 intro hok
 have:=(aJ hok).2.2.2.2.2.2.2.1
 omega
structure LpI (X:Option Ev) (o:Op5) (code val n:Int) (q:Nat×Int×List Int×ByteArray×Bool) (s0:ByteArray):Prop where
 inv:n≤8→mO X q.2.2.2.2 (EL (fun fr=>some (o,⟨code,val,fr⟩)) (n.toNat-q.1) q.2.2.1 q.2.1 q.2.2.2.1)
 big:n>8→X=none
 le:q.1≤n
 len:q.2.2.1.length=q.1
 sz:q.2.2.2.2=false→q.2.2.2.1.size+q.1≤s0.size
 sz2:q.2.2.2.1.size≤s0.size
 sz3:q.1≤s0.size+1
attribute [irreducible] rdI rdN rdT
end Go.Proofs.Ytklmcfpgdfibnaa.P
namespace Go.Proofs.Ytklmcfpgdfibnaa.P
open Go Go.Proofs.Ytklmcfpgdfibnaa Go.Proofs.Ytklmcfpgdfibnaa.Eng
set_option maxHeartbeats 4000000
set_option linter.unusedVariables false
set_option linter.unusedSimpArgs false
attribute [local irreducible] prP gP gE gF AW ixW ldc ldg ldl stc stg scW mkW apW AZ cl2 BJ CH B2
variable {w0:World}
def pH:Nat→ByteArray→Option (List Int×ByteArray)
 | 0,r=>some ([],r)
 | m+1,r=>(rdI r).bind fun p=>(pH m p.2).bind fun q=>some (p.1::q.1,q.2)
structure L10 (s:ByteArray) (a0 n:Nat) (q:Nat×List Int×Nat):Prop where
 le:q.1≤n
 len:q.2.1.length=q.1
 at_:a0≤q.2.2
 sz:q.2.2≤s.size
 go:pH n (dr s a0)=(pH (n-q.1) (dr s q.2.2)).map fun p=>(q.2.1++p.1,p.2)
def vV (l:List ByteArray) (r:ByteArray):Option (ByteArray×ByteArray):=(rdN r).bind fun p=>if p.1=0 then rdT p.2 else if p.1≤l.length then some (gS l (p.1-1).toNat,p.2) else none
attribute [irreducible] pH vV
end Go.Proofs.Ytklmcfpgdfibnaa.P
