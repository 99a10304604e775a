/- A part of the proof. -/
import Derived.Test.YtklmcfpgdfibnaaPtTxtH
import Derived.Test.YtklmcfpgdfibnaaPtHpA
namespace Go.Proofs.Ytklmcfpgdfibnaa.P
open Go Go.Proofs.Ytklmcfpgdfibnaa Go.Proofs.Ytklmcfpgdfibnaa.Eng
set_option linter.unusedVariables false
set_option maxHeartbeats 4000000
set_option linter.unusedVariables false
set_option linter.unusedSimpArgs false
attribute [local irreducible] prP gP gE gF AW ixW ldc ldg ldl stc stg scW mkW apW BK cl2 BW EI CM
variable {w0:World}
abbrev U (n:Int):Value:= .int .u32 n
theorem US {k:IntKind} {n:Int} {K:Value→Prop} (hf:F64 n) (h:K (I n)):prP (cvI .i64 (.int k n)) K:=
 CJ (v:= .int .i64 (IntKind.i64.wrap n)) rfl (by rw [NV hf];exact h)
def by_ (s:ByteArray) (i:Nat):Nat:=(s.data.getD i 0).toNat
theorem uJ (s:ByteArray) (i:Nat):by_ s i<256:=UInt8.toNat_lt _
def vP (c:Nat):Nat:=if c % 2=1 then (c/2)^^^2197175160 else c/2
def vB:Nat→Nat→Nat
 | 0,c=>c
 | k+1,c=>vP (vB k c)
def uD (s:ByteArray):Nat→Nat
 | 0=>4294967295
 | i+1=>vB 8 (uD s i^^^by_ s i)
def crc (s:ByteArray):Nat:=4294967295-uD s s.size
def fxL (n:Nat):List Nat:=[n/16777216 % 256,n/65536 % 256,n/256 % 256,n % 256]
def FX (n:Nat):ByteArray:=MN (fxL n)
def frm (n:Int) (p:ByteArray):ByteArray:=if (0≤n∧n≤400)∧p.size≤200 then ((V n++V p.size)++p)++FX (crc ((V n++V p.size)++p)) else ⟨#[]⟩
def uM:ByteArray:=⟨#[72,76,79,71,1]⟩
attribute [irreducible] frm crc FX
def vR (p:ByteArray):Prop:=1≤(p.size:Int)∧(p.size:Int)≤200
instance (p:ByteArray):Decidable (vR p):=inferInstanceAs (Decidable (_∧_))
end Go.Proofs.Ytklmcfpgdfibnaa.P
namespace Go.Proofs.Ytklmcfpgdfibnaa.P
open Go Go.Proofs.Ytklmcfpgdfibnaa Go.Proofs.Ytklmcfpgdfibnaa.Eng
set_option maxHeartbeats 4000000
set_option linter.unusedVariables false
set_option linter.unusedSimpArgs false
attribute [local irreducible] prP gP gE gF AW ixW ldc ldg ldl stc stg scW mkW apW BK cl2 BW EI CM
variable {w0:World}
def KF (n:Int) (l:List ByteArray) (o:Op5) (a:An):ByteArray×Int×List ByteArray:=hH n l o.kind o.a o.b o.c o.site a.code a.val a.freed
theorem VZ (n:Int) (l:List ByteArray) (o:Op5) (a:An):(KF n l o a).1.size≤127∧(KF n l o a).2.2.length≤l.length+1:=by
 unfold KF hH
 split
 ·rename_i h
  obtain ⟨_,hb,_,_,_,_,hx,hl,_⟩:=bH h
  have h1:=jJ n l o.kind o.a o.b o.c o.site a.code a.val a.freed.length
  have h2:=(lB (p:=(base n l o.kind o.a o.b o.c o.site a.code a.val a.freed.length,o.a)) hb hx a.freed.length (Nat.le_refl _)).2
  refine ⟨by simp only at h2 ⊢;omega, ?_⟩
  simp only [uK]
  split
  ·omega
  ·simp
 ·exact ⟨Nat.zero_le _,Nat.le_succ _⟩
def enc (ops:List Op5) (ans:List An):Nat→Option (List ByteArray×Int×List ByteArray)
 | 0=>some ([],0,[])
 | i+1=>match enc ops ans i with
   | none=>none
   | some p=>if (KF p.2.1 p.2.2 (po ops i) (an ans i)).1=⟨#[]⟩ then none else some (p.1++[(KF p.2.1 p.2.2 (po ops i) (an ans i)).1],(KF p.2.1 p.2.2 (po ops i) (an ans i)).2)
structure sR (ops:List Op5) (ans:List An) (q:Nat×List ByteArray×Int×List ByteArray):Prop where
 eq:enc ops ans q.1=some q.2
 le:q.1≤ops.length
 al:q.2.1.length=q.1
 sl:q.2.2.2.length≤q.1
 sz: ∀i,(gS q.2.1 i).size≤127
theorem oI {l:List ByteArray} {s:ByteArray} {b:Nat} (h: ∀i,(gS l i).size≤b) (hs:s.size≤b) (i:Nat):(gS (l++[s]) i).size≤b:=by
 unfold gS at h ⊢
 rcases Nat.lt_trichotomy i l.length with h1 | h1 | h1
 ·have:=h i
  rw [List.getD_eq_getElem?_getD] at this ⊢
  rw [List.getElem?_append_left h1];exact this
 ·subst h1
  rw [List.getD_eq_getElem?_getD,List.getElem?_append_right (Nat.le_refl _)]
  simpa using hs
 ·rw [List.getD_eq_getElem?_getD,List.getElem?_eq_none (by simp;omega)];exact Nat.zero_le _
theorem sR.next {ops:List Op5} {ans:List An} {q:Nat×List ByteArray×Int×List ByteArray} (h:sR ops ans q) (hlt:q.1<ops.length) (hne:(KF q.2.2.1 q.2.2.2 (po ops q.1) (an ans q.1)).1≠⟨#[]⟩):
  sR ops ans (q.1+1,q.2.1++[(KF q.2.2.1 q.2.2.2 (po ops q.1) (an ans q.1)).1],(KF q.2.2.1 q.2.2.2 (po ops q.1) (an ans q.1)).2):=by
 obtain ⟨h1,h2,h3,h4,h5⟩:=h
 have hz:=VZ q.2.2.1 q.2.2.2 (po ops q.1) (an ans q.1)
 refine ⟨by rw [enc,h1];exact if_neg hne,hlt,by simp [h3], ?_,oI h5 hz.1⟩
 have:=hz.2
 simp only at this ⊢;omega
attribute [irreducible] KF
end Go.Proofs.Ytklmcfpgdfibnaa.P
namespace Go.Proofs.Ytklmcfpgdfibnaa.P
open Go Go.Proofs.Ytklmcfpgdfibnaa Go.Proofs.Ytklmcfpgdfibnaa.Eng
set_option maxHeartbeats 4000000
set_option linter.unusedVariables false
set_option linter.unusedSimpArgs false
attribute [local irreducible] prP gP gE gF AW ixW ldc ldg ldl stc stg scW mkW apW BK cl2 BW EI CM
variable {w0:World}
def dr (s:ByteArray) (a:Nat):ByteArray:=s.extract a s.size
theorem ZG (s:ByteArray) (a:Nat):(dr s a).size=s.size-a:=by simp [dr]
def bys (s:ByteArray) (k:Nat):List Nat:=(List.range k).map (by_ s)
def Q6:List Nat→Nat
 | []=>0
 | x::r=>x % 128+128*Q6 r
def P8:Bool→List Nat→Bool
 | _,[]=>false
 | f,[x]=>decide (x<128)&&(f||decide (x≠0))
 | _,x::y::r=>decide (x≥128)&&P8 false (y::r)
theorem cI: ∀{L:List Nat},P8 false L=true→1≤Q6 L
 | [],h=>by simp [P8] at h
 | [x],h=>by simp [P8] at h;simp only [Q6];omega
 | x::y::r,h=>by
   simp only [P8,Bool.and_eq_true] at h
   have:=cI h.2
   simp only [Q6] at this ⊢;omega
theorem lN: ∀{L:List Nat} {f:Bool} {k:Nat},(∀x∈L,x<256)→P8 f L=true→L.length≤k+1→vd k (Q6 L)=L
 | [],f,k,_,h,_=>by simp [P8] at h
 | [x],f,k,_,h,_=>by
   simp only [P8,Bool.and_eq_true,decide_eq_true_eq] at h
   have h1:x % 128+128*0=x:=by omega
   simp only [Q6,h1]
   cases k with
   | zero=>rfl
   | succ k=>rw [vd,if_neg (by omega)]
 | x::y::r,f,0,_,h,hl=>by simp at hl
 | x::y::r,f,k+1,hb,h,hl=>by
   simp only [P8,Bool.and_eq_true,decide_eq_true_eq] at h
   have h1:=cI h.2
   have hx:=hb x (by simp)
   have h2:Q6 (x::y::r)=x % 128+128*Q6 (y::r):=rfl
   have h3:Q6 (x::y::r)/128=Q6 (y::r):=by omega
   have h4:128+Q6 (x::y::r) % 128=x:=by omega
   rw [vd,if_pos (by omega),h3,h4,lN (L:=y::r) (fun z hz=>hb z (by simp [hz])) h.2 (by simpa using hl)]
theorem tX: ∀k n,vd k n≠[]
 | 0,n=>by simp [vd]
 | k+1,n=>by unfold vd;split <;> simp
theorem mI: ∀{k n:Nat},n<128^(k+1)→P8 true (vd k n)=true∧(1≤n→P8 false (vd k n)=true)
 | 0,n,h=>by simp at h;simp [vd,P8,h];omega
 | k+1,n,h=>by
   unfold vd
   split
   ·rename_i hge
    have hd:n/128<128^(k+1):=by rw [Nat.pow_succ] at h;omega
    have h2:=(mI hd).2 (by omega)
    cases hv:vd k (n/128) with
    | nil=>exact absurd hv (tX _ _)
    | cons y r=>
      rw [hv] at h2
      have:P8 false (y::r)=true:=h2
      simp [P8,this]
   ·simp [P8];omega
theorem gG: ∀L:List Nat,Q6 L<128^L.length
 | []=>by simp [Q6]
 | x::r=>by have:=gG r;simp only [Q6,List.length_cons,Nat.pow_succ];omega
theorem gJ (s:ByteArray) (k:Nat):(bys s k).length=k:=by simp [bys]
theorem nP (s:ByteArray) (k:Nat): ∀x∈bys s k,x<256:=by
 intro x hx
 obtain ⟨i,_,rfl⟩:=List.mem_map.1 hx
 exact uJ s i
def aP (s:ByteArray) (k:Nat):Nat:=Q6 (bys s k)
theorem gO (s:ByteArray) {k:Nat} (hk:k≤7):aP s k<2^49:=by
 have h:=gG (bys s k)
 rw [gJ] at h
 have:128^k≤128^7:=Nat.pow_le_pow_right (by omega) hk
 have:(128:Nat)^7=2^49:=by decide
 unfold aP;omega
def cU (s:ByteArray) (k:Nat):Bool:=P8 true (bys s k)
theorem OQ (l:List Nat):(MN l).data.toList=l.map UInt8.ofNat:=by
 have: ∀(l:List Nat) (b:ByteArray),(l.foldl (fun b n=>b.push (UInt8.ofNat n)) b).data.toList=b.data.toList++l.map UInt8.ofNat:=by
  intro l
  induction l with
  | nil=>intro b;simp
  | cons a l ih=>intro b;rw [List.foldl_cons,ih];simp
 rw [MN,this];rfl
theorem a8 {s:ByteArray} {k:Nat} (hk:k≤s.size):s.extract 0 k=MN (bys s k):=by
 apply ByteArray.ext
 apply Array.ext'
 rw [OQ,ByteArray.data_extract,Array.toList_extract]
 apply List.ext_getElem
 ·simp [bys];have:s.size=s.data.size:=rfl;omega
 ·intro i h1 h2
  have hi:i<k:=by simpa [bys] using h2
  have his:i<s.data.size:=by have:s.size=s.data.size:=rfl;omega
  simp [bys,by_,Array.getD,his]
  intro hcon;have:s.size=s.data.size:=rfl;omega
theorem eS {a b:List Nat} (ha: ∀x∈a,x<256) (hb: ∀x∈b,x<256) (h:MN a=MN b):a=b:=by
 have h1:a.map UInt8.ofNat=b.map UInt8.ofNat:=by rw [←OQ, ←OQ,h]
 have h2:=congrArg (List.map UInt8.toNat) h1
 simp only [List.map_map] at h2
 have: ∀l:List Nat,(∀x∈l,x<256)→l.map (UInt8.toNat ∘ UInt8.ofNat)=l:=by
  intro l hl
  induction l with
  | nil=>rfl
  | cons x l ih=>
    have hx:=hl x (by simp)
    rw [List.map_cons,ih fun y hy=>hl y (by simp [hy])]
    simp [Nat.mod_eq_of_lt hx]
 rwa [this a ha,this b hb] at h2
theorem rB: ∀(k n:Nat),n<128^(k+1)→ ∀x∈vd k n,x<256
 | 0,n,h=>by simp at h;simp [vd];omega
 | k+1,n,h=>by
   unfold vd
   split
   ·intro x hx
    rcases List.mem_cons.1 hx with rfl | hx
    ·omega
    ·exact rB k (n/128) (by rw [Nat.pow_succ] at h;omega) x hx
   ·simp;omega
theorem tG {n:Nat} (h:n<2^49):V n=MN (vd 6 n):=by
 rw [V,if_pos (by rw [iH];omega),Int.toNat_natCast]
theorem jQ {s:ByteArray} {k:Nat} (hk:k≤7) (hs:k≤s.size):V (aP s k)=s.extract 0 k↔cU s k=true:=by
 have hlt:=gO s hk
 have h49:(128:Nat)^(6+1)=2^49:=by decide
 rw [tG hlt,a8 hs]
 constructor
 ·intro h
  have:=eS (rB 6 _ (by rw [h49];exact hlt)) (nP s k) h
  rw [cU, ←this]
  exact (mI (by rw [h49];exact hlt)).1
 ·intro h
  rw [aP,lN (nP s k) h (by rw [gJ];omega)]
def rvF (s:ByteArray):Nat→Nat→Int×Int
 | 0,_=>(0,0)
 | f+1,j=>if j≤s.size∧cU s j=true then ((aP s j:Int),(j:Int)) else rvF s f (j+1)
def rv (s:ByteArray):Int×Int:=rvF s 7 1
theorem tU (s:ByteArray):rv s=(0,0)∨ ∃j:Nat,1≤j∧j≤7∧j≤s.size∧cU s j=true∧rv s=((aP s j:Int),(j:Int)):=by
 have: ∀f i,1≤i→i+f≤8→rvF s f i=(0,0)∨ ∃j:Nat,1≤j∧j≤7∧j≤s.size∧cU s j=true∧rvF s f i=((aP s j:Int),(j:Int)):=by
  intro f
  induction f with
  | zero=>intro i _ _;exact .inl rfl
  | succ f ih=>
    intro i h1 h2
    by_cases hc:i≤s.size∧cU s i=true
    ·exact .inr ⟨i,h1,by omega,hc.1,hc.2,by rw [rvF,if_pos hc]⟩
    ·rw [rvF,if_neg hc];exact ih (i+1) (by omega) (by omega)
 exact this 7 1 (by omega) (by omega)
attribute [irreducible] rv rvF cU aP bys dr
end Go.Proofs.Ytklmcfpgdfibnaa.P
namespace Go.Proofs.Ytklmcfpgdfibnaa.P
open Go Go.Proofs.Ytklmcfpgdfibnaa Go.Proofs.Ytklmcfpgdfibnaa.Eng
set_option maxHeartbeats 4000000
set_option linter.unusedVariables false
set_option linter.unusedSimpArgs false
attribute [local irreducible] prP gP gE gF AW ixW ldc ldg ldl stc stg scW mkW apW BK cl2 BW EI CM
variable {w0:World}
theorem oJ (s:ByteArray):((rv s).2=0∧(rv s).1=0)∨ ∃j:Nat,1≤j∧j≤7∧j≤s.size∧(rv s).2=j∧0≤(rv s).1∧(rv s).1<2^49∧V (rv s).1=s.extract 0 j:=by
 rcases tU s with h | ⟨j,h1,h2,h3,h4,h5⟩
 ·exact .inl (by rw [h];exact ⟨rfl,rfl⟩)
 ·have:=gO s h2
  exact .inr ⟨j,h1,h2,h3,by rw [h5],by rw [h5];omega,by rw [h5];simp only;omega,by rw [h5];exact (jQ h2 h3).2 h4⟩
theorem nV (s:ByteArray):0≤(rv s).1∧(rv s).1<2^49∧0≤(rv s).2∧(rv s).2≤7∧(rv s).2≤s.size:=by
 rcases oJ s with ⟨h1,h2⟩ | ⟨j,h1,h2,h3,h4,h5,h6,_⟩ <;> omega
def zag (n:Int):Int:=if n % 2=0 then n/2 else 0-n/2-1
def ri (s:ByteArray):Int×Int:=if (rv s).2=0∨(rv s).1>200000000000000 then (0,0) else (zag (rv s).1,(rv s).2)
attribute [irreducible] ri zag
def rt (s:ByteArray):ByteArray×Int:=if (rv s).2=0∨(rv s).1>8∨(rv s).1>s.size-(rv s).2 then (⟨#[]⟩,0) else (s.extract (rv s).2.toNat ((rv s).2+(rv s).1).toNat,(rv s).2+(rv s).1)
attribute [irreducible] rt
structure Frm where
 seq:Int
 pay:ByteArray
 n:Int
def rv2 (s:ByteArray):Int×Int:=rv (dr s (rv s).2.toNat)
theorem rI (s:ByteArray):0≤(rv2 s).1∧(rv2 s).1<2^49∧0≤(rv2 s).2∧(rv2 s).2≤7∧(rv2 s).2+(rv s).2≤s.size:=by
 have h:=nV s
 have h2:=nV (dr s (rv s).2.toNat)
 rw [ZG] at h2
 unfold rv2;omega
def qH (s:ByteArray):ByteArray:=s.extract ((rv s).2+(rv2 s).2).toNat ((rv s).2+(rv2 s).2+(rv2 s).1).toNat
def dQ (s:ByteArray):Prop:=(rv s).2=0∨(rv2 s).2=0∨(rv2 s).1>200∨(rv2 s).1>s.size-(rv s).2-(rv2 s).2-4
instance (s:ByteArray):Decidable (dQ s):=inferInstanceAs (Decidable (_∨_))
def rf (s:ByteArray):Frm:=if dQ s∨frm (rv s).1 (qH s)≠s.extract 0 ((rv s).2+(rv2 s).2+(rv2 s).1+4).toNat then ⟨0,⟨#[]⟩,0⟩ else ⟨(rv s).1,qH s,(rv s).2+(rv2 s).2+(rv2 s).1+4⟩
theorem tH (s:ByteArray):0≤(rf s).n∧(rf s).n≤s.size∧((rf s).n≠0→6≤(rf s).n)∧(rf s).pay.size≤200∧F64 (rf s).seq:=by
 have h:=nV s
 have h2:=rI s
 unfold rf;split
 ·exact ⟨by simp only;omega,by simp only;omega,fun hh=>absurd rfl hh,Nat.zero_le _,by simp only;exact ⟨by omega,by omega⟩⟩
 ·rename_i hn
  simp only [not_or,dQ] at hn
  refine ⟨by simp only;omega,by simp only;omega,fun _=>by simp only;omega, ?_,by simp only;exact ⟨by omega,by omega⟩⟩
  simp only [qH,ByteArray.size_extract];omega
attribute [irreducible] rf rv2 qH
end Go.Proofs.Ytklmcfpgdfibnaa.P
namespace Go.Proofs.Ytklmcfpgdfibnaa.P
open Go Go.Proofs.Ytklmcfpgdfibnaa Go.Proofs.Ytklmcfpgdfibnaa.Eng
set_option maxHeartbeats 4000000
set_option linter.unusedVariables false
set_option linter.unusedSimpArgs false
attribute [local irreducible] prP gP gE gF AW ixW ldc ldg ldl stc stg scW mkW apW BK cl2 BW EI CM
variable {w0:World}
def rlF:Nat→ByteArray→List ByteArray→List ByteArray×Int
 | 0,_,_=>([],4)
 | f+1,s,out=>if s.size=0 then ([],4) else if (rf s).n=0 then ([],2) else if (rf s).seq≠out.length then ([],3) else
    if (rf s).pay=⟨#[]⟩ then (if (rf s).n<s.size then ([],5) else (out,0)) else rlF f (dr s (rf s).n.toNat) (out++[(rf s).pay])
def rl (s:ByteArray):List ByteArray×Int:=if s.size<5∨s.extract 0 5≠uM then ([],1) else rlF (s.size+1) (dr s 5) []
structure RlI (s0 s:ByteArray) (out:List ByteArray):Prop where
 sz:s.size+out.length≤s0.size
 go: ∃f,s.size<f∧rlF f s out=rl s0
theorem RlI.next {s0 s:ByteArray} {out:List ByteArray} (h:RlI s0 s out) (h0:s.size≠0) (h1:(rf s).n≠0) (h2:(rf s).seq=out.length) (h3:(rf s).pay≠⟨#[]⟩):RlI s0 (dr s (rf s).n.toNat) (out++[(rf s).pay]):=by
 obtain ⟨g1,f,g2,g3⟩:=h
 have hb:=tH s
 have:=hb.2.2.1 h1
 obtain ⟨f,rfl⟩: ∃f',f=f'+1:=⟨f-1,by omega⟩
 rw [rlF,if_neg h0,if_neg h1,if_neg (by simpa using h2),if_neg h3] at g3
 exact ⟨by rw [ZG,List.length_append,List.length_singleton];omega,f,by rw [ZG];omega,g3⟩
theorem RlI.at_ {s0 s:ByteArray} {out:List ByteArray} (h:RlI s0 s out): ∃f,rlF (f+1) s out=rl s0:=by
 obtain ⟨_,f,g2,g3⟩:=h
 obtain ⟨f,rfl⟩: ∃f',f=f'+1:=⟨f-1,by omega⟩
 exact ⟨f,g3⟩
attribute [irreducible] rl
end Go.Proofs.Ytklmcfpgdfibnaa.P
