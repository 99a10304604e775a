/- A part of the proof. -/
import Derived.Test.YtklmcfpgdfibnaaNwTxtH
import Derived.Test.YtklmcfpgdfibnaaNwHpA
namespace Go.Proofs.Ytklmcfpgdfibnaa.P
open Go Go.Proofs.Ytklmcfpgdfibnaa Go.Proofs.Ytklmcfpgdfibnaa.Eng
set_option linter.unusedVariables false
set_option maxHeartbeats 4000000
set_option linter.unusedVariables false
set_option linter.unusedSimpArgs false
attribute [local irreducible] prP gP gE gF AV ixW ldc ldg ldl stc stg scW mkW apW BL cl2 BS EC CX
variable {w0:World}
abbrev U (n:Int):Value:= .int .u32 n
theorem aT {k:IntKind} {n:Int} {K:Value→Prop} (hf:F64 n) (h:K (I n)):prP (cvI .i64 (.int k n)) K:=
 CL (v:= .int .i64 (IntKind.i64.wrap n)) rfl (by rw [NQ hf];exact h)
def by_ (s:ByteArray) (i:Nat):Nat:=(s.data.getD i 0).toNat
theorem s6 (s:ByteArray) (i:Nat):by_ s i<256:=UInt8.toNat_lt _
def vB (c:Nat):Nat:=if c % 2=1 then (c/2)^^^2197175160 else c/2
def tF:Nat→Nat→Nat
 | 0,c=>c
 | k+1,c=>vB (tF k c)
def sH (s:ByteArray):Nat→Nat
 | 0=>4294967295
 | i+1=>tF 8 (sH s i^^^by_ s i)
def crc (s:ByteArray):Nat:=4294967295-sH s s.size
def fxL (n:Nat):List Nat:=[n/16777216 % 256,n/65536 % 256,n/256 % 256,n % 256]
def FX (n:Nat):ByteArray:=MH (fxL n)
def frm (n:Int) (p:ByteArray):ByteArray:=if (0≤n∧n≤400)∧p.size≤200 then ((V n++V p.size)++p)++FX (crc ((V n++V p.size)++p)) else ⟨#[]⟩
def sN:ByteArray:=⟨#[72,76,79,71,1]⟩
attribute [irreducible] frm crc FX
def uZ (p:ByteArray):Prop:=1≤(p.size:Int)∧(p.size:Int)≤200
instance (p:ByteArray):Decidable (uZ p):=inferInstanceAs (Decidable (_∧_))
end Go.Proofs.Ytklmcfpgdfibnaa.P
namespace Go.Proofs.Ytklmcfpgdfibnaa.P
open Go Go.Proofs.Ytklmcfpgdfibnaa Go.Proofs.Ytklmcfpgdfibnaa.Eng
set_option maxHeartbeats 4000000
set_option linter.unusedVariables false
set_option linter.unusedSimpArgs false
attribute [local irreducible] prP gP gE gF AV ixW ldc ldg ldl stc stg scW mkW apW BL cl2 BS EC CX
variable {w0:World}
def J9 (n:Int) (l:List ByteArray) (o:Op5) (a:An):ByteArray×Int×List ByteArray:=eV n l o.kind o.a o.b o.c o.site a.code a.val a.freed
theorem UE (n:Int) (l:List ByteArray) (o:Op5) (a:An):(J9 n l o a).1.size≤127∧(J9 n l o a).2.2.length≤l.length+1:=by
 unfold J9 eV
 split
 ·rename_i h
  obtain ⟨_,hb,_,_,_,_,hx,hl,_⟩:=Z4 h
  have h1:=iK n l o.kind o.a o.b o.c o.site a.code a.val a.freed.length
  have h2:=(lA (p:=(base n l o.kind o.a o.b o.c o.site a.code a.val a.freed.length,o.a)) hb hx a.freed.length (Nat.le_refl _)).2
  refine ⟨by simp only at h2 ⊢;omega, ?_⟩
  simp only [sZ]
  split
  ·omega
  ·simp
 ·exact ⟨Nat.zero_le _,Nat.le_succ _⟩
def enc (ops:List Op5) (ans:List An):Nat→Option (List ByteArray×Int×List ByteArray)
 | 0=>some ([],0,[])
 | i+1=>match enc ops ans i with
   | none=>none
   | some p=>if (J9 p.2.1 p.2.2 (po ops i) (an ans i)).1=⟨#[]⟩ then none else some (p.1++[(J9 p.2.1 p.2.2 (po ops i) (an ans i)).1],(J9 p.2.1 p.2.2 (po ops i) (an ans i)).2)
structure qE (ops:List Op5) (ans:List An) (q:Nat×List ByteArray×Int×List ByteArray):Prop where
 eq:enc ops ans q.1=some q.2
 le:q.1≤ops.length
 al:q.2.1.length=q.1
 sl:q.2.2.2.length≤q.1
 sz: ∀i,(gS q.2.1 i).size≤127
theorem oO {l:List ByteArray} {s:ByteArray} {b:Nat} (h: ∀i,(gS l i).size≤b) (hs:s.size≤b) (i:Nat):(gS (l++[s]) i).size≤b:=by
 unfold gS at h ⊢
 rcases Nat.lt_trichotomy i l.length with h1 | h1 | h1
 ·have:=h i
  rw [List.getD_eq_getElem?_getD] at this ⊢
  rw [List.getElem?_append_left h1];exact this
 ·subst h1
  rw [List.getD_eq_getElem?_getD,List.getElem?_append_right (Nat.le_refl _)]
  simpa using hs
 ·rw [List.getD_eq_getElem?_getD,List.getElem?_eq_none (by simp;omega)];exact Nat.zero_le _
theorem qE.next {ops:List Op5} {ans:List An} {q:Nat×List ByteArray×Int×List ByteArray} (h:qE ops ans q) (hlt:q.1<ops.length) (hne:(J9 q.2.2.1 q.2.2.2 (po ops q.1) (an ans q.1)).1≠⟨#[]⟩):
  qE ops ans (q.1+1,q.2.1++[(J9 q.2.2.1 q.2.2.2 (po ops q.1) (an ans q.1)).1],(J9 q.2.2.1 q.2.2.2 (po ops q.1) (an ans q.1)).2):=by
 obtain ⟨h1,h2,h3,h4,h5⟩:=h
 have hz:=UE q.2.2.1 q.2.2.2 (po ops q.1) (an ans q.1)
 refine ⟨by rw [enc,h1];exact if_neg hne,hlt,by simp [h3], ?_,oO h5 hz.1⟩
 have:=hz.2
 simp only at this ⊢;omega
attribute [irreducible] J9
end Go.Proofs.Ytklmcfpgdfibnaa.P
namespace Go.Proofs.Ytklmcfpgdfibnaa.P
open Go Go.Proofs.Ytklmcfpgdfibnaa Go.Proofs.Ytklmcfpgdfibnaa.Eng
set_option maxHeartbeats 4000000
set_option linter.unusedVariables false
set_option linter.unusedSimpArgs false
attribute [local irreducible] prP gP gE gF AV ixW ldc ldg ldl stc stg scW mkW apW BL cl2 BS EC CX
variable {w0:World}
def dr (s:ByteArray) (a:Nat):ByteArray:=s.extract a s.size
theorem YB (s:ByteArray) (a:Nat):(dr s a).size=s.size-a:=by simp [dr]
def bys (s:ByteArray) (k:Nat):List Nat:=(List.range k).map (by_ s)
def QP:List Nat→Nat
 | []=>0
 | x::r=>x % 128+128*QP r
def PU:Bool→List Nat→Bool
 | _,[]=>false
 | f,[x]=>decide (x<128)&&(f||decide (x≠0))
 | _,x::y::r=>decide (x≥128)&&PU false (y::r)
theorem bN: ∀{L:List Nat},PU false L=true→1≤QP L
 | [],h=>by simp [PU] at h
 | [x],h=>by simp [PU] at h;simp only [QP];omega
 | x::y::r,h=>by
   simp only [PU,Bool.and_eq_true] at h
   have:=bN h.2
   simp only [QP] at this ⊢;omega
theorem mP: ∀{L:List Nat} {f:Bool} {k:Nat},(∀x∈L,x<256)→PU f L=true→L.length≤k+1→vd k (QP L)=L
 | [],f,k,_,h,_=>by simp [PU] at h
 | [x],f,k,_,h,_=>by
   simp only [PU,Bool.and_eq_true,decide_eq_true_eq] at h
   have h1:x % 128+128*0=x:=by omega
   simp only [QP,h1]
   cases k with
   | zero=>rfl
   | succ k=>rw [vd,if_neg (by omega)]
 | x::y::r,f,0,_,h,hl=>by simp at hl
 | x::y::r,f,k+1,hb,h,hl=>by
   simp only [PU,Bool.and_eq_true,decide_eq_true_eq] at h
   have h1:=bN h.2
   have hx:=hb x (by simp)
   have h2:QP (x::y::r)=x % 128+128*QP (y::r):=rfl
   have h3:QP (x::y::r)/128=QP (y::r):=by omega
   have h4:128+QP (x::y::r) % 128=x:=by omega
   rw [vd,if_pos (by omega),h3,h4,mP (L:=y::r) (fun z hz=>hb z (by simp [hz])) h.2 (by simpa using hl)]
theorem sU: ∀k n,vd k n≠[]
 | 0,n=>by simp [vd]
 | k+1,n=>by unfold vd;split <;> simp
theorem mT: ∀{k n:Nat},n<128^(k+1)→PU true (vd k n)=true∧(1≤n→PU false (vd k n)=true)
 | 0,n,h=>by simp at h;simp [vd,PU,h];omega
 | k+1,n,h=>by
   unfold vd
   split
   ·rename_i hge
    have hd:n/128<128^(k+1):=by rw [Nat.pow_succ] at h;omega
    have h2:=(mT hd).2 (by omega)
    cases hv:vd k (n/128) with
    | nil=>exact absurd hv (sU _ _)
    | cons y r=>
      rw [hv] at h2
      have:PU false (y::r)=true:=h2
      simp [PU,this]
   ·simp [PU];omega
theorem gB: ∀L:List Nat,QP L<128^L.length
 | []=>by simp [QP]
 | x::r=>by have:=gB r;simp only [QP,List.length_cons,Nat.pow_succ];omega
theorem eL (s:ByteArray) (k:Nat):(bys s k).length=k:=by simp [bys]
theorem jS (s:ByteArray) (k:Nat): ∀x∈bys s k,x<256:=by
 intro x hx
 obtain ⟨i,_,rfl⟩:=List.mem_map.1 hx
 exact s6 s i
def ZO (s:ByteArray) (k:Nat):Nat:=QP (bys s k)
theorem hH (s:ByteArray) {k:Nat} (hk:k≤7):ZO s k<2^49:=by
 have h:=gB (bys s k)
 rw [eL] at h
 have:128^k≤128^7:=Nat.pow_le_pow_right (by omega) hk
 have:(128:Nat)^7=2^49:=by decide
 unfold ZO;omega
def bX (s:ByteArray) (k:Nat):Bool:=PU true (bys s k)
theorem O6 (l:List Nat):(MH l).data.toList=l.map UInt8.ofNat:=by
 have: ∀(l:List Nat) (b:ByteArray),(l.foldl (fun b n=>b.push (UInt8.ofNat n)) b).data.toList=b.data.toList++l.map UInt8.ofNat:=by
  intro l
  induction l with
  | nil=>intro b;simp
  | cons a l ih=>intro b;rw [List.foldl_cons,ih];simp
 rw [MH,this];rfl
theorem bS {s:ByteArray} {k:Nat} (hk:k≤s.size):s.extract 0 k=MH (bys s k):=by
 apply ByteArray.ext
 apply Array.ext'
 rw [O6,ByteArray.data_extract,Array.toList_extract]
 apply List.ext_getElem
 ·simp [bys];have:s.size=s.data.size:=rfl;omega
 ·intro i h1 h2
  have hi:i<k:=by simpa [bys] using h2
  have his:i<s.data.size:=by have:s.size=s.data.size:=rfl;omega
  simp [bys,by_,Array.getD,his]
  intro hcon;have:s.size=s.data.size:=rfl;omega
theorem cG {a b:List Nat} (ha: ∀x∈a,x<256) (hb: ∀x∈b,x<256) (h:MH a=MH b):a=b:=by
 have h1:a.map UInt8.ofNat=b.map UInt8.ofNat:=by rw [←O6, ←O6,h]
 have h2:=congrArg (List.map UInt8.toNat) h1
 simp only [List.map_map] at h2
 have: ∀l:List Nat,(∀x∈l,x<256)→l.map (UInt8.toNat ∘ UInt8.ofNat)=l:=by
  intro l hl
  induction l with
  | nil=>rfl
  | cons x l ih=>
    have hx:=hl x (by simp)
    rw [List.map_cons,ih fun y hy=>hl y (by simp [hy])]
    simp [Nat.mod_eq_of_lt hx]
 rwa [this a ha,this b hb] at h2
theorem pM: ∀(k n:Nat),n<128^(k+1)→ ∀x∈vd k n,x<256
 | 0,n,h=>by simp at h;simp [vd];omega
 | k+1,n,h=>by
   unfold vd
   split
   ·intro x hx
    rcases List.mem_cons.1 hx with rfl | hx
    ·omega
    ·exact pM k (n/128) (by rw [Nat.pow_succ] at h;omega) x hx
   ·simp;omega
theorem uH {n:Nat} (h:n<2^49):V n=MH (vd 6 n):=by
 rw [V,if_pos (by rw [fH];omega),Int.toNat_natCast]
theorem hZ {s:ByteArray} {k:Nat} (hk:k≤7) (hs:k≤s.size):V (ZO s k)=s.extract 0 k↔bX s k=true:=by
 have hlt:=hH s hk
 have h49:(128:Nat)^(6+1)=2^49:=by decide
 rw [uH hlt,bS hs]
 constructor
 ·intro h
  have:=cG (pM 6 _ (by rw [h49];exact hlt)) (jS s k) h
  rw [bX, ←this]
  exact (mT (by rw [h49];exact hlt)).1
 ·intro h
  rw [ZO,mP (jS s k) h (by rw [eL];omega)]
def rvF (s:ByteArray):Nat→Nat→Int×Int
 | 0,_=>(0,0)
 | f+1,j=>if j≤s.size∧bX s j=true then ((ZO s j:Int),(j:Int)) else rvF s f (j+1)
def rv (s:ByteArray):Int×Int:=rvF s 7 1
theorem uB (s:ByteArray):rv s=(0,0)∨ ∃j:Nat,1≤j∧j≤7∧j≤s.size∧bX s j=true∧rv s=((ZO s j:Int),(j:Int)):=by
 have: ∀f i,1≤i→i+f≤8→rvF s f i=(0,0)∨ ∃j:Nat,1≤j∧j≤7∧j≤s.size∧bX s j=true∧rvF s f i=((ZO s j:Int),(j:Int)):=by
  intro f
  induction f with
  | zero=>intro i _ _;exact .inl rfl
  | succ f ih=>
    intro i h1 h2
    by_cases hc:i≤s.size∧bX s i=true
    ·exact .inr ⟨i,h1,by omega,hc.1,hc.2,by rw [rvF,if_pos hc]⟩
    ·rw [rvF,if_neg hc];exact ih (i+1) (by omega) (by omega)
 exact this 7 1 (by omega) (by omega)
attribute [irreducible] rv rvF bX ZO bys dr
end Go.Proofs.Ytklmcfpgdfibnaa.P
namespace Go.Proofs.Ytklmcfpgdfibnaa.P
open Go Go.Proofs.Ytklmcfpgdfibnaa Go.Proofs.Ytklmcfpgdfibnaa.Eng
set_option maxHeartbeats 4000000
set_option linter.unusedVariables false
set_option linter.unusedSimpArgs false
attribute [local irreducible] prP gP gE gF AV ixW ldc ldg ldl stc stg scW mkW apW BL cl2 BS EC CX
variable {w0:World}
theorem oP (s:ByteArray):((rv s).2=0∧(rv s).1=0)∨ ∃j:Nat,1≤j∧j≤7∧j≤s.size∧(rv s).2=j∧0≤(rv s).1∧(rv s).1<2^49∧V (rv s).1=s.extract 0 j:=by
 rcases uB s with h | ⟨j,h1,h2,h3,h4,h5⟩
 ·exact .inl (by rw [h];exact ⟨rfl,rfl⟩)
 ·have:=hH s h2
  exact .inr ⟨j,h1,h2,h3,by rw [h5],by rw [h5];omega,by rw [h5];simp only;omega,by rw [h5];exact (hZ h2 h3).2 h4⟩
theorem lF (s:ByteArray):0≤(rv s).1∧(rv s).1<2^49∧0≤(rv s).2∧(rv s).2≤7∧(rv s).2≤s.size:=by
 rcases oP s with ⟨h1,h2⟩ | ⟨j,h1,h2,h3,h4,h5,h6,_⟩ <;> omega
def zag (n:Int):Int:=if n % 2=0 then n/2 else 0-n/2-1
def ri (s:ByteArray):Int×Int:=if (rv s).2=0∨(rv s).1>200000000000000 then (0,0) else (zag (rv s).1,(rv s).2)
attribute [irreducible] ri zag
def rt (s:ByteArray):ByteArray×Int:=if (rv s).2=0∨(rv s).1>8∨(rv s).1>s.size-(rv s).2 then (⟨#[]⟩,0) else (s.extract (rv s).2.toNat ((rv s).2+(rv s).1).toNat,(rv s).2+(rv s).1)
attribute [irreducible] rt
structure Frm where
 seq:Int
 pay:ByteArray
 n:Int
def rv2 (s:ByteArray):Int×Int:=rv (dr s (rv s).2.toNat)
theorem rF (s:ByteArray):0≤(rv2 s).1∧(rv2 s).1<2^49∧0≤(rv2 s).2∧(rv2 s).2≤7∧(rv2 s).2+(rv s).2≤s.size:=by
 have h:=lF s
 have h2:=lF (dr s (rv s).2.toNat)
 rw [YB] at h2
 unfold rv2;omega
def oS (s:ByteArray):ByteArray:=s.extract ((rv s).2+(rv2 s).2).toNat ((rv s).2+(rv2 s).2+(rv2 s).1).toNat
def cN (s:ByteArray):Prop:=(rv s).2=0∨(rv2 s).2=0∨(rv2 s).1>200∨(rv2 s).1>s.size-(rv s).2-(rv2 s).2-4
instance (s:ByteArray):Decidable (cN s):=inferInstanceAs (Decidable (_∨_))
def rf (s:ByteArray):Frm:=if cN s∨frm (rv s).1 (oS s)≠s.extract 0 ((rv s).2+(rv2 s).2+(rv2 s).1+4).toNat then ⟨0,⟨#[]⟩,0⟩ else ⟨(rv s).1,oS s,(rv s).2+(rv2 s).2+(rv2 s).1+4⟩
theorem uA (s:ByteArray):0≤(rf s).n∧(rf s).n≤s.size∧((rf s).n≠0→6≤(rf s).n)∧(rf s).pay.size≤200∧F64 (rf s).seq:=by
 have h:=lF s
 have h2:=rF s
 unfold rf;split
 ·exact ⟨by simp only;omega,by simp only;omega,fun hh=>absurd rfl hh,Nat.zero_le _,by simp only;exact ⟨by omega,by omega⟩⟩
 ·rename_i hn
  simp only [not_or,cN] at hn
  refine ⟨by simp only;omega,by simp only;omega,fun _=>by simp only;omega, ?_,by simp only;exact ⟨by omega,by omega⟩⟩
  simp only [oS,ByteArray.size_extract];omega
attribute [irreducible] rf rv2 oS
end Go.Proofs.Ytklmcfpgdfibnaa.P
namespace Go.Proofs.Ytklmcfpgdfibnaa.P
open Go Go.Proofs.Ytklmcfpgdfibnaa Go.Proofs.Ytklmcfpgdfibnaa.Eng
set_option maxHeartbeats 4000000
set_option linter.unusedVariables false
set_option linter.unusedSimpArgs false
attribute [local irreducible] prP gP gE gF AV ixW ldc ldg ldl stc stg scW mkW apW BL cl2 BS EC CX
variable {w0:World}
def rlF:Nat→ByteArray→List ByteArray→List ByteArray×Int
 | 0,_,_=>([],4)
 | f+1,s,out=>if s.size=0 then ([],4) else if (rf s).n=0 then ([],2) else if (rf s).seq≠out.length then ([],3) else
    if (rf s).pay=⟨#[]⟩ then (if (rf s).n<s.size then ([],5) else (out,0)) else rlF f (dr s (rf s).n.toNat) (out++[(rf s).pay])
def rl (s:ByteArray):List ByteArray×Int:=if s.size<5∨s.extract 0 5≠sN then ([],1) else rlF (s.size+1) (dr s 5) []
structure RlI (s0 s:ByteArray) (out:List ByteArray):Prop where
 sz:s.size+out.length≤s0.size
 go: ∃f,s.size<f∧rlF f s out=rl s0
theorem RlI.next {s0 s:ByteArray} {out:List ByteArray} (h:RlI s0 s out) (h0:s.size≠0) (h1:(rf s).n≠0) (h2:(rf s).seq=out.length) (h3:(rf s).pay≠⟨#[]⟩):RlI s0 (dr s (rf s).n.toNat) (out++[(rf s).pay]):=by
 obtain ⟨g1,f,g2,g3⟩:=h
 have hb:=uA s
 have:=hb.2.2.1 h1
 obtain ⟨f,rfl⟩: ∃f',f=f'+1:=⟨f-1,by omega⟩
 rw [rlF,if_neg h0,if_neg h1,if_neg (by simpa using h2),if_neg h3] at g3
 exact ⟨by rw [YB,List.length_append,List.length_singleton];omega,f,by rw [YB];omega,g3⟩
theorem RlI.at_ {s0 s:ByteArray} {out:List ByteArray} (h:RlI s0 s out): ∃f,rlF (f+1) s out=rl s0:=by
 obtain ⟨_,f,g2,g3⟩:=h
 obtain ⟨f,rfl⟩: ∃f',f=f'+1:=⟨f-1,by omega⟩
 exact ⟨f,g3⟩
attribute [irreducible] rl
end Go.Proofs.Ytklmcfpgdfibnaa.P
