/- A part of the proof. -/
import Derived.Test.YthapfcoajahegaaDoorReWireB
import Derived.Test.YthapfcoajahegaaDoorReLawTyNode
namespace Go.Proofs.YthapfcoajahegaaDoor.P
open Go Go.Proofs.YthapfcoajahegaaDoor Go.Proofs.YthapfcoajahegaaDoor.Eng
set_option maxHeartbeats 4000000
set_option linter.unusedVariables false
set_option linter.unusedSimpArgs false
attribute [local irreducible] prP gP gE gF AY ixW ldc ldg ldl stc stg scW mkW apW A6 cl2 BL C5 BX
variable {w0:World}
def dr (s:ByteArray) (a:Nat):ByteArray:=s.extract a s.size
theorem YI (s:ByteArray) (a:Nat):(dr s a).size=s.size-a:=by simp [dr]
def bys (s:ByteArray) (k:Nat):List Nat:=(List.range k).map (by_ s)
def Q1:List Nat→Nat
 | []=>0
 | x::r=>x % 128+128*Q1 r
def QE:Bool→List Nat→Bool
 | _,[]=>false
 | f,[x]=>decide (x<128)&&(f||decide (x≠0))
 | _,x::y::r=>decide (x≥128)&&QE false (y::r)
theorem ZZ: ∀{L:List Nat},QE false L=true→1≤Q1 L
 | [],h=>by simp [QE] at h
 | [x],h=>by simp [QE] at h;simp only [Q1];omega
 | x::y::r,h=>by
   simp only [QE,Bool.and_eq_true] at h
   have:=ZZ h.2
   simp only [Q1] at this ⊢;omega
theorem mK: ∀{L:List Nat} {f:Bool} {k:Nat},(∀x∈L,x<256)→QE f L=true→L.length≤k+1→vd k (Q1 L)=L
 | [],f,k,_,h,_=>by simp [QE] at h
 | [x],f,k,_,h,_=>by
   simp only [QE,Bool.and_eq_true,decide_eq_true_eq] at h
   have h1:x % 128+128*0=x:=by omega
   simp only [Q1,h1]
   cases k with
   | zero=>rfl
   | succ k=>rw [vd,if_neg (by omega)]
 | x::y::r,f,0,_,h,hl=>by simp at hl
 | x::y::r,f,k+1,hb,h,hl=>by
   simp only [QE,Bool.and_eq_true,decide_eq_true_eq] at h
   have h1:=ZZ h.2
   have hx:=hb x (by simp)
   have h2:Q1 (x::y::r)=x % 128+128*Q1 (y::r):=rfl
   have h3:Q1 (x::y::r)/128=Q1 (y::r):=by omega
   have h4:128+Q1 (x::y::r) % 128=x:=by omega
   rw [vd,if_pos (by omega),h3,h4,mK (L:=y::r) (fun z hz=>hb z (by simp [hz])) h.2 (by simpa using hl)]
theorem s6: ∀k n,vd k n≠[]
 | 0,n=>by simp [vd]
 | k+1,n=>by unfold vd;split <;> simp
theorem kY: ∀{k n:Nat},n<128^(k+1)→QE true (vd k n)=true∧(1≤n→QE false (vd k n)=true)
 | 0,n,h=>by simp at h;simp [vd,QE,h];omega
 | k+1,n,h=>by
   unfold vd
   split
   ·rename_i hge
    have hd:n/128<128^(k+1):=by rw [Nat.pow_succ] at h;omega
    have h2:=(kY hd).2 (by omega)
    cases hv:vd k (n/128) with
    | nil=>exact absurd hv (s6 _ _)
    | cons y r=>
      rw [hv] at h2
      have:QE false (y::r)=true:=h2
      simp [QE,this]
   ·simp [QE];omega
theorem dL: ∀L:List Nat,Q1 L<128^L.length
 | []=>by simp [Q1]
 | x::r=>by have:=dL r;simp only [Q1,List.length_cons,Nat.pow_succ];omega
theorem eM (s:ByteArray) (k:Nat):(bys s k).length=k:=by simp [bys]
theorem jN (s:ByteArray) (k:Nat): ∀x∈bys s k,x<256:=by
 intro x hx
 obtain ⟨i,_,rfl⟩:=List.mem_map.1 hx
 exact uH s i
def bC (s:ByteArray) (k:Nat):Nat:=Q1 (bys s k)
theorem dJ (s:ByteArray) {k:Nat} (hk:k≤7):bC s k<2^49:=by
 have h:=dL (bys s k)
 rw [eM] at h
 have:128^k≤128^7:=Nat.pow_le_pow_right (by omega) hk
 have:(128:Nat)^7=2^49:=by decide
 unfold bC;omega
def cI (s:ByteArray) (k:Nat):Bool:=QE true (bys s k)
theorem O4 (l:List Nat):(NH l).data.toList=l.map UInt8.ofNat:=by
 have: ∀(l:List Nat) (b:ByteArray),(l.foldl (fun b n=>b.push (UInt8.ofNat n)) b).data.toList=b.data.toList++l.map UInt8.ofNat:=by
  intro l
  induction l with
  | nil=>intro b;simp
  | cons a l ih=>intro b;rw [List.foldl_cons,ih];simp
 rw [NH,this];rfl
theorem ZT {s:ByteArray} {k:Nat} (hk:k≤s.size):s.extract 0 k=NH (bys s k):=by
 apply ByteArray.ext
 apply Array.ext'
 rw [O4,ByteArray.data_extract,Array.toList_extract]
 apply List.ext_getElem
 ·simp [bys];have:s.size=s.data.size:=rfl;omega
 ·intro i h1 h2
  have hi:i<k:=by simpa [bys] using h2
  have his:i<s.data.size:=by have:s.size=s.data.size:=rfl;omega
  simp [bys,by_,Array.getD,his]
  intro hcon;have:s.size=s.data.size:=rfl;omega
theorem cU {a b:List Nat} (ha: ∀x∈a,x<256) (hb: ∀x∈b,x<256) (h:NH a=NH b):a=b:=by
 have h1:a.map UInt8.ofNat=b.map UInt8.ofNat:=by rw [←O4, ←O4,h]
 have h2:=congrArg (List.map UInt8.toNat) h1
 simp only [List.map_map] at h2
 have: ∀l:List Nat,(∀x∈l,x<256)→l.map (UInt8.toNat ∘ UInt8.ofNat)=l:=by
  intro l hl
  induction l with
  | nil=>rfl
  | cons x l ih=>
    have hx:=hl x (by simp)
    rw [List.map_cons,ih fun y hy=>hl y (by simp [hy])]
    simp [Nat.mod_eq_of_lt hx]
 rwa [this a ha,this b hb] at h2
theorem pQ: ∀(k n:Nat),n<128^(k+1)→ ∀x∈vd k n,x<256
 | 0,n,h=>by simp at h;simp [vd];omega
 | k+1,n,h=>by
   unfold vd
   split
   ·intro x hx
    rcases List.mem_cons.1 hx with rfl | hx
    ·omega
    ·exact pQ k (n/128) (by rw [Nat.pow_succ] at h;omega) x hx
   ·simp;omega
theorem tF {n:Nat} (h:n<2^49):V n=NH (vd 6 n):=by
 rw [V,if_pos (by rw [eT];omega),Int.toNat_natCast]
theorem fM {s:ByteArray} {k:Nat} (hk:k≤7) (hs:k≤s.size):V (bC s k)=s.extract 0 k↔cI s k=true:=by
 have hlt:=dJ s hk
 have h49:(128:Nat)^(6+1)=2^49:=by decide
 rw [tF hlt,ZT hs]
 constructor
 ·intro h
  have:=cU (pQ 6 _ (by rw [h49];exact hlt)) (jN s k) h
  rw [cI, ←this]
  exact (kY (by rw [h49];exact hlt)).1
 ·intro h
  rw [bC,mK (jN s k) h (by rw [eM];omega)]
def rvF (s:ByteArray):Nat→Nat→Int×Int
 | 0,_=>(0,0)
 | f+1,j=>if j≤s.size∧cI s j=true then ((bC s j:Int),(j:Int)) else rvF s f (j+1)
def rv (s:ByteArray):Int×Int:=rvF s 7 1
theorem sL (s:ByteArray):rv s=(0,0)∨ ∃j:Nat,1≤j∧j≤7∧j≤s.size∧cI s j=true∧rv s=((bC s j:Int),(j:Int)):=by
 have: ∀f i,1≤i→i+f≤8→rvF s f i=(0,0)∨ ∃j:Nat,1≤j∧j≤7∧j≤s.size∧cI s j=true∧rvF s f i=((bC s j:Int),(j:Int)):=by
  intro f
  induction f with
  | zero=>intro i _ _;exact .inl rfl
  | succ f ih=>
    intro i h1 h2
    by_cases hc:i≤s.size∧cI s i=true
    ·exact .inr ⟨i,h1,by omega,hc.1,hc.2,by rw [rvF,if_pos hc]⟩
    ·rw [rvF,if_neg hc];exact ih (i+1) (by omega) (by omega)
 exact this 7 1 (by omega) (by omega)
attribute [irreducible] rv rvF cI bC bys dr
end Go.Proofs.YthapfcoajahegaaDoor.P
namespace Go.Proofs.YthapfcoajahegaaDoor.P
open Go Go.Proofs.YthapfcoajahegaaDoor Go.Proofs.YthapfcoajahegaaDoor.Eng
set_option maxHeartbeats 4000000
set_option linter.unusedVariables false
set_option linter.unusedSimpArgs false
attribute [local irreducible] prP gP gE gF AY ixW ldc ldg ldl stc stg scW mkW apW A6 cl2 BL C5 BX
variable {w0:World}
theorem nX (s:ByteArray):((rv s).2=0∧(rv s).1=0)∨ ∃j:Nat,1≤j∧j≤7∧j≤s.size∧(rv s).2=j∧0≤(rv s).1∧(rv s).1<2^49∧V (rv s).1=s.extract 0 j:=by
 rcases sL s with h | ⟨j,h1,h2,h3,h4,h5⟩
 ·exact .inl (by rw [h];exact ⟨rfl,rfl⟩)
 ·have:=dJ s h2
  exact .inr ⟨j,h1,h2,h3,by rw [h5],by rw [h5];omega,by rw [h5];simp only;omega,by rw [h5];exact (fM h2 h3).2 h4⟩
theorem l6 (s:ByteArray):0≤(rv s).1∧(rv s).1<2^49∧0≤(rv s).2∧(rv s).2≤7∧(rv s).2≤s.size:=by
 rcases nX s with ⟨h1,h2⟩ | ⟨j,h1,h2,h3,h4,h5,h6,_⟩ <;> omega
def zag (n:Int):Int:=if n % 2=0 then n/2 else 0-n/2-1
def ri (s:ByteArray):Int×Int:=if (rv s).2=0∨(rv s).1>200000000000000 then (0,0) else (zag (rv s).1,(rv s).2)
attribute [irreducible] ri zag
def rt (s:ByteArray):ByteArray×Int:=if (rv s).2=0∨(rv s).1>8∨(rv s).1>s.size-(rv s).2 then (⟨#[]⟩,0) else (s.extract (rv s).2.toNat ((rv s).2+(rv s).1).toNat,(rv s).2+(rv s).1)
attribute [irreducible] rt
structure Frm where
 seq:Int
 pay:ByteArray
 n:Int
def rv2 (s:ByteArray):Int×Int:=rv (dr s (rv s).2.toNat)
theorem qS (s:ByteArray):0≤(rv2 s).1∧(rv2 s).1<2^49∧0≤(rv2 s).2∧(rv2 s).2≤7∧(rv2 s).2+(rv s).2≤s.size:=by
 have h:=l6 s
 have h2:=l6 (dr s (rv s).2.toNat)
 rw [YI] at h2
 unfold rv2;omega
def nC (s:ByteArray):ByteArray:=s.extract ((rv s).2+(rv2 s).2).toNat ((rv s).2+(rv2 s).2+(rv2 s).1).toNat
def b7 (s:ByteArray):Prop:=(rv s).2=0∨(rv2 s).2=0∨(rv2 s).1>200∨(rv2 s).1>s.size-(rv s).2-(rv2 s).2-4
instance (s:ByteArray):Decidable (b7 s):=inferInstanceAs (Decidable (_∨_))
def rf (s:ByteArray):Frm:=if b7 s∨frm (rv s).1 (nC s)≠s.extract 0 ((rv s).2+(rv2 s).2+(rv2 s).1+4).toNat then ⟨0,⟨#[]⟩,0⟩ else ⟨(rv s).1,nC s,(rv s).2+(rv2 s).2+(rv2 s).1+4⟩
theorem sZ (s:ByteArray):0≤(rf s).n∧(rf s).n≤s.size∧((rf s).n≠0→6≤(rf s).n)∧(rf s).pay.size≤200∧F64 (rf s).seq:=by
 have h:=l6 s
 have h2:=qS s
 unfold rf;split
 ·exact ⟨by simp only;omega,by simp only;omega,fun hh=>absurd rfl hh,Nat.zero_le _,by simp only;exact ⟨by omega,by omega⟩⟩
 ·rename_i hn
  simp only [not_or,b7] at hn
  refine ⟨by simp only;omega,by simp only;omega,fun _=>by simp only;omega, ?_,by simp only;exact ⟨by omega,by omega⟩⟩
  simp only [nC,ByteArray.size_extract];omega
attribute [irreducible] rf rv2 nC
end Go.Proofs.YthapfcoajahegaaDoor.P
namespace Go.Proofs.YthapfcoajahegaaDoor.P
open Go Go.Proofs.YthapfcoajahegaaDoor Go.Proofs.YthapfcoajahegaaDoor.Eng
set_option maxHeartbeats 4000000
set_option linter.unusedVariables false
set_option linter.unusedSimpArgs false
attribute [local irreducible] prP gP gE gF AY ixW ldc ldg ldl stc stg scW mkW apW A6 cl2 BL C5 BX
variable {w0:World}
def rlF:Nat→ByteArray→List ByteArray→List ByteArray×Int
 | 0,_,_=>([],4)
 | f+1,s,out=>if s.size=0 then ([],4) else if (rf s).n=0 then ([],2) else if (rf s).seq≠out.length then ([],3) else
    if (rf s).pay=⟨#[]⟩ then (if (rf s).n<s.size then ([],5) else (out,0)) else rlF f (dr s (rf s).n.toNat) (out++[(rf s).pay])
def rl (s:ByteArray):List ByteArray×Int:=if s.size<5∨s.extract 0 5≠tX then ([],1) else rlF (s.size+1) (dr s 5) []
structure RlI (s0 s:ByteArray) (out:List ByteArray):Prop where
 sz:s.size+out.length≤s0.size
 go: ∃f,s.size<f∧rlF f s out=rl s0
theorem RlI.next {s0 s:ByteArray} {out:List ByteArray} (h:RlI s0 s out) (h0:s.size≠0) (h1:(rf s).n≠0) (h2:(rf s).seq=out.length) (h3:(rf s).pay≠⟨#[]⟩):RlI s0 (dr s (rf s).n.toNat) (out++[(rf s).pay]):=by
 obtain ⟨g1,f,g2,g3⟩:=h
 have hb:=sZ s
 have:=hb.2.2.1 h1
 obtain ⟨f,rfl⟩: ∃f',f=f'+1:=⟨f-1,by omega⟩
 rw [rlF,if_neg h0,if_neg h1,if_neg (by simpa using h2),if_neg h3] at g3
 exact ⟨by rw [YI,List.length_append,List.length_singleton];omega,f,by rw [YI];omega,g3⟩
theorem RlI.at_ {s0 s:ByteArray} {out:List ByteArray} (h:RlI s0 s out): ∃f,rlF (f+1) s out=rl s0:=by
 obtain ⟨_,f,g2,g3⟩:=h
 obtain ⟨f,rfl⟩: ∃f',f=f'+1:=⟨f-1,by omega⟩
 exact ⟨f,g3⟩
attribute [irreducible] rl
end Go.Proofs.YthapfcoajahegaaDoor.P
namespace Go.Proofs.YthapfcoajahegaaDoor.P
open Go Go.Proofs.YthapfcoajahegaaDoor Go.Proofs.YthapfcoajahegaaDoor.Eng
set_option maxHeartbeats 4000000
set_option linter.unusedVariables false
set_option linter.unusedSimpArgs false
attribute [local irreducible] prP gP gE gF AY ixW ldc ldg ldl stc stg scW mkW apW A6 cl2 BL C5 BX
variable {w0:World}
def rdI (r:ByteArray):Option (Int×ByteArray):=if (ri r).2=0 then none else some ((ri r).1,dr r (ri r).2.toNat)
def rdN (r:ByteArray):Option (Int×ByteArray):=if (rv r).2=0 then none else some ((rv r).1,dr r (rv r).2.toNat)
def rdT (r:ByteArray):Option (ByteArray×ByteArray):=if (rt r).2=0 then none else some ((rt r).1,dr r (rt r).2.toNat)
def EL {β:Type} (f:List Int→Option β):Nat→List Int→Int→ByteArray→Option β
 | 0,acc,_,_=>f acc
 | m+1,acc,last,r=>(rdI r).bind fun p=>EL f m (acc++[w64 (last+p.1)]) (w64 (last+p.1)) p.2
abbrev Ev:=Op5×An
def E8 (o:Op5) (code val:Int) (r:ByteArray):Option Ev:=(rdN r).bind fun p=>if p.1>8 then none else EL (fun fr=>some (o,⟨code,val,fr⟩)) p.1.toNat [] o.a p.2
def E7 (o:Op5) (code:Int) (r:ByteArray):Option Ev:=(rdI r).bind fun p=>E8 o code (w64 (o.a+p.1)) p.2
def E6 (o:Op5) (r:ByteArray):Option Ev:=(rdN r).bind fun p=>E7 o p.1 p.2
def E5 (l:List ByteArray) (kind a b c k:Int) (r:ByteArray):Option Ev:=if k=0 then (rdT r).bind fun p=>E6 ⟨kind,a,b,c,p.1⟩ p.2 else if k≤l.length then E6 ⟨kind,a,b,c,gS l (k-1).toNat⟩ r else none
def E4 (l:List ByteArray) (kind a b c:Int) (r:ByteArray):Option Ev:=(rdN r).bind fun p=>E5 l kind a b c p.1 p.2
def E3 (l:List ByteArray) (kind a b:Int) (r:ByteArray):Option Ev:=(rdI r).bind fun p=>E4 l kind a b (w64 (a+p.1)) p.2
def E2 (l:List ByteArray) (kind a:Int) (r:ByteArray):Option Ev:=(rdI r).bind fun p=>E3 l kind a p.1 p.2
def E1 (last:Int) (l:List ByteArray) (kind:Int) (r:ByteArray):Option Ev:=(rdI r).bind fun p=>E2 l kind (w64 (last+p.1)) p.2
def E0 (last:Int) (l:List ByteArray) (s:ByteArray):Option Ev:=(rdI s).bind fun p=>E1 last l p.1 p.2
def tE (last:Int) (l:List ByteArray) (s:ByteArray) (e:Ev):Prop:=(LF last l e.1 e.2).1≠⟨#[]⟩∧(LF last l e.1 e.2).1=s
instance (last:Int) (l:List ByteArray) (s:ByteArray) (e:Ev):Decidable (tE last l s e):=inferInstanceAs (Decidable (_∧_))
structure RE where
 o:Op5
 a:An
 last:Int
 sites:List ByteArray
 ok:Bool
def MT (last:Int) (l:List ByteArray) (s:ByteArray):RE:=match E0 last l s with
 | none=>⟨⟨0,0,0,0,⟨#[]⟩⟩,⟨0,0,[]⟩,last,l,false⟩
 | some e=>if tE last l s e then ⟨e.1,e.2,(LF last l e.1 e.2).2.1,(LF last l e.1 e.2).2.2,true⟩ else ⟨⟨0,0,0,0,⟨#[]⟩⟩,⟨0,0,[]⟩,last,l,false⟩
structure kJ (X:Option Ev) (b:Bool) (Y:Option Ev):Prop where
 go:b=false→X=Y
 no:b=true→X=none
theorem kJ.start {X Y:Option Ev} (h:X=Y):kJ X false Y:=⟨fun _=>h,fun h=>by cases h⟩
theorem kJ.off {X:Option Ev} {b:Bool} (h:kJ X b none):X=none:=by
 cases b with
 | true=>exact h.no rfl
 | false=>exact h.go rfl
theorem bQ {n:Int} {l:List ByteArray} {o:Op5} {a:An} (h:8<a.freed.length):(LF n l o a).1=⟨#[]⟩:=by
 unfold LF eA
 rw [if_neg]
 intro hok
 have:=(bD hok).2.2.2.2.2.2.2.1
 omega
structure LpI (X:Option Ev) (o:Op5) (code val n:Int) (q:Nat×Int×List Int×ByteArray×Bool) (s0:ByteArray):Prop where
 inv:n≤8→kJ X q.2.2.2.2 (EL (fun fr=>some (o,⟨code,val,fr⟩)) (n.toNat-q.1) q.2.2.1 q.2.1 q.2.2.2.1)
 big:n>8→X=none
 le:q.1≤n
 len:q.2.2.1.length=q.1
 sz:q.2.2.2.2=false→q.2.2.2.1.size+q.1≤s0.size
 sz2:q.2.2.2.1.size≤s0.size
 sz3:q.1≤s0.size+1
attribute [irreducible] rdI rdN rdT
end Go.Proofs.YthapfcoajahegaaDoor.P
namespace Go.Proofs.YthapfcoajahegaaDoor.P
open Go Go.Proofs.YthapfcoajahegaaDoor Go.Proofs.YthapfcoajahegaaDoor.Eng
set_option maxHeartbeats 4000000
set_option linter.unusedVariables false
set_option linter.unusedSimpArgs false
attribute [local irreducible] prP gP gE gF AY ixW ldc ldg ldl stc stg scW mkW apW A6 cl2 BL C5 BX
variable {w0:World}
def o4:Nat→ByteArray→Option (List Int×ByteArray)
 | 0,r=>some ([],r)
 | m+1,r=>(rdI r).bind fun p=>(o4 m p.2).bind fun q=>some (p.1::q.1,q.2)
structure L10 (s:ByteArray) (a0 n:Nat) (q:Nat×List Int×Nat):Prop where
 le:q.1≤n
 len:q.2.1.length=q.1
 at_:a0≤q.2.2
 sz:q.2.2≤s.size
 go:o4 n (dr s a0)=(o4 (n-q.1) (dr s q.2.2)).map fun p=>(q.2.1++p.1,p.2)
def rG (l:List ByteArray) (r:ByteArray):Option (ByteArray×ByteArray):=(rdN r).bind fun p=>if p.1=0 then rdT p.2 else if p.1≤l.length then some (gS l (p.1-1).toNat,p.2) else none
attribute [irreducible] o4 rG
end Go.Proofs.YthapfcoajahegaaDoor.P
