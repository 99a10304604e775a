/- A part of the proof. -/
import Derived.Test.YtnhicpkhkaihoaaEvTxtH
import Derived.Test.YtnhicpkhkaihoaaEvHpA
namespace Go.Proofs.Ytnhicpkhkaihoaa.P
open Go Go.Proofs.Ytnhicpkhkaihoaa Go.Proofs.Ytnhicpkhkaihoaa.Eng
set_option linter.unusedVariables false
set_option maxHeartbeats 4000000
set_option linter.unusedVariables false
set_option linter.unusedSimpArgs false
attribute [local irreducible] prP gP gE gF AI ixW ldc ldg ldl stc stg scW mkW apW BG cl2 BZ EZ DS
variable {w0:World}
abbrev U (n:Int):Value:= .int .u32 n
theorem Q9 {k:IntKind} {n:Int} {K:Value→Prop} (hf:F64 n) (h:K (I n)):prP (cvI .i64 (.int k n)) K:=
 BC (v:= .int .i64 (IntKind.i64.wrap n)) rfl (by rw [JE hf];exact h)
def by_ (s:ByteArray) (i:Nat):Nat:=(s.data.getD i 0).toNat
theorem mY (s:ByteArray) (i:Nat):by_ s i<256:=UInt8.toNat_lt _
theorem mJ {s:ByteArray} {i:Nat} {K:Value→Prop} (hi:i<s.size) (h:K (.int .u8 (by_ s i:Int))):prP (ix (.string s) (iv i)) K:=by
 have h0:(0:Int)≤(i:Int):=by omega
 have hg:s[i]? =some s[i]:=getElem?_pos s i hi
 have hv:s[i].toNat=by_ s i:=by
  have hs:i<s.data.size:=hi
  simp only [by_,Array.getD,hs,dite_true]
  rfl
 have hx:ix (.string s) (iv i)=some (.int .u8 (by_ s i:Int)):=by
  show (if 0≤(i:Int) then (s[(i:Int).toNat]?).map fun b=>Value.int .u8 b.toNat else none)=_
  rw [if_pos h0,Int.toNat_natCast,hg]
  simp only [Option.map_some,hv]
 rw [hx];exact BC rfl h
def vM (c:Nat):Nat:=if c % 2=1 then (c/2)^^^2197175160 else c/2
def uN:Nat→Nat→Nat
 | 0,c=>c
 | k+1,c=>vM (uN k c)
def uY (s:ByteArray):Nat→Nat
 | 0=>4294967295
 | i+1=>uN 8 (uY s i^^^by_ s i)
def crc (s:ByteArray):Nat:=4294967295-uY s s.size
def fxL (n:Nat):List Nat:=[n/16777216 % 256,n/65536 % 256,n/256 % 256,n % 256]
def FX (n:Nat):ByteArray:=HJ (fxL n)
theorem iH {k:IntKind} {n:Nat} {K:Value→Prop} (h:K (.int .u8 ((n % 256:Nat):Int))):prP (cvI .u8 (.int k n)) K:=
 BC (v:= .int .u8 (IntKind.u8.wrap n)) rfl (by rw [IntKind.wrap_u8];exact h)
theorem l5 {k:IntKind} {n:Int} {m:Nat} {K:Value→Prop} (hn:n % 256=m) (h:K (.int .u8 (m:Int))):prP (cvI .u8 (.int k n)) K:=
 BC (v:= .int .u8 (IntKind.u8.wrap n)) rfl (by rw [IntKind.wrap_u8,hn];exact h)
def frm (n:Int) (p:ByteArray):ByteArray:=if (0≤n∧n≤400)∧p.size≤200 then ((V n++V p.size)++p)++FX (crc ((V n++V p.size)++p)) else ⟨#[]⟩
def uV:ByteArray:=⟨#[72,76,79,71,1]⟩
attribute [irreducible] frm crc FX
def wD (p:ByteArray):Prop:=1≤(p.size:Int)∧(p.size:Int)≤200
instance (p:ByteArray):Decidable (wD p):=inferInstanceAs (Decidable (_∧_))
end Go.Proofs.Ytnhicpkhkaihoaa.P
namespace Go.Proofs.Ytnhicpkhkaihoaa.P
open Go Go.Proofs.Ytnhicpkhkaihoaa Go.Proofs.Ytnhicpkhkaihoaa.Eng
set_option maxHeartbeats 4000000
set_option linter.unusedVariables false
set_option linter.unusedSimpArgs false
attribute [local irreducible] prP gP gE gF AI ixW ldc ldg ldl stc stg scW mkW apW BG cl2 BZ EZ DS
variable {w0:World}
def C8 (n:Int) (l:List ByteArray) (o:Op5) (a:An):ByteArray×Int×List ByteArray:=HQ n l o.kind o.a o.b o.c o.site a.code a.val a.freed
theorem NQ (n:Int) (l:List ByteArray) (o:Op5) (a:An):(C8 n l o a).1.size≤127∧(C8 n l o a).2.2.length≤l.length+1:=by
 unfold C8 HQ
 split
 ·rename_i h
  obtain ⟨_,hb,_,_,_,_,hx,hl,_⟩:=LQ h
  have h1:=TD n l o.kind o.a o.b o.c o.site a.code a.val a.freed.length
  have h2:=(ZC (p:=(base n l o.kind o.a o.b o.c o.site a.code a.val a.freed.length,o.a)) hb hx a.freed.length (Nat.le_refl _)).2
  refine ⟨by simp only at h2 ⊢;omega, ?_⟩
  simp only [XG]
  split
  ·omega
  ·simp
 ·exact ⟨Nat.zero_le _,Nat.le_succ _⟩
def enc (ops:List Op5) (ans:List An):Nat→Option (List ByteArray×Int×List ByteArray)
 | 0=>some ([],0,[])
 | i+1=>match enc ops ans i with
   | none=>none
   | some p=>if (C8 p.2.1 p.2.2 (po ops i) (an ans i)).1=⟨#[]⟩ then none else some (p.1++[(C8 p.2.1 p.2.2 (po ops i) (an ans i)).1],(C8 p.2.1 p.2.2 (po ops i) (an ans i)).2)
structure qX (ops:List Op5) (ans:List An) (q:Nat×List ByteArray×Int×List ByteArray):Prop where
 eq:enc ops ans q.1=some q.2
 le:q.1≤ops.length
 al:q.2.1.length=q.1
 sl:q.2.2.2.length≤q.1
 sz: ∀i,(gS q.2.1 i).size≤127
theorem nS {l:List ByteArray} {s:ByteArray} {b:Nat} (h: ∀i,(gS l i).size≤b) (hs:s.size≤b) (i:Nat):(gS (l++[s]) i).size≤b:=by
 unfold gS at h ⊢
 rcases Nat.lt_trichotomy i l.length with h1 | h1 | h1
 ·have:=h i
  rw [List.getD_eq_getElem?_getD] at this ⊢
  rw [List.getElem?_append_left h1];exact this
 ·subst h1
  rw [List.getD_eq_getElem?_getD,List.getElem?_append_right (Nat.le_refl _)]
  simpa using hs
 ·rw [List.getD_eq_getElem?_getD,List.getElem?_eq_none (by simp;omega)];exact Nat.zero_le _
theorem qX.next {ops:List Op5} {ans:List An} {q:Nat×List ByteArray×Int×List ByteArray} (h:qX ops ans q) (hlt:q.1<ops.length) (hne:(C8 q.2.2.1 q.2.2.2 (po ops q.1) (an ans q.1)).1≠⟨#[]⟩):
  qX ops ans (q.1+1,q.2.1++[(C8 q.2.2.1 q.2.2.2 (po ops q.1) (an ans q.1)).1],(C8 q.2.2.1 q.2.2.2 (po ops q.1) (an ans q.1)).2):=by
 obtain ⟨h1,h2,h3,h4,h5⟩:=h
 have hz:=NQ q.2.2.1 q.2.2.2 (po ops q.1) (an ans q.1)
 refine ⟨by rw [enc,h1];exact if_neg hne,hlt,by simp [h3], ?_,nS h5 hz.1⟩
 have:=hz.2
 simp only at this ⊢;omega
attribute [irreducible] C8
end Go.Proofs.Ytnhicpkhkaihoaa.P
namespace Go.Proofs.Ytnhicpkhkaihoaa.P
open Go Go.Proofs.Ytnhicpkhkaihoaa Go.Proofs.Ytnhicpkhkaihoaa.Eng
set_option maxHeartbeats 4000000
set_option linter.unusedVariables false
set_option linter.unusedSimpArgs false
attribute [local irreducible] prP gP gE gF AI ixW ldc ldg ldl stc stg scW mkW apW BG cl2 BZ EZ DS
variable {w0:World}
theorem tF {s:ByteArray} {a b:Nat} {K:Value→Prop} (h1:a≤b) (h2:b≤s.size) (h:K (.string (s.extract a b))):prP (scS (.string s) (some (iv a)) (some (iv b))) K:=by
 have:scS (.string s) (some (iv a)) (some (iv b))=some (.string (s.extract a b)):=by
  simp only [scS,bnd,iv,Int.natCast_nonneg,if_true,Option.bind_some,Int.toNat_natCast]
  rw [if_pos ⟨h1,h2⟩]
 rw [this];exact BC rfl h
theorem vZ {s:ByteArray} {b:Nat} {K:Value→Prop} (h2:b≤s.size) (h:K (.string (s.extract 0 b))):prP (scS (.string s) none (some (iv b))) K:=by
 have:scS (.string s) none (some (iv b))=some (.string (s.extract 0 b)):=by
  simp only [scS,bnd,iv,Int.natCast_nonneg,if_true,Option.bind_some,Int.toNat_natCast]
  rw [if_pos ⟨Nat.zero_le _,h2⟩]
 rw [this];exact BC rfl h
def dr (s:ByteArray) (a:Nat):ByteArray:=s.extract a s.size
theorem H9 (s:ByteArray) (a:Nat):(dr s a).size=s.size-a:=by simp [dr]
theorem wM {s:ByteArray} {a:Nat} {K:Value→Prop} (h2:a≤s.size) (h:K (.string (dr s a))):prP (scS (.string s) (some (iv a)) none) K:=by
 have:scS (.string s) (some (iv a)) none=some (.string (dr s a)):=by
  simp only [scS,bnd,iv,Int.natCast_nonneg,if_true,Option.bind_some,Int.toNat_natCast]
  rw [if_pos ⟨h2,Nat.le_refl _⟩];rfl
 rw [this];exact BC rfl h
theorem aP {s:ByteArray} {a:Int} {K:Value→Prop} (h1:0≤a) (h2:a≤s.size) (h:K (.string (dr s a.toNat))):prP (scS (.string s) (some (I a)) none) K:=by
 obtain ⟨n,rfl⟩: ∃n:Nat,a=n:=⟨a.toNat,by omega⟩
 exact wM (by omega) h
theorem aD {s:ByteArray} {b:Int} {K:Value→Prop} (h1:0≤b) (h2:b≤s.size) (h:K (.string (s.extract 0 b.toNat))):prP (scS (.string s) none (some (I b))) K:=by
 obtain ⟨n,rfl⟩: ∃n:Nat,b=n:=⟨b.toNat,by omega⟩
 exact vZ (by omega) h
theorem sR {s:ByteArray} {a b:Int} {K:Value→Prop} (h0:0≤a) (h1:a≤b) (h2:b≤s.size) (h:K (.string (s.extract a.toNat b.toNat))):prP (scS (.string s) (some (I a)) (some (I b))) K:=by
 obtain ⟨n,rfl⟩: ∃n:Nat,a=n:=⟨a.toNat,by omega⟩
 obtain ⟨m,rfl⟩: ∃n:Nat,b=n:=⟨b.toNat,by omega⟩
 exact tF (by omega) (by omega) h
def bys (s:ByteArray) (k:Nat):List Nat:=(List.range k).map (by_ s)
def K3:List Nat→Nat
 | []=>0
 | x::r=>x % 128+128*K3 r
def MZ:Bool→List Nat→Bool
 | _,[]=>false
 | f,[x]=>decide (x<128)&&(f||decide (x≠0))
 | _,x::y::r=>decide (x≥128)&&MZ false (y::r)
theorem cC: ∀{L:List Nat},MZ false L=true→1≤K3 L
 | [],h=>by simp [MZ] at h
 | [x],h=>by simp [MZ] at h;simp only [K3];omega
 | x::y::r,h=>by
   simp only [MZ,Bool.and_eq_true] at h
   have:=cC h.2
   simp only [K3] at this ⊢;omega
theorem mE: ∀{L:List Nat} {f:Bool} {k:Nat},(∀x∈L,x<256)→MZ f L=true→L.length≤k+1→vd k (K3 L)=L
 | [],f,k,_,h,_=>by simp [MZ] at h
 | [x],f,k,_,h,_=>by
   simp only [MZ,Bool.and_eq_true,decide_eq_true_eq] at h
   have h1:x % 128+128*0=x:=by omega
   simp only [K3,h1]
   cases k with
   | zero=>rfl
   | succ k=>rw [vd,if_neg (by omega)]
 | x::y::r,f,0,_,h,hl=>by simp at hl
 | x::y::r,f,k+1,hb,h,hl=>by
   simp only [MZ,Bool.and_eq_true,decide_eq_true_eq] at h
   have h1:=cC h.2
   have hx:=hb x (by simp)
   have h2:K3 (x::y::r)=x % 128+128*K3 (y::r):=rfl
   have h3:K3 (x::y::r)/128=K3 (y::r):=by omega
   have h4:128+K3 (x::y::r) % 128=x:=by omega
   rw [vd,if_pos (by omega),h3,h4,mE (L:=y::r) (fun z hz=>hb z (by simp [hz])) h.2 (by simpa using hl)]
theorem l9: ∀k n,vd k n≠[]
 | 0,n=>by simp [vd]
 | k+1,n=>by unfold vd;split <;> simp
theorem eI: ∀{k n:Nat},n<128^(k+1)→MZ true (vd k n)=true∧(1≤n→MZ false (vd k n)=true)
 | 0,n,h=>by simp at h;simp [vd,MZ,h];omega
 | k+1,n,h=>by
   unfold vd
   split
   ·rename_i hge
    have hd:n/128<128^(k+1):=by rw [Nat.pow_succ] at h;omega
    have h2:=(eI hd).2 (by omega)
    cases hv:vd k (n/128) with
    | nil=>exact absurd hv (l9 _ _)
    | cons y r=>
      rw [hv] at h2
      have:MZ false (y::r)=true:=h2
      simp [MZ,this]
   ·simp [MZ];omega
theorem hC: ∀L:List Nat,K3 L<128^L.length
 | []=>by simp [K3]
 | x::r=>by have:=hC r;simp only [K3,List.length_cons,Nat.pow_succ];omega
theorem RW (s:ByteArray) (k:Nat):(bys s k).length=k:=by simp [bys]
theorem lB (s:ByteArray) (k:Nat): ∀x∈bys s k,x<256:=by
 intro x hx
 obtain ⟨i,_,rfl⟩:=List.mem_map.1 hx
 exact mY s i
def O6 (s:ByteArray) (k:Nat):Nat:=K3 (bys s k)
theorem Z3 (s:ByteArray) {k:Nat} (hk:k≤7):O6 s k<2^49:=by
 have h:=hC (bys s k)
 rw [RW] at h
 have:128^k≤128^7:=Nat.pow_le_pow_right (by omega) hk
 have:(128:Nat)^7=2^49:=by decide
 unfold O6;omega
theorem X9: ∀(L:List Nat) (x:Nat),K3 (L++[x])=K3 L+x % 128*128^L.length
 | [],x=>by simp [K3]
 | y::L,x=>by
   simp only [List.cons_append,K3,X9 L x,List.length_cons,Nat.pow_succ]
   rw [Nat.mul_add]
   have:x % 128*(128^L.length*128)=128*(x % 128*128^L.length):=by
    rw [←Nat.mul_assoc,Nat.mul_comm]
   omega
theorem bX (s:ByteArray) (k:Nat):bys s (k+1)=bys s k++[by_ s k]:=by simp [bys,List.range_succ]
theorem kB (s:ByteArray) (k:Nat):O6 s (k+1)=O6 s k+by_ s k % 128*128^k:=by rw [O6,bX,X9,RW];rfl
theorem YG: ∀(L:List Nat) (f:Bool) (x:Nat),MZ f (L++[x])=(L.all (fun y=>decide (y≥128))&&(decide (x<128)&&((f&&L.isEmpty)||decide (x≠0))))
 | [],f,x=>by simp [MZ]
 | [y],f,x=>by simp [MZ]
 | y::z::r,f,x=>by
   have h:=YG (z::r) false x
   simp only [List.cons_append] at h ⊢
   rw [MZ,h]
   simp [Bool.and_assoc]
def Q2 (s:ByteArray) (k:Nat):Bool:=MZ true (bys s k)
theorem KY (s:ByteArray) (k:Nat):Q2 s (k+1)=true↔(∀i,i<k→128≤by_ s i)∧by_ s k<128∧(k=0∨by_ s k≠0):=by
 rw [Q2,bX,YG]
 simp only [Bool.and_eq_true,Bool.or_eq_true,decide_eq_true_eq,List.all_eq_true,List.isEmpty_iff,true_and]
 have h0:bys s k=[]↔k=0:=by rw [←List.length_eq_zero_iff,RW]
 rw [h0]
 constructor
 ·rintro ⟨h1,h2,h3⟩
  exact ⟨fun i hi=>h1 _ (List.mem_map.2 ⟨i,List.mem_range.2 hi,rfl⟩),h2,h3⟩
 ·rintro ⟨h1,h2,h3⟩
  refine ⟨fun y hy=> ?_,h2,h3⟩
  obtain ⟨i,hi,rfl⟩:=List.mem_map.1 hy
  exact h1 i (List.mem_range.1 hi)
theorem MD (l:List Nat):(HJ l).data.toList=l.map UInt8.ofNat:=by
 have: ∀(l:List Nat) (b:ByteArray),(l.foldl (fun b n=>b.push (UInt8.ofNat n)) b).data.toList=b.data.toList++l.map UInt8.ofNat:=by
  intro l
  induction l with
  | nil=>intro b;simp
  | cons a l ih=>intro b;rw [List.foldl_cons,ih];simp
 rw [HJ,this];rfl
theorem bF {s:ByteArray} {k:Nat} (hk:k≤s.size):s.extract 0 k=HJ (bys s k):=by
 apply ByteArray.ext
 apply Array.ext'
 rw [MD,ByteArray.data_extract,Array.toList_extract]
 apply List.ext_getElem
 ·simp [bys];have:s.size=s.data.size:=rfl;omega
 ·intro i h1 h2
  have hi:i<k:=by simpa [bys] using h2
  have his:i<s.data.size:=by have:s.size=s.data.size:=rfl;omega
  simp [bys,by_,Array.getD,his]
  intro hcon;have:s.size=s.data.size:=rfl;omega
theorem fE {a b:List Nat} (ha: ∀x∈a,x<256) (hb: ∀x∈b,x<256) (h:HJ a=HJ b):a=b:=by
 have h1:a.map UInt8.ofNat=b.map UInt8.ofNat:=by rw [←MD, ←MD,h]
 have h2:=congrArg (List.map UInt8.toNat) h1
 simp only [List.map_map] at h2
 have: ∀l:List Nat,(∀x∈l,x<256)→l.map (UInt8.toNat ∘ UInt8.ofNat)=l:=by
  intro l hl
  induction l with
  | nil=>rfl
  | cons x l ih=>
    have hx:=hl x (by simp)
    rw [List.map_cons,ih fun y hy=>hl y (by simp [hy])]
    simp [Nat.mod_eq_of_lt hx]
 rwa [this a ha,this b hb] at h2
theorem lU: ∀(k n:Nat),n<128^(k+1)→ ∀x∈vd k n,x<256
 | 0,n,h=>by simp at h;simp [vd];omega
 | k+1,n,h=>by
   unfold vd
   split
   ·intro x hx
    rcases List.mem_cons.1 hx with rfl | hx
    ·omega
    ·exact lU k (n/128) (by rw [Nat.pow_succ] at h;omega) x hx
   ·simp;omega
theorem lR {n:Nat} (h:n<2^49):V n=HJ (vd 6 n):=by
 rw [V,if_pos (by rw [KO];omega),Int.toNat_natCast]
theorem kG {s:ByteArray} {k:Nat} (hk:k≤7) (hs:k≤s.size):V (O6 s k)=s.extract 0 k↔Q2 s k=true:=by
 have hlt:=Z3 s hk
 have h49:(128:Nat)^(6+1)=2^49:=by decide
 rw [lR hlt,bF hs]
 constructor
 ·intro h
  have:=fE (lU 6 _ (by rw [h49];exact hlt)) (lB s k) h
  rw [Q2, ←this]
  exact (eI (by rw [h49];exact hlt)).1
 ·intro h
  rw [O6,mE (lB s k) h (by rw [RW];omega)]
def rvF (s:ByteArray):Nat→Nat→Int×Int
 | 0,_=>(0,0)
 | f+1,j=>if j≤s.size∧Q2 s j=true then ((O6 s j:Int),(j:Int)) else rvF s f (j+1)
def rv (s:ByteArray):Int×Int:=rvF s 7 1
theorem ZG {s:ByteArray} {j:Nat} (hc:j≤s.size∧Q2 s j=true): ∀(f i:Nat),i≤j→j<i+f→(∀m,i≤m→m<j→ ¬(m≤s.size∧Q2 s m=true))→rvF s f i=((O6 s j:Int),(j:Int))
 | 0,i,h1,h2,_=>by omega
 | f+1,i,h1,h2,hn=>by
   rcases Nat.lt_or_ge i j with h | h
   ·rw [rvF,if_neg (hn i (Nat.le_refl _) h)]
    exact ZG hc f (i+1) h (by omega) fun m hm=>hn m (by omega)
   ·have:i=j:=by omega
    subst this
    rw [rvF,if_pos hc]
theorem U2 {s:ByteArray}: ∀(f i:Nat),(∀m,i≤m→m<i+f→ ¬(m≤s.size∧Q2 s m=true))→rvF s f i=(0,0)
 | 0,i,_=>rfl
 | f+1,i,hn=>by
   rw [rvF,if_neg (hn i (Nat.le_refl _) (by omega))]
   exact U2 f (i+1) fun m hm hm2=>hn m (by omega) (by omega)
theorem u7 (s:ByteArray):rv s=(0,0)∨ ∃j:Nat,1≤j∧j≤7∧j≤s.size∧Q2 s j=true∧rv s=((O6 s j:Int),(j:Int)):=by
 have: ∀f i,1≤i→i+f≤8→rvF s f i=(0,0)∨ ∃j:Nat,1≤j∧j≤7∧j≤s.size∧Q2 s j=true∧rvF s f i=((O6 s j:Int),(j:Int)):=by
  intro f
  induction f with
  | zero=>intro i _ _;exact .inl rfl
  | succ f ih=>
    intro i h1 h2
    by_cases hc:i≤s.size∧Q2 s i=true
    ·exact .inr ⟨i,h1,by omega,hc.1,hc.2,by rw [rvF,if_pos hc]⟩
    ·rw [rvF,if_neg hc];exact ih (i+1) (by omega) (by omega)
 exact this 7 1 (by omega) (by omega)
theorem lN {a m:Nat} {b:Int} {K:Value→Prop} (hb:b=m) (hm:m≤64) (hf:a*2^m<2^63) (h:K (I ((a*2^m:Nat):Int))):prP (bnI .shl (I a) (I b)) K:=by
 subst hb
 have e:bnI .shl (I a) (I (m:Int))=some (.int .i64 (IntKind.i64.wrap ((a:Int)*2^min (m:Int).toNat 64))):=by
  show (if (m:Int)<0 then none else _)=_
  rw [if_neg (by omega)];rfl
 have e2:(a:Int)*2^min (m:Int).toNat 64=((a*2^m:Nat):Int):=by
  rw [Int.toNat_natCast,Nat.min_eq_left hm];simp
 rw [e,e2,JE ⟨by omega,by omega⟩];exact BC rfl h
theorem LR {s:ByteArray} {K:J2} (hs:(s.size:Int)<2^62) (h:K [I (rv s).1,I (rv s).2] []):cl2 ⟨Try.prog,w0⟩ 167 C4.sg [.string s] [] K:=by
 refine C4.cl2 ?_
 unfold C4.txt
 refine BF (fun k=>[.string s,I (O6 s k),iv k]) (fun _=>[]) 7 (fun k=>k≤s.size∧ ∀i,i<k→128≤by_ s i) rfl rfl ⟨Nat.zero_le _,fun i hi=>by omega⟩ (fun R k hk hP hR=> ?_)
 obtain ⟨hks,hP⟩:=hP
 have JL:(7≤k∨s.size≤k)→K [I 0,I 0] []:=fun hc=>by
  have:rv s=(0,0):=U2 7 1 fun m h1 h2 ⟨h3,h4⟩=>by
   obtain ⟨m,rfl⟩: ∃m',m=m'+1:=⟨m-1,by omega⟩
   rw [KY] at h4
   have:=hP m (by omega);omega
  rw [this] at h;exact h
 repeat' (first | exact JL (by omega) | refine mJ (by omega) ?_ | refine BP ?_ | refine MC (by first | with_reducible assumption | omega) ?_ | refine TG (by first | with_reducible assumption | omega) ?_ | refine EY (by first | with_reducible assumption | omega) rfl ?_ | refine FV (by first | with_reducible assumption | omega) rfl ?_ | refine CD ?_ | refine A1 ?_ | refine G8 ?_ | refine AH (fun _=> ?_) (fun _=> ?_) | refine LJ (fun _=> ?_) (fun _=> ?_) | simp only [AJ,AQ,AL,AR,AO,AE,AG,AU,AN,AS,AV,AP,AM,AT,BN,BS,BV,BT,BW,BU,BO,A9,A6,A4,A7,A8,A5])
 have hb:=mY s k
 have hv:=Z3 s (k:=k) (by omega)
 have h7:(128:Nat)^k=2^(7*k):=by rw [Nat.pow_mul]
 have hle:(2:Nat)^(7*k)≤2^42:=Nat.pow_le_pow_right (by omega) (by omega)
 have hmul:by_ s k % 128*2^(7*k)≤127*2^42:=Nat.mul_le_mul (by omega) hle
 refine Q9 ⟨by omega,by omega⟩ (NU (by omega) (by omega) (KQ ⟨by omega,by omega⟩ (lN (a:=by_ s k % 128) (m:=7*k) (by omega) (by omega) (by omega) (CV ⟨by omega,by omega⟩ ?_))))
 have e:(O6 s k:Int)+((by_ s k % 128*2^(7*k):Nat):Int)=(O6 s (k+1):Int):=by rw [kB,h7];omega
 rw [e]
 refine JI (AH (fun hge=> ?_) fun hlt=> ?_)
 ·refine BD (by omega) (hR (by omega) ⟨by omega,fun i hi=> ?_⟩)
  rcases Nat.lt_succ_iff_lt_or_eq.1 hi with h1 | rfl
  ·exact hP i h1
  ·omega
 ·have none': ∀m,1≤m→m<k+1→ ¬(m≤s.size∧Q2 s m=true):=fun m h1 h2 ⟨h3,h4⟩=>by
   obtain ⟨m,rfl⟩: ∃m',m=m'+1:=⟨m-1,by omega⟩
   rw [KY] at h4
   have:=hP m (by omega);omega
  repeat' (first | refine BP ?_ | refine EY (by first | with_reducible assumption | omega) rfl ?_ | refine FV (by first | with_reducible assumption | omega) rfl ?_ | refine CD ?_ | refine A1 ?_ | refine BI ?_ | refine BD (by omega) ?_ | refine AH (fun _=> ?_) (fun _=> ?_) | refine LJ (fun _=> ?_) (fun _=> ?_))
  ·have:rv s=(0,0):=U2 7 1 fun m h1 h2 hh=>by
    rcases Nat.lt_or_ge m (k+1) with h3 | h3
    ·exact none' m h1 h3 hh
    ·obtain ⟨m,rfl⟩: ∃m',m=m'+1:=⟨m-1,by omega⟩
     have h4:=(KY s m).1 hh.2
     rcases Nat.lt_or_ge k m with h5 | h5
     ·have:=h4.1 k h5;omega
     ·have:m=k:=by omega
      subst this
      omega
   rw [this] at h;exact h
  all_goals
   have:rv s=((O6 s (k+1):Int),((k+1:Nat):Int)):=ZG ⟨by omega,(KY s k).2 ⟨hP,by omega,by omega⟩⟩ 7 1 (by omega) (by omega) none'
   rw [this] at h;exact h
attribute [irreducible] rv rvF Q2 O6 bys dr
end Go.Proofs.Ytnhicpkhkaihoaa.P
