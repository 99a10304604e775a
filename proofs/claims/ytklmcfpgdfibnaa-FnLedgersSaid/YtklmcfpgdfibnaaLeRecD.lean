/- A part of the proof. -/
import Derived.Test.YtklmcfpgdfibnaaLeEngZ
import Derived.Test.YtklmcfpgdfibnaaLeGdA
import Derived.Test.YtklmcfpgdfibnaaLeDrA
namespace Go.Proofs.Ytklmcfpgdfibnaa.P
open Go Go.Proofs.Ytklmcfpgdfibnaa Go.Proofs.Ytklmcfpgdfibnaa.Eng
set_option linter.unusedVariables false
theorem Ah {a b:ByteArray}:(a==b)=decide (a=b):=by
 by_cases h:a=b
 ·subst h;simp
 ·simp [h]
instance By:DecidableEq Op5:=fun x y=>decidable_of_iff (x.kind=y.kind∧x.a=y.a∧x.b=y.b∧x.c=y.c∧x.site=y.site) (by cases x;cases y;simp)
instance Bz:DecidableEq Wk:=fun x y=>decidable_of_iff (x.used=y.used∧x.target=y.target) (by cases x;cases y;simp)
instance Cb:DecidableEq An:=fun x y=>decidable_of_iff (x.code=y.code∧x.val=y.val∧x.freed=y.freed) (by cases x;cases y;simp)
def fI (n : String) (o b : Nat) : Field := { name := n, type := 3, offset := o, embedded := false, tag := "", pkgPath := "", byteOffset := b }
def fS (n : String) (o b : Nat) : Field := { name := n, type := 9, offset := o, embedded := false, tag := "", pkgPath := "", byteOffset := b }
theorem mB {d : Nat} {xs ys : Array Value} {n : String} {o k : Nat} {fs : List Field} {a b : Int} (hn : n ≠ "_") (hx : xs[o]? = some (I a)) (hy : ys[o]? = some (I b)) :
  CF Try.prog (Op.eqFields (d+1) xs ys (fI n o k::fs))=if (a==b) then CF Try.prog (Op.eqFields (d+1) xs ys fs) else some false:=
 mN (f:=fI n o k) hn Try.underlying3 rfl hx hy (xW Try.underlying3)
theorem Bc {d : Nat} {xs ys : Array Value} {n : String} {o k : Nat} {fs : List Field} {a b : ByteArray} (hn : n ≠ "_") (hx : xs[o]? = some (.string a)) (hy : ys[o]? = some (.string b)) :
  CF Try.prog (Op.eqFields (d+1) xs ys (fS n o k::fs))=if (a==b) then CF Try.prog (Op.eqFields (d+1) xs ys fs) else some false:=
 mN (f:=fS n o k) hn Try.underlying9 rfl hx hy (wP Try.underlying9)
end Go.Proofs.Ytklmcfpgdfibnaa.P
namespace Go.Proofs.Ytklmcfpgdfibnaa.P
open Go Go.Proofs.Ytklmcfpgdfibnaa Go.Proofs.Ytklmcfpgdfibnaa.Eng
set_option linter.unusedVariables false
set_option maxHeartbeats 4000000
set_option linter.unusedVariables false
set_option linter.unusedSimpArgs false
attribute [local irreducible] prP gP gE gF AJ ixW ldc ldg ldl stc stg scW mkW apW A6 cl2 BF CM CB
variable {w0:World}
end Go.Proofs.Ytklmcfpgdfibnaa.P
namespace Go.Proofs.Ytklmcfpgdfibnaa.P
open Go Go.Proofs.Ytklmcfpgdfibnaa Go.Proofs.Ytklmcfpgdfibnaa.Eng
set_option linter.unusedVariables false
def tl:Int→List Int→ByteArray
 | _,[]=>⟨#[]⟩
 | b,x::xs=>SI (x-b)++tl x xs
end Go.Proofs.Ytklmcfpgdfibnaa.P
namespace Go.Proofs.Ytklmcfpgdfibnaa.P
open Go Go.Proofs.Ytklmcfpgdfibnaa Go.Proofs.Ytklmcfpgdfibnaa.Eng
set_option linter.unusedVariables false
theorem nS {l:List An} {x:An} {i:Nat} (h:i<l.length):an (l++[x]) i=an l i:=by unfold an;rw [List.getD_eq_getElem?_getD,List.getElem?_append_left h,List.getD_eq_getElem?_getD]
theorem tD (l:List An) (x:An):an (l++[x]) l.length=x:=by unfold an;rw [List.getD_eq_getElem?_getD,List.getElem?_append_right (Nat.le_refl _)];simp
end Go.Proofs.Ytklmcfpgdfibnaa.P
namespace Go.Proofs.Ytklmcfpgdfibnaa.P
open Go Go.Proofs.Ytklmcfpgdfibnaa Go.Proofs.Ytklmcfpgdfibnaa.Eng
set_option linter.unusedVariables false
set_option maxHeartbeats 4000000
set_option linter.unusedVariables false
set_option linter.unusedSimpArgs false
attribute [local irreducible] prP gP gE gF AJ ixW ldc ldg ldl stc stg scW mkW apW A6 cl2 BF CM CB
variable {w0:World}
noncomputable def agr (ops:List Op5) (ans:List An):Nat→Nat
 | 0=>0
 | i+1=>if agr ops ans i=i∧(CG (DV ops i).1 (po ops i)).2=an ans i then i+1 else agr ops ans i
structure RB2 where
 code:Int
 n:Nat
 hp:Hp
 ops:List Op5
 ans:List An
end Go.Proofs.Ytklmcfpgdfibnaa.P
namespace Go.Proofs.Ytklmcfpgdfibnaa.P
open Go Go.Proofs.Ytklmcfpgdfibnaa Go.Proofs.Ytklmcfpgdfibnaa.Eng
set_option linter.unusedVariables false
set_option maxHeartbeats 4000000
set_option linter.unusedVariables false
set_option linter.unusedSimpArgs false
attribute [local irreducible] prP gP gE gF AJ ixW ldc ldg ldl stc stg scW mkW apW A6 cl2 BF CM CB
variable {w0:World}
theorem yG (o:An):tv (nxT (tA o) 0)=I o.code:=rfl
theorem yK (o:An):tv (nxT (tA o) 1)=I o.val:=rfl
end Go.Proofs.Ytklmcfpgdfibnaa.P
namespace Go.Proofs.Ytklmcfpgdfibnaa.P
open Go Go.Proofs.Ytklmcfpgdfibnaa Go.Proofs.Ytklmcfpgdfibnaa.Eng
set_option linter.unusedVariables false
theorem SE (l:List Op5): ∀n k,k<n→an (DV l n).2 k=(CG (DV l k).1 (po l k)).2
 | 0,k,hk=>by omega
 | n+1,k,hk=>by
   simp only [DV]
   have hl:=(I9 l n).2
   rcases Nat.lt_or_ge k n with h | h
   ·rw [nS (by omega),SE l n k h]
   ·have:k=n:=by omega
    subst this
    have e:=tD (DV l k).2 (CG (DV l k).1 (po l k)).2
    rwa [hl] at e
end Go.Proofs.Ytklmcfpgdfibnaa.P
