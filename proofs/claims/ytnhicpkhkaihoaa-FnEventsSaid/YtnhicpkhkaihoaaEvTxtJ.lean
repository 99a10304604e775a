/- A part of the proof. -/
import Derived.Test.YtnhicpkhkaihoaaEvEngZ
import Derived.Test.YtnhicpkhkaihoaaEvHpX
namespace Go.Proofs.Ytnhicpkhkaihoaa.P
open Go Go.Proofs.Ytnhicpkhkaihoaa Go.Proofs.Ytnhicpkhkaihoaa.Eng
set_option linter.unusedVariables false
theorem vO {a b:ByteArray}:(a==b)=decide (a=b):=by
 by_cases h:a=b
 ·subst h;simp
 ·simp [h]
instance wN:DecidableEq Op5:=fun x y=>decidable_of_iff (x.kind=y.kind∧x.a=y.a∧x.b=y.b∧x.c=y.c∧x.site=y.site) (by cases x;cases y;simp)
instance wP:DecidableEq Wk:=fun x y=>decidable_of_iff (x.used=y.used∧x.target=y.target) (by cases x;cases y;simp)
instance wO:DecidableEq An:=fun x y=>decidable_of_iff (x.code=y.code∧x.val=y.val∧x.freed=y.freed) (by cases x;cases y;simp)
def fI (n : String) (o b : Nat) : Field := { name := n, type := 3, offset := o, embedded := false, tag := "", pkgPath := "", byteOffset := b }
def fS (n : String) (o b : Nat) : Field := { name := n, type := 9, offset := o, embedded := false, tag := "", pkgPath := "", byteOffset := b }
theorem oX {d : Nat} {xs ys : Array Value} {n : String} {o k : Nat} {fs : List Field} {a b : Int} (hn : n ≠ "_") (hx : xs[o]? = some (I a)) (hy : ys[o]? = some (I b)) :
  B8 Try.prog (Op.eqFields (d+1) xs ys (fI n o k::fs))=if (a==b) then B8 Try.prog (Op.eqFields (d+1) xs ys fs) else some false:=
 nJ (f:=fI n o k) hn Try.underlying3 rfl hx hy (sG Try.underlying3)
theorem wK {d : Nat} {xs ys : Array Value} {n : String} {o k : Nat} {fs : List Field} {a b : ByteArray} (hn : n ≠ "_") (hx : xs[o]? = some (.string a)) (hy : ys[o]? = some (.string b)) :
  B8 Try.prog (Op.eqFields (d+1) xs ys (fS n o k::fs))=if (a==b) then B8 Try.prog (Op.eqFields (d+1) xs ys fs) else some false:=
 nJ (f:=fS n o k) hn Try.underlying9 rfl hx hy (rZ Try.underlying9)
theorem vQ : (Try.prog.fieldsOf 56).toList = [fI "Kind" 0 0, fI "A" 1 8, fI "B" 2 16, fI "C" 3 24, fS "Site" 4 32] := by kernel_rfl
theorem lM {x y:Op5} {K:Value→Prop} (h:K (.bool (decide (x≠y)))):prP (bnA Try.prog .neq 56 (.agg #[I x.kind,I x.a,I x.b,I x.c, .string x.site]) (.agg #[I y.kind,I y.a,I y.b,I y.c, .string y.site])) K:=by
 obtain ⟨a1,a2,a3,a4,a5⟩:=x
 obtain ⟨b1,b2,b3,b4,b5⟩:=y
 have e:=oY (P:=Try.prog) (t:=56) (xs:= #[I a1,I a2,I a3,I a4, .string a5]) (ys:= #[I b1,I b2,I b3,I b4, .string b5]) (r:=decide ((⟨a1,a2,a3,a4,a5⟩:Op5)=⟨b1,b2,b3,b4,b5⟩)) (by simp [plain]) (by simp [plain]) (by kernel_rfl) (by kernel_rfl) (by kernel_rfl) (by
  rw [vQ,oX (by decide) rfl rfl,oX (by decide) rfl rfl,oX (by decide) rfl rfl,oX (by decide) rfl rfl,wK (by decide) rfl rfl,vO]
  have en:B8 Try.prog (Op.eqFields 9999 #[I a1,I a2,I a3,I a4, .string a5] #[I b1,I b2,I b3,I b4, .string b5] [])=some true:=rfl
  rw [en]
  simp only [Op5.mk.injEq,beq_iff_eq,decide_eq_true_eq]
  repeat' split
  all_goals simp_all)
 rw [e]
 refine BC rfl ?_
 have:(!decide ((⟨a1,a2,a3,a4,a5⟩:Op5)=⟨b1,b2,b3,b4,b5⟩))=decide ((⟨a1,a2,a3,a4,a5⟩:Op5)≠⟨b1,b2,b3,b4,b5⟩):=by simp
 rw [this];exact h
end Go.Proofs.Ytnhicpkhkaihoaa.P
