/- A part of the proof. -/
import Derived.Test.YtklmcfpgdfibnaaNwEngZ
import Derived.Test.YtklmcfpgdfibnaaNwHpX
namespace Go.Proofs.Ytklmcfpgdfibnaa.P
open Go Go.Proofs.Ytklmcfpgdfibnaa Go.Proofs.Ytklmcfpgdfibnaa.Eng
set_option linter.unusedVariables false
instance vH:DecidableEq Op5:=fun x y=>decidable_of_iff (x.kind=y.kind∧x.a=y.a∧x.b=y.b∧x.c=y.c∧x.site=y.site) (by cases x;cases y;simp)
instance vE:DecidableEq Wk:=fun x y=>decidable_of_iff (x.used=y.used∧x.target=y.target) (by cases x;cases y;simp)
instance vF:DecidableEq An:=fun x y=>decidable_of_iff (x.code=y.code∧x.val=y.val∧x.freed=y.freed) (by cases x;cases y;simp)
def fI (n : String) (o b : Nat) : Field := { name := n, type := 3, offset := o, embedded := false, tag := "", pkgPath := "", byteOffset := b }
def fB (n : String) (o b : Nat) : Field := { name := n, type := 4, offset := o, embedded := false, tag := "", pkgPath := "", byteOffset := b }
theorem uT {d : Nat} {xs ys : Array Value} {n : String} {o k : Nat} {fs : List Field} {a b : Int} (hn : n ≠ "_") (hx : xs[o]? = some (I a)) (hy : ys[o]? = some (I b)) :
  CC Try.prog (Op.eqFields (d+1) xs ys (fI n o k::fs))=if (a==b) then CC Try.prog (Op.eqFields (d+1) xs ys fs) else some false:=
 lI (f:=fI n o k) hn Try.underlying3 rfl hx hy (rA Try.underlying3)
theorem uU {d : Nat} {xs ys : Array Value} {n : String} {o k : Nat} {fs : List Field} {a b : Bool} (hn : n ≠ "_") (hx : xs[o]? = some (.bool a)) (hy : ys[o]? = some (.bool b)) :
  CC Try.prog (Op.eqFields (d+1) xs ys (fB n o k::fs))=if (a==b) then CC Try.prog (Op.eqFields (d+1) xs ys fs) else some false:=
 lI (f:=fB n o k) hn Try.underlying4 rfl hx hy (qK Try.underlying4)
theorem uK : (Try.prog.fieldsOf 103).toList = [fB "Used" 0 0, fI "Target" 1 8] := by kernel_rfl
theorem mJ {x y:Wk} {K:Value→Prop} (h:K (.bool (decide (x≠y)))):prP (bnA Try.prog .neq 103 (.agg #[.bool x.used,I x.target]) (.agg #[.bool y.used,I y.target])) K:=by
 obtain ⟨a1,a2⟩:=x
 obtain ⟨b1,b2⟩:=y
 have e:=pA (P:=Try.prog) (t:=103) (xs:= #[.bool a1,I a2]) (ys:= #[.bool b1,I b2]) (r:=decide ((⟨a1,a2⟩:Wk)=⟨b1,b2⟩)) (by simp [plain]) (by simp [plain]) (by kernel_rfl) (by kernel_rfl) (by kernel_rfl) (by
  rw [uK,uU (by decide) rfl rfl,uT (by decide) rfl rfl]
  have en:CC Try.prog (Op.eqFields 9999 #[.bool a1,I a2] #[.bool b1,I b2] [])=some true:=rfl
  rw [en]
  simp only [Wk.mk.injEq,beq_iff_eq]
  repeat' split
  all_goals simp_all)
 rw [e]
 refine CL rfl ?_
 have:(!decide ((⟨a1,a2⟩:Wk)=⟨b1,b2⟩))=decide ((⟨a1,a2⟩:Wk)≠⟨b1,b2⟩):=by simp
 rw [this];exact h
end Go.Proofs.Ytklmcfpgdfibnaa.P
