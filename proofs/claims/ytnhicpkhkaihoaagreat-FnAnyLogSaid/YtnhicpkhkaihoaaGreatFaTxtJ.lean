/- A part of the proof. -/
import Derived.Test.YtnhicpkhkaihoaaGreatFaEngZ
import Derived.Test.YtnhicpkhkaihoaaGreatFaHpX
namespace Go.Proofs.YtnhicpkhkaihoaaGreat.P
open Go Go.Proofs.YtnhicpkhkaihoaaGreat Go.Proofs.YtnhicpkhkaihoaaGreat.Eng
set_option linter.unusedVariables false
instance Gg:DecidableEq Op5:=fun x y=>decidable_of_iff (x.kind=y.kind∧x.a=y.a∧x.b=y.b∧x.c=y.c∧x.site=y.site) (by cases x;cases y;simp)
instance Gf:DecidableEq Wk:=fun x y=>decidable_of_iff (x.used=y.used∧x.target=y.target) (by cases x;cases y;simp)
instance Ge:DecidableEq An:=fun x y=>decidable_of_iff (x.code=y.code∧x.val=y.val∧x.freed=y.freed) (by cases x;cases y;simp)
def fI (n : String) (o b : Nat) : Field := { name := n, type := 3, offset := o, embedded := false, tag := "", pkgPath := "", byteOffset := b }
def fB (n : String) (o b : Nat) : Field := { name := n, type := 4, offset := o, embedded := false, tag := "", pkgPath := "", byteOffset := b }
theorem Fp {d : Nat} {xs ys : Array Value} {n : String} {o k : Nat} {fs : List Field} {a b : Int} (hn : n ≠ "_") (hx : xs[o]? = some (I a)) (hy : ys[o]? = some (I b)) :
  CW Tryz.prog (Op.eqFields (d+1) xs ys (fI n o k::fs))=if (a==b) then CW Tryz.prog (Op.eqFields (d+1) xs ys fs) else some false:=
 vE (f:=fI n o k) hn Tryz.underlying3 rfl hx hy (Ch Tryz.underlying3)
theorem Ft {d : Nat} {xs ys : Array Value} {n : String} {o k : Nat} {fs : List Field} {a b : Bool} (hn : n ≠ "_") (hx : xs[o]? = some (.bool a)) (hy : ys[o]? = some (.bool b)) :
  CW Tryz.prog (Op.eqFields (d+1) xs ys (fB n o k::fs))=if (a==b) then CW Tryz.prog (Op.eqFields (d+1) xs ys fs) else some false:=
 vE (f:=fB n o k) hn Tryz.underlying4 rfl hx hy (Ca Tryz.underlying4)
theorem Fl : (Tryz.prog.fieldsOf 70).toList = [fB "Used" 0 0, fI "Target" 1 8] := by kernel_rfl
theorem wT {x y:Wk} {K:Value→Prop} (h:K (.bool (decide (x≠y)))):prP (bnA Tryz.prog .neq 70 (.agg #[.bool x.used,I x.target]) (.agg #[.bool y.used,I y.target])) K:=by
 obtain ⟨a1,a2⟩:=x
 obtain ⟨b1,b2⟩:=y
 have e:=yH (P:=Tryz.prog) (t:=70) (xs:= #[.bool a1,I a2]) (ys:= #[.bool b1,I b2]) (r:=decide ((⟨a1,a2⟩:Wk)=⟨b1,b2⟩)) (by simp [plain]) (by simp [plain]) (by kernel_rfl) (by kernel_rfl) (by kernel_rfl) (by
  rw [Fl,Ft (by decide) rfl rfl,Fp (by decide) rfl rfl]
  have en:CW Tryz.prog (Op.eqFields 9999 #[.bool a1,I a2] #[.bool b1,I b2] [])=some true:=rfl
  rw [en]
  simp only [Wk.mk.injEq,beq_iff_eq]
  repeat' split
  all_goals simp_all)
 rw [e]
 refine BL rfl ?_
 have:(!decide ((⟨a1,a2⟩:Wk)=⟨b1,b2⟩))=decide ((⟨a1,a2⟩:Wk)≠⟨b1,b2⟩):=by simp
 rw [this];exact h
end Go.Proofs.YtnhicpkhkaihoaaGreat.P
