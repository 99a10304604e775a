/- A part of the proof. -/
import Derived.Test.YtnhicpkhkaihoaaGreatFtEngZ
import Derived.Test.YtnhicpkhkaihoaaGreatFtHpX
namespace Go.Proofs.YtnhicpkhkaihoaaGreat.P
open Go Go.Proofs.YtnhicpkhkaihoaaGreat Go.Proofs.YtnhicpkhkaihoaaGreat.Eng
set_option linter.unusedVariables false
theorem Et {a b:ByteArray}:(a==b)=decide (a=b):=by
 by_cases h:a=b
 ·subst h;simp
 ·simp [h]
instance Fm:DecidableEq Op5:=fun x y=>decidable_of_iff (x.kind=y.kind∧x.a=y.a∧x.b=y.b∧x.c=y.c∧x.site=y.site) (by cases x;cases y;simp)
instance Fl:DecidableEq Wk:=fun x y=>decidable_of_iff (x.used=y.used∧x.target=y.target) (by cases x;cases y;simp)
instance Fk:DecidableEq An:=fun x y=>decidable_of_iff (x.code=y.code∧x.val=y.val∧x.freed=y.freed) (by cases x;cases y;simp)
def fI (n : String) (o b : Nat) : Field := { name := n, type := 3, offset := o, embedded := false, tag := "", pkgPath := "", byteOffset := b }
def fB (n : String) (o b : Nat) : Field := { name := n, type := 4, offset := o, embedded := false, tag := "", pkgPath := "", byteOffset := b }
def fS (n : String) (o b : Nat) : Field := { name := n, type := 9, offset := o, embedded := false, tag := "", pkgPath := "", byteOffset := b }
theorem vB {d : Nat} {xs ys : Array Value} {n : String} {o k : Nat} {fs : List Field} {a b : Int} (hn : n ≠ "_") (hx : xs[o]? = some (I a)) (hy : ys[o]? = some (I b)) :
  CE Tryz.prog (Op.eqFields (d+1) xs ys (fI n o k::fs))=if (a==b) then CE Tryz.prog (Op.eqFields (d+1) xs ys fs) else some false:=
 lV (f:=fI n o k) hn Tryz.underlying3 rfl hx hy (Ca Tryz.underlying3)
theorem Fj {d : Nat} {xs ys : Array Value} {n : String} {o k : Nat} {fs : List Field} {a b : Bool} (hn : n ≠ "_") (hx : xs[o]? = some (.bool a)) (hy : ys[o]? = some (.bool b)) :
  CE Tryz.prog (Op.eqFields (d+1) xs ys (fB n o k::fs))=if (a==b) then CE Tryz.prog (Op.eqFields (d+1) xs ys fs) else some false:=
 lV (f:=fB n o k) hn Tryz.underlying4 rfl hx hy (Bt Tryz.underlying4)
theorem Fh {d : Nat} {xs ys : Array Value} {n : String} {o k : Nat} {fs : List Field} {a b : ByteArray} (hn : n ≠ "_") (hx : xs[o]? = some (.string a)) (hy : ys[o]? = some (.string b)) :
  CE Tryz.prog (Op.eqFields (d+1) xs ys (fS n o k::fs))=if (a==b) then CE Tryz.prog (Op.eqFields (d+1) xs ys fs) else some false:=
 lV (f:=fS n o k) hn Tryz.underlying9 rfl hx hy (Ak Tryz.underlying9)
theorem Er : (Tryz.prog.fieldsOf 63).toList = [fI "Kind" 0 0, fI "A" 1 8, fI "B" 2 16, fI "C" 3 24, fS "Site" 4 32] := by kernel_rfl
theorem El : (Tryz.prog.fieldsOf 70).toList = [fB "Used" 0 0, fI "Target" 1 8] := by kernel_rfl
theorem uA {x y:Op5} {K:Value→Prop} (h:K (.bool (decide (x≠y)))):prP (bnA Tryz.prog .neq 63 (.agg #[I x.kind,I x.a,I x.b,I x.c, .string x.site]) (.agg #[I y.kind,I y.a,I y.b,I y.c, .string y.site])) K:=by
 obtain ⟨a1,a2,a3,a4,a5⟩:=x
 obtain ⟨b1,b2,b3,b4,b5⟩:=y
 have e:=oU (P:=Tryz.prog) (t:=63) (xs:= #[I a1,I a2,I a3,I a4, .string a5]) (ys:= #[I b1,I b2,I b3,I b4, .string b5]) (r:=decide ((⟨a1,a2,a3,a4,a5⟩:Op5)=⟨b1,b2,b3,b4,b5⟩)) (by simp [plain]) (by simp [plain]) (by kernel_rfl) (by kernel_rfl) (by kernel_rfl) (by
  rw [Er,vB (by decide) rfl rfl,vB (by decide) rfl rfl,vB (by decide) rfl rfl,vB (by decide) rfl rfl,Fh (by decide) rfl rfl,Et]
  have en:CE Tryz.prog (Op.eqFields 9999 #[I a1,I a2,I a3,I a4, .string a5] #[I b1,I b2,I b3,I b4, .string b5] [])=some true:=rfl
  rw [en]
  simp only [Op5.mk.injEq,beq_iff_eq,decide_eq_true_eq]
  repeat' split
  all_goals simp_all)
 rw [e]
 refine BK rfl ?_
 have:(!decide ((⟨a1,a2,a3,a4,a5⟩:Op5)=⟨b1,b2,b3,b4,b5⟩))=decide ((⟨a1,a2,a3,a4,a5⟩:Op5)≠⟨b1,b2,b3,b4,b5⟩):=by simp
 rw [this];exact h
theorem uI {x y:Wk} {K:Value→Prop} (h:K (.bool (decide (x≠y)))):prP (bnA Tryz.prog .neq 70 (.agg #[.bool x.used,I x.target]) (.agg #[.bool y.used,I y.target])) K:=by
 obtain ⟨a1,a2⟩:=x
 obtain ⟨b1,b2⟩:=y
 have e:=oU (P:=Tryz.prog) (t:=70) (xs:= #[.bool a1,I a2]) (ys:= #[.bool b1,I b2]) (r:=decide ((⟨a1,a2⟩:Wk)=⟨b1,b2⟩)) (by simp [plain]) (by simp [plain]) (by kernel_rfl) (by kernel_rfl) (by kernel_rfl) (by
  rw [El,Fj (by decide) rfl rfl,vB (by decide) rfl rfl]
  have en:CE Tryz.prog (Op.eqFields 9999 #[.bool a1,I a2] #[.bool b1,I b2] [])=some true:=rfl
  rw [en]
  simp only [Wk.mk.injEq,beq_iff_eq]
  repeat' split
  all_goals simp_all)
 rw [e]
 refine BK rfl ?_
 have:(!decide ((⟨a1,a2⟩:Wk)=⟨b1,b2⟩))=decide ((⟨a1,a2⟩:Wk)≠⟨b1,b2⟩):=by simp
 rw [this];exact h
end Go.Proofs.YtnhicpkhkaihoaaGreat.P
