/- A part of the proof. -/
import Derived.Test.YtnhicpkhkaihoaaEvEngM6
import Derived.Laws.StructEq
namespace Go.Proofs.Ytnhicpkhkaihoaa.Eng
open Go Go.RowKit
set_option linter.unusedVariables false
theorem IN {α β:Type} {P:Program} {f:α→Sem β}: ∀{s:Sem α},B8 P (s>>=f)=(B8 P s).bind fun a=>B8 P (f a)
 | .pure a=>rfl
 | .program k=>by
   show B8 P (k P>>=f)=_
   exact IN
 | .load .. | .store .. | .new .. | .shape .. | .freeze .. | .frozen .. | .getObj .. | .setObj .. | .choose .. | .sys .. | .mark .. | .halt .. =>rfl
theorem I8 {α:Type} {P:Program} {a:α}:B8 P (pure a)=some a:=rfl
theorem eV {α:Type} {P:Program} {c:Prop} [Decidable c] {s t:Sem α}:B8 P (if c then s else t)=if c then B8 P s else B8 P t:=by split <;> rfl
theorem QV {P:Program}:B8 P program=some P:=rfl
theorem J7 {P:Program} {t:TypeId} {d:TypeDesc} (h:P.underlying t=some d):B8 P (underlying t)=some d:=by
 simp only [underlying,IN,QV,Option.bind_some,h,I8]
theorem jH {P:Program} (d:Nat) (t:TypeId) (xs ys:Array Value) (ht:P.underlying t=some (.struct (P.fieldsOf t))) (hp:P.stoodInHeld t=false):
  B8 P (Op.equalIn (d+1) t (.agg xs) (.agg ys))=B8 P (Op.eqFields d xs ys (P.fieldsOf t).toList):=by
 simp only [Op.equalIn,IN,J7 ht,Option.bind_some,QV,hp,Bool.false_eq_true,if_false]
 rw [←Array.forIn_toList]
 generalize (P.fieldsOf t).toList=fs
 clear ht
 induction fs with
 | nil=>simp [Op.eqFields,I8]
 | cons f fs ih=>
   simp only [List.forIn_cons,Op.eqFields,IN,eV]
   split
   ·generalize B8 P (part f.type xs f.offset)=r1
    cases r1 with
    | none=>rfl
    | some a=>
      simp only [Option.bind_some]
      generalize B8 P (part f.type ys f.offset)=r2
      cases r2 with
      | none=>rfl
      | some b=>
        simp only [Option.bind_some]
        generalize B8 P (Op.equalIn d f.type a b)=r3
        cases r3 with
        | none=>rfl
        | some r=>
          cases r
          ·simp only [Option.bind_some,Bool.not_false,if_true,I8]
          ·simp only [Option.bind_some,Bool.not_true,Bool.false_eq_true,if_false,I8]
           exact ih
   ·simp only [I8,Option.bind_some]
    exact ih
def uR:TypeDesc→Bool
 | .int _=>true
 | .bool=>true
 | .string=>true
 | _=>false
theorem gL {P:Program} {t:TypeId} {td:TypeDesc} {cs:Array Value} {off:Nat} {v:Value} (ht:P.underlying t=some td) (hp:uR td=true) (h:cs[off]? =some v):B8 P (part t cs off)=some v:=by
 have e:B8 P (isAgg t)=some false:=by
  simp only [isAgg,IN,J7 ht,Option.bind_some]
  cases td <;> first | rfl | cases hp
 simp only [part,IN,e,Option.bind_some,Bool.false_eq_true,if_false,h,I8]
theorem sG {P:Program} {d:Nat} {t:TypeId} {k k':IntKind} {a b:Int} (ht:P.underlying t=some (.int k')):B8 P (Op.equalIn (d+1) t (.int k a) (.int k b))=some (a==b):=by
 simp [Op.equalIn,IN,J7 ht,I8]
theorem rZ {P:Program} {d:Nat} {t:TypeId} {a b:ByteArray} (ht:P.underlying t=some .string):B8 P (Op.equalIn (d+1) t (.string a) (.string b))=some (a==b):=by
 simp [Op.equalIn,IN,J7 ht,I8]
theorem nJ {P : Program} {d : Nat} {xs ys : Array Value} {f : Field} {fs : List Field} {td : TypeDesc} {a b : Value} {r : Bool} (hn : f.name ≠ "_") (ht : P.underlying f.type = some td) (hp : uR td = true) (hx : xs[f.offset]? = some a) (hy : ys[f.offset]? = some b) (he : B8 P (Op.equalIn d f.type a b) = some r) :
  B8 P (Op.eqFields d xs ys (f::fs))=if r then B8 P (Op.eqFields d xs ys fs) else some false:=by
 simp only [Op.eqFields,if_pos hn,IN,gL ht hp hx,gL ht hp hy,Option.bind_some,he,eV,I8]
 cases r <;> rfl
theorem oY {P:Program} {t:TypeId} {xs ys:Array Value} {r:Bool} (hx:xs.all plain=true) (hy:ys.all plain=true) (ht:P.underlying t=some (.struct (P.fieldsOf t))) (hp:P.stoodInHeld t=false) (hg:P.eqGuardType P.depth t=false) (h:B8 P (Op.eqFields 9999 xs ys (P.fieldsOf t).toList)=some r):
  bnA P .neq t (.agg xs) (.agg ys)=some (.bool !r):=by
 have e:B8 P (do eqGuard .neq t (.tmp 0) (.tmp 0) (.agg xs) (.agg ys);binOp .neq t (.agg xs) (.agg ys))=some (.bool !r):=by
  have h1:B8 P (eqGuard .neq t (.tmp 0) (.tmp 0) (.agg xs) (.agg ys))=some ():=by
   simp [eqGuard,IN,QV,hg,I8,eV]
  rw [IN,h1,Option.bind_some]
  simp only [binOp,Op.equal,Op.maxDepth,IN,jH 9999 t xs ys ht hp,h,Option.bind_some,I8]
 simp only [bnA,hx,hy,Bool.and_self,if_true,e]
end Go.Proofs.Ytnhicpkhkaihoaa.Eng
