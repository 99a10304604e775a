/- A part of the proof. -/
import Derived.Test.YtklmcfpgdfibnaaLeEngM6
import Derived.Laws.StructEq
namespace Go.Proofs.Ytklmcfpgdfibnaa.Eng
open Go Go.RowKit
set_option linter.unusedVariables false
theorem IE {α β:Type} {P:Program} {f:α→Sem β}: ∀{s:Sem α},CF P (s>>=f)=(CF P s).bind fun a=>CF P (f a)
 | .pure a=>rfl
 | .program k=>by
   show CF P (k P>>=f)=_
   exact IE
 | .load .. | .store .. | .new .. | .shape .. | .freeze .. | .frozen .. | .getObj .. | .setObj .. | .choose .. | .sys .. | .mark .. | .halt .. =>rfl
theorem I2 {α:Type} {P:Program} {a:α}:CF P (pure a)=some a:=rfl
theorem fZ {α:Type} {P:Program} {c:Prop} [Decidable c] {s t:Sem α}:CF P (if c then s else t)=if c then CF P s else CF P t:=by split <;> rfl
theorem QT {P:Program}:CF P program=some P:=rfl
theorem JV {P:Program} {t:TypeId} {d:TypeDesc} (h:P.underlying t=some d):CF P (underlying t)=some d:=by
 simp only [underlying,IE,QT,Option.bind_some,h,I2]
theorem mD {P:Program} (d:Nat) (t:TypeId) (xs ys:Array Value) (ht:P.underlying t=some (.struct (P.fieldsOf t))) (hp:P.stoodInHeld t=false):
  CF P (Op.equalIn (d+1) t (.agg xs) (.agg ys))=CF P (Op.eqFields d xs ys (P.fieldsOf t).toList):=by
 simp only [Op.equalIn,IE,JV ht,Option.bind_some,QT,hp,Bool.false_eq_true,if_false]
 rw [←Array.forIn_toList]
 generalize (P.fieldsOf t).toList=fs
 clear ht
 induction fs with
 | nil=>simp [Op.eqFields,I2]
 | cons f fs ih=>
   simp only [List.forIn_cons,Op.eqFields,IE,fZ]
   split
   ·generalize CF P (part f.type xs f.offset)=r1
    cases r1 with
    | none=>rfl
    | some a=>
      simp only [Option.bind_some]
      generalize CF P (part f.type ys f.offset)=r2
      cases r2 with
      | none=>rfl
      | some b=>
        simp only [Option.bind_some]
        generalize CF P (Op.equalIn d f.type a b)=r3
        cases r3 with
        | none=>rfl
        | some r=>
          cases r
          ·simp only [Option.bind_some,Bool.not_false,if_true,I2]
          ·simp only [Option.bind_some,Bool.not_true,Bool.false_eq_true,if_false,I2]
           exact ih
   ·simp only [I2,Option.bind_some]
    exact ih
def y9:TypeDesc→Bool
 | .int _=>true
 | .bool=>true
 | .string=>true
 | _=>false
theorem jE {P:Program} {t:TypeId} {td:TypeDesc} {cs:Array Value} {off:Nat} {v:Value} (ht:P.underlying t=some td) (hp:y9 td=true) (h:cs[off]? =some v):CF P (part t cs off)=some v:=by
 have e:CF P (isAgg t)=some false:=by
  simp only [isAgg,IE,JV ht,Option.bind_some]
  cases td <;> first | rfl | cases hp
 simp only [part,IE,e,Option.bind_some,Bool.false_eq_true,if_false,h,I2]
theorem xW {P:Program} {d:Nat} {t:TypeId} {k k':IntKind} {a b:Int} (ht:P.underlying t=some (.int k')):CF P (Op.equalIn (d+1) t (.int k a) (.int k b))=some (a==b):=by
 simp [Op.equalIn,IE,JV ht,I2]
theorem wP {P:Program} {d:Nat} {t:TypeId} {a b:ByteArray} (ht:P.underlying t=some .string):CF P (Op.equalIn (d+1) t (.string a) (.string b))=some (a==b):=by
 simp [Op.equalIn,IE,JV ht,I2]
theorem mN {P : Program} {d : Nat} {xs ys : Array Value} {f : Field} {fs : List Field} {td : TypeDesc} {a b : Value} {r : Bool} (hn : f.name ≠ "_") (ht : P.underlying f.type = some td) (hp : y9 td = true) (hx : xs[f.offset]? = some a) (hy : ys[f.offset]? = some b) (he : CF P (Op.equalIn d f.type a b) = some r) :
  CF P (Op.eqFields d xs ys (f::fs))=if r then CF P (Op.eqFields d xs ys fs) else some false:=by
 simp only [Op.eqFields,if_pos hn,IE,jE ht hp hx,jE ht hp hy,Option.bind_some,he,fZ,I2]
 cases r <;> rfl
theorem rQ {P:Program} {t:TypeId} {xs ys:Array Value} {r:Bool} (hx:xs.all plain=true) (hy:ys.all plain=true) (ht:P.underlying t=some (.struct (P.fieldsOf t))) (hp:P.stoodInHeld t=false) (hg:P.eqGuardType P.depth t=false) (h:CF P (Op.eqFields 9999 xs ys (P.fieldsOf t).toList)=some r):
  bnA P .neq t (.agg xs) (.agg ys)=some (.bool !r):=by
 have e:CF P (do eqGuard .neq t (.tmp 0) (.tmp 0) (.agg xs) (.agg ys);binOp .neq t (.agg xs) (.agg ys))=some (.bool !r):=by
  have h1:CF P (eqGuard .neq t (.tmp 0) (.tmp 0) (.agg xs) (.agg ys))=some ():=by
   simp [eqGuard,IE,QT,hg,I2,fZ]
  rw [IE,h1,Option.bind_some]
  simp only [binOp,Op.equal,Op.maxDepth,IE,mD 9999 t xs ys ht hp,h,Option.bind_some,I2]
 simp only [bnA,hx,hy,Bool.and_self,if_true,e]
end Go.Proofs.Ytklmcfpgdfibnaa.Eng
