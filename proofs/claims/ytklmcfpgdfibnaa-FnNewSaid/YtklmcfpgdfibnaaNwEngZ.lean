/- A part of the proof. -/
import Derived.Test.YtklmcfpgdfibnaaNwEngM6
import Derived.Laws.StructEq
namespace Go.Proofs.Ytklmcfpgdfibnaa.Eng
open Go Go.RowKit
set_option linter.unusedVariables false
theorem II {α β:Type} {P:Program} {f:α→Sem β}: ∀{s:Sem α},CC P (s>>=f)=(CC P s).bind fun a=>CC P (f a)
 | .pure a=>rfl
 | .program k=>by
   show CC P (k P>>=f)=_
   exact II
 | .load .. | .store .. | .new .. | .shape .. | .freeze .. | .frozen .. | .getObj .. | .setObj .. | .choose .. | .sys .. | .mark .. | .halt .. =>rfl
theorem JE {α:Type} {P:Program} {a:α}:CC P (pure a)=some a:=rfl
theorem cH {α:Type} {P:Program} {c:Prop} [Decidable c] {s t:Sem α}:CC P (if c then s else t)=if c then CC P s else CC P t:=by split <;> rfl
theorem QW {P:Program}:CC P program=some P:=rfl
theorem JZ {P:Program} {t:TypeId} {d:TypeDesc} (h:P.underlying t=some d):CC P (underlying t)=some d:=by
 simp only [underlying,II,QW,Option.bind_some,h,JE]
theorem iD {P:Program} (d:Nat) (t:TypeId) (xs ys:Array Value) (ht:P.underlying t=some (.struct (P.fieldsOf t))) (hp:P.stoodInHeld t=false):
  CC P (Op.equalIn (d+1) t (.agg xs) (.agg ys))=CC P (Op.eqFields d xs ys (P.fieldsOf t).toList):=by
 simp only [Op.equalIn,II,JZ ht,Option.bind_some,QW,hp,Bool.false_eq_true,if_false]
 rw [←Array.forIn_toList]
 generalize (P.fieldsOf t).toList=fs
 clear ht
 induction fs with
 | nil=>simp [Op.eqFields,JE]
 | cons f fs ih=>
   simp only [List.forIn_cons,Op.eqFields,II,cH]
   split
   ·generalize CC P (part f.type xs f.offset)=r1
    cases r1 with
    | none=>rfl
    | some a=>
      simp only [Option.bind_some]
      generalize CC P (part f.type ys f.offset)=r2
      cases r2 with
      | none=>rfl
      | some b=>
        simp only [Option.bind_some]
        generalize CC P (Op.equalIn d f.type a b)=r3
        cases r3 with
        | none=>rfl
        | some r=>
          cases r
          ·simp only [Option.bind_some,Bool.not_false,if_true,JE]
          ·simp only [Option.bind_some,Bool.not_true,Bool.false_eq_true,if_false,JE]
           exact ih
   ·simp only [JE,Option.bind_some]
    exact ih
def sI:TypeDesc→Bool
 | .int _=>true
 | .bool=>true
 | .string=>true
 | _=>false
theorem eR {P:Program} {t:TypeId} {td:TypeDesc} {cs:Array Value} {off:Nat} {v:Value} (ht:P.underlying t=some td) (hp:sI td=true) (h:cs[off]? =some v):CC P (part t cs off)=some v:=by
 have e:CC P (isAgg t)=some false:=by
  simp only [isAgg,II,JZ ht,Option.bind_some]
  cases td <;> first | rfl | cases hp
 simp only [part,II,e,Option.bind_some,Bool.false_eq_true,if_false,h,JE]
theorem rA {P:Program} {d:Nat} {t:TypeId} {k k':IntKind} {a b:Int} (ht:P.underlying t=some (.int k')):CC P (Op.equalIn (d+1) t (.int k a) (.int k b))=some (a==b):=by
 simp [Op.equalIn,II,JZ ht,JE]
theorem qK {P:Program} {d:Nat} {t:TypeId} {a b:Bool} (ht:P.underlying t=some .bool):CC P (Op.equalIn (d+1) t (.bool a) (.bool b))=some (a==b):=by
 simp [Op.equalIn,II,JZ ht,JE]
theorem lI {P : Program} {d : Nat} {xs ys : Array Value} {f : Field} {fs : List Field} {td : TypeDesc} {a b : Value} {r : Bool} (hn : f.name ≠ "_") (ht : P.underlying f.type = some td) (hp : sI td = true) (hx : xs[f.offset]? = some a) (hy : ys[f.offset]? = some b) (he : CC P (Op.equalIn d f.type a b) = some r) :
  CC P (Op.eqFields d xs ys (f::fs))=if r then CC P (Op.eqFields d xs ys fs) else some false:=by
 simp only [Op.eqFields,if_pos hn,II,eR ht hp hx,eR ht hp hy,Option.bind_some,he,cH,JE]
 cases r <;> rfl
theorem pA {P:Program} {t:TypeId} {xs ys:Array Value} {r:Bool} (hx:xs.all plain=true) (hy:ys.all plain=true) (ht:P.underlying t=some (.struct (P.fieldsOf t))) (hp:P.stoodInHeld t=false) (hg:P.eqGuardType P.depth t=false) (h:CC P (Op.eqFields 9999 xs ys (P.fieldsOf t).toList)=some r):
  bnA P .neq t (.agg xs) (.agg ys)=some (.bool !r):=by
 have e:CC P (do eqGuard .neq t (.tmp 0) (.tmp 0) (.agg xs) (.agg ys);binOp .neq t (.agg xs) (.agg ys))=some (.bool !r):=by
  have h1:CC P (eqGuard .neq t (.tmp 0) (.tmp 0) (.agg xs) (.agg ys))=some ():=by
   simp [eqGuard,II,QW,hg,JE,cH]
  rw [II,h1,Option.bind_some]
  simp only [binOp,Op.equal,Op.maxDepth,II,iD 9999 t xs ys ht hp,h,Option.bind_some,JE]
 simp only [bnA,hx,hy,Bool.and_self,if_true,e]
end Go.Proofs.Ytklmcfpgdfibnaa.Eng
