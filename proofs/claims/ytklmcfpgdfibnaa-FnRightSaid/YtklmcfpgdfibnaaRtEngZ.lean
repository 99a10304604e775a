/- A part of the proof. -/
import Derived.Test.YtklmcfpgdfibnaaRtEngM6
import Derived.Laws.StructEq
namespace Go.Proofs.Ytklmcfpgdfibnaa.Eng
open Go Go.RowKit
set_option linter.unusedVariables false
theorem I8 {α β:Type} {P:Program} {f:α→Sem β}: ∀{s:Sem α},CH P (s>>=f)=(CH P s).bind fun a=>CH P (f a)
 | .pure a=>rfl
 | .program k=>by
   show CH P (k P>>=f)=_
   exact I8
 | .load .. | .store .. | .new .. | .shape .. | .freeze .. | .frozen .. | .getObj .. | .setObj .. | .choose .. | .sys .. | .mark .. | .halt .. =>rfl
theorem J7 {α:Type} {P:Program} {a:α}:CH P (pure a)=some a:=rfl
theorem eU {α:Type} {P:Program} {c:Prop} [Decidable c] {s t:Sem α}:CH P (if c then s else t)=if c then CH P s else CH P t:=by split <;> rfl
theorem RO {P:Program}:CH P program=some P:=rfl
theorem KP {P:Program} {t:TypeId} {d:TypeDesc} (h:P.underlying t=some d):CH P (underlying t)=some d:=by
 simp only [underlying,I8,RO,Option.bind_some,h,J7]
theorem jL {P:Program} (d:Nat) (t:TypeId) (xs ys:Array Value) (ht:P.underlying t=some (.struct (P.fieldsOf t))) (hp:P.stoodInHeld t=false):
  CH P (Op.equalIn (d+1) t (.agg xs) (.agg ys))=CH P (Op.eqFields d xs ys (P.fieldsOf t).toList):=by
 simp only [Op.equalIn,I8,KP ht,Option.bind_some,RO,hp,Bool.false_eq_true,if_false]
 rw [←Array.forIn_toList]
 generalize (P.fieldsOf t).toList=fs
 clear ht
 induction fs with
 | nil=>simp [Op.eqFields,J7]
 | cons f fs ih=>
   simp only [List.forIn_cons,Op.eqFields,I8,eU]
   split
   ·generalize CH P (part f.type xs f.offset)=r1
    cases r1 with
    | none=>rfl
    | some a=>
      simp only [Option.bind_some]
      generalize CH P (part f.type ys f.offset)=r2
      cases r2 with
      | none=>rfl
      | some b=>
        simp only [Option.bind_some]
        generalize CH P (Op.equalIn d f.type a b)=r3
        cases r3 with
        | none=>rfl
        | some r=>
          cases r
          ·simp only [Option.bind_some,Bool.not_false,if_true,J7]
          ·simp only [Option.bind_some,Bool.not_true,Bool.false_eq_true,if_false,J7]
           exact ih
   ·simp only [J7,Option.bind_some]
    exact ih
def uO:TypeDesc→Bool
 | .int _=>true
 | .bool=>true
 | .string=>true
 | _=>false
theorem fS {P:Program} {t:TypeId} {td:TypeDesc} {cs:Array Value} {off:Nat} {v:Value} (ht:P.underlying t=some td) (hp:uO td=true) (h:cs[off]? =some v):CH P (part t cs off)=some v:=by
 have e:CH P (isAgg t)=some false:=by
  simp only [isAgg,I8,KP ht,Option.bind_some]
  cases td <;> first | rfl | cases hp
 simp only [part,I8,e,Option.bind_some,Bool.false_eq_true,if_false,h,J7]
theorem sU {P:Program} {d:Nat} {t:TypeId} {k k':IntKind} {a b:Int} (ht:P.underlying t=some (.int k')):CH P (Op.equalIn (d+1) t (.int k a) (.int k b))=some (a==b):=by
 simp [Op.equalIn,I8,KP ht,J7]
theorem sH {P:Program} {d:Nat} {t:TypeId} {a b:Bool} (ht:P.underlying t=some .bool):CH P (Op.equalIn (d+1) t (.bool a) (.bool b))=some (a==b):=by
 simp [Op.equalIn,I8,KP ht,J7]
theorem mX {P : Program} {d : Nat} {xs ys : Array Value} {f : Field} {fs : List Field} {td : TypeDesc} {a b : Value} {r : Bool} (hn : f.name ≠ "_") (ht : P.underlying f.type = some td) (hp : uO td = true) (hx : xs[f.offset]? = some a) (hy : ys[f.offset]? = some b) (he : CH P (Op.equalIn d f.type a b) = some r) :
  CH P (Op.eqFields d xs ys (f::fs))=if r then CH P (Op.eqFields d xs ys fs) else some false:=by
 simp only [Op.eqFields,if_pos hn,I8,fS ht hp hx,fS ht hp hy,Option.bind_some,he,eU,J7]
 cases r <;> rfl
theorem pT {P:Program} {t:TypeId} {xs ys:Array Value} {r:Bool} (hx:xs.all plain=true) (hy:ys.all plain=true) (ht:P.underlying t=some (.struct (P.fieldsOf t))) (hp:P.stoodInHeld t=false) (hg:P.eqGuardType P.depth t=false) (h:CH P (Op.eqFields 9999 xs ys (P.fieldsOf t).toList)=some r):
  bnA P .neq t (.agg xs) (.agg ys)=some (.bool !r):=by
 have e:CH P (do eqGuard .neq t (.tmp 0) (.tmp 0) (.agg xs) (.agg ys);binOp .neq t (.agg xs) (.agg ys))=some (.bool !r):=by
  have h1:CH P (eqGuard .neq t (.tmp 0) (.tmp 0) (.agg xs) (.agg ys))=some ():=by
   simp [eqGuard,I8,RO,hg,J7,eU]
  rw [I8,h1,Option.bind_some]
  simp only [binOp,Op.equal,Op.maxDepth,I8,jL 9999 t xs ys ht hp,h,Option.bind_some,J7]
 simp only [bnA,hx,hy,Bool.and_self,if_true,e]
end Go.Proofs.Ytklmcfpgdfibnaa.Eng
