/- A part of the proof. -/
import Derived.Test.YtnhicpkhkaihoaaGreatFaEngM6
import Derived.Laws.StructEq
namespace Go.Proofs.YtnhicpkhkaihoaaGreat.Eng
open Go Go.RowKit
set_option linter.unusedVariables false
theorem LB {α β:Type} {P:Program} {f:α→Sem β}: ∀{s:Sem α},CW P (s>>=f)=(CW P s).bind fun a=>CW P (f a)
 | .pure a=>rfl
 | .program k=>by
   show CW P (k P>>=f)=_
   exact LB
 | .load .. | .store .. | .new .. | .shape .. | .freeze .. | .frozen .. | .getObj .. | .setObj .. | .choose .. | .sys .. | .mark .. | .halt .. =>rfl
theorem MD {α:Type} {P:Program} {a:α}:CW P (pure a)=some a:=rfl
theorem mL {α:Type} {P:Program} {c:Prop} [Decidable c] {s t:Sem α}:CW P (if c then s else t)=if c then CW P s else CW P t:=by split <;> rfl
theorem U2 {P:Program}:CW P program=some P:=rfl
theorem MZ {P:Program} {t:TypeId} {d:TypeDesc} (h:P.underlying t=some d):CW P (underlying t)=some d:=by
 simp only [underlying,LB,U2,Option.bind_some,h,MD]
theorem rY {P:Program} (d:Nat) (t:TypeId) (xs ys:Array Value) (ht:P.underlying t=some (.struct (P.fieldsOf t))) (hp:P.stoodInHeld t=false):
  CW P (Op.equalIn (d+1) t (.agg xs) (.agg ys))=CW P (Op.eqFields d xs ys (P.fieldsOf t).toList):=by
 simp only [Op.equalIn,LB,MZ ht,Option.bind_some,U2,hp,Bool.false_eq_true,if_false]
 rw [←Array.forIn_toList]
 generalize (P.fieldsOf t).toList=fs
 clear ht
 induction fs with
 | nil=>simp [Op.eqFields,MD]
 | cons f fs ih=>
   simp only [List.forIn_cons,Op.eqFields,LB,mL]
   split
   ·generalize CW P (part f.type xs f.offset)=r1
    cases r1 with
    | none=>rfl
    | some a=>
      simp only [Option.bind_some]
      generalize CW P (part f.type ys f.offset)=r2
      cases r2 with
      | none=>rfl
      | some b=>
        simp only [Option.bind_some]
        generalize CW P (Op.equalIn d f.type a b)=r3
        cases r3 with
        | none=>rfl
        | some r=>
          cases r
          ·simp only [Option.bind_some,Bool.not_false,if_true,MD]
          ·simp only [Option.bind_some,Bool.not_true,Bool.false_eq_true,if_false,MD]
           exact ih
   ·simp only [MD,Option.bind_some]
    exact ih
def Eh:TypeDesc→Bool
 | .int _=>true
 | .bool=>true
 | .string=>true
 | _=>false
theorem pT {P:Program} {t:TypeId} {td:TypeDesc} {cs:Array Value} {off:Nat} {v:Value} (ht:P.underlying t=some td) (hp:Eh td=true) (h:cs[off]? =some v):CW P (part t cs off)=some v:=by
 have e:CW P (isAgg t)=some false:=by
  simp only [isAgg,LB,MZ ht,Option.bind_some]
  cases td <;> first | rfl | cases hp
 simp only [part,LB,e,Option.bind_some,Bool.false_eq_true,if_false,h,MD]
theorem Ch {P:Program} {d:Nat} {t:TypeId} {k k':IntKind} {a b:Int} (ht:P.underlying t=some (.int k')):CW P (Op.equalIn (d+1) t (.int k a) (.int k b))=some (a==b):=by
 simp [Op.equalIn,LB,MZ ht,MD]
theorem Ca {P:Program} {d:Nat} {t:TypeId} {a b:Bool} (ht:P.underlying t=some .bool):CW P (Op.equalIn (d+1) t (.bool a) (.bool b))=some (a==b):=by
 simp [Op.equalIn,LB,MZ ht,MD]
theorem vE {P : Program} {d : Nat} {xs ys : Array Value} {f : Field} {fs : List Field} {td : TypeDesc} {a b : Value} {r : Bool} (hn : f.name ≠ "_") (ht : P.underlying f.type = some td) (hp : Eh td = true) (hx : xs[f.offset]? = some a) (hy : ys[f.offset]? = some b) (he : CW P (Op.equalIn d f.type a b) = some r) :
  CW P (Op.eqFields d xs ys (f::fs))=if r then CW P (Op.eqFields d xs ys fs) else some false:=by
 simp only [Op.eqFields,if_pos hn,LB,pT ht hp hx,pT ht hp hy,Option.bind_some,he,mL,MD]
 cases r <;> rfl
theorem yH {P:Program} {t:TypeId} {xs ys:Array Value} {r:Bool} (hx:xs.all plain=true) (hy:ys.all plain=true) (ht:P.underlying t=some (.struct (P.fieldsOf t))) (hp:P.stoodInHeld t=false) (hg:P.eqGuardType P.depth t=false) (h:CW P (Op.eqFields 9999 xs ys (P.fieldsOf t).toList)=some r):
  bnA P .neq t (.agg xs) (.agg ys)=some (.bool !r):=by
 have e:CW P (do eqGuard .neq t (.tmp 0) (.tmp 0) (.agg xs) (.agg ys);binOp .neq t (.agg xs) (.agg ys))=some (.bool !r):=by
  have h1:CW P (eqGuard .neq t (.tmp 0) (.tmp 0) (.agg xs) (.agg ys))=some ():=by
   simp [eqGuard,LB,U2,hg,MD,mL]
  rw [LB,h1,Option.bind_some]
  simp only [binOp,Op.equal,Op.maxDepth,LB,rY 9999 t xs ys ht hp,h,Option.bind_some,MD]
 simp only [bnA,hx,hy,Bool.and_self,if_true,e]
end Go.Proofs.YtnhicpkhkaihoaaGreat.Eng
