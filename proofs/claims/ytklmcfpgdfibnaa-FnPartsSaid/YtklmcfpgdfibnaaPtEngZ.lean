/- A part of the proof. -/
import Derived.Test.YtklmcfpgdfibnaaPtEngM6
import Derived.Laws.StructEq
namespace Go.Proofs.Ytklmcfpgdfibnaa.Eng
open Go Go.RowKit
set_option linter.unusedVariables false
theorem IX {α β:Type} {P:Program} {f:α→Sem β}: ∀{s:Sem α},CD P (s>>=f)=(CD P s).bind fun a=>CD P (f a)
 | .pure a=>rfl
 | .program k=>by
   show CD P (k P>>=f)=_
   exact IX
 | .load .. | .store .. | .new .. | .shape .. | .freeze .. | .frozen .. | .getObj .. | .setObj .. | .choose .. | .sys .. | .mark .. | .halt .. =>rfl
theorem JN {α:Type} {P:Program} {a:α}:CD P (pure a)=some a:=rfl
theorem eQ {α:Type} {P:Program} {c:Prop} [Decidable c] {s t:Sem α}:CD P (if c then s else t)=if c then CD P s else CD P t:=by split <;> rfl
theorem QY {P:Program}:CD P program=some P:=rfl
theorem J9 {P:Program} {t:TypeId} {d:TypeDesc} (h:P.underlying t=some d):CD P (underlying t)=some d:=by
 simp only [underlying,IX,QY,Option.bind_some,h,JN]
theorem j5 {P:Program} (d:Nat) (t:TypeId) (xs ys:Array Value) (ht:P.underlying t=some (.struct (P.fieldsOf t))) (hp:P.stoodInHeld t=false):
  CD P (Op.equalIn (d+1) t (.agg xs) (.agg ys))=CD P (Op.eqFields d xs ys (P.fieldsOf t).toList):=by
 simp only [Op.equalIn,IX,J9 ht,Option.bind_some,QY,hp,Bool.false_eq_true,if_false]
 rw [←Array.forIn_toList]
 generalize (P.fieldsOf t).toList=fs
 clear ht
 induction fs with
 | nil=>simp [Op.eqFields,JN]
 | cons f fs ih=>
   simp only [List.forIn_cons,Op.eqFields,IX,eQ]
   split
   ·generalize CD P (part f.type xs f.offset)=r1
    cases r1 with
    | none=>rfl
    | some a=>
      simp only [Option.bind_some]
      generalize CD P (part f.type ys f.offset)=r2
      cases r2 with
      | none=>rfl
      | some b=>
        simp only [Option.bind_some]
        generalize CD P (Op.equalIn d f.type a b)=r3
        cases r3 with
        | none=>rfl
        | some r=>
          cases r
          ·simp only [Option.bind_some,Bool.not_false,if_true,JN]
          ·simp only [Option.bind_some,Bool.not_true,Bool.false_eq_true,if_false,JN]
           exact ih
   ·simp only [JN,Option.bind_some]
    exact ih
def tV:TypeDesc→Bool
 | .int _=>true
 | .bool=>true
 | .string=>true
 | _=>false
theorem gZ {P:Program} {t:TypeId} {td:TypeDesc} {cs:Array Value} {off:Nat} {v:Value} (ht:P.underlying t=some td) (hp:tV td=true) (h:cs[off]? =some v):CD P (part t cs off)=some v:=by
 have e:CD P (isAgg t)=some false:=by
  simp only [isAgg,IX,J9 ht,Option.bind_some]
  cases td <;> first | rfl | cases hp
 simp only [part,IX,e,Option.bind_some,Bool.false_eq_true,if_false,h,JN]
theorem sU {P:Program} {d:Nat} {t:TypeId} {k k':IntKind} {a b:Int} (ht:P.underlying t=some (.int k')):CD P (Op.equalIn (d+1) t (.int k a) (.int k b))=some (a==b):=by
 simp [Op.equalIn,IX,J9 ht,JN]
theorem rM {P:Program} {d:Nat} {t:TypeId} {a b:Bool} (ht:P.underlying t=some .bool):CD P (Op.equalIn (d+1) t (.bool a) (.bool b))=some (a==b):=by
 simp [Op.equalIn,IX,J9 ht,JN]
theorem mT {P : Program} {d : Nat} {xs ys : Array Value} {f : Field} {fs : List Field} {td : TypeDesc} {a b : Value} {r : Bool} (hn : f.name ≠ "_") (ht : P.underlying f.type = some td) (hp : tV td = true) (hx : xs[f.offset]? = some a) (hy : ys[f.offset]? = some b) (he : CD P (Op.equalIn d f.type a b) = some r) :
  CD P (Op.eqFields d xs ys (f::fs))=if r then CD P (Op.eqFields d xs ys fs) else some false:=by
 simp only [Op.eqFields,if_pos hn,IX,gZ ht hp hx,gZ ht hp hy,Option.bind_some,he,eQ,JN]
 cases r <;> rfl
theorem pK {P:Program} {t:TypeId} {xs ys:Array Value} {r:Bool} (hx:xs.all plain=true) (hy:ys.all plain=true) (ht:P.underlying t=some (.struct (P.fieldsOf t))) (hp:P.stoodInHeld t=false) (hg:P.eqGuardType P.depth t=false) (h:CD P (Op.eqFields 9999 xs ys (P.fieldsOf t).toList)=some r):
  bnA P .neq t (.agg xs) (.agg ys)=some (.bool !r):=by
 have e:CD P (do eqGuard .neq t (.tmp 0) (.tmp 0) (.agg xs) (.agg ys);binOp .neq t (.agg xs) (.agg ys))=some (.bool !r):=by
  have h1:CD P (eqGuard .neq t (.tmp 0) (.tmp 0) (.agg xs) (.agg ys))=some ():=by
   simp [eqGuard,IX,QY,hg,JN,eQ]
  rw [IX,h1,Option.bind_some]
  simp only [binOp,Op.equal,Op.maxDepth,IX,j5 9999 t xs ys ht hp,h,Option.bind_some,JN]
 simp only [bnA,hx,hy,Bool.and_self,if_true,e]
end Go.Proofs.Ytklmcfpgdfibnaa.Eng
