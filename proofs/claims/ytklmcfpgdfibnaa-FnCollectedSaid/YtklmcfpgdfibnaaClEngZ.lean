/- A part of the proof. -/
import Derived.Test.YtklmcfpgdfibnaaClEngM6
import Derived.Laws.StructEq
namespace Go.Proofs.Ytklmcfpgdfibnaa.Eng
open Go Go.RowKit
set_option linter.unusedVariables false
theorem IV {α β:Type} {P:Program} {f:α→Sem β}: ∀{s:Sem α},CD P (s>>=f)=(CD P s).bind fun a=>CD P (f a)
 | .pure a=>rfl
 | .program k=>by
   show CD P (k P>>=f)=_
   exact IV
 | .load .. | .store .. | .new .. | .shape .. | .freeze .. | .frozen .. | .getObj .. | .setObj .. | .choose .. | .sys .. | .mark .. | .halt .. =>rfl
theorem JP {α:Type} {P:Program} {a:α}:CD P (pure a)=some a:=rfl
theorem gB {α:Type} {P:Program} {c:Prop} [Decidable c] {s t:Sem α}:CD P (if c then s else t)=if c then CD P s else CD P t:=by split <;> rfl
theorem RS {P:Program}:CD P program=some P:=rfl
theorem KK {P:Program} {t:TypeId} {d:TypeDesc} (h:P.underlying t=some d):CD P (underlying t)=some d:=by
 simp only [underlying,IV,RS,Option.bind_some,h,JP]
theorem kQ {P:Program} (d:Nat) (t:TypeId) (xs ys:Array Value) (ht:P.underlying t=some (.struct (P.fieldsOf t))) (hp:P.stoodInHeld t=false):
  CD P (Op.equalIn (d+1) t (.agg xs) (.agg ys))=CD P (Op.eqFields d xs ys (P.fieldsOf t).toList):=by
 simp only [Op.equalIn,IV,KK ht,Option.bind_some,RS,hp,Bool.false_eq_true,if_false]
 rw [←Array.forIn_toList]
 generalize (P.fieldsOf t).toList=fs
 clear ht
 induction fs with
 | nil=>simp [Op.eqFields,JP]
 | cons f fs ih=>
   simp only [List.forIn_cons,Op.eqFields,IV,gB]
   split
   ·generalize CD P (part f.type xs f.offset)=r1
    cases r1 with
    | none=>rfl
    | some a=>
      simp only [Option.bind_some]
      generalize CD P (part f.type ys f.offset)=r2
      cases r2 with
      | none=>rfl
      | some b=>
        simp only [Option.bind_some]
        generalize CD P (Op.equalIn d f.type a b)=r3
        cases r3 with
        | none=>rfl
        | some r=>
          cases r
          ·simp only [Option.bind_some,Bool.not_false,if_true,JP]
          ·simp only [Option.bind_some,Bool.not_true,Bool.false_eq_true,if_false,JP]
           exact ih
   ·simp only [JP,Option.bind_some]
    exact ih
def xG:TypeDesc→Bool
 | .int _=>true
 | .bool=>true
 | .string=>true
 | _=>false
theorem jJ {P:Program} {t:TypeId} {td:TypeDesc} {cs:Array Value} {off:Nat} {v:Value} (ht:P.underlying t=some td) (hp:xG td=true) (h:cs[off]? =some v):CD P (part t cs off)=some v:=by
 have e:CD P (isAgg t)=some false:=by
  simp only [isAgg,IV,KK ht,Option.bind_some]
  cases td <;> first | rfl | cases hp
 simp only [part,IV,e,Option.bind_some,Bool.false_eq_true,if_false,h,JP]
theorem uJ {P:Program} {d:Nat} {t:TypeId} {k k':IntKind} {a b:Int} (ht:P.underlying t=some (.int k')):CD P (Op.equalIn (d+1) t (.int k a) (.int k b))=some (a==b):=by
 simp [Op.equalIn,IV,KK ht,JP]
theorem u6 {P:Program} {d:Nat} {t:TypeId} {a b:Bool} (ht:P.underlying t=some .bool):CD P (Op.equalIn (d+1) t (.bool a) (.bool b))=some (a==b):=by
 simp [Op.equalIn,IV,KK ht,JP]
theorem m4 {P : Program} {d : Nat} {xs ys : Array Value} {f : Field} {fs : List Field} {td : TypeDesc} {a b : Value} {r : Bool} (hn : f.name ≠ "_") (ht : P.underlying f.type = some td) (hp : xG td = true) (hx : xs[f.offset]? = some a) (hy : ys[f.offset]? = some b) (he : CD P (Op.equalIn d f.type a b) = some r) :
  CD P (Op.eqFields d xs ys (f::fs))=if r then CD P (Op.eqFields d xs ys fs) else some false:=by
 simp only [Op.eqFields,if_pos hn,IV,jJ ht hp hx,jJ ht hp hy,Option.bind_some,he,gB,JP]
 cases r <;> rfl
theorem qA {P:Program} {t:TypeId} {xs ys:Array Value} {r:Bool} (hx:xs.all plain=true) (hy:ys.all plain=true) (ht:P.underlying t=some (.struct (P.fieldsOf t))) (hp:P.stoodInHeld t=false) (hg:P.eqGuardType P.depth t=false) (h:CD P (Op.eqFields 9999 xs ys (P.fieldsOf t).toList)=some r):
  bnA P .neq t (.agg xs) (.agg ys)=some (.bool !r):=by
 have e:CD P (do eqGuard .neq t (.tmp 0) (.tmp 0) (.agg xs) (.agg ys);binOp .neq t (.agg xs) (.agg ys))=some (.bool !r):=by
  have h1:CD P (eqGuard .neq t (.tmp 0) (.tmp 0) (.agg xs) (.agg ys))=some ():=by
   simp [eqGuard,IV,RS,hg,JP,gB]
  rw [IV,h1,Option.bind_some]
  simp only [binOp,Op.equal,Op.maxDepth,IV,kQ 9999 t xs ys ht hp,h,Option.bind_some,JP]
 simp only [bnA,hx,hy,Bool.and_self,if_true,e]
end Go.Proofs.Ytklmcfpgdfibnaa.Eng
