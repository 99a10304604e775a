/- A part of the proof. -/
import Derived.Test.YtnhicpkhkaihoaaGreatFtEngM6
import Derived.Laws.StructEq
namespace Go.Proofs.YtnhicpkhkaihoaaGreat.Eng
open Go Go.RowKit
set_option linter.unusedVariables false
theorem KD {α β:Type} {P:Program} {f:α→Sem β}: ∀{s:Sem α},CE P (s>>=f)=(CE P s).bind fun a=>CE P (f a)
 | .pure a=>rfl
 | .program k=>by
   show CE P (k P>>=f)=_
   exact KD
 | .load .. | .store .. | .new .. | .shape .. | .freeze .. | .frozen .. | .getObj .. | .setObj .. | .choose .. | .sys .. | .mark .. | .halt .. =>rfl
theorem K2 {α:Type} {P:Program} {a:α}:CE P (pure a)=some a:=rfl
theorem lJ {α:Type} {P:Program} {c:Prop} [Decidable c] {s t:Sem α}:CE P (if c then s else t)=if c then CE P s else CE P t:=by split <;> rfl
theorem T9 {P:Program}:CE P program=some P:=rfl
theorem KU {P:Program} {t:TypeId} {d:TypeDesc} (h:P.underlying t=some d):CE P (underlying t)=some d:=by
 simp only [underlying,KD,T9,Option.bind_some,h,K2]
theorem qJ {P:Program} (d:Nat) (t:TypeId) (xs ys:Array Value) (ht:P.underlying t=some (.struct (P.fieldsOf t))) (hp:P.stoodInHeld t=false):
  CE P (Op.equalIn (d+1) t (.agg xs) (.agg ys))=CE P (Op.eqFields d xs ys (P.fieldsOf t).toList):=by
 simp only [Op.equalIn,KD,KU ht,Option.bind_some,T9,hp,Bool.false_eq_true,if_false]
 rw [←Array.forIn_toList]
 generalize (P.fieldsOf t).toList=fs
 clear ht
 induction fs with
 | nil=>simp [Op.eqFields,K2]
 | cons f fs ih=>
   simp only [List.forIn_cons,Op.eqFields,KD,lJ]
   split
   ·generalize CE P (part f.type xs f.offset)=r1
    cases r1 with
    | none=>rfl
    | some a=>
      simp only [Option.bind_some]
      generalize CE P (part f.type ys f.offset)=r2
      cases r2 with
      | none=>rfl
      | some b=>
        simp only [Option.bind_some]
        generalize CE P (Op.equalIn d f.type a b)=r3
        cases r3 with
        | none=>rfl
        | some r=>
          cases r
          ·simp only [Option.bind_some,Bool.not_false,if_true,K2]
          ·simp only [Option.bind_some,Bool.not_true,Bool.false_eq_true,if_false,K2]
           exact ih
   ·simp only [K2,Option.bind_some]
    exact ih
def Ee:TypeDesc→Bool
 | .int _=>true
 | .bool=>true
 | .string=>true
 | _=>false
theorem o7 {P:Program} {t:TypeId} {td:TypeDesc} {cs:Array Value} {off:Nat} {v:Value} (ht:P.underlying t=some td) (hp:Ee td=true) (h:cs[off]? =some v):CE P (part t cs off)=some v:=by
 have e:CE P (isAgg t)=some false:=by
  simp only [isAgg,KD,KU ht,Option.bind_some]
  cases td <;> first | rfl | cases hp
 simp only [part,KD,e,Option.bind_some,Bool.false_eq_true,if_false,h,K2]
theorem Ca {P:Program} {d:Nat} {t:TypeId} {k k':IntKind} {a b:Int} (ht:P.underlying t=some (.int k')):CE P (Op.equalIn (d+1) t (.int k a) (.int k b))=some (a==b):=by
 simp [Op.equalIn,KD,KU ht,K2]
theorem Bt {P:Program} {d:Nat} {t:TypeId} {a b:Bool} (ht:P.underlying t=some .bool):CE P (Op.equalIn (d+1) t (.bool a) (.bool b))=some (a==b):=by
 simp [Op.equalIn,KD,KU ht,K2]
theorem Ak {P:Program} {d:Nat} {t:TypeId} {a b:ByteArray} (ht:P.underlying t=some .string):CE P (Op.equalIn (d+1) t (.string a) (.string b))=some (a==b):=by
 simp [Op.equalIn,KD,KU ht,K2]
theorem lV {P : Program} {d : Nat} {xs ys : Array Value} {f : Field} {fs : List Field} {td : TypeDesc} {a b : Value} {r : Bool} (hn : f.name ≠ "_") (ht : P.underlying f.type = some td) (hp : Ee td = true) (hx : xs[f.offset]? = some a) (hy : ys[f.offset]? = some b) (he : CE P (Op.equalIn d f.type a b) = some r) :
  CE P (Op.eqFields d xs ys (f::fs))=if r then CE P (Op.eqFields d xs ys fs) else some false:=by
 simp only [Op.eqFields,if_pos hn,KD,o7 ht hp hx,o7 ht hp hy,Option.bind_some,he,lJ,K2]
 cases r <;> rfl
theorem oU {P:Program} {t:TypeId} {xs ys:Array Value} {r:Bool} (hx:xs.all plain=true) (hy:ys.all plain=true) (ht:P.underlying t=some (.struct (P.fieldsOf t))) (hp:P.stoodInHeld t=false) (hg:P.eqGuardType P.depth t=false) (h:CE P (Op.eqFields 9999 xs ys (P.fieldsOf t).toList)=some r):
  bnA P .neq t (.agg xs) (.agg ys)=some (.bool !r):=by
 have e:CE P (do eqGuard .neq t (.tmp 0) (.tmp 0) (.agg xs) (.agg ys);binOp .neq t (.agg xs) (.agg ys))=some (.bool !r):=by
  have h1:CE P (eqGuard .neq t (.tmp 0) (.tmp 0) (.agg xs) (.agg ys))=some ():=by
   simp [eqGuard,KD,T9,hg,K2,lJ]
  rw [KD,h1,Option.bind_some]
  simp only [binOp,Op.equal,Op.maxDepth,KD,qJ 9999 t xs ys ht hp,h,Option.bind_some,K2]
 simp only [bnA,hx,hy,Bool.and_self,if_true,e]
end Go.Proofs.YtnhicpkhkaihoaaGreat.Eng
