/- A part of the proof. -/
import Derived.Test.YtklmcfpgdfibnaaPtPlA
import Derived.Test.YtklmcfpgdfibnaaChecked
import Derived.Test.YtklmcfpgdfibnaaPtEngM2
import Derived.KernelRfl
namespace Go.Proofs.Ytklmcfpgdfibnaa.P
open Go Go.Proofs.Ytklmcfpgdfibnaa Go.Proofs.Ytklmcfpgdfibnaa.Eng
set_option linter.unusedVariables false
set_option maxRecDepth 100000
def cP (C:Ctx) (a0:Value) (K:Value→Q):Q:=
 pr (lnL a0) fun t5_1=>
 pr (mn t5_1 (.int .i64 400)) fun t6_2=>
 pr (scL 5 a0 none (some t6_2)) fun t7_3=>
 K t7_3
theorem dC {w0:World} {a0:Value} {K:Value→Q} {s:Eng.St} (h:cP ⟨Try.prog,w0⟩ a0 K s):cl ⟨Try.prog,w0⟩ 105 [a0] K s:=
 XO (C:=⟨Try.prog,w0⟩) (f:=105) (fn:=Try.f105) [] Try.func105 (by kernel_rfl) (by kernel_rfl) (by kernel_rfl) h
theorem VO {w0:World} {n:Nat} {K:Value→Prop} (h:K (iv (min n 400))):EI ⟨Try.prog,w0⟩ 105 5 n K:=by
 refine ⟨min n 400,Nat.min_le_left _ _,fun s u v hu hv=> ?_,h⟩
 have hm:mn (iv n) (.int .i64 400)=some (iv (min n 400)):=by
  have:(if (400:Int)<(n:Int) then (400:Int) else n)=((min n 400:Nat):Int):=by split <;> omega
  show some (Value.int .i64 (if (400:Int)<(n:Int) then (400:Int) else n))=_
  rw [this];rfl
 have hl:lnL u=some (iv n):=by
  rcases hu with ⟨rfl,rfl⟩ | ⟨a,b,rfl⟩
  ·rfl
  ·rfl
 obtain ⟨v',s',g,rfl,rfl⟩:=dC (w0:=w0) (a0:=u) (K:=fun v' s'=>v'=v∧s'=s) (s:=s) ⟨iv n,hl,⟨iv (min n 400),hm,⟨v,hv,rfl,rfl⟩⟩⟩
 exact g
theorem kC {α:Type} {f:α→List T} {e:Nat} [hr:Rw f e] {l:List α} {i:Nat} (hi:i<l.length) {c:Nat} {t:T} {y:α} {K:List T→Prop} (hc:c<e) (hy:f y=(f l[i]).set c t) (h:K (tR f (l.set i y))):stg (tR f l) [] (AA (iv i)*e+c) [t] K:=by
 rw [AY]
 have hlt:i*e+c<(tR f l).length:=by
  rw [VW]
  have:(i+1)*e≤l.length*e:=Nat.mul_le_mul_right _ hi
  rw [Nat.add_mul] at this;omega
 refine ⟨⟨_,rfl, ?_⟩, ?_⟩
 ·simp only [List.length_singleton];omega
 ·have:NJ (tR f l) [] (i*e+c) [t]=tR f (l.set i y):=by
   simp only [NJ,node,IN]
   rw [V7 hlt,eP hi hc hy]
  rw [this];exact h
end Go.Proofs.Ytklmcfpgdfibnaa.P
