/- A part of the proof. -/
import Derived.Test.YtklmcfpgdfibnaaRiKepB
import Derived.Test.YtklmcfpgdfibnaaRiWayA
import Derived.Test.YtklmcfpgdfibnaaRiBfsA
import Derived.Test.YtklmcfpgdfibnaaRiTriA
namespace Go.Proofs.Ytklmcfpgdfibnaa.P
open Go Go.Proofs.Ytklmcfpgdfibnaa Go.Proofs.Ytklmcfpgdfibnaa.Eng
set_option linter.unusedVariables false
set_option maxHeartbeats 4000000
set_option linter.unusedVariables false
set_option linter.unusedSimpArgs false
attribute [local irreducible] prP gP gE gF AW ixW ldc ldg ldl stc stg scW mkW apW AZ cl2 BJ CH B2
variable {w0:World}
def swL (a:List Nd) (n:Nat):List Int:=pick (fun i=>if (nd a i).live=true∧ ¬inQ (grQ a) (i:Int) then [B6 i (nd a i).gen] else []) n
attribute [local irreducible] swL yG grQ
end Go.Proofs.Ytklmcfpgdfibnaa.P
namespace Go.Proofs.Ytklmcfpgdfibnaa.P
open Go Go.Proofs.Ytklmcfpgdfibnaa Go.Proofs.Ytklmcfpgdfibnaa.Eng
set_option linter.unusedVariables false
set_option maxHeartbeats 4000000
set_option linter.unusedVariables false
set_option linter.unusedSimpArgs false
attribute [local irreducible] prP gP gE gF AW ixW ldc ldg ldl stc stg scW mkW apW AZ cl2 BJ CH B2
variable {w0:World}
end Go.Proofs.Ytklmcfpgdfibnaa.P
namespace Go.Proofs.Ytklmcfpgdfibnaa.P
open Go Go.Proofs.Ytklmcfpgdfibnaa Go.Proofs.Ytklmcfpgdfibnaa.Eng
set_option linter.unusedVariables false
theorem KY.kids {a b:List AE} (h:KY a b) (ha:a.length=8) (hb:b.length=8) {k:Nat} (hk:k<8):BC a k=BC b k:=by
 unfold BC
 rw [(h k hk).2.2.2.2]
 have:AA a=AA b:=funext fun x=>h.slot ha hb x
 rw [this]
theorem KY.reach {a b:List AE} (h:KY a b) (ha:a.length=8) (hb:b.length=8) {s k:Nat} (hs:s<8) (hr:Reach a s k):Reach b s k:=by
 induction hr with
 | refl=>exact .refl
 | step hr hj ih=>exact .step ih (by rw [←h.kids ha hb (hr.lt hs)];exact hj)
theorem KY.exts {a b:List AE} (h:KY a b) (ha:a.length=8) (hb:b.length=8):exts a=exts b:=by
 unfold P.exts
 rw [ha,hb]
 refine MU fun i hi=> ?_
 obtain ⟨h1,h2,h3,h4,_⟩:=h i hi
 unfold QX
 rw [h1,h2,h3,h4]
theorem jL.res {G:List AE→Prop} {os:List AE} {ns:Nat} {buf:List Int} {r:List AE×List Int×An} (m:jL G os ns buf r) (ho:os.length=8):(r.2.2.code≠0∧r.1=os∧r.2.2.freed=[])∨(r.2.2.code=0∧ ∃os1,os1.length=8∧G os1∧HB os1 r.1 r.2.2.freed∧IS os1 r.1∧ ∀i,i<8→(ob r.1 i).live=true→Q9 r.1 i):=by
 rcases m with ⟨c,hc,rfl⟩ | ⟨os1,h1,_,_,hG,rfl⟩ | ⟨os1,x,h1,_,_,hG,rfl⟩
 ·exact .inl ⟨by simp only;omega,rfl,rfl⟩
 ·exact .inr ⟨rfl,os1,h1.ol,hG,HB.refl h1.ol,IS.refl _,fun i hi hv=>h1.held hi hv⟩
 ·exact .inr ⟨rfl,os1,h1.ol,hG,YL h1,pU h1,fun i hi hv=>(HP.GA h1).held hi hv⟩
theorem kP {os:List AE} {buf:List Int} {kd id:Int} {k:Nat} (hk:AA os id=(k:Int)) (hkd:kd=2∨kd=3∨kd=5∨kd=6) (h1:0≤(ob os k).holds∧(ob os k).holds≤20) (h2:0≤(ob os k).roots∧(ob os k).roots≤20):(FT os buf kd id).2.2.code=if hdM kd (ob os k).holds>20∨rtM kd (ob os k).roots>20 then 4 else if hdM kd (ob os k).holds<0∨rtM kd (ob os k).roots<0 then 5 else 0:=by
 unfold FT
 rw [if_neg (by omega),hk,Int.toNat_natCast]
 rcases hkd with rfl | rfl | rfl | rfl
 ·simp only [hdM,rtM,if_true]
  by_cases h:(ob os k).holds=20
  ·rw [if_pos h,if_pos (by simp;omega)]
  ·rw [if_neg h,if_neg (by simp;omega),if_neg (by simp;omega)]
 ·simp only [hdM,rtM,show ¬(3:Int)=2 by decide,show ¬(3:Int)=5 by decide,if_true,if_false,or_true]
  by_cases h:(ob os k).holds=0
  ·rw [if_pos h,if_neg (by omega),if_pos (by omega)]
  ·rw [if_neg h,if_neg (by omega),if_neg (by omega)];rfl
 ·simp only [hdM,rtM,show ¬(5:Int)=2 by decide,show ¬(5:Int)=3 by decide,if_true,if_false]
  by_cases h:(ob os k).roots=20
  ·rw [if_pos h,if_pos (by omega)]
  ·rw [if_neg h,if_neg (by omega),if_neg (by omega)]
 ·simp only [hdM,rtM,show ¬(6:Int)=2 by decide,show ¬(6:Int)=3 by decide,show ¬(6:Int)=5 by decide,if_false,or_false]
  by_cases h:(ob os k).roots=0
  ·rw [if_pos h,if_neg (by omega),if_pos (by omega)]
  ·rw [if_neg h,if_neg (by omega),if_neg (by omega)];rfl
theorem wI (v:Int):hdM 3 v=v-1:=by unfold hdM;rw [if_neg (by decide),if_pos rfl]
theorem wL (v:Int):rtM 3 v=v:=by unfold rtM;rw [if_neg (by decide),if_pos (by decide)]
set_option maxHeartbeats 4000000
set_option linter.unusedVariables false
set_option linter.unusedSimpArgs false
attribute [local irreducible] prP gP gE gF AW ixW ldc ldg ldl stc stg scW mkW apW AZ cl2 BJ CH B2
variable {w0:World}
structure wN (a a':List Nd) (fr out:List Int):Prop where
 nok:NOk a'
 R:HB (osN a) (osN a') fr
 D:IS (osN a) (osN a')
 E: ∀i,i<8→(ob (osN a') i).live=true→Q9 (osN a') i
 pm:out.Perm fr
 so:out.Pairwise (· ≤ ·)
structure fD (h:Hp) (o:Op5) (a':List Nd) (code:Int) (out:List Int):Prop where
 code:code=(CA h o).2.code
 nok:NOk a'
 same: ∀i,i<8→(nd a' i).live=(ob (CA h o).1.AB i).live∧(nd a' i).gen=(ob (CA h o).1.AB i).gen
 pm:out.Perm (CA h o).2.freed
 so:out.Pairwise (· ≤ ·)
theorem vN {h:Hp} (hk:BG h) (hn:QR h):NOk (h.AB.map aP):=by
 refine ⟨by simpa using hk.ol,fun i hi=> ?_⟩
 rw [sQ]
 have ho:=hk.obj i hi
 have hr:=hk.hr i
 exact ⟨ho.len,fun f hf=>(hn.ob i).2.2.2.2.2 f hf,⟨ho.gen.1,by have:=ho.gen.2;show (ob h.AB i).gen≤1000;omega⟩,hr.1,hr.2⟩
end Go.Proofs.Ytklmcfpgdfibnaa.P
namespace Go.Proofs.Ytklmcfpgdfibnaa.P
open Go Go.Proofs.Ytklmcfpgdfibnaa Go.Proofs.Ytklmcfpgdfibnaa.Eng
set_option linter.unusedVariables false
set_option maxHeartbeats 4000000
set_option linter.unusedVariables false
set_option linter.unusedSimpArgs false
attribute [local irreducible] prP gP gE gF AW ixW ldc ldg ldl stc stg scW mkW apW AZ cl2 BJ CH B2
variable {w0:World}
attribute [local irreducible] CA
end Go.Proofs.Ytklmcfpgdfibnaa.P
