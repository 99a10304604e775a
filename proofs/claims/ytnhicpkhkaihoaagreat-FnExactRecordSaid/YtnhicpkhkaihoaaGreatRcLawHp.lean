/- A part of the proof. -/
import Derived.Test.YtnhicpkhkaihoaaGreatRcLawTyWeak
namespace Go.Proofs.YtnhicpkhkaihoaaGreat.P
open Go Go.Proofs.YtnhicpkhkaihoaaGreat Go.Proofs.YtnhicpkhkaihoaaGreat.Eng
set_option maxHeartbeats 4000000
set_option linter.unusedVariables false
set_option linter.unusedSimpArgs false
attribute [local irreducible] prP gP gE gF AG ixW ldc ldg ldl stc stg scW mkW apW BB cl2 BY FT DG
variable {w0:World}
structure Raw (h:Hp):Prop where
 ol:(h.BC.length:Int)<2^63
 of: ∀o∈h.BC,(o.field.length:Int)<2^63
 wl:(h.B9.length:Int)<2^63
 bl:(h.buffer.length:Int)<2^63
 sl:(h.sites.length:Int)<2^63
 ss: ∀s∈h.sites,(s.size:Int)<2^63
structure Fits (h:Hp):Prop where
 ol:(h.BC.length:Int)≤1048576
 of: ∀o∈h.BC,(o.field.length:Int)≤1048576
 wl:(h.B9.length:Int)≤1048576
 bl:(h.buffer.length:Int)≤1048576
 sl:(h.sites.length:Int)≤1048576
 ss: ∀s∈h.sites,(s.size:Int)≤1048576
abbrev trees (h:Hp):List (List T):=[tR tO h.BC,tR tW h.B9,tI h.buffer,tS h.sites]
theorem aN {h:Hp} {K:J2} (hf:Fits h) (hk:K [.bool true] []):cl2 ⟨Tryz.prog,w0⟩ 61 HX.sg [] (trees h++trees h) K:=by
 refine HX.cl2 ?_
 unfold HX.txt
 have h1:=hf.ol;have h2:=hf.wl;have h3:=hf.bl;have h4:=hf.sl
 have yes: ∀{p:Prop} {K:J2},K [.bool true] []→prP (un .not (nx [.bool true] 0)) fun t=>AG t p (K [.bool true] []):=fun h=>BP (BO h)
 refine bE (by omega) (fun o ho=>by have:=hf.of o ho;omega) (BP (BO ?_))
 refine ZB (by omega) (BP (BO ?_))
 refine O0 (by omega) (BP (BO ?_))
 exact VF (by omega) (BP (BO hk))
def T5 (h:Hp):Int:=szL CU h.BC+szL IK h.B9+h.buffer.length+h.sites.length
def rT (k:Int) (h:Hp):Hp:=⟨mkL MJ CU k h.BC,mkL aZ IK (k+szL CU h.BC) h.B9,marks (k+szL CU h.BC+szL IK h.B9) h.buffer.length,H8 (k+szL CU h.BC+szL IK h.B9+h.buffer.length) h.sites.length⟩
theorem TQ {α:Type} {sz:α→Int} {b:Int}: ∀{l:List α},(∀x∈l,sz x≤b)→szL sz l≤l.length*b
 | [],_=>by simp [szL]
 | x::l,h=>by
   have h1:=h x (by simp)
   have h2:=TQ (l:=l) fun y hy=>h y (by simp [hy])
   simp only [szL,List.length_cons]
   have:((l.length+1:Nat):Int)*b=l.length*b+b:=by
    rw [Int.natCast_add,Int.add_mul];simp
   omega
theorem Fits.BC {h:Hp} (hf:Fits h):0≤szL CU h.BC∧szL CU h.BC≤2^41:=by
 refine ⟨I1 NU _, ?_⟩
 have h1:=TQ (sz:=CU) (b:=1048583) (l:=h.BC) fun o ho=>by have:=hf.of o ho;unfold CU;omega
 have h2:=hf.ol
 have h3:(h.BC.length:Int)*1048583≤1048576*1048583:=Int.mul_le_mul_of_nonneg_right h2 (by omega)
 omega
theorem Fits.B9 {h:Hp} (hf:Fits h):0≤szL IK h.B9∧szL IK h.B9≤2^41:=by
 refine ⟨I1 PD _, ?_⟩
 have h1:=TQ (sz:=IK) (b:=2) (l:=h.B9) fun o ho=>by unfold IK;omega
 have h2:=hf.wl
 omega
theorem Fits.sz {h:Hp} (hf:Fits h):0≤T5 h∧T5 h≤2^43:=by
 have h1:=hf.BC;have h2:=hf.B9;have h3:=hf.bl;have h4:=hf.sl
 unfold T5;omega
theorem W6 {h:Hp} {k:Int} {K:J2} (hf:Fits h) (hk:0≤k∧k≤2^50) (h1:K [I (k+T5 h)] (trees (rT k h))):cl2 ⟨Tryz.prog,w0⟩ 65 FM.sg [I k] (trees h) K:=by
 refine FM.cl2 ?_
 unfold FM.txt
 have g1:=hf.ol;have g2:=hf.wl;have g3:=hf.bl;have g4:=hf.sl
 have a1:=hf.BC;have a2:=hf.B9
 refine W9 (by omega) hk.1 (by omega) (VM (by omega) (by omega) (by omega) (MP (by omega) ⟨by omega,by omega⟩ (TK (by omega) ⟨by omega,by omega⟩ ?_)))
 have e:k+T5 h=k+szL CU h.BC+szL IK h.B9+h.buffer.length+h.sites.length:=by unfold T5;omega
 rw [e] at h1;exact h1
theorem W8 {h:Hp} {k:Int} {K:J2} (hf:Fits h) (hk:0≤k∧k≤2^50) (h1:K [I (k+T5 h)] []):cl2 ⟨Tryz.prog,w0⟩ 67 FV.sg [I k] (trees (rT k h)) K:=by
 refine FV.cl2 ?_
 unfold FV.txt
 have g1:=hf.ol;have g2:=hf.wl;have g3:=hf.bl;have g4:=hf.sl
 have a1:=hf.BC;have a2:=hf.B9
 refine XE (by omega) hk.1 (by omega) (AJ (BZ (by omega) (VX (by omega) (by omega) (by omega) (AJ (BZ (by omega) (MQ (by omega) ⟨by omega,by omega⟩ (AJ (BZ (by omega) (TI (by omega) ⟨by omega,by omega⟩ (AJ (BZ (by omega) ?_)))))))))))
 have e:k+T5 h=k+szL CU h.BC+szL IK h.B9+h.buffer.length+h.sites.length:=by unfold T5;omega
 rw [e] at h1;exact h1
structure Z3 (h:Hp):Prop where
 obj: ∀o∈h.BC,F64 o.gen∧F64 o.site∧F64 o.holds∧F64 o.roots∧F64 o.count∧ ∀f∈o.field,F64 f
 weak: ∀w∈h.B9,F64 w.target
 buf: ∀b∈h.buffer,F64 b
end Go.Proofs.YtnhicpkhkaihoaaGreat.P
