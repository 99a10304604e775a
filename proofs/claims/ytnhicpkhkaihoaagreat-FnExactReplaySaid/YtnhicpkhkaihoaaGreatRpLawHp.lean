/- A part of the proof. -/
import Derived.Test.YtnhicpkhkaihoaaGreatRpLawTyWeak
namespace Go.Proofs.YtnhicpkhkaihoaaGreat.P
open Go Go.Proofs.YtnhicpkhkaihoaaGreat Go.Proofs.YtnhicpkhkaihoaaGreat.Eng
set_option maxHeartbeats 4000000
set_option linter.unusedVariables false
set_option linter.unusedSimpArgs false
attribute [local irreducible] prP gP gE gF AG ixW ldc ldg ldl stc stg scW mkW apW BA cl2 B6 G8 C3
variable {w0:World}
structure Raw (h:Hp):Prop where
 ol:(h.BC.length:Int)<2^63
 of: ∀o∈h.BC,(o.field.length:Int)<2^63
 wl:(h.B8.length:Int)<2^63
 bl:(h.buffer.length:Int)<2^63
 sl:(h.sites.length:Int)<2^63
 ss: ∀s∈h.sites,(s.size:Int)<2^63
structure Fits (h:Hp):Prop where
 ol:(h.BC.length:Int)≤1048576
 of: ∀o∈h.BC,(o.field.length:Int)≤1048576
 wl:(h.B8.length:Int)≤1048576
 bl:(h.buffer.length:Int)≤1048576
 sl:(h.sites.length:Int)≤1048576
 ss: ∀s∈h.sites,(s.size:Int)≤1048576
abbrev trees (h:Hp):List (List T):=[tR tO h.BC,tR tW h.B8,tI h.buffer,tS h.sites]
theorem cW {h:Hp} {K:J2} (hf:Fits h) (hk:K [.bool true] []):cl2 ⟨Tryz.prog,w0⟩ 61 I2.sg [] (trees h++trees h) K:=by
 refine I2.cl2 ?_
 unfold I2.txt
 have h1:=hf.ol;have h2:=hf.wl;have h3:=hf.bl;have h4:=hf.sl
 have yes: ∀{p:Prop} {K:J2},K [.bool true] []→prP (un .not (nx [.bool true] 0)) fun t=>AG t p (K [.bool true] []):=fun h=>BN (BQ h)
 refine dZ (by omega) (fun o ho=>by have:=hf.of o ho;omega) (BN (BQ ?_))
 refine cV (by omega) (BN (BQ ?_))
 refine P7 (by omega) (BN (BQ ?_))
 exact WQ (by omega) (BN (BQ hk))
def T6 (h:Hp):Int:=szL C9 h.BC+szL JU h.B8+h.buffer.length+h.sites.length
def wK (k:Int) (h:Hp):Hp:=⟨mkL NR C9 k h.BC,mkL dK JU (k+szL C9 h.BC) h.B8,marks (k+szL C9 h.BC+szL JU h.B8) h.buffer.length,I8 (k+szL C9 h.BC+szL JU h.B8+h.buffer.length) h.sites.length⟩
theorem UP {α:Type} {sz:α→Int} {b:Int}: ∀{l:List α},(∀x∈l,sz x≤b)→szL sz l≤l.length*b
 | [],_=>by simp [szL]
 | x::l,h=>by
   have h1:=h x (by simp)
   have h2:=UP (l:=l) fun y hy=>h y (by simp [hy])
   simp only [szL,List.length_cons]
   have:((l.length+1:Nat):Int)*b=l.length*b+b:=by
    rw [Int.natCast_add,Int.add_mul];simp
   omega
theorem Fits.BC {h:Hp} (hf:Fits h):0≤szL C9 h.BC∧szL C9 h.BC≤2^41:=by
 refine ⟨JF OD _, ?_⟩
 have h1:=UP (sz:=C9) (b:=1048583) (l:=h.BC) fun o ho=>by have:=hf.of o ho;unfold C9;omega
 have h2:=hf.ol
 have h3:(h.BC.length:Int)*1048583≤1048576*1048583:=Int.mul_le_mul_of_nonneg_right h2 (by omega)
 omega
theorem Fits.B8 {h:Hp} (hf:Fits h):0≤szL JU h.B8∧szL JU h.B8≤2^41:=by
 refine ⟨JF QC _, ?_⟩
 have h1:=UP (sz:=JU) (b:=2) (l:=h.B8) fun o ho=>by unfold JU;omega
 have h2:=hf.wl
 omega
theorem Fits.sz {h:Hp} (hf:Fits h):0≤T6 h∧T6 h≤2^43:=by
 have h1:=hf.BC;have h2:=hf.B8;have h3:=hf.bl;have h4:=hf.sl
 unfold T6;omega
theorem YB {h:Hp} {k:Int} {K:J2} (hf:Fits h) (hk:0≤k∧k≤2^50) (h1:K [I (k+T6 h)] (trees (wK k h))):cl2 ⟨Tryz.prog,w0⟩ 65 GU.sg [I k] (trees h) K:=by
 refine GU.cl2 ?_
 unfold GU.txt
 have g1:=hf.ol;have g2:=hf.wl;have g3:=hf.bl;have g4:=hf.sl
 have a1:=hf.BC;have a2:=hf.B8
 refine YY (by omega) hk.1 (by omega) (WW (by omega) (by omega) (by omega) (NP (by omega) ⟨by omega,by omega⟩ (UO (by omega) ⟨by omega,by omega⟩ ?_)))
 have e:k+T6 h=k+szL C9 h.BC+szL JU h.B8+h.buffer.length+h.sites.length:=by unfold T6;omega
 rw [e] at h1;exact h1
theorem YP {h:Hp} {k:Int} {K:J2} (hf:Fits h) (hk:0≤k∧k≤2^50) (h1:K [I (k+T6 h)] []):cl2 ⟨Tryz.prog,w0⟩ 67 GO.sg [I k] (trees (wK k h)) K:=by
 refine GO.cl2 ?_
 unfold GO.txt
 have g1:=hf.ol;have g2:=hf.wl;have g3:=hf.bl;have g4:=hf.sl
 have a1:=hf.BC;have a2:=hf.B8
 refine YG (by omega) hk.1 (by omega) (AJ (BV (by omega) (WX (by omega) (by omega) (by omega) (AJ (BV (by omega) (NO (by omega) ⟨by omega,by omega⟩ (AJ (BV (by omega) (UM (by omega) ⟨by omega,by omega⟩ (AJ (BV (by omega) ?_)))))))))))
 have e:k+T6 h=k+szL C9 h.BC+szL JU h.B8+h.buffer.length+h.sites.length:=by unfold T6;omega
 rw [e] at h1;exact h1
structure WG (h:Hp):Prop where
 obj: ∀o∈h.BC,F64 o.gen∧F64 o.site∧F64 o.holds∧F64 o.roots∧F64 o.count∧ ∀f∈o.field,F64 f
 weak: ∀w∈h.B8,F64 w.target
 buf: ∀b∈h.buffer,F64 b
end Go.Proofs.YtnhicpkhkaihoaaGreat.P
