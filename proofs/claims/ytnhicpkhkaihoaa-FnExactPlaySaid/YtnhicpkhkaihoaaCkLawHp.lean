/- A part of the proof. -/
import Derived.Test.YtnhicpkhkaihoaaCkLawTyWeak
namespace Go.Proofs.Ytnhicpkhkaihoaa.P
open Go Go.Proofs.Ytnhicpkhkaihoaa Go.Proofs.Ytnhicpkhkaihoaa.Eng
set_option maxHeartbeats 4000000
set_option linter.unusedVariables false
set_option linter.unusedSimpArgs false
attribute [local irreducible] prP gP gE gF AU ixW ldc ldg ldl stc stg scW mkW apW BD cl2 BW FR DK
variable {w0:World}
structure Raw (h:Hp):Prop where
 ol:(h.BB.length:Int)<2^63
 of: ∀o∈h.BB,(o.field.length:Int)<2^63
 wl:(h.B5.length:Int)<2^63
 bl:(h.buffer.length:Int)<2^63
 sl:(h.sites.length:Int)<2^63
 ss: ∀s∈h.sites,(s.size:Int)<2^63
structure Fits (h:Hp):Prop where
 ol:(h.BB.length:Int)≤1048576
 of: ∀o∈h.BB,(o.field.length:Int)≤1048576
 wl:(h.B5.length:Int)≤1048576
 bl:(h.buffer.length:Int)≤1048576
 sl:(h.sites.length:Int)≤1048576
 ss: ∀s∈h.sites,(s.size:Int)≤1048576
abbrev trees (h:Hp):List (List T):=[tR tO h.BB,tR tW h.B5,tI h.buffer,tS h.sites]
theorem X9 {h:Hp} {K:J2} (hf:Fits h) (hk:K [.bool true] []):cl2 ⟨Try.prog,w0⟩ 18 FE.sg [] (trees h++trees h) K:=by
 refine FE.cl2 ?_
 unfold FE.txt
 have h1:=hf.ol;have h2:=hf.wl;have h3:=hf.bl;have h4:=hf.sl
 have yes: ∀{p:Prop} {K:J2},K [.bool true] []→prP (un .not (nx [.bool true] 0)) fun t=>AU t p (K [.bool true] []):=fun h=>BY (BN h)
 refine X6 (by omega) (fun o ho=>by have:=hf.of o ho;omega) (BY (BN ?_))
 refine VN (by omega) (BY (BN ?_))
 refine M6 (by omega) (BY (BN ?_))
 exact TA (by omega) (BY (BN hk))
def XX (h:Hp):Int:=szL CN h.BB+szL HD h.B5+h.buffer.length+h.sites.length
def tF (k:Int) (h:Hp):Hp:=⟨mkL KO CN k h.BB,mkL YC HD (k+szL CN h.BB) h.B5,marks (k+szL CN h.BB+szL HD h.B5) h.buffer.length,G3 (k+szL CN h.BB+szL HD h.B5+h.buffer.length) h.sites.length⟩
theorem RI {α:Type} {sz:α→Int} {b:Int}: ∀{l:List α},(∀x∈l,sz x≤b)→szL sz l≤l.length*b
 | [],_=>by simp [szL]
 | x::l,h=>by
   have h1:=h x (by simp)
   have h2:=RI (l:=l) fun y hy=>h y (by simp [hy])
   simp only [szL,List.length_cons]
   have:((l.length+1:Nat):Int)*b=l.length*b+b:=by
    rw [Int.natCast_add,Int.add_mul];simp
   omega
theorem Fits.BB {h:Hp} (hf:Fits h):0≤szL CN h.BB∧szL CN h.BB≤2^41:=by
 refine ⟨HH K9 _, ?_⟩
 have h1:=RI (sz:=CN) (b:=1048583) (l:=h.BB) fun o ho=>by have:=hf.of o ho;unfold CN;omega
 have h2:=hf.ol
 have h3:(h.BB.length:Int)*1048583≤1048576*1048583:=Int.mul_le_mul_of_nonneg_right h2 (by omega)
 omega
theorem Fits.B5 {h:Hp} (hf:Fits h):0≤szL HD h.B5∧szL HD h.B5≤2^41:=by
 refine ⟨HH NI _, ?_⟩
 have h1:=RI (sz:=HD) (b:=2) (l:=h.B5) fun o ho=>by unfold HD;omega
 have h2:=hf.wl
 omega
theorem Fits.sz {h:Hp} (hf:Fits h):0≤XX h∧XX h≤2^43:=by
 have h1:=hf.BB;have h2:=hf.B5;have h3:=hf.bl;have h4:=hf.sl
 unfold XX;omega
theorem T8 {h:Hp} {k:Int} {K:J2} (hf:Fits h) (hk:0≤k∧k≤2^50) (h1:K [I (k+XX h)] (trees (tF k h))):cl2 ⟨Try.prog,w0⟩ 19 ET.sg [I k] (trees h) K:=by
 refine ET.cl2 ?_
 unfold ET.txt
 have g1:=hf.ol;have g2:=hf.wl;have g3:=hf.bl;have g4:=hf.sl
 have a1:=hf.BB;have a2:=hf.B5
 refine UA (by omega) hk.1 (by omega) (TB (by omega) (by omega) (by omega) (KU (by omega) ⟨by omega,by omega⟩ (RA (by omega) ⟨by omega,by omega⟩ ?_)))
 have e:k+XX h=k+szL CN h.BB+szL HD h.B5+h.buffer.length+h.sites.length:=by unfold XX;omega
 rw [e] at h1;exact h1
theorem T9 {h:Hp} {k:Int} {K:J2} (hf:Fits h) (hk:0≤k∧k≤2^50) (h1:K [I (k+XX h)] []):cl2 ⟨Try.prog,w0⟩ 60 D5.sg [I k] (trees (tF k h)) K:=by
 refine D5.cl2 ?_
 unfold D5.txt
 have g1:=hf.ol;have g2:=hf.wl;have g3:=hf.bl;have g4:=hf.sl
 have a1:=hf.BB;have a2:=hf.B5
 refine UF (by omega) hk.1 (by omega) (AV (B2 (by omega) (TM (by omega) (by omega) (by omega) (AV (B2 (by omega) (KT (by omega) ⟨by omega,by omega⟩ (AV (B2 (by omega) (Q8 (by omega) ⟨by omega,by omega⟩ (AV (B2 (by omega) ?_)))))))))))
 have e:k+XX h=k+szL CN h.BB+szL HD h.B5+h.buffer.length+h.sites.length:=by unfold XX;omega
 rw [e] at h1;exact h1
structure XJ (h:Hp):Prop where
 obj: ∀o∈h.BB,F64 o.gen∧F64 o.site∧F64 o.holds∧F64 o.roots∧F64 o.count∧ ∀f∈o.field,F64 f
 weak: ∀w∈h.B5,F64 w.target
 buf: ∀b∈h.buffer,F64 b
end Go.Proofs.Ytnhicpkhkaihoaa.P
