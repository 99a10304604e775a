/- A part of the proof. -/
import Derived.Test.YtnhicpkhkaihoaaGreatRcRecB
import Derived.Test.YtnhicpkhkaihoaaGreatRcHpX
namespace Go.Proofs.YtnhicpkhkaihoaaGreat.P
open Go Go.Proofs.YtnhicpkhkaihoaaGreat Go.Proofs.YtnhicpkhkaihoaaGreat.Eng
set_option linter.unusedVariables false
set_option maxHeartbeats 4000000
set_option linter.unusedVariables false
set_option linter.unusedSimpArgs false
attribute [local irreducible] prP gP gE gF AG ixW ldc ldg ldl stc stg scW mkW apW BB cl2 BY FT DG
variable {w0:World}
structure pJ (l:List An):Prop where
 len:(l.length:Int)≤2^40
 fr: ∀o∈l,o.freed.length≤9
theorem pJ.sz {l:List An} (h:pJ l):0≤szL JD l∧szL JD l≤2^44:=by
 have h1:=h.len
 have sa:szL JD l≤l.length*11:=TQ fun x hx'=>by have:=h.fr x hx';unfold JD;omega
 have sa0:=I1 Q8 l
 omega
theorem Au {l:List Op5} (h:(l.length:Int)≤2^40):0≤szL K7 l∧szL K7 l≤2^44:=by
 have so:szL K7 l≤l.length*5:=TQ fun x _=>by unfold K7;omega
 have so0:=I1 VY l
 omega
theorem aK {s:ByteArray} {h:Hp} {l:List An} {K:J2} (hf:Fits h) (hl:pJ l) (hk:K [.bool true] []):cl2 ⟨Tryz.prog,w0⟩ 24 GB.sg [.string s, .string s] (trees h++[tR tA l]++(trees h++[tR tA l])) K:=by
 have h1:=hl.len
 refine GB.cl2 ?_
 unfold GB.txt
 exact jX (BZ (fun h=>h rfl) (aN hf (BP (BO (VP (by omega) (fun o ho=>by have:=hl.fr o ho;omega) (BP (BO hk)))))))
theorem WU {s:Value} {h:Hp} {l:List An} {k:Int} {K:J2} (hf:Fits h) (hl:pJ l) (hk:0≤k∧k≤2^40) (h1:K [I (k+T5 h+szL JD l)] (trees (rT k h)++[tR tA (mkL VL JD (k+T5 h) l)])):cl2 ⟨Tryz.prog,w0⟩ 27 G4.sg [s,I k] (trees h++[tR tA l]) K:=by
 have g8:=hf.sz
 have sa:=hl.sz
 have h2:=hl.len
 refine G4.cl2 (W6 hf ⟨by omega,by omega⟩ (TJ (by omega) (by omega) (by omega) ?_))
 exact h1
theorem WV {s:Value} {h:Hp} {l:List An} {k:Int} {K:J2} (hf:Fits h) (hl:pJ l) (hk:0≤k∧k≤2^40) (h1:K [I (k+T5 h+szL JD l)] []):cl2 ⟨Tryz.prog,w0⟩ 28 FZ.sg [s,I k] (trees (rT k h)++[tR tA (mkL VL JD (k+T5 h) l)]) K:=by
 have g8:=hf.sz
 have sa:=hl.sz
 have h2:=hl.len
 refine FZ.cl2 (W8 hf ⟨by omega,by omega⟩ (AJ (BZ (by omega) (TH (by omega) (by omega) (by omega) (AJ (BZ (by omega) ?_))))))
 exact h1
attribute [local irreducible] FH rT T5 uN Al
theorem W3 {a:List AOp} (g:SD a) {K:J2} (done:K [.bool true] []):DB.txt ⟨Tryz.prog,w0⟩ (tR tP (b7 a)) K:=by
 unfold SD at g
 generalize b7 a=l at g ⊢
 unfold DB.txt
 refine eT g ⟨by omega,by omega⟩ (AJ (CZ (by omega) done)) fun r r0 r1 r2=>AJ (BZ (by omega) ?_)
 have ok:=(K6 l (min l.length 400)).1
 have al:=(K6 l (min l.length 400)).2
 have fr:=T1 g.all (min l.length 400) (by omega)
 refine UI (by omega) (aO (by omega) g.all ?_)
 obtain ⟨t,ht⟩: ∃t,uN l=t:=⟨_,rfl⟩
 obtain ⟨e,he⟩: ∃e,FH l (min l.length 400)=e:=⟨_,rfl⟩
 rw [he] at ok al fr ⊢
 rw [ht]
 have ef:=ok.fits
 have g8:=ef.sz
 have ea:pJ e.2:=⟨by omega,fr⟩
 have so:=Au (l:=l) (by omega)
 have sa:=ea.sz
 repeat' (first | refine UI (by omega) ?_ | (refine bJ (by omega) g.all ?_;simp only [he,ht]) | refine aK ef ea ?_ | refine fW (by omega) ?_ | refine YW (by omega) (by omega) (by omega) ?_ | refine WU ef ea ⟨by omega,by omega⟩ ?_ | refine WV ef ea ⟨by omega,by omega⟩ ?_ | refine BP (BO ?_) | refine BZ (fun h=>h rfl) ?_ | exact done | refine B2 ?_ | refine JG (by first | with_reducible assumption | omega) ?_ | refine EJ (by first | with_reducible assumption | omega) rfl ?_ | refine BO ?_ | refine BZ (by first | with_reducible assumption | omega) ?_ | refine AJ ?_ | refine B5 ?_ | refine BP ?_)
end Go.Proofs.YtnhicpkhkaihoaaGreat.P
