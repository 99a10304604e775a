/- A part of the proof. -/
import Derived.Test.YtnhicpkhkaihoaaGreatRpRecB
import Derived.Test.YtnhicpkhkaihoaaGreatRpHpX
namespace Go.Proofs.YtnhicpkhkaihoaaGreat.P
open Go Go.Proofs.YtnhicpkhkaihoaaGreat Go.Proofs.YtnhicpkhkaihoaaGreat.Eng
set_option linter.unusedVariables false
set_option maxHeartbeats 4000000
set_option linter.unusedVariables false
set_option linter.unusedSimpArgs false
attribute [local irreducible] prP gP gE gF AG ixW ldc ldg ldl stc stg scW mkW apW BA cl2 B6 G8 C3
variable {w0:World}
structure qZ (l:List An):Prop where
 len:(l.length:Int)≤2^40
 fr: ∀o∈l,o.freed.length≤9
theorem qZ.sz {l:List An} (h:qZ l):0≤szL KI l∧szL KI l≤2^44:=by
 have h1:=h.len
 have sa:szL KI l≤l.length*11:=UP fun x hx'=>by have:=h.fr x hx';unfold KI;omega
 have sa0:=JF S0 l
 omega
theorem Bi {l:List Op5} (h:(l.length:Int)≤2^40):0≤szL GZ l∧szL GZ l≤2^44:=by
 have so:szL GZ l≤l.length*5:=UP fun x _=>by unfold GZ;omega
 have so0:=JF QO l
 omega
theorem dQ {c n:Int} {h:Hp} {p:List Op5} {l:List An} {K:J2} (hf:Fits h) (hp:(p.length:Int)≤2^40) (hl:qZ l) (hk:K [.bool true] []):cl2 ⟨Tryz.prog,w0⟩ 29 H0.sg [I c,I n,I c,I n] (trees h++[tR tP p,tR tA l]++(trees h++[tR tP p,tR tA l])) K:=by
 have h1:=hl.len
 refine H0.cl2 ?_
 unfold H0.txt
 exact B2 (BV (fun h=>h rfl) (B2 (BV (fun h=>h rfl) (cW hf (BN (BQ (jH (by omega) (BN (BQ (WY (by omega) (fun o ho=>by have:=hl.fr o ho;omega) (BN (BQ hk))))))))))))
theorem YQ {s u:Value} {h:Hp} {p:List Op5} {l:List An} {k:Int} {K:J2} (hf:Fits h) (hp:(p.length:Int)≤2^40) (hl:qZ l) (hk:0≤k∧k≤2^40) (h1:K [I (k+T6 h+szL GZ p+szL KI l)] (trees (wK k h)++[tR tP (mkL SF GZ (k+T6 h) p),tR tA (mkL WR KI (k+T6 h+szL GZ p) l)])):cl2 ⟨Tryz.prog,w0⟩ 30 H2.sg [s,u,I k] (trees h++[tR tP p,tR tA l]) K:=by
 have g8:=hf.sz
 have sa:=hl.sz
 have so:=Bi hp
 have h2:=hl.len
 refine H2.cl2 (YB hf ⟨by omega,by omega⟩ (aU (by omega) (by omega) (by omega) (UL (by omega) (by omega) (by omega) ?_)))
 exact h1
theorem YD {s u:Value} {h:Hp} {p:List Op5} {l:List An} {k:Int} {K:J2} (hf:Fits h) (hp:(p.length:Int)≤2^40) (hl:qZ l) (hk:0≤k∧k≤2^40) (h1:K [I (k+T6 h+szL GZ p+szL KI l)] []):cl2 ⟨Tryz.prog,w0⟩ 31 GQ.sg [s,u,I k] (trees (wK k h)++[tR tP (mkL SF GZ (k+T6 h) p),tR tA (mkL WR KI (k+T6 h+szL GZ p) l)]) K:=by
 have g8:=hf.sz
 have sa:=hl.sz
 have so:=Bi hp
 have h2:=hl.len
 refine GQ.cl2 (YP hf ⟨by omega,by omega⟩ (AJ (BV (by omega) (ZY (by omega) (by omega) (by omega) (AJ (BV (by omega) (U3 (by omega) (by omega) (by omega) (AJ (BV (by omega) ?_)))))))))
 exact h1
attribute [local irreducible] FJ wK T6 Dt PC
theorem sA (l:List Op5) (i:Nat):(FJ l i).2.length=i:=(OS l i).2
theorem YI {s:ByteArray} (hs:s.size≤maxLen) {K:J2} (done:K [.bool true] []):DT.txt ⟨Tryz.prog,w0⟩ (.string s) K:=by
 have hm:maxLen=2^63-1:=rfl
 unfold DT.txt
 refine CM (G9 (AH (fun _=>done) fun hle=> ?_))
 have hb:=W7 s
 obtain ⟨d1,d2,d3⟩:=US s
 have ef:Fits (PC (decode s)).hp:=by unfold PC;exact (OS _ _).1.fits
 have hal:=wT (decode s).1 (decode s).2.1 (decode s).1.length
 have ea:qZ (PC (decode s)).ans:=by
  unfold PC
  refine ⟨?_,mC d1 _ hal⟩
  simp only [sA];omega
 have hp:((PC (decode s)).ops.length:Int)≤2^40:=by
  unfold PC
  simp only [List.length_take];omega
 refine dW (by omega) ?_
 obtain ⟨e,he⟩: ∃e,PC (decode s)=e:=⟨_,rfl⟩
 rw [he] at ef ea hp ⊢
 have g8:=ef.sz
 have so:=Bi hp
 have sa:=ea.sz
 repeat' (first | (refine dV (by omega) ?_;simp only [he]) | refine dQ ef hp ea ?_ | refine YQ ef hp ea ⟨by omega,by omega⟩ ?_ | refine YD ef hp ea ⟨by omega,by omega⟩ ?_ | refine BN (BQ ?_) | refine BV (fun h=>h rfl) ?_ | exact done | refine BV (by first | with_reducible assumption | omega) ?_ | refine AJ ?_ | refine B2 ?_)
end Go.Proofs.YtnhicpkhkaihoaaGreat.P
