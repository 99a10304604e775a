/- A part of the proof. -/
import Derived.Test.YtnhicpkhkaihoaaEvDrA
import Derived.Test.YtnhicpkhkaihoaaEvTxtJ
namespace Go.Proofs.Ytnhicpkhkaihoaa.P
open Go Go.Proofs.Ytnhicpkhkaihoaa Go.Proofs.Ytnhicpkhkaihoaa.Eng
set_option linter.unusedVariables false
set_option maxHeartbeats 4000000
set_option linter.unusedVariables false
set_option linter.unusedSimpArgs false
attribute [local irreducible] prP gP gE gF AI ixW ldc ldg ldl stc stg scW mkW apW BG cl2 BZ EZ DS
variable {w0:World}
theorem XK {l:List Int} {K:J2} (hl:(l.length:Int)<2^62) (h:K [.bool true] []):cl2 ⟨Try.prog,w0⟩ 125 GK.sg [] [tI l,tI l] K:=by
 refine GK.cl2 ?_
 unfold GK.txt
 simp only [AJ,AQ,AL,AR,AO,AE,AG,AU,AN,AS,AV,AP,AM,AT,BN,BS,BV,BT,BW,BU,BO,A9,A6,A4,A7,A8,A5]
 refine DR (FF (fun hh=>hh rfl) (BF (fun i=>[iv i]) (fun _=>[]) l.length (fun _=>True) rfl rfl trivial (fun R i hi _ hR=> ?_)))
 simp only [AJ,AQ,AL,AR,AO,AE,AG,AU,AN,AS,AV,AP,AM,AT,BN,BS,BV,BT,BW,BU,BO,A9,A6,A4,A7,A8,A5]
 refine A1 (AH (fun hlt=> ?_) fun _=>h)
 have hlt:i<l.length:=by omega
 exact AK hlt (ldI hlt (AK hlt (ldI hlt (DR (FF (fun hh=>hh rfl) (BD (by omega) (hR hlt trivial)))))))
theorem SZ {l:List ByteArray} {K:J2} (hl:(l.length:Int)<2^62) (h:K [.bool true] []):cl2 ⟨Try.prog,w0⟩ 124 DX.sg [] [tS l,tS l] K:=by
 refine DX.cl2 ?_
 unfold DX.txt
 simp only [AJ,AQ,AL,AR,AO,AE,AG,AU,AN,AS,AV,AP,AM,AT,BN,BS,BV,BT,BW,BU,BO,A9,A6,A4,A7,A8,A5]
 refine DR (FF (fun hh=>hh rfl) (BF (fun i=>[iv l.length,iv i]) (fun _=>[]) l.length (fun _=>True) rfl rfl trivial (fun R i hi _ hR=> ?_)))
 simp only [AJ,AQ,AL,AR,AO,AE,AG,AU,AN,AS,AV,AP,AM,AT,BN,BS,BV,BT,BW,BU,BO,A9,A6,A4,A7,A8,A5]
 refine A1 (AH (fun hlt=> ?_) fun _=>h)
 have hlt:i<l.length:=by omega
 exact AK hlt (ldS hlt (AK hlt (ldS hlt (Q6 (FF (fun hh=>hh rfl) (BD (by omega) (hR hlt trivial)))))))
theorem SJ {a:An} {K:J2} (hl:(a.freed.length:Int)<2^62) (h:K [.bool true] []):cl2 ⟨Try.prog,w0⟩ 54 DI.sg [I a.code,I a.val,I a.code,I a.val] [tI a.freed,tI a.freed] K:=by
 refine DI.cl2 ?_
 unfold DI.txt
 refine BI (BP (BP (BP (BP (MC rfl (BI (EY rfl rfl (BP (BP (BP (BP (MC rfl ?_))))))))))))
 exact XK hl (EY rfl rfl h)
theorem UU {n:Int} {l:List ByteArray} {K:J2} (hl:(l.length:Int)<2^62) (h:K [.bool true] []):cl2 ⟨Try.prog,w0⟩ 53 FM.sg [I n,I n] [tS l,tS l] K:=by
 refine FM.cl2 ?_
 unfold FM.txt
 exact BI (BP (BP (BP (BP (MC rfl (SZ hl (EY rfl rfl h)))))))
theorem WZ {n:Int} {l:List ByteArray} {K:J2} (hl:(l.length:Int)<2^62) (h:K [.bool true] []):cl2 ⟨Try.prog,w0⟩ 55 FK.sg [I n,I n] [tS l,tS l] K:=by
 refine FK.cl2 ?_
 unfold FK.txt
 simp only [AJ,AQ,AL,AR,AO,AE,AG,AU,AN,AS,AV,AP,AM,AT,BN,BS,BV,BT,BW,BU,BO,A9,A6,A4,A7,A8,A5]
 have h0: ¬n≠n:=fun hh=>hh rfl
 refine DR (BP (BP (BP (BP (BP (BP (I5 h0 (DR (FV h0 rfl (FF (fun hh=>hh rfl) ?_))))))))))
 refine BF (fun i=>[iv i,I n,I n]) (fun _=>[]) l.length (fun _=>True) rfl rfl trivial (fun R i hi _ hR=> ?_)
 simp only [AJ,AQ,AL,AR,AO,AE,AG,AU,AN,AS,AV,AP,AM,AT,BN,BS,BV,BT,BW,BU,BO,A9,A6,A4,A7,A8,A5]
 refine A1 (AH (fun hlt=> ?_) fun _=>h)
 have hlt:i<l.length:=by omega
 exact AK hlt (ldS hlt (AK hlt (ldS hlt (Q6 (FF (fun hh=>hh rfl) (BD (by omega) (hR hlt trivial)))))))
theorem OD {L:List Int} {i:Nat} {z:Int} {K:J2} (hb:OA L) (hi:i≤L.length) (h: ∀(o:Op5) (a:An) i' z',OpD o→a.freed.length≤9→i'≤L.length→K [I o.kind,I o.a,I o.b,I o.c, .string o.site,I a.code,I a.val,iv i',I z'] [tI a.freed]):cl2 ⟨Try.prog,w0⟩ 109 DU.sg [iv i,I z] [tY L] K:=by
 refine DU.cl2 (XB hb hi fun x i1 z1 hx h1=>TN hb h1 (by have:=hx.ol;omega) fun o i2 z2 ho h2=> ?_)
 refine N6 hx.fits hx.nL ho.f.a ho.f.c ?_
 exact h o (LO x o).2 i2 z2 ho (jN hx.fits hx.nL ho.f.c).fr h2
theorem QC {L:List Int} {i:Nat} {z:Int} {K:J2} (hb:OA L) (hi:i≤L.length) (h: ∀(n:Int) (l:List ByteArray) i' z',0≤n→n≤40→l.length≤4→i'≤L.length→K [I n,iv i',I z'] [tS l]):cl2 ⟨Try.prog,w0⟩ 110 ER.sg [iv i,I z] [tY L] K:=by
 refine ER.cl2 ?_
 unfold ER.txt
 refine BY hb hi fun x i1 z1 x0 x1 h1=> ?_
 simp only [AJ,AQ,AL,AR,AO,AE,AG,AU,AN,AS,AV,AP,AM,AT,BN,BS,BV,BT,BW,BU,BO,A9,A6,A4,A7,A8,A5]
 have e:[T.c (.string ⟨#[]⟩),T.c (.string ⟨#[97]⟩),T.c (.string ⟨#[98]⟩),T.c (.string ⟨#[108,105,115,116]⟩)]=tS [⟨#[]⟩,⟨#[97]⟩,⟨#[98]⟩,⟨#[108,105,115,116]⟩]:=rfl
 rw [e]
 have hN:([⟨#[]⟩,⟨#[97]⟩,⟨#[98]⟩,⟨#[108,105,115,116]⟩]:List ByteArray).length=4:=rfl
 generalize ([⟨#[]⟩,⟨#[97]⟩,⟨#[98]⟩,⟨#[108,105,115,116]⟩]:List ByteArray)=N at hN ⊢
 refine FA (α:=Nat×Nat×Int×List ByteArray) (fun q=>[iv q.1,iv q.2.1,I q.2.2.1,I 0,I x]) (fun q=>[tS N,tS q.2.2.2]) (fun q=>4-q.1) (fun q=>q.1≤4∧q.2.1≤L.length∧q.2.2.2.length≤q.1) (0,i1,z1,[]) rfl rfl ⟨by simp,h1,by simp⟩ (fun R q hq hR=> ?_)
 obtain ⟨k,i2,z2,l⟩:=q
 obtain ⟨q1,q2,q3⟩:=hq
 simp only at q1 q2 q3
 simp only [AJ,AQ,AL,AR,AO,AE,AG,AU,AN,AS,AV,AP,AM,AT,BN,BS,BV,BT,BW,BU,BO,A9,A6,A4,A7,A8,A5]
 refine A1 (AH (fun hlt=>BX ?_) fun hge=>h x l i2 z2 x0 (by omega) (by omega) q2)
 have hlt:k<4:=by omega
 refine MP hb q2 fun b i3 z3 h3=>IF (fun _=> ?_) fun _=> ?_
 ·refine AK (by omega) (ldS (by omega) (GW rfl (by first | omega | (simp only [AJ,AQ,AL,AR,AO,AE,AG,AU,AN,AS,AV,AP,AM,AT,BN,BS,BV,BT,BW,BU,BO,A9,A6,A4,A7,A8,A5];omega)) (BD (by omega) ?_)))
  simp only [AJ,AQ,AL,AR,AO,AE,AG,AU,AN,AS,AV,AP,AM,AT,BN,BS,BV,BT,BW,BU,BO,A9,A6,A4,A7,A8,A5]
  rw [gB]
  exact hR (k+1,i3,z3,l++[gS N k]) ⟨hlt,h3,by simp;omega⟩ (by simp only;omega)
 ·exact BD (by omega) (hR (k+1,i3,z3,l) ⟨hlt,h3,by simp only;omega⟩ (by simp only;omega))
theorem O4 {L:List Int} {K:J2} (hb:OA L) (h: ∀(n:Int) (l:List ByteArray) (o:Op5) (a:An),l.length≤6→a.freed.length≤9→K [I n,I o.kind,I o.a,I o.b,I o.c, .string o.site,I a.code,I a.val] [tS l,tI a.freed]):cl2 ⟨Try.prog,w0⟩ 50 CW.sg [] [tY L] K:=by
 refine CW.cl2 (RV hb fun z=>OD hb (Nat.zero_le _) fun o a i1 z1 ho ha h1=>QC hb h1 fun n l i2 z2 n0 n1 hl h2=>BX ?_)
 refine BY hb h2 fun x i3 z3 x0 x1 h3=> ?_
 refine BI (AH (fun _=> ?_) fun _=>BI (AH (fun _=> ?_) fun _=>BI (AH (fun _=> ?_) fun _=>BI (AH (fun _=> ?_) fun _=> ?_))))
 ·exact h n l ⟨o.kind,1000000001,o.b,o.c,o.site⟩ a (by omega) ha
 ·exact h n l o ⟨7,a.val,a.freed⟩ (by omega) ha
 ·have e:[T.c (.string ⟨#[120]⟩),T.c (.string ⟨#[120]⟩)]=tS [⟨#[120]⟩,⟨#[120]⟩]:=rfl
  rw [e]
  simp only [AJ,AQ,AL,AR,AO,AE,AG,AU,AN,AS,AV,AP,AM,AT,BN,BS,BV,BT,BW,BU,BO,A9,A6,A4,A7,A8,A5]
  refine GW (Q8 _) (by simp;omega) ?_
  have:=h n (l++[⟨#[120]⟩,⟨#[120]⟩]) o a (by simp;omega) ha
  rw [show tS (l++[⟨#[120]⟩,⟨#[120]⟩])=tS l++tS [⟨#[120]⟩,⟨#[120]⟩] from by simp [tS]] at this
  exact this
 ·refine BY hb h3 fun y i4 z4 y0 y1 h4=> ?_
  obtain ⟨m,rfl⟩: ∃m:Nat,y=m:=⟨y.toNat,by omega⟩
  simp only [AJ,AQ,AL,AR,AO,AE,AG,AU,AN,AS,AV,AP,AM,AT,BN,BS,BV,BT,BW,BU,BO,A9,A6,A4,A7,A8,A5]
  refine CV ⟨by omega,by omega⟩ (cZ (n:=8+m) (by omega) ?_)
  have:=h n l o ⟨a.code,a.val,List.replicate (8+m) 0⟩ (by omega) (by simp;omega)
  rw [show tI (List.replicate (8+m) 0)=QJ (AA (iv (8+m))) [T.c (.int .i64 0)] from by
   rw [AY];exact (Z2 (f:=fun n=>[T.c (I n)]) (8+m) 0).trans (fm (fun n=>T.c (I n)) _) |>.symm] at this
  exact this
 ·exact h n l o a (by omega) ha
end Go.Proofs.Ytnhicpkhkaihoaa.P
