/- A part of the proof. -/
import Derived.Test.YtklmcfpgdfibnaaReColA
namespace Go.Proofs.Ytklmcfpgdfibnaa.P
open Go Go.Proofs.Ytklmcfpgdfibnaa Go.Proofs.Ytklmcfpgdfibnaa.Eng
set_option linter.unusedVariables false
set_option maxHeartbeats 4000000
set_option linter.unusedVariables false
set_option linter.unusedSimpArgs false
attribute [local irreducible] prP gP gE gF AY ixW ldc ldg ldl stc stg scW mkW apW BD cl2 BQ CZ B9
variable {w0:World}
theorem Y0 {x:Hp} (hk:BW x) {v:Int}:v∈IB x.AD↔ ∃k:Nat,k<8∧(ob x.AD k).live=true∧v=B7 k (ob x.AD k).gen:=by
 constructor
 ·intro hv
  obtain ⟨i,hi,hx⟩:=LQ.1 hv
  unfold IC at hx
  split at hx
  ·rename_i hc;exact ⟨i,by omega,hc.2,List.mem_singleton.1 hx⟩
  ·cases hx
 ·rintro ⟨k,k8,kv,rfl⟩;exact X5 hk.ol k8 kv
theorem kU {x:Hp} (hk:BW x) {ids:List Int} {v:Int}:v∈KJ x.AD ids↔ ∃k:Nat,k<8∧(ob x.AD k).live=true∧v=B7 k (ob x.AD k).gen∧RB x.AD ids k:=by
 unfold KJ
 rw [List.mem_filter,decide_eq_true_eq,Y0 hk]
 constructor
 ·rintro ⟨⟨k,k8,kv,rfl⟩,h⟩;exact ⟨k,k8,kv,rfl,(TM hk k8 kv).1 h⟩
 ·rintro ⟨k,k8,kv,rfl,h⟩;exact ⟨⟨k,k8,kv,rfl⟩,(TM hk k8 kv).2 h⟩
theorem OA {x:Hp} (hk:BW x) {k:Nat} (k8:k<8) (kv:(ob x.AD k).live=true):AB x.AD (B7 k (ob x.AD k).gen)=(k:Int):=
 EO hk.ol k8 kv ((hk.hp.obj k k8).lv kv).1 (hk.hp.obj k k8).gen.2
theorem gY {x:Hp} (hk:BW x) {v:Int} {k:Nat} (h:AB x.AD v=(k:Int)):k<8∧(ob x.AD k).live=true∧v=B7 k (ob x.AD k).gen:=by
 have l:=JN h
 have g:=(hk.hp.obj k l.1).lv l.2
 have e:=NA (os:=x.AD) (x:=v) (by omega)
 rw [h] at e
 refine ⟨l.1,l.2, ?_⟩
 rw [e,G8 l.1 g.1 (hk.hp.obj k l.1).gen.2]
 unfold W3
 rw [Int.toNat_natCast]
theorem lL {x:Hp} (hk:BW x) (ids:List Int):(KJ x.AD ids).length≤8:=by
 have:=P9 x.AD
 have h2:(KJ x.AD ids).length≤(IB x.AD).length:=List.length_filter_le _ _
 have:=hk.ol;omega
theorem ZS {x:Hp} {a b:Int} {k m:Nat} {K:J2} (hk:BW x) (fa:F64 a) (fb:F64 b) (ha:AB x.AD a=(k:Int)) (hb:AB x.AD b=(m:Int)) (h:K [.bool (decide (b∈KI x.AD (GK x.AD (-1) (ob x.AD k).field)))] []):cl2 ⟨Try.prog,w0⟩ 26 HF.sg [I a,I b] (trees x) K:=by
 have ol:=hk.ol
 have k8:=(JN ha).1
 have kl:k<x.AD.length:=by omega
 have hp:=hk.hp.obj k k8
 have nk:=hk.IP.ob k
 refine HF.cl2 ?_
 unfold HF.txt
 try simp only [trees]
 try simp only [AJ,AN,AQ,AR,AK,AE,AL,AI,AS,AP,AU,AT,AM,AO,BJ,BP,BM,BN,BO,BS,BL,A4,A5,A9,A8,BA,A7]
 have p1: ¬(x.AD.length:Int)≠8:=by omega
 have p2: ¬AB x.AD a<0:=by omega
 have p3: ¬AB x.AD b<0:=by omega
 refine C0 (BC (BC (HH p1 (BY fa (by omega) (HH p1 (A6 (EH p1 rfl ?_)))))))
 refine BC (BC (HH p2 (BY fb (by omega) (HH p2 (A6 (EH p2 rfl (G6 p3 (BY fa (by omega) ?_))))))))
 rw [ha]
 simp only [AJ,AN,AQ,AR,AK,AE,AL,AI,AS,AP,AU,AT,AM,AO,BJ,BP,BM,BN,BO,BS,BL,A4,A5,A9,A8,BA,A7]
 refine AH kl (TI kl ?_)
 rw [HT kl]
 refine OI (x:=x) (b:= -1) hk.fits hk.IP hk.yR nk.2.2.2.2.2 (by rw [hp.len];omega) ?_
 rw [U3]
 have ql:=(HO x.AD (-1) (ob x.AD k).field).1.len
 have il:=NB x.AD (GK x.AD (-1) (ob x.AD k).field)
 exact HB (by omega) h
end Go.Proofs.Ytklmcfpgdfibnaa.P
