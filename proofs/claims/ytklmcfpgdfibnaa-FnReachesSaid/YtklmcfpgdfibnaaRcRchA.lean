/- A part of the proof. -/
import Derived.Test.YtklmcfpgdfibnaaRcColA
namespace Go.Proofs.Ytklmcfpgdfibnaa.P
open Go Go.Proofs.Ytklmcfpgdfibnaa Go.Proofs.Ytklmcfpgdfibnaa.Eng
set_option linter.unusedVariables false
set_option maxHeartbeats 4000000
set_option linter.unusedVariables false
set_option linter.unusedSimpArgs false
attribute [local irreducible] prP gP gE gF AW ixW ldc ldg ldl stc stg scW mkW apW BE cl2 BS C6 CO
variable {w0:World}
theorem W0 {x:Hp} (hk:BW x) {v:Int}:v∈GF x.AD↔ ∃k:Nat,k<8∧(ob x.AD k).live=true∧v=B8 k (ob x.AD k).gen:=by
 constructor
 ·intro hv
  obtain ⟨i,hi,hx⟩:=QP.1 hv
  unfold F5 at hx
  split at hx
  ·rename_i hc;exact ⟨i,by omega,hc.2,List.mem_singleton.1 hx⟩
  ·cases hx
 ·rintro ⟨k,k8,kv,rfl⟩;exact XR hk.ol k8 kv
theorem H7 {x:Hp} (hk:BW x) {ids:List Int} {v:Int}:v∈DV x.AD ids↔ ∃k:Nat,k<8∧(ob x.AD k).live=true∧v=B8 k (ob x.AD k).gen∧RB x.AD ids k:=by
 unfold DV
 rw [List.mem_filter,decide_eq_true_eq,W0 hk]
 constructor
 ·rintro ⟨⟨k,k8,kv,rfl⟩,h⟩;exact ⟨k,k8,kv,rfl,(MJ hk k8 kv).1 h⟩
 ·rintro ⟨k,k8,kv,rfl,h⟩;exact ⟨⟨k,k8,kv,rfl⟩,(MJ hk k8 kv).2 h⟩
theorem RS {x:Hp} (hk:BW x) {k:Nat} (k8:k<8) (kv:(ob x.AD k).live=true):AA x.AD (B8 k (ob x.AD k).gen)=(k:Int):=
 EW hk.ol k8 kv ((hk.hp.obj k k8).lv kv).1 (hk.hp.obj k k8).gen.2
theorem Y8 {x:Hp} (hk:BW x) {v:Int} {k:Nat} (h:AA x.AD v=(k:Int)):k<8∧(ob x.AD k).live=true∧v=B8 k (ob x.AD k).gen:=by
 have l:=I6 h
 have g:=(hk.hp.obj k l.1).lv l.2
 have e:=MN (os:=x.AD) (x:=v) (by omega)
 rw [h] at e
 refine ⟨l.1,l.2, ?_⟩
 rw [e,GQ l.1 g.1 (hk.hp.obj k l.1).gen.2]
 unfold VS
 rw [Int.toNat_natCast]
theorem lF {x:Hp} (hk:BW x) {ids:List Int} {v:Int} (hv:v∈ids):0≤AA x.AD v↔v∈DV x.AD ids:=by
 constructor
 ·intro h0
  obtain ⟨k,e⟩: ∃k:Nat,AA x.AD v=(k:Int):=⟨(AA x.AD v).toNat,by omega⟩
  obtain ⟨k8,kv,ev⟩:=Y8 hk e
  exact (H7 hk).2 ⟨k,k8,kv,ev,v,hv,k,e, .refl⟩
 ·intro h
  obtain ⟨k,k8,kv,rfl,_⟩:=(H7 hk).1 h
  rw [RS hk k8 kv];omega
theorem hX {x:Hp} (hk:BW x) {ids:List Int} {k:Nat} (k8:k<8) (kr:RB x.AD ids k) {f:Int} (hf:f∈(ob x.AD k).field) (f0:0≤f):f∈DV x.AD ids:=by
 have l:=((hk.hp.obj k k8).lead f hf (by omega)).2
 obtain ⟨m,e⟩: ∃m:Nat,AA x.AD f=(m:Int):=⟨(AA x.AD f).toNat,by omega⟩
 obtain ⟨m8,mv,em⟩:=Y8 hk e
 have hm:(m:Int)∈BJ x.AD k:=F6.2 ⟨by omega,f,hf,e⟩
 have:=kr.next hm
 rw [Int.toNat_natCast] at this
 exact (H7 hk).2 ⟨m,m8,mv,em,this⟩
theorem b6 {x:Hp} (hk:BW x) {ids:List Int} {v:Int} (hv:v∈DV x.AD ids) (hn:v∉ids): ∃y:Nat,y<8∧(ob x.AD y).live=true∧B8 y (ob x.AD y).gen∈DV x.AD ids∧v∈HJ x.AD (H6 x.AD (-1) (ob x.AD y).field):=by
 obtain ⟨k,k8,kv,rfl,z,hz,s,hs,hr⟩:=(H7 hk).1 hv
 have hs':=Y8 hk hs
 cases hr with
 | refl=>exact absurd hz (by rw [hs'.2.2];exact hn)
 | step hr hj=>
   rename_i y j
   have hy:=hr.live ⟨hs'.1,hs'.2.1⟩
   have hjb:=B4 hj
   refine ⟨y,hy.1,hy.2,(H7 hk).2 ⟨y,hy.1,hy.2,rfl,z,hz,s,hs,hr⟩,(MJ hk k8 kv).2 ?_⟩
   obtain ⟨_,f,hf,hs2⟩:=F6.1 hj
   exact ⟨f,hf,j.toNat,by omega, .refl⟩
theorem aA {x:Hp} (hk:BW x) (ids:List Int):DV x.AD (DV x.AD ids)=DV x.AD ids:=by
 have key: ∀v∈GF x.AD,decide (v∈HJ x.AD (H6 x.AD (-1) (DV x.AD ids)))=decide (v∈HJ x.AD (H6 x.AD (-1) ids)):=fun v hv=>by
  obtain ⟨k,k8,kv,rfl⟩:=(W0 hk).1 hv
  refine decide_eq_decide.2 ?_
  rw [MJ hk k8 kv,MJ hk k8 kv]
  constructor
  ·rintro ⟨z,hz,s,hs,hr⟩
   obtain ⟨m,m8,mv,rfl,mr⟩:=(H7 hk).1 hz
   rw [RS hk m8 mv] at hs
   have:m=s:=by omega
   subst this
   exact mr.reach hr
  ·intro h
   exact ⟨_,(H7 hk).2 ⟨k,k8,kv,rfl,h⟩,k,RS hk k8 kv, .refl⟩
 show (GF x.AD).filter (fun v=>decide (v∈HJ x.AD (H6 x.AD (-1) (DV x.AD ids))))=(GF x.AD).filter fun v=>decide (v∈HJ x.AD (H6 x.AD (-1) ids))
 exact List.filter_congr key
theorem WQ {x:Hp} (hk:BW x) (ids:List Int):(DV x.AD ids).length≤8:=by
 have:=SO x.AD
 have h2:(DV x.AD ids).length≤(GF x.AD).length:=List.length_filter_le _ _
 have:=hk.ol;omega
theorem OT {L:List Int} {K:J2} (hb:P3 L) (h: ∀(x:Hp) (l:List Int),nE x→l.length≤3→(∀v∈l, -1≤v∧v≤7999)→K [] (trees x++[tI l])):cl2 ⟨Try.prog,w0⟩ 52 CJ.sg [] [tY L] K:=by
 refine CJ.cl2 ?_
 unfold CJ.txt
 refine YT hb fun z=>YS hb (Nat.zero_le _) fun x i1 z1 hx h1=>CF hb h1 fun n i2 z2 n0 n1 h2=> ?_
 obtain ⟨n,rfl⟩: ∃m:Nat,n=m:=⟨n.toNat,by omega⟩
 refine FG (α:=Nat×Nat×Int×List Int) (fun q=>[iv q.1,iv q.2.1,I q.2.2.1]) (fun q=>[tI q.2.2.2,tR tO x.AD,tR tW x.B1,tI x.buffer,tS x.sites]) (fun q=>q.1) (fun q=>q.1+q.2.2.2.length≤3∧q.2.1≤L.length∧ ∀v∈q.2.2.2, -1≤v∧v≤7999) (n,i2,z2,[]) rfl rfl ⟨by simp;omega,h2,by simp⟩ (fun R q hq hR=> ?_)
 obtain ⟨n,i,z,l⟩:=q
 obtain ⟨q1,q2,q3⟩:=hq
 simp only at q1 q2 q3
 simp only [AH,AP,AK,AM,AO,AE,AI,AR,AN,AL,AS,AJ,AT,AQ,BH,BL,BM,BN,BP,BO,BK,A5,A8,A4,A9,A6,A7]
 refine JM (AX (fun hgt=> ?_) fun _=>h x l hx (by omega) q3)
 refine LC hb q2 hx.fits.ol fun v i3 z3 v0 v1 h3=> ?_
 refine EH rfl (by first | omega | (simp only [AH,AP,AK,AM,AO,AE,AI,AR,AN,AL,AS,AJ,AT,AQ,BH,BL,BM,BN,BP,BO,BK,A5,A8,A4,A9,A6,A7];omega)) (H2 ⟨by omega,by omega⟩ ?_)
 have hR:=hR (n-1,i3,z3,l++[v]) ⟨by simp;omega,h3,fun u hu=>by
  rcases List.mem_append.1 hu with hu | hu
  ·exact q3 u hu
  ·rw [List.mem_singleton.1 hu];exact ⟨v0,v1⟩⟩ (by simp only;omega)
 rw [show (n:Int)-1=((n-1:Nat):Int) from by omega]
 simp only at hR
 rw [←DJ] at hR
 exact hR
theorem X8 {x:Hp} {a b:Int} {k m:Nat} {K:J2} (hk:BW x) (fa:F64 a) (fb:F64 b) (ha:AA x.AD a=(k:Int)) (hb:AA x.AD b=(m:Int)) (h:K [.bool (decide (b∈HJ x.AD (H6 x.AD (-1) (ob x.AD k).field)))] []):cl2 ⟨Try.prog,w0⟩ 26 GP.sg [I a,I b] (trees x) K:=by
 have ol:=hk.ol
 have k8:=(I6 ha).1
 have kl:k<x.AD.length:=by omega
 have hp:=hk.hp.obj k k8
 have nk:=hk.KH.ob k
 refine GP.cl2 ?_
 unfold GP.txt
 try simp only [trees]
 try simp only [AH,AP,AK,AM,AO,AE,AI,AR,AN,AL,AS,AJ,AT,AQ,BH,BL,BM,BN,BP,BO,BK,A5,A8,A4,A9,A6,A7]
 have p1: ¬(x.AD.length:Int)≠8:=by omega
 have p2: ¬AA x.AD a<0:=by omega
 have p3: ¬AA x.AD b<0:=by omega
 refine DK (BT (BT (GY p1 (BX fa (by omega) (GY p1 (BA (EJ p1 rfl ?_)))))))
 refine BT (BT (GY p2 (BX fb (by omega) (GY p2 (BA (EJ p2 rfl (FU p3 (BX fa (by omega) ?_))))))))
 rw [ha]
 simp only [AH,AP,AK,AM,AO,AE,AI,AR,AN,AL,AS,AJ,AT,AQ,BH,BL,BM,BN,BP,BO,BK,A5,A8,A4,A9,A6,A7]
 refine AU kl (OJ kl ?_)
 rw [GW kl]
 refine TH (x:=x) (b:= -1) hk.fits hk.KH hk.vS nk.2.2.2.2.2 (by rw [hp.len];omega) ?_
 rw [nP]
 have ql:=(TY x.AD (-1) (ob x.AD k).field).1.len
 have il:=OD x.AD (H6 x.AD (-1) (ob x.AD k).field)
 exact II (by omega) h
end Go.Proofs.Ytklmcfpgdfibnaa.P
