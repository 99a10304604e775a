/- A part of the proof. -/
import Derived.Test.YtklmcfpgdfibnaaKeKepC
import Derived.Test.YtklmcfpgdfibnaaKeKepA
import Derived.Test.YtklmcfpgdfibnaaKeBfsA
import Derived.Test.YtklmcfpgdfibnaaKeTriA
namespace Go.Proofs.Ytklmcfpgdfibnaa.P
open Go Go.Proofs.Ytklmcfpgdfibnaa Go.Proofs.Ytklmcfpgdfibnaa.Eng
set_option linter.unusedVariables false
set_option maxHeartbeats 4000000
set_option linter.unusedVariables false
set_option linter.unusedSimpArgs false
attribute [local irreducible] prP gP gE gF AX ixW ldc ldg ldl stc stg scW mkW apW BE cl2 BS DF CB
variable {w0:World}
theorem YB {a:List Nd} {ws:List Wk} {ss:List ByteArray} {K:J2} (na:NOk a) (hg: ∀i,i<8→(nd a i).gen≤999) (hw:ws.length=8) (hs:ss.length≤6) (h:K [.bool true] []):cl2 ⟨Try.prog,w0⟩ 133 GV.sg [] [tR tN a,tR tW ws,tS ss] K:=by
 have al:=na.len
 refine GV.cl2 ?_
 unfold GV.txt
 simp only [AI,AO,AM,AS,AH,AE,AG,AK,AN,AP,AR,AT,AQ,AL,BD,BJ,BL,BK,BM,BN,BG,A4,AZ,A6,A8,A5,A7]
 have p1: ¬(a.length:Int)≠8:=by omega
 have p2: ¬(ws.length:Int)≠8:=by omega
 refine CM (BC (BC (BC (EC p1 (CM (CZ p1 rfl (BC (BC (BC (EC p2 (HB (CZ p2 rfl (C0 (by omega) ?_)))))))))))))
 refine BH (fun i=>[iv i]) (fun _=>[]) 8 (fun _=>True) rfl rfl trivial (fun R i hi _ hR=> ?_)
 simp only [AI,AO,AM,AS,AH,AE,AG,AK,AN,AP,AR,AT,AQ,AL,BD,BJ,BL,BK,BM,BN,BG,A4,AZ,A6,A8,A5,A7]
 refine AY (AW (fun hlt=> ?_) fun hge=> ?_)
 ·have i8:i<8:=by omega
  have il:i<a.length:=by omega
  obtain ⟨q1,_,⟨q2,_⟩,⟨q3,q4⟩,q5,q6⟩:=na.nd i i8
  have q7:=hg i i8
  refine AJ il (rZ il ?_)
  have t1:tv (nxT (tN (nd a i)) 1)=I (nd a i).gen:=rfl
  have t3:tv (nxT (tN (nd a i)) 3)=I (nd a i).holds:=rfl
  have t4:tv (nxT (tN (nd a i)) 4)=I (nd a i).roots:=rfl
  simp only [t1,t3,t4]
  rw [TG il]
  have r1: ¬ ¬(0≤(nd a i).gen∧(nd a i).gen≤999):=fun hh=>hh ⟨q2,q7⟩
  have r2: ¬ ¬(0≤(nd a i).holds∧(nd a i).holds≤20):=fun hh=>hh ⟨q3,q4⟩
  have r3: ¬ ¬(0≤(nd a i).roots∧(nd a i).roots≤20):=fun hh=>hh ⟨q5,q6⟩
  refine CN (CQ (BC (BC (EC r1 (CN (EC r1 (CQ (CZ r1 rfl (BC (BC ?_))))))))))
  refine EC r2 (CN (EC r2 (CQ (CZ r2 rfl (BC (BC (BC ?_)))))))
  refine EC r3 (CM (CZ r3 rfl (C0 ?_ (BA (by omega) (hR i8 trivial)))))
  rw [AE];omega
 ·exact h
theorem ZU {a:List Nd} {ws:List Wk} {ss:List ByteArray} {K:J2} (na:NOk a) (hw:ws.length=8) (hs:ss.length≤6) (h:K [] [tR tN a,tR tW ws,tS ss]):cl2 ⟨Try.prog,w0⟩ 132 HQ.sg [] [tR tN a,tR tW ws,tS ss] K:=by
 have al:=na.len
 refine HQ.cl2 ?_
 unfold HQ.txt
 simp only [AI,AO,AM,AS,AH,AE,AG,AK,AN,AP,AR,AT,AQ,AL,BD,BJ,BL,BK,BM,BN,BG,A4,AZ,A6,A8,A5,A7]
 refine DC (UQ ws) (by first | omega | (simp only [cnt,List.length_nil,Nat.zero_div];omega)) (DC (TS ss) (by first | omega | (simp only [cnt,List.length_nil];omega)) ?_)
 rw [List.nil_append,List.nil_append]
 refine BH (fun i=>[iv i]) (fun i=>[tR tN (a.take i),tR tW ws,tS ss]) 8 (fun _=>True) rfl rfl trivial (fun R i hi _ hR=> ?_)
 have tl:(a.take i).length=i:=by rw [List.length_take];omega
 simp only [AI,AO,AM,AS,AH,AE,AG,AK,AN,AP,AR,AT,AQ,AL,BD,BJ,BL,BK,BM,BN,BG,A4,AZ,A6,A8,A5,A7]
 refine AY (AW (fun hlt=> ?_) fun hge=> ?_)
 ·have i8:i<8:=by omega
  have il:i<a.length:=by omega
  have fl:=(na.nd i i8).1
  have hR:=hR i8 trivial
  refine AJ il (rZ il ?_)
  rw [TG il]
  refine DC (KZ _) (by first | omega | (simp only [AI,AO,AM,AS,AH,AE,AG,AK,AN,AP,AR,AT,AQ,AL,BD,BJ,BL,BK,BM,BN,BG,A4,AZ,A6,A8,A5,A7];omega)) ?_
  rw [List.nil_append]
  refine fO (by first | omega | (simp only [AI,AO,AM,AS,AH,AE,AG,AK,AN,AP,AR,AT,AQ,AL,BD,BJ,BL,BK,BM,BN,BG,A4,AZ,A6,A8,A5,A7];omega)) (BA (by omega) ?_)
  rw [List.take_succ_eq_append_getElem il,QD il, ←kR] at hR
  exact hR
 ·have:i=8:=by omega
  subst this
  rw [List.take_of_length_le (by omega)]
  exact h
theorem SL {a:List Nd} {ws:List Wk} {cc:List T} {kind k b c:Int} {s:ByteArray} {K:J2} (na:NOk a) (hwl:ws.length=8) (hk:F64 k) (hwf: ∀w∈ws,F64 w.target) (h7:kind=7→K [I (HO (osN a) ws k).2.code,I (HO (osN a) ws k).2.val] [tR tW (HO (osN a) ws k).1,tI (HO (osN a) ws k).2.freed]) (h:kind≠7→K [I (CX (osN a) ws kind k).2.code,I (CX (osN a) ws kind k).2.val] [tR tW (CX (osN a) ws kind k).1,tI (CX (osN a) ws kind k).2.freed]):cl2 ⟨Try.prog,w0⟩ 136 GY.sg [I kind,I k,I b,I c, .string s] [tR tN a,tR tW ws,cc] K:=by
 have al:=na.len
 refine GY.cl2 ?_
 unfold GY.txt
 simp only [AI,AO,AM,AS,AH,AE,AG,AK,AN,AP,AR,AT,AQ,AL,BD,BJ,BL,BK,BM,BN,BG,A4,AZ,A6,A8,A5,A7]
 refine BF (AW (fun he=> ?_) fun he=> ?_)
 ·replace h:=h7 he
  clear h7
  unfold HO at h
  refine I2 hk (by omega) (AY (AW (fun hs=> ?_) fun hs=> ?_))
  ·rw [if_pos hs] at h;exact h
  rw [if_neg hs] at h
  refine BH (fun i=>[iv i,I kind,I k,I b,I c, .string s,I 0,I 0]) (fun _=>[tR tW ws]) ws.length (fun i=> ∀j,j<i→(!(wk ws j).used)=false) rfl rfl (fun k hk=>by omega) (fun R i hi hP hR=> ?_)
  simp only [AI,AO,AM,AS,AH,AE,AG,AK,AN,AP,AR,AT,AQ,AL,BD,BJ,BL,BK,BM,BN,BG,A4,AZ,A6,A8,A5,A7]
  refine AY (AW (fun hlt=> ?_) fun hge=> ?_)
  ·have hlt:i<ws.length:=by omega
   cases hv:(wk ws i).used with
   | false=>
     refine AJ hlt (LY (v:= .bool false) hlt (by simp [tW,hv]) (B2 (BV (AJ hlt ?_))))
     unfold I8 at h
     rw [JH hlt (by rw [hv];rfl) hP,if_neg (by omega),Int.toNat_natCast] at h
     exact KF (f:=tW) hlt (y:=⟨true,k⟩) rfl h
   | true=>
     refine AJ hlt (LY (v:= .bool true) hlt (by simp [tW,hv]) (B2 (BU (BA (by omega) (hR hlt fun k hk=> ?_)))))
     rcases Nat.lt_succ_iff_lt_or_eq.1 hk with h3 | rfl
     ·exact hP k h3
     ·rw [hv];rfl
  ·have:i=ws.length:=by omega
   subst this
   unfold I8 at h
   rw [LP hP,if_pos (by decide)] at h;exact h
 ·replace h:=h he
  clear h7
  unfold CX at h
  refine FJ ⟨by omega,by omega⟩ (CN (CQ ?_))
  by_cases hb: ¬(0≤k∧k≤(ws.length:Int)-1)
  ·rw [if_pos hb] at h
   repeat' (first | exact h | refine BC ?_ | refine J3 (by first | with_reducible assumption | omega) ?_ | refine C4 (by first | with_reducible assumption | omega) rfl ?_ | refine BV ?_)
  rw [if_neg hb] at h
  obtain ⟨j,rfl⟩: ∃j:Nat,k=j:=⟨k.toNat,by omega⟩
  rw [Int.toNat_natCast] at h
  have jl:j<ws.length:=by omega
  have hw:=hwf _ (List.getElem_mem jl)
  rw [XU jl] at hw
  cases hu:(wk ws j).used with
  | false=>
    rw [if_pos hu] at h
    repeat' (first | refine LY (v:= .bool false) jl (by simp [tW,hu]) ?_ | exact h | refine BC ?_ | refine EC (by first | with_reducible assumption | omega) ?_ | refine CZ (by first | with_reducible assumption | omega) rfl ?_ | refine BV ?_ | refine AJ (by omega) ?_ | refine B2 ?_)
  | true=>
    rw [if_neg (by rw [hu];decide)] at h
    repeat' (first | refine LY (v:= .bool true) jl (by simp [tW,hu]) ?_ | refine I2 hw (by omega) ?_ | refine BP ?_ | refine BC ?_ | refine EC (by first | with_reducible assumption | omega) ?_ | refine CZ (by first | with_reducible assumption | omega) rfl ?_ | refine BU ?_ | refine AY ?_ | refine BF ?_ | refine AJ (by omega) ?_ | refine jP (by omega) (by decide) rfl ?_ | refine AW (fun _=> ?_) (fun _=> ?_) | refine B2 ?_ | simp only [AI,AO,AM,AS,AH,AE,AG,AK,AN,AP,AR,AT,AQ,AL,BD,BJ,BL,BK,BM,BN,BG,A4,AZ,A6,A8,A5,A7])
    ·rename_i hh
     rw [if_pos hh] at h
     exact KF (f:=tW) jl (y:=⟨false,0⟩) rfl h
    ·rename_i hh hs
     rw [if_neg hh,if_pos hs] at h
     exact h
    ·rename_i hh hs
     rw [if_neg hh,if_neg hs] at h
     exact h
theorem YS {a:List Nd} {cc:List T} {ss:List ByteArray} {s:ByteArray} {k1 k2 k3 k4:Int} {K:J2} (na:NOk a) (hsl:ss.length≤6) (h: ∀(a':List Nd) (ss':List ByteArray) (v:Int),NOk a'→(∀i,i<8→(nd a' i).live=(ob (DD (osN a) ss s).1 i).live∧(nd a' i).gen=(ob (DD (osN a) ss s).1 i).gen)→K [I (DD (osN a) ss s).2.2.code,I v] [tR tN a',tS ss',[]]):cl2 ⟨Try.prog,w0⟩ 134 GU.sg [I k1,I k2,I k3,I k4, .string s] [tR tN a,cc,tS ss] K:=by
 have al:=na.len
 have ol:(osN a).length=8:=by simpa using al
 have same: ∀i,i<8→(nd a i).live=(ob (osN a) i).live∧(nd a i).gen=(ob (osN a) i).gen:=fun i hi=>by rw [GO];exact ⟨rfl,rfl⟩
 refine GU.cl2 ?_
 unfold GU.txt
 unfold DD at h
 refine T2 (CN (CQ (AW (fun hb=> ?_) fun hb=> ?_)))
 ·rw [if_pos hb] at h
  exact h a ss 0 na same
 rw [if_neg hb] at h
 refine BH (fun i=>[iv i,I k1,I k2,I k3,I k4, .string s,I 0,I 0]) (fun _=>[tR tN a,tS ss]) 8 (fun i=> ∀k,k<i→F6 (osN a) k=false) rfl rfl (fun k hk=>by omega) (fun R i hi hP hR=> ?_)
 simp only [AI,AO,AM,AS,AH,AE,AG,AK,AN,AP,AR,AT,AQ,AL,BD,BJ,BL,BK,BM,BN,BG,A4,AZ,A6,A8,A5,A7]
 simp only [BG,qT,pW]
 refine AY (AW (fun hlt=> ?_) fun hge=> ?_)
 ·have i8:i<8:=by omega
  have il:i<a.length:=by omega
  obtain ⟨_,_,⟨g1,g2⟩,_⟩:=na.nd i i8
  have more:F6 (osN a) i=false→ ∀k,k<i+1→F6 (osN a) k=false:=fun hn k hk=>by
   rcases Nat.lt_succ_iff_lt_or_eq.1 hk with h3 | rfl
   ·exact hP k h3
   ·exact hn
  have ef:F6 (osN a) i=(!(nd a i).live&&decide ((nd a i).gen<999)):=by unfold F6;rw [GO];rfl
  refine AJ il ?_
  cases hv:(nd a i).live with
  | true=>
    rw [hv] at ef
    exact K2 (v:= .bool true) il (by simp [tN,hv]) (BC (BC (BC (L5 (BC (L5 (L5 (P9 rfl (BV (BA (by omega) (hR i8 (more ef))))))))))))
  | false=>
    rw [hv] at ef
    refine K2 (v:= .bool false) il (by simp [tN,hv]) (BC (BC (BC (K7 (AJ il (BC (K7 (KI (c:=1) il (by decide) rfl (K7 (JW (P5 rfl (AW (fun hge=> ?_) fun hlt9=> ?_))))))))))))
    ·exact BA (by omega) (hR i8 (more (by rw [ef];simp;omega)))
    ·have hfr:B8 (osN a)=(i:Int):=by
      unfold B8
      rw [ol]
      exact JH i8 (by rw [ef];simp;omega) hP
     rw [hfr,if_neg (by omega),Int.toNat_natCast] at h
     have ego:(ob (osN a) i).gen=(nd a i).gen:=by rw [GO];rfl
     rw [ego,JK ⟨by omega,by omega⟩] at h
     refine BH (fun t=>[iv i,iv t,I k1,I k2,I k3,I k4, .string s,I 0,I 0]) (fun _=>[tR tN a,tS ss]) ss.length (fun t=>s∉ss.take t) rfl rfl (by simp) (fun R2 t ht hPt hR2=> ?_)
     simp only [AI,AO,AM,AS,AH,AE,AG,AK,AN,AP,AR,AT,AQ,AL,BD,BJ,BL,BK,BM,BN,BG,A4,AZ,A6,A8,A5,A7]
     simp only [BG,qT,pW]
     have fin: ∀(ss':List ByteArray) (t:Int),(6≤ss.length→ ¬at_ ss s<0)→ixW a.length (iv i) fun t74_34=>
       ldc (tR tN a) [] (((AA t74_34)*6)+1) fun t76_35=>
       prP (bnI .add t76_35 (.int .i64 1)) fun t77_36=>
       cl2 ⟨Try.prog,w0⟩ 121 CL.sg [] [] fun v37 d38=>
       ixW a.length (iv i) fun t85_39=>
       stg (tR tN a) [] ((AA t85_39)*6) [T.c (.bool true),T.c t77_36,T.c (I t),T.c (.int .i64 1),T.c (.int .i64 0),T.l 1 (nxc d38 0)] fun k40=>
       cl2 ⟨Try.prog,w0⟩ 61 CE.sg [iv i,t77_36] [] fun v41 d42=>
       K [(.int .i64 0),(nx v41 0)] [k40,tS ss',[]]:=fun ss' t hat=>by
      rw [if_neg (fun hh=>hat hh.2 hh.1)] at h
      refine AJ il (KI (c:=1) il (by decide) rfl (DN ⟨by omega,by omega⟩ (GX (AJ il (gT (y:=⟨true,(nd a i).gen+1,t,1,0,MX⟩) il rfl (FD ?_))))))
      simp only [BD]
      refine h _ ss' _ (na.set i8 rfl l7 ⟨by simp only;omega,by simp only;omega⟩ ⟨by simp,by simp⟩ ⟨by simp,by simp⟩) fun m hm=> ?_
      rw [QG il,DZ (by omega)]
      by_cases hmi:m=i
      ·rw [if_pos hmi,if_pos hmi];exact ⟨rfl,rfl⟩
      ·rw [if_neg hmi,if_neg hmi];exact same m hm
     by_cases hlt2:(t:Int)<(ss.length:Int)
     ·have tl:t<ss.length:=by omega
      refine AY (BC (BC (BC (FF hlt2 (AJ tl (FF hlt2 (ldS tl (BC (BC (FF hlt2 (sJ (C4 hlt2 rfl (AW (fun hne=> ?_) fun heq=> ?_)))))))))))))
      ·exact BA (by omega) (hR2 tl (XE tl hPt (by rw [QK tl];exact hne)))
      ·have hin:s∈ss:=by
        have:=List.getElem_mem tl
        rw [QK tl,Classical.not_not.1 heq] at this
        exact this
       refine JW (C0 (by omega) (BP (BF (C0 (by omega) ?_))))
       simp only [AI,AO,AM,AS,AH,AE,AG,AK,AN,AP,AR,AT,AQ,AL,BD,BJ,BL,BK,BM,BN,BG,A4,AZ,A6,A8,A5,A7]
       exact fin ss t fun _ hh=>at_mem.1 hh hin
     ·have:t=ss.length:=by omega
      subst this
      rw [List.take_length] at hPt
      refine AY (BC (BC (BC (IB hlt2 (IB hlt2 (BC (BC (IB hlt2 (CZ hlt2 rfl (BU (JW (AW (fun h6=> ?_) fun h6=> ?_))))))))))))
      ·rw [if_pos ⟨at_mem.2 hPt,by omega⟩] at h
       exact h a ss 0 na same
      ·refine BP (BF (CY rfl (DC rfl (by omega) ?_)))
       have:=fin (ss++[s]) ss.length fun h66=>absurd h66 (by omega)
       rw [←WQ] at this
       simp only [AI,AO,AM,AS,AH,AE,AG,AK,AN,AP,AR,AT,AQ,AL,BD,BJ,BL,BK,BM,BN,BG,A4,AZ,A6,A8,A5,A7]
       exact this
 ·have:i=8:=by omega
  subst this
  have hfr:B8 (osN a)= -1:=by
   unfold B8
   rw [ol]
   exact LP hP
  rw [hfr,if_pos (by decide)] at h
  exact h a ss 0 na same
end Go.Proofs.Ytklmcfpgdfibnaa.P
namespace Go.Proofs.Ytklmcfpgdfibnaa.P
open Go Go.Proofs.Ytklmcfpgdfibnaa Go.Proofs.Ytklmcfpgdfibnaa.Eng
set_option linter.unusedVariables false
theorem LB.kids {a b:List AU} (h:LB a b) (ha:a.length=8) (hb:b.length=8) {k:Nat} (hk:k<8):BO a k=BO b k:=by
 unfold BO
 rw [(h k hk).2.2.2.2]
 have:AB a=AB b:=funext fun x=>h.slot ha hb x
 rw [this]
theorem LB.reach {a b:List AU} (h:LB a b) (ha:a.length=8) (hb:b.length=8) {s k:Nat} (hs:s<8) (hr:Reach a s k):Reach b s k:=by
 induction hr with
 | refl=>exact .refl
 | step hr hj ih=>exact .step ih (by rw [←h.kids ha hb (hr.lt hs)];exact hj)
theorem LB.exts {a b:List AU} (h:LB a b) (ha:a.length=8) (hb:b.length=8):exts a=exts b:=by
 unfold P.exts
 rw [ha,hb]
 refine S8 fun i hi=> ?_
 obtain ⟨h1,h2,h3,h4,_⟩:=h i hi
 unfold ZI
 rw [h1,h2,h3,h4]
theorem LB.rb {a b:List AU} (h:LB a b) (ha:a.length=8) (hb:b.length=8) {ids:List Int} {k:Nat} (hr:RB a ids k):RB b ids k:=by
 obtain ⟨v,hv,s,hs,hr⟩:=hr
 refine ⟨v,hv,s,by rw [←h.slot ha hb];exact hs,h.reach ha hb ?_ hr⟩
 have:=(I3 hs).1;exact this
theorem h9 {a b:List AU} {ss:List ByteArray} {s:ByteArray} (ha:a.length=8) (hb:b.length=8) (h: ∀i,i<8→(ob a i).live=(ob b i).live∧(ob a i).gen=(ob b i).gen):(DD a ss s).2.2.code=(DD b ss s).2.2.code∧ ∀i,i<8→(ob (DD a ss s).1 i).live=(ob (DD b ss s).1 i).live∧(ob (DD a ss s).1 i).gen=(ob (DD b ss s).1 i).gen:=by
 have hf:B8 a=B8 b:=by
  unfold B8
  rw [ha,hb]
  have hp: ∀i,i<8→F6 a i=F6 b i:=fun i hi=>by unfold F6;rw [(h i hi).1,(h i hi).2]
  rcases PN 8 (F6 a) with ⟨e,hn⟩ | ⟨i,hi,e,hy,hn⟩
  ·rw [e,LP fun k hk=>by rw [←hp k hk];exact hn k hk]
  ·rw [e,JH hi (by rw [←hp i hi];exact hy) fun k hk=>by rw [←hp k (by omega)];exact hn k hk]
 unfold DD
 rw [hf]
 split
 ·exact ⟨rfl,h⟩
 ·split
  ·exact ⟨rfl,h⟩
  ·rename_i hfs
   split
   ·exact ⟨rfl,h⟩
   ·refine ⟨rfl,fun i hi=> ?_⟩
    obtain ⟨f1,f2,_⟩:=ME hfs
    simp only
    rw [DZ (by omega),DZ f1,(h (B8 b).toNat (by omega)).2]
    split
    ·exact ⟨rfl,rfl⟩
    ·exact h i hi
theorem oP {a b:List AU} {ws:List Wk} {id:Int} (h:AB a id=AB b id):HO a ws id=HO b ws id:=by unfold HO;rw [h]
theorem dZ {a b:List AU} {ws:List Wk} {kd k:Int} (h: ∀x,AB a x=AB b x):CX a ws kd k=CX b ws kd k:=by unfold CX;rw [h]
theorem oT.res {G:List AU→Prop} {os:List AU} {ns:Nat} {buf:List Int} {r:List AU×List Int×An} (m:oT G os ns buf r) (ho:os.length=8):(r.2.2.code≠0∧r.1=os∧r.2.2.freed=[])∨(r.2.2.code=0∧ ∃os1,os1.length=8∧G os1∧HX os1 r.1 r.2.2.freed∧JN os1 r.1∧ ∀i,i<8→(ob r.1 i).live=true→PT r.1 i):=by
 rcases m with ⟨c,hc,rfl⟩ | ⟨os1,h1,_,_,hG,rfl⟩ | ⟨os1,x,h1,_,_,hG,rfl⟩
 ·exact .inl ⟨by simp only;omega,rfl,rfl⟩
 ·exact .inr ⟨rfl,os1,h1.ol,hG,HX.refl h1.ol,JN.refl _,fun i hi hv=>h1.held hi hv⟩
 ·exact .inr ⟨rfl,os1,h1.ol,hG,dM h1,vO h1,fun i hi hv=>(HP.FK h1).held hi hv⟩
theorem nG {os:List AU} {buf:List Int} {kd id:Int} {k:Nat} (hk:AB os id=(k:Int)) (hkd:kd=2∨kd=3∨kd=5∨kd=6) (h1:0≤(ob os k).holds∧(ob os k).holds≤20) (h2:0≤(ob os k).roots∧(ob os k).roots≤20):(FG os buf kd id).2.2.code=if hdM kd (ob os k).holds>20∨rtM kd (ob os k).roots>20 then 4 else if hdM kd (ob os k).holds<0∨rtM kd (ob os k).roots<0 then 5 else 0:=by
 unfold FG
 rw [if_neg (by omega),hk,Int.toNat_natCast]
 rcases hkd with rfl | rfl | rfl | rfl
 ·simp only [hdM,rtM,if_true]
  by_cases h:(ob os k).holds=20
  ·rw [if_pos h,if_pos (by simp;omega)]
  ·rw [if_neg h,if_neg (by simp;omega),if_neg (by simp;omega)]
 ·simp only [hdM,rtM,show ¬(3:Int)=2 by decide,show ¬(3:Int)=5 by decide,if_true,if_false,or_true]
  by_cases h:(ob os k).holds=0
  ·rw [if_pos h,if_neg (by omega),if_pos (by omega)]
  ·rw [if_neg h,if_neg (by omega),if_neg (by omega)];rfl
 ·simp only [hdM,rtM,show ¬(5:Int)=2 by decide,show ¬(5:Int)=3 by decide,if_true,if_false]
  by_cases h:(ob os k).roots=20
  ·rw [if_pos h,if_pos (by omega)]
  ·rw [if_neg h,if_neg (by omega),if_neg (by omega)]
 ·simp only [hdM,rtM,show ¬(6:Int)=2 by decide,show ¬(6:Int)=3 by decide,show ¬(6:Int)=5 by decide,if_false,or_false]
  by_cases h:(ob os k).roots=0
  ·rw [if_pos h,if_neg (by omega),if_pos (by omega)]
  ·rw [if_neg h,if_neg (by omega),if_neg (by omega)];rfl
theorem hC {os:List AU} {buf:List Int} {a b c:Int}:(EO os buf a b c).2.2.code=if AB os a<0∨(c≠ -1∧AB os c<0) then 1 else if ¬(0≤b∧b≤2) then 2 else 0:=by
 unfold EO
 split
 ·rfl
 ·split
  ·rfl
  ·split <;> rfl
theorem Dp (v:Int):hdM 2 v=v+1:=if_pos rfl
theorem De (v:Int):hdM 3 v=v-1:=by unfold hdM;rw [if_neg (by decide),if_pos rfl]
theorem Dm (v:Int):hdM 5 v=v:=by unfold hdM;rw [if_neg (by decide),if_neg (by decide)]
theorem Cu (v:Int):hdM 6 v=v:=by unfold hdM;rw [if_neg (by decide),if_neg (by decide)]
theorem Ct (v:Int):rtM 2 v=v:=by unfold rtM;rw [if_neg (by decide),if_pos (by decide)]
theorem Cx (v:Int):rtM 3 v=v:=by unfold rtM;rw [if_neg (by decide),if_pos (by decide)]
theorem Dr (v:Int):rtM 5 v=v+1:=if_pos rfl
theorem Cz (v:Int):rtM 6 v=v-1:=by unfold rtM;rw [if_neg (by decide),if_neg (by decide)]
set_option maxHeartbeats 4000000
set_option linter.unusedVariables false
set_option linter.unusedSimpArgs false
attribute [local irreducible] prP gP gE gF AX ixW ldc ldg ldl stc stg scW mkW apW BE cl2 BS DF CB
variable {w0:World}
structure pT (a a':List Nd) (fr out:List Int):Prop where
 nok:NOk a'
 R:HX (osN a) (osN a') fr
 D:JN (osN a) (osN a')
 E: ∀i,i<8→(ob (osN a') i).live=true→PT (osN a') i
 pm:out.Perm fr
 so:out.Pairwise (· ≤ ·)
theorem ZP {a:List Nd} {d e:List T} {kd id b c:Int} {s:ByteArray} {K:J2} (na:NOk a) (hg:qO a) (fid:F64 id) (hkd:kd=2∨kd=3∨kd=5∨kd=6) (h1:AB (osN a) id<0→K [I 1,I 0] [tR tN a,[]])
  (h2: ∀k:Nat,AB (osN a) id=(k:Int)→(hdM kd (nd a k).holds>20∨rtM kd (nd a k).roots>20)→K [I 4,I 0] [tR tN a,[]])
  (h3: ∀k:Nat,AB (osN a) id=(k:Int)→ ¬(hdM kd (nd a k).holds>20∨rtM kd (nd a k).roots>20)→(hdM kd (nd a k).holds<0∨rtM kd (nd a k).roots<0)→K [I 5,I 0] [tR tN a,[]])
  (h4: ∀k:Nat,AB (osN a) id=(k:Int)→ ¬(hdM kd (nd a k).holds>20∨rtM kd (nd a k).roots>20)→ ¬(hdM kd (nd a k).holds<0∨rtM kd (nd a k).roots<0)→ ∀(a':List Nd) (fr out:List Int),pT (a.set k {nd a k with holds:=hdM kd (nd a k).holds,roots:=rtM kd (nd a k).roots}) a' fr out→K [I 0,I 0] [tR tN a',tI out]):
  cl2 ⟨Try.prog,w0⟩ 135 GA.sg [I kd,I id,I b,I c, .string s] [tR tN a,d,e] K:=by
 have al:=na.len
 refine GA.cl2 ?_
 unfold GA.txt
 simp only [AI,AO,AM,AS,AH,AE,AG,AK,AN,AP,AR,AT,AQ,AL,BD,BJ,BL,BK,BM,BN,BG,A4,AZ,A6,A8,A5,A7]
 refine I2 fid (by omega) (AY (AW (fun hs=>h1 hs) fun hs=> ?_))
 obtain ⟨k,hk⟩: ∃k:Nat,AB (osN a) id=(k:Int):=⟨(AB (osN a) id).toNat,by omega⟩
 have hl:=I3 hk
 have k8:=hl.1
 have kl:k<a.length:=by omega
 have h2:=h2 k hk
 have h3:=h3 k hk
 have h4:=h4 k hk
 obtain ⟨f1,f2,f3,⟨f4,f5⟩,f6,f7⟩:=na.nd k k8
 have hbd: -1≤hdM kd (nd a k).holds∧hdM kd (nd a k).holds≤21:=by unfold hdM;split <;> (try split) <;> omega
 have rbd: -1≤rtM kd (nd a k).roots∧rtM kd (nd a k).roots≤21:=by unfold rtM;split <;> (try split) <;> omega
 rw [hk]
 refine AJ kl (KI (c:=3) kl (by decide) rfl (AJ kl (KI (c:=4) kl (by decide) rfl ?_)))
 refine jZ (fun xs cs=>xs=[iv k,I (hdM kd (nd a k).holds),I (rtM kd (nd a k).roots),I 0,I 0]∧cs=[tR tN a]) ?_ fun j hj=> ?_
 rotate_left
 ·rcases hkd with rfl | rfl | rfl | rfl
  ·exact BF (CY rfl (DN ⟨by omega,by omega⟩ (hj _ _ ⟨by rw [Dp,Ct];rfl,rfl⟩)))
  ·exact BF (C0 (by decide) (BF (CY rfl (FJ ⟨by omega,by omega⟩ (hj _ _ ⟨by rw [De,Cx];rfl,rfl⟩)))))
  ·exact BF (C0 (by decide) (BF (C0 (by decide) (BF (CY rfl (DN ⟨by omega,by omega⟩ (hj _ _ ⟨by rw [Dm,Dr];rfl,rfl⟩)))))))
  ·exact BF (C0 (by decide) (BF (C0 (by decide) (BF (C0 (by decide) (FJ ⟨by omega,by omega⟩ (hj _ _ ⟨by rw [Cu,Cz];rfl,rfl⟩)))))))
 rintro xs cs ⟨rfl,rfl⟩
 generalize hdM kd (nd a k).holds=hd at h2 h3 h4 hbd ⊢
 generalize rtM kd (nd a k).roots=rt at h2 h3 h4 rbd ⊢
 simp only [AI,AO,AM,AS,AH,AE,AG,AK,AN,AP,AR,AT,AQ,AL,BD,BJ,BL,BK,BM,BN,BG,A4,AZ,A6,A8,A5,A7]
 refine HB (BC ?_)
 by_cases c1:hd>20
 ·exact J3 c1 (C4 c1 rfl (BV (h2 (.inl c1))))
 refine EC c1 (HB (CZ c1 rfl (AW (fun c2=>h2 (.inr c2)) fun c2=>AY (BC ?_))))
 have n1: ¬(hd>20∨rt>20):=by omega
 by_cases c3:hd<0
 ·exact J3 c3 (C4 c3 rfl (BV (h3 n1 (.inl c3))))
 refine EC c3 (AY (CZ c3 rfl (AW (fun c4=>h3 n1 (.inr c4)) fun c4=> ?_)))
 have n2: ¬(hd<0∨rt<0):=by omega
 have e1:(a.set k {nd a k with holds:=hd}).length=a.length:=by simp
 refine AJ kl (nP kl (AJ (by rw [AH,e1];exact kl) (oJ (by rw [e1];exact kl) ?_)))
 have e2:(a.set k {nd a k with holds:=hd}).set k {nd (a.set k {nd a k with holds:=hd}) k with roots:=rt}=a.set k {nd a k with holds:=hd,roots:=rt}:=by
  rw [List.set_set,QG kl,if_pos rfl]
 rw [e2]
 have n3:NOk (a.set k {nd a k with holds:=hd,roots:=rt}):=na.set k8 f1 f2 f3 ⟨by simp only;omega,by simp only;omega⟩ ⟨by simp only;omega,by simp only;omega⟩
 refine SD n3 (fun i hi hv=> ?_) fun a' fr out m1 m2 m3 m4 m5 m6=>h4 n1 n2 a' fr out ⟨m1,m2,m3,m4,m5,m6⟩
 rw [QG kl] at hv ⊢
 by_cases hik:i=k
 ·subst hik;rw [if_pos rfl] at hv ⊢;exact hg i hi hv
 ·rw [if_neg hik] at hv ⊢;exact hg i hi hv
structure J8 (h:Hp) (o:Op5) (a':List Nd) (code:Int) (out:List Int):Prop where
 code:code=(CD h o).2.code
 nok:NOk a'
 same: ∀i,i<8→(nd a' i).live=(ob (CD h o).1.AD i).live∧(nd a' i).gen=(ob (CD h o).1.AD i).gen
 pm:out.Perm (CD h o).2.freed
 so:out.Pairwise (· ≤ ·)
theorem iQ {h:Hp} (hk:B1 h) (hn:RY h):NOk (h.AD.map HE):=by
 refine ⟨by simpa using hk.ol,fun i hi=> ?_⟩
 rw [PX]
 have ho:=hk.obj i hi
 have hr:=hk.hr i
 exact ⟨ho.len,fun f hf=>(hn.ob i).2.2.2.2.2 f hf,⟨ho.gen.1,by have:=ho.gen.2;show (ob h.AD i).gen≤1000;omega⟩,hr.1,hr.2⟩
theorem WK (os:List AU):LB (osN (os.map HE)) os:=fun i _=>by rw [GO,PX];exact ⟨rfl,rfl,rfl,rfl,rfl⟩
end Go.Proofs.Ytklmcfpgdfibnaa.P
namespace Go.Proofs.Ytklmcfpgdfibnaa.P
open Go Go.Proofs.Ytklmcfpgdfibnaa Go.Proofs.Ytklmcfpgdfibnaa.Eng
set_option linter.unusedVariables false
set_option maxHeartbeats 4000000
set_option linter.unusedVariables false
set_option linter.unusedSimpArgs false
attribute [local irreducible] prP gP gE gF AX ixW ldc ldg ldl stc stg scW mkW apW BE cl2 BS DF CB
variable {w0:World}
attribute [local irreducible] CD
end Go.Proofs.Ytklmcfpgdfibnaa.P
namespace Go.Proofs.Ytklmcfpgdfibnaa.P
open Go Go.Proofs.Ytklmcfpgdfibnaa Go.Proofs.Ytklmcfpgdfibnaa.Eng
set_option linter.unusedVariables false
def pQ (q:Que) (i:Nat):Int:=(q.getD i (0,0)).2
theorem Bm {q:Que} {i:Nat} (h:i<q.length):(q[i]).2=pQ q i:=by simp [pQ,h]
theorem p6 {q r:Que} {i:Nat} (h:i<q.length):pQ (q++r) i=pQ q i:=by
 unfold pQ;rw [List.getD_eq_getElem?_getD,List.getElem?_append_left h,List.getD_eq_getElem?_getD]
theorem uK {q:Que} {e:Int×Int}:gQ (q++[e]) q.length=e.1:=by simp [gQ]
theorem kD {q:Que} {e:Int×Int}:pQ (q++[e]) q.length=e.2:=by simp [pQ]
theorem xT {q:Que} (h:(q.map (·.1)).Nodup) {i j:Nat} (hi:i<q.length) (hj:j<q.length) (e:gQ q i=gQ q j):i=j:=by
 have hi':i<(q.map (·.1)).length:=by simpa using hi
 have hj':j<(q.map (·.1)).length:=by simpa using hj
 rw [←Y0 hi, ←Y0 hj] at e
 exact (List.getElem_inj h (h₀:=hi') (h₁:=hj')).1 (by simpa using e)
structure QP (os:List AU) (ids:List Int) (q:Que):Prop where
 qi:QI os (-1) q
 par: ∀j,j<q.length→(pQ q j= -1∧ ∃x∈ids,AB os x=gQ q j)∨ ∃i,i<j∧pQ q j=gQ q i∧gQ q j∈BO os (gQ q i).toNat
theorem QP.nil (os:List AU) (ids:List Int):QP os ids []:=⟨QI.nil _ _,fun j h=>by simp at h⟩
theorem QP.add {os:List AU} {ids:List Int} {q:Que} {p s:Int} (h:QP os ids q) (hs:0≤s→s.toNat<8∧(ob os s.toNat).live=true) (hp:(p= -1∧ ∃x∈ids,AB os x=s)∨ ∃i,i<q.length∧p=gQ q i∧s∈BO os (gQ q i).toNat):QP os ids (J7 (-1) q p s):=by
 refine ⟨h.qi.add hs, ?_⟩
 unfold J7
 split
 ·exact h.par
 ·intro j hj
  rw [List.length_append] at hj
  simp only [List.length_cons,List.length_nil] at hj
  rcases Nat.lt_or_ge j q.length with hl | hl
  ·rw [p6 hl,QJ hl]
   rcases h.par j hl with h | ⟨i,a,b,c⟩
   ·exact .inl h
   ·exact .inr ⟨i,a,by rw [QJ (by omega)];exact b,by rw [QJ (by omega)];exact c⟩
  ·have:j=q.length:=by omega
   subst this
   rw [uK,kD]
   rcases hp with h | ⟨i,a,b,c⟩
   ·exact .inl h
   ·exact .inr ⟨i,a,by rw [QJ a];exact b,by rw [QJ a];exact c⟩
theorem QP.start {os:List AU} {ids:List Int}: ∀i,i≤ids.length→QP os ids (JL os (-1) (ids.take i))
 | 0,_=>by simp [JL];exact QP.nil _ _
 | i+1,hi=>by
   unfold JL
   rw [O4 (by omega)]
   exact (QP.start i (by omega)).add (fun h0=>WB h0) (.inl ⟨rfl,_,DS (by omega),rfl⟩)
theorem QP.kids {os:List AU} {ids:List Int} {q:Que} {m:Nat} (h:QP os ids q) (hm:m<q.length) {l:List Int} (hl: ∀t∈l,t∈BO os (gQ q m).toNat): ∀i,i≤l.length→QP os ids ((l.take i).foldl (fun q' t=>J7 (-1) q' (gQ q m) t) q)∧OI q ((l.take i).foldl (fun q' t=>J7 (-1) q' (gQ q m) t) q)
 | 0,_=>⟨by simpa using h,by simp;exact .refl q⟩
 | i+1,hi=>by
   rw [O4 (by omega)]
   obtain ⟨a,b⟩:=QP.kids h hm hl i (by omega)
   have hk:=hl _ (DS (l:=l) (i:=i) (by omega))
   refine ⟨a.add (fun _=>⟨(CG hk).2.1,(CG hk).2.2.2.2⟩) (.inr ⟨m,by have:=b.len;omega,(b.gq hm).symm,by rw [b.gq hm];exact hk⟩),b.trans .add⟩
theorem QP.step {os:List AU} {ids:List Int} {q:Que} {m:Nat} (h:QP os ids q) (hm:m<q.length):QP os ids (T8 os (-1) q (gQ q m)):=by
 have:=(QP.kids h hm (l:=BO os (gQ q m).toNat) (fun _ h=>h) _ (Nat.le_refl _)).1
 rwa [List.take_length] at this
theorem QP.run {os:List AU} {ids:List Int}: ∀(f i:Nat) (q:Que),QP os ids q→QP os ids (QU os (-1) f i q)∧OI q (QU os (-1) f i q)
 | 0,i,q,h=>⟨h, .refl q⟩
 | f+1,i,q,h=>by
   simp only [QU]
   split
   ·rename_i hi
    obtain ⟨a,b⟩:=QP.run f (i+1) _ (h.step hi)
    exact ⟨a,(TT (gQ q i) h.qi).2.1.trans b⟩
   ·exact ⟨h, .refl q⟩
inductive M8 (os:List AU) (ids:List Int) (q:Que):Nat→List Nat→Prop
 | one {j:Nat}:j<q.length→pQ q j= -1→(∃x∈ids,AB os x=gQ q j)→M8 os ids q j [j]
 | more {i j:Nat} {l:List Nat}:M8 os ids q i l→i<j→j<q.length→pQ q j=gQ q i→gQ q j∈BO os (gQ q i).toNat→M8 os ids q j (l++[j])
theorem QP.way {os:List AU} {ids:List Int} {q:Que} (h:QP os ids q): ∀n j,j<n→j<q.length→ ∃l,M8 os ids q j l
 | 0,j,hn,_=>by omega
 | n+1,j,hn,hj=>by
   rcases h.par j hj with ⟨a,b⟩ | ⟨i,a,b,c⟩
   ·exact ⟨_, .one hj a b⟩
   ·obtain ⟨l,hl⟩:=h.way n i (by omega) (by omega)
    exact ⟨_, .more hl a hj b c⟩
theorem M8.lt {os:List AU} {ids:List Int} {q:Que} {j:Nat} {l:List Nat} (h:M8 os ids q j l):j<q.length:=by cases h <;> assumption
def XD (q:Que):Nat→Int→List Int
 | 0,_=>[]
 | f+1,s=>if s<0 then [] else XD q f (frQ q s.toNat)++[s]
theorem qA {q:Que} {j:Nat} {but:Int} {os:List AU} (h:QI os but q) (hj:j<q.length):frQ q (gQ q j).toNat=pQ q j:=by
 obtain ⟨k,ek,_⟩:=h.lv _ (fE hj)
 rw [ek,Int.toNat_natCast]
 unfold frQ
 have hf:q.find? (fun e=>decide (e.1=(k:Int)))=some q[j]:=by
  rw [List.find?_eq_some_iff_getElem]
  refine ⟨by rw [Y0 hj];exact decide_eq_true ek,j,hj,rfl,fun i hi=> ?_⟩
  rw [Y0 (by omega)]
  have: ¬gQ q i=(k:Int):=fun he=>by
   have:=xT h.nd (i:=i) (j:=j) (by omega) hj (by rw [he,ek])
   omega
  simp [this]
 rw [hf]
 simp [Bm hj]
theorem M8.chain {os:List AU} {ids:List Int} {q:Que} (hq:QI os (-1) q) {j:Nat} {l:List Nat} (h:M8 os ids q j l): ∀f,j<f→XD q f (gQ q j)=l.map (gQ q):=by
 induction h with
 | one a b c=>
   intro f hf
   obtain ⟨f,rfl⟩: ∃m,f=m+1:=⟨f-1,by omega⟩
   obtain ⟨k,ek,_⟩:=hq.lv _ (fE a)
   rw [XD,if_neg (by omega),qA hq a,b]
   cases f with
   | zero=>rfl
   | succ f=>rw [XD,if_pos (by omega)];rfl
 | more h a b c d ih=>
   intro f hf
   obtain ⟨f,rfl⟩: ∃m,f=m+1:=⟨f-1,by omega⟩
   obtain ⟨k,ek,_⟩:=hq.lv _ (fE b)
   rw [XD,if_neg (by omega),qA hq b,c,ih f (by omega)]
   simp
theorem M8.le {os:List AU} {ids:List Int} {q:Que} {j:Nat} {l:List Nat} (h:M8 os ids q j l):(∀i∈l,i≤j∧i<q.length)∧l.Pairwise (· < ·)∧l.getLast?=some j:=by
 induction h with
 | one a b c=>simp;exact a
 | more h a b c d ih=>
   rename_i i j l
   obtain ⟨h1,h2,h3⟩:=ih
   refine ⟨fun m hm=> ?_, ?_,by simp⟩
   ·rcases List.mem_append.1 hm with hm | hm
    ·have:=h1 m hm;omega
    ·rw [List.mem_singleton.1 hm];omega
   ·rw [List.pairwise_append]
    refine ⟨h2,by simp,fun m hm n hn=> ?_⟩
    rw [List.mem_singleton.1 hn]
    have:=h1 m hm;omega
def gN (l:List Nat) (i:Nat):Nat:=l.getD i 0
theorem b8 {l r:List Nat} {i:Nat} (h:i<l.length):gN (l++r) i=gN l i:=by
 unfold gN;rw [List.getD_eq_getElem?_getD,List.getElem?_append_left h,List.getD_eq_getElem?_getD]
theorem M8.first {os:List AU} {ids:List Int} {q:Que} {j:Nat} {l:List Nat} (h:M8 os ids q j l):0<l.length∧ ∃x∈ids,AB os x=gQ q (gN l 0):=by
 induction h with
 | one a b c=>exact ⟨by simp,by simpa [gN] using c⟩
 | more h a b c d ih=>exact ⟨by simp,by rw [b8 ih.1];exact ih.2⟩
theorem M8.end {os:List AU} {ids:List Int} {q:Que} {j:Nat} {l:List Nat} (h:M8 os ids q j l):gN l (l.length-1)=j:=by
 cases h with
 | one a b c=>simp [gN]
 | more h a b c d=>simp [gN]
theorem M8.next {os:List AU} {ids:List Int} {q:Que} {j:Nat} {l:List Nat} (h:M8 os ids q j l): ∀i,i+1<l.length→gQ q (gN l (i+1))∈BO os (gQ q (gN l i)).toNat:=by
 induction h with
 | one a b c=>intro i hi;simp at hi
 | more h a b c d ih=>
   rename_i m j l
   intro i hi
   rw [List.length_append] at hi
   simp only [List.length_cons,List.length_nil] at hi
   rcases Nat.lt_or_ge (i+1) l.length with hl | hl
   ·rw [b8 hl,b8 (by omega)];exact ih i hl
   ·have e:i+1=l.length:=by omega
    have hp:=h.first.1
    rw [b8 (i:=i) (by omega),e]
    have e1:gN (l++[j]) l.length=j:=by simp [gN]
    have e2:gN l i=m:=by rw [←h.end];congr 1;omega
    rw [e1,e2];exact d
end Go.Proofs.Ytklmcfpgdfibnaa.P
namespace Go.Proofs.Ytklmcfpgdfibnaa.P
open Go Go.Proofs.Ytklmcfpgdfibnaa Go.Proofs.Ytklmcfpgdfibnaa.Eng
set_option linter.unusedVariables false
set_option maxHeartbeats 4000000
set_option linter.unusedVariables false
set_option linter.unusedSimpArgs false
attribute [local irreducible] prP gP gE gF AX ixW ldc ldg ldl stc stg scW mkW apW BE cl2 BS DF CB
variable {w0:World}
theorem M8.snoc {os:List AU} {ids:List Int} {q:Que} {j:Nat} {l:List Nat} (h:M8 os ids q j l): ∃p,l=p++[j]:=by
 cases h with
 | one a b c=>exact ⟨[],rfl⟩
 | more h a b c d=>exact ⟨_,rfl⟩
theorem M8.inv {os:List AU} {ids:List Int} {q:Que} {j:Nat} {p:List Nat} (h:M8 os ids q j (p++[j])):(p=[]∧pQ q j= -1)∨ ∃i p',p=p'++[i]∧M8 os ids q i (p'++[i])∧i<j∧pQ q j=gQ q i:=by
 generalize hl:p++[j]=l at h
 cases h with
 | one a b c=>
   cases p with
   | nil=>exact .inl ⟨rfl,b⟩
   | cons x p=>simp at hl
 | more h a b c d=>
   rename_i i l
   obtain ⟨e,_⟩:=List.append_inj' hl rfl
   subst e
   obtain ⟨p',rfl⟩:=h.snoc
   exact .inr ⟨i,p',rfl,h,a,c⟩
theorem M8.len {os:List AU} {ids:List Int} {q:Que} {j:Nat} {l:List Nat} (h:M8 os ids q j l):l.length≤j+1:=by
 induction h with
 | one a b c=>simp
 | more h a b c d ih=>simp;omega
def sB (q:Que) (F:List Int):Prop:=F.length=q.length∧ ∀j,j<q.length→(gI F j=0∧pQ q j= -1)∨ ∃m,m<j∧gI F j=(m:Int)+1∧pQ q j=gQ q m
theorem wF {l:List Int} {x:Int} {i:Nat}:gI (l++[x]) i=if i<l.length then gI l i else if i=l.length then x else 0:=by
 unfold gI
 split
 ·rename_i h;rw [List.getD_eq_getElem?_getD,List.getElem?_append_left h,List.getD_eq_getElem?_getD]
 ·rename_i h
  split
  ·rename_i h2;subst h2;simp
  ·rw [List.getD_eq_getElem?_getD,List.getElem?_eq_none (by simp;omega)];rfl
theorem sB.snoc {q:Que} {F:List Int} {m:Nat} {s:Int} (h:sB q F) (hm:m<q.length):sB (q++[(s,gQ q m)]) (F++[(m:Int)+1]):=by
 obtain ⟨h1,h2⟩:=h
 refine ⟨by simp [h1],fun j hj=> ?_⟩
 rw [List.length_append,List.length_singleton] at hj
 rw [wF]
 rcases Nat.lt_or_ge j q.length with hl | hl
 ·rw [if_pos (by omega),p6 hl]
  rcases h2 j hl with h | ⟨i,a,b,c⟩
  ·exact .inl h
  ·exact .inr ⟨i,a,b,by rw [QJ (by omega)];exact c⟩
 ·have:j=q.length:=by omega
  subst this
  rw [if_neg (by omega),if_pos h1.symm,kD]
  exact .inr ⟨m,hm,rfl,by rw [QJ hm]⟩
theorem vE {x:Hp} (hk:B1 x): ∀i,i<8→(ob x.AD i).live=true→1≤(ob x.AD i).gen∧(ob x.AD i).gen≤999:=fun i hi hv=>⟨((hk.hp.obj i hi).lv hv).1,(hk.hp.obj i hi).gen.2⟩
theorem QB.start (os:List AU) (ids:List Int):QB os (-1) (JL os (-1) ids):=by
 have:=XL (os:=os) (b:= -1) (ids:=ids) ids.length (Nat.le_refl _)
 rwa [List.take_length,mA] at this
end Go.Proofs.Ytklmcfpgdfibnaa.P
