/- A part of the proof. -/
import Derived.Test.YtklmcfpgdfibnaaTrSchB
namespace Go.Proofs.Ytklmcfpgdfibnaa.P
open Go Go.Proofs.Ytklmcfpgdfibnaa Go.Proofs.Ytklmcfpgdfibnaa.Eng
set_option linter.unusedVariables false
set_option maxHeartbeats 4000000
set_option linter.unusedVariables false
set_option linter.unusedSimpArgs false
attribute [local irreducible] prP gP gE gF AX ixW ldc ldg ldl stc stg scW mkW apW BF cl2 BS DK CW
variable {w0:World}
theorem TB {l:List Int} {K:J2} (hl:(l.length:Int)<2^62) (h:K [.bool true] []):cl2 ⟨Try.prog,w0⟩ 31 EE.sg [] [tI l,tI l] K:=by
 refine EE.cl2 ?_
 unfold EE.txt
 simp only [AJ,AT,AL,AR,AS,AE,AI,AU,AK,AN,AO,AQ,AM,AP,BJ,BO,BL,BM,BN,BP,BK,A9,A4,A6,A7,A8,A5]
 refine CI (D8 (fun hh=>hh rfl) (BG (fun i=>[iv i]) (fun _=>[]) l.length (fun _=>True) rfl rfl trivial (fun R i hi _ hR=> ?_)))
 simp only [AJ,AT,AL,AR,AS,AE,AI,AU,AK,AN,AO,AQ,AM,AP,BJ,BO,BL,BM,BN,BP,BK,A9,A4,A6,A7,A8,A5]
 refine BA (AW (fun hlt=> ?_) fun _=>h)
 have hlt:i<l.length:=by omega
 exact AH hlt (ldI hlt (AH hlt (ldI hlt (CI (D8 (fun hh=>hh rfl) (BB (by omega) (hR hlt trivial)))))))
theorem o6 {os:List AG} (hof: ∀o∈os,OF o) {k:Nat} (hk:k<os.length) (i:Nat):E os k i≤3:=by
 have h1:=K7 hof hk
 have h2:=List.count_le_length (a:=(i:Int)) (l:=BE os k)
 unfold E;omega
theorem uH {x:Hp} (hk:BZ x) {k i:Nat} (k8:k<8) (i8:i<8):((if (ob x.AD k).live=true∧(ob x.AD i).live=true then (((ob x.AD k).field.count (CC i (ob x.AD i).gen):Nat):Int) else 0):Int)=E x.AD k i:=by
 have hp:=hk.hp
 split
 ·rename_i hc
  rw [hp.sK k8 i8 hc.2]
  unfold KF
  rw [if_pos hc.1]
 ·rename_i hc
  refine (kQ fun hm=>hc ?_).symm
  obtain ⟨h0,f,hf,hs⟩:=GP.1 hm
  have hb:=(B5 hm).2.2.2.2
  rw [Int.toNat_natCast] at hb
  refine ⟨((hp.obj k k8).lead f hf fun h1=> ?_).1,hb⟩
  rw [h1,eN] at hs;omega
theorem XV {x:Hp} {k i:Nat} {K:J2} (hk:BZ x) (k8:k<8) (i8:i<8) (h:K [I (E x.AD k i)] []):cl2 ⟨Try.prog,w0⟩ 58 FN.sg [iv k,iv i] (trees x) K:=by
 have hol:=hk.ol
 have kl:k<x.AD.length:=by omega
 have il:i<x.AD.length:=by omega
 rw [←uH hk k8 i8] at h
 refine FN.cl2 ?_
 unfold FN.txt
 try simp only [trees]
 try simp only [AJ,AT,AL,AR,AS,AE,AI,AU,AK,AN,AO,AQ,AM,AP,BJ,BO,BL,BM,BN,BP,BK,A9,A4,A6,A7,A8,A5]
 refine AH kl (HZ kl rfl (CT ?_))
 have zero: ¬((ob x.AD k).live=true∧(ob x.AD i).live=true)→K [.int .i64 0] []:=fun hc=>by rw [if_neg hc] at h;exact h
 cases hv:(ob x.AD k).live with
 | false=>
   exact BX (BX (BX (QW (BX (QW (QW (TA rfl (CQ (zero (by rw [hv];simp))))))))))
 | true=>
   refine BX (BX (BX (Q0 (AH il (BX (Q0 (HZ il rfl (Q0 (CT (X6 rfl ?_))))))))))
   cases hv2:(ob x.AD i).live with
   | false=>exact CQ (zero (by rw [hv2];simp))
   | true=>
     rw [if_pos ⟨hv,hv2⟩] at h
     refine CB ?_
     have len:=(hk.hp.obj k k8).len
     refine BG (fun j=>[iv k,iv i,I ((((ob x.AD k).field.take j).count (CC i (ob x.AD i).gen):Nat):Int),iv j]) (fun _=>[]) (ob x.AD k).field.length (fun _=>True) rfl rfl trivial (fun R j hj _ hR=> ?_)
     have cl:=List.count_le_length (a:=CC i (ob x.AD i).gen) (l:=(ob x.AD k).field.take j)
     have tl:=List.length_take_le' j (ob x.AD k).field
     simp only [AJ,AT,AL,AR,AS,AE,AI,AU,AK,AN,AO,AQ,AM,AP,BJ,BO,BL,BM,BN,BP,BK,A9,A4,A6,A7,A8,A5]
     refine AH kl (P1 kl ?_)
     rw [G6 kl,AE]
     refine BA (AW (fun hlt=>BT ?_) fun hge=> ?_)
     ·have hlt:j<(ob x.AD k).field.length:=by omega
      have hR:=hR hlt trivial
      rw [U3 hlt] at hR
      refine AH kl (P1 kl ?_)
      rw [G6 kl,AE]
      refine AH hlt (KO kl hlt (AH il (HO il (by decide) rfl (FE (BW (AW (fun he=> ?_) fun he=> ?_))))))
      ·rw [if_pos he] at hR
       refine FY ⟨by omega,by omega⟩ (BB (by omega) ?_)
       exact hR
      ·rw [if_neg he] at hR
       exact BB (by omega) hR
     ·have:j=(ob x.AD k).field.length:=by omega
      subst this
      rw [List.take_length]
      exact h
theorem SC.ng8 {os:List AG} {ct:Nat→Int} {buf cs col:List Int} (h:SC os ct buf buf cs col): ∀k,k<8→gI col k≠1:=fun k hk=>by
 by_cases hr:RB os buf k
 ·obtain ⟨b,hb,s,hs,hr⟩:=hr
  have hb8:=BD (l:=os) (id:=b) (by omega)
  have:=hr.closed (P:=fun k=>(k<8∧RB os buf k)∧gI col k≠1) ⟨⟨by omega,b,hb,s,hs, .refl⟩,h.got b hb s hs⟩ fun x hx j hj=>by
   refine ⟨⟨(B5 hj).2.1,hx.1.2.next hj⟩, ?_⟩
   rcases h.si.rng x hx.1.1 with h0 | h1 | h2
   ·have:=(h.si.blk x hx.1.1 (R7.2 hx.1.2) h0).2 j hj;omega
   ·exact absurd h1 hx.2
   ·exact h.wk x hx.1.1 h2 j hj
  exact this.2
 ·have:=h.si.out k hk (QC.2 hr);omega
theorem UB (os:List AG) (W:Nat→Bool) (i:Nat): ∀n,((DX W n).map fun v=>E os v.toNat i).sum=DL n fun k=>if W k then E os k i else 0
 | 0=>rfl
 | n+1=>by
   have ih:=UB os W i n
   show ((DX W n++if W n=true then [(n:Int)] else []).map fun v=>E os v.toNat i).sum=DL n (fun k=>if W k then E os k i else 0)+if W n then E os n i else 0
   rw [List.map_append,List.sum_append,ih]
   split <;> simp
end Go.Proofs.Ytklmcfpgdfibnaa.P
namespace Go.Proofs.Ytklmcfpgdfibnaa.P
open Go Go.Proofs.Ytklmcfpgdfibnaa Go.Proofs.Ytklmcfpgdfibnaa.Eng
set_option linter.unusedVariables false
set_option maxHeartbeats 4000000
set_option linter.unusedVariables false
set_option linter.unusedSimpArgs false
attribute [local irreducible] prP gP gE gF AX ixW ldc ldg ldl stc stg scW mkW apW BF cl2 BS DK CW
variable {w0:World}
theorem qV {a b c d e f g h:List T} {l:List (List T)}:nxc (a::b::c::d::e::f::g::h::l) 7=h:=rfl
theorem cD {L:List Int} (g:VV L) {K:J2} (done:K [.bool true] []):FF.txt ⟨Try.prog,w0⟩ (tY L) K:=by
 unfold FF.txt
 refine cU (AW (fun _=>done) fun hsz=> ?_)
 have hb:=g.f hsz
 refine P0 hb fun h hx=>PI hx.fits hx.KK (fun ok=> ?_) fun _=>CT (CQ done)
 have gd:=hx.gd ok
 have st:=ok.st ok.KK
 refine CT (CB ?_)
 obtain ⟨os,ws,buf,ss⟩:=h
 have hp:=ok.hp
 have hol:os.length=8:=st.ol
 have hof: ∀o∈os,OF o:=st.of
 have hbl:buf.length≤100:=st.bl
 have hbf: ∀x∈buf,F64 x:=st.bf
 have hc: ∀o∈os,F64 o.count:=fun o ho=>(ok.KK.obj o ho).2.2.2.2.1
 have hlk:=bZ ok gd
 simp only at gd hlk
 obtain ⟨ct,hct⟩: ∃ct:Nat→Int,ct=fun i=>(ob os i).count:=⟨_,rfl⟩
 obtain ⟨W,hW⟩: ∃W,W=HN os ct buf:=⟨_,rfl⟩
 rw [←hct, ←hW] at hlk
 have cb: ∀i,i<8→0≤ct i∧ct i≤1000:=fun i hi=>by
  have ho:=hp.obj i hi
  have h2:=ho.cb
  rw [hct]
  refine ⟨?_,h2⟩
  cases hv:(ob os i).live with
  | false=>have:=(ho.dead hv).2.2.2.1;simp only at this ⊢;omega
  | true=>have:=(ho.lv hv).2.2.2.2.2.1;simp only at this ⊢;omega
 have pb: ∀(P:Nat→Bool) (i n:Nat),n≤8→0≤DL n (fun k=>if P k then E os k i else 0)∧DL n (fun k=>if P k then E os k i else 0)≤3*n:=fun P i n=>by
  induction n with
  | zero=>intro _;exact ⟨Int.le_refl _,Int.le_refl _⟩
  | succ n ih=>
    intro hn
    have ih:=ih (by omega)
    have e1:=IW os n i
    have e2:=o6 hof (k:=n) (by omega) i
    show 0≤DL n _+(if P n then E os n i else 0)∧DL n _+(if P n then E os n i else 0)≤_
    split <;> omega
 have led: ∀{k i:Nat} {K:J2},k<8→i<8→K [I (E os k i)] []→cl2 ⟨Try.prog,w0⟩ 58 FN.sg [iv k,iv i] [tR tO os,tR tW ws,tI buf,tS ss] K:=fun k8 i8 h=>XV (x:=⟨os,ws,buf,ss⟩) ok k8 i8 h
 simp only [trees]
 refine S3 hol ?_
 refine ER (α:=Nat×List Int×List Int) (fun q=>[iv q.1]) (fun q=>[tR tO os,tR tW ws,tI buf,tS ss,tI q.2.1,tI q.2.2]) (fun q=>buf.length-q.1) (fun q=>q.1≤buf.length∧MK os ct (buf.take q.1) q.2.1 q.2.2) (0,os.map (·.count),List.replicate 8 0) rfl rfl ⟨Nat.zero_le _,by rw [hct];exact MK.start hol hc⟩ (fun R q hq hR=> ?_)
 obtain ⟨i,cs,col⟩:=q
 obtain ⟨hi,mk⟩:=hq
 simp only at hi mk
 simp only [AJ,AT,AL,AR,AS,AE,AI,AU,AK,AN,AO,AQ,AM,AP,BJ,BO,BL,BM,BN,BP,BK,A9,A4,A6,A7,A8,A5]
 refine BA (AW (fun hlt=> ?_) fun hge=> ?_)
 ·have hlt:i<buf.length:=by omega
  have hx:=hbf _ (DU hlt)
  have nx:=fun cs' col' (m:MK os ct (buf.take i++[gI buf i]) cs' col')=>hR (i+1,cs',col') ⟨by simp only;omega,by simp only;rw [List.take_succ_eq_append_getElem hlt,DA hlt];exact m⟩ (by simp only;omega)
  refine AH hlt (ldI hlt (B2 hx (by omega) (SY hol hof mk.len.1 mk.len.2 mk.f (fun hn=> ?_) fun s hs s8 cs' col' p=> ?_)))
  ·exact BB (by omega) (nx _ _ (mk.none hn))
  ·exact BB (by omega) (nx _ _ (mk.some hs s8 p))
 have:i=buf.length:=by omega
 subst this
 rw [List.take_length] at mk
 have l1:=mk.len.1
 have l2:=mk.len.2
 have q1: ¬(cs.length:Int)≠8:=by omega
 have q2: ¬(col.length:Int)≠8:=by omega
 refine CI (BX (BX (BX (IZ q1 (CI (FM q1 rfl (D8 q2 ?_)))))))
 refine BG (fun i=>[iv i]) (fun _=>[tR tO os,tR tW ws,tI buf,tS ss,tI cs,tI col]) 8 (fun _=>True) rfl rfl trivial (fun R2 i hi8 _ hR2=> ?_)
 simp only [AJ,AT,AL,AR,AS,AE,AI,AU,AK,AN,AO,AQ,AM,AP,BJ,BO,BL,BM,BN,BP,BK,A9,A4,A6,A7,A8,A5]
 refine BA (AW (fun hlt8=> ?_) fun hge8=> ?_)
 ·have i8:i<8:=by omega
  have il:i<os.length:=by omega
  have hR2:=hR2 i8 trivial
  refine AH il (HO il (by decide) rfl ?_)
  refine BG (fun k=>[iv i,I (ct i-DL k fun k=>if isC col 1 k then E os k i else 0),iv k]) (fun _=>[tR tO os,tR tW ws,tI buf,tS ss,tI cs,tI col]) 8 (fun _=>True) (by rw [hct];simp [DL];rfl) rfl trivial (fun R3 k hk8 _ hR3=> ?_)
  have b1:=pb (isC col 1) i k hk8
  have c1:=cb i i8
  simp only [AJ,AT,AL,AR,AS,AE,AI,AU,AK,AN,AO,AQ,AM,AP,BJ,BO,BL,BM,BN,BP,BK,A9,A4,A6,A7,A8,A5]
  refine BA (AW (fun hk=>BT ?_) fun hk=> ?_)
  ·have k8:k<8:=by omega
   have kc:k<col.length:=by omega
   have hR3:=hR3 k8 trivial
   have es:(DL (k+1) fun k=>if isC col 1 k then E os k i else 0)=(DL k fun k=>if isC col 1 k then E os k i else 0)+(if isC col 1 k then E os k i else 0):=rfl
   rw [es] at hR3
   have e1:=IW os k i
   have e2:=o6 hof (k:=k) (by omega) i
   refine AH kc (ldI kc (BW (AW (fun h1=> ?_) fun h1=> ?_)))
   ·rw [if_pos (by simp [isC,h1])] at hR3
    refine led k8 i8 (HJ ⟨by omega,by omega⟩ (BB (by omega) ?_))
    rw [show ∀a b c:Int,a-b-c=a-(b+c) from fun a b c=>by omega]
    exact hR3
   ·rw [if_neg (by simp [isC,h1]),Int.add_zero] at hR3
    exact BB (by omega) hR3
  ·have:k=8:=by omega
   subst this
   have ic:i<cs.length:=by omega
   have e:gI cs i=ct i-DL 8 fun k=>if isC col 1 k then E os k i else 0:=by
    rw [mk.cnt i i8]
    exact G8 ⟨by unfold S;omega,by unfold S;omega⟩
   exact AH ic (ldI ic (CI (D8 (fun hh=>hh e) (BB (by omega) hR2))))
 clear hR2 R2 hR
 have:i=8:=by omega
 subst this
 refine ER (α:=Nat×List Int×List Int) (fun q=>[iv q.1]) (fun q=>[tR tO os,tR tW ws,tI buf,tS ss,tI q.2.1,tI q.2.2]) (fun q=>buf.length-q.1) (fun q=>q.1≤buf.length∧SC os ct buf (buf.take q.1) q.2.1 q.2.2) (0,cs,col) rfl rfl ⟨Nat.zero_le _,SC.start mk⟩ (fun R q hq hR=> ?_)
 clear mk q1 q2 l1 l2
 obtain ⟨i,cs,col⟩:=q
 obtain ⟨hi,sc⟩:=hq
 simp only at hi sc
 simp only [AJ,AT,AL,AR,AS,AE,AI,AU,AK,AN,AO,AQ,AM,AP,BJ,BO,BL,BM,BN,BP,BK,A9,A4,A6,A7,A8,A5]
 refine BA (AW (fun hlt=> ?_) fun hge=> ?_)
 ·have hlt:i<buf.length:=by omega
  have hx:=hbf _ (DU hlt)
  have nx:=fun cs' col' (m:SC os ct buf (buf.take i++[gI buf i]) cs' col')=>hR (i+1,cs',col') ⟨by simp only;omega,by simp only;rw [List.take_succ_eq_append_getElem hlt,DA hlt];exact m⟩ (by simp only;omega)
  refine AH hlt (ldI hlt (B2 hx (by omega) (S4 hol hof sc.si (fun hn=> ?_) fun s hs s8 cs' col' p=> ?_)))
  ·exact BB (by omega) (nx _ _ (sc.none hn))
  ·exact BB (by omega) (nx _ _ (sc.some hs s8 p))
 have:i=buf.length:=by omega
 subst this
 rw [List.take_length] at sc
 have wh:=sc.stop
 rw [←hW] at wh
 have l1:=sc.si.len.1
 have l2:=sc.si.len.2
 have q1: ¬(cs.length:Int)≠8:=by omega
 have cnt: ∀i,i<8→W i=false→gI cs i=ct i-S os W i:=fun i hi hw=>by
  have b1:=pb W i 8 (Nat.le_refl _)
  have c1:=cb i hi
  have e:=sc.si.cnt i hi
  have nz:S os (fun k=> !isC col 0 k) i=S os W i:=by
   refine ZE fun k hk=> ?_
   have ng:=sc.ng8 k hk
   have w:=wh k hk
   rcases sc.si.rng k hk with h0 | h1 | h2
   ·have:W k=false:=by
     cases hwk:W k with
     | false=>rfl
     | true=>have:=w.2 hwk;omega
    simp [isC,h0,this]
   ·exact absurd h1 ng
   ·simp [isC,h2,w.1 h2]
  rw [e,nz]
  exact G8 ⟨by unfold S;omega,by unfold S;omega⟩
 refine V8 l2 wh ?_
 clear hR
 have hwn:(DX W 8).length≤8:=HY (fun i=>by split <;> simp) 8
 have hfr:=YQ os W 8
 rw [←hlk] at hfr
 obtain ⟨wl,hwl⟩: ∃wl,DX W 8=wl:=⟨_,rfl⟩
 have wb: ∀j,j<wl.length→ ∃k:Nat,gI wl j=(k:Int)∧k<8:=fun j hj=>by
  have hm:=DU hj
  rw [←hwl,M5] at hm
  obtain ⟨k,h1,h2,_⟩:=hm
  rw [hwl] at h2
  exact ⟨k,h2,h1⟩
 have wm: ∀i:Nat,i<8→((i:Int)∈wl↔W i=true):=fun i hi=>by
  rw [←hwl,M5]
  exact ⟨fun ⟨k,_,h2,h3⟩=>by have:i=k:=by omega
                             subst this;exact h3,fun hh=>⟨i,hi,rfl,hh⟩⟩
 have wsum: ∀i,(wl.map fun v=>E os v.toNat i).sum=S os W i:=fun i=>by rw [←hwl];exact UB os W i 8
 rw [hwl] at hfr hwn ⊢
 refine BG (fun j=>[iv j]) (fun j=>[tI wl,tI ((wl.take j).map fun x=>CC x (ob os x.toNat).gen),tR tO os,tR tW ws,tI buf,tS ss,tI cs,tI col]) wl.length (fun _=>True) rfl rfl trivial (fun R j hj _ hR=> ?_)
 have hln:((wl.take j).map fun x=>CC x (ob os x.toNat).gen).length=j:=by simp;omega
 simp only [AJ,AT,AL,AR,AS,AE,AI,AU,AK,AN,AO,AQ,AM,AP,BJ,BO,BL,BM,BN,BP,BK,A9,A4,A6,A7,A8,A5]
 simp only [aH,qV]
 simp only [AJ,AT,AL,AR,AS,AE,AI,AU,AK,AN,AO,AQ,AM,AP,BJ,BO,BL,BM,BN,BP,BK,A9,A4,A6,A7,A8,A5]
 refine BA (AW (fun hlt=> ?_) fun hge=> ?_)
 ·have hlt:j<wl.length:=by omega
  have hR:=hR hlt trivial
  rw [List.take_succ_eq_append_getElem hlt,List.map_append,List.map_singleton,DA hlt] at hR
  obtain ⟨k,ek,k8⟩:=wb j hlt
  have kl:k<os.length:=by omega
  have p1: ¬gI wl j<0:=by omega
  have p2: ¬gI wl j≥8:=by omega
  refine AH hlt (ldI hlt (BA (BX (BX (IZ p1 (AH hlt (IZ p1 (ldI hlt (IZ p1 (KA (FM p1 rfl ?_)))))))))))
  refine BX (BX (BX (IZ p2 (CI (FM p2 rfl (D8 q1 (AH hlt (ldI hlt (AH hlt (ldI hlt ?_))))))))))
  rw [ek,Int.toNat_natCast, ←DJ] at hR
  rw [ek]
  refine AH kl (HO kl (by decide) rfl (FE ?_))
  refine EH rfl (by omega) (BB (by omega) ?_)
  exact hR
 have:j=wl.length:=by omega
 subst this
 rw [List.take_length,hfr]
 clear hR
 have ll:(XS os).length≤8:=by rw [←hfr];simp;omega
 refine V6 (x:=⟨os,ws,buf,ss⟩) ok (TB (by show ((XS os).length:Int)<2^62;omega) (CT (BX (BX (BX (Q0 (CI (X6 rfl (D8 q1 ?_)))))))))
 refine BG (fun i=>[iv i]) (fun _=>[tI wl,tR tO os,tR tW ws,tI buf,tS ss,tI cs,tI col]) 8 (fun _=>True) rfl rfl trivial (fun R2 i hi8 _ hR2=> ?_)
 simp only [AJ,AT,AL,AR,AS,AE,AI,AU,AK,AN,AO,AQ,AM,AP,BJ,BO,BL,BM,BN,BP,BK,A9,A4,A6,A7,A8,A5]
 refine BA (AW (fun hlt8=> ?_) fun hge8=>done)
 have i8:i<8:=by omega
 have il:i<os.length:=by omega
 have hR2:=hR2 i8 trivial
 have c1:=cb i i8
 have lb: ∀j,j≤wl.length→0≤((wl.take j).map fun v=>E os v.toNat i).sum∧((wl.take j).map fun v=>E os v.toNat i).sum≤3*j:=fun j=>by
  induction j with
  | zero=>intro _;simp
  | succ j ih=>
    intro hj
    have ih:=ih (by omega)
    obtain ⟨k,ek,k8⟩:=wb j (by omega)
    have e1:=IW os k i
    have e2:=o6 hof (k:=k) (by omega) i
    rw [List.take_succ_eq_append_getElem (by omega),List.map_append,List.sum_append,List.map_singleton,DA (by omega),ek,Int.toNat_natCast]
    simp only [List.sum_singleton]
    omega
 refine AH il (HO il (by decide) rfl ?_)
 refine BG (fun j=>[iv i,I (ct i-((wl.take j).map fun v=>E os v.toNat i).sum),iv j]) (fun _=>[tI wl,tR tO os,tR tW ws,tI buf,tS ss,tI cs,tI col]) wl.length (fun _=>True) (by rw [hct];simp;rfl) rfl trivial (fun R3 j hj _ hR3=> ?_)
 have b1:=lb j hj
 simp only [AJ,AT,AL,AR,AS,AE,AI,AU,AK,AN,AO,AQ,AM,AP,BJ,BO,BL,BM,BN,BP,BK,A9,A4,A6,A7,A8,A5]
 simp only [aH]
 refine BA (AW (fun hlt=> ?_) fun hge=> ?_)
 ·have hlt:j<wl.length:=by omega
  have hR3:=hR3 hlt trivial
  obtain ⟨k,ek,k8⟩:=wb j hlt
  have e1:=IW os k i
  have e2:=o6 hof (k:=k) (by omega) i
  rw [List.take_succ_eq_append_getElem hlt,List.map_append,List.sum_append,List.map_singleton,DA hlt,ek,Int.toNat_natCast] at hR3
  simp only [List.sum_singleton] at hR3
  refine AH hlt (ldI hlt ?_)
  rw [ek]
  refine led k8 i8 (HJ ⟨by omega,by omega⟩ (BB (by omega) ?_))
  rw [show ∀a b c:Int,a-b-c=a-(b+c) from fun a b c=>by omega]
  exact hR3
 have:j=wl.length:=by omega
 subst this
 rw [List.take_length,wsum]
 have ic:i<cs.length:=by omega
 refine c7 (l:=wl) (x:=(i:Int)) (by omega) ?_
 by_cases hm:(i:Int)∈wl
 ·rw [decide_eq_true hm]
  exact CT (BX (BX (BX (IM (IM (BX (IM (X6 rfl (CB (BB (by omega) hR2))))))))))
 ·rw [decide_eq_false hm]
  have hw:W i=false:=by
   cases hw:W i with
   | false=>rfl
   | true=>exact absurd ((wm i i8).2 hw) hm
  have e:=cnt i i8 hw
  exact CT (BX (BX (BX (JN (AH ic (JN (ldI ic (BX (JN (CI (TA rfl (D8 (fun hh=>hh e) (BB (by omega) hR2)))))))))))))
end Go.Proofs.Ytklmcfpgdfibnaa.P
