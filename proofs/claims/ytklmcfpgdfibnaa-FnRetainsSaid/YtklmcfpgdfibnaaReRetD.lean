/- A part of the proof. -/
import Derived.Test.YtklmcfpgdfibnaaReGrC
import Derived.Test.YtklmcfpgdfibnaaReWayD
namespace Go.Proofs.Ytklmcfpgdfibnaa.P
open Go Go.Proofs.Ytklmcfpgdfibnaa Go.Proofs.Ytklmcfpgdfibnaa.Eng
set_option linter.unusedVariables false
theorem lA {l:List Nd} {i j:Nat} {v:Int} {K:List T→Prop} (hi:i<l.length) (hj:j<(nd l i).field.length) (h:K (tR tN (l.set i {nd l i with field:=(nd l i).field.set j v}))):stc (tR tN l) [AA (iv i)*6+5] (AA (iv j)*1) (I v) K:=by
 rw [AV j,Nat.mul_one]
 rw [←QV hi] at h hj
 exact iE hi (by decide) rfl (pS hj) (by simp only [mX];rfl) h
theorem lQ {l:List Nd} {i:Nat} {v:Int} {K:List T→Prop} (hi:i<l.length) (h:K (tR tN (l.set i {nd l i with holds:=v}))):stc (tR tN l) [] (AA (iv i)*6+3) (I v) K:=by
 rw [←QV hi] at h
 exact PO hi (by decide) rfl rfl h
theorem lM {l:List Nd} {i:Nat} {v:Int} {K:List T→Prop} (hi:i<l.length) (h:K (tR tN (l.set i {nd l i with roots:=v}))):stc (tR tN l) [] (AA (iv i)*6+4) (I v) K:=by
 rw [←QV hi] at h
 exact PO hi (by decide) rfl rfl h
set_option maxHeartbeats 4000000
set_option linter.unusedVariables false
set_option linter.unusedSimpArgs false
attribute [local irreducible] prP gP gE gF AY ixW ldc ldg ldl stc stg scW mkW apW BD cl2 BQ CZ B9
variable {w0:World}
def aM (os:List AG) (id:Int):List Int:=if AB os id<0 then [] else SJ os (AB os id)
theorem UJ {x:Hp} {id:Int} {K:J2} (hx:Fits x) (hof: ∀o∈x.AD,OF o) (fid:F64 id) (h:K [] [tI (aM x.AD id)]):cl2 ⟨Try.prog,w0⟩ 70 DW.sg [I id] (trees x) K:=by
 unfold aM at h
 refine UN hx hof fid (fun h0=> ?_) fun h0=> ?_
 ·rw [if_pos h0] at h;exact h
 ·rw [if_neg (by omega)] at h;exact h
theorem nN (os:List AG) (b:Int):(SJ os b).length≤8:=Nat.le_trans (List.length_filter_le _ _) (TC _ _)
theorem QM {L:List Int} {K:J2} (hb:QL L) (h: ∀(x:Hp) (id:Int),lW x→ -1≤id→id≤7999→K [I id] (trees x)):cl2 ⟨Try.prog,w0⟩ 69 CY.sg [] [tY L] K:=by
 refine CY.cl2 ?_
 unfold CY.txt
 exact WQ hb h
def cutAt (id:Int) (j:Nat) (n:Nd):Nd:={n with field:=(n.field.take j).map (TK id)++n.field.drop j}
structure XP (id:Int) (ns:List Nd) (i j:Nat) (ns':List Nd):Prop where
 len:ns'.length=ns.length
 at_: ∀m,nd ns' m=if m<i then cutAt id (nd ns m).field.length (nd ns m) else if m=i then cutAt id j (nd ns m) else nd ns m
theorem kC (id:Int) (n:Nd):cutAt id 0 n=n:=by simp [cutAt]
theorem lI {id:Int} {j:Nat} {n:Nd}:(cutAt id j n).field.length=n.field.length:=by
 unfold cutAt
 simp only [List.length_append,List.length_map,List.length_take,List.length_drop]
 omega
theorem XP.start (id:Int) (ns:List Nd):XP id ns 0 0 ns:=⟨rfl,fun m=>by rw [if_neg (by omega)];split <;> simp [kC]⟩
theorem XP.next {id:Int} {ns ns':List Nd} {i:Nat} (h:XP id ns i (nd ns i).field.length ns'):XP id ns (i+1) 0 ns':=by
 refine ⟨h.len,fun m=> ?_⟩
 rw [h.at_]
 by_cases h1:m<i
 ·rw [if_pos h1,if_pos (by omega)]
 ·rw [if_neg h1]
  by_cases h2:m=i
  ·subst h2;rw [if_pos rfl,if_pos (by omega)]
  ·rw [if_neg h2,if_neg (by omega)]
   split
   ·rw [kC]
   ·rfl
theorem sC {id:Int} {j:Nat} {n:Nd} (hj:j<n.field.length):gI (cutAt id j n).field j=gI n.field j:=by
 unfold cutAt gI
 have hl:((n.field.take j).map (TK id)).length=j:=by rw [List.length_map,List.length_take];omega
 rw [List.getD_eq_getElem?_getD,List.getElem?_append_right (by rw [hl];exact Nat.le_refl _),hl,Nat.sub_self,List.getElem?_drop,Nat.add_zero, ←List.getD_eq_getElem?_getD]
theorem fG {id:Int} {j:Nat} {n:Nd} (hj:j<n.field.length):(gI n.field j=id→{cutAt id j n with field:=(cutAt id j n).field.set j (-1)}=cutAt id (j+1) n)∧(gI n.field j≠id→cutAt id j n=cutAt id (j+1) n):=by
 have e:n.field.drop j=gI n.field j::n.field.drop (j+1):=by rw [List.drop_eq_getElem_cons hj,DB hj]
 have e2:n.field.take (j+1)=n.field.take j++[gI n.field j]:=by rw [List.take_succ_eq_append_getElem hj,DB hj]
 have hl:((n.field.take j).map (TK id)).length=j:=by rw [List.length_map,List.length_take];omega
 constructor
 ·intro he
  unfold cutAt
  rw [e2,e]
  simp only [Nd.mk.injEq,true_and,List.map_append,List.map_cons,List.map_nil]
  rw [List.set_append_right _ _ (by rw [hl];exact Nat.le_refl _),hl,Nat.sub_self,List.set_cons_zero]
  unfold TK
  rw [if_pos he]
  simp
 ·intro he
  unfold cutAt
  rw [e2,e]
  simp only [Nd.mk.injEq,true_and,List.map_append,List.map_cons,List.map_nil]
  have:TK id (gI n.field j)=gI n.field j:=by unfold TK;rw [if_neg he]
  rw [this]
  simp
theorem tT {os:List AG} {i:Nat}:nd (os.map NT) i=NT (ob os i):=by
 by_cases hi:i<os.length
 ·have h2:i<(os.map NT).length:=by simpa using hi
  rw [←QV h2, ←DA hi];simp
 ·unfold nd ob
  rw [List.getD_eq_getElem?_getD,List.getElem?_eq_none (by simpa using Nat.le_of_not_lt hi),List.getD_eq_getElem?_getD,List.getElem?_eq_none (by simpa using Nat.le_of_not_lt hi)]
  rfl
theorem kY (id:Int) (n:Nd):(cutAt id n.field.length n).field=n.field.map (TK id):=by simp [cutAt]
theorem qY {os:List AG} {id:Int} {b:Nat} {ns':List Nd} (h8:os.length=8) (hb:b<8) (h:XP id (os.map NT) 8 0 ns'):aW os (osN ((ns'.set b {nd ns' b with holds:=0}).set b {nd (ns'.set b {nd ns' b with holds:=0}) b with roots:=0})) b id:=by
 have hl:ns'.length=8:=by rw [h.len];simpa using h8
 have e: ∀i,nd ((ns'.set b {nd ns' b with holds:=0}).set b {nd (ns'.set b {nd ns' b with holds:=0}) b with roots:=0}) i=if i=b then {nd ns' b with holds:=0,roots:=0} else nd ns' i:=fun i=>by
  rw [ZX (by simp;omega)]
  by_cases hi:i=b
  ·rw [if_pos hi,if_pos hi,ZX (by omega),if_pos rfl]
  ·rw [if_neg hi,if_neg hi,ZX (by omega),if_neg hi]
 have dflt: ∀i,8≤i→(ob os i).field=[]:=fun i hi=>by unfold ob;rw [List.getD_eq_getElem?_getD,List.getElem?_eq_none (by omega)];rfl
 have base: ∀i,(nd ns' i).live=(ob os i).live∧(nd ns' i).gen=(ob os i).gen∧(nd ns' i).holds=(ob os i).holds∧(nd ns' i).roots=(ob os i).roots∧(nd ns' i).field=(ob os i).field.map (TK id):=fun i=>by
  rw [h.at_,tT]
  by_cases h1:i<8
  ·rw [if_pos h1];exact ⟨rfl,rfl,rfl,rfl,kY id (NT (ob os i))⟩
  ·rw [if_neg h1]
   have hd:=dflt i (by omega)
   split
   ·exact ⟨rfl,rfl,rfl,rfl,by simp [cutAt,NT,hd]⟩
   ·exact ⟨rfl,rfl,rfl,rfl,by simp [NT,hd]⟩
 refine ⟨by simp [hl,h8],fun i=> ?_,fun i=> ?_,fun i=> ?_,fun i=> ?_⟩
 all_goals rw [kE,e]
 ·by_cases hi:i=b
  ·rw [if_pos hi,hi];exact (base b).1
  ·rw [if_neg hi];exact (base i).1
 ·by_cases hi:i=b
  ·rw [if_pos hi,hi];exact (base b).2.1
  ·rw [if_neg hi];exact (base i).2.1
 ·by_cases hi:i=b
  ·rw [if_pos hi,hi];exact (base b).2.2.2.2
  ·rw [if_neg hi];exact (base i).2.2.2.2
 ·by_cases hi:i=b
  ·rw [if_pos hi,if_pos hi];rfl
  ·rw [if_neg hi,if_neg hi]
   show w64 ((nd ns' i).holds+(nd ns' i).roots)=_
   rw [(base i).2.2.1,(base i).2.2.2.1]
theorem bI {L:List Int} (g:XI L) {K:J2} (done:K [.bool true] []):ER.txt ⟨Try.prog,w0⟩ (tY L) K:=by
 unfold ER.txt
 refine eW (AW (fun _=>done) fun hsz=> ?_)
 have hb:=g.f hsz
 refine QM hb fun h id hx id0 id1=> ?_
 have fid:F64 id:=CE (by omega)
 have ol:=hx.fits.ol
 refine UJ hx.fits hx.of fid ?_
 try simp only [trees]
 try simp only [AJ,AN,AQ,AR,AK,AE,AL,AI,AS,AP,AU,AT,AM,AO,BJ,BP,BM,BN,BO,BS,BL,A4,A5,A9,A8,BA,A7]
 refine MP hx.fits hx.IP (fun ok=> ?_) fun nok=> ?_
 rotate_left
 ·refine CC (BC (BC (K7 (K7 (OU rfl (BC (yD (BC (K7 (OU rfl (CG (B1 (BC ?_)))))))))))))
  by_cases w0:((aM h.AD id).length:Int)=0
  ·exact JF w0 (JF w0 (DX w0 rfl done))
  ·exact HH w0 (MP hx.fits hx.IP (fun ok=>absurd ok nok) fun _=>HH w0 (CC (EH w0 rfl done)))
 have hol:=ok.ol
 refine CC (BC (BC (KO (BY fid (by omega) (KO (A6 (SP rfl ?_)))))))
 have empty:aM h.AD id=[]→prP (bnI .eql (iv (aM h.AD id).length) (I 0)) fun t35_23=>
   gE t35_23 (
   gP t35_23 false ((fun K=>cl2 ⟨Try.prog,w0⟩ 19 DP.sg [] [tR tO h.AD,tR tW h.B2,tI h.buffer,tS h.sites] fun v24 d25=>K (nx v24 0))) fun t38_26=>
   gP t35_23 false (prP (un .not t38_26)) fun t39_27=>
   prP (pk t35_23 (.bool true) t39_27) fun t40_28=>
   K [t40_28] []):=fun he=>by
  have w0:((aM h.AD id).length:Int)=0:=by rw [he];rfl
  exact B1 (BC (JF w0 (JF w0 (DX w0 rfl done))))
 by_cases hs:AB h.AD id<0
 ·exact BC (zC hs (BC (JF hs (DX hs rfl (CG (empty (by unfold aM;rw [if_pos hs])))))))
 have ll:=P9 h.AD
 have lk:(bM h.AD).length≤(IB h.AD).length:=List.length_filter_le _ _
 refine BC (xK hs (XV ok (BC (HH hs (RF (by omega) (EH hs rfl ?_))))))
 obtain ⟨b,ek⟩: ∃k:Nat,AB h.AD id=k:=⟨(AB h.AD id).toNat,by omega⟩
 obtain ⟨b8,bv,eid⟩:=gY ok ek
 have hrf:=b6 ok ek
 rw [ek,(HO _ _ _).2 b,aX] at hrf
 have er:aM h.AD id=SJ h.AD (b:Int):=by unfold aM;rw [if_neg hs,ek]
 refine AW (fun hl=>empty ?_) fun hl=> ?_
 ·rw [er]
  cases hr:SJ h.AD (b:Int) with
  | nil=>rfl
  | cons v l=>
    obtain ⟨k,k8,kv,_,hrb,hn⟩:=(aU ok).1 (show v∈SJ h.AD (b:Int) by rw [hr];simp)
    rcases cB (b:=b) hrb with h1 | h1
    ·exact absurd h1 hn
    ·exact absurd h1.1 (hrf.1 hl)
 have hbr:RB h.AD (exts h.AD) b:=Classical.byContradiction fun hn=>hl (hrf.2 hn)
 clear empty hrf
 have rl:=nN h.AD (b:Int)
 have rid:id∈SJ h.AD (b:Int):=(aU ok).2 ⟨b,b8,bv,eid,hbr,fun hh=>hh.ne rfl⟩
 have rm: ∀v∈SJ h.AD (b:Int), ∃k:Nat,k<8∧(ob h.AD k).live=true∧AB h.AD v=(k:Int)∧F64 v∧(v≠id→v∈KI h.AD (GK h.AD (-1) (ob h.AD b).field)∧v∉exts h.AD):=fun v hv=>by
  obtain ⟨k,k8,kv,ev,hrb,hn⟩:=(aU ok).1 hv
  have hs:AB h.AD v=(k:Int):=by rw [ev];exact OA ok k8 kv
  refine ⟨k,k8,kv,hs,CE (by have:=ok.VY (x:=v) (by omega);omega),fun hne=>⟨?_,fun hx=> ?_⟩⟩
  ·have hne:b≠k:=fun he=>hne (by rw [ev,eid,he])
   rcases cB (b:=b) hrb with h1 | h1
   ·exact absurd h1 hn
   ·rw [ev];exact (TM ok k8 kv).2 (nT ok h1.2 hne)
  ·exact hn ⟨v,hx,k,hs,fun he=>hne (by rw [ev,eid];congr 1 <;> first | omega | (rw [show k=b by omega])), .refl⟩
 rw [er]
 have hsum:=fun os' hc=>qO (os':=os') ok hc ek
 generalize SJ h.AD (b:Int)=r at rl rid rm hsum ⊢
 refine RF (by omega) ?_
 simp only [BJ]
 rw [decide_eq_true rid]
 refine CC (B6 ?_)
 have el:=Y2 h.AD
 have xb:=aY h.AD
 have xF: ∀v∈exts h.AD,F64 v:=fun v hv=>CE (by have:=xb v hv;omega)
 refine BF (fun i=>[I id,iv i]) (fun _=>[tI r,tR tO h.AD,tR tW h.B2,tI h.buffer,tS h.sites]) r.length (fun _=>True) rfl rfl trivial (fun R i hi _ hR=> ?_)
 simp only [AJ,AN,AQ,AR,AK,AE,AL,AI,AS,AP,AU,AT,AM,AO,BJ,BP,BM,BN,BO,BS,BL,A4,A5,A9,A8,BA,A7]
 refine A6 (AW (fun hlt=> ?_) fun hge=> ?_)
 ·have hlt:i<r.length:=by omega
  have hR:=hR hlt trivial
  obtain ⟨k,k8,kv,sk,fk,hk2⟩:=rm _ (DJ hlt)
  refine AH hlt (ldI hlt (C0 (BC (BC (BC (BC ?_))))))
  by_cases hne:gI r i≠id
  ·obtain ⟨k3,k4⟩:=hk2 hne
   rw [decide_eq_true hne]
   refine GP (AH hlt (GP (ldI hlt (GP (ZS (x:=h) ok fid fk ek sk (GP ?_))))))
   simp only [BJ]
   rw [decide_eq_true k3]
   refine CC (BC ?_)
   try simp only [B9]
   refine BC (xG (JX ol (BC (BC (KO (AH hlt (KO (ldI hlt (KO (RF (by omega) ?_))))))))))
   simp only [BJ]
   rw [decide_eq_false k4]
   exact GP (SP rfl (OU rfl (B6 (BB (by omega) hR))))
  ·rw [decide_eq_false hne]
   refine FY (FY (FY (FY (BC ?_))))
   try simp only [B9]
   refine vW (zJ (vW (vW (tE (tE (tE (FY (SP rfl (B6 (BB (by omega) hR))))))))))
 clear hR R
 refine VW hx.fits ?_
 have gl:(h.AD.map NT).length=8:=by simpa using hol
 try simp only [eM,nY]
 simp only [AJ,AN,AQ,AR,AK,AE,AL,AI,AS,AP,AU,AT,AM,AO,BJ,BP,BM,BN,BO,BS,BL,A4,A5,A9,A8,BA,A7]
 refine D6 (α:=Nat×List Nd) (fun s=>[I id,iv s.1]) (fun s=>[tI r,tR tO h.AD,tR tW h.B2,tI h.buffer,tS h.sites,tR tN s.2,tR tW h.B2,tS h.sites]) (fun s=>8-s.1) (fun s=>s.1≤8∧XP id (h.AD.map NT) s.1 0 s.2) (0,h.AD.map NT) rfl rfl ⟨by simp,XP.start id _⟩ (fun R s hs hR=> ?_)
 obtain ⟨i,ns⟩:=s
 obtain ⟨hi,hc⟩:=hs
 simp only at hi hc
 have nl:ns.length=8:=by rw [hc.len];exact gl
 simp only [AJ,AN,AQ,AR,AK,AE,AL,AI,AS,AP,AU,AT,AM,AO,BJ,BP,BM,BN,BO,BS,BL,A4,A5,A9,A8,BA,A7]
 refine A6 (AW (fun hlt=> ?_) fun hge=> ?_)
 ·have i8:i<8:=by omega
  have nfl:(nd (h.AD.map NT) i).field.length=3:=by rw [tT];exact (ok.hp.obj i i8).len
  refine D6 (α:=Nat×List Nd) (fun s=>[I id,iv i,iv s.1]) (fun s=>[tI r,tR tO h.AD,tR tW h.B2,tI h.buffer,tS h.sites,tR tN s.2,tR tW h.B2,tS h.sites]) (fun s=>3-s.1) (fun s=>s.1≤3∧XP id (h.AD.map NT) i s.1 s.2) (0,ns) rfl rfl ⟨by simp,hc⟩ (fun R2 s hs hR2=> ?_)
  clear hc nl
  obtain ⟨j,ns⟩:=s
  obtain ⟨hj,hc⟩:=hs
  simp only at hj hc
  have nl:ns.length=8:=by rw [hc.len];exact gl
  have hil:i<ns.length:=by omega
  have ei:=hc.at_ i
  rw [if_neg (by omega),if_pos rfl] at ei
  have fl:(nd ns i).field.length=3:=by rw [ei,lI,nfl]
  simp only [AJ,AN,AQ,AR,AK,AE,AL,AI,AS,AP,AU,AT,AM,AO,BJ,BP,BM,BN,BO,BS,BL,A4,A5,A9,A8,BA,A7]
  refine AH hil (TF hil ?_)
  rw [Q6 hil]
  try simp only [AE]
  refine A6 (AW (fun hlj=>BT ?_) fun hgj=> ?_)
  ·have hlj:j<(nd ns i).field.length:=by omega
   have hlj':j<(nd (h.AD.map NT) i).field.length:=by omega
   obtain ⟨s1,s2⟩:=fG (id:=id) hlj'
   have ev:gI (nd ns i).field j=gI (nd (h.AD.map NT) i).field j:=by rw [ei];exact sC hlj'
   refine AH hil (TF hil ?_)
   rw [Q6 hil]
   refine AH (by rw [AE];exact hlj) (eY hil hlj (B1 (AW (fun he=> ?_) fun hne=> ?_)))
   ·refine AH hil (TF hil ?_)
    rw [Q6 hil]
    refine AH (by rw [AE];exact hlj) (lA hil hlj (BB (by omega) ?_))
    refine hR2 (j+1,ns.set i {nd ns i with field:=(nd ns i).field.set j (-1)}) ⟨by simp only;omega,by simp [hc.len],fun m=> ?_⟩ (by simp only;omega)
    rw [ZX hil]
    by_cases hm:m=i
    ·rw [if_pos hm,hm,if_neg (by omega),if_pos rfl,ei]
     exact s1 (by rw [←ev];exact he)
    ·rw [if_neg hm,hc.at_ m,if_neg hm,if_neg hm]
   ·refine BB (by omega) (hR2 (j+1,ns) ⟨by simp only;omega,hc.len,fun m=> ?_⟩ (by simp only;omega))
    rw [hc.at_ m]
    by_cases hm:m=i
    ·rw [if_neg (by omega),if_pos hm,if_neg (by omega),if_pos hm,hm]
     exact s2 (by rw [←ev];exact hne)
    ·rw [if_neg hm,if_neg hm]
  ·have:j=3:=by omega
   subst this
   refine BB (by omega) (hR (i+1,ns) ⟨by simp only;omega,XP.next (by rw [nfl];exact hc)⟩ (by simp only;omega))
 ·have:i=8:=by omega
  subst this
  have bl:b<ns.length:=by omega
  have hcut:=qY (b:=b) hol b8 hc
  refine BY fid (by omega) ?_
  rw [ek]
  have e1:(ns.set b {nd ns b with holds:=0}).length=ns.length:=by simp
  refine AH bl (lQ bl ?_)
  refine AH (by rw [AK,e1];exact bl) (lM (by rw [e1];exact bl) ?_)
  obtain ⟨ns2,e2⟩: ∃ns2,(ns.set b {nd ns b with holds:=0}).set b {nd (ns.set b {nd ns b with holds:=0}) b with roots:=0}=ns2:=⟨_,rfl⟩
  rw [e2] at hcut ⊢
  have nl2:ns2.length=8:=by rw [←e2];simp [nl]
  have f2: ∀i,i<8→(nd ns2 i).field.length≤1000∧ ∀f∈(nd ns2 i).field,F64 f:=fun i hi=>by
   have hfd:=hcut.field i
   rw [kE] at hfd
   have hfd:(nd ns2 i).field=(ob h.AD i).field.map (TK id):=hfd
   rw [hfd]
   refine ⟨by rw [List.length_map,(ok.hp.obj i hi).len];omega,fun f hf=> ?_⟩
   obtain ⟨f',hf',rfl⟩:=List.mem_map.1 hf
   unfold TK
   split
   ·exact ⟨by omega,by omega⟩
   ·exact (hx.IP.ob i).2.2.2.2.2 f' hf'
  have hgr:grQ ns2=GK (osN ns2) (-1) (exts (osN ns2)):=vX nl2 fun i hi hv=>by
   rw [hcut.live] at hv
   rw [hcut.gen]
   exact sJ ok i hi hv
  have hs2:=hsum _ hcut
  rw [←hgr] at hs2
  have sl:=lT (grQ ns2)
  have rl2:=lL ok (exts h.AD)
  refine L5 nl2 f2 ?_
  simp only [AJ,AN,AQ,AR,AK,AE,AL,AI,AS,AP,AU,AT,AM,AO,BJ,BP,BM,BN,BO,BS,BL,A4,A5,A9,A8,BA,A7]
  refine FW ⟨by omega,by omega⟩ (JX ol (NI (x:=h) ok xF (by omega) ?_))
  simp only [AJ,AN,AQ,AR,AK,AE,AL,AI,AS,AP,AU,AT,AM,AO,BJ,BP,BM,BN,BO,BS,BL,A4,A5,A9,A8,BA,A7]
  have e9:((XB (grQ ns2)).length:Int)+(r.length:Int)=((KJ h.AD (exts h.AD)).length:Int):=by omega
  refine B1 (BC (uC e9 (R6 nl2 f2 (BC (BC (uC e9 (L5 nl2 f2 (BC (HG e9 (B1 (DX e9 rfl ?_)))))))))))
  simp only [A4,AE,decide_true]
  exact done
end Go.Proofs.Ytklmcfpgdfibnaa.P
