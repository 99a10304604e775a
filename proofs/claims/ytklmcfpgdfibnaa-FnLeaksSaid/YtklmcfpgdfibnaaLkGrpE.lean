/- A part of the proof. -/
import Derived.Test.YtklmcfpgdfibnaaLkRchB
namespace Go.Proofs.Ytklmcfpgdfibnaa.P
open Go Go.Proofs.Ytklmcfpgdfibnaa Go.Proofs.Ytklmcfpgdfibnaa.Eng
set_option linter.unusedVariables false
def tLk (t:Int×Int×Int):List T:=[.c (I t.1), .c (I t.2.1), .c (I t.2.2)]
instance Ac:Rw tLk 3:=⟨by omega,fun _=>rfl⟩
theorem VN (l:List (Int×Int×Int)):cnt 3 (tR tLk l)=l.length:=T2 l
def lk1 (os:List AG) (v:Int):Int×Int×Int:=(v,if ldB os v v=true then 1 else 2,(ob os (AB os v).toNat).site)
def lkM (os:List AG):List (Int×Int×Int):=(IG os).map (lk1 os)
set_option maxHeartbeats 4000000
set_option linter.unusedVariables false
set_option linter.unusedSimpArgs false
attribute [local irreducible] prP gP gE gF A6 ixW ldc ldg ldl stc stg scW mkW apW BD cl2 BP C3 B9
variable {w0:World}
theorem YD {x:Hp} {v:Int} {K:J2} (hk:BO x) (fv:F64 v) (hs:0≤AB x.AA v) (h:K [I (ob x.AA (AB x.AA v).toNat).site] []):cl2 ⟨Try.prog,w0⟩ 90 FR.sg [I v] (trees x) K:=by
 have ol8:=hk.ol
 obtain ⟨k,ek⟩: ∃k:Nat,AB x.AA v=k:=⟨(AB x.AA v).toNat,by omega⟩
 have k8:=(IA ek).1
 refine FR.cl2 ?_
 unfold FR.txt
 try simp only [trees]
 try simp only [AI,AP,AN,AS,AK,AE,AJ,AH,AM,AT,AL,AR,AO,AQ,BC,BE,BF,BJ,BL,BK,BH,AW,A5,AZ,A4,AY,AX]
 refine IN fv (by omega) ?_
 rw [ek] at h ⊢
 rw [Int.toNat_natCast] at h
 exact A9 (DU (by omega) (AU (by omega) (HQ (c:=2) (by omega) (by decide) rfl h)))
theorem aI {x:Hp} {K:J2} (hk:BO x) (h:K [] [tR tLk (lkM x.AA)]):cl2 ⟨Try.prog,w0⟩ 20 HD.sg [] (trees x) K:=by
 have ol8:=hk.ol
 have ll:=GN x.AA
 have lk:(IG x.AA).length≤(B2 x.AA).length:=List.length_filter_le _ _
 have hlv: ∀v∈IG x.AA,v∈B2 x.AA:=fun v hv=>(List.mem_filter.1 hv).1
 refine HD.cl2 ?_
 unfold HD.txt
 try simp only [trees]
 try simp only [AI,AP,AN,AS,AK,AE,AJ,AH,AM,AT,AL,AR,AO,AQ,BC,BE,BF,BJ,BL,BK,BH,AW,A5,AZ,A4,AY,AX]
 refine MW hk ?_
 unfold lkM at h
 generalize IG x.AA=m at h lk hlv ⊢
 simp only [AI,AP,AN,AS,AK,AE,AJ,AH,AM,AT,AL,AR,AO,AQ,BC,BE,BF,BJ,BL,BK,BH,AW,A5,AZ,A4,AY,AX]
 refine BM (fun i=>[iv m.length,iv i]) (fun i=>[tR tLk ((m.take i).map (lk1 x.AA)),tI m]) m.length (fun _=>True) rfl rfl trivial (fun R i hi _ hR=> ?_)
 have tl:((m.take i).map (lk1 x.AA)).length=i:=by rw [List.length_map,List.length_take];omega
 simp only [AI,AP,AN,AS,AK,AE,AJ,AH,AM,AT,AL,AR,AO,AQ,BC,BE,BF,BJ,BL,BK,BH,AW,A5,AZ,A4,AY,AX]
 refine A9 (A7 (fun hlt=> ?_) fun hge=> ?_)
 ·have hlt:i<m.length:=by omega
  have hR:=hR hlt trivial
  have hm:=hlv _ (CH hlt)
  have hs:=CQ hk hm
  have fv:F64 (gI m i):=BV (by have:=hk.HK hs;omega)
  rw [List.take_succ_eq_append_getElem hlt,List.map_append,CM hlt] at hR
  refine AU hlt (ldI hlt (BW (OJ hk fv fv hs hs ?_)))
  have fin: ∀kd:Int,lk1 x.AA (gI m i)=(gI m i,kd,(ob x.AA (AB x.AA (gI m i)).toNat).site)→cl2 ⟨Try.prog,w0⟩ 90 FR.sg [I (gI m i)] (trees x) fun v32 d33=>
    apW [T.c (I (gI m i)),T.c (I kd),T.c (nx v32 0)] true (cnt 3 (tR tLk ((m.take i).map (lk1 x.AA)))) 1 24 (
    prP (bnI .add (iv i) (.int .i64 1)) fun t27_35=>
    R [iv m.length,t27_35] [tR tLk ((m.take i).map (lk1 x.AA))++[T.c (I (gI m i)),T.c (I kd),T.c (nx v32 0)],tI m]):=fun kd e=>by
   refine YD hk fv hs (DG rfl (by rw [VN,tl];omega) (A8 (by omega) ?_))
   simp only [BC]
   have e2:tR tLk ((m.take i).map (lk1 x.AA))++[T.c (I (gI m i)),T.c (I kd),T.c (I (ob x.AA (AB x.AA (gI m i)).toNat).site)]=tR tLk ((m.take i).map (lk1 x.AA)++[(gI m i,kd,(ob x.AA (AB x.AA (gI m i)).toNat).site)]):=OM _ (gI m i,kd,(ob x.AA (AB x.AA (gI m i)).toNat).site)
   rw [e2, ←e]
   exact hR
  simp only [BC]
  cases e1:ldB x.AA (gI m i) (gI m i) with
  | true=>refine CE ?_;simp only [AI,AP,AN,AS,AK,AE,AJ,AH,AM,AT,AL,AR,AO,AQ,BC,BE,BF,BJ,BL,BK,BH,AW,A5,AZ,A4,AY,AX];exact fin 1 (by unfold lk1;rw [e1];rfl)
  | false=>refine B5 ?_;simp only [AI,AP,AN,AS,AK,AE,AJ,AH,AM,AT,AL,AR,AO,AQ,BC,BE,BF,BJ,BL,BK,BH,AW,A5,AZ,A4,AY,AX];exact fin 2 (by unfold lk1;rw [e1];rfl)
 ·have:i=m.length:=by omega
  subst this
  rw [List.take_length]
  exact h
theorem U6 {L:List Int} {i:Nat} {z:Int} {K:J2} (hb:QW L) (hi:i≤L.length) (h: ∀(x:Hp) (i':Nat) (z':Int),fZ x→i'≤L.length→K [iv i',I z'] (trees x)):cl2 ⟨Try.prog,w0⟩ 86 EU.sg [iv i,I z] [tY L] K:=by
 refine EU.cl2 ?_
 unfold EU.txt
 refine HN hb hi fun b i1 z1 h1=> ?_
 cases b with
 | true=>exact CE (bG hb h1 fun x i2 z2 hx h2=>h x i2 z2 hx h2)
 | false=>
   refine B5 (CC hb h1 fun n i2 z2 n0 n1 h2=>EC ⟨by omega,by omega⟩ ?_)
   obtain ⟨n,en⟩: ∃m:Nat,2+n=(m:Int):=⟨(2+n).toNat,by omega⟩
   simp only [BC,BE,BF]
   rw [en]
   have n2:2≤n∧n≤8:=by omega
   refine DJ (α:=Nat×Nat×Int×List Op5) (fun s=>[iv n,iv s.1,iv s.2.1,I s.2.2.1]) (fun s=>[tR tP s.2.2.2]) (fun s=>n-s.1) (fun s=>s.1≤n∧s.2.1≤L.length∧s.2.2.2.length=s.1∧ ∀o∈s.2.2.2,OpF o) (0,i2,z2,[]) rfl rfl ⟨by simp,h2,rfl,by simp⟩ (fun R s hs hR=> ?_)
   obtain ⟨j,i3,z3,l⟩:=s
   obtain ⟨hj,h3,hl,ho⟩:=hs
   simp only at hj h3 hl ho
   simp only [AI,AP,AN,AS,AK,AE,AJ,AH,AM,AT,AL,AR,AO,AQ,BC,BE,BF,BJ,BL,BK,BH,AW,A5,AZ,A4,AY,AX]
   refine A9 (A7 (fun hlt=> ?_) fun hge=> ?_)
   ·refine KM (l:=[⟨#[97]⟩,⟨#[98]⟩,⟨#[108,105,115,116]⟩]) hb h3 (by decide) fun v hv i4 z4 h4=> ?_
    have vs:(v.size:Int)<2^63:=by
     simp only [List.mem_cons,List.not_mem_nil,or_false] at hv
     rcases hv with rfl | rfl | rfl <;> decide
    refine DG rfl (by omega) (A8 (by omega) ?_)
    have e:tR tP l++[T.c (.int .i64 1),T.c (.int .i64 0),T.c (.int .i64 0),T.c (.int .i64 0),T.c (.string v)]=tR tP (l++[⟨1,0,0,0,v⟩]):=OM l ⟨1,0,0,0,v⟩
    simp only [BC,BE,BF]
    rw [e]
    refine hR (j+1,i4,z4,l++[⟨1,0,0,0,v⟩]) ⟨by simp only;omega,h4,by simp [hl],fun o ho'=> ?_⟩ (by simp only;omega)
    rcases List.mem_append.1 ho' with ho' | ho'
    ·exact ho o ho'
    ·rw [List.mem_singleton.1 ho']
     exact ⟨BV (by simp only;omega),BV (by simp only;omega),BV (by simp only;omega),BV (by simp only;omega),vs⟩
   have:j=n:=by omega
   subst this
   clear hR R
   refine DJ (α:=Nat×Nat×Int×List Op5) (fun s=>[iv j,iv s.1,iv s.2.1,I s.2.2.1]) (fun s=>[tR tP s.2.2.2]) (fun s=>2*j-s.1) (fun s=>s.1≤2*j∧s.2.1≤L.length∧s.2.2.2.length=j+s.1∧ ∀o∈s.2.2.2,OpF o) (0,i3,z3,l) rfl rfl ⟨by simp,h3,by simp [hl],ho⟩ (fun R s hs hR=> ?_)
   clear hl ho h3
   obtain ⟨m,i3,z3,l⟩:=s
   obtain ⟨hm,h3,hl,ho⟩:=hs
   simp only at hm h3 hl ho
   simp only [AI,AP,AN,AS,AK,AE,AJ,AH,AM,AT,AL,AR,AO,AQ,BC,BE,BF,BJ,BL,BK,BH,AW,A5,AZ,A4,AY,AX]
   refine QM (a:=2) ⟨by omega,by omega⟩ (A9 (A7 (fun hlt=> ?_) fun hge=> ?_))
   ·refine CC hb h3 fun k i4 z4 k0 k1 h4=>EC ⟨by omega,by omega⟩ (SK (by omega) (by omega) ?_)
    have hto:0≤(k+1) % (j:Int)∧(k+1) % (j:Int)<(j:Int):=⟨Int.emod_nonneg _ (by omega),Int.emod_lt_of_pos _ (by omega)⟩
    simp only [BC,BE,BF]
    refine iE (fun xs cs=> ∃(to:Int) (i5:Nat) (z5:Int),xs=[iv j,iv m,I k,I to,iv i5,I z5]∧cs=[tR tP l]∧0≤to∧to≤10∧i5≤L.length) ?_ fun jn hjn=> ?_
    rotate_left
    ·refine HN hb h4 fun b i5 z5 h5=> ?_
     simp only [BC,BE,BF]
     cases b with
     | true=>exact CE (CC hb h5 fun to i6 z6 t0 t1 h6=>hjn _ _ ⟨to,i6,z6,rfl,rfl,by omega,by omega,h6⟩)
     | false=>exact B5 (hjn _ _ ⟨(k+1) % (j:Int),i5,z5,rfl,rfl,by omega,by omega,h5⟩)
    rintro xs cs ⟨to,i5,z5,rfl,rfl,t0,t1,h5⟩
    simp only [AI,AP,AN,AS,AK,AE,AJ,AH,AM,AT,AL,AR,AO,AQ,BC,BE,BF,BJ,BL,BK,BH,AW,A5,AZ,A4,AY,AX]
    refine EC (a:=8) ⟨by omega,by omega⟩ (CC hb h5 fun f i6 z6 f0 f1 h6=>EC (a:=8) ⟨by omega,by omega⟩ ?_)
    simp only [BC,BE,BF]
    refine DG rfl (by omega) (A8 (by omega) ?_)
    have e:tR tP l++[T.c (.int .i64 4),T.c (I (8+k)),T.c (I f),T.c (I (8+to)),T.c (.string {data:= #[]})]=tR tP (l++[⟨4,8+k,f,8+to,⟨#[]⟩⟩]):=OM l ⟨4,8+k,f,8+to,⟨#[]⟩⟩
    rw [e]
    refine hR (m+1,i6,z6,_) ⟨by simp only;omega,h6,by simp only [List.length_append,List.length_singleton];omega,fun o ho'=> ?_⟩ (by simp only;omega)
    rcases List.mem_append.1 ho' with ho' | ho'
    ·exact ho o ho'
    ·rw [List.mem_singleton.1 ho']
     exact ⟨BV (by simp only;omega),BV (by simp only;omega),BV (by simp only;omega),BV (by simp only;omega),show ((ByteArray.mk #[]).size:Int)<2^63 by decide⟩
   have:m=2*j:=by omega
   subst this
   clear hR R
   refine DJ (α:=Nat×Nat×Int×List Op5) (fun s=>[iv j,iv s.1,iv s.2.1,I s.2.2.1]) (fun s=>[tR tP s.2.2.2]) (fun s=>j-s.1) (fun s=>s.1≤j∧s.2.1≤L.length∧s.2.2.2.length≤3*j+s.1∧ ∀o∈s.2.2.2,OpF o) (0,i3,z3,l) rfl rfl ⟨by simp,h3,by simp only;omega,ho⟩ (fun R s hs hR=> ?_)
   clear hl ho h3
   obtain ⟨m,i3,z3,l⟩:=s
   obtain ⟨hm,h3,hl,ho⟩:=hs
   simp only at hm h3 hl ho
   simp only [AI,AP,AN,AS,AK,AE,AJ,AH,AM,AT,AL,AR,AO,AQ,BC,BE,BF,BJ,BL,BK,BH,AW,A5,AZ,A4,AY,AX]
   refine A9 (A7 (fun hlt=>BW (HN hb h3 fun b i4 z4 h4=> ?_)) fun hge=> ?_)
   ·simp only [BC,BE,BF]
    cases b with
    | true=>exact CY (B5 (A8 (by omega) (hR (m+1,i4,z4,l) ⟨by simp only;omega,h4,by simp only;omega,ho⟩ (by simp only;omega))))
    | false=>
      refine CY (CE (EC (a:=8) ⟨by omega,by omega⟩ (DG rfl (by omega) (A8 (by omega) ?_))))
      have e:tR tP l++[T.c (.int .i64 3),T.c (I (8+(m:Int))),T.c (.int .i64 0),T.c (.int .i64 0),T.c (.string {data:= #[]})]=tR tP (l++[⟨3,8+m,0,0,⟨#[]⟩⟩]):=OM l ⟨3,8+m,0,0,⟨#[]⟩⟩
      simp only [BC,BE,BF,BJ,AW]
      rw [e]
      refine hR (m+1,i4,z4,_) ⟨by simp only;omega,h4,by simp only [List.length_append,List.length_singleton];omega,fun o ho'=> ?_⟩ (by simp only;omega)
      rcases List.mem_append.1 ho' with ho' | ho'
      ·exact ho o ho'
      ·rw [List.mem_singleton.1 ho']
       exact ⟨BV (by simp only;omega),BV (by simp only;omega),BV (by simp only;omega),BV (by simp only;omega),show ((ByteArray.mk #[]).size:Int)<2^63 by decide⟩
   ·refine UU (by omega) ho ?_
    exact h _ i3 z3 (fZ.ok (NW l _).1 (XP l _)) h3
theorem T7 {L:List Int} {K:J2} (hb:QW L) (h: ∀(x:Hp),fZ x→K [] (trees x)):cl2 ⟨Try.prog,w0⟩ 18 D5.sg [] [tY L] K:=by
 refine D5.cl2 ?_
 unfold D5.txt
 exact Z8 hb fun z=>U6 hb (Nat.zero_le _) fun x i1 z1 hx h1=>h x hx
theorem lO {L:List Int} (g:V3 L) {K:J2} (done:K [.bool true] []):F9.txt ⟨Try.prog,w0⟩ (tY L) K:=by
 unfold F9.txt
 refine fB (A7 (fun _=>done) fun hsz=> ?_)
 have hb:=g.f hsz
 refine T7 hb fun h hx=>RF hx.fits hx.I6 (fun ok=> ?_) fun _=>CY (CE done)
 refine CY (B5 ?_)
 have ol8:=ok.ol
 have ol:=hx.fits.ol
 have ll:=GN h.AA
 have lk:(IG h.AA).length≤(B2 h.AA).length:=List.length_filter_le _ _
 obtain ⟨rl8,rok⟩:=aO ok
 have lrl:(O0 h.AA).length≤(U5 h.AA).length:=List.length_filter_le _ _
 have lrok: ∀g∈O0 h.AA,0<g.length∧g.length≤8∧ ∀v∈g,v∈B2 h.AA:=fun g hg=>rok g (List.mem_filter.1 hg).1
 have hin:=fun v hv=>s7 ok (v:=v) hv
 have hlk:=fun v hv=>(S1 ok (v:=v)).1 hv
 have hS:=fun {a b:Int} {K:J2} (ha:a∈B2 h.AA) (hb:b∈B2 h.AA) (hK:K [.bool (ldB h.AA a b)] [])=>N8 (w0:=w0) (K:=K) ok (BV (by have:=ok.HK (CQ ok ha);omega)) (BV (by have:=ok.HK (CQ ok hb);omega)) (CQ ok ha) (CQ ok hb) hK
 refine aI ok (TO ok (RD ok ?_))
 have elk: ∀i,i<(IG h.AA).length→(lkM h.AA)[i]? =some (lk1 h.AA (gI (IG h.AA) i)):=fun i hi=>by unfold lkM;rw [List.getElem?_map,List.getElem?_eq_getElem hi,CM hi];rfl
 have ell:(lkM h.AA).length=(IG h.AA).length:=by simp [lkM]
 have hL:=fun {K:J2} (hK:K [] [tG (O0 h.AA)])=>TP (w0:=w0) (K:=K) ok hK
 have hM:=fun {K:J2} (hK:K [] [tI (IG h.AA)])=>MW (w0:=w0) (K:=K) ok hK
 try simp only [trees]
 generalize lkM h.AA=lks at elk ell ⊢
 generalize O0 h.AA=r at lrl lrok hin hL ⊢
 generalize IG h.AA=m at lk hin hlk elk ell hM ⊢
 simp only [AI,AP,AN,AS,AK,AE,AJ,AH,AM,AT,AL,AR,AO,AQ,BC,BE,BF,BJ,BL,BK,BH,AW,A5,AZ,A4,AY,AX]
 simp only [VN]
 have p1: ¬(lks.length:Int)≠(m.length:Nat):=by omega
 refine CT (BG (BG (BG (xQ p1 (hL (BG (C7 p1 (CT (ER p1 rfl (DU (fun hh=>hh rfl) ?_))))))))))
 refine BM (fun i=>[iv i]) (fun _=>[tR tLk lks,tG r,tR tO h.AA,tR tW h.B4,tI h.buffer,tS h.sites]) m.length (fun _=>True) rfl rfl trivial (fun R i hi _ hR=> ?_)
 simp only [AI,AP,AN,AS,AK,AE,AJ,AH,AM,AT,AL,AR,AO,AQ,BC,BE,BF,BJ,BL,BK,BH,AW,A5,AZ,A4,AY,AX]
 simp only [VN,ell]
 refine A9 (A7 (fun hlt=> ?_) fun hge=> ?_)
 ·have hlt:i<m.length:=by omega
  have hil:i<lks.length:=by omega
  have hR:=hR hlt trivial
  have hvm:=CH hlt
  obtain ⟨k,k8,kv,ev,hnr⟩:=hlk _ hvm
  obtain ⟨in1,on1⟩:=hin _ hvm
  have hei:lks[i]=lk1 h.AA (gI m i):=by
   have:=elk i hlt
   rw [List.getElem?_eq_getElem hil] at this
   exact Option.some.inj this
  have sk:AB h.AA (gI m i)=(k:Int):=by rw [ev];exact JM ok k8 kv
  have fv:F64 (gI m i):=BV (by have:=ok.HK (x:=gI m i) (by omega);omega)
  have hvl:gI m i∈B2 h.AA:=(KE ok).2 ⟨k,k8,kv,ev⟩
  have hr:=ok.hr k
  have hz:(ob h.AA k).holds+(ob h.AA k).roots=0:=Classical.byContradiction fun hn=>hnr ⟨k,⟨k8,kv,by omega⟩, .refl⟩
  have kl:k<h.AA.length:=by omega
  have l1:lk1 h.AA (gI m i)=(gI m i,if ldB h.AA (gI m i) (gI m i)=true then 1 else 2,(ob h.AA k).site):=by unfold lk1;rw [sk,Int.toNat_natCast]
  rw [l1] at hei
  have ld0: ∀{K:Value→Prop},K (I (gI m i))→ldc (tR tLk lks) [] (AD (iv i)*3) K:=fun hK=>S9 hil (by rw [hei];rfl) hK
  have ld1: ∀{K:Value→Prop},K (I (if ldB h.AA (gI m i) (gI m i)=true then 1 else 2))→ldc (tR tLk lks) [] (AD (iv i)*3+1) K:=fun hK=>PV hil (by decide) (by rw [hei];rfl) hK
  have ld2: ∀{K:Value→Prop},K (I (ob h.AA k).site)→ldc (tR tLk lks) [] (AD (iv i)*3+2) K:=fun hK=>PV hil (by decide) (by rw [hei];rfl) hK
  refine AU hlt (ld0 (B1 fv (by omega) ?_))
  rw [sk]
  have p2: ¬(k:Int)<0:=by omega
  refine A9 (BG (BG (BG (C7 p2 (AU kl (BG (C7 p2 (HQ (c:=3) kl (by decide) rfl (BG (BG (BG (C7 p2 (AU kl (BG (C7 p2 (HQ (c:=4) kl (by decide) rfl (C7 p2 (EC ⟨by omega,by omega⟩ ?_))))))))))))))))))
  rw [hz]
  refine C7 p2 (CT (ER p2 rfl ?_))
  have p3: ¬(0:Int)≠0:=fun hh=>hh rfl
  refine BG (BG (BG (C7 p3 (AU kl (BG (C7 p3 (HQ (c:=2) kl (by decide) rfl (BG (BG (C7 p3 (AU hlt (BG (C7 p3 (ld2 (C7 p3 (CT (ER p3 rfl (DU (fun hh=>hh rfl) ?_))))))))))))))))))
  refine DJ (α:=Nat×Bool×Bool) (fun s=>[iv i, .bool s.2.1, .bool s.2.2,iv s.1]) (fun _=>[tR tLk lks,tG r,tR tO h.AA,tR tW h.B4,tI h.buffer,tS h.sites]) (fun s=>r.length-s.1) (fun s=>s.1≤r.length∧(s.2.1=true↔ ∃j,j<s.1∧gI m i∈gG r j)∧(s.2.2=true↔ ∃j,j<s.1∧ldB h.AA (gI (gG r j) 0) (gI m i)=true)) (0,false,false) rfl rfl ⟨Nat.zero_le _,by simp,by simp⟩ (fun R2 s hs hR2=> ?_)
  obtain ⟨j,bi,bo⟩:=s
  obtain ⟨hj,hbi,hbo⟩:=hs
  simp only at hj hbi hbo
  simp only [AI,AP,AN,AS,AK,AE,AJ,AH,AM,AT,AL,AR,AO,AQ,BC,BE,BF,BJ,BL,BK,BH,AW,A5,AZ,A4,AY,AX]
  simp only [VN,ell,IB,List.length_map]
  refine A9 (A7 (fun hlj=> ?_) fun hgj=> ?_)
  ·have hlj:j<r.length:=by omega
   have ha:=jH hlj
   obtain ⟨g1,g4,g2⟩:=lrok _ (O4 hlj)
   have h0:=g2 _ (CH g1)
   refine AU hlj (SA ha ?_)
   rw [OE ha]
   simp only [AE]
   refine B3 (DU (by omega) (BG (BG ?_)))
   have part2: ∀b1:Bool,(b1=true↔ ∃j',j'<j+1∧gI m i∈gG r j')→gE (.bool bo) (
     gE (.bool bo) (
     gE (.bool bo) (
     gP (.bool bo) false (ixW r.length (iv j)) fun t113_61=>
     gE (.bool bo) (
     gP (.bool bo) false (ldl (tG r) [] ((AD t113_61)*1) 1) fun t115_62=>
     gP (.bool bo) false (ixW (cnt 1 (EK (tG r) [((AD t113_61)*1)])) (.int .i64 0)) fun t116_63=>
     gP (.bool bo) false (ldc (tG r) [((AD t113_61)*1)] ((AD t116_63)*1)) fun t117_64=>
     gE (.bool bo) (
     gE (.bool bo) (
     gP (.bool bo) false (ixW m.length (iv i)) fun t120_65=>
     gE (.bool bo) (
     gP (.bool bo) false (ldc (tR tLk lks) [] ((AD t120_65)*3)) fun t122_66=>
     gP (.bool bo) false ((fun K=>cl2 ⟨Try.prog,w0⟩ 26 DF.sg [t117_64,t122_66] [tR tO h.AA,tR tW h.B4,tI h.buffer,tS h.sites] fun v67 d68=>K (nx v67 0))) fun t123_69=>
     prP (pk (.bool bo) (.bool true) t123_69) fun t124_70=>
     prP (bnI .add (iv j) (.int .i64 1)) fun t86_71=>
     R2 [iv i, .bool b1,t124_70,t86_71] [tR tLk lks,tG r,tR tO h.AA,tR tW h.B4,tI h.buffer,tS h.sites]))))))):=fun b1 hb1=>by
    cases bo with
    | true=>
      refine BG (BG (BG (JY (BG (JY (JY (JY (BG (BG (JY (BG (JY (JY (R6 rfl (A8 (by omega) (hR2 (j+1,b1,true) ⟨by simp only;omega,hb1, ?_⟩ (by simp only;omega)))))))))))))))))
      simp only [true_iff]
      obtain ⟨j',hj',hh⟩:=hbo.1 rfl
      exact ⟨j',by omega,hh⟩
    | false=>
      refine BG (BG (BG (HU (AU hlj (BG (HU (SA ha ?_)))))))
      rw [OE ha]
      refine HU (AU (j:=0) (by rw [AE];exact g1) (HU (RJ ha g1 (BG (BG (HU (AU hlt (BG (HU (ld0 (HU (hS h0 hvl (R1 rfl (A8 (by omega) ?_))))))))))))))
      refine hR2 (j+1,b1,ldB h.AA (gI (gG r j) 0) (gI m i)) ⟨by simp only;omega,hb1, ?_⟩ (by simp only;omega)
      simp only
      constructor
      ·intro hh;exact ⟨j,by omega,hh⟩
      ·rintro ⟨j',hj',hh⟩
       by_cases he:j'=j
       ·rw [he] at hh;exact hh
       ·exact absurd (hbo.2 ⟨j',by omega,hh⟩) (by simp)
   cases bi with
   | true=>
     refine JY (BG (JY (BG (BG (JY (BG (JY (JY (R6 rfl (part2 true ?_))))))))))
     simp only [true_iff]
     obtain ⟨j',hj',hh⟩:=hbi.1 rfl
     exact ⟨j',by omega,hh⟩
   | false=>
     refine HU (AU hlj (BG (HU (SA ha (BG (BG (HU (AU hlt (BG (HU (ld0 ?_)))))))))))
     rw [OE ha]
     refine HU (gV (by omega) (R1 rfl (part2 (decide (gI m i∈gG r j)) ?_)))
     rw [decide_eq_true_eq]
     constructor
     ·intro hh;exact ⟨j,by omega,hh⟩
     ·rintro ⟨j',hj',hh⟩
      by_cases he:j'=j
      ·rw [he] at hh;exact hh
      ·exact absurd (hbi.2 ⟨j',by omega,hh⟩) (by simp)
  ·have:j=r.length:=by omega
   subst this
   have all_at: ∀(P:List Int→Prop),(∃j',j'<r.length∧P (gG r j'))↔ ∃g∈r,P g:=fun P=>by
    constructor
    ·rintro ⟨j',hj',hp⟩;exact ⟨_,O4 hj',hp⟩
    ·rintro ⟨g,hg,hp⟩
     obtain ⟨j',hj',rfl⟩:=List.getElem_of_mem hg
     exact ⟨j',hj',by rw [←X7 hj'];exact hp⟩
   rw [all_at (fun g=>gI m i∈g), ←in1] at hbi
   rw [all_at (fun g=>ldB h.AA (gI g 0) (gI m i)=true)] at hbo
   have hbt:bo=true:=hbo.2 on1
   subst hbt
   refine AU hlt (ld1 (B3 ?_))
   cases bi with
   | true=>
     have e1:=hbi.1 rfl
     rw [e1]
     simp only [if_true,decide_true]
     refine dJ rfl (BG (HU (CY (BG ?_))))
     simp only [B9]
     refine BG (HJ (BG ?_))
     simp only [Bool.not_true,Bool.not_false,B9]
     exact vV (vV (tQ (vV (tQ (tQ (HJ (HU (R1 rfl (R1 rfl (B5 (A8 (by omega) hR)))))))))))
   | false=>
     have e1:ldB h.AA (gI m i) (gI m i)=false:=by
      cases hh:ldB h.AA (gI m i) (gI m i) with
      | false=>rfl
      | true=>exact absurd (hbi.2 hh) (by simp)
     rw [e1] at ld1 ⊢
     simp only [Bool.false_eq_true,if_false] at ld1 ⊢
     refine dJ (by decide) (BG (HU (CY (BG ?_))))
     simp only [B9]
     refine BG (IH (CY (BG ?_)))
     simp only [Bool.not_true,Bool.not_false,B9]
     exact BG (BG (HU (AU hlt (BG (HU (ld1 (HU (CT (IH (R1 rfl (HU (R6 rfl (R1 rfl (DU (fun hh=>hh rfl) (A8 (by omega) hR)))))))))))))))
 ·refine hM ?_
  simp only [AI,AP,AN,AS,AK,AE,AJ,AH,AM,AT,AL,AR,AO,AQ,BC,BE,BF,BJ,BL,BK,BH,AW,A5,AZ,A4,AY,AX]
  refine B3 ?_
  rw [decide_eq_true (by omega)]
  exact done
end Go.Proofs.Ytklmcfpgdfibnaa.P
