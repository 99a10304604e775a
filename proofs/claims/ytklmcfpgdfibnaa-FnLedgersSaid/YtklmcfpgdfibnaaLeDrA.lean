/- A part of the proof. -/
import Derived.Test.YtklmcfpgdfibnaaLeHpFa
namespace Go.Proofs.Ytklmcfpgdfibnaa.P
open Go Go.Proofs.Ytklmcfpgdfibnaa Go.Proofs.Ytklmcfpgdfibnaa.Eng
set_option linter.unusedVariables false
theorem iH (s g:Int): -1≤B2 s g∧B2 s g≤7999:=by unfold B2;split <;> omega
theorem VZ {os:List AE} {W:Nat→Bool} {n:Nat} {x:Int}:x∈HK os W n↔ ∃i:Nat,i<n∧W i=true∧x=B2 i (ob os i).gen:=by
 rw [←aG]
 simp only [List.mem_map,QE]
 constructor
 ·rintro ⟨a,⟨i,h1,rfl,h3⟩,rfl⟩
  exact ⟨i,h1,h3,by rw [Int.toNat_natCast]⟩
 ·rintro ⟨i,h1,h2,rfl⟩
  exact ⟨i,⟨i,h1,rfl,h2⟩,by rw [Int.toNat_natCast]⟩
theorem RO {os:List AE} {W:Nat→Bool} (hg: ∀i,i<8→W i=true→1≤(ob os i).gen∧(ob os i).gen≤999): ∀n,n≤8→(HK os W n).Nodup
 | 0,_=>List.nodup_nil
 | n+1,hn=>by
   have ih:=RO hg n (by omega)
   show (HK os W n++if W n=true then [B2 n (ob os n).gen] else []).Nodup
   split
   ·rename_i hw
    refine List.nodup_append.2 ⟨ih,by simp,fun a ha b hb=> ?_⟩
    obtain ⟨i,h1,h2,rfl⟩:=VZ.1 ha
    rw [List.mem_singleton.1 hb]
    have a1:=hg i (by omega) h2
    have a2:=hg n (by omega) hw
    exact UJ (by omega) (by omega) a1.1 a1.2 a2.1 a2.2 (by omega)
   ·simpa using ih
structure I0 (h:Hp) (r:Hp×An):Prop where
 code:0≤r.2.code∧r.2.code≤6
 val: -1≤r.2.val∧r.2.val≤7999
 ref:r.2.code≠0→r.1=h∧r.2.freed=[]
 fr: ∀x∈r.2.freed,0≤AA h.AD x∧AA r.1.AD x<0
 nd:r.2.freed.Nodup
 len:r.2.freed.length≤8
theorem I0.plain {h h':Hp} {c v:Int} (hc:0≤c∧c≤6) (hv: -1≤v∧v≤7999) (hr:c≠0→h'=h):I0 h (h',⟨c,v,[]⟩):=⟨hc,hv,fun hh=>⟨hr hh,rfl⟩,by simp,List.nodup_nil,by simp⟩
theorem IZ.slot {a b:List AE} (h:IZ a b) (x:Int):AA b x=AA a x:=DP h.1 fun i _=>⟨(h.2 i).1,(h.2 i).2.1⟩
theorem Mid.step {h:Hp} {r:List AE×List Int×An} (m:Mid h.AD h.sites.length h.buffer r):I0 h (⟨r.1,h.B6,r.2.1,h.sites⟩,r.2.2):=by
 rcases m with ⟨c,hc,rfl⟩ | ⟨os1,h1,_,_,rfl⟩ | ⟨os1,x,h1,hs,_,rfl⟩
 ·exact I0.plain ⟨by omega,by omega⟩ (by omega) fun _=>rfl
 ·exact I0.plain (by decide) (by omega) fun hh=>absurd rfl hh
 ·have R:=aR h1
  have h8:=W4 h1.ol
  have hct:=R.ct
  refine ⟨⟨by simp [NS],by simp [NS]⟩,⟨by simp [NS],by simp [NS]⟩,fun hh=>absurd rfl hh,fun x hx=> ?_,R.nd,by simp only [NS];omega⟩
  obtain ⟨a,b⟩:=(R.fr x).1 hx
  rw [hs.slot] at a
  exact ⟨a,b⟩
theorem BO.zS {h:Hp} {o:Op5} (hk:BO h):I0 h (CG h o):=by
 have hp:=hk.hp
 unfold CG
 split
 ·unfold GH
  split
  ·exact I0.plain (by decide) (by omega) fun _=>rfl
  ·split
   ·exact I0.plain (by decide) (by omega) fun _=>rfl
   ·split
    ·exact I0.plain (by decide) (by omega) fun _=>rfl
    ·exact I0.plain (by decide) (iH _ _) fun hh=>absurd rfl hh
 ·split
  ·exact (hp.W0 (id:=o.a) (kd:=o.kind)).step
  ·split
   ·exact (hp.SL (a:=o.a) (b:=o.b) (c:=o.c)).step
   ·split
    ·unfold MR
     split
     ·exact I0.plain (by decide) (by omega) fun _=>rfl
     ·split
      ·exact I0.plain (by decide) (by omega) fun _=>rfl
      ·rename_i hf
       have hb:=XX hf
       have:=hk.wl
       exact I0.plain (by decide) (by omega) fun hh=>absurd rfl hh
    ·split
     ·unfold HW
      split
      ·exact I0.plain (by decide) (by omega) fun _=>rfl
      ·rename_i hb
       split
       ·exact I0.plain (by decide) (by omega) fun _=>rfl
       ·rename_i hu
        split
        ·exact I0.plain (by decide) (by omega) fun hh=>absurd rfl hh
        ·split
         ·exact I0.plain (by decide) (by omega) fun hh=>absurd rfl hh
         ·have:=(hk.weak o.a.toNat (by have:=hk.wl;omega)).2 (by simpa using hu)
          exact I0.plain (by decide) (by omega) fun hh=>absurd rfl hh
     ·split
      ·have hW: ∀i,i<8→HB h.AD (fun i=>(ob h.AD i).count) h.buffer i=true→(ob h.AD i).live=true:=fun i _ hw=>(HQ.1 hw).1.live
       have hg: ∀i,i<8→HB h.AD (fun i=>(ob h.AD i).count) h.buffer i=true→1≤(ob h.AD i).gen∧(ob h.AD i).gen≤999:=fun i hi hw=>⟨((hp.obj i hi).lv (hW i hi hw)).1,(hp.obj i hi).gen.2⟩
       refine ⟨⟨by simp,by simp⟩,⟨by simp,by simp⟩,fun hh=>absurd rfl hh,fun x hx=> ?_,RO hg 8 (Nat.le_refl _),MQ (fun i=>by split <;> simp) 8⟩
       obtain ⟨i,hi,hw,rfl⟩:=VZ.1 hx
       have hs:=DQ hp.ol hi (hW i hi hw) (hg i hi hw).1 (hg i hi hw).2
       refine ⟨by rw [hs];omega, ?_⟩
       have hid:=GR hi (hg i hi hw).1 (hg i hi hw).2
       have e:(B2 i (ob h.AD i).gen % 8).toNat=i:=by omega
       simp only [F4]
       rw [IG (by rw [C1];omega) (.inl (by
        rw [e,H5 hi]
        have em:DH h.AD (HB h.AD (fun i=>(ob h.AD i).count) h.buffer) i=CA (ob h.AD i).gen:=by unfold DH;rw [if_pos hw]
        unfold GG
        rw [em];rfl))]
       omega
      ·exact I0.plain (by decide) (by omega) fun _=>rfl
end Go.Proofs.Ytklmcfpgdfibnaa.P
namespace Go.Proofs.Ytklmcfpgdfibnaa.P
open Go Go.Proofs.Ytklmcfpgdfibnaa Go.Proofs.Ytklmcfpgdfibnaa.Eng
set_option linter.unusedVariables false
set_option maxHeartbeats 4000000
set_option linter.unusedVariables false
set_option linter.unusedSimpArgs false
attribute [local irreducible] prP gP gE gF AJ ixW ldc ldg ldl stc stg scW mkW apW A6 cl2 BF CM CB
variable {w0:World}
def tY (l:List Int):List T:=l.map fun n=> .c (.int .u8 n)
structure SU (l:List Int):Prop where
 len:(l.length:Int)<2^62
 all: ∀x∈l,0≤x∧x≤255
theorem dX (l:List Int):cnt 1 (tY l)=l.length:=by simp [cnt,tY]
theorem ldY {l:List Int} {i:Nat} {K:Value→Prop} (hi:i<l.length) (h:K (.int .u8 (gI l i))):ldc (tY l) [] (AB (iv i)*1) K:=by
 rw [←EN hi] at h
 exact p6 (by rw [AX];simp [tY,hi]) h
theorem SU.at {l:List Int} (h:SU l) {i:Nat} (hi:i<l.length):0≤gI l i∧gI l i≤255:=by rw [←EN hi];exact h.all _ (List.getElem_mem hi)
theorem bF {a b:Int} {K:Value→Prop} (h: ∀x,F64 x→K (I x)):prP (bnI .mul (I a) (I b)) K:=CJ (v:=I (w64 (a*b))) rfl (h _ (oF _))
theorem WV {a:Int} {m:Nat} {K:Value→Prop} (hm:m<2^62) (h: ∀x:Int,0≤x→x≤m→K (I x)):prP (bnI .and (I a) (I m)) K:=by
 refine CJ (v:= .int .i64 (IntKind.i64.wrap (BitVec.ofInt 64 a&&& BitVec.ofInt 64 m).toNat)) rfl ?_
 have e:(BitVec.ofInt 64 a&&& BitVec.ofInt 64 (m:Int)).toNat≤m:=by
  rw [BitVec.toNat_and,BitVec.ofInt_natCast,BitVec.toNat_ofNat,Nat.mod_eq_of_lt (by omega)]
  exact Nat.and_le_right
 rw [NI ⟨by omega,by omega⟩]
 exact h _ (by omega) (by omega)
theorem oI {a b:Int} {K:Value→Prop} (h: ∀x:Int,K (I x)):prP (bnI .xor (I a) (I b)) K:=
 CJ (v:= .int .i64 (IntKind.i64.wrap (BitVec.ofInt 64 a^^^BitVec.ofInt 64 b).toNat)) rfl (h _)
theorem cP {a:Int} {n:Nat} {K:Value→Prop} (h: ∀x:Int,K (I x)):prP (bnI .shr (I a) (.int .u64 n)) K:=by
 have e:bnI .shr (I a) (.int .u64 (n:Int))=some (.int .i64 ((a:Int).fdiv (2^min (n:Int).toNat 64))):=by
  show (if (n:Int)<0 then none else _)=_
  rw [if_neg (by omega)];rfl
 rw [e];exact CJ rfl (h _)
theorem Y4 {L:List Int} {K:J2} (hb:SU L) (h: ∀z,K [iv 0,I z] []):cl2 ⟨Try.prog,w0⟩ 85 GQ.sg [] [tY L] K:=by
 have hL:=hb.len
 refine GQ.cl2 ?_
 unfold GQ.txt
 rw [dX]
 refine EB ⟨by omega,by omega⟩ ?_
 refine G7 (α:=Int×Nat) (fun q=>[I q.1,iv q.2]) (fun _=>[]) (fun q=>L.length-q.2) (fun q=>q.2≤L.length) (10101+(L.length:Int),0) rfl rfl (Nat.zero_le _) (fun R q hq hR=> ?_)
 obtain ⟨a,i⟩:=q
 simp only at hq hR
 simp only [AN,AV,AK,AM,AU,AH,AL,AW,AO,AR,AS,AQ,AT,AP,BQ,BU,BY,BX,BZ,BW,BT,A7,BA,BB,A9,BC,A8]
 refine A4 (BH (NV (fun hlt=> ?_) fun hge=>F7 hge rfl (B7 (h a))))
 refine A4 (GC hlt rfl (AY (fun h4=> ?_) fun _=>h a))
 have hlt:i<L.length:=by omega
 have hx:=hb.at hlt
 refine bF fun x _=>AG hlt (ldY hlt (bZ ⟨by omega,by omega⟩ (I4 (I4 (WV (m:=1073741823) (by omega) fun y _ _=>BD (by omega) ?_)))))
 exact hR (y,i+1) (by simp only;omega) (by simp only;omega)
theorem H8 {L:List Int} {i:Nat} {z:Int} {K:J2} (hb:SU L) (hi:i≤L.length) (h: ∀x i' z',0≤x→x≤255→i'≤L.length→K [I x,iv i',I z'] []):cl2 ⟨Try.prog,w0⟩ 151 DD.sg [iv i,I z] [tY L] K:=by
 have hL:=hb.len
 refine DD.cl2 ?_
 unfold DD.txt
 rw [dX]
 refine bF fun a _=>I4 (cP (n:=33) fun b=>cP (n:=45) fun c=>oI fun d=>WV (m:=255) (by omega) fun x h0 h1=>BV ?_)
 refine A4 (AY (fun hlt=> ?_) fun hge=> ?_)
 ·have hlt:i<L.length:=by omega
  have hx:=hb.at hlt
  refine AG hlt (ldY hlt (bZ ⟨by omega,by omega⟩ (EB ⟨by omega,by omega⟩ (WV (m:=255) (by omega) fun y y0 y1=>BD (by omega) ?_))))
  exact h y (i+1) _ y0 y1 (by omega)
 ·exact h x i _ h0 h1 hi
theorem DI {L:List Int} {i:Nat} {z n:Int} {K:J2} (hb:SU L) (hi:i≤L.length) (h: ∀x i' z',0≤x→(x<n∨(n≤0∧x=0))→i'≤L.length→K [I x,iv i',I z'] []):cl2 ⟨Try.prog,w0⟩ 112 BS.sg [iv i,I z,I n] [tY L] K:=by
 refine BS.cl2 ?_
 unfold BS.txt
 refine KO (AY (fun h0=>h 0 i z (by omega) (.inr ⟨h0,rfl⟩) hi) fun h0=>KO (AY (fun h1=> ?_) fun h1=> ?_))
 ·refine H8 hb hi fun x i' z' x0 x1 hi'=>ZN x0 (by omega) ?_
  exact h _ i' z' (Int.emod_nonneg _ (by omega)) (.inl (Int.emod_lt_of_pos _ (by omega))) hi'
 ·refine H8 hb hi fun x i1 z1 x0 x1 h1=>H8 hb h1 fun y i2 z2 y0 y1 h2=>H8 hb h2 fun u i3 z3 u0 u1 h3=>H8 hb h3 fun v i4 z4 v0 v1 h4=> ?_
  simp only [AN,AV,AK,AM,AU,AH,AL,AW,AO,AR,AS,AQ,AT,AP,BQ,BU,BY,BX,BZ,BW,BT,A7,BA,BB,A9,BC,A8]
  refine UI ⟨by omega,by omega⟩ (UI ⟨by omega,by omega⟩ (EB ⟨by omega,by omega⟩ (UI ⟨by omega,by omega⟩ (EB ⟨by omega,by omega⟩ (EB ⟨by omega,by omega⟩ (ZN (by omega) (by omega) ?_))))))
  exact h _ i4 z4 (Int.emod_nonneg _ (by omega)) (.inl (Int.emod_lt_of_pos _ (by omega))) h4
theorem P0 {L:List Int} {i:Nat} {z n:Int} {K:J2} (hb:SU L) (hi:i≤L.length) (h: ∀(b:Bool) i' z',i'≤L.length→K [.bool b,iv i',I z'] []):cl2 ⟨Try.prog,w0⟩ 95 E9.sg [iv i,I z,I n] [tY L] K:=
 E9.cl2 (DI hb hi fun x i' z' _ _ hi'=>BM (h _ i' z' hi'))
theorem H0 {L l:List Int} {i:Nat} {z:Int} {K:J2} (hb:SU L) (hi:i≤L.length) (hl:0<l.length) (h: ∀v∈l, ∀i' z',i'≤L.length→K [I v,iv i',I z'] []):cl2 ⟨Try.prog,w0⟩ 140 B1.sg [iv i,I z] [tY L,tI l] K:=by
 refine B1.cl2 ?_
 unfold B1.txt
 rw [AH]
 refine DI hb hi fun x i' z' x0 x1 hi'=> ?_
 simp only [AN,AV,AK,AM,AU,AH,AL,AW,AO,AR,AS,AQ,AT,AP,BQ,BU,BY,BX,BZ,BW,BT,A7,BA,BB,A9,BC,A8]
 have hx:x.toNat<l.length:=by omega
 refine V3 x0 (by omega) (ldI hx ?_)
 exact h _ (ER hx) i' z' hi'
theorem tU {l:List ByteArray} {i:Nat} (h:i<l.length):gS l i∈l:=by rw [←PV h];exact List.getElem_mem h
theorem P2 {L:List Int} {l:List ByteArray} {i:Nat} {z:Int} {K:J2} (hb:SU L) (hi:i≤L.length) (hl:0<l.length) (h: ∀v∈l, ∀i' z',i'≤L.length→K [.string v,iv i',I z'] []):cl2 ⟨Try.prog,w0⟩ 139 EF.sg [iv i,I z] [tY L,tS l] K:=by
 refine EF.cl2 ?_
 unfold EF.txt
 rw [AL]
 refine DI hb hi fun x i' z' x0 x1 hi'=> ?_
 simp only [AN,AV,AK,AM,AU,AH,AL,AW,AO,AR,AS,AQ,AT,AP,BQ,BU,BY,BX,BZ,BW,BT,A7,BA,BB,A9,BC,A8]
 have hx:x.toNat<l.length:=by omega
 refine V3 x0 (by omega) (ldS hx ?_)
 exact h _ (tU hx) i' z' hi'
def HE (l:List AE) (i:Nat):List Int:=if (i:Int)<8∧(ob l i).live=true then [B2 i (ob l i).gen] else []
def JD (l:List AE):List Int:=pick (HE l) l.length
theorem lN (l:List AE) (i:Nat):(HE l i).length≤1:=by unfold HE;split <;> simp
theorem bC {α:Type} {f:Nat→List α} {P:α→Prop} (h: ∀i, ∀x∈f i,P x): ∀n, ∀x∈pick f n,P x
 | 0,x,hx=>by simp [pick] at hx
 | n+1,x,hx=>by
   rw [pick] at hx
   rcases List.mem_append.1 hx with hx | hx
   ·exact bC h n x hx
   ·exact h n x hx
theorem nK (l:List AE): ∀x∈JD l, -1≤x∧x≤7999:=bC (fun i x hx=>by
 unfold HE at hx;split at hx
 ·rw [List.mem_singleton.1 hx];exact iH _ _
 ·cases hx) _
theorem UY {a:List AE} {b c d:List T} {K:J2} (hl:(a.length:Int)≤1048576) (h:K [] [tI (JD a)]):cl2 ⟨Try.prog,w0⟩ 30 EP.sg [] [tR tO a,b,c,d] K:=by
 refine EP.cl2 ?_
 unfold EP.txt
 refine BK (fun i=>[iv i]) (fun i=>[tI (pick (HE a) i)]) a.length (fun i=>i≤8) rfl rfl (by omega) (fun R i hi hP hR=> ?_)
 have hpl:=MQ (lN a) i
 have hstop:a.length≤i∨8≤i→K [] [tI (pick (HE a) i)]:=by
  intro hs
  have:pick (HE a) a.length=pick (HE a) i:=by
   rcases hs with hs | hs
   ·have:i=a.length:=by omega
    rw [this]
   ·exact YH (fun k hk=>by unfold HE;rw [if_neg];omega) _ hi
  rw [JD,this] at h;exact h
 simp only [AN,AV,AK,AM,AU,AH,AL,AW,AO,AR,AS,AQ,AT,AP,BQ,BU,BY,BX,BZ,BW,BT,A7,BA,BB,A9,BC,A8]
 refine A4 (BH (NV (fun hlt=> ?_) fun hge=> ?_))
 rotate_left
 ·exact F7 hge rfl (B7 (hstop (by omega)))
 refine A4 (GC hlt rfl (AY (fun h4=>BV ?_) fun h4=>hstop (by omega)))
 have hlt:i<a.length:=by omega
 have hR:=hR hlt (by omega)
 refine AG hlt (KL hlt rfl ?_)
 cases hv:(ob a i).live with
 | true=>
   have e:HE a i=[B2 i (ob a i).gen]:=by unfold HE;rw [if_pos ⟨by omega,hv⟩]
   refine CU (AG hlt (KC hlt (by decide) rfl (IP (GN rfl (by first | omega | (simp only [AN,AV,AK,AM,AU,AH,AL,AW,AO,AR,AS,AQ,AT,AP,BQ,BU,BY,BX,BZ,BW,BT,A7,BA,BB,A9,BC,A8];omega)) ?_))))
   simp only [AN,AV,AK,AM,AU,AH,AL,AW,AO,AR,AS,AQ,AT,AP,BQ,BU,BY,BX,BZ,BW,BT,A7,BA,BB,A9,BC,A8]
   rw [HV,qO e]
   exact BD (by omega) hR
 | false=>
   have e:HE a i=[]:=by unfold HE;rw [if_neg];rintro ⟨_,h⟩;rw [hv] at h;cases h
   refine B7 ?_
   simp only [AN,AV,AK,AM,AU,AH,AL,AW,AO,AR,AS,AQ,AT,AP,BQ,BU,BY,BX,BZ,BW,BT,A7,BA,BB,A9,BC,A8]
   rw [←lB e] at hR
   exact BD (by omega) hR
theorem OI {L:List Int} {i:Nat} {z:Int} {a:List AE} {b c d:List T} {K:J2} (hb:SU L) (hi:i≤L.length) (hl:(a.length:Int)≤1048576) (h: ∀v i' z', -1≤v→v≤7999→i'≤L.length→K [I v,iv i',I z'] []):cl2 ⟨Try.prog,w0⟩ 113 GB.sg [iv i,I z] [tY L,tR tO a,b,c,d] K:=by
 have hbd:=nK a
 refine GB.cl2 ?_
 unfold GB.txt
 refine UY hl ?_
 simp only [AN,AV,AK,AM,AU,AH,AL,AW,AO,AR,AS,AQ,AT,AP,BQ,BU,BY,BX,BZ,BW,BT,A7,BA,BB,A9,BC,A8]
 have pk6: ∀{i:Nat} {z:Int},i≤L.length→cl2 ⟨Try.prog,w0⟩ 140 B1.sg [iv i,I z] [tY L,[T.c (.int .i64 (-1)),T.c (.int .i64 0),T.c (.int .i64 8),T.c (.int .i64 9),T.c (.int .i64 17),T.c (.int .i64 4000)]] fun v7 d8=>K [nx v7 0,nx v7 1,nx v7 2] []:=fun hi=>by
  refine H0 (l:=[-1,0,8,9,17,4000]) hb hi (by simp) fun v hv i' z' hi'=> ?_
  have: -1≤v∧v≤7999:=by simp at hv;omega
  exact h v i' z' this.1 this.2 hi'
 refine BM (BH (Aa (fun hne=> ?_) fun he=> ?_))
 ·refine P0 hb hi fun b i' z' hi'=>F7 hne rfl (aP (fun _=>pk6 hi') fun _=> ?_)
  refine DI hb hi' fun x i2 z2 x0 x1 hi2=> ?_
  simp only [AN,AV,AK,AM,AU,AH,AL,AW,AO,AR,AS,AQ,AT,AP,BQ,BU,BY,BX,BZ,BW,BT,A7,BA,BB,A9,BC,A8]
  have hx:x.toNat<(JD a).length:=by omega
  have:=hbd _ (ER hx)
  exact V3 x0 (by omega) (ldI hx (h _ i2 z2 this.1 this.2 hi2))
 ·exact GC he rfl (CU (pk6 hi))
structure OpD (o:Op5):Prop where
 k:0≤o.kind∧o.kind≤11
 a: -1≤o.a∧o.a≤7999
 b: -1≤o.b∧o.b≤3
 c: -1≤o.c∧o.c≤7999
 s:o.site.size≤12
theorem OpD.f {o:Op5} (h:OpD o):OpF o:=⟨by have:=h.k;exact ⟨by omega,by omega⟩,by have:=h.a;exact ⟨by omega,by omega⟩,by have:=h.b;exact ⟨by omega,by omega⟩,by have:=h.c;exact ⟨by omega,by omega⟩,by have:=h.s;omega⟩
theorem bM {L:List Int} {i:Nat} {z:Int} {a:List AE} {b c d:List T} {K:J2} (hb:SU L) (hi:i≤L.length) (hl:(a.length:Int)≤1048576) (h: ∀(o:Op5) i' z',OpD o→i'≤L.length→K [I o.kind,I o.a,I o.b,I o.c, .string o.site,iv i',I z'] []):cl2 ⟨Try.prog,w0⟩ 128 HZ.sg [iv i,I z] [tY L,tR tO a,b,c,d] K:=by
 refine HZ.cl2 ?_
 unfold HZ.txt
 refine H0 (l:=[1,1,1,2,3,3,3,4,4,4,4,5,6,7,8,9,10,4]) hb hi (by simp) fun kd hkd i1 z1 h1=> ?_
 have hkd:0≤kd∧kd≤11:=by simp at hkd;omega
 have nil:(⟨#[]⟩:ByteArray).size≤12:=Nat.zero_le _
 have hK: ∀(o:Op5) i' z' (y1 y2 y3 y4 y5:Value),OpD o→i'≤L.length→cl2 ⟨Try.prog,w0⟩ 112 BS.sg [iv i',I z',I 50] [tY L] fun v34 d35=>
   prP (bnI .eql (nx v34 0) (.int .i64 0)) fun t49_36=>
   AJ t49_36 (cl2 ⟨Try.prog,w0⟩ 140 B1.sg [nx v34 1,nx v34 2] [tY L,[T.c (.int .i64 0),T.c (.int .i64 11)]] fun v37 d38=>K [nx v37 0,I o.a,I o.b,I o.c, .string o.site,nx v37 1,nx v37 2] []) (
   prP (bnI .eql (nx v34 0) (.int .i64 1)) fun t55_39=>
   AJ t55_39 (cl2 ⟨Try.prog,w0⟩ 140 B1.sg [nx v34 1,nx v34 2] [tY L,[T.c (.int .i64 (-1)),T.c (.int .i64 3)]] fun v40 d41=>K [I o.kind,I o.a,nx v40 0,I o.c, .string o.site,nx v40 1,nx v40 2] []) (
   prP (bnI .eql (nx v34 0) (.int .i64 2)) fun t61_42=>
   AJ t61_42 (cl2 ⟨Try.prog,w0⟩ 139 EF.sg [nx v34 1,nx v34 2] [tY L,[T.c (.string {data:= #[]}),T.c (.string {data:= #[116,111,111,108,111,110,103,97,115,105,116,101]}),T.c (.string {data:= #[115,49]}),T.c (.string {data:= #[115,50]}),T.c (.string {data:= #[115,51]}),T.c (.string {data:= #[115,52]}),T.c (.string {data:= #[115,53]})]] fun v43 d44=>K [I o.kind,I o.a,I o.b,I o.c,nx v43 0,nx v43 1,nx v43 2] [])
    (K [I o.kind,I o.a,I o.b,I o.c, .string o.site,nx v34 1,nx v34 2] []))):=by
  intro o i' z' _ _ _ _ _ ho hi'
  refine DI hb hi' fun x i2 z2 x0 x1 h2=> ?_
  refine BM (AY (fun _=> ?_) fun _=>BM (AY (fun _=> ?_) fun _=>BM (AY (fun _=> ?_) fun _=>h o i2 z2 ho h2)))
  ·refine H0 (l:=[0,11]) hb h2 (by simp) fun v hv i3 z3 h3=> ?_
   exact h ⟨v,o.a,o.b,o.c,o.site⟩ i3 z3 ⟨by simp at hv;simp only;omega,ho.a,ho.b,ho.c,ho.s⟩ h3
  ·refine H0 (l:=[-1,3]) hb h2 (by simp) fun v hv i3 z3 h3=> ?_
   exact h ⟨o.kind,o.a,v,o.c,o.site⟩ i3 z3 ⟨ho.k,ho.a,by simp at hv;simp only;omega,ho.c,ho.s⟩ h3
  ·refine P2 (l:=[⟨#[]⟩,⟨#[116,111,111,108,111,110,103,97,115,105,116,101]⟩,⟨#[115,49]⟩,⟨#[115,50]⟩,⟨#[115,51]⟩,⟨#[115,52]⟩,⟨#[115,53]⟩]) hb h2 (by simp) fun v hv i3 z3 h3=> ?_
   refine h ⟨o.kind,o.a,o.b,o.c,v⟩ i3 z3 ⟨ho.k,ho.a,ho.b,ho.c, ?_⟩ h3
   simp only [List.mem_cons,List.not_mem_nil,or_false] at hv
   rcases hv with rfl | rfl | rfl | rfl | rfl | rfl | rfl <;> (simp only;decide)
 refine BV ?_
 refine BM (AY (fun _=> ?_) fun _=>BM (AY (fun _=> ?_) fun _=>BV ?_))
 ·refine P2 (l:=[⟨#[97]⟩,⟨#[98]⟩,⟨#[108,105,115,116]⟩,⟨#[110,111,100,101]⟩]) hb h1 (by simp) fun v hv i3 z3 h3=>BV ?_
  refine hK ⟨kd,0,0,0,v⟩ i3 z3 (I 0) (I 0) (I 0) (I 0) (I 0) ⟨hkd,by simp only;omega,by simp only;omega,by simp only;omega, ?_⟩ h3
  simp only [List.mem_cons,List.not_mem_nil,or_false] at hv
  rcases hv with rfl | rfl | rfl | rfl <;> (simp only;decide)
 ·refine OI hb h1 hl fun x i2 z2 x0 x1 h2=>DI hb h2 fun y i3 z3 y0 y1 h3=>OI hb h3 hl fun u i4 z4 u0 u1 h4=>P0 hb h4 fun b i5 z5 h5=>aP (fun _=>BV ?_) fun _=>BV ?_
  ·exact hK ⟨kd,x,y, -1,⟨#[]⟩⟩ i5 z5 (I 0) (I 0) (I 0) (I 0) (I 0) ⟨hkd,⟨x0,x1⟩,by simp only;omega,by simp only;omega,nil⟩ h5
  ·exact hK ⟨kd,x,y,u,⟨#[]⟩⟩ i5 z5 (I 0) (I 0) (I 0) (I 0) (I 0) ⟨hkd,⟨x0,x1⟩,by simp only;omega,⟨u0,u1⟩,nil⟩ h5
 ·refine BM (AY (fun e8=> ?_) fun n8=>BM ?_)
  ·refine FQ e8 (DI hb h1 fun x i2 z2 x0 x1 h2=>BV ?_)
   exact hK ⟨kd,x,0,0,⟨#[]⟩⟩ i2 z2 (I 0) (I 0) (I 0) (I 0) (I 0) ⟨hkd,by simp only;omega,by simp only;omega,by simp only;omega,nil⟩ h2
  ·by_cases e9:kd=9
   ·refine FQ e9 (DI hb h1 fun x i2 z2 x0 x1 h2=>BV ?_)
    exact hK ⟨kd,x,0,0,⟨#[]⟩⟩ i2 z2 (I 0) (I 0) (I 0) (I 0) (I 0) ⟨hkd,by simp only;omega,by simp only;omega,by simp only;omega,nil⟩ h2
   ·refine F9 e9 (BM (AY (fun _=>BV ?_) fun _=>OI hb h1 hl fun x i2 z2 x0 x1 h2=>BV ?_))
    ·exact hK ⟨kd,0,0,0,⟨#[]⟩⟩ i1 z1 (I 0) (I 0) (I 0) (I 0) (I 0) ⟨hkd,by simp only;omega,by simp only;omega,by simp only;omega,nil⟩ h1
    ·exact hK ⟨kd,x,0,0,⟨#[]⟩⟩ i2 z2 (I 0) (I 0) (I 0) (I 0) (I 0) ⟨hkd,⟨x0,x1⟩,by simp only;omega,by simp only;omega,nil⟩ h2
theorem ZI {L:List Int} {i m:Nat} {z:Int} {K:J2} (hb:SU L) (hi:i≤L.length) (hm:m≤1000) (h: ∀(l:List Op5) i' z',l.length≤m→(∀o∈l,OpD o)→i'≤L.length→K [iv i',I z'] [tR tP l]):cl2 ⟨Try.prog,w0⟩ 108 GS.sg [iv i,I z,I m] [tY L] K:=by
 refine GS.cl2 ?_
 unfold GS.txt
 refine OB (EB ⟨by omega,by omega⟩ (DI hb hi fun x i1 z1 x0 x1 h1=> ?_))
 obtain ⟨n,rfl⟩: ∃n:Nat,x=n:=⟨x.toNat,by omega⟩
 simp only [AN,AV,AK,AM,AU,AH,AL,AW,AO,AR,AS,AQ,AT,AP,BQ,BU,BY,BX,BZ,BW,BT,A7,BA,BB,A9,BC,A8]
 refine G7 (α:=Nat×Nat×Int×List Op5×Hp) (fun q=>[iv q.1,iv q.2.1,I q.2.2.1]) (fun q=>[tR tP q.2.2.2.1,tR tO q.2.2.2.2.AD,tR tW q.2.2.2.2.B6,tI q.2.2.2.2.buffer,tS q.2.2.2.2.sites]) (fun q=>q.1) (fun q=>q.1+q.2.2.2.1.length≤m∧q.2.1≤L.length∧(∀o∈q.2.2.2.1,OpD o)∧BO q.2.2.2.2) (n,i1,z1,[],hp0) rfl rfl ⟨by simp;omega,h1,by simp,nA⟩ (fun R q hq hR=> ?_)
 obtain ⟨n,i,z,l,hp⟩:=q
 obtain ⟨q1,q2,q3,q4⟩:=hq
 simp only at q1 q2 q3 q4
 have ol:=q4.ol
 simp only [AN,AV,AK,AM,AU,AH,AL,AW,AO,AR,AS,AQ,AT,AP,BQ,BU,BY,BX,BZ,BW,BT,A7,BA,BB,A9,BC,A8]
 refine KJ (AY (fun hgt=> ?_) fun hle=> ?_)
 ·have hgt:0<n:=by omega
  refine bM hb q2 (by omega) fun o i2 z2 ho h2=> ?_
  simp only [AN,AV,AK,AM,AU,AH,AL,AW,AO,AR,AS,AQ,AT,AP,BQ,BU,BY,BX,BZ,BW,BT,A7,BA,BB,A9,BC,A8]
  refine RX q4.fits q4.lT ho.f.a ho.f.c ?_
  rw [ON q4]
  refine GN rfl (by first | omega | (simp only [AN,AV,AK,AM,AU,AH,AL,AW,AO,AR,AS,AQ,AT,AP,BQ,BU,BY,BX,BZ,BW,BT,A7,BA,BB,A9,BC,A8];omega)) (F8 ⟨by omega,by omega⟩ ?_)
  have hR:=hR (n-1,i2,z2,l++[o],(CG hp o).1) ⟨by simp;omega,h2,fun x hx=> ?_,q4.step⟩ (by simp only;omega)
  ·rw [show (n:Int)-1=((n-1:Nat):Int) from by omega,tQ]
   exact hR
  ·rcases List.mem_append.1 hx with hx | hx
   ·exact q3 x hx
   ·rw [List.mem_singleton.1 hx];exact ho
 ·exact h l i z (by omega) q3 q2
end Go.Proofs.Ytklmcfpgdfibnaa.P
