/- A part of the proof. -/
import Derived.Test.YtklmcfpgdfibnaaGgHpFa
namespace Go.Proofs.Ytklmcfpgdfibnaa.P
open Go Go.Proofs.Ytklmcfpgdfibnaa Go.Proofs.Ytklmcfpgdfibnaa.Eng
set_option linter.unusedVariables false
theorem ZG (s g:Int): -1≤CA s g∧CA s g≤7999:=by unfold CA;split <;> omega
structure bM (h:Hp) (r:Hp×An):Prop where
 code:0≤r.2.code∧r.2.code≤6
 val: -1≤r.2.val∧r.2.val≤7999
 ref:r.2.code≠0→r.1=h∧r.2.freed=[]
 fr: ∀x∈r.2.freed,0≤AA h.AD x∧AA r.1.AD x<0
 nd:r.2.freed.Nodup
 len:r.2.freed.length≤8
theorem bM.plain {h h':Hp} {c v:Int} (hc:0≤c∧c≤6) (hv: -1≤v∧v≤7999) (hr:c≠0→h'=h):bM h (h',⟨c,v,[]⟩):=⟨hc,hv,fun hh=>⟨hr hh,rfl⟩,by simp,List.nodup_nil,by simp⟩
theorem M7.slot {a b:List AG} (h:M7 a b) (x:Int):AA b x=AA a x:=DZ h.1 fun i _=>⟨(h.2 i).1,(h.2 i).2.1⟩
theorem Mid.step {h:Hp} {r:List AG×List Int×An} (m:Mid h.AD h.sites.length h.buffer r):bM h (⟨r.1,h.B2,r.2.1,h.sites⟩,r.2.2):=by
 rcases m with ⟨c,hc,rfl⟩ | ⟨os1,h1,_,_,rfl⟩ | ⟨os1,x,h1,hs,_,rfl⟩
 ·exact bM.plain ⟨by omega,by omega⟩ (by omega) fun _=>rfl
 ·exact bM.plain (by decide) (by omega) fun hh=>absurd rfl hh
 ·have R:=hU h1
  have h8:=Y3 h1.ol
  have hct:=R.ct
  refine ⟨⟨by simp [N9],by simp [N9]⟩,⟨by simp [N9],by simp [N9]⟩,fun hh=>absurd rfl hh,fun x hx=> ?_,R.nd,by simp only [N9];omega⟩
  obtain ⟨a,b⟩:=(R.fr x).1 hx
  rw [hs.slot] at a
  exact ⟨a,b⟩
end Go.Proofs.Ytklmcfpgdfibnaa.P
namespace Go.Proofs.Ytklmcfpgdfibnaa.P
open Go Go.Proofs.Ytklmcfpgdfibnaa Go.Proofs.Ytklmcfpgdfibnaa.Eng
set_option linter.unusedVariables false
set_option maxHeartbeats 4000000
set_option linter.unusedVariables false
set_option linter.unusedSimpArgs false
attribute [local irreducible] prP gP gE gF AV ixW ldc ldg ldl stc stg scW mkW apW BC cl2 BS CU B1
variable {w0:World}
def tY (l:List Int):List T:=l.map fun n=> .c (.int .u8 n)
structure QU (l:List Int):Prop where
 len:(l.length:Int)<2^62
 all: ∀x∈l,0≤x∧x≤255
theorem dN (l:List Int):cnt 1 (tY l)=l.length:=by simp [cnt,tY]
theorem ldY {l:List Int} {i:Nat} {K:Value→Prop} (hi:i<l.length) (h:K (.int .u8 (gI l i))):ldc (tY l) [] (AB (iv i)*1) K:=by
 rw [←CN hi] at h
 exact lV (by rw [AW];simp [tY,hi]) h
theorem QU.at {l:List Int} (h:QU l) {i:Nat} (hi:i<l.length):0≤gI l i∧gI l i≤255:=by rw [←CN hi];exact h.all _ (List.getElem_mem hi)
theorem b8 {a b:Int} {K:Value→Prop} (h: ∀x,F64 x→K (I x)):prP (bnI .mul (I a) (I b)) K:=CM (v:=I (w64 (a*b))) rfl (h _ (o4 _))
theorem VH {a:Int} {m:Nat} {K:Value→Prop} (hm:m<2^62) (h: ∀x:Int,0≤x→x≤m→K (I x)):prP (bnI .and (I a) (I m)) K:=by
 refine CM (v:= .int .i64 (IntKind.i64.wrap (BitVec.ofInt 64 a&&& BitVec.ofInt 64 m).toNat)) rfl ?_
 have e:(BitVec.ofInt 64 a&&& BitVec.ofInt 64 (m:Int)).toNat≤m:=by
  rw [BitVec.toNat_and,BitVec.ofInt_natCast,BitVec.toNat_ofNat,Nat.mod_eq_of_lt (by omega)]
  exact Nat.and_le_right
 rw [NX ⟨by omega,by omega⟩]
 exact h _ (by omega) (by omega)
theorem oU {a b:Int} {K:Value→Prop} (h: ∀x:Int,K (I x)):prP (bnI .xor (I a) (I b)) K:=
 CM (v:= .int .i64 (IntKind.i64.wrap (BitVec.ofInt 64 a^^^BitVec.ofInt 64 b).toNat)) rfl (h _)
theorem bW {a:Int} {n:Nat} {K:Value→Prop} (h: ∀x:Int,K (I x)):prP (bnI .shr (I a) (.int .u64 n)) K:=by
 have e:bnI .shr (I a) (.int .u64 (n:Int))=some (.int .i64 ((a:Int).fdiv (2^min (n:Int).toNat 64))):=by
  show (if (n:Int)<0 then none else _)=_
  rw [if_neg (by omega)];rfl
 rw [e];exact CM rfl (h _)
theorem Z6 {L:List Int} {K:J2} (hb:QU L) (h: ∀z,K [iv 0,I z] []):cl2 ⟨Try.prog,w0⟩ 85 GY.sg [] [tY L] K:=by
 have hL:=hb.len
 refine GY.cl2 ?_
 unfold GY.txt
 rw [dN]
 refine FY ⟨by omega,by omega⟩ ?_
 refine EY (α:=Int×Nat) (fun q=>[I q.1,iv q.2]) (fun _=>[]) (fun q=>L.length-q.2) (fun q=>q.2≤L.length) (10101+(L.length:Int),0) rfl rfl (Nat.zero_le _) (fun R q hq hR=> ?_)
 obtain ⟨a,i⟩:=q
 simp only at hq hR
 simp only [AK,AO,AL,AM,AT,AE,AJ,AI,AR,AQ,AN,AU,AP,AS,BG,BO,BL,BN,BM,BP,BK,A5,A6,A8,AZ,A7,A4]
 refine BA (BD (MU (fun hlt=> ?_) fun hge=>EW hge rfl (B4 (h a))))
 refine BA (ER hlt rfl (A9 (fun h4=> ?_) fun _=>h a))
 have hlt:i<L.length:=by omega
 have hx:=hb.at hlt
 refine b8 fun x _=>AH hlt (ldY hlt (bX ⟨by omega,by omega⟩ (JB (JB (VH (m:=1073741823) (by omega) fun y _ _=>BB (by omega) ?_)))))
 exact hR (y,i+1) (by simp only;omega) (by simp only;omega)
theorem IC {L:List Int} {i:Nat} {z:Int} {K:J2} (hb:QU L) (hi:i≤L.length) (h: ∀x i' z',0≤x→x≤255→i'≤L.length→K [I x,iv i',I z'] []):cl2 ⟨Try.prog,w0⟩ 151 DH.sg [iv i,I z] [tY L] K:=by
 have hL:=hb.len
 refine DH.cl2 ?_
 unfold DH.txt
 rw [dN]
 refine b8 fun a _=>JB (bW (n:=33) fun b=>bW (n:=45) fun c=>oU fun d=>VH (m:=255) (by omega) fun x h0 h1=>BX ?_)
 refine BA (A9 (fun hlt=> ?_) fun hge=> ?_)
 ·have hlt:i<L.length:=by omega
  have hx:=hb.at hlt
  refine AH hlt (ldY hlt (bX ⟨by omega,by omega⟩ (FY ⟨by omega,by omega⟩ (VH (m:=255) (by omega) fun y y0 y1=>BB (by omega) ?_))))
  exact h y (i+1) _ y0 y1 (by omega)
 ·exact h x i _ h0 h1 hi
theorem CP {L:List Int} {i:Nat} {z n:Int} {K:J2} (hb:QU L) (hi:i≤L.length) (h: ∀x i' z',0≤x→(x<n∨(n≤0∧x=0))→i'≤L.length→K [I x,iv i',I z'] []):cl2 ⟨Try.prog,w0⟩ 112 BV.sg [iv i,I z,I n] [tY L] K:=by
 refine BV.cl2 ?_
 unfold BV.txt
 refine J3 (A9 (fun h0=>h 0 i z (by omega) (.inr ⟨h0,rfl⟩) hi) fun h0=>J3 (A9 (fun h1=> ?_) fun h1=> ?_))
 ·refine IC hb hi fun x i' z' x0 x1 hi'=>UP x0 (by omega) ?_
  exact h _ i' z' (Int.emod_nonneg _ (by omega)) (.inl (Int.emod_lt_of_pos _ (by omega))) hi'
 ·refine IC hb hi fun x i1 z1 x0 x1 h1=>IC hb h1 fun y i2 z2 y0 y1 h2=>IC hb h2 fun u i3 z3 u0 u1 h3=>IC hb h3 fun v i4 z4 v0 v1 h4=> ?_
  simp only [AK,AO,AL,AM,AT,AE,AJ,AI,AR,AQ,AN,AU,AP,AS,BG,BO,BL,BN,BM,BP,BK,A5,A6,A8,AZ,A7,A4]
  refine RU ⟨by omega,by omega⟩ (RU ⟨by omega,by omega⟩ (FY ⟨by omega,by omega⟩ (RU ⟨by omega,by omega⟩ (FY ⟨by omega,by omega⟩ (FY ⟨by omega,by omega⟩ (UP (by omega) (by omega) ?_))))))
  exact h _ i4 z4 (Int.emod_nonneg _ (by omega)) (.inl (Int.emod_lt_of_pos _ (by omega))) h4
theorem ML {L:List Int} {i:Nat} {z n:Int} {K:J2} (hb:QU L) (hi:i≤L.length) (h: ∀(b:Bool) i' z',i'≤L.length→K [.bool b,iv i',I z'] []):cl2 ⟨Try.prog,w0⟩ 95 D4.sg [iv i,I z,I n] [tY L] K:=
 D4.cl2 (CP hb hi fun x i' z' _ _ hi'=>BZ (h _ i' z' hi'))
theorem FH {L l:List Int} {i:Nat} {z:Int} {K:J2} (hb:QU L) (hi:i≤L.length) (hl:0<l.length) (h: ∀v∈l, ∀i' z',i'≤L.length→K [I v,iv i',I z'] []):cl2 ⟨Try.prog,w0⟩ 140 BY.sg [iv i,I z] [tY L,tI l] K:=by
 refine BY.cl2 ?_
 unfold BY.txt
 rw [AE]
 refine CP hb hi fun x i' z' x0 x1 hi'=> ?_
 simp only [AK,AO,AL,AM,AT,AE,AJ,AI,AR,AQ,AN,AU,AP,AS,BG,BO,BL,BN,BM,BP,BK,A5,A6,A8,AZ,A7,A4]
 have hx:x.toNat<l.length:=by omega
 refine TL x0 (by omega) (ldI hx ?_)
 exact h _ (CH hx) i' z' hi'
theorem qK {l:List ByteArray} {i:Nat} (h:i<l.length):gS l i∈l:=by rw [←RQ h];exact List.getElem_mem h
theorem MN {L:List Int} {l:List ByteArray} {i:Nat} {z:Int} {K:J2} (hb:QU L) (hi:i≤L.length) (hl:0<l.length) (h: ∀v∈l, ∀i' z',i'≤L.length→K [.string v,iv i',I z'] []):cl2 ⟨Try.prog,w0⟩ 139 DI.sg [iv i,I z] [tY L,tS l] K:=by
 refine DI.cl2 ?_
 unfold DI.txt
 rw [AJ]
 refine CP hb hi fun x i' z' x0 x1 hi'=> ?_
 simp only [AK,AO,AL,AM,AT,AE,AJ,AI,AR,AQ,AN,AU,AP,AS,BG,BO,BL,BN,BM,BP,BK,A5,A6,A8,AZ,A7,A4]
 have hx:x.toNat<l.length:=by omega
 refine TL x0 (by omega) (ldS hx ?_)
 exact h _ (qK hx) i' z' hi'
def F9 (l:List AG) (i:Nat):List Int:=if (i:Int)<8∧(ob l i).live=true then [CA i (ob l i).gen] else []
def CD (l:List AG):List Int:=pick (F9 l) l.length
theorem SP (l:List AG) (i:Nat):(F9 l i).length≤1:=by unfold F9;split <;> simp
theorem cG {α:Type} {f:Nat→List α} {P:α→Prop} (h: ∀i, ∀x∈f i,P x): ∀n, ∀x∈pick f n,P x
 | 0,x,hx=>by simp [pick] at hx
 | n+1,x,hx=>by
   rw [pick] at hx
   rcases List.mem_append.1 hx with hx | hx
   ·exact cG h n x hx
   ·exact h n x hx
theorem oP (l:List AG): ∀x∈CD l, -1≤x∧x≤7999:=cG (fun i x hx=>by
 unfold F9 at hx;split at hx
 ·rw [List.mem_singleton.1 hx];exact ZG _ _
 ·cases hx) _
theorem NG (l:List AG):(CD l).length≤l.length:=KY (SP l) _
theorem I7 {a:List AG} {b c d:List T} {K:J2} (hl:(a.length:Int)≤1048576) (h:K [] [tI (CD a)]):cl2 ⟨Try.prog,w0⟩ 30 CW.sg [] [tR tO a,b,c,d] K:=by
 refine CW.cl2 ?_
 unfold CW.txt
 refine BF (fun i=>[iv i]) (fun i=>[tI (pick (F9 a) i)]) a.length (fun i=>i≤8) rfl rfl (by omega) (fun R i hi hP hR=> ?_)
 have hpl:=KY (SP a) i
 have hstop:a.length≤i∨8≤i→K [] [tI (pick (F9 a) i)]:=by
  intro hs
  have:pick (F9 a) a.length=pick (F9 a) i:=by
   rcases hs with hs | hs
   ·have:i=a.length:=by omega
    rw [this]
   ·exact YF (fun k hk=>by unfold F9;rw [if_neg];omega) _ hi
  rw [CD,this] at h;exact h
 simp only [AK,AO,AL,AM,AT,AE,AJ,AI,AR,AQ,AN,AU,AP,AS,BG,BO,BL,BN,BM,BP,BK,A5,A6,A8,AZ,A7,A4]
 refine BA (BD (MU (fun hlt=> ?_) fun hge=> ?_))
 rotate_left
 ·exact EW hge rfl (B4 (hstop (by omega)))
 refine BA (ER hlt rfl (A9 (fun h4=>BX ?_) fun h4=>hstop (by omega)))
 have hlt:i<a.length:=by omega
 have hR:=hR hlt (by omega)
 refine AH hlt (LY hlt rfl ?_)
 cases hv:(ob a i).live with
 | true=>
   have e:F9 a i=[CA i (ob a i).gen]:=by unfold F9;rw [if_pos ⟨by omega,hv⟩]
   refine CG (AH hlt (KJ hlt (by decide) rfl (HN (D9 rfl (by first | omega | (simp only [AK,AO,AL,AM,AT,AE,AJ,AI,AR,AQ,AN,AU,AP,AS,BG,BO,BL,BN,BM,BP,BK,A5,A6,A8,AZ,A7,A4];omega)) ?_))))
   simp only [AK,AO,AL,AM,AT,AE,AJ,AI,AR,AQ,AN,AU,AP,AS,BG,BO,BL,BN,BM,BP,BK,A5,A6,A8,AZ,A7,A4]
   rw [DS,b9 e]
   exact BB (by omega) hR
 | false=>
   have e:F9 a i=[]:=by unfold F9;rw [if_neg];rintro ⟨_,h⟩;rw [hv] at h;cases h
   refine B4 ?_
   simp only [AK,AO,AL,AM,AT,AE,AJ,AI,AR,AQ,AN,AU,AP,AS,BG,BO,BL,BN,BM,BP,BK,A5,A6,A8,AZ,A7,A4]
   rw [←S8 e] at hR
   exact BB (by omega) hR
theorem OI {L:List Int} {i:Nat} {z:Int} {a:List AG} {b c d:List T} {K:J2} (hb:QU L) (hi:i≤L.length) (hl:(a.length:Int)≤1048576) (h: ∀v i' z', -1≤v→v≤7999→i'≤L.length→K [I v,iv i',I z'] []):cl2 ⟨Try.prog,w0⟩ 113 GH.sg [iv i,I z] [tY L,tR tO a,b,c,d] K:=by
 have hbd:=oP a
 refine GH.cl2 ?_
 unfold GH.txt
 refine I7 hl ?_
 simp only [AK,AO,AL,AM,AT,AE,AJ,AI,AR,AQ,AN,AU,AP,AS,BG,BO,BL,BN,BM,BP,BK,A5,A6,A8,AZ,A7,A4]
 have pk6: ∀{i:Nat} {z:Int},i≤L.length→cl2 ⟨Try.prog,w0⟩ 140 BY.sg [iv i,I z] [tY L,[T.c (.int .i64 (-1)),T.c (.int .i64 0),T.c (.int .i64 8),T.c (.int .i64 9),T.c (.int .i64 17),T.c (.int .i64 4000)]] fun v7 d8=>K [nx v7 0,nx v7 1,nx v7 2] []:=fun hi=>by
  refine FH (l:=[-1,0,8,9,17,4000]) hb hi (by simp) fun v hv i' z' hi'=> ?_
  have: -1≤v∧v≤7999:=by simp at hv;omega
  exact h v i' z' this.1 this.2 hi'
 refine BZ (BD (yA (fun hne=> ?_) fun he=> ?_))
 ·refine ML hb hi fun b i' z' hi'=>EW hne rfl (VO (fun _=>pk6 hi') fun _=> ?_)
  refine CP hb hi' fun x i2 z2 x0 x1 hi2=> ?_
  simp only [AK,AO,AL,AM,AT,AE,AJ,AI,AR,AQ,AN,AU,AP,AS,BG,BO,BL,BN,BM,BP,BK,A5,A6,A8,AZ,A7,A4]
  have hx:x.toNat<(CD a).length:=by omega
  have:=hbd _ (CH hx)
  exact TL x0 (by omega) (ldI hx (h _ i2 z2 this.1 this.2 hi2))
 ·exact ER he rfl (CG (pk6 hi))
structure OpD (o:Op5):Prop where
 k:0≤o.kind∧o.kind≤11
 a: -1≤o.a∧o.a≤7999
 b: -1≤o.b∧o.b≤3
 c: -1≤o.c∧o.c≤7999
 s:o.site.size≤12
theorem OpD.f {o:Op5} (h:OpD o):OpF o:=⟨by have:=h.k;exact ⟨by omega,by omega⟩,by have:=h.a;exact ⟨by omega,by omega⟩,by have:=h.b;exact ⟨by omega,by omega⟩,by have:=h.c;exact ⟨by omega,by omega⟩,by have:=h.s;omega⟩
theorem cE {L:List Int} {i:Nat} {z:Int} {a:List AG} {b c d:List T} {K:J2} (hb:QU L) (hi:i≤L.length) (hl:(a.length:Int)≤1048576) (h: ∀(o:Op5) i' z',OpD o→i'≤L.length→K [I o.kind,I o.a,I o.b,I o.c, .string o.site,iv i',I z'] []):cl2 ⟨Try.prog,w0⟩ 128 HV.sg [iv i,I z] [tY L,tR tO a,b,c,d] K:=by
 refine HV.cl2 ?_
 unfold HV.txt
 refine FH (l:=[1,1,1,2,3,3,3,4,4,4,4,5,6,7,8,9,10,4]) hb hi (by simp) fun kd hkd i1 z1 h1=> ?_
 have hkd:0≤kd∧kd≤11:=by simp at hkd;omega
 have nil:(⟨#[]⟩:ByteArray).size≤12:=Nat.zero_le _
 have hK: ∀(o:Op5) i' z' (y1 y2 y3 y4 y5:Value),OpD o→i'≤L.length→cl2 ⟨Try.prog,w0⟩ 112 BV.sg [iv i',I z',I 50] [tY L] fun v34 d35=>
   prP (bnI .eql (nx v34 0) (.int .i64 0)) fun t49_36=>
   AV t49_36 (cl2 ⟨Try.prog,w0⟩ 140 BY.sg [nx v34 1,nx v34 2] [tY L,[T.c (.int .i64 0),T.c (.int .i64 11)]] fun v37 d38=>K [nx v37 0,I o.a,I o.b,I o.c, .string o.site,nx v37 1,nx v37 2] []) (
   prP (bnI .eql (nx v34 0) (.int .i64 1)) fun t55_39=>
   AV t55_39 (cl2 ⟨Try.prog,w0⟩ 140 BY.sg [nx v34 1,nx v34 2] [tY L,[T.c (.int .i64 (-1)),T.c (.int .i64 3)]] fun v40 d41=>K [I o.kind,I o.a,nx v40 0,I o.c, .string o.site,nx v40 1,nx v40 2] []) (
   prP (bnI .eql (nx v34 0) (.int .i64 2)) fun t61_42=>
   AV t61_42 (cl2 ⟨Try.prog,w0⟩ 139 DI.sg [nx v34 1,nx v34 2] [tY L,[T.c (.string {data:= #[]}),T.c (.string {data:= #[116,111,111,108,111,110,103,97,115,105,116,101]}),T.c (.string {data:= #[115,49]}),T.c (.string {data:= #[115,50]}),T.c (.string {data:= #[115,51]}),T.c (.string {data:= #[115,52]}),T.c (.string {data:= #[115,53]})]] fun v43 d44=>K [I o.kind,I o.a,I o.b,I o.c,nx v43 0,nx v43 1,nx v43 2] [])
    (K [I o.kind,I o.a,I o.b,I o.c, .string o.site,nx v34 1,nx v34 2] []))):=by
  intro o i' z' _ _ _ _ _ ho hi'
  refine CP hb hi' fun x i2 z2 x0 x1 h2=> ?_
  refine BZ (A9 (fun _=> ?_) fun _=>BZ (A9 (fun _=> ?_) fun _=>BZ (A9 (fun _=> ?_) fun _=>h o i2 z2 ho h2)))
  ·refine FH (l:=[0,11]) hb h2 (by simp) fun v hv i3 z3 h3=> ?_
   exact h ⟨v,o.a,o.b,o.c,o.site⟩ i3 z3 ⟨by simp at hv;simp only;omega,ho.a,ho.b,ho.c,ho.s⟩ h3
  ·refine FH (l:=[-1,3]) hb h2 (by simp) fun v hv i3 z3 h3=> ?_
   exact h ⟨o.kind,o.a,v,o.c,o.site⟩ i3 z3 ⟨ho.k,ho.a,by simp at hv;simp only;omega,ho.c,ho.s⟩ h3
  ·refine MN (l:=[⟨#[]⟩,⟨#[116,111,111,108,111,110,103,97,115,105,116,101]⟩,⟨#[115,49]⟩,⟨#[115,50]⟩,⟨#[115,51]⟩,⟨#[115,52]⟩,⟨#[115,53]⟩]) hb h2 (by simp) fun v hv i3 z3 h3=> ?_
   refine h ⟨o.kind,o.a,o.b,o.c,v⟩ i3 z3 ⟨ho.k,ho.a,ho.b,ho.c, ?_⟩ h3
   simp only [List.mem_cons,List.not_mem_nil,or_false] at hv
   rcases hv with rfl | rfl | rfl | rfl | rfl | rfl | rfl <;> (simp only;decide)
 refine BX ?_
 refine BZ (A9 (fun _=> ?_) fun _=>BZ (A9 (fun _=> ?_) fun _=>BX ?_))
 ·refine MN (l:=[⟨#[97]⟩,⟨#[98]⟩,⟨#[108,105,115,116]⟩,⟨#[110,111,100,101]⟩]) hb h1 (by simp) fun v hv i3 z3 h3=>BX ?_
  refine hK ⟨kd,0,0,0,v⟩ i3 z3 (I 0) (I 0) (I 0) (I 0) (I 0) ⟨hkd,by simp only;omega,by simp only;omega,by simp only;omega, ?_⟩ h3
  simp only [List.mem_cons,List.not_mem_nil,or_false] at hv
  rcases hv with rfl | rfl | rfl | rfl <;> (simp only;decide)
 ·refine OI hb h1 hl fun x i2 z2 x0 x1 h2=>CP hb h2 fun y i3 z3 y0 y1 h3=>OI hb h3 hl fun u i4 z4 u0 u1 h4=>ML hb h4 fun b i5 z5 h5=>VO (fun _=>BX ?_) fun _=>BX ?_
  ·exact hK ⟨kd,x,y, -1,⟨#[]⟩⟩ i5 z5 (I 0) (I 0) (I 0) (I 0) (I 0) ⟨hkd,⟨x0,x1⟩,by simp only;omega,by simp only;omega,nil⟩ h5
  ·exact hK ⟨kd,x,y,u,⟨#[]⟩⟩ i5 z5 (I 0) (I 0) (I 0) (I 0) (I 0) ⟨hkd,⟨x0,x1⟩,by simp only;omega,⟨u0,u1⟩,nil⟩ h5
 ·refine BZ (A9 (fun e8=> ?_) fun n8=>BZ ?_)
  ·refine FT e8 (CP hb h1 fun x i2 z2 x0 x1 h2=>BX ?_)
   exact hK ⟨kd,x,0,0,⟨#[]⟩⟩ i2 z2 (I 0) (I 0) (I 0) (I 0) (I 0) ⟨hkd,by simp only;omega,by simp only;omega,by simp only;omega,nil⟩ h2
  ·by_cases e9:kd=9
   ·refine FT e9 (CP hb h1 fun x i2 z2 x0 x1 h2=>BX ?_)
    exact hK ⟨kd,x,0,0,⟨#[]⟩⟩ i2 z2 (I 0) (I 0) (I 0) (I 0) (I 0) ⟨hkd,by simp only;omega,by simp only;omega,by simp only;omega,nil⟩ h2
   ·refine DP e9 (BZ (A9 (fun _=>BX ?_) fun _=>OI hb h1 hl fun x i2 z2 x0 x1 h2=>BX ?_))
    ·exact hK ⟨kd,0,0,0,⟨#[]⟩⟩ i1 z1 (I 0) (I 0) (I 0) (I 0) (I 0) ⟨hkd,by simp only;omega,by simp only;omega,by simp only;omega,nil⟩ h1
    ·exact hK ⟨kd,x,0,0,⟨#[]⟩⟩ i2 z2 (I 0) (I 0) (I 0) (I 0) (I 0) ⟨hkd,⟨x0,x1⟩,by simp only;omega,by simp only;omega,nil⟩ h2
theorem ZP {L:List Int} {i m:Nat} {z:Int} {K:J2} (hb:QU L) (hi:i≤L.length) (hm:m≤1000) (h: ∀(l:List Op5) i' z',l.length≤m→(∀o∈l,OpD o)→i'≤L.length→K [iv i',I z'] [tR tP l]):cl2 ⟨Try.prog,w0⟩ 108 GU.sg [iv i,I z,I m] [tY L] K:=by
 refine GU.cl2 ?_
 unfold GU.txt
 refine OJ (FY ⟨by omega,by omega⟩ (CP hb hi fun x i1 z1 x0 x1 h1=> ?_))
 obtain ⟨n,rfl⟩: ∃n:Nat,x=n:=⟨x.toNat,by omega⟩
 simp only [AK,AO,AL,AM,AT,AE,AJ,AI,AR,AQ,AN,AU,AP,AS,BG,BO,BL,BN,BM,BP,BK,A5,A6,A8,AZ,A7,A4]
 refine EY (α:=Nat×Nat×Int×List Op5×Hp) (fun q=>[iv q.1,iv q.2.1,I q.2.2.1]) (fun q=>[tR tP q.2.2.2.1,tR tO q.2.2.2.2.AD,tR tW q.2.2.2.2.B2,tI q.2.2.2.2.buffer,tS q.2.2.2.2.sites]) (fun q=>q.1) (fun q=>q.1+q.2.2.2.1.length≤m∧q.2.1≤L.length∧(∀o∈q.2.2.2.1,OpD o)∧BT q.2.2.2.2) (n,i1,z1,[],hp0) rfl rfl ⟨by simp;omega,h1,by simp,oA⟩ (fun R q hq hR=> ?_)
 obtain ⟨n,i,z,l,hp⟩:=q
 obtain ⟨q1,q2,q3,q4⟩:=hq
 simp only at q1 q2 q3 q4
 have ol:=q4.ol
 simp only [AK,AO,AL,AM,AT,AE,AJ,AI,AR,AQ,AN,AU,AP,AS,BG,BO,BL,BN,BM,BP,BK,A5,A6,A8,AZ,A7,A4]
 refine HR (A9 (fun hgt=> ?_) fun hle=> ?_)
 ·have hgt:0<n:=by omega
  refine cE hb q2 (by omega) fun o i2 z2 ho h2=> ?_
  simp only [AK,AO,AL,AM,AT,AE,AJ,AI,AR,AQ,AN,AU,AP,AS,BG,BO,BL,BN,BM,BP,BK,A5,A6,A8,AZ,A7,A4]
  refine R9 q4.fits q4.I8 ho.f.a ho.f.c ?_
  rw [WX q4]
  refine D9 rfl (by first | omega | (simp only [AK,AO,AL,AM,AT,AE,AJ,AI,AR,AQ,AN,AU,AP,AS,BG,BO,BL,BN,BM,BP,BK,A5,A6,A8,AZ,A7,A4];omega)) (G4 ⟨by omega,by omega⟩ ?_)
  have hR:=hR (n-1,i2,z2,l++[o],(FE hp o).1) ⟨by simp;omega,h2,fun x hx=> ?_,q4.step⟩ (by simp only;omega)
  ·rw [show (n:Int)-1=((n-1:Nat):Int) from by omega,rK]
   exact hR
  ·rcases List.mem_append.1 hx with hx | hx
   ·exact q3 x hx
   ·rw [List.mem_singleton.1 hx];exact ho
 ·exact h l i z (by omega) q3 q2
end Go.Proofs.Ytklmcfpgdfibnaa.P
