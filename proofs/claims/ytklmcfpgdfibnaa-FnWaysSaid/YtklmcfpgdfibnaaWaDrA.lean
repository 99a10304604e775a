/- A part of the proof. -/
import Derived.Test.YtklmcfpgdfibnaaWaHpFb
namespace Go.Proofs.Ytklmcfpgdfibnaa.P
open Go Go.Proofs.Ytklmcfpgdfibnaa Go.Proofs.Ytklmcfpgdfibnaa.Eng
set_option linter.unusedVariables false
set_option maxHeartbeats 4000000
set_option linter.unusedVariables false
set_option linter.unusedSimpArgs false
attribute [local irreducible] prP gP gE gF AX ixW ldc ldg ldl stc stg scW mkW apW BE cl2 BK C2 CI
variable {w0:World}
def tY (l:List Int):List T:=l.map fun n=> .c (.int .u8 n)
structure QS (l:List Int):Prop where
 len:(l.length:Int)<2^62
 all: ∀x∈l,0≤x∧x≤255
theorem eO (l:List Int):cnt 1 (tY l)=l.length:=by simp [cnt,tY]
theorem ldY {l:List Int} {i:Nat} {K:Value→Prop} (hi:i<l.length) (h:K (.int .u8 (gI l i))):ldc (tY l) [] (AD (iv i)*1) K:=by
 rw [←DB hi] at h
 exact kX (by rw [AW];simp [tY,hi]) h
theorem QS.at {l:List Int} (h:QS l) {i:Nat} (hi:i<l.length):0≤gI l i∧gI l i≤255:=by rw [←DB hi];exact h.all _ (List.getElem_mem hi)
theorem aK {a b:Int} {K:Value→Prop} (h: ∀x,F64 x→K (I x)):prP (bnI .mul (I a) (I b)) K:=CJ (v:=I (w64 (a*b))) rfl (h _ (kT _))
theorem UO {a:Int} {m:Nat} {K:Value→Prop} (hm:m<2^62) (h: ∀x:Int,0≤x→x≤m→K (I x)):prP (bnI .and (I a) (I m)) K:=by
 refine CJ (v:= .int .i64 (IntKind.i64.wrap (BitVec.ofInt 64 a&&& BitVec.ofInt 64 m).toNat)) rfl ?_
 have e:(BitVec.ofInt 64 a&&& BitVec.ofInt 64 (m:Int)).toNat≤m:=by
  rw [BitVec.toNat_and,BitVec.ofInt_natCast,BitVec.toNat_ofNat,Nat.mod_eq_of_lt (by omega)]
  exact Nat.and_le_right
 rw [NK ⟨by omega,by omega⟩]
 exact h _ (by omega) (by omega)
theorem m3 {a b:Int} {K:Value→Prop} (h: ∀x:Int,K (I x)):prP (bnI .xor (I a) (I b)) K:=
 CJ (v:= .int .i64 (IntKind.i64.wrap (BitVec.ofInt 64 a^^^BitVec.ofInt 64 b).toNat)) rfl (h _)
theorem Z9 {a:Int} {n:Nat} {K:Value→Prop} (h: ∀x:Int,K (I x)):prP (bnI .shr (I a) (.int .u64 n)) K:=by
 have e:bnI .shr (I a) (.int .u64 (n:Int))=some (.int .i64 ((a:Int).fdiv (2^min (n:Int).toNat 64))):=by
  show (if (n:Int)<0 then none else _)=_
  rw [if_neg (by omega)];rfl
 rw [e];exact CJ rfl (h _)
theorem YW {L:List Int} {K:J2} (hb:QS L) (h: ∀z,K [iv 0,I z] []):cl2 ⟨Try.prog,w0⟩ 85 GS.sg [] [tY L] K:=by
 have hL:=hb.len
 refine GS.cl2 ?_
 unfold GS.txt
 rw [eO]
 refine FR ⟨by omega,by omega⟩ ?_
 refine EJ (α:=Int×Nat) (fun q=>[I q.1,iv q.2]) (fun _=>[]) (fun q=>L.length-q.2) (fun q=>q.2≤L.length) (10101+(L.length:Int),0) rfl rfl (Nat.zero_le _) (fun R q hq hR=> ?_)
 obtain ⟨a,i⟩:=q
 simp only at hq hR
 simp only [AI,AU,AL,AR,AQ,AG,AJ,AK,AO,AP,AN,AT,AS,AM,BH,BP,BS,BM,BQ,BN,BL,A6,A5,A4,A7,A8,A9]
 refine BA (BO (LP (fun hlt=> ?_) fun hge=>EC hge rfl (CE (h a))))
 refine BA (D9 hlt rfl (AZ (fun h4=> ?_) fun _=>h a))
 have hlt:i<L.length:=by omega
 have hx:=hb.at hlt
 refine aK fun x _=>AH hlt (ldY hlt (Z0 ⟨by omega,by omega⟩ (HG (HG (UO (m:=1073741823) (by omega) fun y _ _=>BB (by omega) ?_)))))
 exact hR (y,i+1) (by simp only;omega) (by simp only;omega)
theorem HX {L:List Int} {i:Nat} {z:Int} {K:J2} (hb:QS L) (hi:i≤L.length) (h: ∀x i' z',0≤x→x≤255→i'≤L.length→K [I x,iv i',I z'] []):cl2 ⟨Try.prog,w0⟩ 151 DJ.sg [iv i,I z] [tY L] K:=by
 have hL:=hb.len
 refine DJ.cl2 ?_
 unfold DJ.txt
 rw [eO]
 refine aK fun a _=>HG (Z9 (n:=33) fun b=>Z9 (n:=45) fun c=>m3 fun d=>UO (m:=255) (by omega) fun x h0 h1=>BY ?_)
 refine BA (AZ (fun hlt=> ?_) fun hge=> ?_)
 ·have hlt:i<L.length:=by omega
  have hx:=hb.at hlt
  refine AH hlt (ldY hlt (Z0 ⟨by omega,by omega⟩ (FR ⟨by omega,by omega⟩ (UO (m:=255) (by omega) fun y y0 y1=>BB (by omega) ?_))))
  exact h y (i+1) _ y0 y1 (by omega)
 ·exact h x i _ h0 h1 hi
theorem CQ {L:List Int} {i:Nat} {z n:Int} {K:J2} (hb:QS L) (hi:i≤L.length) (h: ∀x i' z',0≤x→(x<n∨(n≤0∧x=0))→i'≤L.length→K [I x,iv i',I z'] []):cl2 ⟨Try.prog,w0⟩ 112 BU.sg [iv i,I z,I n] [tY L] K:=by
 refine BU.cl2 ?_
 unfold BU.txt
 refine IJ (AZ (fun h0=>h 0 i z (by omega) (.inr ⟨h0,rfl⟩) hi) fun h0=>IJ (AZ (fun h1=> ?_) fun h1=> ?_))
 ·refine HX hb hi fun x i' z' x0 x1 hi'=>TW x0 (by omega) ?_
  exact h _ i' z' (Int.emod_nonneg _ (by omega)) (.inl (Int.emod_lt_of_pos _ (by omega))) hi'
 ·refine HX hb hi fun x i1 z1 x0 x1 h1=>HX hb h1 fun y i2 z2 y0 y1 h2=>HX hb h2 fun u i3 z3 u0 u1 h3=>HX hb h3 fun v i4 z4 v0 v1 h4=> ?_
  simp only [AI,AU,AL,AR,AQ,AG,AJ,AK,AO,AP,AN,AT,AS,AM,BH,BP,BS,BM,BQ,BN,BL,A6,A5,A4,A7,A8,A9]
  refine RZ ⟨by omega,by omega⟩ (RZ ⟨by omega,by omega⟩ (FR ⟨by omega,by omega⟩ (RZ ⟨by omega,by omega⟩ (FR ⟨by omega,by omega⟩ (FR ⟨by omega,by omega⟩ (TW (by omega) (by omega) ?_))))))
  exact h _ i4 z4 (Int.emod_nonneg _ (by omega)) (.inl (Int.emod_lt_of_pos _ (by omega))) h4
theorem L8 {L:List Int} {i:Nat} {z n:Int} {K:J2} (hb:QS L) (hi:i≤L.length) (h: ∀(b:Bool) i' z',i'≤L.length→K [.bool b,iv i',I z'] []):cl2 ⟨Try.prog,w0⟩ 95 DT.sg [iv i,I z,I n] [tY L] K:=
 DT.cl2 (CQ hb hi fun x i' z' _ _ hi'=>B1 (h _ i' z' hi'))
theorem FC {L l:List Int} {i:Nat} {z:Int} {K:J2} (hb:QS L) (hi:i≤L.length) (hl:0<l.length) (h: ∀v∈l, ∀i' z',i'≤L.length→K [I v,iv i',I z'] []):cl2 ⟨Try.prog,w0⟩ 140 BZ.sg [iv i,I z] [tY L,tI l] K:=by
 refine BZ.cl2 ?_
 unfold BZ.txt
 rw [AG]
 refine CQ hb hi fun x i' z' x0 x1 hi'=> ?_
 simp only [AI,AU,AL,AR,AQ,AG,AJ,AK,AO,AP,AN,AT,AS,AM,BH,BP,BS,BM,BQ,BN,BL,A6,A5,A4,A7,A8,A9]
 have hx:x.toNat<l.length:=by omega
 refine S8 x0 (by omega) (ldI hx ?_)
 exact h _ (C7 hx) i' z' hi'
theorem qG {l:List ByteArray} {i:Nat} (h:i<l.length):gS l i∈l:=by rw [←RM h];exact List.getElem_mem h
theorem MI {L:List Int} {l:List ByteArray} {i:Nat} {z:Int} {K:J2} (hb:QS L) (hi:i≤L.length) (hl:0<l.length) (h: ∀v∈l, ∀i' z',i'≤L.length→K [.string v,iv i',I z'] []):cl2 ⟨Try.prog,w0⟩ 139 DG.sg [iv i,I z] [tY L,tS l] K:=by
 refine DG.cl2 ?_
 unfold DG.txt
 rw [AJ]
 refine CQ hb hi fun x i' z' x0 x1 hi'=> ?_
 simp only [AI,AU,AL,AR,AQ,AG,AJ,AK,AO,AP,AN,AT,AS,AM,BH,BP,BS,BM,BQ,BN,BL,A6,A5,A4,A7,A8,A9]
 have hx:x.toNat<l.length:=by omega
 refine S8 x0 (by omega) (ldS hx ?_)
 exact h _ (qG hx) i' z' hi'
def KD (l:List AE) (i:Nat):List Int:=if (i:Int)<8∧(ob l i).live=true then [B6 i (ob l i).gen] else []
def IN (l:List AE):List Int:=pick (KD l) l.length
theorem XE (l:List AE) (i:Nat):(KD l i).length≤1:=by unfold KD;split <;> simp
theorem VC {α:Type} {f:Nat→List α} {P:α→Prop} (h: ∀i, ∀x∈f i,P x): ∀n, ∀x∈pick f n,P x
 | 0,x,hx=>by simp [pick] at hx
 | n+1,x,hx=>by
   rw [pick] at hx
   rcases List.mem_append.1 hx with hx | hx
   ·exact VC h n x hx
   ·exact h n x hx
theorem mB (l:List AE): ∀x∈IN l, -1≤x∧x≤7999:=VC (fun i x hx=>by
 unfold KD at hx;split at hx
 ·rw [List.mem_singleton.1 hx];exact ZA _ _
 ·cases hx) _
theorem SB (l:List AE):(IN l).length≤l.length:=HU (XE l) _
theorem IX {a:List AE} {b c d:List T} {K:J2} (hl:(a.length:Int)≤1048576) (h:K [] [tI (IN a)]):cl2 ⟨Try.prog,w0⟩ 30 CM.sg [] [tR tO a,b,c,d] K:=by
 refine CM.cl2 ?_
 unfold CM.txt
 refine BJ (fun i=>[iv i]) (fun i=>[tI (pick (KD a) i)]) a.length (fun i=>i≤8) rfl rfl (by omega) (fun R i hi hP hR=> ?_)
 have hpl:=HU (XE a) i
 have hstop:a.length≤i∨8≤i→K [] [tI (pick (KD a) i)]:=by
  intro hs
  have:pick (KD a) a.length=pick (KD a) i:=by
   rcases hs with hs | hs
   ·have:i=a.length:=by omega
    rw [this]
   ·exact MN (fun k hk=>by unfold KD;rw [if_neg];omega) _ hi
  rw [IN,this] at h;exact h
 simp only [AI,AU,AL,AR,AQ,AG,AJ,AK,AO,AP,AN,AT,AS,AM,BH,BP,BS,BM,BQ,BN,BL,A6,A5,A4,A7,A8,A9]
 refine BA (BO (LP (fun hlt=> ?_) fun hge=> ?_))
 rotate_left
 ·exact EC hge rfl (CE (hstop (by omega)))
 refine BA (D9 hlt rfl (AZ (fun h4=>BY ?_) fun h4=>hstop (by omega)))
 have hlt:i<a.length:=by omega
 have hR:=hR hlt (by omega)
 refine AH hlt (KJ hlt rfl ?_)
 cases hv:(ob a i).live with
 | true=>
   have e:KD a i=[B6 i (ob a i).gen]:=by unfold KD;rw [if_pos ⟨by omega,hv⟩]
   refine CL (AH hlt (JG hlt (by decide) rfl (GK (DW rfl (by first | omega | (simp only [AI,AU,AL,AR,AQ,AG,AJ,AK,AO,AP,AN,AT,AS,AM,BH,BP,BS,BM,BQ,BN,BL,A6,A5,A4,A7,A8,A9];omega)) ?_))))
   simp only [AI,AU,AL,AR,AQ,AG,AJ,AK,AO,AP,AN,AT,AS,AM,BH,BP,BS,BM,BQ,BN,BL,A6,A5,A4,A7,A8,A9]
   rw [C9,U2 e]
   exact BB (by omega) hR
 | false=>
   have e:KD a i=[]:=by unfold KD;rw [if_neg];rintro ⟨_,h⟩;rw [hv] at h;cases h
   refine CE ?_
   simp only [AI,AU,AL,AR,AQ,AG,AJ,AK,AO,AP,AN,AT,AS,AM,BH,BP,BS,BM,BQ,BN,BL,A6,A5,A4,A7,A8,A9]
   rw [←SX e] at hR
   exact BB (by omega) hR
theorem LJ {L:List Int} {i:Nat} {z:Int} {a:List AE} {b c d:List T} {K:J2} (hb:QS L) (hi:i≤L.length) (hl:(a.length:Int)≤1048576) (h: ∀v i' z', -1≤v→v≤7999→i'≤L.length→K [I v,iv i',I z'] []):cl2 ⟨Try.prog,w0⟩ 113 FB.sg [iv i,I z] [tY L,tR tO a,b,c,d] K:=by
 have hbd:=mB a
 refine FB.cl2 ?_
 unfold FB.txt
 refine IX hl ?_
 simp only [AI,AU,AL,AR,AQ,AG,AJ,AK,AO,AP,AN,AT,AS,AM,BH,BP,BS,BM,BQ,BN,BL,A6,A5,A4,A7,A8,A9]
 have pk6: ∀{i:Nat} {z:Int},i≤L.length→cl2 ⟨Try.prog,w0⟩ 140 BZ.sg [iv i,I z] [tY L,[T.c (.int .i64 (-1)),T.c (.int .i64 0),T.c (.int .i64 8),T.c (.int .i64 9),T.c (.int .i64 17),T.c (.int .i64 4000)]] fun v7 d8=>K [nx v7 0,nx v7 1,nx v7 2] []:=fun hi=>by
  refine FC (l:=[-1,0,8,9,17,4000]) hb hi (by simp) fun v hv i' z' hi'=> ?_
  have: -1≤v∧v≤7999:=by simp at hv;omega
  exact h v i' z' this.1 this.2 hi'
 refine B1 (BO (wM (fun hne=> ?_) fun he=> ?_))
 ·refine L8 hb hi fun b i' z' hi'=>EC hne rfl (R7 (fun _=>pk6 hi') fun _=> ?_)
  refine CQ hb hi' fun x i2 z2 x0 x1 hi2=> ?_
  simp only [AI,AU,AL,AR,AQ,AG,AJ,AK,AO,AP,AN,AT,AS,AM,BH,BP,BS,BM,BQ,BN,BL,A6,A5,A4,A7,A8,A9]
  have hx:x.toNat<(IN a).length:=by omega
  have:=hbd _ (C7 hx)
  exact S8 x0 (by omega) (ldI hx (h _ i2 z2 this.1 this.2 hi2))
 ·exact D9 he rfl (CL (pk6 hi))
structure OpD (o:Op5):Prop where
 k:0≤o.kind∧o.kind≤11
 a: -1≤o.a∧o.a≤7999
 b: -1≤o.b∧o.b≤3
 c: -1≤o.c∧o.c≤7999
 s:o.site.size≤12
theorem OpD.f {o:Op5} (h:OpD o):OpF o:=⟨by have:=h.k;exact ⟨by omega,by omega⟩,by have:=h.a;exact ⟨by omega,by omega⟩,by have:=h.b;exact ⟨by omega,by omega⟩,by have:=h.c;exact ⟨by omega,by omega⟩,by have:=h.s;omega⟩
theorem ZX {L:List Int} {i:Nat} {z:Int} {a:List AE} {b c d:List T} {K:J2} (hb:QS L) (hi:i≤L.length) (hl:(a.length:Int)≤1048576) (h: ∀(o:Op5) i' z',OpD o→i'≤L.length→K [I o.kind,I o.a,I o.b,I o.c, .string o.site,iv i',I z'] []):cl2 ⟨Try.prog,w0⟩ 128 HK.sg [iv i,I z] [tY L,tR tO a,b,c,d] K:=by
 refine HK.cl2 ?_
 unfold HK.txt
 refine FC (l:=[1,1,1,2,3,3,3,4,4,4,4,5,6,7,8,9,10,4]) hb hi (by simp) fun kd hkd i1 z1 h1=> ?_
 have hkd:0≤kd∧kd≤11:=by simp at hkd;omega
 have nil:(⟨#[]⟩:ByteArray).size≤12:=Nat.zero_le _
 have hK: ∀(o:Op5) i' z' (y1 y2 y3 y4 y5:Value),OpD o→i'≤L.length→cl2 ⟨Try.prog,w0⟩ 112 BU.sg [iv i',I z',I 50] [tY L] fun v34 d35=>
   prP (bnI .eql (nx v34 0) (.int .i64 0)) fun t49_36=>
   AX t49_36 (cl2 ⟨Try.prog,w0⟩ 140 BZ.sg [nx v34 1,nx v34 2] [tY L,[T.c (.int .i64 0),T.c (.int .i64 11)]] fun v37 d38=>K [nx v37 0,I o.a,I o.b,I o.c, .string o.site,nx v37 1,nx v37 2] []) (
   prP (bnI .eql (nx v34 0) (.int .i64 1)) fun t55_39=>
   AX t55_39 (cl2 ⟨Try.prog,w0⟩ 140 BZ.sg [nx v34 1,nx v34 2] [tY L,[T.c (.int .i64 (-1)),T.c (.int .i64 3)]] fun v40 d41=>K [I o.kind,I o.a,nx v40 0,I o.c, .string o.site,nx v40 1,nx v40 2] []) (
   prP (bnI .eql (nx v34 0) (.int .i64 2)) fun t61_42=>
   AX t61_42 (cl2 ⟨Try.prog,w0⟩ 139 DG.sg [nx v34 1,nx v34 2] [tY L,[T.c (.string {data:= #[]}),T.c (.string {data:= #[116,111,111,108,111,110,103,97,115,105,116,101]}),T.c (.string {data:= #[115,49]}),T.c (.string {data:= #[115,50]}),T.c (.string {data:= #[115,51]}),T.c (.string {data:= #[115,52]}),T.c (.string {data:= #[115,53]})]] fun v43 d44=>K [I o.kind,I o.a,I o.b,I o.c,nx v43 0,nx v43 1,nx v43 2] [])
    (K [I o.kind,I o.a,I o.b,I o.c, .string o.site,nx v34 1,nx v34 2] []))):=by
  intro o i' z' _ _ _ _ _ ho hi'
  refine CQ hb hi' fun x i2 z2 x0 x1 h2=> ?_
  refine B1 (AZ (fun _=> ?_) fun _=>B1 (AZ (fun _=> ?_) fun _=>B1 (AZ (fun _=> ?_) fun _=>h o i2 z2 ho h2)))
  ·refine FC (l:=[0,11]) hb h2 (by simp) fun v hv i3 z3 h3=> ?_
   exact h ⟨v,o.a,o.b,o.c,o.site⟩ i3 z3 ⟨by simp at hv;simp only;omega,ho.a,ho.b,ho.c,ho.s⟩ h3
  ·refine FC (l:=[-1,3]) hb h2 (by simp) fun v hv i3 z3 h3=> ?_
   exact h ⟨o.kind,o.a,v,o.c,o.site⟩ i3 z3 ⟨ho.k,ho.a,by simp at hv;simp only;omega,ho.c,ho.s⟩ h3
  ·refine MI (l:=[⟨#[]⟩,⟨#[116,111,111,108,111,110,103,97,115,105,116,101]⟩,⟨#[115,49]⟩,⟨#[115,50]⟩,⟨#[115,51]⟩,⟨#[115,52]⟩,⟨#[115,53]⟩]) hb h2 (by simp) fun v hv i3 z3 h3=> ?_
   refine h ⟨o.kind,o.a,o.b,o.c,v⟩ i3 z3 ⟨ho.k,ho.a,ho.b,ho.c, ?_⟩ h3
   simp only [List.mem_cons,List.not_mem_nil,or_false] at hv
   rcases hv with rfl | rfl | rfl | rfl | rfl | rfl | rfl <;> (simp only;decide)
 refine BY ?_
 refine B1 (AZ (fun _=> ?_) fun _=>B1 (AZ (fun _=> ?_) fun _=>BY ?_))
 ·refine MI (l:=[⟨#[97]⟩,⟨#[98]⟩,⟨#[108,105,115,116]⟩,⟨#[110,111,100,101]⟩]) hb h1 (by simp) fun v hv i3 z3 h3=>BY ?_
  refine hK ⟨kd,0,0,0,v⟩ i3 z3 (I 0) (I 0) (I 0) (I 0) (I 0) ⟨hkd,by simp only;omega,by simp only;omega,by simp only;omega, ?_⟩ h3
  simp only [List.mem_cons,List.not_mem_nil,or_false] at hv
  rcases hv with rfl | rfl | rfl | rfl <;> (simp only;decide)
 ·refine LJ hb h1 hl fun x i2 z2 x0 x1 h2=>CQ hb h2 fun y i3 z3 y0 y1 h3=>LJ hb h3 hl fun u i4 z4 u0 u1 h4=>L8 hb h4 fun b i5 z5 h5=>R7 (fun _=>BY ?_) fun _=>BY ?_
  ·exact hK ⟨kd,x,y, -1,⟨#[]⟩⟩ i5 z5 (I 0) (I 0) (I 0) (I 0) (I 0) ⟨hkd,⟨x0,x1⟩,by simp only;omega,by simp only;omega,nil⟩ h5
  ·exact hK ⟨kd,x,y,u,⟨#[]⟩⟩ i5 z5 (I 0) (I 0) (I 0) (I 0) (I 0) ⟨hkd,⟨x0,x1⟩,by simp only;omega,⟨u0,u1⟩,nil⟩ h5
 ·refine B1 (AZ (fun e8=> ?_) fun n8=>B1 ?_)
  ·refine EK e8 (CQ hb h1 fun x i2 z2 x0 x1 h2=>BY ?_)
   exact hK ⟨kd,x,0,0,⟨#[]⟩⟩ i2 z2 (I 0) (I 0) (I 0) (I 0) (I 0) ⟨hkd,by simp only;omega,by simp only;omega,by simp only;omega,nil⟩ h2
  ·by_cases e9:kd=9
   ·refine EK e9 (CQ hb h1 fun x i2 z2 x0 x1 h2=>BY ?_)
    exact hK ⟨kd,x,0,0,⟨#[]⟩⟩ i2 z2 (I 0) (I 0) (I 0) (I 0) (I 0) ⟨hkd,by simp only;omega,by simp only;omega,by simp only;omega,nil⟩ h2
   ·refine FM e9 (B1 (AZ (fun _=>BY ?_) fun _=>LJ hb h1 hl fun x i2 z2 x0 x1 h2=>BY ?_))
    ·exact hK ⟨kd,0,0,0,⟨#[]⟩⟩ i1 z1 (I 0) (I 0) (I 0) (I 0) (I 0) ⟨hkd,by simp only;omega,by simp only;omega,by simp only;omega,nil⟩ h1
    ·exact hK ⟨kd,x,0,0,⟨#[]⟩⟩ i2 z2 (I 0) (I 0) (I 0) (I 0) (I 0) ⟨hkd,⟨x0,x1⟩,by simp only;omega,by simp only;omega,nil⟩ h2
theorem Y3 {L:List Int} {i m:Nat} {z:Int} {K:J2} (hb:QS L) (hi:i≤L.length) (hm:m≤1000) (h: ∀(l:List Op5) i' z',l.length≤m→(∀o∈l,OpD o)→i'≤L.length→K [iv i',I z'] [tR tP l]):cl2 ⟨Try.prog,w0⟩ 108 GM.sg [iv i,I z,I m] [tY L] K:=by
 refine GM.cl2 ?_
 unfold GM.txt
 refine N7 (FR ⟨by omega,by omega⟩ (CQ hb hi fun x i1 z1 x0 x1 h1=> ?_))
 obtain ⟨n,rfl⟩: ∃n:Nat,x=n:=⟨x.toNat,by omega⟩
 simp only [AI,AU,AL,AR,AQ,AG,AJ,AK,AO,AP,AN,AT,AS,AM,BH,BP,BS,BM,BQ,BN,BL,A6,A5,A4,A7,A8,A9]
 refine EJ (α:=Nat×Nat×Int×List Op5×Hp) (fun q=>[iv q.1,iv q.2.1,I q.2.2.1]) (fun q=>[tR tP q.2.2.2.1,tR tO q.2.2.2.2.AB,tR tW q.2.2.2.2.B2,tI q.2.2.2.2.buffer,tS q.2.2.2.2.sites]) (fun q=>q.1) (fun q=>q.1+q.2.2.2.1.length≤m∧q.2.1≤L.length∧(∀o∈q.2.2.2.1,OpD o)∧BW q.2.2.2.2) (n,i1,z1,[],hp0) rfl rfl ⟨by simp;omega,h1,by simp,nI⟩ (fun R q hq hR=> ?_)
 obtain ⟨n,i,z,l,hp⟩:=q
 obtain ⟨q1,q2,q3,q4⟩:=hq
 simp only at q1 q2 q3 q4
 have ol:=q4.ol
 simp only [AI,AU,AL,AR,AQ,AG,AJ,AK,AO,AP,AN,AT,AS,AM,BH,BP,BS,BM,BQ,BN,BL,A6,A5,A4,A7,A8,A9]
 refine JQ (AZ (fun hgt=> ?_) fun hle=> ?_)
 ·have hgt:0<n:=by omega
  refine ZX hb q2 (by omega) fun o i2 z2 ho h2=> ?_
  simp only [AI,AU,AL,AR,AQ,AG,AJ,AK,AO,AP,AN,AT,AS,AM,BH,BP,BS,BM,BQ,BN,BL,A6,A5,A4,A7,A8,A9]
  refine RI q4.fits q4.IH ho.f.a ho.f.c ?_
  rw [V6 q4]
  refine DW rfl (by first | omega | (simp only [AI,AU,AL,AR,AQ,AG,AJ,AK,AO,AP,AN,AT,AS,AM,BH,BP,BS,BM,BQ,BN,BL,A6,A5,A4,A7,A8,A9];omega)) (G5 ⟨by omega,by omega⟩ ?_)
  have hR:=hR (n-1,i2,z2,l++[o],(EY hp o).1) ⟨by simp;omega,h2,fun x hx=> ?_,q4.step⟩ (by simp only;omega)
  ·rw [show (n:Int)-1=((n-1:Nat):Int) from by omega,qD]
   exact hR
  ·rcases List.mem_append.1 hx with hx | hx
   ·exact q3 x hx
   ·rw [List.mem_singleton.1 hx];exact ho
 ·exact h l i z (by omega) q3 q2
end Go.Proofs.Ytklmcfpgdfibnaa.P
