/- A part of the proof. -/
import Derived.Test.YtnhicpkhkaihoaaGreatFtPlC
import Derived.Test.YtnhicpkhkaihoaaGreatFtHpFb
namespace Go.Proofs.YtnhicpkhkaihoaaGreat.P
open Go Go.Proofs.YtnhicpkhkaihoaaGreat Go.Proofs.YtnhicpkhkaihoaaGreat.Eng
set_option linter.unusedVariables false
set_option maxHeartbeats 4000000
set_option linter.unusedVariables false
set_option linter.unusedSimpArgs false
attribute [local irreducible] prP gP gE gF AV ixW ldc ldg ldl stc stg scW mkW apW BC cl2 BW F6 C2
variable {w0:World}
def tY (l:List Int):List T:=l.map fun n=> .c (.int .u8 n)
structure WN (l:List Int):Prop where
 len:(l.length:Int)<2^62
 all: ∀x∈l,0≤x∧x≤255
theorem mF (l:List Int):cnt 1 (tY l)=l.length:=by simp [cnt,tY]
theorem ldY {l:List Int} {i:Nat} {K:Value→Prop} (hi:i<l.length) (h:K (.int .u8 (gI l i))):ldc (tY l) [] (AA (iv i)*1) K:=by
 rw [←G3 hi] at h
 exact vF (by rw [A9];simp [tY,hi]) h
theorem WN.at {l:List Int} (h:WN l) {i:Nat} (hi:i<l.length):0≤gI l i∧gI l i≤255:=by rw [←G3 hi];exact h.all _ (List.getElem_mem hi)
theorem kG {a b:Int} {K:Value→Prop} (h: ∀x,F64 x→K (I x)):prP (bnI .mul (I a) (I b)) K:=BK (v:=I (w64 (a*b))) rfl (h _ (kB _))
theorem a8 {a:Int} {m:Nat} {K:Value→Prop} (hm:m<2^62) (h: ∀x:Int,0≤x→x≤m→K (I x)):prP (bnI .and (I a) (I m)) K:=by
 refine BK (v:= .int .i64 (IntKind.i64.wrap (BitVec.ofInt 64 a&&& BitVec.ofInt 64 m).toNat)) rfl ?_
 have e:(BitVec.ofInt 64 a&&& BitVec.ofInt 64 (m:Int)).toNat≤m:=by
  rw [BitVec.toNat_and,BitVec.ofInt_natCast,BitVec.toNat_ofNat,Nat.mod_eq_of_lt (by omega)]
  exact Nat.and_le_right
 rw [K3 ⟨by omega,by omega⟩]
 exact h _ (by omega) (by omega)
theorem s5 {a b:Int} {K:Value→Prop} (h: ∀x:Int,K (I x)):prP (bnI .xor (I a) (I b)) K:=
 BK (v:= .int .i64 (IntKind.i64.wrap (BitVec.ofInt 64 a^^^BitVec.ofInt 64 b).toNat)) rfl (h _)
theorem kH {a:Int} {n:Nat} {K:Value→Prop} (h: ∀x:Int,K (I x)):prP (bnI .shr (I a) (.int .u64 n)) K:=by
 have e:bnI .shr (I a) (.int .u64 (n:Int))=some (.int .i64 ((a:Int).fdiv (2^min (n:Int).toNat 64))):=by
  show (if (n:Int)<0 then none else _)=_
  rw [if_neg (by omega)];rfl
 rw [e];exact BK rfl (h _)
theorem fE {L:List Int} {K:J2} (hb:WN L) (h: ∀z,K [iv 0,I z] []):cl2 ⟨Tryz.prog,w0⟩ 32 JE.sg [] [tY L] K:=by
 have hL:=hb.len
 refine JE.cl2 ?_
 unfold JE.txt
 rw [mF]
 refine CW ⟨by omega,by omega⟩ ?_
 refine DK (α:=Int×Nat) (fun q=>[I q.1,iv q.2]) (fun _=>[]) (fun q=>L.length-q.2) (fun q=>q.2≤L.length) (10101+(L.length:Int),0) rfl rfl (Nat.zero_le _) (fun R q hq hR=> ?_)
 obtain ⟨a,i⟩:=q
 simp only at hq hR
 simp only [AI,AL,AH,AJ,AM,AE,AG,AR,AP,AN,AQ,AO,AS,AK,BD,BF,BI,BJ,BH,BG,BE,A1,AZ,AY,AX,A4,A5]
 refine AW (BM (IQ (fun hlt=> ?_) fun hge=>CJ hge rfl (BT (h a))))
 refine AW (CL hlt rfl (AT (fun h4=> ?_) fun _=>h a))
 have hlt:i<L.length:=by omega
 have hx:=hb.at hlt
 refine kG fun x _=>AU hlt (ldY hlt (SO ⟨by omega,by omega⟩ (FU (FU (a8 (m:=1073741823) (by omega) fun y _ _=>A6 (by omega) ?_)))))
 exact hR (y,i+1) (by simp only;omega) (by simp only;omega)
theorem KV {L:List Int} {i:Nat} {z:Int} {K:J2} (hb:WN L) (hi:i≤L.length) (h: ∀x i' z',0≤x→x≤255→i'≤L.length→K [I x,iv i',I z'] []):cl2 ⟨Tryz.prog,w0⟩ 122 EW.sg [iv i,I z] [tY L] K:=by
 have hL:=hb.len
 refine EW.cl2 ?_
 unfold EW.txt
 rw [mF]
 refine kG fun a _=>FU (kH (n:=33) fun b=>kH (n:=45) fun c=>s5 fun d=>a8 (m:=255) (by omega) fun x h0 h1=>BS ?_)
 refine AW (AT (fun hlt=> ?_) fun hge=> ?_)
 ·have hlt:i<L.length:=by omega
  have hx:=hb.at hlt
  refine AU hlt (ldY hlt (SO ⟨by omega,by omega⟩ (CW ⟨by omega,by omega⟩ (a8 (m:=255) (by omega) fun y y0 y1=>A6 (by omega) ?_))))
  exact h y (i+1) _ y0 y1 (by omega)
 ·exact h x i _ h0 h1 hi
theorem FQ {L:List Int} {i:Nat} {z n:Int} {K:J2} (hb:WN L) (hi:i≤L.length) (h: ∀x i' z',0≤x→(x<n∨(n≤0∧x=0))→i'≤L.length→K [I x,iv i',I z'] []):cl2 ⟨Tryz.prog,w0⟩ 70 B5.sg [iv i,I z,I n] [tY L] K:=by
 refine B5.cl2 ?_
 unfold B5.txt
 refine EA (AT (fun h0=>h 0 i z (by omega) (.inr ⟨h0,rfl⟩) hi) fun h0=>EA (AT (fun h1=> ?_) fun h1=> ?_))
 ·refine KV hb hi fun x i' z' x0 x1 hi'=>L7 x0 (by omega) ?_
  exact h _ i' z' (Int.emod_nonneg _ (by omega)) (.inl (Int.emod_lt_of_pos _ (by omega))) hi'
 ·refine KV hb hi fun x i1 z1 x0 x1 h1=>KV hb h1 fun y i2 z2 y0 y1 h2=>KV hb h2 fun u i3 z3 u0 u1 h3=>KV hb h3 fun v i4 z4 v0 v1 h4=> ?_
  simp only [AI,AL,AH,AJ,AM,AE,AG,AR,AP,AN,AQ,AO,AS,AK,BD,BF,BI,BJ,BH,BG,BE,A1,AZ,AY,AX,A4,A5]
  refine K4 ⟨by omega,by omega⟩ (K4 ⟨by omega,by omega⟩ (CW ⟨by omega,by omega⟩ (K4 ⟨by omega,by omega⟩ (CW ⟨by omega,by omega⟩ (CW ⟨by omega,by omega⟩ (L7 (by omega) (by omega) ?_))))))
  exact h _ i4 z4 (Int.emod_nonneg _ (by omega)) (.inl (Int.emod_lt_of_pos _ (by omega))) h4
theorem PC {L:List Int} {i:Nat} {z n:Int} {K:J2} (hb:WN L) (hi:i≤L.length) (h: ∀(b:Bool) i' z',i'≤L.length→K [.bool b,iv i',I z'] []):cl2 ⟨Tryz.prog,w0⟩ 34 FV.sg [iv i,I z,I n] [tY L] K:=
 FV.cl2 (FQ hb hi fun x i' z' _ _ hi'=>BL (h _ i' z' hi'))
theorem KJ {L l:List Int} {i:Nat} {z:Int} {K:J2} (hb:WN L) (hi:i≤L.length) (hl:0<l.length) (h: ∀v∈l, ∀i' z',i'≤L.length→K [I v,iv i',I z'] []):cl2 ⟨Tryz.prog,w0⟩ 123 CA.sg [iv i,I z] [tY L,tI l] K:=by
 refine CA.cl2 ?_
 unfold CA.txt
 rw [AE]
 refine FQ hb hi fun x i' z' x0 x1 hi'=> ?_
 simp only [AI,AL,AH,AJ,AM,AE,AG,AR,AP,AN,AQ,AO,AS,AK,BD,BF,BI,BJ,BH,BG,BE,A1,AZ,AY,AX,A4,A5]
 have hx:x.toNat<l.length:=by omega
 refine Q3 x0 (by omega) (ldI hx ?_)
 exact h _ (ER hx) i' z' hi'
theorem yK {l:List ByteArray} {i:Nat} (h:i<l.length):gS l i∈l:=by rw [←PT h];exact List.getElem_mem h
theorem TY {L:List Int} {l:List ByteArray} {i:Nat} {z:Int} {K:J2} (hb:WN L) (hi:i≤L.length) (hl:0<l.length) (h: ∀v∈l, ∀i' z',i'≤L.length→K [.string v,iv i',I z'] []):cl2 ⟨Tryz.prog,w0⟩ 124 GR.sg [iv i,I z] [tY L,tS l] K:=by
 refine GR.cl2 ?_
 unfold GR.txt
 rw [AG]
 refine FQ hb hi fun x i' z' x0 x1 hi'=> ?_
 simp only [AI,AL,AH,AJ,AM,AE,AG,AR,AP,AN,AQ,AO,AS,AK,BD,BF,BI,BJ,BH,BG,BE,A1,AZ,AY,AX,A4,A5]
 have hx:x.toNat<l.length:=by omega
 refine Q3 x0 (by omega) (ldS hx ?_)
 exact h _ (yK hx) i' z' hi'
def P5 (l:List A7) (i:Nat):List Int:=if (i:Int)<8∧(ob l i).live=true then [CU i (ob l i).gen] else []
def nL (l:List A7):List Int:=pick (P5 l) l.length
theorem rM (l:List A7) (i:Nat):(P5 l i).length≤1:=by unfold P5;split <;> simp
theorem kQ {α:Type} {f:Nat→List α} {P:α→Prop} (h: ∀i, ∀x∈f i,P x): ∀n, ∀x∈pick f n,P x
 | 0,x,hx=>by simp [pick] at hx
 | n+1,x,hx=>by
   rw [pick] at hx
   rcases List.mem_append.1 hx with hx | hx
   ·exact kQ h n x hx
   ·exact h n x hx
theorem sN (l:List A7): ∀x∈nL l, -1≤x∧x≤7999:=kQ (fun i x hx=>by
 unfold P5 at hx;split at hx
 ·rw [List.mem_singleton.1 hx];exact pH _ _
 ·cases hx) _
theorem ZI {a:List A7} {b c d:List T} {K:J2} (hl:(a.length:Int)≤1048576) (h:K [] [tI (nL a)]):cl2 ⟨Tryz.prog,w0⟩ 166 HK.sg [] [tR tO a,b,c,d] K:=by
 refine HK.cl2 ?_
 unfold HK.txt
 refine A8 (fun i=>[iv i]) (fun i=>[tI (pick (P5 a) i)]) a.length (fun i=>i≤8) rfl rfl (by omega) (fun R i hi hP hR=> ?_)
 have hpl:=LV (rM a) i
 have hstop:a.length≤i∨8≤i→K [] [tI (pick (P5 a) i)]:=by
  intro hs
  have:pick (P5 a) a.length=pick (P5 a) i:=by
   rcases hs with hs | hs
   ·have:i=a.length:=by omega
    rw [this]
   ·exact dN (fun k hk=>by unfold P5;rw [if_neg];omega) _ hi
  rw [nL,this] at h;exact h
 simp only [AI,AL,AH,AJ,AM,AE,AG,AR,AP,AN,AQ,AO,AS,AK,BD,BF,BI,BJ,BH,BG,BE,A1,AZ,AY,AX,A4,A5]
 refine AW (BM (IQ (fun hlt=> ?_) fun hge=> ?_))
 rotate_left
 ·exact CJ hge rfl (BT (hstop (by omega)))
 refine AW (CL hlt rfl (AT (fun h4=>BS ?_) fun h4=>hstop (by omega)))
 have hlt:i<a.length:=by omega
 have hR:=hR hlt (by omega)
 refine AU hlt (MU hlt rfl ?_)
 cases hv:(ob a i).live with
 | true=>
   have e:P5 a i=[CU i (ob a i).gen]:=by unfold P5;rw [if_pos ⟨by omega,hv⟩]
   refine BQ (AU hlt (JT hlt (by decide) rfl (LM (EB rfl (by first | omega | (simp only [AI,AL,AH,AJ,AM,AE,AG,AR,AP,AN,AQ,AO,AS,AK,BD,BF,BI,BJ,BH,BG,BE,A1,AZ,AY,AX,A4,A5];omega)) ?_))))
   simp only [AI,AL,AH,AJ,AM,AE,AG,AR,AP,AN,AQ,AO,AS,AK,BD,BF,BI,BJ,BH,BG,BE,A1,AZ,AY,AX,A4,A5]
   rw [FE,uS e]
   exact A6 (by omega) hR
 | false=>
   have e:P5 a i=[]:=by unfold P5;rw [if_neg];rintro ⟨_,h⟩;rw [hv] at h;cases h
   refine BT ?_
   simp only [AI,AL,AH,AJ,AM,AE,AG,AR,AP,AN,AQ,AO,AS,AK,BD,BF,BI,BJ,BH,BG,BE,A1,AZ,AY,AX,A4,A5]
   rw [←pZ e] at hR
   exact A6 (by omega) hR
theorem RF {L:List Int} {i:Nat} {z:Int} {a:List A7} {b c d:List T} {K:J2} (hb:WN L) (hi:i≤L.length) (hl:(a.length:Int)≤1048576) (h: ∀v i' z', -1≤v→v≤7999→i'≤L.length→K [I v,iv i',I z'] []):cl2 ⟨Tryz.prog,w0⟩ 125 IU.sg [iv i,I z] [tY L,tR tO a,b,c,d] K:=by
 have hbd:=sN a
 refine IU.cl2 ?_
 unfold IU.txt
 refine ZI hl ?_
 simp only [AI,AL,AH,AJ,AM,AE,AG,AR,AP,AN,AQ,AO,AS,AK,BD,BF,BI,BJ,BH,BG,BE,A1,AZ,AY,AX,A4,A5]
 have pk6: ∀{i:Nat} {z:Int},i≤L.length→cl2 ⟨Tryz.prog,w0⟩ 123 CA.sg [iv i,I z] [tY L,[T.c (.int .i64 (-1)),T.c (.int .i64 0),T.c (.int .i64 8),T.c (.int .i64 9),T.c (.int .i64 17),T.c (.int .i64 4000)]] fun v7 d8=>K [nx v7 0,nx v7 1,nx v7 2] []:=fun hi=>by
  refine KJ (l:=[-1,0,8,9,17,4000]) hb hi (by simp) fun v hv i' z' hi'=> ?_
  have: -1≤v∧v≤7999:=by simp at hv;omega
  exact h v i' z' this.1 this.2 hi'
 refine BL (BM (Dn (fun hne=> ?_) fun he=> ?_))
 ·refine PC hb hi fun b i' z' hi'=>CJ hne rfl (JI (fun _=>pk6 hi') fun _=> ?_)
  refine FQ hb hi' fun x i2 z2 x0 x1 hi2=> ?_
  simp only [AI,AL,AH,AJ,AM,AE,AG,AR,AP,AN,AQ,AO,AS,AK,BD,BF,BI,BJ,BH,BG,BE,A1,AZ,AY,AX,A4,A5]
  have hx:x.toNat<(nL a).length:=by omega
  have:=hbd _ (ER hx)
  exact Q3 x0 (by omega) (ldI hx (h _ i2 z2 this.1 this.2 hi2))
 ·exact CL he rfl (BQ (pk6 hi))
structure OpD (o:Op5):Prop where
 k:0≤o.kind∧o.kind≤11
 a: -1≤o.a∧o.a≤7999
 b: -1≤o.b∧o.b≤3
 c: -1≤o.c∧o.c≤7999
 s:o.site.size≤12
theorem OpD.f {o:Op5} (h:OpD o):OpF o:=⟨by have:=h.k;exact ⟨by omega,by omega⟩,by have:=h.a;exact ⟨by omega,by omega⟩,by have:=h.b;exact ⟨by omega,by omega⟩,by have:=h.c;exact ⟨by omega,by omega⟩,by have:=h.s;omega⟩
theorem iN {L:List Int} {i:Nat} {z:Int} {a:List A7} {b c d:List T} {K:J2} (hb:WN L) (hi:i≤L.length) (hl:(a.length:Int)≤1048576) (h: ∀(o:Op5) i' z',OpD o→i'≤L.length→K [I o.kind,I o.a,I o.b,I o.c, .string o.site,iv i',I z'] []):cl2 ⟨Tryz.prog,w0⟩ 71 KE.sg [iv i,I z] [tY L,tR tO a,b,c,d] K:=by
 refine KE.cl2 ?_
 unfold KE.txt
 refine KJ (l:=[1,1,1,2,3,3,3,4,4,4,4,5,6,7,8,9,10,4]) hb hi (by simp) fun kd hkd i1 z1 h1=> ?_
 have hkd:0≤kd∧kd≤11:=by simp at hkd;omega
 have nil:(⟨#[]⟩:ByteArray).size≤12:=Nat.zero_le _
 have hK: ∀(o:Op5) i' z' (y1 y2 y3 y4 y5:Value),OpD o→i'≤L.length→cl2 ⟨Tryz.prog,w0⟩ 70 B5.sg [iv i',I z',I 50] [tY L] fun v34 d35=>
   prP (bnI .eql (nx v34 0) (.int .i64 0)) fun t49_36=>
   AV t49_36 (cl2 ⟨Tryz.prog,w0⟩ 123 CA.sg [nx v34 1,nx v34 2] [tY L,[T.c (.int .i64 0),T.c (.int .i64 11)]] fun v37 d38=>K [nx v37 0,I o.a,I o.b,I o.c, .string o.site,nx v37 1,nx v37 2] []) (
   prP (bnI .eql (nx v34 0) (.int .i64 1)) fun t55_39=>
   AV t55_39 (cl2 ⟨Tryz.prog,w0⟩ 123 CA.sg [nx v34 1,nx v34 2] [tY L,[T.c (.int .i64 (-1)),T.c (.int .i64 3)]] fun v40 d41=>K [I o.kind,I o.a,nx v40 0,I o.c, .string o.site,nx v40 1,nx v40 2] []) (
   prP (bnI .eql (nx v34 0) (.int .i64 2)) fun t61_42=>
   AV t61_42 (cl2 ⟨Tryz.prog,w0⟩ 124 GR.sg [nx v34 1,nx v34 2] [tY L,[T.c (.string {data:= #[]}),T.c (.string {data:= #[116,111,111,108,111,110,103,97,115,105,116,101]}),T.c (.string {data:= #[115,49]}),T.c (.string {data:= #[115,50]}),T.c (.string {data:= #[115,51]}),T.c (.string {data:= #[115,52]}),T.c (.string {data:= #[115,53]})]] fun v43 d44=>K [I o.kind,I o.a,I o.b,I o.c,nx v43 0,nx v43 1,nx v43 2] [])
    (K [I o.kind,I o.a,I o.b,I o.c, .string o.site,nx v34 1,nx v34 2] []))):=by
  intro o i' z' _ _ _ _ _ ho hi'
  refine FQ hb hi' fun x i2 z2 x0 x1 h2=> ?_
  refine BL (AT (fun _=> ?_) fun _=>BL (AT (fun _=> ?_) fun _=>BL (AT (fun _=> ?_) fun _=>h o i2 z2 ho h2)))
  ·refine KJ (l:=[0,11]) hb h2 (by simp) fun v hv i3 z3 h3=> ?_
   exact h ⟨v,o.a,o.b,o.c,o.site⟩ i3 z3 ⟨by simp at hv;simp only;omega,ho.a,ho.b,ho.c,ho.s⟩ h3
  ·refine KJ (l:=[-1,3]) hb h2 (by simp) fun v hv i3 z3 h3=> ?_
   exact h ⟨o.kind,o.a,v,o.c,o.site⟩ i3 z3 ⟨ho.k,ho.a,by simp at hv;simp only;omega,ho.c,ho.s⟩ h3
  ·refine TY (l:=[⟨#[]⟩,⟨#[116,111,111,108,111,110,103,97,115,105,116,101]⟩,⟨#[115,49]⟩,⟨#[115,50]⟩,⟨#[115,51]⟩,⟨#[115,52]⟩,⟨#[115,53]⟩]) hb h2 (by simp) fun v hv i3 z3 h3=> ?_
   refine h ⟨o.kind,o.a,o.b,o.c,v⟩ i3 z3 ⟨ho.k,ho.a,ho.b,ho.c, ?_⟩ h3
   simp only [List.mem_cons,List.not_mem_nil,or_false] at hv
   rcases hv with rfl | rfl | rfl | rfl | rfl | rfl | rfl <;> (simp only;decide)
 refine BS ?_
 refine BL (AT (fun _=> ?_) fun _=>BL (AT (fun _=> ?_) fun _=>BS ?_))
 ·refine TY (l:=[⟨#[97]⟩,⟨#[98]⟩,⟨#[108,105,115,116]⟩,⟨#[110,111,100,101]⟩]) hb h1 (by simp) fun v hv i3 z3 h3=>BS ?_
  refine hK ⟨kd,0,0,0,v⟩ i3 z3 (I 0) (I 0) (I 0) (I 0) (I 0) ⟨hkd,by simp only;omega,by simp only;omega,by simp only;omega, ?_⟩ h3
  simp only [List.mem_cons,List.not_mem_nil,or_false] at hv
  rcases hv with rfl | rfl | rfl | rfl <;> (simp only;decide)
 ·refine RF hb h1 hl fun x i2 z2 x0 x1 h2=>FQ hb h2 fun y i3 z3 y0 y1 h3=>RF hb h3 hl fun u i4 z4 u0 u1 h4=>PC hb h4 fun b i5 z5 h5=>JI (fun _=>BS ?_) fun _=>BS ?_
  ·exact hK ⟨kd,x,y, -1,⟨#[]⟩⟩ i5 z5 (I 0) (I 0) (I 0) (I 0) (I 0) ⟨hkd,⟨x0,x1⟩,by simp only;omega,by simp only;omega,nil⟩ h5
  ·exact hK ⟨kd,x,y,u,⟨#[]⟩⟩ i5 z5 (I 0) (I 0) (I 0) (I 0) (I 0) ⟨hkd,⟨x0,x1⟩,by simp only;omega,⟨u0,u1⟩,nil⟩ h5
 ·refine BL (AT (fun e8=> ?_) fun n8=>BL ?_)
  ·refine CX e8 (FQ hb h1 fun x i2 z2 x0 x1 h2=>BS ?_)
   exact hK ⟨kd,x,0,0,⟨#[]⟩⟩ i2 z2 (I 0) (I 0) (I 0) (I 0) (I 0) ⟨hkd,by simp only;omega,by simp only;omega,by simp only;omega,nil⟩ h2
  ·by_cases e9:kd=9
   ·refine CX e9 (FQ hb h1 fun x i2 z2 x0 x1 h2=>BS ?_)
    exact hK ⟨kd,x,0,0,⟨#[]⟩⟩ i2 z2 (I 0) (I 0) (I 0) (I 0) (I 0) ⟨hkd,by simp only;omega,by simp only;omega,by simp only;omega,nil⟩ h2
   ·refine C7 e9 (BL (AT (fun _=>BS ?_) fun _=>RF hb h1 hl fun x i2 z2 x0 x1 h2=>BS ?_))
    ·exact hK ⟨kd,0,0,0,⟨#[]⟩⟩ i1 z1 (I 0) (I 0) (I 0) (I 0) (I 0) ⟨hkd,by simp only;omega,by simp only;omega,by simp only;omega,nil⟩ h1
    ·exact hK ⟨kd,x,0,0,⟨#[]⟩⟩ i2 z2 (I 0) (I 0) (I 0) (I 0) (I 0) ⟨hkd,⟨x0,x1⟩,by simp only;omega,by simp only;omega,nil⟩ h2
theorem eK {L:List Int} {i m:Nat} {z:Int} {K:J2} (hb:WN L) (hi:i≤L.length) (hm:m≤1000) (h: ∀(l:List Op5) i' z',l.length≤m→(∀o∈l,OpD o)→i'≤L.length→K [iv i',I z'] [tR tP l]):cl2 ⟨Tryz.prog,w0⟩ 33 JA.sg [iv i,I z,I m] [tY L] K:=by
 refine JA.cl2 ?_
 unfold JA.txt
 refine RA (CW ⟨by omega,by omega⟩ (FQ hb hi fun x i1 z1 x0 x1 h1=> ?_))
 obtain ⟨n,rfl⟩: ∃n:Nat,x=n:=⟨x.toNat,by omega⟩
 simp only [AI,AL,AH,AJ,AM,AE,AG,AR,AP,AN,AQ,AO,AS,AK,BD,BF,BI,BJ,BH,BG,BE,A1,AZ,AY,AX,A4,A5]
 refine DK (α:=Nat×Nat×Int×List Op5×Hp) (fun q=>[iv q.1,iv q.2.1,I q.2.2.1]) (fun q=>[tR tP q.2.2.2.1,tR tO q.2.2.2.2.BA,tR tW q.2.2.2.2.B7,tI q.2.2.2.2.buffer,tS q.2.2.2.2.sites]) (fun q=>q.1) (fun q=>q.1+q.2.2.2.1.length≤m∧q.2.1≤L.length∧(∀o∈q.2.2.2.1,OpD o)∧DH q.2.2.2.2) (n,i1,z1,[],hp0) rfl rfl ⟨by simp;omega,h1,by simp,sM⟩ (fun R q hq hR=> ?_)
 obtain ⟨n,i,z,l,hp⟩:=q
 obtain ⟨q1,q2,q3,q4⟩:=hq
 simp only at q1 q2 q3 q4
 have ol:=q4.ol
 simp only [AI,AL,AH,AJ,AM,AE,AG,AR,AP,AN,AQ,AO,AS,AK,BD,BF,BI,BJ,BH,BG,BE,A1,AZ,AY,AX,A4,A5]
 refine GN (AT (fun hgt=> ?_) fun hle=> ?_)
 ·have hgt:0<n:=by omega
  refine iN hb q2 (by omega) fun o i2 z2 ho h2=> ?_
  simp only [AI,AL,AH,AJ,AM,AE,AG,AR,AP,AN,AQ,AO,AS,AK,BD,BF,BI,BJ,BH,BG,BE,A1,AZ,AY,AX,A4,A5]
  refine VV q4.fits q4.m4 ho.f.a ho.f.c ?_
  rw [RP q4]
  refine EB rfl (by first | omega | (simp only [AI,AL,AH,AJ,AM,AE,AG,AR,AP,AN,AQ,AO,AS,AK,BD,BF,BI,BJ,BH,BG,BE,A1,AZ,AY,AX,A4,A5];omega)) (DZ ⟨by omega,by omega⟩ ?_)
  have hR:=hR (n-1,i2,z2,l++[o],(H6 hp o).1) ⟨by simp;omega,h2,fun x hx=> ?_,q4.step⟩ (by simp only;omega)
  ·rw [show (n:Int)-1=((n-1:Nat):Int) from by omega,YI]
   exact hR
  ·rcases List.mem_append.1 hx with hx | hx
   ·exact q3 x hx
   ·rw [List.mem_singleton.1 hx];exact ho
 ·exact h l i z (by omega) q3 q2
end Go.Proofs.YtnhicpkhkaihoaaGreat.P
