/- A part of the proof. -/
import Derived.Test.YtklmcfpgdfibnaaLkHpFa
namespace Go.Proofs.Ytklmcfpgdfibnaa.P
open Go Go.Proofs.Ytklmcfpgdfibnaa Go.Proofs.Ytklmcfpgdfibnaa.Eng
set_option linter.unusedVariables false
theorem VJ (s g:Int): -1≤B6 s g∧B6 s g≤7999:=by unfold B6;split <;> omega
structure eH (h:Hp) (r:Hp×An):Prop where
 code:0≤r.2.code∧r.2.code≤6
 val: -1≤r.2.val∧r.2.val≤7999
 ref:r.2.code≠0→r.1=h∧r.2.freed=[]
 fr: ∀x∈r.2.freed,0≤AB h.AA x∧AB r.1.AA x<0
 nd:r.2.freed.Nodup
 len:r.2.freed.length≤8
theorem eH.plain {h h':Hp} {c v:Int} (hc:0≤c∧c≤6) (hv: -1≤v∧v≤7999) (hr:c≠0→h'=h):eH h (h',⟨c,v,[]⟩):=⟨hc,hv,fun hh=>⟨hr hh,rfl⟩,by simp,List.nodup_nil,by simp⟩
theorem N6.slot {a b:List AG} (h:N6 a b) (x:Int):AB b x=AB a x:=EH h.1 fun i _=>⟨(h.2 i).1,(h.2 i).2.1⟩
theorem Mid.step {h:Hp} {r:List AG×List Int×An} (m:Mid h.AA h.sites.length h.buffer r):eH h (⟨r.1,h.B4,r.2.1,h.sites⟩,r.2.2):=by
 rcases m with ⟨c,hc,rfl⟩ | ⟨os1,h1,_,_,rfl⟩ | ⟨os1,x,h1,hs,_,rfl⟩
 ·exact eH.plain ⟨by omega,by omega⟩ (by omega) fun _=>rfl
 ·exact eH.plain (by decide) (by omega) fun hh=>absurd rfl hh
 ·have R:=kO h1
  have h8:=bA h1.ol
  have hct:=R.ct
  refine ⟨⟨by simp [OS],by simp [OS]⟩,⟨by simp [OS],by simp [OS]⟩,fun hh=>absurd rfl hh,fun x hx=> ?_,R.nd,by simp only [OS];omega⟩
  obtain ⟨a,b⟩:=(R.fr x).1 hx
  rw [hs.slot] at a
  exact ⟨a,b⟩
end Go.Proofs.Ytklmcfpgdfibnaa.P
namespace Go.Proofs.Ytklmcfpgdfibnaa.P
open Go Go.Proofs.Ytklmcfpgdfibnaa Go.Proofs.Ytklmcfpgdfibnaa.Eng
set_option linter.unusedVariables false
set_option maxHeartbeats 4000000
set_option linter.unusedVariables false
set_option linter.unusedSimpArgs false
attribute [local irreducible] prP gP gE gF A6 ixW ldc ldg ldl stc stg scW mkW apW BD cl2 BP C3 B9
variable {w0:World}
def tY (l:List Int):List T:=l.map fun n=> .c (.int .u8 n)
structure QW (l:List Int):Prop where
 len:(l.length:Int)<2^62
 all: ∀x∈l,0≤x∧x≤255
theorem eT (l:List Int):cnt 1 (tY l)=l.length:=by simp [cnt,tY]
theorem ldY {l:List Int} {i:Nat} {K:Value→Prop} (hi:i<l.length) (h:K (.int .u8 (gI l i))):ldc (tY l) [] (AD (iv i)*1) K:=by
 rw [←CM hi] at h
 exact pV (by rw [BB];simp [tY,hi]) h
theorem QW.at {l:List Int} (h:QW l) {i:Nat} (hi:i<l.length):0≤gI l i∧gI l i≤255:=by rw [←CM hi];exact h.all _ (List.getElem_mem hi)
theorem dE {a b:Int} {K:Value→Prop} (h: ∀x,F64 x→K (I x)):prP (bnI .mul (I a) (I b)) K:=CP (v:=I (w64 (a*b))) rfl (h _ (m3 _))
theorem XO {a:Int} {m:Nat} {K:Value→Prop} (hm:m<2^62) (h: ∀x:Int,0≤x→x≤m→K (I x)):prP (bnI .and (I a) (I m)) K:=by
 refine CP (v:= .int .i64 (IntKind.i64.wrap (BitVec.ofInt 64 a&&& BitVec.ofInt 64 m).toNat)) rfl ?_
 have e:(BitVec.ofInt 64 a&&& BitVec.ofInt 64 (m:Int)).toNat≤m:=by
  rw [BitVec.toNat_and,BitVec.ofInt_natCast,BitVec.toNat_ofNat,Nat.mod_eq_of_lt (by omega)]
  exact Nat.and_le_right
 rw [OB ⟨by omega,by omega⟩]
 exact h _ (by omega) (by omega)
theorem nG {a b:Int} {K:Value→Prop} (h: ∀x:Int,K (I x)):prP (bnI .xor (I a) (I b)) K:=
 CP (v:= .int .i64 (IntKind.i64.wrap (BitVec.ofInt 64 a^^^BitVec.ofInt 64 b).toNat)) rfl (h _)
theorem cM {a:Int} {n:Nat} {K:Value→Prop} (h: ∀x:Int,K (I x)):prP (bnI .shr (I a) (.int .u64 n)) K:=by
 have e:bnI .shr (I a) (.int .u64 (n:Int))=some (.int .i64 ((a:Int).fdiv (2^min (n:Int).toNat 64))):=by
  show (if (n:Int)<0 then none else _)=_
  rw [if_neg (by omega)];rfl
 rw [e];exact CP rfl (h _)
theorem Z8 {L:List Int} {K:J2} (hb:QW L) (h: ∀z,K [iv 0,I z] []):cl2 ⟨Try.prog,w0⟩ 85 G9.sg [] [tY L] K:=by
 have hL:=hb.len
 refine G9.cl2 ?_
 unfold G9.txt
 rw [eT]
 refine EC ⟨by omega,by omega⟩ ?_
 refine DJ (α:=Int×Nat) (fun q=>[I q.1,iv q.2]) (fun _=>[]) (fun q=>L.length-q.2) (fun q=>q.2≤L.length) (10101+(L.length:Int),0) rfl rfl (Nat.zero_le _) (fun R q hq hR=> ?_)
 obtain ⟨a,i⟩:=q
 simp only at hq hR
 simp only [AI,AP,AN,AS,AK,AE,AJ,AH,AM,AT,AL,AR,AO,AQ,BC,BE,BF,BJ,BL,BK,BH,AW,A5,AZ,A4,AY,AX]
 refine A9 (BG (ME (fun hlt=> ?_) fun hge=>ER hge rfl (B5 (h a))))
 refine A9 (FH hlt rfl (A7 (fun h4=> ?_) fun _=>h a))
 have hlt:i<L.length:=by omega
 have hx:=hb.at hlt
 refine dE fun x _=>AU hlt (ldY hlt (dP ⟨by omega,by omega⟩ (H4 (H4 (XO (m:=1073741823) (by omega) fun y _ _=>A8 (by omega) ?_)))))
 exact hR (y,i+1) (by simp only;omega) (by simp only;omega)
theorem IU {L:List Int} {i:Nat} {z:Int} {K:J2} (hb:QW L) (hi:i≤L.length) (h: ∀x i' z',0≤x→x≤255→i'≤L.length→K [I x,iv i',I z'] []):cl2 ⟨Try.prog,w0⟩ 151 DP.sg [iv i,I z] [tY L] K:=by
 have hL:=hb.len
 refine DP.cl2 ?_
 unfold DP.txt
 rw [eT]
 refine dE fun a _=>H4 (cM (n:=33) fun b=>cM (n:=45) fun c=>nG fun d=>XO (m:=255) (by omega) fun x h0 h1=>BW ?_)
 refine A9 (A7 (fun hlt=> ?_) fun hge=> ?_)
 ·have hlt:i<L.length:=by omega
  have hx:=hb.at hlt
  refine AU hlt (ldY hlt (dP ⟨by omega,by omega⟩ (EC ⟨by omega,by omega⟩ (XO (m:=255) (by omega) fun y y0 y1=>A8 (by omega) ?_))))
  exact h y (i+1) _ y0 y1 (by omega)
 ·exact h x i _ h0 h1 hi
theorem CC {L:List Int} {i:Nat} {z n:Int} {K:J2} (hb:QW L) (hi:i≤L.length) (h: ∀x i' z',0≤x→(x<n∨(n≤0∧x=0))→i'≤L.length→K [I x,iv i',I z'] []):cl2 ⟨Try.prog,w0⟩ 112 BU.sg [iv i,I z,I n] [tY L] K:=by
 refine BU.cl2 ?_
 unfold BU.txt
 refine KN (A7 (fun h0=>h 0 i z (by omega) (.inr ⟨h0,rfl⟩) hi) fun h0=>KN (A7 (fun h1=> ?_) fun h1=> ?_))
 ·refine IU hb hi fun x i' z' x0 x1 hi'=>SK x0 (by omega) ?_
  exact h _ i' z' (Int.emod_nonneg _ (by omega)) (.inl (Int.emod_lt_of_pos _ (by omega))) hi'
 ·refine IU hb hi fun x i1 z1 x0 x1 h1=>IU hb h1 fun y i2 z2 y0 y1 h2=>IU hb h2 fun u i3 z3 u0 u1 h3=>IU hb h3 fun v i4 z4 v0 v1 h4=> ?_
  simp only [AI,AP,AN,AS,AK,AE,AJ,AH,AM,AT,AL,AR,AO,AQ,BC,BE,BF,BJ,BL,BK,BH,AW,A5,AZ,A4,AY,AX]
  refine QM ⟨by omega,by omega⟩ (QM ⟨by omega,by omega⟩ (EC ⟨by omega,by omega⟩ (QM ⟨by omega,by omega⟩ (EC ⟨by omega,by omega⟩ (EC ⟨by omega,by omega⟩ (SK (by omega) (by omega) ?_))))))
  exact h _ i4 z4 (Int.emod_nonneg _ (by omega)) (.inl (Int.emod_lt_of_pos _ (by omega))) h4
theorem HN {L:List Int} {i:Nat} {z n:Int} {K:J2} (hb:QW L) (hi:i≤L.length) (h: ∀(b:Bool) i' z',i'≤L.length→K [.bool b,iv i',I z'] []):cl2 ⟨Try.prog,w0⟩ 95 C2.sg [iv i,I z,I n] [tY L] K:=
 C2.cl2 (CC hb hi fun x i' z' _ _ hi'=>B3 (h _ i' z' hi'))
theorem FV {L l:List Int} {i:Nat} {z:Int} {K:J2} (hb:QW L) (hi:i≤L.length) (hl:0<l.length) (h: ∀v∈l, ∀i' z',i'≤L.length→K [I v,iv i',I z'] []):cl2 ⟨Try.prog,w0⟩ 140 BZ.sg [iv i,I z] [tY L,tI l] K:=by
 refine BZ.cl2 ?_
 unfold BZ.txt
 rw [AE]
 refine CC hb hi fun x i' z' x0 x1 hi'=> ?_
 simp only [AI,AP,AN,AS,AK,AE,AJ,AH,AM,AT,AL,AR,AO,AQ,BC,BE,BF,BJ,BL,BK,BH,AW,A5,AZ,A4,AY,AX]
 have hx:x.toNat<l.length:=by omega
 refine UQ x0 (by omega) (ldI hx ?_)
 exact h _ (CH hx) i' z' hi'
theorem rW {l:List ByteArray} {i:Nat} (h:i<l.length):gS l i∈l:=by rw [←SX h];exact List.getElem_mem h
theorem KM {L:List Int} {l:List ByteArray} {i:Nat} {z:Int} {K:J2} (hb:QW L) (hi:i≤L.length) (hl:0<l.length) (h: ∀v∈l, ∀i' z',i'≤L.length→K [.string v,iv i',I z'] []):cl2 ⟨Try.prog,w0⟩ 139 C5.sg [iv i,I z] [tY L,tS l] K:=by
 refine C5.cl2 ?_
 unfold C5.txt
 rw [AJ]
 refine CC hb hi fun x i' z' x0 x1 hi'=> ?_
 simp only [AI,AP,AN,AS,AK,AE,AJ,AH,AM,AT,AL,AR,AO,AQ,BC,BE,BF,BJ,BL,BK,BH,AW,A5,AZ,A4,AY,AX]
 have hx:x.toNat<l.length:=by omega
 refine UQ x0 (by omega) (ldS hx ?_)
 exact h _ (rW hx) i' z' hi'
def FE (l:List AG) (i:Nat):List Int:=if (i:Int)<8∧(ob l i).live=true then [B6 i (ob l i).gen] else []
def B2 (l:List AG):List Int:=pick (FE l) l.length
theorem T8 (l:List AG) (i:Nat):(FE l i).length≤1:=by unfold FE;split <;> simp
theorem WS {α:Type} {f:Nat→List α} {P:α→Prop} (h: ∀i, ∀x∈f i,P x): ∀n, ∀x∈pick f n,P x
 | 0,x,hx=>by simp [pick] at hx
 | n+1,x,hx=>by
   rw [pick] at hx
   rcases List.mem_append.1 hx with hx | hx
   ·exact WS h n x hx
   ·exact h n x hx
theorem oM (l:List AG): ∀x∈B2 l, -1≤x∧x≤7999:=WS (fun i x hx=>by
 unfold FE at hx;split at hx
 ·rw [List.mem_singleton.1 hx];exact VJ _ _
 ·cases hx) _
theorem GN (l:List AG):(B2 l).length≤l.length:=HY (T8 l) _
theorem JG {a:List AG} {b c d:List T} {K:J2} (hl:(a.length:Int)≤1048576) (h:K [] [tI (B2 a)]):cl2 ⟨Try.prog,w0⟩ 30 CU.sg [] [tR tO a,b,c,d] K:=by
 refine CU.cl2 ?_
 unfold CU.txt
 refine BM (fun i=>[iv i]) (fun i=>[tI (pick (FE a) i)]) a.length (fun i=>i≤8) rfl rfl (by omega) (fun R i hi hP hR=> ?_)
 have hpl:=HY (T8 a) i
 have hstop:a.length≤i∨8≤i→K [] [tI (pick (FE a) i)]:=by
  intro hs
  have:pick (FE a) a.length=pick (FE a) i:=by
   rcases hs with hs | hs
   ·have:i=a.length:=by omega
    rw [this]
   ·exact QL (fun k hk=>by unfold FE;rw [if_neg];omega) _ hi
  rw [B2,this] at h;exact h
 simp only [AI,AP,AN,AS,AK,AE,AJ,AH,AM,AT,AL,AR,AO,AQ,BC,BE,BF,BJ,BL,BK,BH,AW,A5,AZ,A4,AY,AX]
 refine A9 (BG (ME (fun hlt=> ?_) fun hge=> ?_))
 rotate_left
 ·exact ER hge rfl (B5 (hstop (by omega)))
 refine A9 (FH hlt rfl (A7 (fun h4=>BW ?_) fun h4=>hstop (by omega)))
 have hlt:i<a.length:=by omega
 have hR:=hR hlt (by omega)
 refine AU hlt (LD hlt rfl ?_)
 cases hv:(ob a i).live with
 | true=>
   have e:FE a i=[B6 i (ob a i).gen]:=by unfold FE;rw [if_pos ⟨by omega,hv⟩]
   refine CE (AU hlt (HQ hlt (by decide) rfl (G5 (DG rfl (by first | omega | (simp only [AI,AP,AN,AS,AK,AE,AJ,AH,AM,AT,AL,AR,AO,AQ,BC,BE,BF,BJ,BL,BK,BH,AW,A5,AZ,A4,AY,AX];omega)) ?_))))
   simp only [AI,AP,AN,AS,AK,AE,AJ,AH,AM,AT,AL,AR,AO,AQ,BC,BE,BF,BJ,BL,BK,BH,AW,A5,AZ,A4,AY,AX]
   rw [C4,SZ e]
   exact A8 (by omega) hR
 | false=>
   have e:FE a i=[]:=by unfold FE;rw [if_neg];rintro ⟨_,h⟩;rw [hv] at h;cases h
   refine B5 ?_
   simp only [AI,AP,AN,AS,AK,AE,AJ,AH,AM,AT,AL,AR,AO,AQ,BC,BE,BF,BJ,BL,BK,BH,AW,A5,AZ,A4,AY,AX]
   rw [←N0 e] at hR
   exact A8 (by omega) hR
theorem OY {L:List Int} {i:Nat} {z:Int} {a:List AG} {b c d:List T} {K:J2} (hb:QW L) (hi:i≤L.length) (hl:(a.length:Int)≤1048576) (h: ∀v i' z', -1≤v→v≤7999→i'≤L.length→K [I v,iv i',I z'] []):cl2 ⟨Try.prog,w0⟩ 113 GR.sg [iv i,I z] [tY L,tR tO a,b,c,d] K:=by
 have hbd:=oM a
 refine GR.cl2 ?_
 unfold GR.txt
 refine JG hl ?_
 simp only [AI,AP,AN,AS,AK,AE,AJ,AH,AM,AT,AL,AR,AO,AQ,BC,BE,BF,BJ,BL,BK,BH,AW,A5,AZ,A4,AY,AX]
 have pk6: ∀{i:Nat} {z:Int},i≤L.length→cl2 ⟨Try.prog,w0⟩ 140 BZ.sg [iv i,I z] [tY L,[T.c (.int .i64 (-1)),T.c (.int .i64 0),T.c (.int .i64 8),T.c (.int .i64 9),T.c (.int .i64 17),T.c (.int .i64 4000)]] fun v7 d8=>K [nx v7 0,nx v7 1,nx v7 2] []:=fun hi=>by
  refine FV (l:=[-1,0,8,9,17,4000]) hb hi (by simp) fun v hv i' z' hi'=> ?_
  have: -1≤v∧v≤7999:=by simp at hv;omega
  exact h v i' z' this.1 this.2 hi'
 refine B3 (BG (yO (fun hne=> ?_) fun he=> ?_))
 ·refine HN hb hi fun b i' z' hi'=>ER hne rfl (X0 (fun _=>pk6 hi') fun _=> ?_)
  refine CC hb hi' fun x i2 z2 x0 x1 hi2=> ?_
  simp only [AI,AP,AN,AS,AK,AE,AJ,AH,AM,AT,AL,AR,AO,AQ,BC,BE,BF,BJ,BL,BK,BH,AW,A5,AZ,A4,AY,AX]
  have hx:x.toNat<(B2 a).length:=by omega
  have:=hbd _ (CH hx)
  exact UQ x0 (by omega) (ldI hx (h _ i2 z2 this.1 this.2 hi2))
 ·exact FH he rfl (CE (pk6 hi))
structure OpD (o:Op5):Prop where
 k:0≤o.kind∧o.kind≤11
 a: -1≤o.a∧o.a≤7999
 b: -1≤o.b∧o.b≤3
 c: -1≤o.c∧o.c≤7999
 s:o.site.size≤12
theorem OpD.f {o:Op5} (h:OpD o):OpF o:=⟨by have:=h.k;exact ⟨by omega,by omega⟩,by have:=h.a;exact ⟨by omega,by omega⟩,by have:=h.b;exact ⟨by omega,by omega⟩,by have:=h.c;exact ⟨by omega,by omega⟩,by have:=h.s;omega⟩
theorem dL {L:List Int} {i:Nat} {z:Int} {a:List AG} {b c d:List T} {K:J2} (hb:QW L) (hi:i≤L.length) (hl:(a.length:Int)≤1048576) (h: ∀(o:Op5) i' z',OpD o→i'≤L.length→K [I o.kind,I o.a,I o.b,I o.c, .string o.site,iv i',I z'] []):cl2 ⟨Try.prog,w0⟩ 128 IE.sg [iv i,I z] [tY L,tR tO a,b,c,d] K:=by
 refine IE.cl2 ?_
 unfold IE.txt
 refine FV (l:=[1,1,1,2,3,3,3,4,4,4,4,5,6,7,8,9,10,4]) hb hi (by simp) fun kd hkd i1 z1 h1=> ?_
 have hkd:0≤kd∧kd≤11:=by simp at hkd;omega
 have nil:(⟨#[]⟩:ByteArray).size≤12:=Nat.zero_le _
 have hK: ∀(o:Op5) i' z' (y1 y2 y3 y4 y5:Value),OpD o→i'≤L.length→cl2 ⟨Try.prog,w0⟩ 112 BU.sg [iv i',I z',I 50] [tY L] fun v34 d35=>
   prP (bnI .eql (nx v34 0) (.int .i64 0)) fun t49_36=>
   A6 t49_36 (cl2 ⟨Try.prog,w0⟩ 140 BZ.sg [nx v34 1,nx v34 2] [tY L,[T.c (.int .i64 0),T.c (.int .i64 11)]] fun v37 d38=>K [nx v37 0,I o.a,I o.b,I o.c, .string o.site,nx v37 1,nx v37 2] []) (
   prP (bnI .eql (nx v34 0) (.int .i64 1)) fun t55_39=>
   A6 t55_39 (cl2 ⟨Try.prog,w0⟩ 140 BZ.sg [nx v34 1,nx v34 2] [tY L,[T.c (.int .i64 (-1)),T.c (.int .i64 3)]] fun v40 d41=>K [I o.kind,I o.a,nx v40 0,I o.c, .string o.site,nx v40 1,nx v40 2] []) (
   prP (bnI .eql (nx v34 0) (.int .i64 2)) fun t61_42=>
   A6 t61_42 (cl2 ⟨Try.prog,w0⟩ 139 C5.sg [nx v34 1,nx v34 2] [tY L,[T.c (.string {data:= #[]}),T.c (.string {data:= #[116,111,111,108,111,110,103,97,115,105,116,101]}),T.c (.string {data:= #[115,49]}),T.c (.string {data:= #[115,50]}),T.c (.string {data:= #[115,51]}),T.c (.string {data:= #[115,52]}),T.c (.string {data:= #[115,53]})]] fun v43 d44=>K [I o.kind,I o.a,I o.b,I o.c,nx v43 0,nx v43 1,nx v43 2] [])
    (K [I o.kind,I o.a,I o.b,I o.c, .string o.site,nx v34 1,nx v34 2] []))):=by
  intro o i' z' _ _ _ _ _ ho hi'
  refine CC hb hi' fun x i2 z2 x0 x1 h2=> ?_
  refine B3 (A7 (fun _=> ?_) fun _=>B3 (A7 (fun _=> ?_) fun _=>B3 (A7 (fun _=> ?_) fun _=>h o i2 z2 ho h2)))
  ·refine FV (l:=[0,11]) hb h2 (by simp) fun v hv i3 z3 h3=> ?_
   exact h ⟨v,o.a,o.b,o.c,o.site⟩ i3 z3 ⟨by simp at hv;simp only;omega,ho.a,ho.b,ho.c,ho.s⟩ h3
  ·refine FV (l:=[-1,3]) hb h2 (by simp) fun v hv i3 z3 h3=> ?_
   exact h ⟨o.kind,o.a,v,o.c,o.site⟩ i3 z3 ⟨ho.k,ho.a,by simp at hv;simp only;omega,ho.c,ho.s⟩ h3
  ·refine KM (l:=[⟨#[]⟩,⟨#[116,111,111,108,111,110,103,97,115,105,116,101]⟩,⟨#[115,49]⟩,⟨#[115,50]⟩,⟨#[115,51]⟩,⟨#[115,52]⟩,⟨#[115,53]⟩]) hb h2 (by simp) fun v hv i3 z3 h3=> ?_
   refine h ⟨o.kind,o.a,o.b,o.c,v⟩ i3 z3 ⟨ho.k,ho.a,ho.b,ho.c, ?_⟩ h3
   simp only [List.mem_cons,List.not_mem_nil,or_false] at hv
   rcases hv with rfl | rfl | rfl | rfl | rfl | rfl | rfl <;> (simp only;decide)
 refine BW ?_
 refine B3 (A7 (fun _=> ?_) fun _=>B3 (A7 (fun _=> ?_) fun _=>BW ?_))
 ·refine KM (l:=[⟨#[97]⟩,⟨#[98]⟩,⟨#[108,105,115,116]⟩,⟨#[110,111,100,101]⟩]) hb h1 (by simp) fun v hv i3 z3 h3=>BW ?_
  refine hK ⟨kd,0,0,0,v⟩ i3 z3 (I 0) (I 0) (I 0) (I 0) (I 0) ⟨hkd,by simp only;omega,by simp only;omega,by simp only;omega, ?_⟩ h3
  simp only [List.mem_cons,List.not_mem_nil,or_false] at hv
  rcases hv with rfl | rfl | rfl | rfl <;> (simp only;decide)
 ·refine OY hb h1 hl fun x i2 z2 x0 x1 h2=>CC hb h2 fun y i3 z3 y0 y1 h3=>OY hb h3 hl fun u i4 z4 u0 u1 h4=>HN hb h4 fun b i5 z5 h5=>X0 (fun _=>BW ?_) fun _=>BW ?_
  ·exact hK ⟨kd,x,y, -1,⟨#[]⟩⟩ i5 z5 (I 0) (I 0) (I 0) (I 0) (I 0) ⟨hkd,⟨x0,x1⟩,by simp only;omega,by simp only;omega,nil⟩ h5
  ·exact hK ⟨kd,x,y,u,⟨#[]⟩⟩ i5 z5 (I 0) (I 0) (I 0) (I 0) (I 0) ⟨hkd,⟨x0,x1⟩,by simp only;omega,⟨u0,u1⟩,nil⟩ h5
 ·refine B3 (A7 (fun e8=> ?_) fun n8=>B3 ?_)
  ·refine GA e8 (CC hb h1 fun x i2 z2 x0 x1 h2=>BW ?_)
   exact hK ⟨kd,x,0,0,⟨#[]⟩⟩ i2 z2 (I 0) (I 0) (I 0) (I 0) (I 0) ⟨hkd,by simp only;omega,by simp only;omega,by simp only;omega,nil⟩ h2
  ·by_cases e9:kd=9
   ·refine GA e9 (CC hb h1 fun x i2 z2 x0 x1 h2=>BW ?_)
    exact hK ⟨kd,x,0,0,⟨#[]⟩⟩ i2 z2 (I 0) (I 0) (I 0) (I 0) (I 0) ⟨hkd,by simp only;omega,by simp only;omega,by simp only;omega,nil⟩ h2
   ·refine DU e9 (B3 (A7 (fun _=>BW ?_) fun _=>OY hb h1 hl fun x i2 z2 x0 x1 h2=>BW ?_))
    ·exact hK ⟨kd,0,0,0,⟨#[]⟩⟩ i1 z1 (I 0) (I 0) (I 0) (I 0) (I 0) ⟨hkd,by simp only;omega,by simp only;omega,by simp only;omega,nil⟩ h1
    ·exact hK ⟨kd,x,0,0,⟨#[]⟩⟩ i2 z2 (I 0) (I 0) (I 0) (I 0) (I 0) ⟨hkd,⟨x0,x1⟩,by simp only;omega,by simp only;omega,nil⟩ h2
theorem bC {L:List Int} {i m:Nat} {z:Int} {K:J2} (hb:QW L) (hi:i≤L.length) (hm:m≤1000) (h: ∀(l:List Op5) i' z',l.length≤m→(∀o∈l,OpD o)→i'≤L.length→K [iv i',I z'] [tR tP l]):cl2 ⟨Try.prog,w0⟩ 108 G6.sg [iv i,I z,I m] [tY L] K:=by
 refine G6.cl2 ?_
 unfold G6.txt
 refine PN (EC ⟨by omega,by omega⟩ (CC hb hi fun x i1 z1 x0 x1 h1=> ?_))
 obtain ⟨n,rfl⟩: ∃n:Nat,x=n:=⟨x.toNat,by omega⟩
 simp only [AI,AP,AN,AS,AK,AE,AJ,AH,AM,AT,AL,AR,AO,AQ,BC,BE,BF,BJ,BL,BK,BH,AW,A5,AZ,A4,AY,AX]
 refine DJ (α:=Nat×Nat×Int×List Op5×Hp) (fun q=>[iv q.1,iv q.2.1,I q.2.2.1]) (fun q=>[tR tP q.2.2.2.1,tR tO q.2.2.2.2.AA,tR tW q.2.2.2.2.B4,tI q.2.2.2.2.buffer,tS q.2.2.2.2.sites]) (fun q=>q.1) (fun q=>q.1+q.2.2.2.1.length≤m∧q.2.1≤L.length∧(∀o∈q.2.2.2.1,OpD o)∧BO q.2.2.2.2) (n,i1,z1,[],hp0) rfl rfl ⟨by simp;omega,h1,by simp,qG⟩ (fun R q hq hR=> ?_)
 obtain ⟨n,i,z,l,hp⟩:=q
 obtain ⟨q1,q2,q3,q4⟩:=hq
 simp only at q1 q2 q3 q4
 have ol:=q4.ol
 simp only [AI,AP,AN,AS,AK,AE,AJ,AH,AM,AT,AL,AR,AO,AQ,BC,BE,BF,BJ,BL,BK,BH,AW,A5,AZ,A4,AY,AX]
 refine JJ (A7 (fun hgt=> ?_) fun hle=> ?_)
 ·have hgt:0<n:=by omega
  refine dL hb q2 (by omega) fun o i2 z2 ho h2=> ?_
  simp only [AI,AP,AN,AS,AK,AE,AJ,AH,AM,AT,AL,AR,AO,AQ,BC,BE,BF,BJ,BL,BK,BH,AW,A5,AZ,A4,AY,AX]
  refine SS q4.fits q4.I6 ho.f.a ho.f.c ?_
  rw [XN q4]
  refine DG rfl (by first | omega | (simp only [AI,AP,AN,AS,AK,AE,AJ,AH,AM,AT,AL,AR,AO,AQ,BC,BE,BF,BJ,BL,BK,BH,AW,A5,AZ,A4,AY,AX];omega)) (JP ⟨by omega,by omega⟩ ?_)
  have hR:=hR (n-1,i2,z2,l++[o],(FQ hp o).1) ⟨by simp;omega,h2,fun x hx=> ?_,q4.step⟩ (by simp only;omega)
  ·rw [show (n:Int)-1=((n-1:Nat):Int) from by omega,rF]
   exact hR
  ·rcases List.mem_append.1 hx with hx | hx
   ·exact q3 x hx
   ·rw [List.mem_singleton.1 hx];exact ho
 ·exact h l i z (by omega) q3 q2
end Go.Proofs.Ytklmcfpgdfibnaa.P
