/- A part of the proof. -/
import Derived.Test.YtnhicpkhkaihoaaGreatFaWireD
import Derived.Test.YtnhicpkhkaihoaaGreatFaLawTyAnswer
namespace Go.Proofs.YtnhicpkhkaihoaaGreat.P
open Go Go.Proofs.YtnhicpkhkaihoaaGreat Go.Proofs.YtnhicpkhkaihoaaGreat.Eng
set_option maxHeartbeats 4000000
set_option linter.unusedVariables false
set_option linter.unusedSimpArgs false
attribute [local irreducible] prP gP gE gF AU ixW ldc ldg ldl stc stg scW mkW apW BG cl2 BX GP CZ
variable {w0:World}
theorem qD (s:ByteArray):((rv s).2=0∧(rv s).1=0)∨ ∃j:Nat,1≤j∧j≤7∧j≤s.size∧(rv s).2=j∧0≤(rv s).1∧(rv s).1<2^49∧V (rv s).1=s.extract 0 j:=by
 rcases Dv s with h | ⟨j,h1,h2,h3,h4,h5⟩
 ·exact .inl (by rw [h];exact ⟨rfl,rfl⟩)
 ·have:=YW s h2
  exact .inr ⟨j,h1,h2,h3,by rw [h5],by rw [h5];omega,by rw [h5];simp only;omega,by rw [h5];exact (XG h2 h3).2 h4⟩
theorem NW (s:ByteArray):0≤(rv s).1∧(rv s).1<2^49∧0≤(rv s).2∧(rv s).2≤7∧(rv s).2≤s.size:=by
 rcases qD s with ⟨h1,h2⟩ | ⟨j,h1,h2,h3,h4,h5,h6,_⟩ <;> omega
def zag (n:Int):Int:=if n % 2=0 then n/2 else 0-n/2-1
theorem mH {n:Int} {K:J2} (hn:0≤n∧n<2^62) (h:K [I (zag n)] []):cl2 ⟨Tryz.prog,w0⟩ 182 L4.sg [I n] [] K:=by
 refine L4.cl2 ?_
 unfold L4.txt
 repeat' (first | refine qN ⟨by omega,by omega⟩ ?_ | refine BA ?_ | refine B3 ⟨by omega,by omega⟩ ?_ | refine JX (by omega) (by omega) ?_ | refine NY (by omega) ⟨by omega,by omega⟩ (by omega) ?_ | refine AG (fun _=> ?_) (fun _=> ?_))
 ·rw [zag,if_pos (by assumption)] at h;exact h
 ·rw [zag,if_neg (by assumption)] at h;exact h
theorem nT {n:Int} {K:J2} (hn:0≤n∧n<2^62) (h:K [I (zag n)] []):cl2 ⟨Tryz.prog,w0⟩ 183 K9.sg [I n] [] K:=by
 refine K9.cl2 ?_
 unfold K9.txt
 repeat' (first | refine qN ⟨by omega,by omega⟩ ?_ | refine BA ?_ | refine B3 ⟨by omega,by omega⟩ ?_ | refine JX (by omega) (by omega) ?_ | refine NY (by omega) ⟨by omega,by omega⟩ (by omega) ?_ | refine AG (fun _=> ?_) (fun _=> ?_))
 ·rw [zag,if_pos (by assumption)] at h;exact h
 ·rw [zag,if_neg (by assumption)] at h;exact h
theorem Cg {n:Int} (h0:0≤n) (h1:n≤200000000000000):zg (zag n)=n:=by
 unfold zg zag
 split
 ·rw [if_pos (by rw [KR];omega),if_neg (by omega)];omega
 ·rw [if_pos (by rw [KR];omega),if_pos (by omega)];omega
theorem Bd {n:Int} (h1:n>200000000000000):zg (zag n)= -1:=by
 unfold zg zag
 split
 ·rw [if_neg];rw [KR];omega
 ·rw [if_neg];rw [KR];omega
theorem Di:V (-1)=⟨#[]⟩:=by rw [V,if_neg];rw [KR];omega
def ri (s:ByteArray):Int×Int:=if (rv s).2=0∨(rv s).1>200000000000000 then (0,0) else (zag (rv s).1,(rv s).2)
theorem As (s:ByteArray): -100000000000001≤(ri s).1∧(ri s).1≤100000000000001∧0≤(ri s).2∧(ri s).2≤7∧(ri s).2≤s.size:=by
 have h:=NW s
 unfold ri;split
 ·simp only;omega
 ·simp only
  refine ⟨?_, ?_,by omega,by omega,by omega⟩
  ·unfold zag;split <;> omega
  ·unfold zag;split <;> omega
attribute [irreducible] ri zag
theorem aF {s:ByteArray} {K:J2} (hs:(s.size:Int)<2^62) (h:K [I (ri s).1,I (ri s).2] []):cl2 ⟨Tryz.prog,w0⟩ 140 HN.sg [.string s] [] K:=by
 refine HN.cl2 ?_
 unfold HN.txt
 have hb:=NW s
 repeat' (first | refine KK hs ?_ | refine mH ⟨by omega,by omega⟩ ?_ | refine BM ?_ | refine CI (by first | with_reducible assumption | omega) rfl ?_ | refine CD (by first | with_reducible assumption | omega) rfl ?_ | refine BP ?_ | refine AV ?_ | refine BA ?_ | refine AG (fun _=> ?_) (fun _=> ?_) | refine F5 (fun _=> ?_) (fun _=> ?_) | simp only [AK,AS,AJ,AI,AM,AE,AH,AN,AO,AP,AL,AR,AT,AQ,BB,BE,BI,BH,BK,BJ,BF,AX,A4,AY,A1,AZ,A5])
 ·rw [ri,if_pos (by omega)] at h;exact h
 ·rw [ri,if_neg (by omega)] at h;exact h
 ·rw [ri,if_pos (by omega)] at h;exact h
theorem Bb {a b:ByteArray} (h:a.size≠b.size):a≠b:=fun he=>h (by rw [he])
theorem bX {s:ByteArray} {K:J2} (hs:(s.size:Int)<2^62) (h:K [I (ri s).1,I (ri s).2] []):cl2 ⟨Tryz.prog,w0⟩ 155 HY.sg [.string s] [] K:=by
 refine HY.cl2 ?_
 unfold HY.txt
 have hb:=NW s
 have key:(rv s).2≠0→(SI (zag (rv s).1)≠s.extract 0 (rv s).2.toNat↔(rv s).1>200000000000000):=fun h0=>by
  rcases qD s with ⟨h1,_⟩ | ⟨j,j1,j2,j3,j4,j5,j6,j7⟩
  ·exact absurd h1 h0
  ·have e:(rv s).2.toNat=j:=by omega
   rw [e,SI]
   by_cases hg:(rv s).1>200000000000000
   ·rw [Bd hg,Di]
    refine ⟨fun _=>hg,fun _=>Bb ?_⟩
    rw [ByteArray.size_extract]
    have:(⟨#[]⟩:ByteArray).size=0:=rfl
    omega
   ·rw [Cg j5 (by omega),j7]
    exact ⟨fun hh=>absurd rfl hh,fun hh=>absurd hh hg⟩
 repeat' (first | refine ID hs ?_ | refine nT ⟨by omega,by omega⟩ ?_ | refine IC ?_ | refine XP (by omega) (by omega) ?_ | refine BM ?_ | refine I8 (by first | with_reducible assumption | omega) ?_ | refine EP (by first | with_reducible assumption | omega) ?_ | refine CI (by first | with_reducible assumption | omega) rfl ?_ | refine CD (by first | with_reducible assumption | omega) rfl ?_ | refine BP ?_ | refine BA ?_ | refine NO ?_ | refine AG (fun _=> ?_) (fun _=> ?_) | refine F5 (fun _=> ?_) (fun _=> ?_) | simp only [AK,AS,AJ,AI,AM,AE,AH,AN,AO,AP,AL,AR,AT,AQ,BB,BE,BI,BH,BK,BJ,BF,AX,A4,AY,A1,AZ,A5])
 ·rename_i h1 h2
  rw [ri,if_pos (.inr ((key h1).1 h2))] at h;exact h
 ·rename_i h1 h2
  rw [ri,if_neg (by rw [←key h1];simp only [h1,false_or];exact h2)] at h;exact h
 ·rw [ri,if_pos (by omega)] at h;exact h
def rt (s:ByteArray):ByteArray×Int:=if (rv s).2=0∨(rv s).1>8∨(rv s).1>s.size-(rv s).2 then (⟨#[]⟩,0) else (s.extract (rv s).2.toNat ((rv s).2+(rv s).1).toNat,(rv s).2+(rv s).1)
theorem Al (s:ByteArray):0≤(rt s).2∧(rt s).2≤s.size∧(rt s).1.size≤8:=by
 have h:=NW s
 unfold rt;split
 ·refine ⟨by simp only;omega,by simp only;omega,Nat.zero_le _⟩
 ·refine ⟨by simp only;omega,by simp only;omega, ?_⟩
  simp only [ByteArray.size_extract];omega
attribute [irreducible] rt
theorem X9 {s:ByteArray} {K:J2} (hs:(s.size:Int)<2^62) (h:K [.string (rt s).1,I (rt s).2] []):cl2 ⟨Tryz.prog,w0⟩ 142 GN.sg [.string s] [] K:=by
 refine GN.cl2 ?_
 unfold GN.txt
 have hb:=NW s
 repeat' (first | refine KK hs ?_ | refine hZ (by omega) (by omega) (by omega) ?_ | refine BM ?_ | refine NH ?_ | refine I8 (by first | with_reducible assumption | omega) ?_ | refine EP (by first | with_reducible assumption | omega) ?_ | refine CI (by first | with_reducible assumption | omega) rfl ?_ | refine CD (by first | with_reducible assumption | omega) rfl ?_ | refine RF rfl ?_ | refine BP ?_ | refine AV ?_ | refine BA ?_ | refine CJ ?_ | refine B3 ⟨by omega,by omega⟩ ?_ | refine AG (fun _=> ?_) (fun _=> ?_) | refine F5 (fun _=> ?_) (fun _=> ?_))
 all_goals first
  | (rw [rt,if_pos (by omega)] at h;exact h)
  | (rw [rt,if_neg (by omega)] at h;exact h)
theorem YK {s:ByteArray} {K:J2} (hs:(s.size:Int)<2^62) (h:K [.string (rt s).1,I (rt s).2] []):cl2 ⟨Tryz.prog,w0⟩ 156 GI.sg [.string s] [] K:=by
 refine GI.cl2 ?_
 unfold GI.txt
 have hb:=NW s
 repeat' (first | refine ID hs ?_ | refine hZ (by omega) (by omega) (by omega) ?_ | refine BM ?_ | refine NH ?_ | refine I8 (by first | with_reducible assumption | omega) ?_ | refine EP (by first | with_reducible assumption | omega) ?_ | refine CI (by first | with_reducible assumption | omega) rfl ?_ | refine CD (by first | with_reducible assumption | omega) rfl ?_ | refine RF rfl ?_ | refine BP ?_ | refine AV ?_ | refine BA ?_ | refine CJ ?_ | refine B3 ⟨by omega,by omega⟩ ?_ | refine AG (fun _=> ?_) (fun _=> ?_) | refine F5 (fun _=> ?_) (fun _=> ?_))
 all_goals first
  | (rw [rt,if_pos (by omega)] at h;exact h)
  | (rw [rt,if_neg (by omega)] at h;exact h)
structure Frm where
 seq:Int
 pay:ByteArray
 n:Int
def rv2 (s:ByteArray):Int×Int:=rv (dr s (rv s).2.toNat)
theorem hH (s:ByteArray):0≤(rv2 s).1∧(rv2 s).1<2^49∧0≤(rv2 s).2∧(rv2 s).2≤7∧(rv2 s).2+(rv s).2≤s.size:=by
 have h:=NW s
 have h2:=NW (dr s (rv s).2.toNat)
 rw [C2] at h2
 unfold rv2;omega
def T5 (s:ByteArray):ByteArray:=s.extract ((rv s).2+(rv2 s).2).toNat ((rv s).2+(rv2 s).2+(rv2 s).1).toNat
def L7 (s:ByteArray):Prop:=(rv s).2=0∨(rv2 s).2=0∨(rv2 s).1>200∨(rv2 s).1>s.size-(rv s).2-(rv2 s).2-4
instance (s:ByteArray):Decidable (L7 s):=inferInstanceAs (Decidable (_∨_))
def rf (s:ByteArray):Frm:=if L7 s∨frm (rv s).1 (T5 s)≠s.extract 0 ((rv s).2+(rv2 s).2+(rv2 s).1+4).toNat then ⟨0,⟨#[]⟩,0⟩ else ⟨(rv s).1,T5 s,(rv s).2+(rv2 s).2+(rv2 s).1+4⟩
theorem dT (s:ByteArray):0≤(rf s).n∧(rf s).n≤s.size∧((rf s).n≠0→6≤(rf s).n)∧(rf s).pay.size≤200∧F64 (rf s).seq:=by
 have h:=NW s
 have h2:=hH s
 unfold rf;split
 ·exact ⟨by simp only;omega,by simp only;omega,fun hh=>absurd rfl hh,Nat.zero_le _,by simp only;exact ⟨by omega,by omega⟩⟩
 ·rename_i hn
  simp only [not_or,L7] at hn
  refine ⟨by simp only;omega,by simp only;omega,fun _=>by simp only;omega, ?_,by simp only;exact ⟨by omega,by omega⟩⟩
  simp only [T5,ByteArray.size_extract];omega
theorem sX (s:ByteArray):rv (dr s (rv s).2.toNat)=rv2 s:=by rw [rv2]
theorem pQ (s:ByteArray):s.extract ((rv s).2+(rv2 s).2).toNat ((rv s).2+(rv2 s).2+(rv2 s).1).toNat=T5 s:=by rw [T5]
attribute [irreducible] rf rv2 T5
theorem WX {s:ByteArray} {K:J2} (hs:(s.size:Int)<2^61) (h:K [I (rf s).seq, .string (rf s).pay,I (rf s).n] []):cl2 ⟨Tryz.prog,w0⟩ 77 FQ.sg [.string s] [] K:=by
 refine FQ.cl2 ?_
 unfold FQ.txt
 have hb:=NW s
 have hb2:=hH s
 have bad:L7 s→K [I 0, .string ⟨#[]⟩,I 0] []:=fun hh=>by rw [rf,if_pos (.inl hh)] at h;exact h
 have big: ¬L7 s→(rv s).1>400→K [I 0, .string ⟨#[]⟩,I 0] []:=fun hg hh=>by
  have hne:frm (rv s).1 (T5 s)≠s.extract 0 ((rv s).2+(rv2 s).2+(rv2 s).1+4).toNat:=by
   rw [frm,if_neg (by omega)]
   refine Bb ?_
   simp only [L7,not_or] at hg
   rw [ByteArray.size_extract]
   have:(⟨#[]⟩:ByteArray).size=0:=rfl
   omega
  rw [rf,if_pos (.inr hne)] at h
  exact h
 refine KK (by omega) (XR (by omega) (by omega) (KK (by rw [C2];omega) ?_))
 rw [sX]
 have hps:((T5 s).size:Int)≤s.size:=by simp only [T5,ByteArray.size_extract];omega
 by_cases hB:L7 s
 ·repeat' (first | exact bad hB | refine BM ?_ | refine NH ?_ | refine I8 (by first | with_reducible assumption | omega) ?_ | refine EP (by first | with_reducible assumption | omega) ?_ | refine CI (by first | with_reducible assumption | omega) rfl ?_ | refine CD (by first | with_reducible assumption | omega) rfl ?_ | refine RF rfl ?_ | refine BP ?_ | refine AV ?_ | refine BA ?_ | refine CJ ?_ | refine B3 ⟨by omega,by omega⟩ ?_ | refine AG (fun _=> ?_) (fun _=> ?_) | refine F5 (fun _=> ?_) (fun _=> ?_) | simp only [AK,AS,AJ,AI,AM,AE,AH,AN,AO,AP,AL,AR,AT,AQ,BB,BE,BI,BH,BK,BJ,BF,AX,A4,AY,A1,AZ,A5])
  exfalso;unfold L7 at hB;omega
 ·have hB':=hB
  simp only [L7,not_or] at hB'
  obtain ⟨n1,n2,n3,n4⟩:=hB'
  by_cases h4:(rv s).1>400
  ·repeat' (first | exact big hB h4 | refine BM ?_ | refine NH ?_ | refine I8 (by first | with_reducible assumption | omega) ?_ | refine EP (by first | with_reducible assumption | omega) ?_ | refine CI (by first | with_reducible assumption | omega) rfl ?_ | refine CD (by first | with_reducible assumption | omega) rfl ?_ | refine RF rfl ?_ | refine BP ?_ | refine AV ?_ | refine BA ?_)
  ·repeat' (first | rw [pQ] | refine hZ (by omega) (by omega) (by omega) ?_ | refine MM (show ((T5 s).size:Int)<2^62 by omega) ?_ | refine XP (by omega) (by omega) ?_ | refine BM ?_ | refine EP (by first | with_reducible assumption | omega) ?_ | refine CD (by first | with_reducible assumption | omega) rfl ?_ | refine C3 (by first | with_reducible assumption | omega) ?_ | refine AV ?_ | refine BA ?_ | refine CJ ?_ | refine B3 ⟨by omega,by omega⟩ ?_ | refine NO ?_ | refine AG (fun _=> ?_) (fun _=> ?_) | simp only [AK,AS,AJ,AI,AM,AE,AH,AN,AO,AP,AL,AR,AT,AQ,BB,BE,BI,BH,BK,BJ,BF,AX,A4,AY,A1,AZ,A5])
   ·rename_i hne
    rw [rf,if_pos (.inr hne)] at h;exact h
   ·rename_i hne
    rw [rf,if_neg (by rintro (h1 | h1);exact hB h1;exact hne h1)] at h;exact h
theorem W0 {s:ByteArray} {K:J2} (hs:(s.size:Int)<2^61) (h:K [I (rf s).seq, .string (rf s).pay,I (rf s).n] []):cl2 ⟨Tryz.prog,w0⟩ 98 FP.sg [.string s] [] K:=by
 refine FP.cl2 ?_
 unfold FP.txt
 have hb:=NW s
 have hb2:=hH s
 have bad:L7 s→K [I 0, .string ⟨#[]⟩,I 0] []:=fun hh=>by rw [rf,if_pos (.inl hh)] at h;exact h
 have hps:((T5 s).size:Int)≤s.size:=by simp only [T5,ByteArray.size_extract];omega
 refine ID (by omega) (BA (AG (fun h0=>bad (.inl h0)) fun h0=> ?_))
 refine XR (by omega) (by omega) (ID (by rw [C2];omega) ?_)
 rw [sX]
 by_cases hB:L7 s
 ·repeat' (first | exact bad hB | refine BM ?_ | refine NH ?_ | refine I8 (by first | with_reducible assumption | omega) ?_ | refine EP (by first | with_reducible assumption | omega) ?_ | refine CI (by first | with_reducible assumption | omega) rfl ?_ | refine CD (by first | with_reducible assumption | omega) rfl ?_ | refine RF rfl ?_ | refine BP ?_ | refine AV ?_ | refine BA ?_ | refine CJ ?_ | refine B3 ⟨by omega,by omega⟩ ?_ | refine AG (fun _=> ?_) (fun _=> ?_) | refine F5 (fun _=> ?_) (fun _=> ?_) | simp only [AK,AS,AJ,AI,AM,AE,AH,AN,AO,AP,AL,AR,AT,AQ,BB,BE,BI,BH,BK,BJ,BF,AX,A4,AY,A1,AZ,A5])
  exfalso;unfold L7 at hB;omega
 ·have hB':=hB
  simp only [L7,not_or] at hB'
  obtain ⟨n1,n2,n3,n4⟩:=hB'
  repeat' (first | rw [pQ] | refine hZ (by omega) (by omega) (by omega) ?_ | refine MQ (show ((T5 s).size:Int)<2^62 by omega) ?_ | refine XP (by omega) (by omega) ?_ | refine BM ?_ | refine EP (by first | with_reducible assumption | omega) ?_ | refine CD (by first | with_reducible assumption | omega) rfl ?_ | refine C3 (by first | with_reducible assumption | omega) ?_ | refine AV ?_ | refine BA ?_ | refine CJ ?_ | refine B3 ⟨by omega,by omega⟩ ?_ | refine NO ?_ | refine AG (fun _=> ?_) (fun _=> ?_) | simp only [AK,AS,AJ,AI,AM,AE,AH,AN,AO,AP,AL,AR,AT,AQ,BB,BE,BI,BH,BK,BJ,BF,AX,A4,AY,A1,AZ,A5])
  ·rename_i hne
   rw [rf,if_pos (.inr hne)] at h;exact h
  ·rename_i hne
   rw [rf,if_neg (by rintro (h1 | h1);exact hB h1;exact hne h1)] at h;exact h
end Go.Proofs.YtnhicpkhkaihoaaGreat.P
namespace Go.Proofs.YtnhicpkhkaihoaaGreat.P
open Go Go.Proofs.YtnhicpkhkaihoaaGreat Go.Proofs.YtnhicpkhkaihoaaGreat.Eng
set_option maxHeartbeats 4000000
set_option linter.unusedVariables false
set_option linter.unusedSimpArgs false
attribute [local irreducible] prP gP gE gF AU ixW ldc ldg ldl stc stg scW mkW apW BG cl2 BX GP CZ
variable {w0:World}
theorem jF {s p:ByteArray} {K:J2} (hs:(s.size:Int)<2^61) (hp:(p.size:Int)<2^61) (h1:p.size≤s.size→s.extract 0 p.size=p→K [.string (dr s p.size), .bool true] []) (h2:(s.size<p.size∨s.extract 0 p.size≠p)→K [.string s, .bool false] []):cl2 ⟨Tryz.prog,w0⟩ 76 EK.sg [.string s, .string p] [] K:=by
 refine EK.cl2 (DR.cl2 (C6.cl2 ?_))
 unfold C6.txt
 refine CJ (CJ (JA (BM (BM (IG (fun hge=> ?_) fun hlt=> ?_)))))
 ·refine CJ (IF hge (zJ (by omega) (BM (IF hge (IE (CI hge rfl ?_))))))
  refine CP (AG (fun hne=>h2 (.inr hne)) fun heq=> ?_)
  exact CJ (kT (by omega) (h1 (by omega) (Decidable.not_not.1 heq)))
 ·refine LP hlt (BM (LP hlt (CD hlt rfl (BU (BP (h2 (.inl (by omega))))))))
def rlF:Nat→ByteArray→List ByteArray→List ByteArray×Int
 | 0,_,_=>([],4)
 | f+1,s,out=>if s.size=0 then ([],4) else if (rf s).n=0 then ([],2) else if (rf s).seq≠out.length then ([],3) else
    if (rf s).pay=⟨#[]⟩ then (if (rf s).n<s.size then ([],5) else (out,0)) else rlF f (dr s (rf s).n.toNat) (out++[(rf s).pay])
def rl (s:ByteArray):List ByteArray×Int:=if s.size<5∨s.extract 0 5≠SF then ([],1) else rlF (s.size+1) (dr s 5) []
theorem YN {s:ByteArray}:s.size=0↔s=⟨#[]⟩:=⟨fun h=>ByteArray.ext (Array.eq_empty_of_size_eq_zero h),fun h=>by rw [h];rfl⟩
theorem oJ: ∀(f:Nat) (s:ByteArray) (out:List ByteArray),(rlF f s out).1.length≤out.length+f∧((∀p∈out,p.size≤200)→ ∀p∈(rlF f s out).1,p.size≤200)
 | 0,s,out=>by simp [rlF]
 | f+1,s,out=>by
   have hb:=dT s
   simp only [rlF]
   split
   ·simp
   ·split
    ·simp
    ·split
     ·simp
     ·split
      ·split
       ·simp
       ·exact ⟨by simp only;omega,fun h=>h⟩
      ·have ih:=oJ f (dr s (rf s).n.toNat) (out++[(rf s).pay])
       refine ⟨by have:=ih.1;simp only [List.length_append,List.length_singleton] at this;omega,fun h=>ih.2 fun p hp=> ?_⟩
       rcases List.mem_append.1 hp with h1 | h1
       ·exact h p h1
       ·rw [List.mem_singleton.1 h1];exact hb.2.2.2.1
theorem mV (s:ByteArray):(rl s).1.length≤s.size+1∧ ∀p∈(rl s).1,p.size≤200:=by
 unfold rl;split
 ·simp
 ·have:=oJ (s.size+1) (dr s 5) []
  exact ⟨by simpa using this.1,this.2 (by simp)⟩
structure RlI (s0 s:ByteArray) (out:List ByteArray):Prop where
 sz:s.size+out.length≤s0.size
 go: ∃f,s.size<f∧rlF f s out=rl s0
theorem RlI.next {s0 s:ByteArray} {out:List ByteArray} (h:RlI s0 s out) (h0:s.size≠0) (h1:(rf s).n≠0) (h2:(rf s).seq=out.length) (h3:(rf s).pay≠⟨#[]⟩):RlI s0 (dr s (rf s).n.toNat) (out++[(rf s).pay]):=by
 obtain ⟨g1,f,g2,g3⟩:=h
 have hb:=dT s
 have:=hb.2.2.1 h1
 obtain ⟨f,rfl⟩: ∃f',f=f'+1:=⟨f-1,by omega⟩
 rw [rlF,if_neg h0,if_neg h1,if_neg (by simpa using h2),if_neg h3] at g3
 exact ⟨by rw [C2,List.length_append,List.length_singleton];omega,f,by rw [C2];omega,g3⟩
theorem RlI.at_ {s0 s:ByteArray} {out:List ByteArray} (h:RlI s0 s out): ∃f,rlF (f+1) s out=rl s0:=by
 obtain ⟨_,f,g2,g3⟩:=h
 obtain ⟨f,rfl⟩: ∃f',f=f'+1:=⟨f-1,by omega⟩
 exact ⟨f,g3⟩
theorem lU {s:ByteArray} (h5:5≤s.size) (hm:s.extract 0 5=SF):RlI s (dr s 5) []:=by
 refine ⟨by rw [C2];simp,s.size+1,by rw [C2];omega, ?_⟩
 rw [rl,if_neg (by rintro (h | h);omega;exact h hm)]
attribute [irreducible] rl
theorem bL {s:ByteArray} {K:J2} (hs:(s.size:Int)<2^40) (h:K [I (rl s).2] [tS (rl s).1]):cl2 ⟨Tryz.prog,w0⟩ 41 HQ.sg [.string s] [] K:=by
 refine HQ.cl2 ?_
 unfold HQ.txt
 have hm5:SF.size=5:=rfl
 refine jF (p:=SF) (by omega) (by rw [hm5];omega) (fun h5 hm=> ?_) fun hn=> ?_
 ·rw [hm5] at h5 hm
  refine BU (BT ?_)
  refine CQ (α:=ByteArray×List ByteArray) (fun p=>[.string p.1]) (fun p=>[tS p.2]) (fun p=>p.1.size) (fun p=>RlI s p.1 p.2) (dr s 5,[]) rfl rfl (lU h5 hm) (fun R p hp hR=> ?_)
  obtain ⟨r,out⟩:=p
  have hI:RlI s r out:=hp
  obtain ⟨f,hf⟩:=hI.at_
  have hsz:=hI.sz
  have hb:=dT r
  simp only [AK,AS,AJ,AI,AM,AE,AH,AN,AO,AP,AL,AR,AT,AQ,BB,BE,BI,BH,BK,BJ,BF,AX,A4,AY,A1,AZ,A5]
  refine NO (AG (fun hne=> ?_) fun he=> ?_)
  ·have h0:r.size≠0:=fun hh=>hne (YN.1 hh)
   rw [rlF,if_neg h0] at hf
   refine WX (by omega) (BA (AG (fun h1=> ?_) fun h1=> ?_))
   ·rw [if_pos h1] at hf;rw [←hf] at h;exact h
   ·rw [if_neg h1] at hf
    refine B9 (AG (fun h2=> ?_) fun h2=> ?_)
    ·rw [if_pos h2] at hf;rw [←hf] at h;exact h
    ·rw [if_neg h2] at hf
     by_cases h3:(rf r).pay=⟨#[]⟩
     ·rw [if_pos h3] at hf
      refine IE (BM (BM (IF h3 (CJ (IF h3 (AV (CI h3 rfl (AG (fun h4=> ?_) fun h4=> ?_))))))))
      ·rw [if_pos h4] at hf;rw [←hf] at h;exact h
      ·rw [if_neg h4] at hf
       refine IE (CM h3 ?_)
       rw [←hf] at h;exact h
     ·have:=hR (dr r (rf r).n.toNat,out++[(rf r).pay]) (hI.next h0 h1 (Decidable.not_not.1 h2) h3) (by simp only [C2];have:=hb.2.2.1 h1;omega)
      simp only at this
      rw [←TW] at this
      refine IE (BM (BM (LP h3 (LP h3 (CD h3 rfl (BT (IE (C3 h3 (DP rfl (by omega) (XR (by omega) (by omega) ?_))))))))))
      exact this
  ·have h0:r.size=0:=YN.2 (Decidable.not_not.1 he)
   rw [rlF,if_pos h0] at hf
   rw [←hf] at h;exact h
 ·refine BU (BP ?_)
  have:rl s=([],1):=by rw [rl,if_pos (by rw [hm5] at hn;exact hn)]
  rw [this] at h;exact h
theorem aK {s:ByteArray} {K:J2} (hs:(s.size:Int)<2^40) (h:K [I (rl s).2] [tS (rl s).1]):cl2 ⟨Tryz.prog,w0⟩ 50 IV.sg [.string s] [] K:=by
 refine IV.cl2 (GS.cl2 ?_)
 have hm5:SF.size=5:=rfl
 have bad:(s.size<5∨s.extract 0 5≠SF)→K [I 1] [[]]:=fun hn=>by
  have:rl s=([],1):=by rw [rl,if_pos hn]
  rw [this] at h;exact h
 show prP (lnS (.string s)) _
 refine CJ (CJ (AV (BM (BM (F5 (fun hge=> ?_) fun hlt=> ?_)))))
 ·have hge':5≤s.size:=by
   have: ¬((s.size:Int)<5):=hge
   omega
  refine CJ (EP hge (zJ (b:=5) hge' (BM (EP hge (NO (CD hge rfl (AG (fun hne=>bad (.inr hne)) fun he=> ?_)))))))
  have hm:s.extract 0 5=SF:=Decidable.not_not.1 he
  refine CJ ?_
  refine CQ (α:=Nat×List ByteArray) (fun p=>[.string s,iv p.1]) (fun p=>[[],tS p.2]) (fun p=>s.size-p.1) (fun p=>p.1≤s.size∧RlI s (dr s p.1) p.2) (5,[]) rfl rfl ⟨hge',lU hge' hm⟩ (fun R p hp hR=> ?_)
  obtain ⟨a,out⟩:=p
  obtain ⟨ha,hI⟩:=hp
  simp only at ha hI
  obtain ⟨f,hf⟩:=hI.at_
  have hsz:=hI.sz
  have hb:=dT (dr s a)
  rw [C2] at hsz hb
  simp only [AK,AS,AJ,AI,AM,AE,AH,AN,AO,AP,AL,AR,AT,AQ,BB,BE,BI,BH,BK,BJ,BF,AX,A4,AY,A1,AZ,A5]
  refine CJ (AV (AG (fun hlt2=> ?_) fun hge2=> ?_))
  ·have h0:(dr s a).size≠0:=by rw [C2];omega
   rw [rlF,if_neg h0] at hf
   refine kT (by omega) (W0 (by rw [C2];omega) (BA (AG (fun h1=> ?_) fun h1=> ?_)))
   ·rw [if_pos h1] at hf;rw [←hf] at h;exact h
   ·rw [if_neg h1] at hf
    refine B9 (AG (fun h2=> ?_) fun h2=> ?_)
    ·rw [if_pos h2] at hf;rw [←hf] at h;exact h
    ·rw [if_neg h2] at hf
     have h6:=hb.2.2.1 h1
     refine B3 ⟨by omega,by omega⟩ (IE (AG (fun h3=> ?_) fun h3=> ?_))
     ·rw [if_pos h3,C2] at hf
      refine CJ (AV (AG (fun h4=> ?_) fun h4=> ?_))
      ·rw [if_pos (by omega)] at hf;rw [←hf] at h;exact h
      ·rw [if_neg (by omega)] at hf;rw [←hf] at h;exact h
     ·have hn:=hI.next h0 h1 (Decidable.not_not.1 h2) h3
      rw [ZA _ _ _ (by omega)] at hn
      have:=hR (a+(rf (dr s a)).n.toNat,out++[(rf (dr s a)).pay]) ⟨by simp only;omega,hn⟩ (by simp only;omega)
      simp only at this
      rw [←TW] at this
      have e:(a:Int)+(rf (dr s a)).n=((a+(rf (dr s a)).n.toNat:Nat):Int):=by omega
      refine DP rfl (by omega) ?_
      rw [e];exact this
  ·have h0:(dr s a).size=0:=by rw [C2];omega
   rw [rlF,if_pos h0] at hf
   rw [←hf] at h;exact h
 ·have hlt':s.size<5:=by
   have:(s.size:Int)<5:=hlt
   omega
  exact I8 hlt (BM (I8 hlt (CI hlt rfl (BP (bad (.inl hlt'))))))
end Go.Proofs.YtnhicpkhkaihoaaGreat.P
namespace Go.Proofs.YtnhicpkhkaihoaaGreat.P
open Go Go.Proofs.YtnhicpkhkaihoaaGreat Go.Proofs.YtnhicpkhkaihoaaGreat.Eng
set_option maxHeartbeats 4000000
set_option linter.unusedVariables false
set_option linter.unusedSimpArgs false
attribute [local irreducible] prP gP gE gF AU ixW ldc ldg ldl stc stg scW mkW apW BG cl2 BX GP CZ
variable {w0:World}
def rdI (r:ByteArray):Option (Int×ByteArray):=if (ri r).2=0 then none else some ((ri r).1,dr r (ri r).2.toNat)
def rdN (r:ByteArray):Option (Int×ByteArray):=if (rv r).2=0 then none else some ((rv r).1,dr r (rv r).2.toNat)
def rdT (r:ByteArray):Option (ByteArray×ByteArray):=if (rt r).2=0 then none else some ((rt r).1,dr r (rt r).2.toNat)
def EL {β:Type} (f:List Int→Option β):Nat→List Int→Int→ByteArray→Option β
 | 0,acc,_,_=>f acc
 | m+1,acc,last,r=>(rdI r).bind fun p=>EL f m (acc++[w64 (last+p.1)]) (w64 (last+p.1)) p.2
abbrev Ev:=Op5×An
def E8 (o:Op5) (code val:Int) (r:ByteArray):Option Ev:=(rdN r).bind fun p=>if p.1>8 then none else EL (fun fr=>some (o,⟨code,val,fr⟩)) p.1.toNat [] o.a p.2
def E7 (o:Op5) (code:Int) (r:ByteArray):Option Ev:=(rdI r).bind fun p=>E8 o code (w64 (o.a+p.1)) p.2
def E6 (o:Op5) (r:ByteArray):Option Ev:=(rdN r).bind fun p=>E7 o p.1 p.2
def E5 (l:List ByteArray) (kind a b c k:Int) (r:ByteArray):Option Ev:=if k=0 then (rdT r).bind fun p=>E6 ⟨kind,a,b,c,p.1⟩ p.2 else if k≤l.length then E6 ⟨kind,a,b,c,gS l (k-1).toNat⟩ r else none
def E4 (l:List ByteArray) (kind a b c:Int) (r:ByteArray):Option Ev:=(rdN r).bind fun p=>E5 l kind a b c p.1 p.2
def E3 (l:List ByteArray) (kind a b:Int) (r:ByteArray):Option Ev:=(rdI r).bind fun p=>E4 l kind a b (w64 (a+p.1)) p.2
def E2 (l:List ByteArray) (kind a:Int) (r:ByteArray):Option Ev:=(rdI r).bind fun p=>E3 l kind a p.1 p.2
def E1 (last:Int) (l:List ByteArray) (kind:Int) (r:ByteArray):Option Ev:=(rdI r).bind fun p=>E2 l kind (w64 (last+p.1)) p.2
def E0 (last:Int) (l:List ByteArray) (s:ByteArray):Option Ev:=(rdI s).bind fun p=>E1 last l p.1 p.2
def Dh (last:Int) (l:List ByteArray) (s:ByteArray) (e:Ev):Prop:=(HE last l e.1 e.2).1≠⟨#[]⟩∧(HE last l e.1 e.2).1=s
instance (last:Int) (l:List ByteArray) (s:ByteArray) (e:Ev):Decidable (Dh last l s e):=inferInstanceAs (Decidable (_∧_))
structure RE where
 o:Op5
 a:An
 last:Int
 sites:List ByteArray
 ok:Bool
def CC (last:Int) (l:List ByteArray) (s:ByteArray):RE:=match E0 last l s with
 | none=>⟨⟨0,0,0,0,⟨#[]⟩⟩,⟨0,0,[]⟩,last,l,false⟩
 | some e=>if Dh last l s e then ⟨e.1,e.2,(HE last l e.1 e.2).2.1,(HE last l e.1 e.2).2.2,true⟩ else ⟨⟨0,0,0,0,⟨#[]⟩⟩,⟨0,0,[]⟩,last,l,false⟩
structure X7 (X:Option Ev) (b:Bool) (Y:Option Ev):Prop where
 go:b=false→X=Y
 no:b=true→X=none
theorem mA {r:ByteArray} {b:Bool} {k:Int} {K:J2} (hk:0≤k∧k≤r.size) (h:K [.string (dr r k.toNat), .bool (if k=0 then true else b)] []):cl2 ⟨Tryz.prog,w0⟩ 141 B2.sg [.string r, .bool b,I k] [] K:=by
 refine B2.cl2 ?_
 unfold B2.txt
 refine BS (BA (AG (fun h0=> ?_) fun h0=> ?_))
 ·rw [if_pos h0] at h
  exact XR hk.1 hk.2 h
 ·rw [if_neg h0] at h
  exact XR hk.1 hk.2 h
theorem QJ {r:ByteArray} {b:Bool} {X:Option Ev} {g:Int→ByteArray→Option Ev} {K:J2} (hr:(r.size:Int)<2^61) (hi:X7 X b ((rdI r).bind fun p=>g p.1 p.2))
  (h: ∀v r' b',X7 X b' (g v r')→ -100000000000001≤v∧v≤100000000000001→r'.size≤r.size→(b'=false→r'.size<r.size)→K [I v, .string r', .bool b'] []):cl2 ⟨Tryz.prog,w0⟩ 78 BW.sg [.string r, .bool b] [] K:=by
 have hb:=As r
 refine BW.cl2 (aF (by omega) (mA ⟨by omega,by omega⟩ ?_))
 refine h _ _ _ ⟨fun h0=> ?_,fun h0=> ?_⟩ ⟨by omega,by omega⟩ (by rw [C2];omega) (fun h0=> ?_)
 ·split at h0
  ·cases h0
  ·rename_i hne
   rw [hi.go h0,rdI,if_neg hne];rfl
 ·split at h0
  ·rename_i he
   cases b with
   | true=>exact hi.no rfl
   | false=>rw [hi.go rfl,rdI,if_pos he];rfl
  ·exact hi.no h0
 ·split at h0
  ·cases h0
  ·rw [C2];omega
theorem tG {r:ByteArray} {b:Bool} {X:Option Ev} {g:Int→ByteArray→Option Ev} {K:J2} (hr:(r.size:Int)<2^61) (hi:X7 X b ((rdN r).bind fun p=>g p.1 p.2))
  (h: ∀v r' b',X7 X b' (g v r')→0≤v∧v<2^49→r'.size≤r.size→K [I v, .string r', .bool b'] []):cl2 ⟨Tryz.prog,w0⟩ 79 CN.sg [.string r, .bool b] [] K:=by
 have hb:=NW r
 refine CN.cl2 (KK (by omega) (mA ⟨by omega,by omega⟩ ?_))
 refine h _ _ _ ⟨fun h0=> ?_,fun h0=> ?_⟩ ⟨by omega,by omega⟩ (by rw [C2];omega)
 ·split at h0
  ·cases h0
  ·rename_i hne
   rw [hi.go h0,rdN,if_neg hne];rfl
 ·split at h0
  ·rename_i he
   cases b with
   | true=>exact hi.no rfl
   | false=>rw [hi.go rfl,rdN,if_pos he];rfl
  ·exact hi.no h0
theorem Bo {r:ByteArray} {b:Bool} {X:Option Ev} {g:ByteArray→ByteArray→Option Ev} {K:J2} (hr:(r.size:Int)<2^61) (hi:X7 X b ((rdT r).bind fun p=>g p.1 p.2))
  (h: ∀v r' b',X7 X b' (g v r')→v.size≤8→r'.size≤r.size→K [.string v, .string r', .bool b'] []):cl2 ⟨Tryz.prog,w0⟩ 80 C5.sg [.string r, .bool b] [] K:=by
 have hb:=Al r
 refine C5.cl2 (X9 (by omega) (mA ⟨by omega,by omega⟩ ?_))
 refine h _ _ _ ⟨fun h0=> ?_,fun h0=> ?_⟩ (by omega) (by rw [C2];omega)
 ·split at h0
  ·cases h0
  ·rename_i hne
   rw [hi.go h0,rdT,if_neg hne];rfl
 ·split at h0
  ·rename_i he
   cases b with
   | true=>exact hi.no rfl
   | false=>rw [hi.go rfl,rdT,if_pos he];rfl
  ·exact hi.no h0
theorem X7.start {X Y:Option Ev} (h:X=Y):X7 X false Y:=⟨fun _=>h,fun h=>by cases h⟩
theorem X7.off {X:Option Ev} {b:Bool} (h:X7 X b none):X=none:=by
 cases b with
 | true=>exact h.no rfl
 | false=>exact h.go rfl
theorem ZU {n:Int} {l:List ByteArray} {o:Op5} {a:An} (h:8<a.freed.length):(HE n l o a).1=⟨#[]⟩:=by
 unfold HE MI
 rw [if_neg]
 intro hok
 have:=(QM hok).2.2.2.2.2.2.2.1
 omega
structure LpI (X:Option Ev) (o:Op5) (code val n:Int) (q:Nat×Int×List Int×ByteArray×Bool) (s0:ByteArray):Prop where
 inv:n≤8→X7 X q.2.2.2.2 (EL (fun fr=>some (o,⟨code,val,fr⟩)) (n.toNat-q.1) q.2.2.1 q.2.1 q.2.2.2.1)
 big:n>8→X=none
 le:q.1≤n
 len:q.2.2.1.length=q.1
 sz:q.2.2.2.2=false→q.2.2.2.1.size+q.1≤s0.size
 sz2:q.2.2.2.1.size≤s0.size
 sz3:q.1≤s0.size+1
attribute [irreducible] rdI rdN rdT
theorem W3 {n:Int} {l:List ByteArray} {s:ByteArray} {K:J2} (hl:l.length<2^40) (hs:(s.size:Int)<2^40)
  (h:K [I (CC n l s).o.kind,I (CC n l s).o.a,I (CC n l s).o.b,I (CC n l s).o.c, .string (CC n l s).o.site,I (CC n l s).a.code,I (CC n l s).a.val,I (CC n l s).last, .bool (CC n l s).ok] [tI (CC n l s).a.freed,tS (CC n l s).sites]):
  cl2 ⟨Tryz.prog,w0⟩ 42 FL.sg [I n, .string s] [tS l] K:=by
 refine FL.cl2 ?_
 unfold FL.txt
 simp only [AK,AS,AJ,AI,AM,AE,AH,AN,AO,AP,AL,AR,AT,AQ,BB,BE,BI,BH,BK,BJ,BF,AX,A4,AY,A1,AZ,A5]
 obtain ⟨X,hX⟩: ∃X,E0 n l s=X:=⟨_,rfl⟩
 have fail:X=none→K [I 0,I 0,I 0,I 0, .string ⟨#[]⟩,I 0,I 0,I n, .bool false] [[],tS l]:=fun hx=>by
  have:CC n l s=⟨⟨0,0,0,0,⟨#[]⟩⟩,⟨0,0,[]⟩,n,l,false⟩:=by rw [CC,hX,hx]
  rw [this] at h;exact h
 refine QJ (X:=X) (g:=E1 n l) (by omega) (.start (by rw [←hX,E0])) fun v1 r1 b1 i1 _ z1 _=> ?_
 refine QJ (X:=X) (g:=fun v=>E2 l v1 (w64 (n+v))) (by omega) (by rw [E1] at i1;exact i1) fun v2 r2 b2 i2 _ z2 _=> ?_
 refine DT ?_
 generalize w64 (n+v2)=A at i2 ⊢
 refine QJ (X:=X) (g:=fun v=>E3 l v1 A v) (by omega) (by rw [E2] at i2;exact i2) fun v3 r3 b3 i3 _ z3 _=> ?_
 refine QJ (X:=X) (g:=fun v=>E4 l v1 A v3 (w64 (A+v))) (by omega) (by rw [E3] at i3;exact i3) fun v4 r4 b4 i4 _ z4 _=> ?_
 refine DT ?_
 generalize w64 (A+v4)=Cc at i4 ⊢
 refine tG (X:=X) (g:=fun v=>E5 l v1 A v3 Cc v) (by omega) (by rw [E4] at i4;exact i4) fun v5 r5 b5 i5 _ z5=> ?_
 refine qF (fun ys cs=>cs=[]∧ ∃nm r6 b6,ys=[.string s,I n,I 0,I 0,I 0,I 0, .string ⟨#[]⟩,I 0,I 0,I 0, .string r6, .bool b6,I v1,I A,I v3,I Cc, .string nm,I 0,I 0]∧X7 X b6 (E6 ⟨v1,A,v3,Cc,nm⟩ r6)∧r6.size≤s.size) (fun ys cs hp=> ?_) fun j hj=> ?_
 ·obtain ⟨rfl,nm,r6,b6,rfl,i6,z6⟩:=hp
  refine tG (X:=X) (g:=fun v=>E7 ⟨v1,A,v3,Cc,nm⟩ v) (by omega) (by rw [E6] at i6;exact i6) fun v7 r7 b7 i7 _ z7=> ?_
  refine QJ (X:=X) (g:=fun v=>E8 ⟨v1,A,v3,Cc,nm⟩ v7 (w64 (A+v))) (by omega) (by rw [E7] at i7;exact i7) fun v8 r8 b8 i8 _ z8 _=> ?_
  refine DT ?_
  simp only [BB,BE]
  generalize w64 (A+v8)=Vv at i8 ⊢
  refine tG (X:=X) (g:=fun v r=>if v>8 then none else EL (fun fr=>some (⟨v1,A,v3,Cc,nm⟩,⟨v7,Vv,fr⟩)) v.toNat [] A r) (by omega) (by rw [E8] at i8;exact i8) fun v9 r9 b9 i9 hv9 z9=> ?_
  refine CQ (α:=Nat×Int×List Int×ByteArray×Bool) (fun q=>[.string s,I v9,I q.2.1,iv q.1,I n,I 0,I 0,I 0,I 0, .string ⟨#[]⟩,I 0,I 0,I 0, .string q.2.2.2.1, .bool q.2.2.2.2,I v1,I A,I v3,I Cc, .string nm,I v7,I Vv]) (fun q=>[tI q.2.2.1]) (fun q=>s.size+2-q.1)
   (fun q=>LpI X ⟨v1,A,v3,Cc,nm⟩ v7 Vv v9 q s) (0,A,[],r9,b9) rfl rfl ⟨fun h8=>by rw [if_neg (by omega)] at i9;exact i9,fun h8=>by rw [if_pos h8] at i9;exact i9.off,by simp only;omega,rfl,fun _=>by simp only;omega,by simp only;omega,by simp only;omega⟩ (fun R q hq hR=> ?_)
  obtain ⟨i,la,acc,r,b⟩:=q
  obtain ⟨inv,big,le,len,sz,sz2,sz3⟩:=hq
  simp only at inv big le len sz sz2 sz3
  simp only [AK,AS,AJ,AI,AM,AE,AH,AN,AO,AP,AL,AR,AT,AQ,BB,BE,BI,BH,BK,BJ,BF,AX,A4,AY,A1,AZ,A5]
  have fin:(b=true∨(b=false∧(i:Int)=v9))→cl2 ⟨Tryz.prog,w0⟩ 46 DI.sg [I n,I v1,I A,I v3,I Cc, .string nm,I v7,I Vv] [tS l,tI acc] fun v58 d59=>
    gE (.bool b) (gP (.bool b) false (prP (bnS .eql (nx v58 0) (.string {data:= #[]}))) fun t110_60=>prP (pk (.bool b) (.bool true) t110_60) fun t111_61=>gE t111_61 (gE t111_61 (gP t111_61 false (prP (bnS .neq (nx v58 0) (.string s))) fun t115_62=>prP (pk t111_61 (.bool true) t115_62) fun t116_63=>
     AU t116_63 (cl2 ⟨Tryz.prog,w0⟩ 81 EY.sg [I n] [tS l] fun v64 d65=>K [(.int .i64 0),(.int .i64 0),(.int .i64 0),(.int .i64 0),(.string {data:= #[]}),(.int .i64 0),(.int .i64 0),(nx v64 0),(.bool false)] [[],(nxc d65 0)])
      (K [I v1,I A,I v3,I Cc, .string nm,I v7,I Vv,(nx v58 1),(.bool true)] [tI acc,(nxc d59 0)])))):=fun hf=>by
   refine QF hl (by omega) ?_
   have hsh:MI n l v1 A v3 Cc nm v7 Vv acc=HE n l ⟨v1,A,v3,Cc,nm⟩ ⟨v7,Vv,acc⟩:=by rw [HE]
   rw [hsh]
   have out:(b=true∨(HE n l ⟨v1,A,v3,Cc,nm⟩ ⟨v7,Vv,acc⟩).1=⟨#[]⟩∨(HE n l ⟨v1,A,v3,Cc,nm⟩ ⟨v7,Vv,acc⟩).1≠s)→cl2 ⟨Tryz.prog,w0⟩ 81 EY.sg [I n] [tS l] fun v64 d65=>K [(.int .i64 0),(.int .i64 0),(.int .i64 0),(.int .i64 0),(.string {data:= #[]}),(.int .i64 0),(.int .i64 0),(nx v64 0),(.bool false)] [[],(nxc d65 0)]:=fun hb=>by
    refine S5 (by omega) ?_
    by_cases h8:v9>8
    ·exact fail (big h8)
    ·have hi:=inv (by omega)
     rcases hf with rfl | ⟨rfl,hiv⟩
     ·exact fail (hi.no rfl)
     ·have hx:=hi.go rfl
      have e0:v9.toNat-i=0:=by omega
      rw [e0,EL] at hx
      have:CC n l s=⟨⟨0,0,0,0,⟨#[]⟩⟩,⟨0,0,[]⟩,n,l,false⟩:=by
       rw [CC,hX,hx]
       simp only
       rw [if_neg]
       rintro ⟨g1,g2⟩
       rcases hb with hb | hb | hb
       ·cases hb
       ·exact g1 hb
       ·exact hb g2
      rw [this] at h;exact h
   cases b with
   | true=>repeat' (first | exact out (.inl rfl) | refine BM ?_ | refine NH ?_ | refine RF rfl ?_ | refine BP ?_)
   | false=>
     repeat' (first | exact out (.inr (.inl (by assumption))) | exact out (.inr (.inr (by assumption))) | refine BM ?_ | refine NV ?_ | refine CI (by first | with_reducible assumption | omega) rfl ?_ | refine CD (by first | with_reducible assumption | omega) rfl ?_ | refine VA rfl ?_ | refine BP ?_ | refine IE ?_ | refine NO ?_ | refine AG (fun _=> ?_) (fun _=> ?_) | refine F5 (fun _=> ?_) (fun _=> ?_) | simp only [AK,AS,AJ,AI,AM,AE,AH,AN,AO,AP,AL,AR,AT,AQ,BB,BE,BI,BH,BK,BJ,BF,AX,A4,AY,A1,AZ,A5])
     rename_i g1 g2
     have hiv:(i:Int)=v9:=by rcases hf with hf | ⟨_,hf⟩;cases hf;exact hf
     have h8: ¬v9>8:=fun h8=>g1 (ZU (by simp only;omega))
     have hx:=(inv (by omega)).go rfl
     have e0:v9.toNat-i=0:=by omega
     rw [e0,EL] at hx
     have:CC n l s=⟨⟨v1,A,v3,Cc,nm⟩,⟨v7,Vv,acc⟩,(HE n l ⟨v1,A,v3,Cc,nm⟩ ⟨v7,Vv,acc⟩).2.1,(HE n l ⟨v1,A,v3,Cc,nm⟩ ⟨v7,Vv,acc⟩).2.2,true⟩:=by
      rw [CC,hX,hx]
      simp only
      rw [if_pos ⟨g1,Decidable.not_not.1 g2⟩]
     rw [this] at h;exact h
  refine AV (BM (BM (BM (BM (IG (fun hlt=> ?_) fun hge=> ?_)))))
  ·refine BU (CI hlt rfl ?_)
   cases b with
   | true=>exact BT (fin (.inl rfl))
   | false=>
     refine BP ?_
     refine QJ (X:=X) (b:=false) (g:=fun v r'=>if v9>8 then none else EL (fun fr=>some (⟨v1,A,v3,Cc,nm⟩,⟨v7,Vv,fr⟩)) (v9.toNat-(i+1)) (acc++[w64 (la+v)]) (w64 (la+v)) r') (by omega) ?_ fun v r' b' i' _ z' zz=> ?_
     ·by_cases h8:v9>8
      ·refine ⟨fun _=> ?_,fun hh=>by cases hh⟩
       rw [big h8]
       cases rdI r with
       | none=>rfl
       | some p=>simp [h8]
      ·have hi:=inv (by omega)
       obtain ⟨m,hm⟩: ∃m,v9.toNat-i=m+1:=⟨v9.toNat-i-1,by omega⟩
       have hm2:v9.toNat-(i+1)=m:=by omega
       rw [hm,EL] at hi
       rw [hm2]
       simpa [h8] using hi
     ·have hz:=sz rfl
      refine DT (DP rfl (by omega) (A6 (by omega) ?_))
      have:=hR (i+1,w64 (la+v),acc++[w64 (la+v)],r',b') ⟨fun h8=>by rw [if_neg (by omega)] at i';exact i',big,by simp only;omega,by simp [len],fun hb=>by simp only at hb ⊢;have:=zz hb;omega,by simp only;omega,by simp only;omega⟩ (by simp only;omega)
      simp only at this
      rw [←E9] at this
      exact this
  ·exact CD hge rfl (BT (fin (by
    cases b with
    | true=>exact .inl rfl
    | false=>exact .inr ⟨rfl,by omega⟩)))
 ·refine BA (AG (fun h0=> ?_) fun h0=> ?_)
  ·refine Bo (X:=X) (g:=fun v r=>E6 ⟨v1,A,v3,Cc,v⟩ r) (by omega) (by rw [E5,if_pos h0] at i5;exact i5) fun v6 r6 b6 i6 _ z6=> ?_
   exact hj _ _ ⟨rfl,v6,r6,b6,rfl,i6,by omega⟩
  ·refine DV (AG (fun h1=> ?_) fun h1=> ?_)
   ·refine DO ⟨by omega,by omega⟩ (QU (by omega) (by omega) (ldS (by omega) (hj _ _ ⟨rfl,_,r5,b5,rfl, ?_,by omega⟩)))
    rw [E5,if_neg h0,if_pos h1] at i5;exact i5
   ·rw [E5,if_neg h0,if_neg h1] at i5
    exact hj _ _ ⟨rfl,_,r5,true,rfl,⟨fun hh=>(by cases hh),fun _=>i5.off⟩,by omega⟩
end Go.Proofs.YtnhicpkhkaihoaaGreat.P
