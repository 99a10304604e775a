/- A part of the proof. -/
import Derived.Test.YtnhicpkhkaihoaaGreatFaTxtH
import Derived.Test.YtnhicpkhkaihoaaGreatFaHpA
namespace Go.Proofs.YtnhicpkhkaihoaaGreat.P
open Go Go.Proofs.YtnhicpkhkaihoaaGreat Go.Proofs.YtnhicpkhkaihoaaGreat.Eng
set_option linter.unusedVariables false
theorem tJ {F:J2→J2} {xs:List Value} {cs:List (List T)} (h: ∀R:J2,(∀xs cs,F R xs cs→R xs cs)→F R xs cs):BG F xs cs:=fun R hR=>hR _ _ (h R hR)
set_option maxHeartbeats 4000000
set_option linter.unusedVariables false
set_option linter.unusedSimpArgs false
attribute [local irreducible] prP gP gE gF AU ixW ldc ldg ldl stc stg scW mkW apW BG cl2 BX GP CZ
variable {w0:World}
theorem eG {a b:Nat} {K:Value→Prop} (ha:a<2^32) (hb:b<2^32) (h:K (I ((a^^^b:Nat):Int))):prP (bnI .xor (I a) (I b)) K:=by
 have hx:a^^^b<2^32:=Nat.xor_lt_two_pow ha hb
 refine BL (v:= .int .i64 (IntKind.i64.wrap (BitVec.ofInt 64 a^^^BitVec.ofInt 64 b).toNat)) rfl ?_
 have e:(BitVec.ofInt 64 (a:Int)^^^BitVec.ofInt 64 (b:Int)).toNat=a^^^b:=by
  rw [BitVec.toNat_xor,BitVec.ofInt_natCast,BitVec.ofInt_natCast,BitVec.toNat_ofNat,BitVec.toNat_ofNat,Nat.mod_eq_of_lt (by omega),Nat.mod_eq_of_lt (by omega)]
 rw [e,LC ⟨by omega,by omega⟩];exact h
abbrev U (n:Int):Value:= .int .u32 n
theorem dP {a b:Nat} {K:Value→Prop} (ha:a<2^32) (hb:b<2^32) (h:K (U ((a^^^b:Nat):Int))):prP (bnI .xor (U a) (U b)) K:=by
 have hx:a^^^b<2^32:=Nat.xor_lt_two_pow ha hb
 refine BL (v:= .int .u32 (IntKind.u32.wrap (BitVec.ofInt 32 a^^^BitVec.ofInt 32 b).toNat)) rfl ?_
 have e:(BitVec.ofInt 32 (a:Int)^^^BitVec.ofInt 32 (b:Int)).toNat=a^^^b:=by
  rw [BitVec.toNat_xor,BitVec.ofInt_natCast,BitVec.ofInt_natCast,BitVec.toNat_ofNat,BitVec.toNat_ofNat,Nat.mod_eq_of_lt (by omega),Nat.mod_eq_of_lt (by omega)]
 rw [e,IntKind.wrap_u32,Int.emod_eq_of_lt (by omega) (by omega)];exact h
theorem wV {a:Nat} {K:Value→Prop} (ha:a<2^32) (h:K (U ((a % 2:Nat):Int))):prP (bnI .and (U a) (U 1)) K:=by
 refine BL (v:= .int .u32 (IntKind.u32.wrap (BitVec.ofInt 32 a&&& BitVec.ofInt 32 1).toNat)) rfl ?_
 have e:(BitVec.ofInt 32 (a:Int)&&& BitVec.ofInt 32 1).toNat=a % 2:=by
  rw [BitVec.toNat_and,BitVec.ofInt_natCast,BitVec.toNat_ofNat,Nat.mod_eq_of_lt (by omega)]
  exact Nat.and_one_is_mod a
 rw [e,IntKind.wrap_u32,Int.emod_eq_of_lt (by omega) (by omega)];exact h
theorem sW {a:Nat} {K:Value→Prop} (h:K (U ((a/2:Nat):Int))):prP (bnI .shr (U a) (.int .u64 1)) K:=by
 refine BL (v:= .int .u32 ((a:Int).fdiv (2^min (1:Int).toNat 32))) rfl ?_
 have e:(a:Int).fdiv (2^min (1:Int).toNat 32)=((a/2:Nat):Int):=by
  show (a:Int).fdiv 2=_
  rw [Int.fdiv_eq_ediv_of_nonneg _ (by omega)];omega
 rw [e];exact h
theorem yU {a b:Int} {K:Value→Prop} (h:K (.bool (decide (a=b)))):prP (bnI .eql (U a) (U b)) K:=BL rfl h
theorem sC {a:Nat} {K:Value→Prop} (ha:a<2^32) (h:K (U ((4294967295-a:Nat):Int))):prP (un .xor (U a)) K:=by
 refine BL (v:= .int .u32 (IntKind.u32.wrap (BitVec.ofInt 32 4294967295^^^BitVec.ofInt 32 a).toNat)) rfl ?_
 have e:(BitVec.ofInt 32 4294967295^^^BitVec.ofInt 32 (a:Int)).toNat=4294967295-a:=by
  have h1:BitVec.ofInt 32 4294967295=BitVec.allOnes 32:=by decide
  rw [h1,BitVec.xor_comm,BitVec.xor_allOnes,BitVec.toNat_not,BitVec.ofInt_natCast,BitVec.toNat_ofNat,Nat.mod_eq_of_lt (by omega)]
 rw [e,IntKind.wrap_u32,Int.emod_eq_of_lt (by omega) (by omega)];exact h
theorem OW {k:IntKind} {n:Int} {K:Value→Prop} (hf:F64 n) (h:K (I n)):prP (cvI .i64 (.int k n)) K:=
 BL (v:= .int .i64 (IntKind.i64.wrap n)) rfl (by rw [LC hf];exact h)
theorem wA {k:IntKind} {n:Nat} {K:Value→Prop} (hf:n<2^32) (h:K (U n)):prP (cvI .u32 (.int k n)) K:=
 BL (v:= .int .u32 (IntKind.u32.wrap n)) rfl (by rw [IntKind.wrap_u32,Int.emod_eq_of_lt (by omega) (by omega)];exact h)
def by_ (s:ByteArray) (i:Nat):Nat:=(s.data.getD i 0).toNat
theorem aB (s:ByteArray) (i:Nat):by_ s i<256:=UInt8.toNat_lt _
theorem ZT {s:ByteArray} {i:Nat} {K:Value→Prop} (hi:i<s.size) (h:K (.int .u8 (by_ s i:Int))):prP (ix (.string s) (iv i)) K:=by
 have h0:(0:Int)≤(i:Int):=by omega
 have hg:s[i]? =some s[i]:=getElem?_pos s i hi
 have hv:s[i].toNat=by_ s i:=by
  have hs:i<s.data.size:=hi
  simp only [by_,Array.getD,hs,dite_true]
  rfl
 have hx:ix (.string s) (iv i)=some (.int .u8 (by_ s i:Int)):=by
  show (if 0≤(i:Int) then (s[(i:Int).toNat]?).map fun b=>Value.int .u8 b.toNat else none)=_
  rw [if_pos h0,Int.toNat_natCast,hg]
  simp only [Option.map_some,hv]
 rw [hx];exact BL rfl h
def uF (c:Nat):Nat:=if c % 2=1 then (c/2)^^^2197175160 else c/2
def lS:Nat→Nat→Nat
 | 0,c=>c
 | k+1,c=>uF (lS k c)
def Z1 (s:ByteArray):Nat→Nat
 | 0=>4294967295
 | i+1=>lS 8 (Z1 s i^^^by_ s i)
theorem xQ {c:Nat} (h:c<2^32):uF c<2^32:=by
 unfold uF;split
 ·exact Nat.xor_lt_two_pow (by omega) (by omega)
 ·omega
theorem Y1 {c:Nat} (h:c<2^32): ∀k,lS k c<2^32
 | 0=>h
 | k+1=>xQ (Y1 h k)
theorem iM (s:ByteArray): ∀i,Z1 s i<2^32
 | 0=>by show (4294967295:Nat)<2^32;omega
 | i+1=>Y1 (Nat.xor_lt_two_pow (iM s i) (by have:=aB s i;omega)) 8
def crc (s:ByteArray):Nat:=4294967295-Z1 s s.size
theorem sV (s:ByteArray):crc s<2^32:=by unfold crc;omega
theorem mX {s:ByteArray} {K:J2} (hs:(s.size:Int)<2^62) (h:K [I (crc s)] []):cl2 ⟨Tryz.prog,w0⟩ 153 L8.sg [.string s] [] K:=by
 refine L8.cl2 ?_
 unfold L8.txt
 refine A9 (fun i=>[.string s,U (Z1 s i),iv i]) (fun _=>[]) s.size (fun _=>True) rfl rfl trivial (fun R i hi _ hR=> ?_)
 have hc:=iM s i
 refine CJ (AV (AG (fun hlt=> ?_) fun hge=> ?_))
 ·have hlt:i<s.size:=by omega
  replace hR:=hR hlt trivial
  have hb:=aB s i
  have hx:Z1 s i^^^by_ s i<2^32:=Nat.xor_lt_two_pow hc (by omega)
  refine ZT hlt (wA (by omega) (dP hc (by omega) ?_))
  refine A9 (fun k=>[.string s,U (lS k (Z1 s i^^^by_ s i)),iv i,iv k]) (fun _=>[]) 8 (fun _=>True) rfl rfl trivial (fun R2 k hk _ hR2=> ?_)
  have hn:=Y1 hx k
  refine AV (AG (fun hlt2=> ?_) fun hge2=> ?_)
  ·have hlt2:k<8:=by omega
   replace hR2:=hR2 hlt2 trivial
   rw [lS,uF] at hR2
   refine BS (wV hn (sW (yU (AG (fun ho=> ?_) fun ho=> ?_))))
   ·rw [if_pos (by omega)] at hR2
    exact dP (b:=2197175160) (by omega) (by omega) (A6 (by omega) hR2)
   ·rw [if_neg (by omega)] at hR2
    exact A6 (by omega) hR2
  ·have:k=8:=by omega
   subst this
   exact A6 (by omega) hR
 ·have:i=s.size:=by omega
  subst this
  exact sC hc (OW ⟨by omega,by omega⟩ h)
theorem mB {s:ByteArray} {K:J2} (hs:(s.size:Int)<2^62) (h:K [I (crc s)] []):cl2 ⟨Tryz.prog,w0⟩ 180 LX.sg [.string s] [] K:=by
 refine LX.cl2 ?_
 unfold LX.txt
 refine A9 (fun i=>[.string s,I (Z1 s i),iv i]) (fun _=>[]) s.size (fun _=>True) rfl rfl trivial (fun R i hi _ hR=> ?_)
 have hc:=iM s i
 refine CJ (AV (AG (fun hlt=> ?_) fun hge=> ?_))
 ·have hlt:i<s.size:=by omega
  replace hR:=hR hlt trivial
  have hb:=aB s i
  have hx:Z1 s i^^^by_ s i<2^32:=Nat.xor_lt_two_pow hc (by omega)
  refine ZT hlt (OW ⟨by omega,by omega⟩ (eG hc (by omega) ?_))
  refine A9 (fun k=>[.string s,I (lS k (Z1 s i^^^by_ s i)),iv i,iv k]) (fun _=>[]) 8 (fun _=>True) rfl rfl trivial (fun R2 k hk _ hR2=> ?_)
  have hn:=Y1 hx k
  refine AV (AG (fun hlt2=> ?_) fun hge2=> ?_)
  ·have hlt2:k<8:=by omega
   replace hR2:=hR2 hlt2 trivial
   rw [lS,uF] at hR2
   refine BS (JX (by omega) (by omega) (NY (by omega) ⟨by omega,by omega⟩ (by omega) (BA (AG (fun ho=> ?_) fun ho=> ?_))))
   ·rw [if_pos (by omega)] at hR2
    exact eG (a:=lS k (Z1 s i^^^by_ s i)/2) (b:=2197175160) (by omega) (by omega) (A6 (by omega) hR2)
   ·rw [if_neg (by omega)] at hR2
    exact A6 (by omega) hR2
  ·have:k=8:=by omega
   subst this
   exact A6 (by omega) hR
 ·have:i=s.size:=by omega
  subst this
  refine DO ⟨by omega,by omega⟩ ?_
  have e:(4294967295:Int)-(Z1 s s.size:Int)=(crc s:Int):=by unfold crc;omega
  rw [e];exact h
def fxL (n:Nat):List Nat:=[n/16777216 % 256,n/65536 % 256,n/256 % 256,n % 256]
def FX (n:Nat):ByteArray:=HI (fxL n)
theorem Y5 (n:Nat):(FX n).size=4:=by rw [FX,HA];rfl
theorem fG {k:IntKind} {n:Nat} {K:Value→Prop} (h:K (.int .u8 ((n % 256:Nat):Int))):prP (cvI .u8 (.int k n)) K:=
 BL (v:= .int .u8 (IntKind.u8.wrap n)) rfl (by rw [IntKind.wrap_u8];exact h)
theorem SA {k:IntKind} {n:Int} {m:Nat} {K:Value→Prop} (hn:n % 256=m) (h:K (.int .u8 (m:Int))):prP (cvI .u8 (.int k n)) K:=
 BL (v:= .int .u8 (IntKind.u8.wrap n)) rfl (by rw [IntKind.wrap_u8,hn];exact h)
theorem VB {a m:Nat} {b:Int} {k:Nat} {K:Value→Prop} (hb:b=m) (hm:m≤64) (hk:a/2^m=k) (h:K (I (k:Int))):prP (bnI .shr (I a) (I b)) K:=by
 subst hb
 have e:bnI .shr (I a) (I (m:Int))=some (.int .i64 ((a:Int).fdiv (2^min (m:Int).toNat 64))):=by
  show (if (m:Int)<0 then none else _)=_
  rw [if_neg (by omega)];rfl
 have e2:(a:Int).fdiv (2^min (m:Int).toNat 64)=(k:Int):=by
  rw [Int.toNat_natCast,Nat.min_eq_left hm,Int.fdiv_eq_ediv_of_nonneg _ (by exact Int.le_of_lt (Int.pow_pos (by omega))), ←hk]
  simp
 rw [e,e2];exact BL rfl h
theorem sK {b:Int} {K:Value→Prop} (hb:b=32) (h:K (I 4294967296)):prP (bnI .shl (I 1) (I b)) K:=by
 subst hb
 exact BL (v:= .int .i64 4294967296) rfl h
theorem oI {F:J2→J2} {xs:List Value} {cs:List (List T)} (h: ∀R:J2,(∀xs cs,F R xs cs→R xs cs)→F R xs cs):BG F xs cs:=tJ h
theorem Q2 (a b:List Nat):HI (a++b)=HI a++HI b:=by
 have: ∀(b:List Nat) (x y:ByteArray),b.foldl (fun b n=>b.push (UInt8.ofNat n)) (x++y)=x++b.foldl (fun b n=>b.push (UInt8.ofNat n)) y:=by
  intro b
  induction b with
  | nil=>intro x y;rfl
  | cons n b ih=>
    intro x y
    rw [List.foldl_cons,List.foldl_cons, ←ih]
    congr 1
    apply ByteArray.ext
    simp [ByteArray.push]
 rw [HI,List.foldl_append, ←HI,HI]
 have h:=this b (a.foldl (fun b n=>b.push (UInt8.ofNat n)) ByteArray.empty) ByteArray.empty
 rw [ByteArray.append_empty] at h
 exact h
theorem qA {n:Nat} {K:Value→Prop} (h:K (.string (HI [n]))):prP (b2T [T.c (.int .u8 (n:Int))]) K:=by
 have:[T.c (.int .u8 (n:Int))]=tB [n]:=rfl
 rw [this,aJ];exact BL rfl h
theorem iE {n:Nat} {K:J2} (hn:n<2^32) (h:K [.string (FX n)] []):cl2 ⟨Tryz.prog,w0⟩ 152 JP.sg [I n,I 4] [] K:=by
 refine JP.cl2 ?_
 unfold JP.txt
 have fin: ∀{K:J2},K [.string (FX n)] []→prP (b2T ((((([]++[T.c (.int .u8 ((n/16777216 % 256:Nat):Int))])++[T.c (.int .u8 ((n/65536 % 256:Nat):Int))])++[T.c (.int .u8 ((n/256 % 256:Nat):Int))])++[T.c (.int .u8 ((n % 256:Nat):Int))]))) fun t=>K [t] []:=fun h=>by
  have:(((([]++[T.c (.int .u8 ((n/16777216 % 256:Nat):Int))])++[T.c (.int .u8 ((n/65536 % 256:Nat):Int))])++[T.c (.int .u8 ((n/256 % 256:Nat):Int))])++[T.c (.int .u8 ((n % 256:Nat):Int))])=tB (fxL n):=rfl
  rw [this,aJ];exact BL rfl h
 repeat' (first | refine GA ?_ | refine sK (by omega) ?_ | refine KU ⟨by omega,by omega⟩ ?_ | refine BM ?_ | refine NV ?_ | refine CD (by first | with_reducible assumption | omega) rfl ?_ | refine C3 (by first | with_reducible assumption | omega) ?_ | refine CP ?_ | refine A6 (by omega) ?_ | simp only [AK,AS,AJ,AI,AM,AE,AH,AN,AO,AP,AL,AR,AT,AQ,BB,BE,BI,BH,BK,BJ,BF,AX,A4,AY,A1,AZ,A5])
 refine oI fun R hR=> ?_
 repeat' (first | refine hR _ _ ?_ | refine VB (m:=24) (k:=n/16777216) (by omega) (by omega) (by omega) ?_ | refine VB (m:=16) (k:=n/65536) (by omega) (by omega) (by omega) ?_ | refine VB (m:=8) (k:=n/256) (by omega) (by omega) (by omega) ?_ | refine VB (m:=0) (k:=n) (by omega) (by omega) (by omega) ?_ | refine fG ?_ | refine KU ⟨by omega,by omega⟩ ?_ | exact fin h | refine DP rfl (by simp [cnt,nxc]) ?_ | refine BP ?_ | refine BT ?_ | refine DV ?_ | refine A6 (by omega) ?_ | refine DO ⟨by omega,by omega⟩ ?_)
theorem xL (n:Nat):(HI [n]).size=1:=by rw [HA];rfl
theorem gL {n:Nat} {K:J2} (hn:n<2^32) (h:K [.string (FX n)] []):cl2 ⟨Tryz.prog,w0⟩ 179 JV.sg [I n,I 4] [] K:=by
 refine JV.cl2 ?_
 unfold JV.txt
 have e:FX n=HI [n/256/256/256 % 256]++(HI [n/256/256 % 256]++(HI [n/256 % 256]++(HI [n % 256]++⟨#[]⟩))):=by
  have e0:(⟨#[]⟩:ByteArray)=HI []:=rfl
  rw [e0, ←Q2, ←Q2, ←Q2, ←Q2]
  simp only [List.cons_append,List.nil_append,FX,fxL]
  congr 2
  ·omega
  ·congr 1;omega
 rw [e] at h
 have z0:(⟨#[]⟩:ByteArray).size=0:=rfl
 have z1:=xL
 repeat' (first | refine D6 ?_ | refine BM ?_ | refine NV ?_ | refine CD (by first | with_reducible assumption | omega) rfl ?_ | refine BT ?_ | refine AV ?_ | refine CP ?_)
 refine oI fun R hR=> ?_
 refine AV (CM (by omega) (JX (by omega) (by omega) (SA (m:=n % 256) (by omega) (qA (CB (by rw [z1,z0];omega) (NY (by omega) ⟨by omega,by omega⟩ (by omega) (B3 ⟨by omega,by omega⟩ ?_)))))))
 refine hR _ _ (AV (CM (by omega) (JX (by omega) (by omega) (SA (m:=n/256 % 256) (by omega) (qA (CB (by simp only [ByteArray.size_append,z1,z0];omega) (NY (by omega) ⟨by omega,by omega⟩ (by omega) (B3 ⟨by omega,by omega⟩ ?_))))))))
 refine hR _ _ (AV (CM (by omega) (JX (by omega) (by omega) (SA (m:=n/256/256 % 256) (by omega) (qA (CB (by simp only [ByteArray.size_append,z1,z0];omega) (NY (by omega) ⟨by omega,by omega⟩ (by omega) (B3 ⟨by omega,by omega⟩ ?_))))))))
 refine hR _ _ (AV (CM (by omega) (JX (by omega) (by omega) (SA (m:=n/256/256/256 % 256) (by omega) (qA (CB (by simp only [ByteArray.size_append,z1,z0];omega) (NY (by omega) ⟨by omega,by omega⟩ (by omega) (B3 ⟨by omega,by omega⟩ ?_))))))))
 exact hR _ _ (AV (C3 (by omega) (FJ (C3 (by omega) h))))
def frm (n:Int) (p:ByteArray):ByteArray:=if (0≤n∧n≤400)∧p.size≤200 then ((V n++V p.size)++p)++FX (crc ((V n++V p.size)++p)) else ⟨#[]⟩
theorem OK (n:Int) (p:ByteArray):(frm n p).size≤218:=by
 unfold frm;split
 ·rename_i h
  have h1:=IK n;have h2:=IK p.size;have h3:=Y5 (crc ((V n++V p.size)++p))
  simp only [ByteArray.size_append];omega
 ·exact Nat.zero_le _
theorem MM {n:Int} {p:ByteArray} {K:J2} (hp:(p.size:Int)<2^62) (h:K [.string (frm n p)] []):cl2 ⟨Tryz.prog,w0⟩ 95 DK.sg [I n, .string p] [] K:=by
 refine DK.cl2 ?_
 unfold DK.txt
 have h1:=IK n;have h2:=IK p.size
 have h3:=Y5 (crc ((V n++V p.size)++p))
 repeat' (first | refine GA ?_ | refine LG ⟨by omega,by omega⟩ ?_ | refine mX (by simp only [ByteArray.size_append];omega) ?_ | refine iE (sV _) ?_ | refine BM ?_ | refine I8 (by first | with_reducible assumption | omega) ?_ | refine EP (by first | with_reducible assumption | omega) ?_ | refine CI (by first | with_reducible assumption | omega) rfl ?_ | refine CD (by first | with_reducible assumption | omega) rfl ?_ | refine BP ?_ | refine AV ?_ | refine CP ?_ | refine CJ ?_ | refine CB (by first | omega | (simp only [ByteArray.size_append];omega)) ?_ | refine AG (fun _=> ?_) (fun _=> ?_) | refine F5 (fun _=> ?_) (fun _=> ?_))
 ·rw [frm,if_neg (by omega)] at h;exact h
 ·rw [frm,if_pos (by omega)] at h;exact h
 ·rw [frm,if_neg (by omega)] at h;exact h
theorem MQ {n:Int} {p:ByteArray} {K:J2} (hp:(p.size:Int)<2^62) (h:K [.string (frm n p)] []):cl2 ⟨Tryz.prog,w0⟩ 137 DL.sg [I n, .string p] [] K:=by
 refine DL.cl2 ?_
 unfold DL.txt
 have h1:=IK n;have h2:=IK p.size
 have h3:=Y5 (crc ((V n++V p.size)++p))
 repeat' (first | refine D6 ?_ | refine KF ⟨by omega,by omega⟩ ?_ | refine mB (by simp only [ByteArray.size_append];omega) ?_ | refine gL (sV _) ?_ | refine BM ?_ | refine I8 (by first | with_reducible assumption | omega) ?_ | refine EP (by first | with_reducible assumption | omega) ?_ | refine CI (by first | with_reducible assumption | omega) rfl ?_ | refine CD (by first | with_reducible assumption | omega) rfl ?_ | refine BP ?_ | refine AV ?_ | refine CP ?_ | refine CJ ?_ | refine CB (by first | omega | (simp only [ByteArray.size_append];omega)) ?_ | refine AG (fun _=> ?_) (fun _=> ?_) | refine F5 (fun _=> ?_) (fun _=> ?_))
 ·rw [frm,if_neg (by omega)] at h;exact h
 ·rw [frm,if_pos (by omega)] at h;exact h
 ·rw [frm,if_neg (by omega)] at h;exact h
def SF:ByteArray:=⟨#[72,76,79,71,1]⟩
attribute [irreducible] frm crc FX
def frs (l:List ByteArray):Nat→ByteArray
 | 0=>SF
 | i+1=>frs l i++frm i (gS l i)
theorem S6 (l:List ByteArray): ∀i,(frs l i).size≤5+218*i
 | 0=>by show SF.size≤5;decide
 | i+1=>by have h1:=S6 l i;have h2:=OK i (gS l i);rw [frs,ByteArray.size_append];omega
def ZH (p:ByteArray):Prop:=1≤(p.size:Int)∧(p.size:Int)≤200
instance (p:ByteArray):Decidable (ZH p):=inferInstanceAs (Decidable (_∧_))
def PO (l:List ByteArray):ByteArray:=if l.length≤400∧ ∀p∈l,ZH p then frs l l.length++frm l.length ⟨#[]⟩ else ⟨#[]⟩
theorem fK {l:List ByteArray} {i:Nat} (h:i<l.length):gS l i∈l:=by rw [←O0 h];exact List.getElem_mem h
theorem vL {l:List ByteArray} {P:ByteArray→Prop} (h: ∀i,i<l.length→P (gS l i)): ∀p∈l,P p:=by
 intro p hp
 obtain ⟨i,hi,rfl⟩:=List.getElem_of_mem hp
 rw [O0 hi];exact h i hi
theorem ZG {l:List ByteArray} {K:J2} (hl:(l.length:Int)<2^40) (hs: ∀i,((gS l i).size:Int)<2^62) (h:K [.string (PO l)] []):cl2 ⟨Tryz.prog,w0⟩ 47 HO.sg [] [tS l] K:=by
 refine HO.cl2 ?_
 unfold HO.txt
 simp only [AK,AS,AJ,AI,AM,AE,AH,AN,AO,AP,AL,AR,AT,AQ,BB,BE,BI,BH,BK,BJ,BF,AX,A4,AY,A1,AZ,A5]
 refine FJ (AG (fun hgt=> ?_) fun hle=> ?_)
 ·rw [PO,if_neg (by omega)] at h;exact h
 ·refine A9 (fun i=>[.string (frs l i),iv l.length,iv i]) (fun _=>[]) l.length (fun i=> ∀j,j<i→ZH (gS l j)) rfl rfl (fun j hj=>by omega) (fun R i hi hP hR=> ?_)
  have z1:=S6 l i
  have z2:=OK i (gS l i)
  refine AV (AG (fun hlt=> ?_) fun hge=> ?_)
  ·have hlt:i<l.length:=by omega
   repeat' (first | refine GA ?_ | refine MM (hs i) ?_ | refine CB (by omega) ?_ | refine CP ?_ | refine CJ ?_ | refine A6 (by omega) ?_ | refine AW (by omega) ?_ | refine ldS (by omega) ?_ | refine AG (fun _=> ?_) (fun _=> ?_) | simp only [AK,AS,AJ,AI,AM,AE,AH,AN,AO,AP,AL,AR,AT,AQ,BB,BE,BI,BH,BK,BJ,BF,AX,A4,AY,A1,AZ,A5])
   ·rename_i hb
    rw [PO,if_neg (fun hh=>hb (hh.2 _ (fK hlt)))] at h;exact h
   ·rename_i hb
    refine hR hlt fun j hj=> ?_
    rcases Nat.lt_succ_iff_lt_or_eq.1 hj with h1 | rfl
    ·exact hP j h1
    ·exact Decidable.not_not.1 hb
  ·have:i=l.length:=by omega
   subst this
   have z3:=OK l.length ⟨#[]⟩
   rw [PO,if_pos ⟨by omega,vL hP⟩] at h
   refine MM (by decide) (CB (by omega) h)
theorem RX {l:List ByteArray} {K:J2} (hl:(l.length:Int)<2^40) (hs: ∀i,((gS l i).size:Int)<2^62) (h:K [.string (PO l)] []):cl2 ⟨Tryz.prog,w0⟩ 75 FY.sg [] [tS l] K:=by
 refine FY.cl2 ?_
 unfold FY.txt
 simp only [AK,AS,AJ,AI,AM,AE,AH,AN,AO,AP,AL,AR,AT,AQ,BB,BE,BI,BH,BK,BJ,BF,AX,A4,AY,A1,AZ,A5]
 refine FJ (AG (fun hgt=> ?_) fun hle=> ?_)
 ·rw [PO,if_neg (by omega)] at h;exact h
 ·refine GS.cl2 ?_
  refine A9 (fun i=>[.string (frs l i),iv i]) (fun _=>[]) l.length (fun i=> ∀j,j<i→ZH (gS l j)) rfl rfl (fun j hj=>by omega) (fun R i hi hP hR=> ?_)
  have z1:=S6 l i
  have z2:=OK i (gS l i)
  refine AV (AG (fun hlt=> ?_) fun hge=> ?_)
  ·have hlt:i<l.length:=by omega
   have no: ¬ZH (gS l i)→K [.string ⟨#[]⟩] []:=fun hb=>by
    rw [PO,if_neg (fun hh=>hb (hh.2 _ (fK hlt)))] at h;exact h
   repeat' (first | refine MQ (hs i) ?_ | refine CB (by omega) ?_ | refine BM ?_ | refine I8 (by first | with_reducible assumption | omega) ?_ | refine EP (by first | with_reducible assumption | omega) ?_ | refine CI (by first | with_reducible assumption | omega) rfl ?_ | refine CD (by first | with_reducible assumption | omega) rfl ?_ | refine BP ?_ | refine AV ?_ | refine CJ ?_ | refine A6 (by omega) ?_ | refine IE ?_ | refine AW (by omega) ?_ | refine ldS (by omega) ?_ | refine AG (fun _=> ?_) (fun _=> ?_) | refine F5 (fun _=> ?_) (fun _=> ?_))
   ·exact no (by unfold ZH;omega)
   ·rename_i hb1 hb2
    refine hR hlt fun j hj=> ?_
    rcases Nat.lt_succ_iff_lt_or_eq.1 hj with h1 | rfl
    ·exact hP j h1
    ·refine ⟨?_,by omega⟩
     have:(gS l j).size≠0:=fun hz=>hb1 (by
      have:=ByteArray.ext (x:=gS l j) (y:=⟨#[]⟩) (Array.eq_empty_of_size_eq_zero hz)
      exact this)
     omega
   ·rename_i hb
    exact no (by rw [ZH,hb];decide)
  ·have:i=l.length:=by omega
   subst this
   have z3:=OK l.length ⟨#[]⟩
   rw [PO,if_pos ⟨by omega,vL hP⟩] at h
   refine MQ (by decide) (CB (by omega) h)
end Go.Proofs.YtnhicpkhkaihoaaGreat.P
namespace Go.Proofs.YtnhicpkhkaihoaaGreat.P
open Go Go.Proofs.YtnhicpkhkaihoaaGreat Go.Proofs.YtnhicpkhkaihoaaGreat.Eng
set_option maxHeartbeats 4000000
set_option linter.unusedVariables false
set_option linter.unusedSimpArgs false
attribute [local irreducible] prP gP gE gF AU ixW ldc ldg ldl stc stg scW mkW apW BG cl2 BX GP CZ
variable {w0:World}
def HE (n:Int) (l:List ByteArray) (o:Op5) (a:An):ByteArray×Int×List ByteArray:=MI n l o.kind o.a o.b o.c o.site a.code a.val a.freed
theorem U1 (n:Int) (l:List ByteArray) (o:Op5) (a:An):(HE n l o a).1.size≤127∧(HE n l o a).2.2.length≤l.length+1:=by
 unfold HE MI
 split
 ·rename_i h
  obtain ⟨_,hb,_,_,_,_,hx,hl,_⟩:=QM h
  have h1:=XN n l o.kind o.a o.b o.c o.site a.code a.val a.freed.length
  have h2:=(fP (p:=(base n l o.kind o.a o.b o.c o.site a.code a.val a.freed.length,o.a)) hb hx a.freed.length (Nat.le_refl _)).2
  refine ⟨by simp only at h2 ⊢;omega, ?_⟩
  simp only [cJ]
  split
  ·omega
  ·simp
 ·exact ⟨Nat.zero_le _,Nat.le_succ _⟩
def enc (ops:List Op5) (ans:List An):Nat→Option (List ByteArray×Int×List ByteArray)
 | 0=>some ([],0,[])
 | i+1=>match enc ops ans i with
   | none=>none
   | some p=>if (HE p.2.1 p.2.2 (po ops i) (an ans i)).1=⟨#[]⟩ then none else some (p.1++[(HE p.2.1 p.2.2 (po ops i) (an ans i)).1],(HE p.2.1 p.2.2 (po ops i) (an ans i)).2)
theorem ZQ {ops:List Op5} {ans:List An} {i:Nat} (h:enc ops ans i=none): ∀k,i≤k→enc ops ans k=none
 | 0,hk=>by
   have:i=0:=by omega
   subst this;exact h
 | k+1,hk=>by
   rcases Nat.lt_or_ge k i with h1 | h1
   ·have:i=k+1:=by omega
    subst this;exact h
   ·rw [enc,ZQ h k h1]
def encode (ops:List Op5) (ans:List An):ByteArray:=if ops.length≠ans.length∨ops.length≥400 then ⟨#[]⟩ else match enc ops ans ops.length with
 | none=>⟨#[]⟩
 | some p=>PO p.1
structure uW (ops:List Op5) (ans:List An) (q:Nat×List ByteArray×Int×List ByteArray):Prop where
 eq:enc ops ans q.1=some q.2
 le:q.1≤ops.length
 al:q.2.1.length=q.1
 sl:q.2.2.2.length≤q.1
 sz: ∀i,(gS q.2.1 i).size≤127
theorem yL {l:List ByteArray} {s:ByteArray} {b:Nat} (h: ∀i,(gS l i).size≤b) (hs:s.size≤b) (i:Nat):(gS (l++[s]) i).size≤b:=by
 unfold gS at h ⊢
 rcases Nat.lt_trichotomy i l.length with h1 | h1 | h1
 ·have:=h i
  rw [List.getD_eq_getElem?_getD] at this ⊢
  rw [List.getElem?_append_left h1];exact this
 ·subst h1
  rw [List.getD_eq_getElem?_getD,List.getElem?_append_right (Nat.le_refl _)]
  simpa using hs
 ·rw [List.getD_eq_getElem?_getD,List.getElem?_eq_none (by simp;omega)];exact Nat.zero_le _
theorem uW.next {ops:List Op5} {ans:List An} {q:Nat×List ByteArray×Int×List ByteArray} (h:uW ops ans q) (hlt:q.1<ops.length) (hne:(HE q.2.2.1 q.2.2.2 (po ops q.1) (an ans q.1)).1≠⟨#[]⟩):
  uW ops ans (q.1+1,q.2.1++[(HE q.2.2.1 q.2.2.2 (po ops q.1) (an ans q.1)).1],(HE q.2.2.1 q.2.2.2 (po ops q.1) (an ans q.1)).2):=by
 obtain ⟨h1,h2,h3,h4,h5⟩:=h
 have hz:=U1 q.2.2.1 q.2.2.2 (po ops q.1) (an ans q.1)
 refine ⟨by rw [enc,h1];exact if_neg hne,hlt,by simp [h3], ?_,yL h5 hz.1⟩
 have:=hz.2
 simp only at this ⊢;omega
theorem cL {ops:List Op5} {ans:List An} {K:J2} (hl:(ops.length:Int)≤2^40) (hm:(ans.length:Int)≤2^40) (hf: ∀i,((an ans i).freed.length:Int)<2^62) (h:K [.string (encode ops ans)] []):cl2 ⟨Tryz.prog,w0⟩ 17 IZ.sg [] [tR tP ops,tR tA ans] K:=by
 refine IZ.cl2 ?_
 unfold IZ.txt
 simp only [AK,AS,AJ,AI,AM,AE,AH,AN,AO,AP,AL,AR,AT,AQ,BB,BE,BI,BH,BK,BJ,BF,AX,A4,AY,A1,AZ,A5]
 repeat' (first | refine BM ?_ | refine CI (by first | with_reducible assumption | omega) rfl ?_ | refine CD (by first | with_reducible assumption | omega) rfl ?_ | refine BP ?_ | refine DV ?_ | refine B9 ?_ | refine AG (fun _=> ?_) (fun _=> ?_) | refine F5 (fun _=> ?_) (fun _=> ?_))
 ·rw [encode,if_pos (by omega)] at h;exact h
 ·rename_i hne hge
  rw [encode,if_neg (by omega)] at h
  refine CQ (α:=Nat×List ByteArray×Int×List ByteArray) (fun q=>[iv ops.length,iv q.1,I q.2.2.1]) (fun q=>[tS q.2.1,tS q.2.2.2]) (fun q=>ops.length-q.1) (uW ops ans) (0,[],0,[]) rfl rfl ⟨rfl,Nat.zero_le _,rfl,Nat.le_refl _,fun i=>(Nat.zero_le 127:(gS [] i).size≤127)⟩ (fun R q hq hR=> ?_)
  obtain ⟨h1,h2,h3,h4,h5⟩:=id hq
  simp only [AK,AS,AJ,AI,AM,AE,AH,AN,AO,AP,AL,AR,AT,AQ,BB,BE,BI,BH,BK,BJ,BF,AX,A4,AY,A1,AZ,A5]
  refine AV (AG (fun hlt=> ?_) fun hge2=> ?_)
  ·have hlt:q.1<ops.length:=by omega
   refine AW hlt (WW hlt (AW (by omega) (iN (by omega) ?_)))
   rw [fR (by omega)]
   refine QF (by omega) (hf _) ?_
   refine IE (AG (fun he=> ?_) fun he=> ?_)
   ·have:enc ops ans (q.1+1)=none:=by rw [enc,h1];exact if_pos he
    rw [ZQ this ops.length hlt] at h;exact h
   ·refine DP rfl (by first | omega | (simp only [AK,AS,AJ,AI,AM,AE,AH,AN,AO,AP,AL,AR,AT,AQ,BB,BE,BI,BH,BK,BJ,BF,AX,A4,AY,A1,AZ,A5];omega)) (A6 (by omega) ?_)
    have:=hR _ (hq.next hlt he) (by simp only;omega)
    rw [←TW] at this
    exact this
  ·have he:q.1=ops.length:=by omega
   rw [he] at h1
   rw [h1] at h
   exact ZG (by omega) (fun i=>by have:=h5 i;omega) h
 ·rw [encode,if_pos (by omega)] at h;exact h
theorem cT {ops:List Op5} {ans:List An} {K:J2} (hl:(ops.length:Int)≤2^40) (hm:(ans.length:Int)≤2^40) (hf: ∀i,((an ans i).freed.length:Int)<2^62) (h:K [.string (encode ops ans)] []):cl2 ⟨Tryz.prog,w0⟩ 37 G6.sg [] [tR tP ops,tR tA ans] K:=by
 refine G6.cl2 ?_
 unfold G6.txt
 simp only [AK,AS,AJ,AI,AM,AE,AH,AN,AO,AP,AL,AR,AT,AQ,BB,BE,BI,BH,BK,BJ,BF,AX,A4,AY,A1,AZ,A5]
 repeat' (first | refine BM ?_ | refine CI (by first | with_reducible assumption | omega) rfl ?_ | refine CD (by first | with_reducible assumption | omega) rfl ?_ | refine BP ?_ | refine DV ?_ | refine B9 ?_ | refine AG (fun _=> ?_) (fun _=> ?_) | refine F5 (fun _=> ?_) (fun _=> ?_))
 ·rw [encode,if_pos (by omega)] at h;exact h
 ·rename_i hne hge
  rw [encode,if_neg (by omega)] at h
  refine CQ (α:=Nat×List ByteArray×Int×List ByteArray) (fun q=>[iv q.1,I q.2.2.1]) (fun q=>[tS q.2.1,tS q.2.2.2]) (fun q=>ops.length-q.1) (uW ops ans) (0,[],0,[]) rfl rfl ⟨rfl,Nat.zero_le _,rfl,Nat.le_refl _,fun i=>(Nat.zero_le 127:(gS [] i).size≤127)⟩ (fun R q hq hR=> ?_)
  obtain ⟨h1,h2,h3,h4,h5⟩:=id hq
  simp only [AK,AS,AJ,AI,AM,AE,AH,AN,AO,AP,AL,AR,AT,AQ,BB,BE,BI,BH,BK,BJ,BF,AX,A4,AY,A1,AZ,A5]
  refine AV (AG (fun hlt=> ?_) fun hge2=> ?_)
  ·have hlt:q.1<ops.length:=by omega
   refine AW hlt (WW hlt (AW (by omega) (iN (by omega) ?_)))
   rw [fR (by omega)]
   refine QP (by omega) (hf _) ?_
   refine IE (AG (fun he=> ?_) fun he=> ?_)
   ·have:enc ops ans (q.1+1)=none:=by rw [enc,h1];exact if_pos he
    rw [ZQ this ops.length hlt] at h;exact h
   ·refine DP rfl (by first | omega | (simp only [AK,AS,AJ,AI,AM,AE,AH,AN,AO,AP,AL,AR,AT,AQ,BB,BE,BI,BH,BK,BJ,BF,AX,A4,AY,A1,AZ,A5];omega)) (A6 (by omega) ?_)
    have:=hR _ (hq.next hlt he) (by simp only;omega)
    rw [←TW] at this
    exact this
  ·have he:q.1=ops.length:=by omega
   rw [he] at h1
   rw [h1] at h
   exact RX (by omega) (fun i=>by have:=h5 i;omega) h
 ·rw [encode,if_pos (by omega)] at h;exact h
attribute [irreducible] HE
end Go.Proofs.YtnhicpkhkaihoaaGreat.P
namespace Go.Proofs.YtnhicpkhkaihoaaGreat.P
open Go Go.Proofs.YtnhicpkhkaihoaaGreat Go.Proofs.YtnhicpkhkaihoaaGreat.Eng
set_option maxHeartbeats 4000000
set_option linter.unusedVariables false
set_option linter.unusedSimpArgs false
attribute [local irreducible] prP gP gE gF AU ixW ldc ldg ldl stc stg scW mkW apW BG cl2 BX GP CZ
variable {w0:World}
theorem Dy {s:ByteArray} {a b:Nat} {K:Value→Prop} (h1:a≤b) (h2:b≤s.size) (h:K (.string (s.extract a b))):prP (scS (.string s) (some (iv a)) (some (iv b))) K:=by
 have:scS (.string s) (some (iv a)) (some (iv b))=some (.string (s.extract a b)):=by
  simp only [scS,bnd,iv,Int.natCast_nonneg,if_true,Option.bind_some,Int.toNat_natCast]
  rw [if_pos ⟨h1,h2⟩]
 rw [this];exact BL rfl h
theorem zJ {s:ByteArray} {b:Nat} {K:Value→Prop} (h2:b≤s.size) (h:K (.string (s.extract 0 b))):prP (scS (.string s) none (some (iv b))) K:=by
 have:scS (.string s) none (some (iv b))=some (.string (s.extract 0 b)):=by
  simp only [scS,bnd,iv,Int.natCast_nonneg,if_true,Option.bind_some,Int.toNat_natCast]
  rw [if_pos ⟨Nat.zero_le _,h2⟩]
 rw [this];exact BL rfl h
def dr (s:ByteArray) (a:Nat):ByteArray:=s.extract a s.size
theorem C2 (s:ByteArray) (a:Nat):(dr s a).size=s.size-a:=by simp [dr]
theorem kT {s:ByteArray} {a:Nat} {K:Value→Prop} (h2:a≤s.size) (h:K (.string (dr s a))):prP (scS (.string s) (some (iv a)) none) K:=by
 have:scS (.string s) (some (iv a)) none=some (.string (dr s a)):=by
  simp only [scS,bnd,iv,Int.natCast_nonneg,if_true,Option.bind_some,Int.toNat_natCast]
  rw [if_pos ⟨h2,Nat.le_refl _⟩];rfl
 rw [this];exact BL rfl h
theorem XR {s:ByteArray} {a:Int} {K:Value→Prop} (h1:0≤a) (h2:a≤s.size) (h:K (.string (dr s a.toNat))):prP (scS (.string s) (some (I a)) none) K:=by
 obtain ⟨n,rfl⟩: ∃n:Nat,a=n:=⟨a.toNat,by omega⟩
 exact kT (by omega) h
theorem XP {s:ByteArray} {b:Int} {K:Value→Prop} (h1:0≤b) (h2:b≤s.size) (h:K (.string (s.extract 0 b.toNat))):prP (scS (.string s) none (some (I b))) K:=by
 obtain ⟨n,rfl⟩: ∃n:Nat,b=n:=⟨b.toNat,by omega⟩
 exact zJ (by omega) h
theorem hZ {s:ByteArray} {a b:Int} {K:Value→Prop} (h0:0≤a) (h1:a≤b) (h2:b≤s.size) (h:K (.string (s.extract a.toNat b.toNat))):prP (scS (.string s) (some (I a)) (some (I b))) K:=by
 obtain ⟨n,rfl⟩: ∃n:Nat,a=n:=⟨a.toNat,by omega⟩
 obtain ⟨m,rfl⟩: ∃n:Nat,b=n:=⟨b.toNat,by omega⟩
 exact Dy (by omega) (by omega) h
theorem ZA (s:ByteArray) (a b:Nat) (h:a+b≤s.size):dr (dr s a) b=dr s (a+b):=by
 apply ByteArray.ext
 simp only [dr,ByteArray.data_extract,ByteArray.size_extract]
 rw [Array.extract_extract]
 congr 1
 omega
theorem Ee (s:ByteArray):dr s 0=s:=by
 apply ByteArray.ext
 simp only [dr,ByteArray.data_extract]
 exact Array.extract_size
def bys (s:ByteArray) (k:Nat):List Nat:=(List.range k).map (by_ s)
def MX:List Nat→Nat
 | []=>0
 | x::r=>x % 128+128*MX r
def QL:Bool→List Nat→Bool
 | _,[]=>false
 | f,[x]=>decide (x<128)&&(f||decide (x≠0))
 | _,x::y::r=>decide (x≥128)&&QL false (y::r)
theorem jR: ∀{L:List Nat},QL false L=true→1≤MX L
 | [],h=>by simp [QL] at h
 | [x],h=>by simp [QL] at h;simp only [MX];omega
 | x::y::r,h=>by
   simp only [QL,Bool.and_eq_true] at h
   have:=jR h.2
   simp only [MX] at this ⊢;omega
theorem sP: ∀{L:List Nat} {f:Bool} {k:Nat},(∀x∈L,x<256)→QL f L=true→L.length≤k+1→vd k (MX L)=L
 | [],f,k,_,h,_=>by simp [QL] at h
 | [x],f,k,_,h,_=>by
   simp only [QL,Bool.and_eq_true,decide_eq_true_eq] at h
   have h1:x % 128+128*0=x:=by omega
   simp only [MX,h1]
   cases k with
   | zero=>rfl
   | succ k=>rw [vd,if_neg (by omega)]
 | x::y::r,f,0,_,h,hl=>by simp at hl
 | x::y::r,f,k+1,hb,h,hl=>by
   simp only [QL,Bool.and_eq_true,decide_eq_true_eq] at h
   have h1:=jR h.2
   have hx:=hb x (by simp)
   have h2:MX (x::y::r)=x % 128+128*MX (y::r):=rfl
   have h3:MX (x::y::r)/128=MX (y::r):=by omega
   have h4:128+MX (x::y::r) % 128=x:=by omega
   rw [vd,if_pos (by omega),h3,h4,sP (L:=y::r) (fun z hz=>hb z (by simp [hz])) h.2 (by simpa using hl)]
theorem Ac: ∀k n,vd k n≠[]
 | 0,n=>by simp [vd]
 | k+1,n=>by unfold vd;split <;> simp
theorem wN: ∀{k n:Nat},n<128^(k+1)→QL true (vd k n)=true∧(1≤n→QL false (vd k n)=true)
 | 0,n,h=>by simp at h;simp [vd,QL,h];omega
 | k+1,n,h=>by
   unfold vd
   split
   ·rename_i hge
    have hd:n/128<128^(k+1):=by rw [Nat.pow_succ] at h;omega
    have h2:=(wN hd).2 (by omega)
    cases hv:vd k (n/128) with
    | nil=>exact absurd hv (Ac _ _)
    | cons y r=>
      rw [hv] at h2
      have:QL false (y::r)=true:=h2
      simp [QL,this]
   ·simp [QL];omega
theorem eY: ∀L:List Nat,MX L<128^L.length
 | []=>by simp [MX]
 | x::r=>by have:=eY r;simp only [MX,List.length_cons,Nat.pow_succ];omega
theorem RJ (s:ByteArray) (k:Nat):(bys s k).length=k:=by simp [bys]
theorem uH (s:ByteArray) (k:Nat): ∀x∈bys s k,x<256:=by
 intro x hx
 obtain ⟨i,_,rfl⟩:=List.mem_map.1 hx
 exact aB s i
def RZ (s:ByteArray) (k:Nat):Nat:=MX (bys s k)
theorem YW (s:ByteArray) {k:Nat} (hk:k≤7):RZ s k<2^49:=by
 have h:=eY (bys s k)
 rw [RJ] at h
 have:128^k≤128^7:=Nat.pow_le_pow_right (by omega) hk
 have:(128:Nat)^7=2^49:=by decide
 unfold RZ;omega
theorem dB: ∀(L:List Nat) (x:Nat),MX (L++[x])=MX L+x % 128*128^L.length
 | [],x=>by simp [MX]
 | y::L,x=>by
   simp only [List.cons_append,MX,dB L x,List.length_cons,Nat.pow_succ]
   rw [Nat.mul_add]
   have:x % 128*(128^L.length*128)=128*(x % 128*128^L.length):=by
    rw [←Nat.mul_assoc,Nat.mul_comm]
   omega
theorem lW (s:ByteArray) (k:Nat):bys s (k+1)=bys s k++[by_ s k]:=by simp [bys,List.range_succ]
theorem rR (s:ByteArray) (k:Nat):RZ s (k+1)=RZ s k+by_ s k % 128*128^k:=by rw [RZ,lW,dB,RJ];rfl
theorem dM: ∀(L:List Nat) (f:Bool) (x:Nat),QL f (L++[x])=(L.all (fun y=>decide (y≥128))&&(decide (x<128)&&((f&&L.isEmpty)||decide (x≠0))))
 | [],f,x=>by simp [QL]
 | [y],f,x=>by simp [QL]
 | y::z::r,f,x=>by
   have h:=dM (z::r) false x
   simp only [List.cons_append] at h ⊢
   rw [QL,h]
   simp [Bool.and_assoc]
def WR (s:ByteArray) (k:Nat):Bool:=QL true (bys s k)
theorem TX (s:ByteArray) (k:Nat):WR s (k+1)=true↔(∀i,i<k→128≤by_ s i)∧by_ s k<128∧(k=0∨by_ s k≠0):=by
 rw [WR,lW,dM]
 simp only [Bool.and_eq_true,Bool.or_eq_true,decide_eq_true_eq,List.all_eq_true,List.isEmpty_iff,true_and]
 have h0:bys s k=[]↔k=0:=by rw [←List.length_eq_zero_iff,RJ]
 rw [h0]
 constructor
 ·rintro ⟨h1,h2,h3⟩
  exact ⟨fun i hi=>h1 _ (List.mem_map.2 ⟨i,List.mem_range.2 hi,rfl⟩),h2,h3⟩
 ·rintro ⟨h1,h2,h3⟩
  refine ⟨fun y hy=> ?_,h2,h3⟩
  obtain ⟨i,hi,rfl⟩:=List.mem_map.1 hy
  exact h1 i (List.mem_range.1 hi)
theorem S3 (l:List Nat):(HI l).data.toList=l.map UInt8.ofNat:=by
 have: ∀(l:List Nat) (b:ByteArray),(l.foldl (fun b n=>b.push (UInt8.ofNat n)) b).data.toList=b.data.toList++l.map UInt8.ofNat:=by
  intro l
  induction l with
  | nil=>intro b;simp
  | cons a l ih=>intro b;rw [List.foldl_cons,ih];simp
 rw [HI,this];rfl
theorem lO {s:ByteArray} {k:Nat} (hk:k≤s.size):s.extract 0 k=HI (bys s k):=by
 apply ByteArray.ext
 apply Array.ext'
 rw [S3,ByteArray.data_extract,Array.toList_extract]
 apply List.ext_getElem
 ·simp [bys];have:s.size=s.data.size:=rfl;omega
 ·intro i h1 h2
  have hi:i<k:=by simpa [bys] using h2
  have his:i<s.data.size:=by have:s.size=s.data.size:=rfl;omega
  simp [bys,by_,Array.getD,his]
  intro hcon;have:s.size=s.data.size:=rfl;omega
theorem m6 {a b:List Nat} (ha: ∀x∈a,x<256) (hb: ∀x∈b,x<256) (h:HI a=HI b):a=b:=by
 have h1:a.map UInt8.ofNat=b.map UInt8.ofNat:=by rw [←S3, ←S3,h]
 have h2:=congrArg (List.map UInt8.toNat) h1
 simp only [List.map_map] at h2
 have: ∀l:List Nat,(∀x∈l,x<256)→l.map (UInt8.toNat ∘ UInt8.ofNat)=l:=by
  intro l hl
  induction l with
  | nil=>rfl
  | cons x l ih=>
    have hx:=hl x (by simp)
    rw [List.map_cons,ih fun y hy=>hl y (by simp [hy])]
    simp [Nat.mod_eq_of_lt hx]
 rwa [this a ha,this b hb] at h2
theorem Af: ∀(k n:Nat),n<128^(k+1)→ ∀x∈vd k n,x<256
 | 0,n,h=>by simp at h;simp [vd];omega
 | k+1,n,h=>by
   unfold vd
   split
   ·intro x hx
    rcases List.mem_cons.1 hx with rfl | hx
    ·omega
    ·exact Af k (n/128) (by rw [Nat.pow_succ] at h;omega) x hx
   ·simp;omega
theorem Ah {n:Nat} (h:n<2^49):V n=HI (vd 6 n):=by
 rw [V,if_pos (by rw [KR];omega),Int.toNat_natCast]
theorem XG {s:ByteArray} {k:Nat} (hk:k≤7) (hs:k≤s.size):V (RZ s k)=s.extract 0 k↔WR s k=true:=by
 have hlt:=YW s hk
 have h49:(128:Nat)^(6+1)=2^49:=by decide
 rw [Ah hlt,lO hs]
 constructor
 ·intro h
  have:=m6 (Af 6 _ (by rw [h49];exact hlt)) (uH s k) h
  rw [WR, ←this]
  exact (wN (by rw [h49];exact hlt)).1
 ·intro h
  rw [RZ,sP (uH s k) h (by rw [RJ];omega)]
def rvF (s:ByteArray):Nat→Nat→Int×Int
 | 0,_=>(0,0)
 | f+1,j=>if j≤s.size∧WR s j=true then ((RZ s j:Int),(j:Int)) else rvF s f (j+1)
def rv (s:ByteArray):Int×Int:=rvF s 7 1
theorem pP {s:ByteArray} {j:Nat} (hc:j≤s.size∧WR s j=true): ∀(f i:Nat),i≤j→j<i+f→(∀m,i≤m→m<j→ ¬(m≤s.size∧WR s m=true))→rvF s f i=((RZ s j:Int),(j:Int))
 | 0,i,h1,h2,_=>by omega
 | f+1,i,h1,h2,hn=>by
   rcases Nat.lt_or_ge i j with h | h
   ·rw [rvF,if_neg (hn i (Nat.le_refl _) h)]
    exact pP hc f (i+1) h (by omega) fun m hm=>hn m (by omega)
   ·have:i=j:=by omega
    subst this
    rw [rvF,if_pos hc]
theorem WH {s:ByteArray}: ∀(f i:Nat),(∀m,i≤m→m<i+f→ ¬(m≤s.size∧WR s m=true))→rvF s f i=(0,0)
 | 0,i,_=>rfl
 | f+1,i,hn=>by
   rw [rvF,if_neg (hn i (Nat.le_refl _) (by omega))]
   exact WH f (i+1) fun m hm hm2=>hn m (by omega) (by omega)
theorem Dv (s:ByteArray):rv s=(0,0)∨ ∃j:Nat,1≤j∧j≤7∧j≤s.size∧WR s j=true∧rv s=((RZ s j:Int),(j:Int)):=by
 have: ∀f i,1≤i→i+f≤8→rvF s f i=(0,0)∨ ∃j:Nat,1≤j∧j≤7∧j≤s.size∧WR s j=true∧rvF s f i=((RZ s j:Int),(j:Int)):=by
  intro f
  induction f with
  | zero=>intro i _ _;exact .inl rfl
  | succ f ih=>
    intro i h1 h2
    by_cases hc:i≤s.size∧WR s i=true
    ·exact .inr ⟨i,h1,by omega,hc.1,hc.2,by rw [rvF,if_pos hc]⟩
    ·rw [rvF,if_neg hc];exact ih (i+1) (by omega) (by omega)
 exact this 7 1 (by omega) (by omega)
theorem uR {a m:Nat} {b:Int} {K:Value→Prop} (hb:b=m) (hm:m≤64) (hf:a*2^m<2^63) (h:K (I ((a*2^m:Nat):Int))):prP (bnI .shl (I a) (I b)) K:=by
 subst hb
 have e:bnI .shl (I a) (I (m:Int))=some (.int .i64 (IntKind.i64.wrap ((a:Int)*2^min (m:Int).toNat 64))):=by
  show (if (m:Int)<0 then none else _)=_
  rw [if_neg (by omega)];rfl
 have e2:(a:Int)*2^min (m:Int).toNat 64=((a*2^m:Nat):Int):=by
  rw [Int.toNat_natCast,Nat.min_eq_left hm];simp
 rw [e,e2,LC ⟨by omega,by omega⟩];exact BL rfl h
theorem KK {s:ByteArray} {K:J2} (hs:(s.size:Int)<2^62) (h:K [I (rv s).1,I (rv s).2] []):cl2 ⟨Tryz.prog,w0⟩ 139 C7.sg [.string s] [] K:=by
 refine C7.cl2 ?_
 unfold C7.txt
 refine A9 (fun k=>[.string s,I (RZ s k),iv k]) (fun _=>[]) 7 (fun k=>k≤s.size∧ ∀i,i<k→128≤by_ s i) rfl rfl ⟨Nat.zero_le _,fun i hi=>by omega⟩ (fun R k hk hP hR=> ?_)
 obtain ⟨hks,hP⟩:=hP
 have KD:(7≤k∨s.size≤k)→K [I 0,I 0] []:=fun hc=>by
  have:rv s=(0,0):=WH 7 1 fun m h1 h2 ⟨h3,h4⟩=>by
   obtain ⟨m,rfl⟩: ∃m',m=m'+1:=⟨m-1,by omega⟩
   rw [TX] at h4
   have:=hP m (by omega);omega
  rw [this] at h;exact h
 repeat' (first | exact KD (by omega) | refine ZT (by omega) ?_ | refine BM ?_ | refine IF (by first | with_reducible assumption | omega) ?_ | refine LP (by first | with_reducible assumption | omega) ?_ | refine CI (by first | with_reducible assumption | omega) rfl ?_ | refine CD (by first | with_reducible assumption | omega) rfl ?_ | refine BT ?_ | refine AV ?_ | refine CJ ?_ | refine AG (fun _=> ?_) (fun _=> ?_) | refine IG (fun _=> ?_) (fun _=> ?_) | simp only [AK,AS,AJ,AI,AM,AE,AH,AN,AO,AP,AL,AR,AT,AQ,BB,BE,BI,BH,BK,BJ,BF,AX,A4,AY,A1,AZ,A5])
 have hb:=aB s k
 have hv:=YW s (k:=k) (by omega)
 have h7:(128:Nat)^k=2^(7*k):=by rw [Nat.pow_mul]
 have hle:(2:Nat)^(7*k)≤2^42:=Nat.pow_le_pow_right (by omega) (by omega)
 have hmul:by_ s k % 128*2^(7*k)≤127*2^42:=Nat.mul_le_mul (by omega) hle
 refine OW ⟨by omega,by omega⟩ (JX (by omega) (by omega) (KU ⟨by omega,by omega⟩ (uR (a:=by_ s k % 128) (m:=7*k) (by omega) (by omega) (by omega) (B3 ⟨by omega,by omega⟩ ?_))))
 have e:(RZ s k:Int)+((by_ s k % 128*2^(7*k):Nat):Int)=(RZ s (k+1):Int):=by rw [rR,h7];omega
 rw [e]
 refine JA (AG (fun hge=> ?_) fun hlt=> ?_)
 ·refine A6 (by omega) (hR (by omega) ⟨by omega,fun i hi=> ?_⟩)
  rcases Nat.lt_succ_iff_lt_or_eq.1 hi with h1 | rfl
  ·exact hP i h1
  ·omega
 ·have none': ∀m,1≤m→m<k+1→ ¬(m≤s.size∧WR s m=true):=fun m h1 h2 ⟨h3,h4⟩=>by
   obtain ⟨m,rfl⟩: ∃m',m=m'+1:=⟨m-1,by omega⟩
   rw [TX] at h4
   have:=hP m (by omega);omega
  repeat' (first | refine BM ?_ | refine CI (by first | with_reducible assumption | omega) rfl ?_ | refine CD (by first | with_reducible assumption | omega) rfl ?_ | refine BT ?_ | refine AV ?_ | refine BA ?_ | refine A6 (by omega) ?_ | refine AG (fun _=> ?_) (fun _=> ?_) | refine IG (fun _=> ?_) (fun _=> ?_))
  ·have:rv s=(0,0):=WH 7 1 fun m h1 h2 hh=>by
    rcases Nat.lt_or_ge m (k+1) with h3 | h3
    ·exact none' m h1 h3 hh
    ·obtain ⟨m,rfl⟩: ∃m',m=m'+1:=⟨m-1,by omega⟩
     have h4:=(TX s m).1 hh.2
     rcases Nat.lt_or_ge k m with h5 | h5
     ·have:=h4.1 k h5;omega
     ·have:m=k:=by omega
      subst this
      omega
   rw [this] at h;exact h
  all_goals
   have:rv s=((RZ s (k+1):Int),((k+1:Nat):Int)):=pP ⟨by omega,(TX s k).2 ⟨hP,by omega,by omega⟩⟩ 7 1 (by omega) (by omega) none'
   rw [this] at h;exact h
theorem ID {s:ByteArray} {K:J2} (hs:(s.size:Int)<2^62) (h:K [I (rv s).1,I (rv s).2] []):cl2 ⟨Tryz.prog,w0⟩ 101 CL.sg [.string s] [] K:=by
 refine CL.cl2 ?_
 unfold CL.txt
 refine CQ (α:=Nat) (fun k=>[.string s,iv k]) (fun _=>[]) (fun k=>8-k) (fun k=>1≤k∧k≤8∧ ∃f,f+k=8∧rvF s f k=rv s) 1 rfl rfl ⟨by omega,by omega,7,rfl,rfl⟩ (fun R k hP hR=> ?_)
 obtain ⟨h1,h8,f,hf,hrv⟩:=hP
 have KD:(7<k∨s.size<k)→K [I 0,I 0] []:=fun hc=>by
  have:rvF s f k=(0,0):=WH f k fun m m1 m2 ⟨m3,m4⟩=>by omega
  rw [←hrv,this] at h;exact h
 repeat' (first | exact KD (by omega) | refine BM ?_ | refine IF (by first | with_reducible assumption | omega) ?_ | refine LP (by first | with_reducible assumption | omega) ?_ | refine CI (by first | with_reducible assumption | omega) rfl ?_ | refine CD (by first | with_reducible assumption | omega) rfl ?_ | refine BT ?_ | refine DV ?_ | refine CJ ?_ | refine DO ⟨by omega,by omega⟩ ?_ | refine AG (fun _=> ?_) (fun _=> ?_) | refine IG (fun _=> ?_) (fun _=> ?_) | simp only [AK,AS,AJ,AI,AM,AE,AH,AN,AO,AP,AL,AR,AT,AQ,BB,BE,BI,BH,BK,BJ,BF,AX,A4,AY,A1,AZ,A5])
 obtain ⟨f,rfl⟩: ∃f',f=f'+1:=⟨f-1,by omega⟩
 have drop: ∀j,j<k→MX ((bys s k).drop j)=by_ s j % 128+128*MX ((bys s k).drop (j+1)):=fun j hj=>by
  have hjl:j<(bys s k).length:=by rw [RJ];exact hj
  rw [List.drop_eq_getElem_cons hjl]
  simp [MX,bys]
 have small: ∀j,MX ((bys s k).drop j)<2^49:=fun j=>by
  have h:=eY ((bys s k).drop j)
  rw [List.length_drop,RJ] at h
  have:128^(k-j)≤128^7:=Nat.pow_le_pow_right (by omega) (by omega)
  have:(128:Nat)^7=2^49:=by decide
  omega
 refine CQ (α:=Nat) (fun j=>[.string s,iv k,I (MX ((bys s k).drop j)),I ((j:Int)-1)]) (fun _=>[]) (fun j=>j) (fun j=>j≤k) k ?_ rfl (Nat.le_refl _) (fun R2 j hj hR2=> ?_)
 ·have:(bys s k).drop k=[]:=by rw [List.drop_eq_nil_iff,RJ];exact Nat.le_refl _
  rw [this];rfl
 ·refine JA (AG (fun hge=> ?_) fun hlt=> ?_)
  ·obtain ⟨j,rfl⟩: ∃j',j=j'+1:=⟨j-1,by omega⟩
   have hj2:(((j+1:Nat):Int)-1)=(j:Int):=by omega
   have hb:=aB s j
   have hsm:=small (j+1)
   have hR2':=hR2 j (by omega) (by omega)
   refine KU ⟨by omega,by omega⟩ ?_
   simp only [BB,BE,BI,BH]
   rw [hj2]
   refine ZT (by omega) (OW ⟨by omega,by omega⟩ (JX (by omega) (by omega) (B3 ⟨by omega,by omega⟩ (DO ⟨by omega,by omega⟩ ?_))))
   have e:(MX ((bys s k).drop (j+1)):Int)*128+(by_ s j:Int) % 128=(MX ((bys s k).drop j):Int):=by rw [drop j (by omega)];omega
   rw [e];exact hR2'
  ·have:j=0:=by omega
   subst this
   have hv:=YW s (k:=k) (by omega)
   have e:MX ((bys s k).drop 0)=RZ s k:=rfl
   simp only [BB,BE,BI,BH]
   rw [e]
   refine KF ⟨by omega,by omega⟩ (zJ (by omega) (IE (AG (fun he=> ?_) fun he=> ?_)))
   ·have:=(XG (by omega) (by omega)).1 he
    rw [←hrv,rvF,if_pos ⟨by omega,this⟩] at h
    exact h
   ·refine A6 (by omega) (hR (k+1) ⟨by omega,by omega,f,by omega, ?_⟩ (by omega))
    rw [←hrv,rvF,if_neg fun hh=>he ((XG (by omega) (by omega)).2 hh.2)]
attribute [irreducible] rv rvF WR RZ bys dr
end Go.Proofs.YtnhicpkhkaihoaaGreat.P
