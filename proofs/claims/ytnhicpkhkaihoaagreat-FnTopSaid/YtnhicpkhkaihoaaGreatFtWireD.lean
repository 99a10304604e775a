/- A part of the proof. -/
import Derived.Test.YtnhicpkhkaihoaaGreatFtTxtH
import Derived.Test.YtnhicpkhkaihoaaGreatFtHpA
namespace Go.Proofs.YtnhicpkhkaihoaaGreat.P
open Go Go.Proofs.YtnhicpkhkaihoaaGreat Go.Proofs.YtnhicpkhkaihoaaGreat.Eng
set_option linter.unusedVariables false
theorem vL {F:J2→J2} {xs:List Value} {cs:List (List T)} (h: ∀R:J2,(∀xs cs,F R xs cs→R xs cs)→F R xs cs):BC F xs cs:=fun R hR=>hR _ _ (h R hR)
set_option maxHeartbeats 4000000
set_option linter.unusedVariables false
set_option linter.unusedSimpArgs false
attribute [local irreducible] prP gP gE gF AV ixW ldc ldg ldl stc stg scW mkW apW BC cl2 BW F6 C2
variable {w0:World}
theorem dH {a b:Nat} {K:Value→Prop} (ha:a<2^32) (hb:b<2^32) (h:K (I ((a^^^b:Nat):Int))):prP (bnI .xor (I a) (I b)) K:=by
 have hx:a^^^b<2^32:=Nat.xor_lt_two_pow ha hb
 refine BK (v:= .int .i64 (IntKind.i64.wrap (BitVec.ofInt 64 a^^^BitVec.ofInt 64 b).toNat)) rfl ?_
 have e:(BitVec.ofInt 64 (a:Int)^^^BitVec.ofInt 64 (b:Int)).toNat=a^^^b:=by
  rw [BitVec.toNat_xor,BitVec.ofInt_natCast,BitVec.ofInt_natCast,BitVec.toNat_ofNat,BitVec.toNat_ofNat,Nat.mod_eq_of_lt (by omega),Nat.mod_eq_of_lt (by omega)]
 rw [e,K3 ⟨by omega,by omega⟩];exact h
abbrev U (n:Int):Value:= .int .u32 n
theorem cW {a b:Nat} {K:Value→Prop} (ha:a<2^32) (hb:b<2^32) (h:K (U ((a^^^b:Nat):Int))):prP (bnI .xor (U a) (U b)) K:=by
 have hx:a^^^b<2^32:=Nat.xor_lt_two_pow ha hb
 refine BK (v:= .int .u32 (IntKind.u32.wrap (BitVec.ofInt 32 a^^^BitVec.ofInt 32 b).toNat)) rfl ?_
 have e:(BitVec.ofInt 32 (a:Int)^^^BitVec.ofInt 32 (b:Int)).toNat=a^^^b:=by
  rw [BitVec.toNat_xor,BitVec.ofInt_natCast,BitVec.ofInt_natCast,BitVec.toNat_ofNat,BitVec.toNat_ofNat,Nat.mod_eq_of_lt (by omega),Nat.mod_eq_of_lt (by omega)]
 rw [e,IntKind.wrap_u32,Int.emod_eq_of_lt (by omega) (by omega)];exact h
theorem vT {a:Nat} {K:Value→Prop} (ha:a<2^32) (h:K (U ((a % 2:Nat):Int))):prP (bnI .and (U a) (U 1)) K:=by
 refine BK (v:= .int .u32 (IntKind.u32.wrap (BitVec.ofInt 32 a&&& BitVec.ofInt 32 1).toNat)) rfl ?_
 have e:(BitVec.ofInt 32 (a:Int)&&& BitVec.ofInt 32 1).toNat=a % 2:=by
  rw [BitVec.toNat_and,BitVec.ofInt_natCast,BitVec.toNat_ofNat,Nat.mod_eq_of_lt (by omega)]
  exact Nat.and_one_is_mod a
 rw [e,IntKind.wrap_u32,Int.emod_eq_of_lt (by omega) (by omega)];exact h
theorem tV {a:Nat} {K:Value→Prop} (h:K (U ((a/2:Nat):Int))):prP (bnI .shr (U a) (.int .u64 1)) K:=by
 refine BK (v:= .int .u32 ((a:Int).fdiv (2^min (1:Int).toNat 32))) rfl ?_
 have e:(a:Int).fdiv (2^min (1:Int).toNat 32)=((a/2:Nat):Int):=by
  show (a:Int).fdiv 2=_
  rw [Int.fdiv_eq_ediv_of_nonneg _ (by omega)];omega
 rw [e];exact h
theorem y6 {a b:Int} {K:Value→Prop} (h:K (.bool (decide (a=b)))):prP (bnI .eql (U a) (U b)) K:=BK rfl h
theorem p6 {a:Nat} {K:Value→Prop} (ha:a<2^32) (h:K (U ((4294967295-a:Nat):Int))):prP (un .xor (U a)) K:=by
 refine BK (v:= .int .u32 (IntKind.u32.wrap (BitVec.ofInt 32 4294967295^^^BitVec.ofInt 32 a).toNat)) rfl ?_
 have e:(BitVec.ofInt 32 4294967295^^^BitVec.ofInt 32 (a:Int)).toNat=4294967295-a:=by
  have h1:BitVec.ofInt 32 4294967295=BitVec.allOnes 32:=by decide
  rw [h1,BitVec.xor_comm,BitVec.xor_allOnes,BitVec.toNat_not,BitVec.ofInt_natCast,BitVec.toNat_ofNat,Nat.mod_eq_of_lt (by omega)]
 rw [e,IntKind.wrap_u32,Int.emod_eq_of_lt (by omega) (by omega)];exact h
theorem SO {k:IntKind} {n:Int} {K:Value→Prop} (hf:F64 n) (h:K (I n)):prP (cvI .i64 (.int k n)) K:=
 BK (v:= .int .i64 (IntKind.i64.wrap n)) rfl (by rw [K3 hf];exact h)
theorem sG {k:IntKind} {n:Nat} {K:Value→Prop} (hf:n<2^32) (h:K (U n)):prP (cvI .u32 (.int k n)) K:=
 BK (v:= .int .u32 (IntKind.u32.wrap n)) rfl (by rw [IntKind.wrap_u32,Int.emod_eq_of_lt (by omega) (by omega)];exact h)
def by_ (s:ByteArray) (i:Nat):Nat:=(s.data.getD i 0).toNat
theorem gU (s:ByteArray) (i:Nat):by_ s i<256:=UInt8.toNat_lt _
theorem mL {s:ByteArray} {i:Nat} {K:Value→Prop} (hi:i<s.size) (h:K (.int .u8 (by_ s i:Int))):prP (ix (.string s) (iv i)) K:=by
 have h0:(0:Int)≤(i:Int):=by omega
 have hg:s[i]? =some s[i]:=getElem?_pos s i hi
 have hv:s[i].toNat=by_ s i:=by
  have hs:i<s.data.size:=hi
  simp only [by_,Array.getD,hs,dite_true]
  rfl
 have hx:ix (.string s) (iv i)=some (.int .u8 (by_ s i:Int)):=by
  show (if 0≤(i:Int) then (s[(i:Int).toNat]?).map fun b=>Value.int .u8 b.toNat else none)=_
  rw [if_pos h0,Int.toNat_natCast,hg]
  simp only [Option.map_some,hv]
 rw [hx];exact BK rfl h
def vE (c:Nat):Nat:=if c % 2=1 then (c/2)^^^2197175160 else c/2
def jU:Nat→Nat→Nat
 | 0,c=>c
 | k+1,c=>vE (jU k c)
def ZS (s:ByteArray):Nat→Nat
 | 0=>4294967295
 | i+1=>jU 8 (ZS s i^^^by_ s i)
theorem yH {c:Nat} (h:c<2^32):vE c<2^32:=by
 unfold vE;split
 ·exact Nat.xor_lt_two_pow (by omega) (by omega)
 ·omega
theorem YM {c:Nat} (h:c<2^32): ∀k,jU k c<2^32
 | 0=>h
 | k+1=>yH (YM h k)
theorem gA (s:ByteArray): ∀i,ZS s i<2^32
 | 0=>by show (4294967295:Nat)<2^32;omega
 | i+1=>YM (Nat.xor_lt_two_pow (gA s i) (by have:=gU s i;omega)) 8
def crc (s:ByteArray):Nat:=4294967295-ZS s s.size
theorem vO (s:ByteArray):crc s<2^32:=by unfold crc;omega
theorem mP {s:ByteArray} {K:J2} (hs:(s.size:Int)<2^62) (h:K [I (crc s)] []):cl2 ⟨Tryz.prog,w0⟩ 153 LY.sg [.string s] [] K:=by
 refine LY.cl2 ?_
 unfold LY.txt
 refine A8 (fun i=>[.string s,U (ZS s i),iv i]) (fun _=>[]) s.size (fun _=>True) rfl rfl trivial (fun R i hi _ hR=> ?_)
 have hc:=gA s i
 refine DX (AW (AT (fun hlt=> ?_) fun hge=> ?_))
 ·have hlt:i<s.size:=by omega
  replace hR:=hR hlt trivial
  have hb:=gU s i
  have hx:ZS s i^^^by_ s i<2^32:=Nat.xor_lt_two_pow hc (by omega)
  refine mL hlt (sG (by omega) (cW hc (by omega) ?_))
  refine A8 (fun k=>[.string s,U (jU k (ZS s i^^^by_ s i)),iv i,iv k]) (fun _=>[]) 8 (fun _=>True) rfl rfl trivial (fun R2 k hk _ hR2=> ?_)
  have hn:=YM hx k
  refine AW (AT (fun hlt2=> ?_) fun hge2=> ?_)
  ·have hlt2:k<8:=by omega
   replace hR2:=hR2 hlt2 trivial
   rw [jU,vE] at hR2
   refine BS (vT hn (tV (y6 (AT (fun ho=> ?_) fun ho=> ?_))))
   ·rw [if_pos (by omega)] at hR2
    exact cW (b:=2197175160) (by omega) (by omega) (A6 (by omega) hR2)
   ·rw [if_neg (by omega)] at hR2
    exact A6 (by omega) hR2
  ·have:k=8:=by omega
   subst this
   exact A6 (by omega) hR
 ·have:i=s.size:=by omega
  subst this
  exact p6 hc (SO ⟨by omega,by omega⟩ h)
theorem lO {s:ByteArray} {K:J2} (hs:(s.size:Int)<2^62) (h:K [I (crc s)] []):cl2 ⟨Tryz.prog,w0⟩ 180 L5.sg [.string s] [] K:=by
 refine L5.cl2 ?_
 unfold L5.txt
 refine A8 (fun i=>[.string s,I (ZS s i),iv i]) (fun _=>[]) s.size (fun _=>True) rfl rfl trivial (fun R i hi _ hR=> ?_)
 have hc:=gA s i
 refine DX (AW (AT (fun hlt=> ?_) fun hge=> ?_))
 ·have hlt:i<s.size:=by omega
  replace hR:=hR hlt trivial
  have hb:=gU s i
  have hx:ZS s i^^^by_ s i<2^32:=Nat.xor_lt_two_pow hc (by omega)
  refine mL hlt (SO ⟨by omega,by omega⟩ (dH hc (by omega) ?_))
  refine A8 (fun k=>[.string s,I (jU k (ZS s i^^^by_ s i)),iv i,iv k]) (fun _=>[]) 8 (fun _=>True) rfl rfl trivial (fun R2 k hk _ hR2=> ?_)
  have hn:=YM hx k
  refine AW (AT (fun hlt2=> ?_) fun hge2=> ?_)
  ·have hlt2:k<8:=by omega
   replace hR2:=hR2 hlt2 trivial
   rw [jU,vE] at hR2
   refine BS (L7 (by omega) (by omega) (OX (by omega) ⟨by omega,by omega⟩ (by omega) (BL (AT (fun ho=> ?_) fun ho=> ?_))))
   ·rw [if_pos (by omega)] at hR2
    exact dH (a:=jU k (ZS s i^^^by_ s i)/2) (b:=2197175160) (by omega) (by omega) (A6 (by omega) hR2)
   ·rw [if_neg (by omega)] at hR2
    exact A6 (by omega) hR2
  ·have:k=8:=by omega
   subst this
   exact A6 (by omega) hR
 ·have:i=s.size:=by omega
  subst this
  refine DZ ⟨by omega,by omega⟩ ?_
  have e:(4294967295:Int)-(ZS s s.size:Int)=(crc s:Int):=by unfold crc;omega
  rw [e];exact h
def fxL (n:Nat):List Nat:=[n/16777216 % 256,n/65536 % 256,n/256 % 256,n % 256]
def FX (n:Nat):ByteArray:=FB (fxL n)
theorem YA (n:Nat):(FX n).size=4:=by rw [FX,LB];rfl
theorem xF {k:IntKind} {n:Nat} {K:Value→Prop} (h:K (.int .u8 ((n % 256:Nat):Int))):prP (cvI .u8 (.int k n)) K:=
 BK (v:= .int .u8 (IntKind.u8.wrap n)) rfl (by rw [IntKind.wrap_u8];exact h)
theorem VB {k:IntKind} {n:Int} {m:Nat} {K:Value→Prop} (hn:n % 256=m) (h:K (.int .u8 (m:Int))):prP (cvI .u8 (.int k n)) K:=
 BK (v:= .int .u8 (IntKind.u8.wrap n)) rfl (by rw [IntKind.wrap_u8,hn];exact h)
theorem UU {a m:Nat} {b:Int} {k:Nat} {K:Value→Prop} (hb:b=m) (hm:m≤64) (hk:a/2^m=k) (h:K (I (k:Int))):prP (bnI .shr (I a) (I b)) K:=by
 subst hb
 have e:bnI .shr (I a) (I (m:Int))=some (.int .i64 ((a:Int).fdiv (2^min (m:Int).toNat 64))):=by
  show (if (m:Int)<0 then none else _)=_
  rw [if_neg (by omega)];rfl
 have e2:(a:Int).fdiv (2^min (m:Int).toNat 64)=(k:Int):=by
  rw [Int.toNat_natCast,Nat.min_eq_left hm,Int.fdiv_eq_ediv_of_nonneg _ (by exact Int.le_of_lt (Int.pow_pos (by omega))), ←hk]
  simp
 rw [e,e2];exact BK rfl h
theorem rK {b:Int} {K:Value→Prop} (hb:b=32) (h:K (I 4294967296)):prP (bnI .shl (I 1) (I b)) K:=by
 subst hb
 exact BK (v:= .int .i64 4294967296) rfl h
theorem oK {F:J2→J2} {xs:List Value} {cs:List (List T)} (h: ∀R:J2,(∀xs cs,F R xs cs→R xs cs)→F R xs cs):BC F xs cs:=vL h
theorem QV (a b:List Nat):FB (a++b)=FB a++FB b:=by
 have: ∀(b:List Nat) (x y:ByteArray),b.foldl (fun b n=>b.push (UInt8.ofNat n)) (x++y)=x++b.foldl (fun b n=>b.push (UInt8.ofNat n)) y:=by
  intro b
  induction b with
  | nil=>intro x y;rfl
  | cons n b ih=>
    intro x y
    rw [List.foldl_cons,List.foldl_cons, ←ih]
    congr 1
    apply ByteArray.ext
    simp [ByteArray.push]
 rw [FB,List.foldl_append, ←FB,FB]
 have h:=this b (a.foldl (fun b n=>b.push (UInt8.ofNat n)) ByteArray.empty) ByteArray.empty
 rw [ByteArray.append_empty] at h
 exact h
theorem pI {n:Nat} {K:Value→Prop} (h:K (.string (FB [n]))):prP (b2T [T.c (.int .u8 (n:Int))]) K:=by
 have:[T.c (.int .u8 (n:Int))]=tB [n]:=rfl
 rw [this,eJ];exact BK rfl h
theorem dZ {n:Nat} {K:J2} (hn:n<2^32) (h:K [.string (FX n)] []):cl2 ⟨Tryz.prog,w0⟩ 152 JD.sg [I n,I 4] [] K:=by
 refine JD.cl2 ?_
 unfold JD.txt
 have fin: ∀{K:J2},K [.string (FX n)] []→prP (b2T ((((([]++[T.c (.int .u8 ((n/16777216 % 256:Nat):Int))])++[T.c (.int .u8 ((n/65536 % 256:Nat):Int))])++[T.c (.int .u8 ((n/256 % 256:Nat):Int))])++[T.c (.int .u8 ((n % 256:Nat):Int))]))) fun t=>K [t] []:=fun h=>by
  have:(((([]++[T.c (.int .u8 ((n/16777216 % 256:Nat):Int))])++[T.c (.int .u8 ((n/65536 % 256:Nat):Int))])++[T.c (.int .u8 ((n/256 % 256:Nat):Int))])++[T.c (.int .u8 ((n % 256:Nat):Int))])=tB (fxL n):=rfl
  rw [this,eJ];exact BK rfl h
 repeat' (first | refine F8 ?_ | refine rK (by omega) ?_ | refine K4 ⟨by omega,by omega⟩ ?_ | refine BM ?_ | refine M7 ?_ | refine CJ (by first | with_reducible assumption | omega) rfl ?_ | refine C7 (by first | with_reducible assumption | omega) ?_ | refine CP ?_ | refine A6 (by omega) ?_ | simp only [AI,AL,AH,AJ,AM,AE,AG,AR,AP,AN,AQ,AO,AS,AK,BD,BF,BI,BJ,BH,BG,BE,A1,AZ,AY,AX,A4,A5])
 refine oK fun R hR=> ?_
 repeat' (first | refine hR _ _ ?_ | refine UU (m:=24) (k:=n/16777216) (by omega) (by omega) (by omega) ?_ | refine UU (m:=16) (k:=n/65536) (by omega) (by omega) (by omega) ?_ | refine UU (m:=8) (k:=n/256) (by omega) (by omega) (by omega) ?_ | refine UU (m:=0) (k:=n) (by omega) (by omega) (by omega) ?_ | refine xF ?_ | refine K4 ⟨by omega,by omega⟩ ?_ | exact fin h | refine EB rfl (by simp [cnt,nxc]) ?_ | refine BQ ?_ | refine BT ?_ | refine EA ?_ | refine A6 (by omega) ?_ | refine DZ ⟨by omega,by omega⟩ ?_)
theorem xT (n:Nat):(FB [n]).size=1:=by rw [LB];rfl
theorem eD {n:Nat} {K:J2} (hn:n<2^32) (h:K [.string (FX n)] []):cl2 ⟨Tryz.prog,w0⟩ 179 JJ.sg [I n,I 4] [] K:=by
 refine JJ.cl2 ?_
 unfold JJ.txt
 have e:FX n=FB [n/256/256/256 % 256]++(FB [n/256/256 % 256]++(FB [n/256 % 256]++(FB [n % 256]++⟨#[]⟩))):=by
  have e0:(⟨#[]⟩:ByteArray)=FB []:=rfl
  rw [e0, ←QV, ←QV, ←QV, ←QV]
  simp only [List.cons_append,List.nil_append,FX,fxL]
  congr 2
  ·omega
  ·congr 1;omega
 rw [e] at h
 have z0:(⟨#[]⟩:ByteArray).size=0:=rfl
 have z1:=xT
 repeat' (first | refine DO ?_ | refine BM ?_ | refine M7 ?_ | refine CJ (by first | with_reducible assumption | omega) rfl ?_ | refine BT ?_ | refine AW ?_ | refine CP ?_)
 refine oK fun R hR=> ?_
 refine AW (CX (by omega) (L7 (by omega) (by omega) (VB (m:=n % 256) (by omega) (pI (CH (by rw [z1,z0];omega) (OX (by omega) ⟨by omega,by omega⟩ (by omega) (CW ⟨by omega,by omega⟩ ?_)))))))
 refine hR _ _ (AW (CX (by omega) (L7 (by omega) (by omega) (VB (m:=n/256 % 256) (by omega) (pI (CH (by simp only [ByteArray.size_append,z1,z0];omega) (OX (by omega) ⟨by omega,by omega⟩ (by omega) (CW ⟨by omega,by omega⟩ ?_))))))))
 refine hR _ _ (AW (CX (by omega) (L7 (by omega) (by omega) (VB (m:=n/256/256 % 256) (by omega) (pI (CH (by simp only [ByteArray.size_append,z1,z0];omega) (OX (by omega) ⟨by omega,by omega⟩ (by omega) (CW ⟨by omega,by omega⟩ ?_))))))))
 refine hR _ _ (AW (CX (by omega) (L7 (by omega) (by omega) (VB (m:=n/256/256/256 % 256) (by omega) (pI (CH (by simp only [ByteArray.size_append,z1,z0];omega) (OX (by omega) ⟨by omega,by omega⟩ (by omega) (CW ⟨by omega,by omega⟩ ?_))))))))
 exact hR _ _ (AW (C7 (by omega) (GN (C7 (by omega) h))))
def frm (n:Int) (p:ByteArray):ByteArray:=if (0≤n∧n≤400)∧p.size≤200 then ((V n++V p.size)++p)++FX (crc ((V n++V p.size)++p)) else ⟨#[]⟩
theorem PY (n:Int) (p:ByteArray):(frm n p).size≤218:=by
 unfold frm;split
 ·rename_i h
  have h1:=H0 n;have h2:=H0 p.size;have h3:=YA (crc ((V n++V p.size)++p))
  simp only [ByteArray.size_append];omega
 ·exact Nat.zero_le _
theorem ML {n:Int} {p:ByteArray} {K:J2} (hp:(p.size:Int)<2^62) (h:K [.string (frm n p)] []):cl2 ⟨Tryz.prog,w0⟩ 95 DA.sg [I n, .string p] [] K:=by
 refine DA.cl2 ?_
 unfold DA.txt
 have h1:=H0 n;have h2:=H0 p.size
 have h3:=YA (crc ((V n++V p.size)++p))
 repeat' (first | refine F8 ?_ | refine K8 ⟨by omega,by omega⟩ ?_ | refine mP (by simp only [ByteArray.size_append];omega) ?_ | refine dZ (vO _) ?_ | refine BM ?_ | refine JZ (by first | with_reducible assumption | omega) ?_ | refine GA (by first | with_reducible assumption | omega) ?_ | refine CL (by first | with_reducible assumption | omega) rfl ?_ | refine CJ (by first | with_reducible assumption | omega) rfl ?_ | refine BQ ?_ | refine AW ?_ | refine CP ?_ | refine DX ?_ | refine CH (by first | omega | (simp only [ByteArray.size_append];omega)) ?_ | refine AT (fun _=> ?_) (fun _=> ?_) | refine IN (fun _=> ?_) (fun _=> ?_))
 ·rw [frm,if_neg (by omega)] at h;exact h
 ·rw [frm,if_pos (by omega)] at h;exact h
 ·rw [frm,if_neg (by omega)] at h;exact h
theorem P1 {n:Int} {p:ByteArray} {K:J2} (hp:(p.size:Int)<2^62) (h:K [.string (frm n p)] []):cl2 ⟨Tryz.prog,w0⟩ 137 EG.sg [I n, .string p] [] K:=by
 refine EG.cl2 ?_
 unfold EG.txt
 have h1:=H0 n;have h2:=H0 p.size
 have h3:=YA (crc ((V n++V p.size)++p))
 repeat' (first | refine DO ?_ | refine K6 ⟨by omega,by omega⟩ ?_ | refine lO (by simp only [ByteArray.size_append];omega) ?_ | refine eD (vO _) ?_ | refine BM ?_ | refine JZ (by first | with_reducible assumption | omega) ?_ | refine GA (by first | with_reducible assumption | omega) ?_ | refine CL (by first | with_reducible assumption | omega) rfl ?_ | refine CJ (by first | with_reducible assumption | omega) rfl ?_ | refine BQ ?_ | refine AW ?_ | refine CP ?_ | refine DX ?_ | refine CH (by first | omega | (simp only [ByteArray.size_append];omega)) ?_ | refine AT (fun _=> ?_) (fun _=> ?_) | refine IN (fun _=> ?_) (fun _=> ?_))
 ·rw [frm,if_neg (by omega)] at h;exact h
 ·rw [frm,if_pos (by omega)] at h;exact h
 ·rw [frm,if_neg (by omega)] at h;exact h
def RQ:ByteArray:=⟨#[72,76,79,71,1]⟩
attribute [irreducible] frm crc FX
def frs (l:List ByteArray):Nat→ByteArray
 | 0=>RQ
 | i+1=>frs l i++frm i (gS l i)
theorem VI (l:List ByteArray): ∀i,(frs l i).size≤5+218*i
 | 0=>by show RQ.size≤5;decide
 | i+1=>by have h1:=VI l i;have h2:=PY i (gS l i);rw [frs,ByteArray.size_append];omega
def U0 (p:ByteArray):Prop:=1≤(p.size:Int)∧(p.size:Int)≤200
instance (p:ByteArray):Decidable (U0 p):=inferInstanceAs (Decidable (_∧_))
def OY (l:List ByteArray):ByteArray:=if l.length≤400∧ ∀p∈l,U0 p then frs l l.length++frm l.length ⟨#[]⟩ else ⟨#[]⟩
theorem lL {l:List ByteArray} {i:Nat} (h:i<l.length):gS l i∈l:=by rw [←PT h];exact List.getElem_mem h
theorem vP {l:List ByteArray} {P:ByteArray→Prop} (h: ∀i,i<l.length→P (gS l i)): ∀p∈l,P p:=by
 intro p hp
 obtain ⟨i,hi,rfl⟩:=List.getElem_of_mem hp
 rw [PT hi];exact h i hi
theorem Z0 {l:List ByteArray} {K:J2} (hl:(l.length:Int)<2^40) (hs: ∀i,((gS l i).size:Int)<2^62) (h:K [.string (OY l)] []):cl2 ⟨Tryz.prog,w0⟩ 47 HJ.sg [] [tS l] K:=by
 refine HJ.cl2 ?_
 unfold HJ.txt
 simp only [AI,AL,AH,AJ,AM,AE,AG,AR,AP,AN,AQ,AO,AS,AK,BD,BF,BI,BJ,BH,BG,BE,A1,AZ,AY,AX,A4,A5]
 refine GN (AT (fun hgt=> ?_) fun hle=> ?_)
 ·rw [OY,if_neg (by omega)] at h;exact h
 ·refine A8 (fun i=>[.string (frs l i),iv l.length,iv i]) (fun _=>[]) l.length (fun i=> ∀j,j<i→U0 (gS l j)) rfl rfl (fun j hj=>by omega) (fun R i hi hP hR=> ?_)
  have z1:=VI l i
  have z2:=PY i (gS l i)
  refine AW (AT (fun hlt=> ?_) fun hge=> ?_)
  ·have hlt:i<l.length:=by omega
   repeat' (first | refine F8 ?_ | refine ML (hs i) ?_ | refine CH (by omega) ?_ | refine CP ?_ | refine DX ?_ | refine A6 (by omega) ?_ | refine AU (by omega) ?_ | refine ldS (by omega) ?_ | refine AT (fun _=> ?_) (fun _=> ?_) | simp only [AI,AL,AH,AJ,AM,AE,AG,AR,AP,AN,AQ,AO,AS,AK,BD,BF,BI,BJ,BH,BG,BE,A1,AZ,AY,AX,A4,A5])
   ·rename_i hb
    rw [OY,if_neg (fun hh=>hb (hh.2 _ (lL hlt)))] at h;exact h
   ·rename_i hb
    refine hR hlt fun j hj=> ?_
    rcases Nat.lt_succ_iff_lt_or_eq.1 hj with h1 | rfl
    ·exact hP j h1
    ·exact Decidable.not_not.1 hb
  ·have:i=l.length:=by omega
   subst this
   have z3:=PY l.length ⟨#[]⟩
   rw [OY,if_pos ⟨by omega,vP hP⟩] at h
   refine ML (by decide) (CH (by omega) h)
theorem ZZ {l:List ByteArray} {K:J2} (hl:(l.length:Int)<2^40) (hs: ∀i,((gS l i).size:Int)<2^62) (h:K [.string (OY l)] []):cl2 ⟨Tryz.prog,w0⟩ 75 G8.sg [] [tS l] K:=by
 refine G8.cl2 ?_
 unfold G8.txt
 simp only [AI,AL,AH,AJ,AM,AE,AG,AR,AP,AN,AQ,AO,AS,AK,BD,BF,BI,BJ,BH,BG,BE,A1,AZ,AY,AX,A4,A5]
 refine GN (AT (fun hgt=> ?_) fun hle=> ?_)
 ·rw [OY,if_neg (by omega)] at h;exact h
 ·refine I9.cl2 ?_
  refine A8 (fun i=>[.string (frs l i),iv i]) (fun _=>[]) l.length (fun i=> ∀j,j<i→U0 (gS l j)) rfl rfl (fun j hj=>by omega) (fun R i hi hP hR=> ?_)
  have z1:=VI l i
  have z2:=PY i (gS l i)
  refine AW (AT (fun hlt=> ?_) fun hge=> ?_)
  ·have hlt:i<l.length:=by omega
   have no: ¬U0 (gS l i)→K [.string ⟨#[]⟩] []:=fun hb=>by
    rw [OY,if_neg (fun hh=>hb (hh.2 _ (lL hlt)))] at h;exact h
   repeat' (first | refine P1 (hs i) ?_ | refine CH (by omega) ?_ | refine BM ?_ | refine JZ (by first | with_reducible assumption | omega) ?_ | refine GA (by first | with_reducible assumption | omega) ?_ | refine CL (by first | with_reducible assumption | omega) rfl ?_ | refine CJ (by first | with_reducible assumption | omega) rfl ?_ | refine BQ ?_ | refine AW ?_ | refine DX ?_ | refine A6 (by omega) ?_ | refine IS ?_ | refine AU (by omega) ?_ | refine ldS (by omega) ?_ | refine AT (fun _=> ?_) (fun _=> ?_) | refine IN (fun _=> ?_) (fun _=> ?_))
   ·exact no (by unfold U0;omega)
   ·rename_i hb1 hb2
    refine hR hlt fun j hj=> ?_
    rcases Nat.lt_succ_iff_lt_or_eq.1 hj with h1 | rfl
    ·exact hP j h1
    ·refine ⟨?_,by omega⟩
     have:(gS l j).size≠0:=fun hz=>hb1 (by
      have:=ByteArray.ext (x:=gS l j) (y:=⟨#[]⟩) (Array.eq_empty_of_size_eq_zero hz)
      exact this)
     omega
   ·rename_i hb
    exact no (by rw [U0,hb];decide)
  ·have:i=l.length:=by omega
   subst this
   have z3:=PY l.length ⟨#[]⟩
   rw [OY,if_pos ⟨by omega,vP hP⟩] at h
   refine P1 (by decide) (CH (by omega) h)
end Go.Proofs.YtnhicpkhkaihoaaGreat.P
namespace Go.Proofs.YtnhicpkhkaihoaaGreat.P
open Go Go.Proofs.YtnhicpkhkaihoaaGreat Go.Proofs.YtnhicpkhkaihoaaGreat.Eng
set_option maxHeartbeats 4000000
set_option linter.unusedVariables false
set_option linter.unusedSimpArgs false
attribute [local irreducible] prP gP gE gF AV ixW ldc ldg ldl stc stg scW mkW apW BC cl2 BW F6 C2
variable {w0:World}
def FC (n:Int) (l:List ByteArray) (o:Op5) (a:An):ByteArray×Int×List ByteArray:=LI n l o.kind o.a o.b o.c o.site a.code a.val a.freed
theorem UF (n:Int) (l:List ByteArray) (o:Op5) (a:An):(FC n l o a).1.size≤127∧(FC n l o a).2.2.length≤l.length+1:=by
 unfold FC LI
 split
 ·rename_i h
  obtain ⟨_,hb,_,_,_,_,hx,hl,_⟩:=N7 h
  have h1:=WW n l o.kind o.a o.b o.c o.site a.code a.val a.freed.length
  have h2:=(dX (p:=(base n l o.kind o.a o.b o.c o.site a.code a.val a.freed.length,o.a)) hb hx a.freed.length (Nat.le_refl _)).2
  refine ⟨by simp only at h2 ⊢;omega, ?_⟩
  simp only [UM]
  split
  ·omega
  ·simp
 ·exact ⟨Nat.zero_le _,Nat.le_succ _⟩
def enc (ops:List Op5) (ans:List An):Nat→Option (List ByteArray×Int×List ByteArray)
 | 0=>some ([],0,[])
 | i+1=>match enc ops ans i with
   | none=>none
   | some p=>if (FC p.2.1 p.2.2 (po ops i) (an ans i)).1=⟨#[]⟩ then none else some (p.1++[(FC p.2.1 p.2.2 (po ops i) (an ans i)).1],(FC p.2.1 p.2.2 (po ops i) (an ans i)).2)
theorem ZK {ops:List Op5} {ans:List An} {i:Nat} (h:enc ops ans i=none): ∀k,i≤k→enc ops ans k=none
 | 0,hk=>by
   have:i=0:=by omega
   subst this;exact h
 | k+1,hk=>by
   rcases Nat.lt_or_ge k i with h1 | h1
   ·have:i=k+1:=by omega
    subst this;exact h
   ·rw [enc,ZK h k h1]
def encode (ops:List Op5) (ans:List An):ByteArray:=if ops.length≠ans.length∨ops.length≥400 then ⟨#[]⟩ else match enc ops ans ops.length with
 | none=>⟨#[]⟩
 | some p=>OY p.1
structure uO (ops:List Op5) (ans:List An) (q:Nat×List ByteArray×Int×List ByteArray):Prop where
 eq:enc ops ans q.1=some q.2
 le:q.1≤ops.length
 al:q.2.1.length=q.1
 sl:q.2.2.2.length≤q.1
 sz: ∀i,(gS q.2.1 i).size≤127
theorem yR {l:List ByteArray} {s:ByteArray} {b:Nat} (h: ∀i,(gS l i).size≤b) (hs:s.size≤b) (i:Nat):(gS (l++[s]) i).size≤b:=by
 unfold gS at h ⊢
 rcases Nat.lt_trichotomy i l.length with h1 | h1 | h1
 ·have:=h i
  rw [List.getD_eq_getElem?_getD] at this ⊢
  rw [List.getElem?_append_left h1];exact this
 ·subst h1
  rw [List.getD_eq_getElem?_getD,List.getElem?_append_right (Nat.le_refl _)]
  simpa using hs
 ·rw [List.getD_eq_getElem?_getD,List.getElem?_eq_none (by simp;omega)];exact Nat.zero_le _
theorem uO.next {ops:List Op5} {ans:List An} {q:Nat×List ByteArray×Int×List ByteArray} (h:uO ops ans q) (hlt:q.1<ops.length) (hne:(FC q.2.2.1 q.2.2.2 (po ops q.1) (an ans q.1)).1≠⟨#[]⟩):
  uO ops ans (q.1+1,q.2.1++[(FC q.2.2.1 q.2.2.2 (po ops q.1) (an ans q.1)).1],(FC q.2.2.1 q.2.2.2 (po ops q.1) (an ans q.1)).2):=by
 obtain ⟨h1,h2,h3,h4,h5⟩:=h
 have hz:=UF q.2.2.1 q.2.2.2 (po ops q.1) (an ans q.1)
 refine ⟨by rw [enc,h1];exact if_neg hne,hlt,by simp [h3], ?_,yR h5 hz.1⟩
 have:=hz.2
 simp only at this ⊢;omega
theorem T2 {ops:List Op5} {ans:List An} {K:J2} (hl:(ops.length:Int)≤2^40) (hm:(ans.length:Int)≤2^40) (hf: ∀i,((an ans i).freed.length:Int)<2^62) (h:K [.string (encode ops ans)] []):cl2 ⟨Tryz.prog,w0⟩ 17 GV.sg [] [tR tP ops,tR tA ans] K:=by
 refine GV.cl2 ?_
 unfold GV.txt
 simp only [AI,AL,AH,AJ,AM,AE,AG,AR,AP,AN,AQ,AO,AS,AK,BD,BF,BI,BJ,BH,BG,BE,A1,AZ,AY,AX,A4,A5]
 repeat' (first | refine BM ?_ | refine CL (by first | with_reducible assumption | omega) rfl ?_ | refine CJ (by first | with_reducible assumption | omega) rfl ?_ | refine BQ ?_ | refine EA ?_ | refine CB ?_ | refine AT (fun _=> ?_) (fun _=> ?_) | refine IN (fun _=> ?_) (fun _=> ?_))
 ·rw [encode,if_pos (by omega)] at h;exact h
 ·rename_i hne hge
  rw [encode,if_neg (by omega)] at h
  refine DK (α:=Nat×List ByteArray×Int×List ByteArray) (fun q=>[iv ops.length,iv q.1,I q.2.2.1]) (fun q=>[tS q.2.1,tS q.2.2.2]) (fun q=>ops.length-q.1) (uO ops ans) (0,[],0,[]) rfl rfl ⟨rfl,Nat.zero_le _,rfl,Nat.le_refl _,fun i=>(Nat.zero_le 127:(gS [] i).size≤127)⟩ (fun R q hq hR=> ?_)
  obtain ⟨h1,h2,h3,h4,h5⟩:=id hq
  simp only [AI,AL,AH,AJ,AM,AE,AG,AR,AP,AN,AQ,AO,AS,AK,BD,BF,BI,BJ,BH,BG,BE,A1,AZ,AY,AX,A4,A5]
  refine AW (AT (fun hlt=> ?_) fun hge2=> ?_)
  ·have hlt:q.1<ops.length:=by omega
   refine AU hlt (RY hlt (AU (by omega) (aK (by omega) ?_)))
   rw [fX (by omega)]
   refine P3 (by omega) (hf _) ?_
   refine IS (AT (fun he=> ?_) fun he=> ?_)
   ·have:enc ops ans (q.1+1)=none:=by rw [enc,h1];exact if_pos he
    rw [ZK this ops.length hlt] at h;exact h
   ·refine EB rfl (by first | omega | (simp only [AI,AL,AH,AJ,AM,AE,AG,AR,AP,AN,AQ,AO,AS,AK,BD,BF,BI,BJ,BH,BG,BE,A1,AZ,AY,AX,A4,A5];omega)) (A6 (by omega) ?_)
    have:=hR _ (hq.next hlt he) (by simp only;omega)
    rw [←U3] at this
    exact this
  ·have he:q.1=ops.length:=by omega
   rw [he] at h1
   rw [h1] at h
   exact Z0 (by omega) (fun i=>by have:=h5 i;omega) h
 ·rw [encode,if_pos (by omega)] at h;exact h
theorem bQ {ops:List Op5} {ans:List An} {K:J2} (hl:(ops.length:Int)≤2^40) (hm:(ans.length:Int)≤2^40) (hf: ∀i,((an ans i).freed.length:Int)<2^62) (h:K [.string (encode ops ans)] []):cl2 ⟨Tryz.prog,w0⟩ 37 H9.sg [] [tR tP ops,tR tA ans] K:=by
 refine H9.cl2 ?_
 unfold H9.txt
 simp only [AI,AL,AH,AJ,AM,AE,AG,AR,AP,AN,AQ,AO,AS,AK,BD,BF,BI,BJ,BH,BG,BE,A1,AZ,AY,AX,A4,A5]
 repeat' (first | refine BM ?_ | refine CL (by first | with_reducible assumption | omega) rfl ?_ | refine CJ (by first | with_reducible assumption | omega) rfl ?_ | refine BQ ?_ | refine EA ?_ | refine CB ?_ | refine AT (fun _=> ?_) (fun _=> ?_) | refine IN (fun _=> ?_) (fun _=> ?_))
 ·rw [encode,if_pos (by omega)] at h;exact h
 ·rename_i hne hge
  rw [encode,if_neg (by omega)] at h
  refine DK (α:=Nat×List ByteArray×Int×List ByteArray) (fun q=>[iv q.1,I q.2.2.1]) (fun q=>[tS q.2.1,tS q.2.2.2]) (fun q=>ops.length-q.1) (uO ops ans) (0,[],0,[]) rfl rfl ⟨rfl,Nat.zero_le _,rfl,Nat.le_refl _,fun i=>(Nat.zero_le 127:(gS [] i).size≤127)⟩ (fun R q hq hR=> ?_)
  obtain ⟨h1,h2,h3,h4,h5⟩:=id hq
  simp only [AI,AL,AH,AJ,AM,AE,AG,AR,AP,AN,AQ,AO,AS,AK,BD,BF,BI,BJ,BH,BG,BE,A1,AZ,AY,AX,A4,A5]
  refine AW (AT (fun hlt=> ?_) fun hge2=> ?_)
  ·have hlt:q.1<ops.length:=by omega
   refine AU hlt (RY hlt (AU (by omega) (aK (by omega) ?_)))
   rw [fX (by omega)]
   refine WO (by omega) (hf _) ?_
   refine IS (AT (fun he=> ?_) fun he=> ?_)
   ·have:enc ops ans (q.1+1)=none:=by rw [enc,h1];exact if_pos he
    rw [ZK this ops.length hlt] at h;exact h
   ·refine EB rfl (by first | omega | (simp only [AI,AL,AH,AJ,AM,AE,AG,AR,AP,AN,AQ,AO,AS,AK,BD,BF,BI,BJ,BH,BG,BE,A1,AZ,AY,AX,A4,A5];omega)) (A6 (by omega) ?_)
    have:=hR _ (hq.next hlt he) (by simp only;omega)
    rw [←U3] at this
    exact this
  ·have he:q.1=ops.length:=by omega
   rw [he] at h1
   rw [h1] at h
   exact ZZ (by omega) (fun i=>by have:=h5 i;omega) h
 ·rw [encode,if_pos (by omega)] at h;exact h
attribute [irreducible] FC
end Go.Proofs.YtnhicpkhkaihoaaGreat.P
namespace Go.Proofs.YtnhicpkhkaihoaaGreat.P
open Go Go.Proofs.YtnhicpkhkaihoaaGreat Go.Proofs.YtnhicpkhkaihoaaGreat.Eng
set_option maxHeartbeats 4000000
set_option linter.unusedVariables false
set_option linter.unusedSimpArgs false
attribute [local irreducible] prP gP gE gF AV ixW ldc ldg ldl stc stg scW mkW apW BC cl2 BW F6 C2
variable {w0:World}
theorem Ct {s:ByteArray} {a b:Nat} {K:Value→Prop} (h1:a≤b) (h2:b≤s.size) (h:K (.string (s.extract a b))):prP (scS (.string s) (some (iv a)) (some (iv b))) K:=by
 have:scS (.string s) (some (iv a)) (some (iv b))=some (.string (s.extract a b)):=by
  simp only [scS,bnd,iv,Int.natCast_nonneg,if_true,Option.bind_some,Int.toNat_natCast]
  rw [if_pos ⟨h1,h2⟩]
 rw [this];exact BK rfl h
theorem Cj {s:ByteArray} {b:Nat} {K:Value→Prop} (h2:b≤s.size) (h:K (.string (s.extract 0 b))):prP (scS (.string s) none (some (iv b))) K:=by
 have:scS (.string s) none (some (iv b))=some (.string (s.extract 0 b)):=by
  simp only [scS,bnd,iv,Int.natCast_nonneg,if_true,Option.bind_some,Int.toNat_natCast]
  rw [if_pos ⟨Nat.zero_le _,h2⟩]
 rw [this];exact BK rfl h
def dr (s:ByteArray) (a:Nat):ByteArray:=s.extract a s.size
theorem L4 (s:ByteArray) (a:Nat):(dr s a).size=s.size-a:=by simp [dr]
theorem Ec {s:ByteArray} {a:Nat} {K:Value→Prop} (h2:a≤s.size) (h:K (.string (dr s a))):prP (scS (.string s) (some (iv a)) none) K:=by
 have:scS (.string s) (some (iv a)) none=some (.string (dr s a)):=by
  simp only [scS,bnd,iv,Int.natCast_nonneg,if_true,Option.bind_some,Int.toNat_natCast]
  rw [if_pos ⟨h2,Nat.le_refl _⟩];rfl
 rw [this];exact BK rfl h
theorem nY {s:ByteArray} {a:Int} {K:Value→Prop} (h1:0≤a) (h2:a≤s.size) (h:K (.string (dr s a.toNat))):prP (scS (.string s) (some (I a)) none) K:=by
 obtain ⟨n,rfl⟩: ∃n:Nat,a=n:=⟨a.toNat,by omega⟩
 exact Ec (by omega) h
theorem Ck {s:ByteArray} {b:Int} {K:Value→Prop} (h1:0≤b) (h2:b≤s.size) (h:K (.string (s.extract 0 b.toNat))):prP (scS (.string s) none (some (I b))) K:=by
 obtain ⟨n,rfl⟩: ∃n:Nat,b=n:=⟨b.toNat,by omega⟩
 exact Cj (by omega) h
theorem uL {s:ByteArray} {a b:Int} {K:Value→Prop} (h0:0≤a) (h1:a≤b) (h2:b≤s.size) (h:K (.string (s.extract a.toNat b.toNat))):prP (scS (.string s) (some (I a)) (some (I b))) K:=by
 obtain ⟨n,rfl⟩: ∃n:Nat,a=n:=⟨a.toNat,by omega⟩
 obtain ⟨m,rfl⟩: ∃n:Nat,b=n:=⟨b.toNat,by omega⟩
 exact Ct (by omega) (by omega) h
def bys (s:ByteArray) (k:Nat):List Nat:=(List.range k).map (by_ s)
def OR:List Nat→Nat
 | []=>0
 | x::r=>x % 128+128*OR r
def QB:Bool→List Nat→Bool
 | _,[]=>false
 | f,[x]=>decide (x<128)&&(f||decide (x≠0))
 | _,x::y::r=>decide (x≥128)&&QB false (y::r)
theorem jK: ∀{L:List Nat},QB false L=true→1≤OR L
 | [],h=>by simp [QB] at h
 | [x],h=>by simp [QB] at h;simp only [OR];omega
 | x::y::r,h=>by
   simp only [QB,Bool.and_eq_true] at h
   have:=jK h.2
   simp only [OR] at this ⊢;omega
theorem rV: ∀{L:List Nat} {f:Bool} {k:Nat},(∀x∈L,x<256)→QB f L=true→L.length≤k+1→vd k (OR L)=L
 | [],f,k,_,h,_=>by simp [QB] at h
 | [x],f,k,_,h,_=>by
   simp only [QB,Bool.and_eq_true,decide_eq_true_eq] at h
   have h1:x % 128+128*0=x:=by omega
   simp only [OR,h1]
   cases k with
   | zero=>rfl
   | succ k=>rw [vd,if_neg (by omega)]
 | x::y::r,f,0,_,h,hl=>by simp at hl
 | x::y::r,f,k+1,hb,h,hl=>by
   simp only [QB,Bool.and_eq_true,decide_eq_true_eq] at h
   have h1:=jK h.2
   have hx:=hb x (by simp)
   have h2:OR (x::y::r)=x % 128+128*OR (y::r):=rfl
   have h3:OR (x::y::r)/128=OR (y::r):=by omega
   have h4:128+OR (x::y::r) % 128=x:=by omega
   rw [vd,if_pos (by omega),h3,h4,rV (L:=y::r) (fun z hz=>hb z (by simp [hz])) h.2 (by simpa using hl)]
theorem sT: ∀k n,vd k n≠[]
 | 0,n=>by simp [vd]
 | k+1,n=>by unfold vd;split <;> simp
theorem mQ: ∀{k n:Nat},n<128^(k+1)→QB true (vd k n)=true∧(1≤n→QB false (vd k n)=true)
 | 0,n,h=>by simp at h;simp [vd,QB,h];omega
 | k+1,n,h=>by
   unfold vd
   split
   ·rename_i hge
    have hd:n/128<128^(k+1):=by rw [Nat.pow_succ] at h;omega
    have h2:=(mQ hd).2 (by omega)
    cases hv:vd k (n/128) with
    | nil=>exact absurd hv (sT _ _)
    | cons y r=>
      rw [hv] at h2
      have:QB false (y::r)=true:=h2
      simp [QB,this]
   ·simp [QB];omega
theorem pS: ∀L:List Nat,OR L<128^L.length
 | []=>by simp [OR]
 | x::r=>by have:=pS r;simp only [OR,List.length_cons,Nat.pow_succ];omega
theorem VC (s:ByteArray) (k:Nat):(bys s k).length=k:=by simp [bys]
theorem tC (s:ByteArray) (k:Nat): ∀x∈bys s k,x<256:=by
 intro x hx
 obtain ⟨i,_,rfl⟩:=List.mem_map.1 hx
 exact gU s i
def R6 (s:ByteArray) (k:Nat):Nat:=OR (bys s k)
theorem gR (s:ByteArray) {k:Nat} (hk:k≤7):R6 s k<2^49:=by
 have h:=pS (bys s k)
 rw [VC] at h
 have:128^k≤128^7:=Nat.pow_le_pow_right (by omega) hk
 have:(128:Nat)^7=2^49:=by decide
 unfold R6;omega
theorem cA: ∀(L:List Nat) (x:Nat),OR (L++[x])=OR L+x % 128*128^L.length
 | [],x=>by simp [OR]
 | y::L,x=>by
   simp only [List.cons_append,OR,cA L x,List.length_cons,Nat.pow_succ]
   rw [Nat.mul_add]
   have:x % 128*(128^L.length*128)=128*(x % 128*128^L.length):=by
    rw [←Nat.mul_assoc,Nat.mul_comm]
   omega
theorem jY (s:ByteArray) (k:Nat):bys s (k+1)=bys s k++[by_ s k]:=by simp [bys,List.range_succ]
theorem qW (s:ByteArray) (k:Nat):R6 s (k+1)=R6 s k+by_ s k % 128*128^k:=by rw [R6,jY,cA,VC];rfl
theorem dI: ∀(L:List Nat) (f:Bool) (x:Nat),QB f (L++[x])=(L.all (fun y=>decide (y≥128))&&(decide (x<128)&&((f&&L.isEmpty)||decide (x≠0))))
 | [],f,x=>by simp [QB]
 | [y],f,x=>by simp [QB]
 | y::z::r,f,x=>by
   have h:=dI (z::r) false x
   simp only [List.cons_append] at h ⊢
   rw [QB,h]
   simp [Bool.and_assoc]
def UE (s:ByteArray) (k:Nat):Bool:=QB true (bys s k)
theorem NU (s:ByteArray) (k:Nat):UE s (k+1)=true↔(∀i,i<k→128≤by_ s i)∧by_ s k<128∧(k=0∨by_ s k≠0):=by
 rw [UE,jY,dI]
 simp only [Bool.and_eq_true,Bool.or_eq_true,decide_eq_true_eq,List.all_eq_true,List.isEmpty_iff,true_and]
 have h0:bys s k=[]↔k=0:=by rw [←List.length_eq_zero_iff,VC]
 rw [h0]
 constructor
 ·rintro ⟨h1,h2,h3⟩
  exact ⟨fun i hi=>h1 _ (List.mem_map.2 ⟨i,List.mem_range.2 hi,rfl⟩),h2,h3⟩
 ·rintro ⟨h1,h2,h3⟩
  refine ⟨fun y hy=> ?_,h2,h3⟩
  obtain ⟨i,hi,rfl⟩:=List.mem_map.1 hy
  exact h1 i (List.mem_range.1 hi)
theorem O4 (l:List Nat):(FB l).data.toList=l.map UInt8.ofNat:=by
 have: ∀(l:List Nat) (b:ByteArray),(l.foldl (fun b n=>b.push (UInt8.ofNat n)) b).data.toList=b.data.toList++l.map UInt8.ofNat:=by
  intro l
  induction l with
  | nil=>intro b;simp
  | cons a l ih=>intro b;rw [List.foldl_cons,ih];simp
 rw [FB,this];rfl
theorem hQ {s:ByteArray} {k:Nat} (hk:k≤s.size):s.extract 0 k=FB (bys s k):=by
 apply ByteArray.ext
 apply Array.ext'
 rw [O4,ByteArray.data_extract,Array.toList_extract]
 apply List.ext_getElem
 ·simp [bys];have:s.size=s.data.size:=rfl;omega
 ·intro i h1 h2
  have hi:i<k:=by simpa [bys] using h2
  have his:i<s.data.size:=by have:s.size=s.data.size:=rfl;omega
  simp [bys,by_,Array.getD,his]
  intro hcon;have:s.size=s.data.size:=rfl;omega
theorem mU {a b:List Nat} (ha: ∀x∈a,x<256) (hb: ∀x∈b,x<256) (h:FB a=FB b):a=b:=by
 have h1:a.map UInt8.ofNat=b.map UInt8.ofNat:=by rw [←O4, ←O4,h]
 have h2:=congrArg (List.map UInt8.toNat) h1
 simp only [List.map_map] at h2
 have: ∀l:List Nat,(∀x∈l,x<256)→l.map (UInt8.toNat ∘ UInt8.ofNat)=l:=by
  intro l hl
  induction l with
  | nil=>rfl
  | cons x l ih=>
    have hx:=hl x (by simp)
    rw [List.map_cons,ih fun y hy=>hl y (by simp [hy])]
    simp [Nat.mod_eq_of_lt hx]
 rwa [this a ha,this b hb] at h2
theorem vU: ∀(k n:Nat),n<128^(k+1)→ ∀x∈vd k n,x<256
 | 0,n,h=>by simp at h;simp [vd];omega
 | k+1,n,h=>by
   unfold vd
   split
   ·intro x hx
    rcases List.mem_cons.1 hx with rfl | hx
    ·omega
    ·exact vU k (n/128) (by rw [Nat.pow_succ] at h;omega) x hx
   ·simp;omega
theorem uB {n:Nat} (h:n<2^49):V n=FB (vd 6 n):=by
 rw [V,if_pos (by rw [K5];omega),Int.toNat_natCast]
theorem rE {s:ByteArray} {k:Nat} (hk:k≤7) (hs:k≤s.size):V (R6 s k)=s.extract 0 k↔UE s k=true:=by
 have hlt:=gR s hk
 have h49:(128:Nat)^(6+1)=2^49:=by decide
 rw [uB hlt,hQ hs]
 constructor
 ·intro h
  have:=mU (vU 6 _ (by rw [h49];exact hlt)) (tC s k) h
  rw [UE, ←this]
  exact (mQ (by rw [h49];exact hlt)).1
 ·intro h
  rw [R6,rV (tC s k) h (by rw [VC];omega)]
def rvF (s:ByteArray):Nat→Nat→Int×Int
 | 0,_=>(0,0)
 | f+1,j=>if j≤s.size∧UE s j=true then ((R6 s j:Int),(j:Int)) else rvF s f (j+1)
def rv (s:ByteArray):Int×Int:=rvF s 7 1
theorem eB {s:ByteArray} {j:Nat} (hc:j≤s.size∧UE s j=true): ∀(f i:Nat),i≤j→j<i+f→(∀m,i≤m→m<j→ ¬(m≤s.size∧UE s m=true))→rvF s f i=((R6 s j:Int),(j:Int))
 | 0,i,h1,h2,_=>by omega
 | f+1,i,h1,h2,hn=>by
   rcases Nat.lt_or_ge i j with h | h
   ·rw [rvF,if_neg (hn i (Nat.le_refl _) h)]
    exact eB hc f (i+1) h (by omega) fun m hm=>hn m (by omega)
   ·have:i=j:=by omega
    subst this
    rw [rvF,if_pos hc]
theorem Y6 {s:ByteArray}: ∀(f i:Nat),(∀m,i≤m→m<i+f→ ¬(m≤s.size∧UE s m=true))→rvF s f i=(0,0)
 | 0,i,_=>rfl
 | f+1,i,hn=>by
   rw [rvF,if_neg (hn i (Nat.le_refl _) (by omega))]
   exact Y6 f (i+1) fun m hm hm2=>hn m (by omega) (by omega)
theorem Du (s:ByteArray):rv s=(0,0)∨ ∃j:Nat,1≤j∧j≤7∧j≤s.size∧UE s j=true∧rv s=((R6 s j:Int),(j:Int)):=by
 have: ∀f i,1≤i→i+f≤8→rvF s f i=(0,0)∨ ∃j:Nat,1≤j∧j≤7∧j≤s.size∧UE s j=true∧rvF s f i=((R6 s j:Int),(j:Int)):=by
  intro f
  induction f with
  | zero=>intro i _ _;exact .inl rfl
  | succ f ih=>
    intro i h1 h2
    by_cases hc:i≤s.size∧UE s i=true
    ·exact .inr ⟨i,h1,by omega,hc.1,hc.2,by rw [rvF,if_pos hc]⟩
    ·rw [rvF,if_neg hc];exact ih (i+1) (by omega) (by omega)
 exact this 7 1 (by omega) (by omega)
theorem sW {a m:Nat} {b:Int} {K:Value→Prop} (hb:b=m) (hm:m≤64) (hf:a*2^m<2^63) (h:K (I ((a*2^m:Nat):Int))):prP (bnI .shl (I a) (I b)) K:=by
 subst hb
 have e:bnI .shl (I a) (I (m:Int))=some (.int .i64 (IntKind.i64.wrap ((a:Int)*2^min (m:Int).toNat 64))):=by
  show (if (m:Int)<0 then none else _)=_
  rw [if_neg (by omega)];rfl
 have e2:(a:Int)*2^min (m:Int).toNat 64=((a*2^m:Nat):Int):=by
  rw [Int.toNat_natCast,Nat.min_eq_left hm];simp
 rw [e,e2,K3 ⟨by omega,by omega⟩];exact BK rfl h
theorem J7 {s:ByteArray} {K:J2} (hs:(s.size:Int)<2^62) (h:K [I (rv s).1,I (rv s).2] []):cl2 ⟨Tryz.prog,w0⟩ 139 C1.sg [.string s] [] K:=by
 refine C1.cl2 ?_
 unfold C1.txt
 refine A8 (fun k=>[.string s,I (R6 s k),iv k]) (fun _=>[]) 7 (fun k=>k≤s.size∧ ∀i,i<k→128≤by_ s i) rfl rfl ⟨Nat.zero_le _,fun i hi=>by omega⟩ (fun R k hk hP hR=> ?_)
 obtain ⟨hks,hP⟩:=hP
 have KX:(7≤k∨s.size≤k)→K [I 0,I 0] []:=fun hc=>by
  have:rv s=(0,0):=Y6 7 1 fun m h1 h2 ⟨h3,h4⟩=>by
   obtain ⟨m,rfl⟩: ∃m',m=m'+1:=⟨m-1,by omega⟩
   rw [NU] at h4
   have:=hP m (by omega);omega
  rw [this] at h;exact h
 repeat' (first | exact KX (by omega) | refine mL (by omega) ?_ | refine BM ?_ | refine HV (by first | with_reducible assumption | omega) ?_ | refine ME (by first | with_reducible assumption | omega) ?_ | refine CL (by first | with_reducible assumption | omega) rfl ?_ | refine CJ (by first | with_reducible assumption | omega) rfl ?_ | refine BT ?_ | refine AW ?_ | refine DX ?_ | refine AT (fun _=> ?_) (fun _=> ?_) | refine IQ (fun _=> ?_) (fun _=> ?_) | simp only [AI,AL,AH,AJ,AM,AE,AG,AR,AP,AN,AQ,AO,AS,AK,BD,BF,BI,BJ,BH,BG,BE,A1,AZ,AY,AX,A4,A5])
 have hb:=gU s k
 have hv:=gR s (k:=k) (by omega)
 have h7:(128:Nat)^k=2^(7*k):=by rw [Nat.pow_mul]
 have hle:(2:Nat)^(7*k)≤2^42:=Nat.pow_le_pow_right (by omega) (by omega)
 have hmul:by_ s k % 128*2^(7*k)≤127*2^42:=Nat.mul_le_mul (by omega) hle
 refine SO ⟨by omega,by omega⟩ (L7 (by omega) (by omega) (K4 ⟨by omega,by omega⟩ (sW (a:=by_ s k % 128) (m:=7*k) (by omega) (by omega) (by omega) (CW ⟨by omega,by omega⟩ ?_))))
 have e:(R6 s k:Int)+((by_ s k % 128*2^(7*k):Nat):Int)=(R6 s (k+1):Int):=by rw [qW,h7];omega
 rw [e]
 refine I4 (AT (fun hge=> ?_) fun hlt=> ?_)
 ·refine A6 (by omega) (hR (by omega) ⟨by omega,fun i hi=> ?_⟩)
  rcases Nat.lt_succ_iff_lt_or_eq.1 hi with h1 | rfl
  ·exact hP i h1
  ·omega
 ·have none': ∀m,1≤m→m<k+1→ ¬(m≤s.size∧UE s m=true):=fun m h1 h2 ⟨h3,h4⟩=>by
   obtain ⟨m,rfl⟩: ∃m',m=m'+1:=⟨m-1,by omega⟩
   rw [NU] at h4
   have:=hP m (by omega);omega
  repeat' (first | refine BM ?_ | refine CL (by first | with_reducible assumption | omega) rfl ?_ | refine CJ (by first | with_reducible assumption | omega) rfl ?_ | refine BT ?_ | refine AW ?_ | refine BL ?_ | refine A6 (by omega) ?_ | refine AT (fun _=> ?_) (fun _=> ?_) | refine IQ (fun _=> ?_) (fun _=> ?_))
  ·have:rv s=(0,0):=Y6 7 1 fun m h1 h2 hh=>by
    rcases Nat.lt_or_ge m (k+1) with h3 | h3
    ·exact none' m h1 h3 hh
    ·obtain ⟨m,rfl⟩: ∃m',m=m'+1:=⟨m-1,by omega⟩
     have h4:=(NU s m).1 hh.2
     rcases Nat.lt_or_ge k m with h5 | h5
     ·have:=h4.1 k h5;omega
     ·have:m=k:=by omega
      subst this
      omega
   rw [this] at h;exact h
  all_goals
   have:rv s=((R6 s (k+1):Int),((k+1:Nat):Int)):=eB ⟨by omega,(NU s k).2 ⟨hP,by omega,by omega⟩⟩ 7 1 (by omega) (by omega) none'
   rw [this] at h;exact h
attribute [irreducible] rv rvF UE R6 bys dr
end Go.Proofs.YtnhicpkhkaihoaaGreat.P
